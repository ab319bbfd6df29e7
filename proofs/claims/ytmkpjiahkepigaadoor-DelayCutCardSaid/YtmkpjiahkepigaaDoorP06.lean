import Derived.Test.YtmkpjiahkepigaaDoorP05
/- The walks of the reference's Follows, Whole. -/
namespace Go.Proofs.YtmkpjiahkepigaaDoor
open Go Go.RowKit
theorem fol2_length (n : Node) : (fol2 n).length ≤ 2 := by
  unfold fol2
  split
  · simp
  · split <;> simp
end Go.Proofs.YtmkpjiahkepigaaDoor
/- The walk of the reference's without, and of its Reached. -/
namespace Go.Proofs.YtmkpjiahkepigaaDoor
open Go Go.RowKit
end Go.Proofs.YtmkpjiahkepigaaDoor
/- The reference's same; what memory holds while the reference reckons the locks. -/
namespace Go.Proofs.YtmkpjiahkepigaaDoor
open Go Go.RowKit
/-- B: the first block of the call's own: the graph's box, the locks' row, the row of what was found. -/
structure HMem2 (gt it : TypeId) (cg : List Value) (w : World) (n : Nat) (s : HS) (S : Nat → Prop) (cs : List Value) (v6 : Value) (wr : World) : Prop where
  own : wr.ownsRow w.heap.size 3 1 v6 s.todo.length (ints (nats s.todo))
  box : Blk wr w.heap.size gt cg
  lk : Blk wr (w.heap.size + 1) it cs
  len : cs.length = n
  lists : ∀ (i : Nat) (v : Value), cs[i]? = some v → ∃ l, s.locks[i]? = some l ∧ Ints (on wr S) v l
  sep : ∀ b, S b → w.heap.size + 2 < b ∧ b < wr.heap.size ∧ some b ≠ v6.ownBlock
  fd : Blk wr (w.heap.size + 1 + 1) 4 (bools s.found)
  below : Below w.heap.size w wr
section
variable {gt it : TypeId} {cg : List Value} {w : World} {n : Nat} {s : HS} {S : Nat → Prop} {cs : List Value} {v6 : Value} {wr wx : World}
theorem HMem2.on_le (h : HMem2 gt it cg w n s S cs v6 wr) (hb : Below wr.heap.size wr wx) : (on wr S).le (on wx S) :=
  on_keep (fun b hS _ => hb.block b (h.sep b hS).2.1) (fun _ h => h)
theorem HMem2.keep (h : HMem2 gt it cg w n s S cs v6 wr) (hb : Below wr.heap.size wr wx) : HMem2 gt it cg w n s S cs v6 wx where
  own := h.own.kept (row := none) ⟨hb.os, hb.tape, hb.output, hb.size, fun k hk _ => hb.block k hk⟩ (by
    cases hv : v6.ownBlock with
    | none => exact .inl rfl
    | some x => exact .inr (by simp))
  box := h.box.below hb h.box.lt
  lk := h.lk.below hb h.lk.lt
  len := h.len
  lists := fun i v hv => by obtain ⟨l, h1, h2⟩ := h.lists i v hv; exact ⟨l, h1, h2.mono (h.on_le hb)⟩
  sep := fun b hS => ⟨(h.sep b hS).1, Nat.lt_of_lt_of_le (h.sep b hS).2.1 hb.size, (h.sep b hS).2.2⟩
  fd := h.fd.below hb h.fd.lt
  below := h.below.trans (hb.mono h.below.size)
/-- More blocks may be read. -/
theorem HMem2.more (h : HMem2 gt it cg w n s S cs v6 wr) {S' : Nat → Prop} (hS : ∀ b, S b → S' b) (hs : ∀ b, S' b → w.heap.size + 2 < b ∧ b < wr.heap.size ∧ some b ≠ v6.ownBlock) : HMem2 gt it cg w n s S' cs v6 wr :=
  { h with
    lists := fun i v hv => by
      obtain ⟨l, h1, h2⟩ := h.lists i v hv
      exact ⟨l, h1, h2.mono (on_keep (fun _ _ _ => rfl) hS)⟩
    sep := hs }
theorem HMem2.push (h : HMem2 gt it cg w n s S cs v6 wr) (hit : 3 ≠ it) (hgt : 3 ≠ gt) (hbt : 3 ≠ 4) {d : Nat} (hd : d < n) (hlk : s.locks.length = n) {now : List Int} {w5 : World} {v v' : Value} {o : Obj}
    (hv : Ints (on wr S) v now)
    (h5 : w5.ownsRow w.heap.size 3 1 v' (s.todo.length + 1) (ints (nats s.todo) ++ [.int .i64 (d : Int)])) (g5 : (((wr.setCell ⟨w.heap.size + 1 + 1, d, none⟩ (.bool true)).setCell ⟨w.heap.size + 1, d, none⟩ v).alloc o).grownBy w5 v6.ownBlock)
    (ob : v'.ownBlock = v6.ownBlock ∨ v'.ownBlock = some (((wr.setCell ⟨w.heap.size + 1 + 1, d, none⟩ (.bool true)).setCell ⟨w.heap.size + 1, d, none⟩ v).alloc o).heap.size) :
    HMem2 gt it cg w n ⟨s.locks.set d now, s.found.set d true, s.todo ++ [d]⟩ S (cs.set d v) v' w5 ∧ (on wr S).le (on w5 S) := by
  have s5 := g5.size
  have sz4 : (((wr.setCell ⟨w.heap.size + 1 + 1, d, none⟩ (.bool true)).setCell ⟨w.heap.size + 1, d, none⟩ v).alloc o).heap.size = wr.heap.size + 1 := by simp
  rw [sz4] at s5 ob
  have hbx := h.box.lt
  have hlb := h.lk.lt
  have hmb := h.fd.lt
  have chain : ∀ b, b < wr.heap.size → b ≠ w.heap.size + 1 → b ≠ w.heap.size + 1 + 1 → some b ≠ v6.ownBlock → w5.heap[b]? = wr.heap[b]? := by
    intro b hb h1 h2 h3
    rw [g5.block b (by omega) h3, Below.heap_alloc _ _ _ (by simp; omega), Below.heap_setCell _ _ _ _ h1, Below.heap_setCell _ _ _ _ h2]
  have h6 : ∀ b, v6.ownBlock = some b → w.heap.size ≤ b ∧ b < wr.heap.size := fun b hb => h.own.lt b hb
  have hle : (on wr S).le (on w5 S) :=
    on_keep (fun b hS hb => chain b hb (by have := h.sep b hS; omega) (by have := h.sep b hS; omega) (h.sep b hS).2.2) (fun b hS => hS)
  refine ⟨{ own := ?_, box := ?_, lk := ?_, len := by simpa using h.len, lists := ?_, sep := ?_, fd := ?_, below := ?_ }, hle⟩
  · simpa [nats, ints] using h5
  · unfold Blk
    rw [chain _ hbx (by omega) (by omega) (own_blk h.own h.box hgt)]
    exact h.box
  · exact (((h.lk.far (p := ⟨w.heap.size + 1 + 1, d, none⟩) (by simp) _).set_ d v).alloc o).grown g5 (own_blk h.own h.lk hit)
  · intro i u hu
    rw [List.getElem?_set] at hu
    split at hu
    · rename_i e
      subst e
      rw [h.len, if_pos hd] at hu
      injection hu with hu
      subst hu
      exact ⟨now, by rw [List.getElem?_set, if_pos rfl, hlk, if_pos hd], hv.mono hle⟩
    · rename_i e
      obtain ⟨l, h3, h4⟩ := h.lists i u hu
      exact ⟨l, by rw [List.getElem?_set, if_neg e]; exact h3, h4.mono hle⟩
  · intro b hb
    have := h.sep b hb
    refine ⟨this.1, by omega, ?_⟩
    rcases ob with e | e
    · rw [e]; exact this.2.2
    · rw [e]; intro e2; injection e2 with e2; omega
  · have k1 := (((h.fd.set_ d (.bool true)).far (p := ⟨w.heap.size + 1, d, none⟩) (by simp) v).alloc o).grown g5 (own_blk h.own h.fd hbt)
    have : (bools s.found).set d (.bool true) = bools (s.found.set d true) := by simp [bools, List.map_set]
    rwa [this] at k1
  · exact (((h.below.setCell (by simp; omega) _).setCell (by simp) v).alloc (by simp; omega) o).grown g5 (by simp; omega) (fun k hk => (h6 k hk).1)
end
end Go.Proofs.YtmkpjiahkepigaaDoor
