import Derived.Test.YtmkpjiahkepigaaGreatP05
/- The walks of the reference's Follows, Whole. -/
namespace Go.Proofs.YtmkpjiahkepigaaGreat
open Go Go.RowKit
theorem fol2_length (n : Node) : (fol2 n).length ≤ 2 := by
  unfold fol2
  split
  · simp
  · split <;> simp
set_option maxHeartbeats 400000 in
theorem follows2_calls (n : Node) (w : World) :
    Calls Tryz.prog 87 #[.agg n.cells.toArray] w fun e w' => ∃ v, e = .returned v ∧ Ints (part w' w.heap.size w'.heap.size) v (fol2 n) ∧ Below w.heap.size w w' := by
  unfold Node.cells
  by_cases h1 : n.kind = 9
  · have hd : (n.kind == 9) = true := by simp [h1]
    go_enter Tryz.func87, Tryz.ntmps87
    go_wp2
    go_ret
    refine ⟨_, rfl, ?_, Below_alloc _ _⟩
    simp [fol2, h1]; exact Ints_nil _
  · have hd : (n.kind == 9) = false := by simp [h1]
    by_cases h2 : n.kind = 8
    · have hd : (n.kind == 8) = true := by simp [h2]
      go_enter Tryz.func87, Tryz.ntmps87
      go_wp2
      go_ret
      refine ⟨.slice (some ⟨w.heap.size + 1, 0, none⟩) 2 2, rfl, ?_, (Below_alloc _ _).alloc (by simp) _⟩
      rw [show fol2 n = [n.next, n.els] by simp [fol2, h2]]
      exact Ints_lit _ _ (by simp) _ _ (by rfl) _ _ (by rfl) (by simp) _ (by simp)
    · have hd : (n.kind == 8) = false := by simp [h2]
      go_enter Tryz.func87, Tryz.ntmps87
      go_wp2
      go_ret
      refine ⟨.slice (some ⟨w.heap.size + 1, 0, none⟩) 1 1, rfl, ?_, (Below_alloc _ _).alloc (by simp) _⟩
      rw [show fol2 n = [n.next] by simp [fol2, h1, h2]]
      exact Ints_lit _ _ (by simp) _ _ (by rfl) _ _ (by rfl) (by simp) _ (by simp)
end Go.Proofs.YtmkpjiahkepigaaGreat
/- The walk of the reference's without, and of its Reached. -/
namespace Go.Proofs.YtmkpjiahkepigaaGreat
open Go Go.RowKit
end Go.Proofs.YtmkpjiahkepigaaGreat
/- The reference's same; what memory holds while the reference reckons the locks. -/
namespace Go.Proofs.YtmkpjiahkepigaaGreat
open Go Go.RowKit
set_option maxHeartbeats 400000 in
theorem same_calls (v1 v2 : Value) (l1 l2 : List Int) (w : World) (h1 : Ints (cmap w) v1 l1) (h2 : Ints (cmap w) v2 l2) :
    Calls Tryz.prog 88 #[v1, v2] w fun e w' => e = .returned (.bool (decide (l1 = l2))) ∧ ∃ n, w' = w.drewN n := by
  have h1' := h1
  have h2' := h2
  obtain ⟨A1, c1, rfl, -, -, -⟩ := h1'
  obtain ⟨A2, c2, rfl, -, -, -⟩ := h2'
  have b1 := h1.len.2.2
  have b2 := h2.len.2.2
  by_cases hl : l1.length = l2.length
  · have hb : ((l1.length : Int) != (l2.length : Int)) = false := by simp [hl]
    have HL := Lib.hid hl; clear hl
    go_enter Tryz.func88, Tryz.ntmps88
    go_wp2
    go_loopw [5] (fun v wr => ∃ (k n : Nat), v = .int .i64 k ∧ k ≤ l1.length ∧ wr = w.drewN n ∧ l1.take k = l2.take k) (fun v _ => l1.length - (intOf v).toNat)
    case atStart => exact ⟨0, 0, rfl, by omega, rfl, rfl⟩
    case round =>
      obtain ⟨k, n, rfl, hk, rfl, ht⟩ := hrel
      have HT := Lib.hid ht; clear ht
      by_cases hlt : k < l1.length
      · have hlt2 : k < l2.length := by rw [← HL.out]; exact hlt
        obtain ⟨x1, hx1⟩ : ∃ x, l1[k]? = some x := ⟨_, List.getElem?_eq_getElem hlt⟩
        obtain ⟨x2, hx2⟩ : ∃ x, l2[k]? = some x := ⟨_, List.getElem?_eq_getElem hlt2⟩
        obtain ⟨bb1, o1, rfl, g1⟩ := h1.at_ hx1
        obtain ⟨bb2, o2, rfl, g2⟩ := h2.at_ hx2
        rw [Nat.mul_one] at g1 g2
        have g1' : w.cell? ⟨bb1, o1 + k, none⟩ = some (.int .i64 x1) := g1
        have g2' : w.cell? ⟨bb2, o2 + k, none⟩ = some (.int .i64 x2) := g2
        have hk0 : (0 : Int) ≤ k := by omega
        have hki : (k : Int) < l1.length := by omega
        have hki2 : (k : Int) < l2.length := by omega
        clear g1 g2
        have HX1 := Lib.hid hx1; clear hx1
        have HX2 := Lib.hid hx2; clear hx2
        by_cases he : x1 = x2
        · have hne : (x1 != x2) = false := by simp [he]
          have HE := Lib.hid he; clear he
          go_wp2
          go_quiet (fail)
          go_wp2
          go_roundw
          case rel => exact ⟨k + 1, _, by go_num, by omega, rfl, by rw [List.take_succ_eq_append_getElem hlt, List.take_succ_eq_append_getElem hlt2, HT.out, (List.getElem?_eq_some_iff.1 HX1.out).2, (List.getElem?_eq_some_iff.1 HX2.out).2, HE.out]⟩
          case measure => simp [intOf]; omega
        · have hne : (x1 != x2) = true := by simp [he]
          have hd : l1 ≠ l2 := fun h => he (by have := HX1.out; rw [h, HX2.out] at this; injection this with this; exact this.symm)
          have HD : Hid (decide (l1 = l2) = false) := decide_eq_false hd
          clear hd
          have HE := Lib.hid he; clear he
          go_wp2
          go_quiet (fail)
          go_wp2
          go_ret
          exact ⟨by rw [HD.out]; rfl, _, World.drewN_drewN _ _ _⟩
      · have hd : l1 = l2 := by
          have := HT.out
          rwa [List.take_of_length_le (by omega), List.take_of_length_le (by rw [← HL.out]; omega)] at this
        have HD : Hid (decide (l1 = l2) = true) := decide_eq_true hd
        clear hd
        go_wp2
        go_ret
        exact ⟨by rw [HD.out]; rfl, _, rfl⟩
  · have hb : ((l1.length : Int) != (l2.length : Int)) = true := by simp; omega
    have hd : l1 ≠ l2 := fun h => hl (by rw [h])
    have HD : Hid (decide (l1 = l2) = false) := decide_eq_false hd
    clear hd
    go_enter Tryz.func88, Tryz.ntmps88
    go_wp2
    go_ret
    exact ⟨by rw [HD.out]; rfl, 0, rfl⟩
/-- B: the first block of the call's own: the graph's box, the locks' row, the row of what was found. -/
structure HMem2 (gt it : TypeId) (cg : List Value) (w : World) (n : Nat) (s : HS) (S : Nat → Prop) (cs : List Value) (v6 : Value) (wr : World) : Prop where
  own : wr.ownsRow w.heap.size 3 1 v6 s.todo.length (ints (nats s.todo))
  box : Blk wr w.heap.size gt cg
  lk : Blk wr (w.heap.size + 1) it cs
  len : cs.length = n
  lists : ∀ (i : Nat) (v : Value), cs[i]? = some v → ∃ l, s.locks[i]? = some l ∧ Ints (on wr S) v l
  sep : ∀ b, S b → w.heap.size + 2 < b ∧ b < wr.heap.size ∧ some b ≠ v6.ownBlock
  fd : Blk wr (w.heap.size + 1 + 1) 4 (bools s.found)
  below : Below w.heap.size w wr
section
variable {gt it : TypeId} {cg : List Value} {w : World} {n : Nat} {s : HS} {S : Nat → Prop} {cs : List Value} {v6 : Value} {wr wx : World}
theorem HMem2.on_le (h : HMem2 gt it cg w n s S cs v6 wr) (hb : Below wr.heap.size wr wx) : (on wr S).le (on wx S) :=
  on_keep (fun b hS _ => hb.block b (h.sep b hS).2.1) (fun _ h => h)
theorem HMem2.keep (h : HMem2 gt it cg w n s S cs v6 wr) (hb : Below wr.heap.size wr wx) : HMem2 gt it cg w n s S cs v6 wx where
  own := h.own.kept (row := none) ⟨hb.os, hb.tape, hb.output, hb.size, fun k hk _ => hb.block k hk⟩ (by
    cases hv : v6.ownBlock with
    | none => exact .inl rfl
    | some x => exact .inr (by simp))
  box := h.box.below hb h.box.lt
  lk := h.lk.below hb h.lk.lt
  len := h.len
  lists := fun i v hv => by obtain ⟨l, h1, h2⟩ := h.lists i v hv; exact ⟨l, h1, h2.mono (h.on_le hb)⟩
  sep := fun b hS => ⟨(h.sep b hS).1, Nat.lt_of_lt_of_le (h.sep b hS).2.1 hb.size, (h.sep b hS).2.2⟩
  fd := h.fd.below hb h.fd.lt
  below := h.below.trans (hb.mono h.below.size)
/-- More blocks may be read. -/
theorem HMem2.more (h : HMem2 gt it cg w n s S cs v6 wr) {S' : Nat → Prop} (hS : ∀ b, S b → S' b) (hs : ∀ b, S' b → w.heap.size + 2 < b ∧ b < wr.heap.size ∧ some b ≠ v6.ownBlock) : HMem2 gt it cg w n s S' cs v6 wr :=
  { h with
    lists := fun i v hv => by
      obtain ⟨l, h1, h2⟩ := h.lists i v hv
      exact ⟨l, h1, h2.mono (on_keep (fun _ _ _ => rfl) hS)⟩
    sep := hs }
theorem HMem2.push (h : HMem2 gt it cg w n s S cs v6 wr) (hit : 3 ≠ it) (hgt : 3 ≠ gt) (hbt : 3 ≠ 4) {d : Nat} (hd : d < n) (hlk : s.locks.length = n) {now : List Int} {w5 : World} {v v' : Value} {o : Obj}
    (hv : Ints (on wr S) v now)
    (h5 : w5.ownsRow w.heap.size 3 1 v' (s.todo.length + 1) (ints (nats s.todo) ++ [.int .i64 (d : Int)])) (g5 : (((wr.setCell ⟨w.heap.size + 1 + 1, d, none⟩ (.bool true)).setCell ⟨w.heap.size + 1, d, none⟩ v).alloc o).grownBy w5 v6.ownBlock)
    (ob : v'.ownBlock = v6.ownBlock ∨ v'.ownBlock = some (((wr.setCell ⟨w.heap.size + 1 + 1, d, none⟩ (.bool true)).setCell ⟨w.heap.size + 1, d, none⟩ v).alloc o).heap.size) :
    HMem2 gt it cg w n ⟨s.locks.set d now, s.found.set d true, s.todo ++ [d]⟩ S (cs.set d v) v' w5 ∧ (on wr S).le (on w5 S) := by
  have s5 := g5.size
  have sz4 : (((wr.setCell ⟨w.heap.size + 1 + 1, d, none⟩ (.bool true)).setCell ⟨w.heap.size + 1, d, none⟩ v).alloc o).heap.size = wr.heap.size + 1 := by simp
  rw [sz4] at s5 ob
  have hbx := h.box.lt
  have hlb := h.lk.lt
  have hmb := h.fd.lt
  have chain : ∀ b, b < wr.heap.size → b ≠ w.heap.size + 1 → b ≠ w.heap.size + 1 + 1 → some b ≠ v6.ownBlock → w5.heap[b]? = wr.heap[b]? := by
    intro b hb h1 h2 h3
    rw [g5.block b (by omega) h3, Below.heap_alloc _ _ _ (by simp; omega), Below.heap_setCell _ _ _ _ h1, Below.heap_setCell _ _ _ _ h2]
  have h6 : ∀ b, v6.ownBlock = some b → w.heap.size ≤ b ∧ b < wr.heap.size := fun b hb => h.own.lt b hb
  have hle : (on wr S).le (on w5 S) :=
    on_keep (fun b hS hb => chain b hb (by have := h.sep b hS; omega) (by have := h.sep b hS; omega) (h.sep b hS).2.2) (fun b hS => hS)
  refine ⟨{ own := ?_, box := ?_, lk := ?_, len := by simpa using h.len, lists := ?_, sep := ?_, fd := ?_, below := ?_ }, hle⟩
  · simpa [nats, ints] using h5
  · unfold Blk
    rw [chain _ hbx (by omega) (by omega) (own_blk h.own h.box hgt)]
    exact h.box
  · exact (((h.lk.far (p := ⟨w.heap.size + 1 + 1, d, none⟩) (by simp) _).set_ d v).alloc o).grown g5 (own_blk h.own h.lk hit)
  · intro i u hu
    rw [List.getElem?_set] at hu
    split at hu
    · rename_i e
      subst e
      rw [h.len, if_pos hd] at hu
      injection hu with hu
      subst hu
      exact ⟨now, by rw [List.getElem?_set, if_pos rfl, hlk, if_pos hd], hv.mono hle⟩
    · rename_i e
      obtain ⟨l, h3, h4⟩ := h.lists i u hu
      exact ⟨l, by rw [List.getElem?_set, if_neg e]; exact h3, h4.mono hle⟩
  · intro b hb
    have := h.sep b hb
    refine ⟨this.1, by omega, ?_⟩
    rcases ob with e | e
    · rw [e]; exact this.2.2
    · rw [e]; intro e2; injection e2 with e2; omega
  · have k1 := (((h.fd.set_ d (.bool true)).far (p := ⟨w.heap.size + 1, d, none⟩) (by simp) v).alloc o).grown g5 (own_blk h.own h.fd hbt)
    have : (bools s.found).set d (.bool true) = bools (s.found.set d true) := by simp [bools, List.map_set]
    rwa [this] at k1
  · exact (((h.below.setCell (by simp; omega) _).setCell (by simp) v).alloc (by simp; omega) o).grown g5 (by simp; omega) (fun k hk => (h6 k hk).1)
end
end Go.Proofs.YtmkpjiahkepigaaGreat
