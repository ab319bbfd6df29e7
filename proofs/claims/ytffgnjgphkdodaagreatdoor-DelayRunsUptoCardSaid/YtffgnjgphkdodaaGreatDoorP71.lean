import Derived.Test.YtffgnjgphkdodaaGreatDoorP70
import Derived.Test.YtffgnjgphkdodaaGreatDoorP21
/- A source machine that is being made: what its parts take, and what becomes of them. -/
namespace Go.Proofs.YtffgnjgphkdodaaGreatDoor
open Go Go.RowKit
/-- An element of the outer row: a thread's slots. -/
def slotV (x : Nat × Nat) : List Value := [.slice (some ⟨x.1, 0, none⟩) x.2 x.2]
/-- A row reads as a list, within whatever blocks. -/
theorem Acc.done_on {α : Type} {RV : CM → List Value → α → Prop} [hM : MonoV RV] {size : Nat} {e : TypeId} {base : Nat} {S R : Nat → Prop} {v : Value} {xs : List α} {wr : World} (h : Acc RV size e base S v xs wr) (hS : ∀ b, S b → R b) (hv : ∀ b, v.ownBlock = some b → R b) : Sl (Cells RV) size (on wr R) v xs := by
  obtain ⟨rows, h1, h2, h3, h4⟩ := h.ex
  rcases h1.2 with ⟨rfl, h0⟩ | ⟨g, cap, cur, rfl, hb, hh, hnc, hcm, _⟩
  · exact ⟨none, 0, by rw [h0], by omega, ⟨by simp [maxLen], fun _ => rfl⟩, .inl (List.eq_nil_of_length_eq_zero h0)⟩
  · refine ⟨_, cap, rfl, hnc, ⟨hcm, fun h => by cases h⟩, .inr ⟨g, 0, rfl, fun i x hx => ?_⟩⟩
    have hi' : i < rows.length := by rw [h2]; exact (List.getElem?_eq_some_iff.1 hx).1
    have hr : rows[i]? = some rows[i] := List.getElem?_eq_getElem hi'
    have hrl := h3 _ (List.mem_of_getElem? hr)
    refine ⟨rows[i], hM.mono (on_keep (fun _ _ _ => rfl) hS) (h4 i _ x hr hx), fun j u hu => ?_⟩
    have hj := (List.getElem?_eq_some_iff.1 hu).1
    have hle : i * size + j < xs.length * size := by
      have : (i + 1) * size ≤ xs.length * size := Nat.mul_le_mul_right _ (by omega)
      rw [Nat.succ_mul] at this
      omega
    refine on_mk ?_ (hv g rfl)
    rw [Nat.zero_add, h1.cellAt _ hle]
    exact flatten_at rows size i _ h3 hr j u hu
theorem own_baseM {w : World} {b b' : Nat} {t : TypeId} {s n : Nat} {v : Value} {xs : List Value} (h : w.ownsRow b t s v n xs) (hb : b' ≤ b) : w.ownsRow b' t s v n xs := by
  refine ⟨h.1, ?_⟩
  rcases h.2 with k | ⟨g, cap, cur, rfl, k2, k3⟩
  · exact .inl k
  · exact .inr ⟨g, cap, cur, rfl, Nat.le_trans hb k2, k3⟩
/-- The parts, but for the machine's own block. -/
structure NewB (w wc : World) (g : Nat) (L : Lay) (S : Nat → Prop) (su lu gu : Value) (sh lk : List Decl) (gs : List Graph) (m : Mach) : Prop where
  bel : Below w.heap.size w wc
  box : Blk wc w.heap.size 25 [su, lu, gu]
  ge : w.heap.size < g
  sh : Decls (on wc S) L.sv sh
  lk : Decls (on wc S) L.lv lk
  gr : Acc GraphV 4 69 (w.heap.size + 1) S L.gv gs wc
  ov : Acc (fun _ cs x => cs = slotV x) 1 112 (w.heap.size + 1) (fun _ => False) L.ov (L.gl.zip (m.slots.map List.length)) wc
  at_ : wc.ownsRow (w.heap.size + 1) 3 1 L.av m.at_.length (natsV m.at_)
  hold : wc.ownsRow (w.heap.size + 1) 3 1 L.hv m.holders.length (i64sV m.holders)
  mem : wc.ownsRow (w.heap.size + 1) 2 1 L.mv m.mem.length (i64sV m.mem)
  pv : L.pv = .slice none 0 0
  pr : m.prints = []
  gll : L.gl.length = m.slots.length
  slot : ∀ (t k : Nat) (l : List Int), L.gl[t]? = some k → m.slots[t]? = some l → Blk wc k 2 (i64sV l)
  glge : ∀ b ∈ L.gl, w.heap.size < b
  nodup : L.gl.Nodup
  memgl : ∀ b, L.mv.ownBlock = some b → b ∉ L.gl
  athold : ∀ b, L.av.ownBlock = some b → L.hv.ownBlock ≠ some b
  sep : ∀ b, S b → w.heap.size < b ∧ b < wc.heap.size ∧ b ≠ g ∧ L.av.ownBlock ≠ some b ∧ L.hv.ownBlock ≠ some b ∧ L.mv.ownBlock ≠ some b ∧ L.ov.ownBlock ≠ some b ∧ b ∉ L.gl
section
variable {w wc w1 wx x0 x1 : World} {g : Nat} {L : Lay} {S T : Nat → Prop} {su lu gu : Value} {sh lk : List Decl} {gs : List Graph} {m : Mach}
theorem FrW.grow (h : FrW T wc wx) (B : Nat) (hB : B ≤ wc.heap.size) (hT : ∀ b, T b → B ≤ b) : Below B wc wx := ⟨h.os, h.tape, h.output, h.size, fun k hk => h.block k (by omega) fun e => by have := hT k e; omega⟩
theorem Acc.fr {α : Type} {RV : CM → List Value → α → Prop} [MonoV RV] {size : Nat} {e : TypeId} {base : Nat} {S : Nat → Prop} {v : Value} {xs : List α} (h : Acc RV size e base S v xs wc) (hf : FrW T wc wx) (hv : ∀ b, v.ownBlock = some b → ¬ T b) (hS : ∀ b, S b → ¬ T b) : Acc RV size e base S v xs wx := by
  obtain ⟨rows, h1, h2, h3, h4⟩ := h.ex
  refine ⟨⟨rows, ownsRow_fr h1 hf hv, h2, h3, fun i r x hr hx => MonoV.mono (hf.on hS) (h4 i r x hr hx)⟩, fun b hb => ?_⟩
  have := h.sep b hb
  exact ⟨this.1, Nat.lt_of_lt_of_le this.2.1 hf.size, this.2.2⟩
theorem NewB.glb (h : NewB w wc g L S su lu gu sh lk gs m) {k : Nat} (hk : k ∈ L.gl) : ∃ cur, wc.heap[k]? = some (.cells cur 2 (0, 0)) := by
  obtain ⟨t, ht⟩ := List.getElem?_of_mem hk
  have hl : t < m.slots.length := by rw [← h.gll]; exact (List.getElem?_eq_some_iff.1 ht).1
  exact ⟨_, h.slot t k _ ht (List.getElem?_eq_getElem hl)⟩
theorem acc_ne {α : Type} {RV : CM → List Value → α → Prop} {size : Nat} {e t : TypeId} {base : Nat} {S : Nat → Prop} {v : Value} {xs : List α} {k : Nat} {cur : Array Value} (h : Acc RV size e base S v xs wc) (hk : wc.heap[k]? = some (.cells cur t (0, 0))) (hne : e ≠ t) : v.ownBlock ≠ some k := by
  obtain ⟨ys, h1⟩ := h.own
  exact own_ne h1 hk hne
theorem acc_in {α : Type} {RV : CM → List Value → α → Prop} {size : Nat} {e : TypeId} {base : Nat} {S : Nat → Prop} {v : Value} {xs : List α} {k : Nat} (h : Acc RV size e base S v xs wc) (hk : v.ownBlock = some k) : ∃ cur, wc.heap[k]? = some (.cells cur e (0, 0)) := by
  obtain ⟨ys, h1⟩ := h.own
  exact own_in h1 hk
/-- What is written is none of the parts. -/
theorem NewB.fr (h : NewB w wc g L S su lu gu sh lk gs m) (hf : FrW T wc wx) (h0 : ∀ b, T b → w.heap.size < b) (hS : ∀ b, S b → ¬ T b) (hgv : ∀ b, L.gv.ownBlock = some b → ¬ T b) (hov : ∀ b, L.ov.ownBlock = some b → ¬ T b) (hav : ∀ b, L.av.ownBlock = some b → ¬ T b) (hhv : ∀ b, L.hv.ownBlock = some b → ¬ T b) (hmv : ∀ b, L.mv.ownBlock = some b → ¬ T b) (hgl : ∀ b, b ∈ L.gl → ¬ T b) :
    NewB w wx g L S su lu gu sh lk gs m where
  bel := h.bel.trans (hf.grow w.heap.size h.bel.size fun b hb => Nat.le_of_lt (h0 b hb))
  box := h.box.fr hf fun e => by have := h0 _ e; omega
  ge := h.ge
  sh := h.sh.mono (hf.on hS)
  lk := h.lk.mono (hf.on hS)
  gr := h.gr.fr hf hgv hS
  ov := h.ov.fr hf hov (fun _ e => e.elim)
  at_ := ownsRow_fr h.at_ hf hav
  hold := ownsRow_fr h.hold hf hhv
  mem := ownsRow_fr h.mem hf hmv
  pv := h.pv
  pr := h.pr
  gll := h.gll
  slot := fun t k l k1 k2 => (h.slot t k l k1 k2).fr hf (hgl k (List.mem_of_getElem? k1))
  glge := h.glge
  nodup := h.nodup
  memgl := h.memgl
  athold := h.athold
  sep := fun b hb => by have := h.sep b hb; exact ⟨this.1, Nat.lt_of_lt_of_le this.2.1 hf.size, this.2.2⟩
theorem NewB.below (h : NewB w wc g L S su lu gu sh lk gs m) (hb : Below wc.heap.size wc wx) : NewB w wx g L S su lu gu sh lk gs m :=
  h.fr (FrW.of_below (fun _ => False) hb) (fun _ e => e.elim) (fun _ _ => id) (fun _ _ => id) (fun _ _ => id) (fun _ _ => id) (fun _ _ => id) (fun _ _ => id) (fun _ _ => id)
/-- A block of its own that came later than all parts. -/
theorem NewB.later (h : NewB w wc g L S su lu gu sh lk gs m) (hf : FrW (fun q => q = wc.heap.size) wc w1) (_hb : wc.heap.size < w1.heap.size → True) : NewB w w1 g L S su lu gu sh lk gs m := by
  have lt : ∀ b, b < wc.heap.size → ¬ (b = wc.heap.size) := fun b hb e => by omega
  refine h.fr hf (fun b e => by have := h.box.lt; omega) (fun b hb => lt b (h.sep b hb).2.1) (fun b hb => lt b (h.gr.lt b hb).2) (fun b hb => lt b (h.ov.lt b hb).2) (fun b hb => lt b (h.at_.lt b hb).2) (fun b hb => lt b (h.hold.lt b hb).2) (fun b hb => lt b (h.mem.lt b hb).2) (fun b hb => ?_)
  obtain ⟨_, hh⟩ := h.glb hb
  exact lt b (lt_of_block hh)
/-- A cell of the machine's own block is written. -/
theorem NewB.setG {csg : List Value} (h : NewB w wc g L S su lu gu sh lk gs m) (hb : Blk wc g 115 csg) (c : Nat) (v : Value) : NewB w (wc.setCell ⟨g, c, none⟩ v) g L S su lu gu sh lk gs m :=
  h.fr (FrW.setCell (S := fun q => q = g) wc rfl v) (fun b e => by rw [e]; exact h.ge) (fun b hb => (h.sep b hb).2.2.1) (fun b k e => acc_ne h.gr hb (by decide) (by rw [k, e])) (fun b k e => acc_ne h.ov hb (by decide) (by rw [k, e])) (fun b k e => own_ne h.at_ hb (by decide) (by rw [k, e]))
    (fun b k e => own_ne h.hold hb (by decide) (by rw [k, e])) (fun b k e => own_ne h.mem hb (by decide) (by rw [k, e])) (fun b k e => by obtain ⟨_, hh⟩ := h.glb k; subst e; exact row_types hh hb (by decide) rfl)
/-- What is new may be pointed to. -/
theorem NewB.ext (h : NewB w wc g L S su lu gu sh lk gs m) (hb : Blk wc g 115 L.cells) (hx : Below wc.heap.size wc w1) : NewB w w1 g L (fun b => S b ∨ (wc.heap.size ≤ b ∧ b < w1.heap.size)) su lu gu sh lk gs m := by
  have h' := h.below hx
  have hle : (on w1 S).le (on w1 fun b => S b ∨ (wc.heap.size ≤ b ∧ b < w1.heap.size)) := on_keep (fun _ _ _ => rfl) (fun _ e => .inl e)
  refine { h' with sh := h'.sh.mono hle, lk := h'.lk.mono hle, gr := ⟨?_, ?_⟩, sep := ?_ }
  · obtain ⟨rows, k1, k2, k3, k4⟩ := h'.gr.ex
    exact ⟨rows, k1, k2, k3, fun i r x hr hx => MonoV.mono hle (k4 i r x hr hx)⟩
  · intro b hb'
    rcases hb' with e | ⟨e1, e2⟩
    · exact h'.gr.sep b e
    · have := h.box.lt
      refine ⟨by omega, e2, fun k => ?_⟩
      have := (h.gr.lt b k.symm).2
      omega
  · intro b hb'
    rcases hb' with e | ⟨e1, e2⟩
    · exact h'.sep b e
    · have := h.box.lt
      refine ⟨by omega, e2, fun e => by have := hb.lt; omega, fun k => by have := (h.at_.lt b k).2; omega, fun k => by have := (h.hold.lt b k).2; omega, fun k => by have := (h.mem.lt b k).2; omega, fun k => by have := (h.ov.lt b k).2; omega, fun k => ?_⟩
      obtain ⟨_, hh⟩ := h.glb k
      have := lt_of_block hh
      omega
theorem NewB.setSv (h : NewB w wc g L S su lu gu sh lk gs m) (hb : Blk wc g 115 L.cells) {v : Value} {sh' : List Decl} (hs : Decls (on wc S) v sh') :
    NewB w (wc.setCell ⟨g, 0, none⟩ v) g { L with sv := v } S su lu gu sh' lk gs m ∧ Blk (wc.setCell ⟨g, 0, none⟩ v) g 115 ({ L with sv := v } : Lay).cells := by
  have h' := h.setG hb 0 v
  refine ⟨{ h' with sh := hs.mono ((FrW.setCell (S := fun q => q = g) wc rfl v).on fun b hb => (h.sep b hb).2.2.1) }, hb.set_ 0 v⟩
theorem NewB.setLv (h : NewB w wc g L S su lu gu sh lk gs m) (hb : Blk wc g 115 L.cells) {v : Value} {lk' : List Decl} (hs : Decls (on wc S) v lk') :
    NewB w (wc.setCell ⟨g, 1, none⟩ v) g { L with lv := v } S su lu gu sh lk' gs m ∧ Blk (wc.setCell ⟨g, 1, none⟩ v) g 115 ({ L with lv := v } : Lay).cells := by
  have h' := h.setG hb 1 v
  refine ⟨{ h' with lk := hs.mono ((FrW.setCell (S := fun q => q = g) wc rfl v).on fun b hb => (h.sep b hb).2.2.1) }, hb.set_ 1 v⟩
/-- Off the row that is appended to, all stays. -/
theorem NewB.pushG (h : NewB w wc g L S su lu gu sh lk gs m) (hb : Blk wc g 115 L.cells) {rows : List (List Value)} (hl : rows.length = gs.length) (hr : ∀ r ∈ rows, r.length = 4)
    (hx : ∀ (i : Nat) r x, rows[i]? = some r → gs[i]? = some x → GraphV (on wc S) r x) {r : List Value} (hrl : r.length = 4) {gx : Graph} {nb cap : Nat} (ha : Apd wc x0 x1 (w.heap.size + 1) 69 4 L.gv gs.length rows.flatten r nb cap) (hnew : GraphV (on wc S) r gx) :
    NewB w (x1.setCell ⟨g, 2, none⟩ (.slice (some ⟨nb, 0, none⟩) (gs.length + 1) cap)) g { L with gv := .slice (some ⟨nb, 0, none⟩) (gs.length + 1) cap } S su lu gu sh lk (gs ++ [gx]) m ∧
      Blk (x1.setCell ⟨g, 2, none⟩ (.slice (some ⟨nb, 0, none⟩) (gs.length + 1) cap)) g 115 ({ L with gv := .slice (some ⟨nb, 0, none⟩) (gs.length + 1) cap } : Lay).cells := by
  have hbx : Blk x1 g 115 L.cells := hb.fr ha.fr (acc_ne h.gr hb (by decide))
  refine ⟨?_, hbx.set_ 2 _⟩
  have ht : ∀ {k : Nat} {cur : Array Value} {t : TypeId}, wc.heap[k]? = some (.cells cur t (0, 0)) → 69 ≠ t → ¬ L.gv.ownBlock = some k := fun hk hne => acc_ne h.gr hk hne
  have hSv : ∀ b, S b → ¬ L.gv.ownBlock = some b := fun b hb e => (h.gr.sep b hb).2.2 e.symm
  have hfr := ha.fr
  have hacc := h.gr.keep ha.bel
  have hle0 : (on wc S).le (on x0 S) := (FrW.of_below (fun _ => False) ha.bel).on fun _ _ => id
  have hle1 : (on wc S).le (on x1 S) := hfr.on hSv
  have hat : ∀ b, L.av.ownBlock = some b → ¬ L.gv.ownBlock = some b := fun b k => by obtain ⟨_, hh⟩ := own_in h.at_ k; exact ht hh (by decide)
  have hho : ∀ b, L.hv.ownBlock = some b → ¬ L.gv.ownBlock = some b := fun b k => by obtain ⟨_, hh⟩ := own_in h.hold k; exact ht hh (by decide)
  have hme : ∀ b, L.mv.ownBlock = some b → ¬ L.gv.ownBlock = some b := fun b k => by obtain ⟨_, hh⟩ := own_in h.mem k; exact ht hh (by decide)
  have hoo : ∀ b, L.ov.ownBlock = some b → ¬ L.gv.ownBlock = some b := fun b k => by obtain ⟨_, hh⟩ := acc_in h.ov k; exact ht hh (by decide)
  have hgl : ∀ b, b ∈ L.gl → ¬ L.gv.ownBlock = some b := fun b k => by obtain ⟨_, hh⟩ := h.glb k; exact ht hh (by decide)
  have hpush := Acc.push hacc hl hr (fun i r x k1 k2 => MonoV.mono hle0 (hx i r x k1 k2)) hrl (x := gx) ha.own ha.gr (by rcases ha.at_ with e | e; exact .inl e.symm; exact .inr (congrArg some e)) (S' := S) (fun _ e => e) (fun b hb' => by have := hacc.sep b hb'; exact this) (MonoV.mono hle1 hnew)
  have hk : NewB w x1 g { L with gv := .slice (some ⟨nb, 0, none⟩) (gs.length + 1) cap } S su lu gu sh lk (gs ++ [gx]) m :=
    { bel := h.bel.trans (hfr.grow _ h.bel.size fun b hb => by have := (h.gr.lt b hb).1; omega)
      box := h.box.fr hfr fun e => by have := (h.gr.lt _ e).1; omega
      ge := h.ge, sh := h.sh.mono hle1, lk := h.lk.mono hle1, gr := hpush
      ov := h.ov.fr hfr hoo (fun _ e => e.elim), at_ := ownsRow_fr h.at_ hfr hat, hold := ownsRow_fr h.hold hfr hho, mem := ownsRow_fr h.mem hfr hme
      pv := h.pv, pr := h.pr, gll := h.gll, slot := fun t k l k1 k2 => (h.slot t k l k1 k2).fr hfr (hgl k (List.mem_of_getElem? k1)), glge := h.glge, nodup := h.nodup, memgl := h.memgl, athold := h.athold
      sep := fun b hb => by have := h.sep b hb; exact ⟨this.1, Nat.lt_of_lt_of_le this.2.1 hfr.size, this.2.2⟩ }
  exact hk.setG hbx 2 _
theorem NewB.pushO (h : NewB w wc g L S su lu gu sh lk gs m) (hb : Blk wc g 115 L.cells) {rows : List (List Value)} (hl : rows.length = (L.gl.zip (m.slots.map List.length)).length) (hr : ∀ r ∈ rows, r.length = 1)
    (hx : ∀ (i : Nat) r x, rows[i]? = some r → (L.gl.zip (m.slots.map List.length))[i]? = some x → r = slotV x) {kb len nb cap : Nat} {l : List Int} (hlen : l.length = len) (ha : Apd wc x0 x1 (w.heap.size + 1) 112 1 L.ov (L.gl.zip (m.slots.map List.length)).length rows.flatten (slotV (kb, len)) nb cap)
    (hkb : wc.heap.size ≤ kb) (hkB : Blk x0 kb 2 (i64sV l)) :
    NewB w (x1.setCell ⟨g, 4, none⟩ (.slice (some ⟨nb, 0, none⟩) ((L.gl.zip (m.slots.map List.length)).length + 1) cap)) g { L with ov := .slice (some ⟨nb, 0, none⟩) ((L.gl.zip (m.slots.map List.length)).length + 1) cap, gl := L.gl ++ [kb] } S su lu gu sh lk gs { m with slots := m.slots ++ [l] } ∧
      Blk (x1.setCell ⟨g, 4, none⟩ (.slice (some ⟨nb, 0, none⟩) ((L.gl.zip (m.slots.map List.length)).length + 1) cap)) g 115 ({ L with ov := .slice (some ⟨nb, 0, none⟩) ((L.gl.zip (m.slots.map List.length)).length + 1) cap, gl := L.gl ++ [kb] } : Lay).cells := by
  have hbx : Blk x1 g 115 L.cells := hb.fr ha.fr (acc_ne h.ov hb (by decide))
  refine ⟨?_, hbx.set_ 4 _⟩
  have ht : ∀ {k : Nat} {cur : Array Value} {t : TypeId}, wc.heap[k]? = some (.cells cur t (0, 0)) → 112 ≠ t → ¬ L.ov.ownBlock = some k := fun hk hne => acc_ne h.ov hk hne
  have hSv : ∀ b, S b → ¬ L.ov.ownBlock = some b := fun b hb e => (h.sep b hb).2.2.2.2.2.2.1 e
  have hfr := ha.fr
  have hacc := h.ov.keep ha.bel
  have hle1 : (on wc S).le (on x1 S) := hfr.on hSv
  have hat : ∀ b, L.av.ownBlock = some b → ¬ L.ov.ownBlock = some b := fun b k => by obtain ⟨_, hh⟩ := own_in h.at_ k; exact ht hh (by decide)
  have hho : ∀ b, L.hv.ownBlock = some b → ¬ L.ov.ownBlock = some b := fun b k => by obtain ⟨_, hh⟩ := own_in h.hold k; exact ht hh (by decide)
  have hme : ∀ b, L.mv.ownBlock = some b → ¬ L.ov.ownBlock = some b := fun b k => by obtain ⟨_, hh⟩ := own_in h.mem k; exact ht hh (by decide)
  have hgg : ∀ b, L.gv.ownBlock = some b → ¬ L.ov.ownBlock = some b := fun b k => by obtain ⟨_, hh⟩ := acc_in h.gr k; exact ht hh (by decide)
  have hgl : ∀ b, b ∈ L.gl → ¬ L.ov.ownBlock = some b := fun b k => by obtain ⟨_, hh⟩ := h.glb k; exact ht hh (by decide)
  have hglt : ∀ b, b ∈ L.gl → b < wc.heap.size := fun b k => by obtain ⟨_, hh⟩ := h.glb k; exact lt_of_block hh
  have hkn : ¬ L.ov.ownBlock = some kb := fun e => by have := (h.ov.lt kb e).2; omega
  have hkB1 : Blk x1 kb 2 (i64sV l) := hkB.grown ha.gr (fun e => hkn e.symm)
  have hpush := Acc.push hacc hl hr (fun i r x k1 k2 => hx i r x k1 k2) (r := slotV (kb, len)) rfl (x := (kb, len)) ha.own ha.gr (by rcases ha.at_ with e | e; exact .inl e.symm; exact .inr (congrArg some e)) (S' := fun _ => False) (fun _ e => e) (fun b hb' => hb'.elim) rfl
  have hz : (L.gl ++ [kb]).zip ((m.slots ++ [l]).map List.length) = L.gl.zip (m.slots.map List.length) ++ [(kb, len)] := by
    rw [List.map_append, List.zip_append (by rw [List.length_map]; exact h.gll)]
    simp [hlen]
  have hk : NewB w x1 g { L with ov := .slice (some ⟨nb, 0, none⟩) ((L.gl.zip (m.slots.map List.length)).length + 1) cap, gl := L.gl ++ [kb] } S su lu gu sh lk gs { m with slots := m.slots ++ [l] } :=
    { bel := h.bel.trans (hfr.grow _ h.bel.size fun b hb => by have := (h.ov.lt b hb).1; omega)
      box := h.box.fr hfr fun e => by have := (h.ov.lt _ e).1; omega
      ge := h.ge, sh := h.sh.mono hle1, lk := h.lk.mono hle1, gr := h.gr.fr hfr hgg hSv
      ov := by
        show Acc _ 1 _ _ _ _ ((L.gl ++ [kb]).zip ((m.slots ++ [l]).map List.length)) x1
        rw [hz]; exact hpush
      at_ := ownsRow_fr h.at_ hfr hat, hold := ownsRow_fr h.hold hfr hho, mem := ownsRow_fr h.mem hfr hme
      pv := h.pv, pr := h.pr, gll := by simp [h.gll]
      slot := fun t k l' k1 k2 => by
        simp only at k1 k2
        rw [List.getElem?_append] at k1 k2
        rw [h.gll] at k1
        by_cases hq : t < m.slots.length
        · rw [if_pos hq] at k1 k2
          exact (h.slot t k l' k1 k2).fr hfr (hgl k (List.mem_of_getElem? k1))
        · rw [if_neg hq] at k1 k2
          have h0 : t - m.slots.length = 0 := by
            have := (List.getElem?_eq_some_iff.1 k1).1
            simp at this; omega
          rw [h0] at k1 k2
          simp at k1 k2
          subst k1 k2
          exact hkB1
      glge := fun b hb => by
        rcases List.mem_append.1 hb with e | e
        · exact h.glge b e
        · rw [List.mem_singleton] at e; subst e; have := h.bel.size; have := h.box.lt; omega
      nodup := by
        show (L.gl ++ [kb]).Nodup
        rw [List.nodup_append]
        refine ⟨h.nodup, by simp, fun a ha b hb => ?_⟩
        rw [List.mem_singleton] at hb
        have := hglt a ha
        omega
      memgl := fun b hb hm => by
        rcases List.mem_append.1 hm with e | e
        · exact h.memgl b hb e
        · rw [List.mem_singleton] at e; subst e; have := (h.mem.lt _ hb).2; omega
      athold := h.athold
      sep := fun b hb => by
        have := h.sep b hb
        refine ⟨this.1, Nat.lt_of_lt_of_le this.2.1 hfr.size, this.2.2.1, this.2.2.2.1, this.2.2.2.2.1, this.2.2.2.2.2.1, fun e => ?_, fun e => ?_⟩
        · have e : some nb = some b := e
          injection e with e
          subst e
          rcases ha.at_ with k | k
          · exact this.2.2.2.2.2.2.1 k
          · have := ha.bel.size; omega
        · rcases List.mem_append.1 e with e | e
          · exact this.2.2.2.2.2.2.2 e
          · rw [List.mem_singleton] at e; subst e; omega }
  exact hk.setG hbx 4 _
theorem NewB.pushM (h : NewB w wc g L S su lu gu sh lk gs m) (hb : Blk wc g 115 L.cells) {x : Int} {nb cap : Nat} (ha : Apd wc x0 x1 (w.heap.size + 1) 2 1 L.mv m.mem.length (i64sV m.mem) [.int .i64 x] nb cap) :
    NewB w (x1.setCell ⟨g, 5, none⟩ (.slice (some ⟨nb, 0, none⟩) (m.mem.length + 1) cap)) g { L with mv := .slice (some ⟨nb, 0, none⟩) (m.mem.length + 1) cap } S su lu gu sh lk gs { m with mem := m.mem ++ [x] } ∧
      Blk (x1.setCell ⟨g, 5, none⟩ (.slice (some ⟨nb, 0, none⟩) (m.mem.length + 1) cap)) g 115 ({ L with mv := .slice (some ⟨nb, 0, none⟩) (m.mem.length + 1) cap } : Lay).cells := by
  have hbx : Blk x1 g 115 L.cells := hb.fr ha.fr (own_ne h.mem hb (by decide))
  refine ⟨?_, hbx.set_ 5 _⟩
  have ht : ∀ {k : Nat} {cur : Array Value} {t : TypeId}, wc.heap[k]? = some (.cells cur t (0, 0)) → 2 ≠ t → ¬ L.mv.ownBlock = some k := fun hk hne => own_ne h.mem hk hne
  have hSv : ∀ b, S b → ¬ L.mv.ownBlock = some b := fun b hb e => (h.sep b hb).2.2.2.2.2.1 e
  have hfr := ha.fr
  have hle1 : (on wc S).le (on x1 S) := hfr.on hSv
  have hat : ∀ b, L.av.ownBlock = some b → ¬ L.mv.ownBlock = some b := fun b k => by obtain ⟨_, hh⟩ := own_in h.at_ k; exact ht hh (by decide)
  have hho : ∀ b, L.hv.ownBlock = some b → ¬ L.mv.ownBlock = some b := fun b k => by obtain ⟨_, hh⟩ := own_in h.hold k; exact ht hh (by decide)
  have hoo : ∀ b, L.ov.ownBlock = some b → ¬ L.mv.ownBlock = some b := fun b k => by obtain ⟨_, hh⟩ := acc_in h.ov k; exact ht hh (by decide)
  have hgg : ∀ b, L.gv.ownBlock = some b → ¬ L.mv.ownBlock = some b := fun b k => by obtain ⟨_, hh⟩ := acc_in h.gr k; exact ht hh (by decide)
  have hgl : ∀ b, b ∈ L.gl → ¬ L.mv.ownBlock = some b := fun b k e => h.memgl b e k
  have hown : x1.ownsRow (w.heap.size + 1) 2 1 (.slice (some ⟨nb, 0, none⟩) (m.mem.length + 1) cap) (m.mem ++ [x]).length (i64sV (m.mem ++ [x])) := by
    have := ha.own
    rw [List.length_append, List.length_singleton]
    unfold i64sV at this ⊢
    rw [List.map_append]
    exact this
  have hk : NewB w x1 g { L with mv := .slice (some ⟨nb, 0, none⟩) (m.mem.length + 1) cap } S su lu gu sh lk gs { m with mem := m.mem ++ [x] } :=
    { bel := h.bel.trans (hfr.grow _ h.bel.size fun b hb => by have := (h.mem.lt b hb).1; omega)
      box := h.box.fr hfr fun e => by have := (h.mem.lt _ e).1; omega
      ge := h.ge, sh := h.sh.mono hle1, lk := h.lk.mono hle1, gr := h.gr.fr hfr hgg hSv
      ov := h.ov.fr hfr hoo (fun _ e => e.elim), at_ := ownsRow_fr h.at_ hfr hat, hold := ownsRow_fr h.hold hfr hho, mem := hown
      pv := h.pv, pr := h.pr, gll := h.gll, slot := fun t k l k1 k2 => (h.slot t k l k1 k2).fr hfr (hgl k (List.mem_of_getElem? k1)), glge := h.glge, nodup := h.nodup
      memgl := fun b hb' hm => by
        have e : some nb = some b := hb'
        injection e with e
        subst e
        rcases ha.at_ with k | k
        · exact h.memgl _ k hm
        · obtain ⟨_, hh⟩ := h.glb hm; have := lt_of_block hh; have := ha.bel.size; omega
      athold := h.athold
      sep := fun b hb => by
        have := h.sep b hb
        refine ⟨this.1, Nat.lt_of_lt_of_le this.2.1 hfr.size, this.2.2.1, this.2.2.2.1, this.2.2.2.2.1, fun e => ?_, this.2.2.2.2.2.2⟩
        have e : some nb = some b := e
        injection e with e
        subst e
        rcases ha.at_ with k | k
        · exact this.2.2.2.2.2.1 k
        · have := ha.bel.size; omega }
  exact hk.setG hbx 5 _
theorem NewB.setH (h : NewB w wc g L S su lu gu sh lk gs m) (hb : Blk wc g 115 L.cells) {k n c : Nat} (hv : L.hv = .slice (some ⟨k, 0, none⟩) n c) (j : Nat) (x : Int) :
    NewB w (wc.setCell ⟨k, j, none⟩ (.int .i64 x)) g L S su lu gu sh lk gs { m with holders := m.holders.set j x } ∧ Blk (wc.setCell ⟨k, j, none⟩ (.int .i64 x)) g 115 L.cells := by
  have hk : L.hv.ownBlock = some k := by rw [hv]; rfl
  obtain ⟨cur, hkb⟩ := own_in h.hold hk
  have hgk : g ≠ k := fun e => by subst e; exact row_types hb hkb (by decide) rfl
  refine ⟨?_, hb.far (p := ⟨k, j, none⟩) hgk _⟩
  have hfr : FrW (fun q => q = k) wc (wc.setCell ⟨k, j, none⟩ (.int .i64 x)) := FrW.setCell (S := fun q => q = k) wc (p := ⟨k, j, none⟩) rfl _
  have hSv : ∀ b, S b → ¬ b = k := fun b hb e => (h.sep b hb).2.2.2.2.1 (by rw [e]; exact hk)
  have hlt := (h.hold.lt k hk)
  have hown : (wc.setCell ⟨k, j, none⟩ (.int .i64 x)).ownsRow (w.heap.size + 1) 3 1 L.hv (m.holders.set j x).length (i64sV (m.holders.set j x)) := by
    have hh := h.hold
    obtain ⟨A, c', he, _⟩ := own_slice hh
    rw [hv] at he
    injection he with e1 e2 e3
    subst e1 e2 e3
    rw [hv] at hh
    rw [hv, i64sV_set, set_length]
    exact (hh.stored j _).1
  exact
    { bel := h.bel.trans (hfr.grow _ h.bel.size fun b hb => by rw [hb]; omega)
      box := h.box.fr hfr fun e => by omega
      ge := h.ge, sh := h.sh.mono (hfr.on hSv), lk := h.lk.mono (hfr.on hSv), gr := h.gr.fr hfr (fun b q e => acc_ne h.gr hkb (by decide) (by rw [q, e])) hSv
      ov := h.ov.fr hfr (fun b q e => acc_ne h.ov hkb (by decide) (by rw [q, e])) (fun _ e => e.elim), at_ := ownsRow_fr h.at_ hfr (fun b q e => h.athold b q (by rw [e]; exact hk)), hold := hown, mem := ownsRow_fr h.mem hfr (fun b q e => own_ne h.mem hkb (by decide) (by rw [q, e]))
      pv := h.pv, pr := h.pr, gll := h.gll, slot := fun t k' l k1 k2 => (h.slot t k' l k1 k2).fr hfr (fun e => by have q := h.slot t k' l k1 k2; rw [e] at q; exact row_types q hkb (by decide) rfl), glge := h.glge, nodup := h.nodup, memgl := h.memgl, athold := h.athold
      sep := fun b hb => by have := h.sep b hb; exact ⟨this.1, Nat.lt_of_lt_of_le this.2.1 hfr.size, this.2.2⟩ }
/-- In the end it is a machine. -/
theorem NewB.made {u : Unit_} (h : NewB w wc g L S su lu gu u.shared u.locks u.graphs m) (hb : Blk wc g 115 L.cells) : ∃ R : Nat → Prop, MachB wc R g L u m ∧ (∀ q, R q → w.heap.size ≤ q ∧ q < wc.heap.size) ∧ ∀ q, L.mut g q → w.heap.size ≤ q := by
  refine ⟨fun b => S b ∨ L.gv.ownBlock = some b ∨ L.ov.ownBlock = some b, ⟨hb, ?_, ?_, ?_, ?_, ?_, ?_, h.gll, h.slot, h.nodup, h.memgl, h.athold, ?_⟩, ?_, ?_⟩
  · refine ⟨L.sv, L.lv, L.gv, rfl, h.sh.mono (on_keep (fun _ _ _ => rfl) fun _ e => .inl e), h.lk.mono (on_keep (fun _ _ _ => rfl) fun _ e => .inl e), ?_⟩
    exact (h.gr.done_on (R := fun b => S b ∨ L.gv.ownBlock = some b ∨ L.ov.ownBlock = some b) (fun _ e => .inl e) (fun _ e => .inr (.inl e))).imp' fun m b o x hx => hx
  · exact own_baseM h.at_ (Nat.zero_le _)
  · exact own_baseM h.mem (Nat.zero_le _)
  · exact own_baseM h.hold (Nat.zero_le _)
  · rw [h.pv, h.pr]; exact World.ownsRow_nil _ _ _ _
  · exact (h.ov.done_on (R := fun b => S b ∨ L.gv.ownBlock = some b ∨ L.ov.ownBlock = some b) (fun _ e => e.elim) (fun _ e => .inr (.inr e))).imp' fun m b o x hx => Cells_plain hx 0 _ rfl
  · intro b hm hR
    have two : ∀ {k : Nat} {cur : Array Value} {t : TypeId}, wc.heap[k]? = some (.cells cur t (0, 0)) → t ≠ 69 → t ≠ 112 → ¬ (L.gv.ownBlock = some k ∨ L.ov.ownBlock = some k) := fun hk h1 h2 e => by
      rcases e with e | e
      · exact acc_ne h.gr hk (fun q => h1 q.symm) e
      · exact acc_ne h.ov hk (fun q => h2 q.symm) e
    rcases hm with e | e | e | e | e | e
    · subst e
      rcases hR with k | k
      · exact (h.sep b k).2.2.1 rfl
      · exact two hb (by decide) (by decide) k
    · rcases hR with k | k
      · exact (h.sep b k).2.2.2.1 e
      · obtain ⟨_, hh⟩ := own_in h.at_ e; exact two hh (by decide) (by decide) k
    · rcases hR with k | k
      · exact (h.sep b k).2.2.2.2.2.1 e
      · obtain ⟨_, hh⟩ := own_in h.mem e; exact two hh (by decide) (by decide) k
    · rcases hR with k | k
      · exact (h.sep b k).2.2.2.2.1 e
      · obtain ⟨_, hh⟩ := own_in h.hold e; exact two hh (by decide) (by decide) k
    · rw [h.pv] at e; cases e
    · rcases hR with k | k
      · exact (h.sep b k).2.2.2.2.2.2.2 e
      · obtain ⟨_, hh⟩ := h.glb e; exact two hh (by decide) (by decide) k
  · intro q hq
    rcases hq with e | e | e
    · have := h.sep q e; omega
    · have := h.gr.lt q e; omega
    · have := h.ov.lt q e; omega
  · intro q hq
    rcases hq with e | e | e | e | e | e
    · have := h.ge; omega
    · have := h.at_.lt q e; omega
    · have := h.mem.lt q e; omega
    · have := h.hold.lt q e; omega
    · rw [h.pv] at e; cases e
    · have := h.glge q e; omega
end
end Go.Proofs.YtffgnjgphkdodaaGreatDoor
/- The walk of New. -/
namespace Go.Proofs.YtffgnjgphkdodaaGreatDoor
open Go Go.RowKit
attribute [local go_sem] readAtW readUpon
theorem own_of_blkM {w : World} {base k n : Nat} {e : TypeId} {xs : List Value} (h : Blk w k e xs) (hb : base ≤ k) (hn : n = xs.length) (hm : n ≤ maxLen) : w.ownsRow base e 1 (.slice (some ⟨k, 0, none⟩) n n) n xs :=
  ⟨by omega, .inr ⟨k, n, xs.toArray, rfl, hb, h, Nat.le_refl _, hm, by simp [hn], by simp [hn]⟩⟩
def zerosV (n : Nat) : List Value := List.replicate n (.int .i64 0)
theorem zeros_nats (n : Nat) : zerosV n = natsV (List.replicate n 0) := by simp [zerosV, natsV]
theorem zeros_ints (n : Nat) : zerosV n = i64sV (List.replicate n 0) := by simp [zerosV, i64sV]
/-- Behind the first three blocks. -/
theorem newB_start {w w1 wc : World} {su lu gu : Value} {g ka kh n l : Nat} (hbel : Below w.heap.size w w1) (hbox : Blk w1 w.heap.size 25 [su, lu, gu]) (hb : Below w1.heap.size w1 wc) (_hg : Blk wc g 115 [.slice none 0 0, .slice none 0 0, .slice none 0 0, .slice (some ⟨ka, 0, none⟩) n n, .slice none 0 0, .slice none 0 0, .slice (some ⟨kh, 0, none⟩) l l, .slice none 0 0])
    (ha : Blk wc ka 3 (zerosV n)) (hh : Blk wc kh 3 (zerosV l)) (k1 : w1.heap.size ≤ g) (k2 : w1.heap.size ≤ ka) (k3 : w1.heap.size ≤ kh) (hne : ka ≠ kh) (hn : n ≤ 100) (hl : l ≤ 100) :
    NewB w wc g ⟨.slice none 0 0, .slice none 0 0, .slice none 0 0, .slice (some ⟨ka, 0, none⟩) n n, .slice none 0 0, .slice none 0 0, .slice (some ⟨kh, 0, none⟩) l l, .slice none 0 0, []⟩ (fun _ => False) su lu gu [] [] [] ⟨List.replicate n 0, [], [], List.replicate l 0, []⟩ := by
  have hbl := hbox.lt
  have hm : ∀ k, k ≤ 100 → k ≤ maxLen := fun k hk => by unfold maxLen; omega
  have hnil : ∀ m : CM, Decls m (.slice none 0 0) [] := fun m => ⟨none, 0, rfl, by simp, ⟨by simp [maxLen], fun _ => rfl⟩, .inl rfl⟩
  refine ⟨hbel.trans (hb.mono hbel.size), hbox.below hb hbl, by omega, hnil _, hnil _, ?_, ?_, ?_, ?_, World.ownsRow_nil _ _ _ _, rfl, rfl, rfl, fun t k l h => (by cases h), fun b h => (by cases h), List.nodup_nil, fun b h => (by cases h), fun b h => ?_, fun b h => h.elim⟩
  · exact ⟨⟨[], World.ownsRow_nil _ _ _ _, rfl, fun _ h => (by cases h), fun _ _ _ h => (by cases h)⟩, fun _ h => h.elim⟩
  · exact ⟨⟨[], World.ownsRow_nil _ _ _ _, rfl, fun _ h => (by cases h), fun _ _ _ h => (by cases h)⟩, fun _ h => h.elim⟩
  · rw [← zeros_nats, List.length_replicate]
    exact own_of_blkM ha (by omega) (by simp [zerosV]) (hm n hn)
  · rw [← zeros_ints, List.length_replicate]
    exact own_of_blkM hh (by omega) (by simp [zerosV]) (hm l hl)
  · have h : some ka = some b := h
    injection h with h
    subst h
    exact fun e => hne (by have e : some kh = some ka := e; injection e with e; exact e.symm)
/-- A later block of one's own is written. -/
theorem NewB.setX {w wr w5 : World} {g : Nat} {L : Lay} {S S' : Nat → Prop} {su lu gu : Value} {sh lk sh' lk' : List Decl} {gs : List Graph} {m : Mach} (h : NewB w wr g L S su lu gu sh lk gs m) (h2 : NewB w w5 g L S' su lu gu sh' lk' gs m) (hS : ∀ b, S' b → b ≠ wr.heap.size) (j : Nat) (v : Value) : NewB w (w5.setCell ⟨wr.heap.size, j, none⟩ v) g L S' su lu gu sh' lk' gs m := by
  have lt : ∀ b, b < wr.heap.size → ¬ (b = wr.heap.size) := fun b hb e => by omega
  refine h2.fr (FrW.setCell (S := fun q => q = wr.heap.size) w5 rfl v) (fun b e => by have := h.box.lt; omega) hS (fun b hb => lt b (h.gr.lt b hb).2) (fun b hb => lt b (h.ov.lt b hb).2) (fun b hb => lt b (h.at_.lt b hb).2) (fun b hb => lt b (h.hold.lt b hb).2) (fun b hb => lt b (h.mem.lt b hb).2) (fun b hb => ?_)
  obtain ⟨_, hh⟩ := h.glb hb
  exact lt b (lt_of_block hh)
theorem sl_graph' : SlT Tryz.prog 23 69 4 56 (.agg #[.string ⟨#[]⟩, .int .i64 0, .int .i64 0, .slice none 0 0]) := SlT.mk' Tryz.underlying23 (by kernel_rfl) rfl (by omega)
theorem sl_i64s : SlT Tryz.prog 111 112 1 24 (.slice none 0 0) := SlT.mk' Tryz.underlying111 (by kernel_rfl) rfl (by omega)
theorem run_build_graph (w : World) (s : ByteArray) (a b : Int) (v : Option Addr) (n c : Nat) : (Instr.buildSlice 23 1 #[(0, .agg #[.string s, .int .i64 a, .int .i64 b, .slice v n c])]).run Tryz.prog w = .ok (.slice (some ⟨w.heap.size, 0, none⟩) 1 1) (w.alloc (.cells #[.string s, .int .i64 a, .int .i64 b, .slice v n c] 69)) := by
  obtain ⟨ie, h1, h2, h3, h4⟩ := sl_graph'.info
  exact run_buildSlice w _ _ 1 _ _ ie _ sl_graph'.ht h1 h2 (by rw [h3]; decide) (by rw [h3]; decide) (by rw [h3]; kernel_rfl)
theorem run_build_sl (w : World) (v : Option Addr) (n c : Nat) : (Instr.buildSlice 111 1 #[(0, .slice v n c)]).run Tryz.prog w = .ok (.slice (some ⟨w.heap.size, 0, none⟩) 1 1) (w.alloc (.cells #[.slice v n c] 112)) := by
  obtain ⟨ie, h1, h2, h3, h4⟩ := sl_i64s.info
  exact run_buildSlice w _ _ 1 _ _ ie _ sl_i64s.ht h1 h2 (by rw [h3]; decide) (by rw [h3]; decide) (by rw [h3]; kernel_rfl)
theorem run_build_i64 (w : World) (x : Int) : (Instr.buildSlice 112 1 #[(0, .int .i64 x)]).run Tryz.prog w = .ok (.slice (some ⟨w.heap.size, 0, none⟩) 1 1) (w.alloc (.cells #[.int .i64 x] 2)) := by
  obtain ⟨ie, h1, h2, h3, h4⟩ := sl_i64.info
  exact run_buildSlice w _ _ 1 _ _ ie _ sl_i64.ht h1 h2 (by rw [h3]; decide) (by rw [h3]; decide) (by rw [h3]; kernel_rfl)
def slots0 (g : Graph) : List Int := List.replicate g.slots.toNat 0
/-- What New answers of a unit that is right. -/
def NewPost (w : World) (u : Unit_) (e : Ending) (w' : World) : Prop := ∃ (g : Nat) (L : Lay) (R : Nat → Prop), e = .returned (.tuple #[.pointer (some ⟨g, 0, none⟩), .int .i64 0]) ∧ MachB w' R g L u (startM u) ∧ (∀ q, R q → w.heap.size ≤ q ∧ q < w'.heap.size) ∧ (∀ q, L.mut g q → w.heap.size ≤ q) ∧ Below w.heap.size w w'
theorem new_bad (u : Unit_) (cs : List Value) (w : World) (hu : UnitV (cmap w) cs u) (hok : UOk u) (hc : checkF u ≠ none) :
    Calls Tryz.prog 27 #[.agg cs.toArray] w fun e w' => e = .returned (.tuple #[.pointer none, .int .i64 60]) ∧ Below w.heap.size w w' := by
  have hchk := fun wr (h : UnitV (cmap wr) cs u) => check_calls u cs wr h hok
  obtain ⟨t, i, hr⟩ : ∃ t i, checkF u = some (t, i) := by
    cases h : checkF u with
    | none => exact absurd h hc
    | some p => exact ⟨p.1, p.2, rfl⟩
  rw [hr] at hchk
  have hu0 := hu
  obtain ⟨su, lu, gu, rfl, -, -, -⟩ := hu0
  have HC := Lib.hid hchk
  have HU := Lib.hid hu
  have HLD : Hid (∀ j v, ([su, lu, gu] : List Value)[j]? = some v → (w.alloc (.cells #[su, lu, gu] 25)).cell? ⟨w.heap.size, 0 + j, none⟩ = some v) := cell_newl w _ _ _ rfl
  clear hu hok hc hchk hr
  go_enter Tryz.func27, Tryz.ntmps27
  go_wp2_with (first
    | (refine wpList_load_at rfl 25 _ rfl w.heap.size 0 rfl _ _ HLD.out Tryz.underlying25 rfl (by kernel_rfl) ?_))
  refine (HC.out _ (HU.out.mono (cmap_alloc _ _))).mono ?_
  rintro e w1 ⟨rfl, hb⟩
  unfold checkV
  go_wp2
  go_ret2
  exact ⟨rfl, (Below_alloc' w _).trans (hb.mono (by simp))⟩
set_option maxRecDepth 100000 in
set_option maxHeartbeats 4000000 in
theorem new_good (u : Unit_) (cs : List Value) (w : World) (hu : UnitV (cmap w) cs u) (hok : UOk u) (hc : checkF u = none) :
    Calls Tryz.prog 27 #[.agg cs.toArray] w (NewPost w u) := by
  have hr := checkF_none hc
  have hz := checkF_sizes hc
  have hchk := fun wr (h : UnitV (cmap wr) cs u) => check_calls u cs wr h hok
  rw [hc] at hchk
  have hu0 := hu
  obtain ⟨su, lu, gu, rfl, hs, hl, hg⟩ := hu0
  obtain ⟨sA, sc, rfl, -, -, -⟩ := id hs
  obtain ⟨lA, lc, rfl, -, -, -⟩ := id hl
  obtain ⟨gA, gc, rfl, -, -, -⟩ := id hg
  have nS := hr.shared
  have nL := hr.locks
  have nG := hr.threads
  have HC := Lib.hid hchk
  have HU := Lib.hid (And.intro hu (And.intro hs (And.intro hl (And.intro hg (And.intro hr hz)))))
  have HLD : Hid (∀ j v, ([.slice sA u.shared.length sc, .slice lA u.locks.length lc, .slice gA u.graphs.length gc] : List Value)[j]? = some v → (w.alloc (.cells #[.slice sA u.shared.length sc, .slice lA u.locks.length lc, .slice gA u.graphs.length gc] 25)).cell? ⟨w.heap.size, 0 + j, none⟩ = some v) := cell_newl w _ _ _ rfl
  clear hu hok hc hchk hr hz hs hl hg
  go_enter Tryz.func27, Tryz.ntmps27
  go_wp2_with (first
    | (refine wpList_load_at rfl 25 _ rfl w.heap.size 0 rfl _ _ HLD.out Tryz.underlying25 rfl (by kernel_rfl) ?_))
  refine (HC.out _ (HU.out.1.mono (cmap_alloc _ _))).mono ?_
  rintro e w1 ⟨rfl, hb⟩
  unfold checkV
  have hbel : Below w.heap.size w w1 := (Below_alloc' w _).trans (hb.mono (by simp))
  have hbox : Blk w1 w.heap.size 25 [.slice sA u.shared.length sc, .slice lA u.locks.length lc, .slice gA u.graphs.length gc] := (Blk.new w _ _).below hb (by simp)
  have u1 : w1.cell? ⟨w.heap.size, 1, none⟩ = some (.slice lA u.locks.length lc) := hbox.cell 1
  have u2 : w1.cell? ⟨w.heap.size, 2, none⟩ = some (.slice gA u.graphs.length gc) := hbox.cell 2
  have hm1 := fun w => mk_run (P := Tryz.prog) sl_int rfl u.graphs.length (by omega) (by decide) w
  have hm2 := fun w => mk_run (P := Tryz.prog) sl_int rfl u.locks.length (by omega) (by decide) w
  have ea : ∀ o p v, p.block < w1.heap.size → w1.cell? p = some v → (w1.alloc o).cell? p = some v := fun o p v hp hv => ((Below_alloc' w1 o).cell (p := p) hp).trans hv
  have e1 : ∀ o, (w1.alloc o).cell? ⟨w.heap.size, 1, none⟩ = some (.slice lA u.locks.length lc) := fun o => ea o _ _ hbox.lt u1
  have e2 : ∀ o, (w1.alloc o).cell? ⟨w.heap.size, 2, none⟩ = some (.slice gA u.graphs.length gc) := fun o => ea o _ _ hbox.lt u2
  clear ea
  have HB := Lib.hid (And.intro hbel hbox)
  clear hb hbel hbox HLD
  go_upto_region 4 with fail
  go_cut [7] (fun v7 wc => ∃ g L S, v7 = .pointer (some ⟨g, 0, none⟩) ∧ NewB w wc g L S (.slice sA u.shared.length sc) (.slice lA u.locks.length lc) (.slice gA u.graphs.length gc) [] [] [] ⟨List.replicate u.graphs.length 0, [], [], List.replicate u.locks.length 0, []⟩ ∧ Blk wc g 115 L.cells)
  case first =>
    go_region
    all_goals go_wp2
    all_goals go_meet
    · refine ⟨_, _, _, rfl, newB_start HB.out.1 HB.out.2 (Below3 w1 _ _ _).drew (Blk.of (heap_new _ _ _ (by simp)) rfl) (((Blk.of (heap_new w1 _ _ rfl) (by simp [zerosV]) : Blk _ _ _ _).alloc _).alloc _) ((Blk.of (heap_new _ _ _ (by simp)) (by simp [zerosV]) : Blk _ _ _ _).alloc _) (by omega) (Nat.le_refl _) (by omega) (by omega) (by omega) (by omega), Blk.of (heap_new _ _ _ (by simp)) rfl⟩
    · refine ⟨_, _, _, rfl, newB_start HB.out.1 HB.out.2 (Below3 w1 _ _ _).drew (Blk.of (heap_new _ _ _ (by simp)) rfl) ((Blk.of (heap_new _ _ _ (by simp)) (by simp [zerosV]) : Blk _ _ _ _).alloc _) (((Blk.of (heap_new w1 _ _ rfl) (by simp [zerosV]) : Blk _ _ _ _).alloc _).alloc _) (by omega) (by omega) (Nat.le_refl _) (by omega) (by omega) (by omega), Blk.of (heap_new _ _ _ (by simp)) rfl⟩
  case rest =>
    obtain ⟨g, L, S, rfl, hN, hG⟩ := hcut
    clear u1 u2 e1 e2 hm1 hm2 HB
    have b0 := hN.box.cell 0
    have b1 := hN.box.cell 1
    have b2 := hN.box.cell 2
    simp only [List.getElem?_cons_zero, List.getElem?_cons_succ] at b0 b1 b2
    have HN := Lib.hid (And.intro hN hG)
    clear hN hG
    go_wp2_with fail
    refine (clone_decl _ (HU.out.2.1.mono (cmap_below HN.out.1.bel)) (by omega)).mono ?_
    rintro e w2 ⟨A1, c1, rfl, hs1, hb1⟩
    have hN2 := HN.out.1.ext HN.out.2 hb1
    have hG2 := HN.out.2.below hb1 HN.out.2.lt
    have k0 : w2.cell? ⟨g, 0, none⟩ = some L.sv := hG2.cell 0
    have f0 : w2.frozen? ⟨g, 0, none⟩ = false := hG2.frozen 0
    obtain ⟨hN3, hG3⟩ := hN2.setSv hG2 (hs1.mono (part_on _ fun b h1 h2 => .inr ⟨h1, h2⟩))
    have HN3 := Lib.hid (And.intro hN3 hG3)
    have d1 : (w2.setCell ⟨g, 0, none⟩ (.slice A1 u.shared.length c1)).cell? ⟨w.heap.size, 1, none⟩ = some (.slice lA u.locks.length lc) := hN3.box.cell 1
    clear hN2 hG2 hN3 hG3 hs1 hb1 b0 b1 b2 HN
    go_wp2_with fail
    refine (clone_decl _ (HU.out.2.2.1.mono (cmap_below HN3.out.1.bel)) (by omega)).mono ?_
    rintro e w4 ⟨A2, c2, rfl, hs1, hb1⟩
    have hN4 := HN3.out.1.ext HN3.out.2 hb1
    have hG4 := HN3.out.2.below hb1 HN3.out.2.lt
    have k1 : w4.cell? ⟨g, 1, none⟩ = some L.lv := hG4.cell 1
    have f1 : w4.frozen? ⟨g, 1, none⟩ = false := hG4.frozen 1
    obtain ⟨hN5, hG5⟩ := hN4.setLv hG4 (hs1.mono (part_on _ fun b h1 h2 => .inr ⟨h1, h2⟩))
    have HN5 := Lib.hid (And.intro hN5 hG5)
    have d2 : (w4.setCell ⟨g, 1, none⟩ (.slice A2 u.locks.length c2)).cell? ⟨w.heap.size, 2, none⟩ = some (.slice gA u.graphs.length gc) := hN5.box.cell 2
    clear hN4 hG4 hN5 hG5 hs1 hb1 k0 f0 d1 HN3
    go_wp2
    go_loopw [49] (fun i wr => ∃ (k : Nat) (L : Lay) (S : Nat → Prop), i = .int .i64 k ∧ k ≤ u.graphs.length ∧ Hid (NewB w wr g L S (.slice sA u.shared.length sc) (.slice lA u.locks.length lc) (.slice gA u.graphs.length gc) u.shared u.locks (u.graphs.take k) ⟨List.replicate u.graphs.length 0, (u.graphs.take k).map slots0, [], List.replicate u.locks.length 0, []⟩ ∧ Blk wr g 115 L.cells)) (fun i _ => u.graphs.length - (intOf i).toNat)
    case atStart => exact ⟨0, _, _, rfl, by omega, HN5⟩
    case round =>
      obtain ⟨k, L, S, rfl, hk, HN⟩ := hrel
      by_cases hlt : k < u.graphs.length
      · obtain ⟨gx, hgx⟩ : ∃ gx, u.graphs[k]? = some gx := ⟨_, List.getElem?_eq_getElem hlt⟩
        have hgm := List.mem_of_getElem? hgx
        obtain ⟨gb, go, rfl, cs, ⟨nv, rfl, hnodes⟩, hcells⟩ := HU.out.2.2.2.1.at_ hgx
        obtain ⟨nA, nc, rfl, -⟩ := id hnodes
        have hslots := HU.out.2.2.2.2.2.slots gx hgm
        have hmost := (HU.out.2.2.2.2.1.graphs gx hgm).whole.most
        obtain ⟨ns, hns⟩ := Int.eq_ofNat_of_zero_le hslots.1
        have hnsl : ns ≤ 4160 := by omega
        rw [hns] at hcells
        have hcw := (cmap_below HN.out.1.bel)
        have HLG : Hid (∀ j v, ([.string gx.name, .int .i64 gx.locals, .int .i64 (ns : Int), .slice nA gx.nodes.length nc] : List Value)[j]? = some v → wr.cell? ⟨gb, go + k * 4 + j, none⟩ = some v) := Lib.hid fun j v hv => hcw _ _ _ (hcells j v hv)
        have HX := Lib.hid (And.intro hgx (And.intro hns (And.intro hnsl (And.intro hlt (And.intro hk (And.intro hmost (hnodes.mono hcw)))))))
        have i0 : (0 : Int) ≤ k := by omega
        have i1 : (k : Int) < u.graphs.length := by omega
        clear hgx hgm hcells hnodes hslots hmost hns hnsl hcw hlt hk
        go_wp2_with (first
          | (refine wpList_load_at rfl 69 _ rfl gb (go + k * 4) rfl _ _ HLG.out Tryz.underlying69 rfl (by kernel_rfl) ?_))
        have hbx := Blk.new wr 69 [.string gx.name, .int .i64 gx.locals, .int .i64 (ns : Int), .slice nA gx.nodes.length nc]
        have hbw := Below_alloc' wr (.cells #[.string gx.name, .int .i64 gx.locals, .int .i64 (ns : Int), .slice nA gx.nodes.length nc] 69)
        have hN1 := HN.out.1.below hbw
        have hG1 := HN.out.2.below hbw HN.out.2.lt
        refine (clone_node _ (HX.out.2.2.2.2.2.2.mono (cmap_below hbw)) (by have := HX.out.2.2.2.2.2.1; omega)).mono ?_
        rintro e w5 ⟨A3, c3, rfl, hs3, hb3⟩
        have hN2 := hN1.ext hG1 hb3
        have hG2 := hG1.below hb3 hG1.lt
        have hbx2 := hbx.below hb3 hbx.lt
        have hS2 : ∀ b, (S b ∨ ((wr.alloc (.cells #[.string gx.name, .int .i64 gx.locals, .int .i64 (ns : Int), .slice nA gx.nodes.length nc] 69)).heap.size ≤ b ∧ b < w5.heap.size)) → b ≠ wr.heap.size := fun b hb => by
          rcases hb with e | ⟨e, -⟩
          · have := (HN.out.1.sep b e).2.1; omega
          · simp at e; omega
        have hN3 := HN.out.1.setX hN2 hS2 3 (.slice A3 gx.nodes.length c3)
        have hgx3 : g ≠ wr.heap.size := by have := HN.out.2.lt; omega
        have hG3 : Blk (w5.setCell ⟨wr.heap.size, 3, none⟩ (.slice A3 gx.nodes.length c3)) g 115 L.cells := hG2.far (p := ⟨wr.heap.size, 3, none⟩) hgx3 _
        have hbx3 : Blk (w5.setCell ⟨wr.heap.size, 3, none⟩ (.slice A3 gx.nodes.length c3)) wr.heap.size 69 [.string gx.name, .int .i64 gx.locals, .int .i64 (ns : Int), .slice A3 gx.nodes.length c3] := hbx2.set_ 3 _
        have hn3 : Nodes (on (w5.setCell ⟨wr.heap.size, 3, none⟩ (.slice A3 gx.nodes.length c3)) (fun b => S b ∨ ((wr.alloc (.cells #[.string gx.name, .int .i64 gx.locals, .int .i64 (ns : Int), .slice nA gx.nodes.length nc] 69)).heap.size ≤ b ∧ b < w5.heap.size))) (.slice A3 gx.nodes.length c3) gx.nodes :=
          (hs3.mono (part_on _ (S := fun b => S b ∨ ((wr.alloc (.cells #[.string gx.name, .int .i64 gx.locals, .int .i64 (ns : Int), .slice nA gx.nodes.length nc] 69)).heap.size ≤ b ∧ b < w5.heap.size)) fun b h1 h2 => .inr ⟨h1, h2⟩)).mono ((FrW.setCell (S := fun q => q = wr.heap.size) w5 (p := ⟨wr.heap.size, 3, none⟩) rfl _).on hS2)
        have kx3 : w5.cell? ⟨wr.heap.size, 3, none⟩ = some (.slice nA gx.nodes.length nc) := hbx2.cell 3
        have fx3 : w5.frozen? ⟨wr.heap.size, 3, none⟩ = false := hbx2.frozen 3
        have hlt1 : ∀ b, L.gv.ownBlock = some b → b ≠ wr.heap.size := fun b hb => by have := (HN.out.1.gr.lt b hb).2; omega
        have hlt2 : ∀ b, L.ov.ownBlock = some b → b ≠ wr.heap.size := fun b hb => by have := (HN.out.1.ov.lt b hb).2; omega
        obtain ⟨y, hy⟩ : ∃ y, w5.setCell ⟨wr.heap.size, 3, none⟩ (.slice A3 gx.nodes.length c3) = y := ⟨_, rfl⟩
        obtain ⟨S3, hS3⟩ : ∃ S3 : Nat → Prop, (fun b => S b ∨ ((wr.alloc (.cells #[.string gx.name, .int .i64 gx.locals, .int .i64 (ns : Int), .slice nA gx.nodes.length nc] 69)).heap.size ≤ b ∧ b < w5.heap.size)) = S3 := ⟨_, rfl⟩
        rw [hy, hS3] at hN3 hn3
        rw [hy] at hG3 hbx3
        have HY := Lib.hid (And.intro hN3 (And.intro hG3 (And.intro hbx3 (And.intro hn3 (And.intro hlt1 hlt2)))))
        have HE := Lib.hid hy
        clear hN1 hG1 hN2 hG2 hbx hbx2 hS2 hN3 hG3 hbx3 hn3 hgx3 hs3 hb3 hbw hS3 hlt1 hlt2 HLG hy
        go_wp2
        rw [HE.out]
        clear kx3 fx3 HE
        obtain ⟨bx, hbx⟩ : ∃ bx, wr.heap.size = bx := ⟨_, rfl⟩
        rw [hbx] at HY
        rw [hbx]
        clear hbx
        -- the graph is appended
        obtain ⟨rows, r1, r2, r3, r4⟩ := HY.out.1.gr.rows
        have hkl : (u.graphs.take k).length = k := by rw [List.length_take]; have := HX.out.2.2.2.1; omega
        rw [hkl] at r1
        have HR := Lib.hid (And.intro r1 (And.intro r2 (And.intro r3 (And.intro r4 hkl))))
        clear r1 r2 r3 r4 hkl
        have fz : ∀ z : XC (cAp y (w.heap.size + 1) 69 4 L.gv k rows.flatten [.string gx.name, .int .i64 gx.locals, .int .i64 (ns : Int), .slice A3 gx.nodes.length c3] g 2 7 8 12) [12], FrW (fun q => L.gv.ownBlock = some q) y z.w := fun z => ApC.fr z.2.1 (z.2.2 12 (by simp))
        have f2 : ∀ z : XC (cAp y (w.heap.size + 1) 69 4 L.gv k rows.flatten [.string gx.name, .int .i64 gx.locals, .int .i64 (ns : Int), .slice A3 gx.nodes.length c3] g 2 7 8 12) [12], z.w.cell? ⟨g, 2, none⟩ = some L.gv := fun z => (fz z).cell (HY.out.2.1.cell 2) (acc_ne HY.out.1.gr HY.out.2.1 (by decide))
        have HLX : Hid (∀ z : XC (cAp y (w.heap.size + 1) 69 4 L.gv k rows.flatten [.string gx.name, .int .i64 gx.locals, .int .i64 (ns : Int), .slice A3 gx.nodes.length c3] g 2 7 8 12) [12], ∀ j v, ([.string gx.name, .int .i64 gx.locals, .int .i64 (ns : Int), .slice A3 gx.nodes.length c3] : List Value)[j]? = some v → z.w.cell? ⟨bx, 0 + j, none⟩ = some v) := Lib.hid fun z j v hj => (fz z).cell (p := ⟨bx, 0 + j, none⟩) (by rw [Nat.zero_add, HY.out.2.2.1.cell]; exact hj) (fun e => HY.out.2.2.2.2.1 _ e rfl)
        haveI hne : Nonempty (XC (cAp y (w.heap.size + 1) 69 4 L.gv k rows.flatten [.string gx.name, .int .i64 gx.locals, .int .i64 (ns : Int), .slice A3 gx.nodes.length c3] g 2 7 8 12) [12]) := XC.ne (cAp_start (y := y))
        clear fz
        refine wp_region_mixF (cAp y (w.heap.size + 1) 69 4 L.gv k rows.flatten [.string gx.name, .int .i64 gx.locals, .int .i64 (ns : Int), .slice A3 gx.nodes.length c3] g 2 7 8 12) [7, 8, 12] [0, 1, 2, 3, 4, 5, 6, 7, 8, 9, 10, 11, 12] [12] (by kernel_rfl) (by kernel_rfl) (by kernel_rfl) (by kernel_rfl) cAp_start cAp_hq (cAp_hA (by decide) (by decide)) (dst_small (by rfl)) ?_
        iterate 6 (refine wpMix_read rfl rfl (fun K hK => ?_); go_simp; refine hK _ ?_; clear hK K)
        refine wpMix_load (some 63) rfl rfl rfl rfl 69 _ rfl bx 0 rfl _ _ HLX.out Tryz.underlying69 rfl (by kernel_rfl) ?_
        refine wpMix_act (some 64) rfl rfl rfl rfl (fun D A z hD hp hpre hC => cAp_build (by decide) (by decide) (by decide) rfl (by simp only [List.map_toArray, List.map_cons, List.map_nil]; exact run_build_graph _ _ _ _ _ _ _) hD hC) (fun D A z hD hpre hC => ?_)
        obtain ⟨nb, hnb, -⟩ := ApC.r1 hC hD
        rw [hnb]
        clear hpre hC hD hnb z A D
        refine wpMix_act (some 65) rfl rfl rfl rfl (fun D A z hD hp hpre hC => cAp_append (by decide) (by decide) (by decide) sl_graph' (by have := HY.out.1.bel.size; have := HY.out.1.box.lt; omega) (fun x hx => ((HY.out.1.gr.keep hx).own.elim fun ys _ => ownsRow_fr HR.out.1 (FrW.of_below (fun _ => False) hx) (fun _ _ => id))) rfl rfl rfl (by omega) (by unfold maxLen; omega) rfl (by simp [Value.oneCell']) hD (hpre 7 (by simp)).1 (hpre 7 (by simp)).2 hC) (fun D A z hD hpre hC => ?_)
        obtain ⟨nb2, cap2, hnb, -⟩ := ApC.r2 hC hD
        rw [hnb]
        clear hpre hC hD hnb z A D
        iterate 3 (refine wpMix_read rfl rfl (fun K hK => ?_); go_simp; refine hK _ ?_; clear hK K)
        refine wpMix_act0 rfl rfl rfl rfl (fun D A z hD hp hpre hC => cAp_store (by decide) (by decide) (by decide) HY.out.2.1 (by simp [Lay.cells]) (acc_ne HY.out.1.gr HY.out.2.1 (by decide)) (by kernel_rfl) rfl rfl rfl hD (hpre 8 (by simp)).1 (hpre 8 (by simp)).2 hC) (fun D A z hD hpre hC => ?_)
        clear hpre hC hD z A D
        refine wpMix_nil (fun D A z hD hAA hC => ?_)
        obtain ⟨nb3, cap3, x0, x1, hap, rfl⟩ := ApC.fin hC (hD 12 (by decide))
        clear hAA hC hD D A f2 HLX hne
        obtain ⟨hN6, hG6⟩ := HY.out.1.pushG HY.out.2.1 HR.out.2.1 HR.out.2.2.1 HR.out.2.2.2.1 rfl (gx := gx) (by rw [HR.out.2.2.2.2]; exact hap) ⟨.slice A3 gx.nodes.length c3, by rw [HX.out.2.1], HY.out.2.2.2.1⟩
        rw [HR.out.2.2.2.2] at hN6 hG6
        have hbx6 : Blk (x1.setCell ⟨g, 2, none⟩ (.slice (some ⟨nb3, 0, none⟩) (k + 1) cap3)) bx 69 [.string gx.name, .int .i64 gx.locals, .int .i64 (ns : Int), .slice A3 gx.nodes.length c3] :=
          (HY.out.2.2.1.fr hap.fr (fun e => HY.out.2.2.2.2.1 _ e rfl)).far (p := ⟨g, 2, none⟩) (fun e => row_types HY.out.2.2.1 HY.out.2.1 (by decide) e) _
        have hov6 := HY.out.2.2.2.2.2
        obtain ⟨y2, hy2⟩ : ∃ y2, x1.setCell ⟨g, 2, none⟩ (.slice (some ⟨nb3, 0, none⟩) (k + 1) cap3) = y2 := ⟨_, rfl⟩
        rw [hy2] at hN6 hG6 hbx6
        have HZ := Lib.hid (And.intro hN6 (And.intro hG6 (And.intro hbx6 hov6)))
        have HE := Lib.hid hy2
        clear hN6 hG6 hbx6 hov6 hap HR HY hy2
        rw [HE.out]
        clear HE
        go_wp2
        -- its slots are made
        obtain ⟨rows2, r1, r2, r3, r4⟩ := HZ.out.1.ov.rows
        have hkl : (L.gl.zip (((u.graphs.take k).map slots0).map List.length)).length = k := by
          have hk0 : ((u.graphs.take k).map slots0).length = k := by rw [List.length_map, List.length_take]; have := HX.out.2.2.2.1; omega
          have hg0 : L.gl.length = ((u.graphs.take k).map slots0).length := HZ.out.1.gll
          rw [List.length_zip, List.length_map, hg0, hk0, Nat.min_self]
        rw [show (L.gl.zip (((u.graphs.take k).map slots0).map List.length)).length = k from hkl] at r1
        have HR := Lib.hid (And.intro r1 (And.intro r2 (And.intro r3 (And.intro r4 hkl))))
        clear r1 r2 r3 r4 hkl
        have hmk := fun w => mk_run (P := Tryz.prog) sl_i64 rfl ns (by have := HX.out.2.2.1; omega) (by decide) w
        have HMK := Lib.hid hmk; clear hmk
        have fz : ∀ z : XC (cAm y2 (w.heap.size + 1) 112 1 L.ov k rows2.flatten (fun v => [v]) g 4 2 (zerosV ns) ns 7 8 9 12) [12], FrW (fun q => L.ov.ownBlock = some q) y2 z.w := fun z => AmC.fr z.2.1 (z.2.2 12 (by simp))
        have f4 : ∀ z : XC (cAm y2 (w.heap.size + 1) 112 1 L.ov k rows2.flatten (fun v => [v]) g 4 2 (zerosV ns) ns 7 8 9 12) [12], z.w.cell? ⟨g, 4, none⟩ = some L.ov := fun z => (fz z).cell (HZ.out.2.1.cell 4) (acc_ne HZ.out.1.ov HZ.out.2.1 (by decide))
        have fb : ∀ z : XC (cAm y2 (w.heap.size + 1) 112 1 L.ov k rows2.flatten (fun v => [v]) g 4 2 (zerosV ns) ns 7 8 9 12) [12], z.w.cell? ⟨bx, 2, none⟩ = some (.int .i64 (ns : Int)) := fun z => (fz z).cell (p := ⟨bx, 2, none⟩) (HZ.out.2.2.1.cell 2) (fun e => HZ.out.2.2.2 _ e rfl)
        haveI hne : Nonempty (XC (cAm y2 (w.heap.size + 1) 112 1 L.ov k rows2.flatten (fun v => [v]) g 4 2 (zerosV ns) ns 7 8 9 12) [12]) := XC.ne (cAm_start (y := y2))
        clear fz
        refine wp_region_mixF (cAm y2 (w.heap.size + 1) 112 1 L.ov k rows2.flatten (fun v => [v]) g 4 2 (zerosV ns) ns 7 8 9 12) [7, 8, 9, 12] [0, 1, 2, 3, 4, 5, 6, 7, 8, 9, 10, 11, 12] [12] (by kernel_rfl) (by kernel_rfl) (by kernel_rfl) (by kernel_rfl) cAm_start cAm_hq (cAm_hA (by decide) (by decide) (by decide)) (dst_small (by rfl)) ?_
        iterate 7 (refine wpMix_read rfl rfl (fun K hK => ?_); go_simp; refine hK _ ?_; clear hK K)
        refine wpMix_act (some 76) rfl rfl rfl rfl (fun D A z hD hp hpre hC => cAm_make (by decide) (by decide) (by decide) (by decide) (by decide) (by decide) rfl (HMK.out _) hD hC) (fun D A z hD hpre hC => ?_)
        obtain ⟨kb, hkb, -⟩ := AmC.r0 hC hD
        rw [hkb]
        clear hpre hC hD hkb z A D
        refine wpMix_act (some 77) rfl rfl rfl rfl (fun D A z hD hp hpre hC => cAm_build (by decide) (by decide) (by decide) (by decide) (by decide) (by decide) rfl (by rw [(hpre 7 (by simp)).2]; simp only [List.map_toArray, List.map_cons, List.map_nil]; exact run_build_sl _ _ _ _) hD (hpre 7 (by simp)).1 hC) (fun D A z hD hpre hC => ?_)
        obtain ⟨nb4, hnb, -⟩ := AmC.r1 hC hD
        rw [hnb]
        clear hpre hC hD hnb z A D
        refine wpMix_act (some 78) rfl rfl rfl rfl (fun D A z hD hp hpre hC => cAm_append (by decide) (by decide) (by decide) (by decide) (by decide) (by decide) sl_i64s (by have := HZ.out.1.bel.size; have := HZ.out.1.box.lt; omega) (fun x hx => ownsRow_fr HR.out.1 (FrW.of_below (fun _ => False) hx) (fun _ _ => id)) rfl rfl rfl (by omega) (by unfold maxLen; omega) rfl (by obtain ⟨kb', hkb', -⟩ := AmC.r0 hC (AmC.o1 hC (hpre 8 (by simp)).1); rw [hkb']; simp [Value.oneCell']) hD (hpre 8 (by simp)).1 (hpre 8 (by simp)).2 hC) (fun D A z hD hpre hC => ?_)
        obtain ⟨nb5, cap5, hnb, -⟩ := AmC.r2 hC hD
        rw [hnb]
        clear hpre hC hD hnb z A D
        iterate 2 (refine wpMix_read rfl rfl (fun K hK => ?_); go_simp; refine hK _ ?_; clear hK K)
        refine wpMix_act0 rfl rfl rfl rfl (fun D A z hD hp hpre hC => cAm_store (by decide) (by decide) (by decide) (by decide) (by decide) (by decide) HZ.out.2.1 (by simp [Lay.cells]) (acc_ne HZ.out.1.ov HZ.out.2.1 (by decide)) (by kernel_rfl) rfl rfl rfl hD (hpre 9 (by simp)).1 (hpre 9 (by simp)).2 hC) (fun D A z hD hpre hC => ?_)
        clear hpre hC hD z A D
        refine wpMix_nil (fun D A z hD hAA hC => ?_)
        obtain ⟨nb6, cap6, x0', x1', hap, rfl, kb6, q1, q2, q3⟩ := AmC.fin hC (hD 12 (by decide))
        rw [q1] at hap
        clear hAA hC hD D f4 fb hne q1 A
        obtain ⟨hN7, hG7⟩ := HZ.out.1.pushO HZ.out.2.1 HR.out.2.1 HR.out.2.2.1 (fun i r x k1 k2 => HR.out.2.2.2.1 i r x k1 k2) (kb := kb6) (l := slots0 gx) (len := ns) (by unfold slots0; rw [HX.out.2.1]; simp) (by rw [show (L.gl.zip (((u.graphs.take k).map slots0).map List.length)).length = k from HR.out.2.2.2.2]; exact hap) q2 (by unfold slots0; rw [HX.out.2.1, Int.toNat_natCast, ← zeros_ints]; exact q3)
        rw [show (L.gl.zip (((u.graphs.take k).map slots0).map List.length)).length = k from HR.out.2.2.2.2] at hN7 hG7
        have htk : u.graphs.take k ++ [gx] = u.graphs.take (k + 1) := by rw [List.take_add_one, HX.out.1]; rfl
        have htm : (u.graphs.take k).map slots0 ++ [slots0 gx] = (u.graphs.take (k + 1)).map slots0 := by rw [← htk, List.map_append]; rfl
        rw [htk] at hN7
        rw [show (u.graphs.take k).map slots0 ++ [slots0 gx] = _ from htm] at hN7
        have HFIN := Lib.hid (And.intro hN7 hG7)
        clear hN7 hG7 htk htm hap q2 q3 HR HZ HMK
        go_wp2
        go_roundw
        case rel => exact ⟨k + 1, _, _, by go_num, by have := HX.out.2.2.2.1; omega, HFIN⟩
        case measure => have := HX.out.2.2.2.1; simp [intOf]; omega
      · obtain rfl : k = u.graphs.length := by omega
        rw [List.take_length] at HN
        have b0 := HN.out.1.box.cell 0
        simp only [List.getElem?_cons_zero] at b0
        clear hk hlt
        have ng : ¬ ((u.graphs.length : Int) < u.graphs.length) := by omega
        go_wp2
        go_loopw [85] (fun i wr => ∃ (k : Nat) (L : Lay) (S : Nat → Prop), i = .int .i64 k ∧ k ≤ u.shared.length ∧ Hid (NewB w wr g L S (.slice sA u.shared.length sc) (.slice lA u.locks.length lc) (.slice gA u.graphs.length gc) u.shared u.locks u.graphs ⟨List.replicate u.graphs.length 0, u.graphs.map slots0, (u.shared.take k).map (·.word), List.replicate u.locks.length 0, []⟩ ∧ Blk wr g 115 L.cells)) (fun i _ => u.shared.length - (intOf i).toNat)
        case atStart => exact ⟨0, L, S, rfl, by omega, HN⟩
        case round =>
          clear HN b0 ng L S
          obtain ⟨k, L, S, rfl, hk, HN⟩ := hrel
          by_cases hlt : k < u.shared.length
          · obtain ⟨dx, hdx⟩ : ∃ dx, u.shared[k]? = some dx := ⟨_, List.getElem?_eq_getElem hlt⟩
            obtain ⟨gb, go, rfl, hd0, hd1, hd2⟩ := HU.out.2.1.at_ hdx
            have hcw := (cmap_below HN.out.1.bel)
            have HLG : Hid (∀ j v, ([.string dx.name, .int .i64 dx.word, .int .i64 dx.at_] : List Value)[j]? = some v → wr.cell? ⟨gb, go + k * 3 + j, none⟩ = some v) := Lib.hid fun j v hj => by
              match j, hj with
              | 0, hj => injection hj with hj; subst hj; exact hcw _ _ _ hd0
              | 1, hj => injection hj with hj; subst hj; exact hcw _ _ _ hd1
              | 2, hj => injection hj with hj; subst hj; exact hcw _ _ _ hd2
            have HX := Lib.hid (And.intro hdx (And.intro hlt hk))
            have i0 : (0 : Int) ≤ k := by omega
            have i1 : (k : Int) < u.shared.length := by omega
            clear hdx hd0 hd1 hd2 hcw hlt hk
            go_wp2_with (first
              | (refine wpList_load_at rfl 118 _ rfl gb (go + k * 3) rfl _ _ HLG.out Tryz.underlying118 rfl (by kernel_rfl) ?_))
            have hbx := Blk.new wr 118 [.string dx.name, .int .i64 dx.word, .int .i64 dx.at_]
            have hbw := Below_alloc' wr (.cells #[.string dx.name, .int .i64 dx.word, .int .i64 dx.at_] 118)
            have hN1 := HN.out.1.below hbw
            have hG1 := HN.out.2.below hbw HN.out.2.lt
            obtain ⟨y, hy⟩ : ∃ y, wr.alloc (.cells #[.string dx.name, .int .i64 dx.word, .int .i64 dx.at_] 118) = y := ⟨_, rfl⟩
            obtain ⟨bx, hb⟩ : ∃ bx, wr.heap.size = bx := ⟨_, rfl⟩
            change Blk (wr.alloc (.cells #[.string dx.name, .int .i64 dx.word, .int .i64 dx.at_] 118)) wr.heap.size 118 [.string dx.name, .int .i64 dx.word, .int .i64 dx.at_] at hbx
            rw [hy] at hbx hN1 hG1
            rw [hb] at hbx
            have hkl : ((u.shared.take k).map (·.word)).length = k := by rw [List.length_map, List.length_take]; have := HX.out.2.1; omega
            have hmem := hN1.mem
            simp only at hmem
            rw [hkl] at hmem
            have HY := Lib.hid (And.intro hN1 (And.intro hG1 (And.intro hbx (And.intro hkl hmem))))
            have HE := Lib.hid (And.intro hy hb)
            clear hN1 hG1 hbx hbw hy hb hkl hmem HLG
            rw [HE.out.1, HE.out.2]
            clear HE
            have fz : ∀ z : XC (cAp y (w.heap.size + 1) 2 1 L.mv k (i64sV ((u.shared.take k).map (·.word))) [.int .i64 dx.word] g 5 7 8 11) [11], FrW (fun q => L.mv.ownBlock = some q) y z.w := fun z => ApC.fr z.2.1 (z.2.2 11 (by simp))
            have f5 : ∀ z : XC (cAp y (w.heap.size + 1) 2 1 L.mv k (i64sV ((u.shared.take k).map (·.word))) [.int .i64 dx.word] g 5 7 8 11) [11], z.w.cell? ⟨g, 5, none⟩ = some L.mv := fun z => (fz z).cell (HY.out.2.1.cell 5) (own_ne HY.out.1.mem HY.out.2.1 (by decide))
            have fb : ∀ z : XC (cAp y (w.heap.size + 1) 2 1 L.mv k (i64sV ((u.shared.take k).map (·.word))) [.int .i64 dx.word] g 5 7 8 11) [11], z.w.cell? ⟨bx, 1, none⟩ = some (.int .i64 dx.word) := fun z => (fz z).cell (p := ⟨bx, 1, none⟩) (HY.out.2.2.1.cell 1) (own_ne HY.out.1.mem HY.out.2.2.1 (by decide))
            haveI hne : Nonempty (XC (cAp y (w.heap.size + 1) 2 1 L.mv k (i64sV ((u.shared.take k).map (·.word))) [.int .i64 dx.word] g 5 7 8 11) [11]) := XC.ne (cAp_start (y := y))
            clear fz
            refine wp_region_mixF (cAp y (w.heap.size + 1) 2 1 L.mv k (i64sV ((u.shared.take k).map (·.word))) [.int .i64 dx.word] g 5 7 8 11) [7, 8, 11] [0, 1, 2, 3, 4, 5, 6, 7, 8, 9, 10, 11] [11] (by kernel_rfl) (by kernel_rfl) (by kernel_rfl) (by kernel_rfl) cAp_start cAp_hq (cAp_hA (by decide) (by decide)) (dst_small (by rfl)) ?_
            iterate 7 (refine wpMix_read rfl rfl (fun K hK => ?_); go_simp; refine hK _ ?_; clear hK K)
            refine wpMix_act (some 96) rfl rfl rfl rfl (fun D A z hD hp hpre hC => cAp_build (by decide) (by decide) (by decide) rfl (by simp only [List.map_toArray, List.map_cons, List.map_nil]; exact run_build_i64 _ _) hD hC) (fun D A z hD hpre hC => ?_)
            obtain ⟨nb, hnb, -⟩ := ApC.r1 hC hD
            rw [hnb]
            clear hpre hC hD hnb z A D
            refine wpMix_act (some 97) rfl rfl rfl rfl (fun D A z hD hp hpre hC => cAp_append (by decide) (by decide) (by decide) sl_i64 (by have := HY.out.1.bel.size; have := HY.out.1.box.lt; omega) (fun x hx => ownsRow_fr HY.out.2.2.2.2 (FrW.of_below (fun _ => False) hx) (fun _ _ => id)) rfl rfl rfl (by omega) (by unfold maxLen; omega) rfl (by simp [Value.oneCell']) hD (hpre 7 (by simp)).1 (hpre 7 (by simp)).2 hC) (fun D A z hD hpre hC => ?_)
            obtain ⟨nb2, cap2, hnb, -⟩ := ApC.r2 hC hD
            rw [hnb]
            clear hpre hC hD hnb z A D
            iterate 2 (refine wpMix_read rfl rfl (fun K hK => ?_); go_simp; refine hK _ ?_; clear hK K)
            refine wpMix_act0 rfl rfl rfl rfl (fun D A z hD hp hpre hC => cAp_store (by decide) (by decide) (by decide) HY.out.2.1 (by simp [Lay.cells]) (own_ne HY.out.1.mem HY.out.2.1 (by decide)) (by kernel_rfl) rfl rfl rfl hD (hpre 8 (by simp)).1 (hpre 8 (by simp)).2 hC) (fun D A z hD hpre hC => ?_)
            clear hpre hC hD z A D
            refine wpMix_nil (fun D A z hD hAA hC => ?_)
            obtain ⟨nb3, cap3, x0, x1, hap, rfl⟩ := ApC.fin hC (hD 11 (by decide))
            clear hAA hC hD D A f5 fb hne
            obtain ⟨hN6, hG6⟩ := HY.out.1.pushM HY.out.2.1 (x := dx.word) (nb := nb3) (cap := cap3) (x0 := x0) (x1 := x1) (by rw [show ((u.shared.take k).map (·.word)).length = k from HY.out.2.2.2.1]; exact hap)
            rw [show ((u.shared.take k).map (·.word)).length = k from HY.out.2.2.2.1] at hN6 hG6
            have htm : (u.shared.take k).map (·.word) ++ [dx.word] = (u.shared.take (k + 1)).map (·.word) := by rw [List.take_add_one, HX.out.1, List.map_append]; rfl
            rw [show (u.shared.take k).map (·.word) ++ [dx.word] = _ from htm] at hN6
            have HFIN := Lib.hid (And.intro hN6 hG6)
            clear hN6 hG6 htm hap HY
            go_wp2
            go_roundw
            case rel => exact ⟨k + 1, _, _, by go_num, by have := HX.out.2.1; omega, HFIN⟩
            case measure => have := HX.out.2.1; simp [intOf]; omega
          · obtain rfl : k = u.shared.length := by omega
            rw [List.take_length] at HN
            clear hk hlt
            have ng : ¬ ((u.shared.length : Int) < u.shared.length) := by omega
            obtain ⟨hb, hc, hhv⟩ := own_slice HN.out.1.hold
            have hhl : (List.replicate u.locks.length (0 : Int)).length = u.locks.length := List.length_replicate
            have hhv := hhv.1
            simp only [List.length_replicate] at hhv
            have HV := Lib.hid hhv; clear hhv hhl
            have b6 : wr.cell? ⟨g, 6, none⟩ = some (.slice hb u.locks.length hc) := (HN.out.2.cell 6).trans (by rw [← HV.out]; rfl)
            go_wp2
            go_loopw [106, 12] (fun i _ wr => ∃ (k : Nat), i = .int .i64 k ∧ k ≤ u.locks.length ∧ Hid (NewB w wr g L S (.slice sA u.shared.length sc) (.slice lA u.locks.length lc) (.slice gA u.graphs.length gc) u.shared u.locks u.graphs ⟨List.replicate u.graphs.length 0, u.graphs.map slots0, u.shared.map (·.word), List.replicate k (-1) ++ List.replicate (u.locks.length - k) 0, []⟩ ∧ Blk wr g 115 L.cells)) (fun i _ _ => u.locks.length - (intOf i).toNat)
            case atStart => exact ⟨0, rfl, by omega, HN⟩
            case round =>
              clear HN b6 ng
              obtain ⟨k, rfl, hk, HN⟩ := hrel
              by_cases hlt : k < u.locks.length
              · have hhl : (List.replicate k (-1 : Int) ++ List.replicate (u.locks.length - k) 0).length = u.locks.length := by simp; omega
                have hx : (List.replicate k (-1 : Int) ++ List.replicate (u.locks.length - k) 0)[k]? = some 0 := by
                  rw [List.getElem?_append_right (by simp)]
                  simp [List.getElem?_replicate]; omega
                obtain ⟨b, c, he, e1, e2, e3, e4⟩ := own_elem HN.out.1.hold (i := k) (x := .int .i64 0) (by simp only [i64sV]; rw [List.getElem?_map, hx]; rfl)
                simp only at he
                rw [hhl] at he
                have HV2 := he
                rw [HV.out] at HV2
                injection HV2 with h1 _ h3
                subst h1 h3
                have b6 : wr.cell? ⟨g, 6, none⟩ = some (.slice (some ⟨b, 0, none⟩) u.locks.length hc) := (HN.out.2.cell 6).trans (by rw [← he]; rfl)
                obtain ⟨hN2, hG2⟩ := HN.out.1.setH HN.out.2 he k (-1)
                have hst : (List.replicate k (-1 : Int) ++ List.replicate (u.locks.length - k) 0).set k (-1) = List.replicate (k + 1) (-1) ++ List.replicate (u.locks.length - (k + 1)) 0 := by
                  rw [List.set_append_right _ _ (by simp), List.length_replicate, Nat.sub_self]
                  have : u.locks.length - k = (u.locks.length - (k + 1)) + 1 := by omega
                  rw [this, List.replicate_succ, List.set_cons_zero, List.replicate_succ', List.append_assoc]
                  rfl
                simp only at hN2
                rw [hst] at hN2
                have HFIN := Lib.hid (And.intro hN2 hG2)
                have i0 : (0 : Int) ≤ k := by omega
                have i1 : (k : Int) < u.locks.length := by omega
                clear hN2 hG2 hst hhl hx he e3 e4 HN
                go_wp2
                go_roundw
                case rel => exact ⟨k + 1, by go_num, by omega, HFIN⟩
                case measure => simp [intOf]; omega
              · obtain rfl : k = u.locks.length := by omega
                clear hk hlt
                have ng : ¬ ((u.locks.length : Int) < u.locks.length) := by omega
                have hfin : (⟨List.replicate u.graphs.length 0, u.graphs.map slots0, u.shared.map (·.word), List.replicate u.locks.length (-1) ++ List.replicate (u.locks.length - u.locks.length) 0, []⟩ : Mach) = startM u := by
                  unfold startM
                  rw [Nat.sub_self, List.replicate_zero, List.append_nil, List.map_const', List.map_const']
                  rfl
                have HH := HN.out.1
                rw [hfin] at HH
                obtain ⟨R, hM, hR1, hR2⟩ := HH.made HN.out.2
                have HF := Lib.hid (And.intro hM (And.intro hR1 (And.intro hR2 HH.bel)))
                clear hM hR1 hR2 HH hfin HN
                go_wp2
                go_ret2
                exact ⟨g, L, R, rfl, HF.out⟩
end Go.Proofs.YtffgnjgphkdodaaGreatDoor
