import Derived.Test.YtkkmkjjbffpgnaaP50
/- Rows of the call's own, for the law SharingOwn. -/
namespace Go.Proofs.Ytkkmkjjbffpgnaa
open Go Go.RowKit
section
variable {w w' : World} {base : Nat} {t e : TypeId} {v : Value} {n K : Nat}
theorem OkRow.block {s : Nat} (h : OkRow w base e s v n) : ∀ g, v.ownBlock = some g → ∃ cur, w.heap[g]? = some (.cells cur e (0, 0)) := fun g hg => by
  obtain ⟨ys, h1⟩ := h
  rcases h1.2 with ⟨rfl, _⟩ | ⟨g', cap, cur, rfl, _, k3, _⟩
  · cases hg
  · injection hg with hg
    subst hg
    exact ⟨cur, k3⟩
theorem OkRow.lt {s : Nat} (h : OkRow w base e s v n) : ∀ g, v.ownBlock = some g → base ≤ g ∧ g < w.heap.size := by
  obtain ⟨ys, h1⟩ := h
  exact h1.lt
theorem OkRow.nil (w : World) (base : Nat) (e : TypeId) (s : Nat) : OkRow w base e s (.slice none 0 0) 0 := ⟨[], World.ownsRow_nil _ _ _ _⟩
theorem OkRow.form {s : Nat} (h : OkRow w base e s v n) : ∃ A c, v = .slice A n c := by obtain ⟨ys, h1⟩ := h; obtain ⟨A, c, h2, _⟩ := own_slice h1; exact ⟨A, c, h2⟩
theorem OkRow.cellAt {s : Nat} (h : OkRow w base e s v n) {i : Nat} (hi : i < n * s) : ∃ g c, v = .slice (some ⟨g, 0, none⟩) n c ∧ base ≤ g ∧ (∃ x, w.cell? ⟨g, i, none⟩ = some x) ∧ w.frozen? ⟨g, i, none⟩ = false := by
  obtain ⟨ys, h1, h2⟩ := h
  rcases id h2 with ⟨rfl, rfl⟩ | ⟨g, cap, cur, rfl, hb, hh, hn, hm, hc, ht⟩
  · omega
  · have : n * s ≤ cap * s := Nat.mul_le_mul_right _ hn
    have hlt : i < cur.size := by omega
    refine ⟨g, cap, rfl, hb, ⟨cur[i], ?_⟩, frozen_of_row w g i _ _ hh⟩
    rw [cell_of_row w g i cur e (0, 0) hh]
    exact Array.getElem?_eq_getElem hlt
theorem OkRow.maxl {s : Nat} (h : OkRow w base e s v n) : n ≤ maxLen := by
  obtain ⟨ys, h1, h2⟩ := h
  rcases id h2 with ⟨rfl, rfl⟩ | ⟨g, cap, cur, rfl, hb, hh, hn, hm, hc, ht⟩
  · simp [maxLen]
  · omega
theorem OkTous.row (h : OkTous w base t e v n K) : OkRow w base t 2 v n := by obtain ⟨ys, h1, _⟩ := h; exact ⟨ys, h1⟩
theorem OkTous.nil (w : World) (base : Nat) (t e : TypeId) (K : Nat) : OkTous w base t e (.slice none 0 0) 0 K := ⟨[], World.ownsRow_nil _ _ _ _, fun _ h => by cases h⟩
/-- A step that leaves the row's own block. -/
theorem OkTous.far (h : OkTous w base t e v n K) (hs : Shape w w') (hc : ∀ g, v.ownBlock = some g → w'.heap[g]? = w.heap[g]?) : OkTous w' base t e v n K := by
  obtain ⟨ys, h1, h2⟩ := h
  refine ⟨ys, ⟨h1.1, ?_⟩, fun r hr => by obtain ⟨k, h3, h4⟩ := h2 r hr; exact ⟨k, h3, h4.shape hs⟩⟩
  rcases h1.2 with k | ⟨g, cap, cur, rfl, k2, k3, k4⟩
  · exact .inl k
  · exact .inr ⟨g, cap, cur, rfl, k2, (hc g rfl).trans k3, k4⟩
theorem OkTous.below (h : OkTous w base t e v n K) (hb : Below w.heap.size w w') : OkTous w' base t e v n K :=
  h.far (Shape.below hb) fun g hg => hb.block g (h.row.lt g hg).2
/-- A write into a row of another type. -/
theorem OkTous.inner {q j : Nat} {cur : Array Value} {x : Value} (h : OkTous w base t e v n K) (hne : t ≠ e) (hh : w.heap[q]? = some (.cells cur e (0, 0))) : OkTous (w.setCell ⟨q, j, none⟩ x) base t e v n K :=
  h.far (Shape.setCell w q j x) fun g hg => by
    obtain ⟨c, hc⟩ := h.row.block g hg
    exact heap_setCell_other w ⟨q, j, none⟩ g x (row_types hc hh hne)
/-- An append onto a row of another type. -/
theorem OkTous.grown {r : Value} {b k : Nat} (h : OkTous w base t e v n K) (hne : t ≠ e) (hr : OkRow w b e 1 r k) (hg : w.grownBy w' r.ownBlock) (hs : Shape w w') : OkTous w' base t e v n K :=
  h.far hs fun g hv => by
    obtain ⟨c, hc⟩ := h.row.block g hv
    refine hg.block g (lt_of_block hc) fun e => ?_
    obtain ⟨c', hc'⟩ := hr.block g e.symm
    exact row_types hc hc' hne rfl
theorem OkTous.low {base' : Nat} (h : OkTous w base t e v n K) (hb : base' ≤ base) : OkTous w base' t e v n K := by
  obtain ⟨ys, h1, h2⟩ := h
  refine ⟨ys, ⟨h1.1, ?_⟩, fun r hr => by obtain ⟨k, h3, h4⟩ := h2 r hr; exact ⟨k, h3, h4.low hb⟩⟩
  rcases h1.2 with k | ⟨g, cap, cur, k1, k2, k3⟩
  · exact .inl k
  · exact .inr ⟨g, cap, cur, k1, by omega, k3⟩
theorem OkTous.at_ (h : OkTous w base t e v n K) {i : Nat} (hi : i < n) : ∃ g c a b ka kb, v = .slice (some ⟨g, 0, none⟩) n c ∧ base ≤ g ∧ w.cell? ⟨g, i * 2, none⟩ = some a ∧ w.cell? ⟨g, i * 2 + 1, none⟩ = some b ∧ (∃ cur, w.heap[g]? = some (.cells cur t (0, 0))) ∧ ka ≤ K ∧ kb ≤ K ∧ OkRow w base e 1 a ka ∧ OkRow w base e 1 b kb := by
  obtain ⟨ys, h1, h2⟩ := h
  rcases id h1.2 with ⟨rfl, rfl⟩ | ⟨g, cap, cur, rfl, hb, hh, hn, hm, hcs, ht⟩
  · omega
  · have hl : i * 2 + 1 < ys.length := by have := h1.1; omega
    have hy0 : ys[i * 2]? = some ys[i * 2] := List.getElem?_eq_getElem (by omega)
    have hy1 : ys[i * 2 + 1]? = some ys[i * 2 + 1] := List.getElem?_eq_getElem hl
    have c0 := h1.cells (g := g) rfl _ _ hy0
    have c1 := h1.cells (g := g) rfl _ _ hy1
    rw [add_mk, Nat.zero_add] at c0 c1
    obtain ⟨ka, a1, a2⟩ := h2 _ (List.mem_of_getElem? hy0)
    obtain ⟨kb, b1, b2⟩ := h2 _ (List.mem_of_getElem? hy1)
    exact ⟨g, cap, _, _, ka, kb, rfl, hb, c0, c1, ⟨cur, hh⟩, a1, b1, a2, b2⟩
end
theorem cell_far2 {wr w' : World} {q : Nat} (h : w'.heap[q]? = wr.heap[q]?) (o : Nat) : w'.cell? ⟨q, o, none⟩ = wr.cell? ⟨q, o, none⟩ := World.cell?_of_block h
theorem int_ne_touch : (42 : Nat) ≠ 3 := by decide
/-- What SharingOwn writes into, and what stays. -/
structure OwnW (W1 : World) (B : Nat) (vl vr vo : Value) (nl nr no : Nat) (wr : World) : Prop where
  l : OkTous wr B 42 3 vl nl 4096
  r : OkRow wr B 46 4 vr nr
  o : OkRow wr B 3 1 vo no
  b : Below B W1 wr
section
variable {W1 wr w' : World} {B nl nr no : Nat} {vl vr vo : Value}
/-- A write into one of the rows of numbers. -/
theorem OwnW.put {x v : Value} {k g j : Nat} (h : OwnW W1 B vl vr vo nl nr no wr) (hx : OkRow wr B 3 1 x k) (hg : x.ownBlock = some g) : OwnW W1 B vl vr vo nl nr no (wr.setCell ⟨g, j, none⟩ v) := by
  obtain ⟨cur, hh⟩ := hx.block g hg
  have := (hx.lt g hg).1
  exact ⟨h.l.inner int_ne_touch hh, h.r.shape (Shape.setCell _ _ _ _), h.o.shape (Shape.setCell _ _ _ _), h.b.setCell (p := ⟨g, j, none⟩) this _⟩
theorem OwnW.app {x : Value} {k : Nat} (h : OwnW W1 B vl vr vo nl nr no wr) (hB : B ≤ wr.heap.size) (hx : OkRow wr B 3 1 x k) (hg : wr.grownBy w' x.ownBlock) (hs : Shape wr w') : OwnW W1 B vl vr vo nl nr no w' :=
  ⟨h.l.grown int_ne_touch hx hg hs, h.r.shape hs, h.o.shape hs, h.b.grown hg hB (fun q hq => (hx.lt q hq).1)⟩
theorem OwnW.alloc (h : OwnW W1 B vl vr vo nl nr no wr) (hB : B ≤ wr.heap.size) (o : Obj) : OwnW W1 B vl vr vo nl nr no (wr.alloc o) :=
  ⟨h.l.below (Below_alloc' _ _), h.r.shape (Shape.alloc _ _), h.o.shape (Shape.alloc _ _), h.b.alloc hB _⟩
end
end Go.Proofs.Ytkkmkjjbffpgnaa
