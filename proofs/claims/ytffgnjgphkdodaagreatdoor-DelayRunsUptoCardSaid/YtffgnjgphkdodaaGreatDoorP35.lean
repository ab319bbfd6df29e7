import Derived.Test.YtffgnjgphkdodaaGreatDoorP01
import Derived.Test.YtffgnjgphkdodaaGreatDoorP09
import Derived.ArgAppend
/- The law of a copy: append of whatever slice to an empty one without room. -/
namespace Go.Proofs.YtffgnjgphkdodaaGreatDoor
open Go Go.RowKit
theorem flatten_inv : ∀ (rows : List (List Value)) (size j : Nat) (u : Value), 0 < size → (∀ r ∈ rows, r.length = size) → rows.flatten[j]? = some u → ∃ i k r, rows[i]? = some r ∧ r[k]? = some u ∧ j = i * size + k
  | [], _, _, _, _, _, h => by simp at h
  | q :: rows, size, j, u, hs, hl, h => by
    have hq := hl q (by simp)
    rw [List.flatten_cons, List.getElem?_append, hq] at h
    by_cases hj : j < size
    · rw [if_pos hj] at h
      exact ⟨0, j, q, rfl, h, by simp⟩
    · rw [if_neg hj] at h
      obtain ⟨i, k, r, h1, h2, h3⟩ := flatten_inv rows size (j - size) u hs (fun r hr => hl r (by simp [hr])) h
      exact ⟨i + 1, k, r, by simpa using h1, h2, by rw [Nat.succ_mul]; omega⟩
/-- Elements that are rows of cells. -/
structure RowR {α : Type} (R : CM → Nat → Nat → α → Prop) (f : α → List Value) (size : Nat) : Prop where
  dn : ∀ m b o x, R m b o x → ∀ j v, (f x)[j]? = some v → m b (o + j) = some v
  up : ∀ m b o x, (∀ j v, (f x)[j]? = some v → m b (o + j) = some v) → R m b o x
  len : ∀ x, (f x).length = size
  one : ∀ x, ∀ u ∈ f x, u.oneCell' = true
def Decl.cells (d : Decl) : List Value := [.string d.name, .int .i64 d.word, .int .i64 d.at_]
theorem row_decl : RowR DeclC Decl.cells 3 where
  dn := fun m b o d h j v hj => by
    obtain ⟨h1, h2, h3⟩ := h
    match j, hj with
    | 0, hj => injection hj with hj; subst hj; exact h1
    | 1, hj => injection hj with hj; subst hj; exact h2
    | 2, hj => injection hj with hj; subst hj; exact h3
  up := fun m b o d h => ⟨h 0 _ rfl, h 1 _ rfl, h 2 _ rfl⟩
  len := fun _ => rfl
  one := fun d u hu => by
    simp [Decl.cells] at hu
    rcases hu with rfl | rfl | rfl <;> rfl
theorem row_node : RowR NodeC Node.cells 13 where
  dn := fun m b o d h => h
  up := fun m b o d h => h
  len := fun _ => rfl
  one := fun d u hu => by
    simp [Node.cells] at hu
    rcases hu with rfl | rfl | rfl | rfl | rfl | rfl | rfl | rfl | rfl | rfl | rfl | rfl | rfl <;> rfl
section
variable {P : Program} {α : Type} {R : CM → Nat → Nat → α → Prop} {f : α → List Value} {t e size bytes : Nat} {z : Value}
theorem run_copy (hR : RowR R f size) (T : SlT P t e size bytes z) (w : World) (ty : Nat) (g : Addr) (A : Option Addr) (m c : Nat) (l : List α) (hr : Sl R size (cmap w) (.slice A m c) l) (hb : m * bytes ≤ 140737488355328) :
    ∃ A' c' w', (Builtin.append_ #[t, t] ty #[.slice (some g) 0 0, .slice A m c]).run P w = .ok (.slice A' m c') w' ∧ Sl R size (part w' w.heap.size w'.heap.size) (.slice A' m c') l ∧ Below w.heap.size w w' := by
  obtain ⟨i, hi, hz, hsz, hby⟩ := T.info
  have hm := hr.len.1
  obtain ⟨A0, c0, he, hlc, ⟨h4, h5⟩, h6⟩ := hr
  injection he with e1 e2 e3
  subst e1 e3
  have hml : m ≤ maxLen := by omega
  by_cases hl : l = []
  · subst hl
    obtain rfl : m = 0 := hm
    refine ⟨some g, 0, w, ?_, ⟨some g, 0, rfl, Nat.le_refl _, ⟨by simp [maxLen], fun h => by cases h⟩, .inl rfl⟩, Below.refl _ _⟩
    cases A with
    | none => simp [Builtin.append_, run_underlying T.ht, sizeOf, typeInfo, hi, Builtin.lenOf, Builtin.firstCells, storeCells]
    | some a => simp [Builtin.append_, run_underlying T.ht, sizeOf, typeInfo, hi, Builtin.lenOf, Builtin.firstCells, storeCells, loadCells, loadCellsFrom]
  · rcases h6 with h6 | ⟨b, o, rfl, h6⟩
    · exact absurd h6 hl
    have hpos : 0 < m := by
      cases l with
      | nil => exact absurd rfl hl
      | cons a r => rw [e2]; simp
    have hrl : ∀ r ∈ l.map f, r.length = size := fun r hr => by
      obtain ⟨x, _, rfl⟩ := List.mem_map.1 hr
      exact hR.len x
    have hfl : (l.map f).flatten.length = m * size := by
      have : ∀ l : List α, (l.map f).flatten.length = l.length * size := by
        intro l
        induction l with
        | nil => simp
        | cons x l ih => rw [List.map_cons, List.flatten_cons, List.length_append, ih, hR.len, List.length_cons, Nat.succ_mul, Nat.add_comm]
      rw [this, ← e2]
    obtain ⟨v', w', hrun, hown, hg⟩ := run_append_arg_grows (P := P) w t ty e i z size bytes T.ht hi hz hsz hby T.hzs T.hsz g 0 0 [] (by simp) (fun j u h => by simp at h) ⟨b, o, none⟩ m c (l.map f).flatten hfl (fun j u hj => by
      obtain ⟨k, q, r, k1, k2, rfl⟩ := flatten_inv _ _ _ _ T.hsz hrl hj
      rw [List.getElem?_map] at k1
      cases hx : l[k]? with
      | none => rw [hx] at k1; cases k1
      | some x =>
        rw [hx] at k1
        injection k1 with k1
        subst k1
        have := hR.dn _ _ _ _ (h6 k x hx) q u k2
        rw [add_mk, ← Nat.add_assoc]
        exact this) (by omega) (by omega) (by rw [Nat.zero_add]; exact hb)
    rw [Nat.zero_add, List.nil_append] at hown
    obtain ⟨A', c', rfl, _⟩ := own_slice hown
    refine ⟨A', c', w', hrun, ?_, ⟨hg.os, hg.tape, hg.output, hg.size, fun k hk => hg.block k hk (by simp)⟩⟩
    have hacc : Acc (fun _ cs x => cs = f x) size e w.heap.size (fun _ => False) (.slice A' m c') l w' := by
      refine ⟨⟨l.map f, by rw [← e2]; exact hown, by simp, hrl, fun i r x hi hx => ?_⟩, fun _ h => h.elim⟩
      rw [List.getElem?_map, hx] at hi
      injection hi with hi
      exact hi.symm
    haveI : MonoV (fun (_ : CM) cs (x : α) => cs = f x) := ⟨fun _ h => h⟩
    exact (hacc.done (Nat.le_refl _) (Nat.le_refl _)).imp' fun m b o x hx => hR.up _ _ _ _ (Cells_plain hx)
theorem app_copy (hR : RowR R f size) (T : SlT P t e size bytes z) {ops : Array Oper} {rest : List Oper} {o : Oper} {a : Act} {w : World} {Q : Exit → Act → World → Prop} (hgd : o.guard = none) (s x : Operand)
    (ho : o.op = .call { callee := .builtin .append, args := #[s, x], argTypes := #[t, t] }) (g : Addr) (hs : a.eval s = .slice (some g) 0 0) (A : Option Addr) (m c : Nat) (l : List α) (hx : a.eval x = .slice A m c) (hr : Sl R size (cmap w) (.slice A m c) l)
    (hb : m * bytes ≤ 140737488355328) (h : ∀ A' c' w', Sl R size (part w' w.heap.size w'.heap.size) (.slice A' m c') l → Below w.heap.size w w' → wpList P ops Q rest (a.put o.dst (.slice A' m c')) w') : wpList P ops Q (o :: rest) a w := by
  refine wpList_plain hgd fun K hK => ?_
  obtain ⟨A', c', w', hrun, h1, h2⟩ := run_copy hR T w o.type g A m c l hr hb
  unfold Oper.wp execOp
  simp only [ho, resolve, invoke, builtin, Sem.run_bind, Sem.run_pure, Result.andThen_ok, List.map_toArray, List.map_cons, List.map_nil, hs, hx, hrun]
  exact hK _ _ (h A' c' w' h1 h2)
end
end Go.Proofs.YtffgnjgphkdodaaGreatDoor
