import Derived.Test.YtpaieopclpddnaaDoorP25
import Derived.Test.YtpaieopclpddnaaDoorP18
import Derived.Test.YtpaieopclpddnaaDoorP19
/- Lists that are asked for, whatever the answer. -/
namespace Go.Proofs.YtpaieopclpddnaaDoor
open Go Go.RowKit
theorem Sl_nil0 {α : Type} (R : CM → Nat → Nat → α → Prop) (size : Nat) (m : CM) : Sl R size m (.slice none 0 0) [] := ⟨none, 0, rfl, by simp, ⟨by simp [maxLen], fun _ => rfl⟩, .inl rfl⟩
open Classical in
noncomputable def listsL (u : Unit_) (ok : Prop) (T : List (List Int)) : List (List Int) := if checkF u = none ∧ ok then T else []
theorem HeldPost.one {u : Unit_} {t : Int} {w w' : World} {e : Ending} (h : HeldPost u t w e w') :
    ∃ A n c, e = .returned (.tuple #[.slice A n c, .int .i64 (errOf u (0 ≤ t ∧ t < u.graphs.length))]) ∧ Sl (Cells intsV) 1 (part w' w.heap.size w'.heap.size) (.slice A n c) (listsL u (0 ≤ t ∧ t < u.graphs.length) (heldsL u t.toNat)) ∧ Below w.heap.size w w' := by
  unfold errOf listsL
  rcases h with ⟨h1, h2, v, rfl, h3, h4⟩ | ⟨h1, h2, rfl, h4⟩ | ⟨h1, rfl, h4⟩
  · obtain ⟨A, c, rfl, _⟩ := id h3
    rw [if_pos h1, if_pos h2, if_pos ⟨h1, h2⟩]
    exact ⟨_, _, _, rfl, h3, h4⟩
  · rw [if_pos h1, if_neg h2, if_neg (fun h => h2 h.2)]
    exact ⟨_, _, _, rfl, Sl_nil0 _ _ _, h4⟩
  · rw [if_neg h1, if_neg (fun h => h1 h.1)]
    exact ⟨_, _, _, rfl, Sl_nil0 _ _ _, h4⟩
theorem guards_one {u : Unit_} {w w' : World} {e : Ending} (h : (checkF u = none ∧ ∃ v, e = .returned (.tuple #[v, .int .i64 0]) ∧ Sl (Cells intsV) 1 (part w' w.heap.size w'.heap.size) v (guardsL u) ∧ Below w.heap.size w w') ∨
      (checkF u ≠ none ∧ e = .returned (.tuple #[.slice none 0 0, .int .i64 60]) ∧ Below w.heap.size w w')) :
    ∃ A n c, e = .returned (.tuple #[.slice A n c, .int .i64 (errOf u True)]) ∧ Sl (Cells intsV) 1 (part w' w.heap.size w'.heap.size) (.slice A n c) (listsL u True (guardsL u)) ∧ Below w.heap.size w w' := by
  unfold errOf listsL
  rcases h with ⟨h1, v, rfl, h3, h4⟩ | ⟨h1, rfl, h4⟩
  · obtain ⟨A, c, rfl, _⟩ := id h3
    rw [if_pos h1, if_pos trivial, if_pos ⟨h1, trivial⟩]
    exact ⟨_, _, _, rfl, h3, h4⟩
  · rw [if_neg h1, if_neg (fun h => h1 h.1)]
    exact ⟨_, _, _, rfl, Sl_nil0 _ _ _, h4⟩
end Go.Proofs.YtpaieopclpddnaaDoor
