import Derived.Test.YtmkpjiahkepigaaGreatP42
/- The plain law of Apart: what threads have in common. -/
namespace Go.Proofs.YtmkpjiahkepigaaGreat
open Go Go.RowKit
open Classical in
/-- Do a thread's p and another one's q touch one thing? -/
noncomputable def comP (x y : Graph) (p q : Node → Bool) : Bool := decide (∃ v : Int, anyN x (atP p v) = true ∧ anyN y (atP q v) = true)
noncomputable def apartG (x y : Graph) : Bool := !(comP x y wrB rdB || (comP x y rdB wrB || (comP x y wrB wrB || comP x y lkB lkB))) && !(anyN x prB && anyN y prB)
noncomputable def apartR (u : Unit_) (a b : Int) : Bool × Int :=
  if checkF u ≠ none then (false, 60)
  else if a < 0 ∨ (u.graphs.length : Int) ≤ a ∨ b < 0 ∨ (u.graphs.length : Int) ≤ b then (false, 2)
  else if a = b then (false, 0)
  else match u.graphs[a.toNat]?, u.graphs[b.toNat]? with
    | some x, some y => (apartG x y, 0)
    | _, _ => (false, 0)
open Classical in
theorem meet_com {x y : Graph} {p q : Node → Bool} {r : Bool} (h : r = true ↔ ∃ v : Int, 0 < cntN x (atP p v) x.nodes.length ∧ 0 < cntN y (atP q v) y.nodes.length) : comP x y p q = r := by
  rw [Bool.eq_iff_iff, h]
  unfold comP
  rw [decide_eq_true_iff]
  have e : ∀ (g : Graph) (p : Node → Bool), anyN g p = true ↔ 0 < cntN g p g.nodes.length := fun g p => by rw [← cntN_any (Nat.le_refl _), decide_eq_true_iff]
  simp only [e]
end Go.Proofs.YtmkpjiahkepigaaGreat
