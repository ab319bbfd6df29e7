import Derived.Test.YtffgnjgphkdodaaGreatDoorP33
import Derived.Test.YtffgnjgphkdodaaGreatDoorP35
import Derived.Test.YtffgnjgphkdodaaGreatDoorP06
/- An argument of type api.Unit, with what the row's reach says of its slices' sizes. -/
namespace Go.Proofs.YtffgnjgphkdodaaGreatDoor
open Go Go.RowKit Go.ChangeShapes Go.WideShapes Go.Deep
section
variable {H : Type} {enc : TypeId × Value → H} {P : Program} {w : World} {spare : Nat → Bool} {held : Bool}
end
section
variable {H : Type} {enc : TypeId × Value → H} {w : World} {spare : Nat → Bool} {held : Bool}
end
end Go.Proofs.YtffgnjgphkdodaaGreatDoor
/- The walk of CopyGraph. -/
namespace Go.Proofs.YtffgnjgphkdodaaGreatDoor
open Go Go.RowKit
end Go.Proofs.YtffgnjgphkdodaaGreatDoor
/- What the walk of Copy needs. -/
namespace Go.Proofs.YtffgnjgphkdodaaGreatDoor
open Go Go.RowKit
instance : MonoV GraphV := ⟨fun hm h => h.mono hm⟩
/-- A unit of the call's own, its graphs in a row of their own. -/
def UnitAcc (base : Nat) (w : World) (cs : List Value) (u : Unit_) : Prop :=
  ∃ sv lv gv D S, cs = [sv, lv, gv] ∧ Decls (on w D) sv u.shared ∧ Decls (on w D) lv u.locks ∧ Acc GraphV 4 69 base S gv u.graphs w ∧ ∀ b, D b → base ≤ b ∧ b < w.heap.size ∧ some b ≠ gv.ownBlock
theorem UnitAcc.unit {base : Nat} {w : World} {cs : List Value} {u : Unit_} (h : UnitAcc base w cs u) : UnitV (part w base w.heap.size) cs u := by
  obtain ⟨sv, lv, gv, D, S, rfl, h1, h2, h3, h4⟩ := h
  exact ⟨sv, lv, gv, rfl, h1.mono (on_part w fun b hb => ⟨(h4 b hb).1, (h4 b hb).2.1⟩), h2.mono (on_part w fun b hb => ⟨(h4 b hb).1, (h4 b hb).2.1⟩), (h3.done (Nat.le_refl _) (Nat.le_refl _)).imp' fun m b o x hx => hx⟩
end Go.Proofs.YtffgnjgphkdodaaGreatDoor
