import Derived.Test.YtffgnjgphkdodaaGreatDoorP17
import Derived.Test.YtffgnjgphkdodaaGreatDoorP21
/- The row's reach, of the first argument. -/
namespace Go.Proofs.YtffgnjgphkdodaaGreatDoor
open Go Go.RowKit Go.ChangeShapes Go.WideShapes Go.ChangeAt
theorem weights_first {H : Type} {P : Program} {p : Nat → Bool} {t : TypeId} {ts : List TypeId} {d : DataW H} {ds : List (DataW H)} (h : (DataW.weightsEach P (t :: ts) (d :: ds)).all p = true) : (d.weights P t).all p = true := by
  rw [DataW.weightsEach, List.all_append, Bool.and_eq_true] at h
  exact h.1
end Go.Proofs.YtffgnjgphkdodaaGreatDoor
