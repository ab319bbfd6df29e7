import Derived.Test.YtffgnjgphkdodaaGreatDoorP122
import Derived.Test.YtffgnjgphkdodaaGreatDoorP115
/- The walk of layer 11's reference: Safe. -/
namespace Go.Proofs.YtffgnjgphkdodaaGreatDoor
open Go Go.RowKit
/-- A pair of the region's own: a row, a number. -/
def srT (base : Nat) (e : TypeId) (n : Nat) (xs : List Value) (er : Int) : SR := ⟨fun w v => ∃ r, v = .tuple #[r, .int .i64 er] ∧ w.ownsRow base e 1 r n xs, fun hb ⟨r, e, h⟩ => ⟨r, e, own_below h hb⟩⟩
end Go.Proofs.YtffgnjgphkdodaaGreatDoor
