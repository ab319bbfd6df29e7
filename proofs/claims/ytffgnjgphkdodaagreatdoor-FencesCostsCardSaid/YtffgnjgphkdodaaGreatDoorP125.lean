import Derived.Test.YtffgnjgphkdodaaGreatDoorP122
import Derived.Test.YtffgnjgphkdodaaGreatDoorP115
namespace Go.Proofs.YtffgnjgphkdodaaGreatDoor
open Go Go.RowKit
def srT (base : Nat) (e : TypeId) (n : Nat) (xs : List Value) (er : Int) : SR := ⟨fun w v => ∃ r, v = .tuple #[r, .int .i64 er] ∧ w.ownsRow base e 1 r n xs, fun hb ⟨r, e, h⟩ => ⟨r, e, own_below h hb⟩⟩
end Go.Proofs.YtffgnjgphkdodaaGreatDoor
