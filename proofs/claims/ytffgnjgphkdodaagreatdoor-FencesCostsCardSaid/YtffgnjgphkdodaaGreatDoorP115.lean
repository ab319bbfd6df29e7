import Derived.Test.YtffgnjgphkdodaaGreatDoorP114
namespace Go.Proofs.YtffgnjgphkdodaaGreatDoor
open Go Go.RowKit
def FenAll (u : Unit_) (L : List (List Int)) : Prop := ∀ (t : Nat) (g : Graph) (l : List Int), u.graphs[t]? = some g → L[t]? = some l → fenB g.nodes.length (-1) l = true
end Go.Proofs.YtffgnjgphkdodaaGreatDoor
namespace Go.Proofs.YtffgnjgphkdodaaGreatDoor
open Go Go.RowKit
end Go.Proofs.YtffgnjgphkdodaaGreatDoor
