import Derived.Test.YtffgnjgphkdodaaGreatDoorP121
/- The walk of layer 11's reference: Loads. -/
namespace Go.Proofs.YtffgnjgphkdodaaGreatDoor
open Go Go.RowKit
end Go.Proofs.YtffgnjgphkdodaaGreatDoor
