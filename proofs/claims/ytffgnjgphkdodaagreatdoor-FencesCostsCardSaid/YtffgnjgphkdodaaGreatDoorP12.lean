import Derived.Test.YtffgnjgphkdodaaGreatDoorP107
import Derived.Test.YtffgnjgphkdodaaGreatDoorP08
import Derived.Test.YtffgnjgphkdodaaGreatDoorP09
namespace Go.Proofs.YtffgnjgphkdodaaGreatDoor
open Go Go.RowKit
end Go.Proofs.YtffgnjgphkdodaaGreatDoor
namespace Go.Proofs.YtffgnjgphkdodaaGreatDoor
open Go Go.RowKit
end Go.Proofs.YtffgnjgphkdodaaGreatDoor
namespace Go.Proofs.YtffgnjgphkdodaaGreatDoor
open Go Go.RowKit
end Go.Proofs.YtffgnjgphkdodaaGreatDoor
