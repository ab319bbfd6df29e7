import Derived.Test.YtffgnjgphkdodaaGreatDoorP113
import Derived.Test.YtffgnjgphkdodaaGreatDoorP117
import Derived.Test.YtffgnjgphkdodaaGreatDoorP114
import Derived.Test.YtffgnjgphkdodaaGreatDoorP07
import Derived.Test.YtffgnjgphkdodaaGreatDoorP12
import Derived.Test.YtffgnjgphkdodaaGreatDoorP108
/- The walks of layer 11's reference: stores, asked. -/
namespace Go.Proofs.YtffgnjgphkdodaaGreatDoor
open Go Go.RowKit
end Go.Proofs.YtffgnjgphkdodaaGreatDoor
/- The walk of layer 11's reference: spread. -/
namespace Go.Proofs.YtffgnjgphkdodaaGreatDoor
open Go Go.RowKit
end Go.Proofs.YtffgnjgphkdodaaGreatDoor
