import Derived.Test.YtmkpjiahkepigaaGreatP42
/- The plain law of Apart: what threads have in common. -/
namespace Go.Proofs.YtmkpjiahkepigaaGreat
open Go Go.RowKit
end Go.Proofs.YtmkpjiahkepigaaGreat
