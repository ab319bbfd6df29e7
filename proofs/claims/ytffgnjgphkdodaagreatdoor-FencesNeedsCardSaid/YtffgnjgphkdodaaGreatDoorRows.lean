/-
  NARROWER THAN 'FOR EVERY INPUT', by the rows' own cells (each row's printed sentence says how): DelayOpens: laid · DelayPairs: laid · DelayOwn: laid · DelayRuns: laid · FencesPlaces: laid · FencesCosts: laid · FencesNeeds: laid · FencesOwn: laid.
  DERIVED. THE GIVEN ROWS OF THIS SEAT. 8 by the template 'for every input the law returns true; each argument reads behind the call as it read before'; 0 by the template 'total and deterministic' (their statements: YtffgnjgphkdodaaGreatDoorTotals.lean).
  GIVEN WITH THE SEED: the statements are not yours to turn. If you find one false, say at which input.
  Laid BY PROGRAM, IN A SANDBOX (cutbox-rows.mjs): the forced cells as the released guide's own fill.sh prints them over the translation 156e4df972e0bcaa… (all of the seat's roots in one cut). By AI agents, Wed Nov 11 2026. No macro, syntax, notation, axiom, sorry.
-/
import Derived.Test.YtffgnjgphkdodaaGreatDoorChecked
import GoSem.Claim
import GoSem.ClaimJoined
import GoSem.ClaimMapViews
import Derived.JoinedTies
import Derived.KernelRfl
namespace Go.Proofs.YtffgnjgphkdodaaGreatDoor
/- THE CELL 'sum', in the pinned program and in every row, IS THE sha256 OF THE DUMP (.gsa) THAT YtffgnjgphkdodaaGreatDoorProg.lean LOADS. Nothing in Lean hashes anything: it is a label: what it is worth is what the hold of that sum in a sandbox is worth. -/
noncomputable def Tryz.pinned : Pinned := { name := "ytffgnjgphkdodaagreatdoor", sum := "156e4df972e0bcaa65e05493968ec1cd59d89454ba1783b68a50a8814e6fe123", checked := Tryz.checked }
namespace Rows
def none {H : Type} : Left H := { results := [], args := [] }

/- WHAT THE LISTED PACKAGE-LEVEL VARIABLES READ AS WHEN THE CALL BEGINS. Each datum BY PROGRAM (the guide's laid-datum.mjs) off the statement by which the dump's own 'gosem.cut.vars' lays the variable. In a bare row this is a premise. The card (YtffgnjgphkdodaaGreatDoorCards.lean) ties it to the program's text. -/
def laid_math_bits_deBruijn32tab {H : Type} : DataW H := .agg [.lit (.int .u8 0), .lit (.int .u8 1), .lit (.int .u8 28), .lit (.int .u8 2), .lit (.int .u8 29), .lit (.int .u8 14), .lit (.int .u8 24), .lit (.int .u8 3), .lit (.int .u8 30), .lit (.int .u8 22), .lit (.int .u8 20), .lit (.int .u8 15), .lit (.int .u8 25), .lit (.int .u8 17), .lit (.int .u8 4), .lit (.int .u8 8), .lit (.int .u8 31), .lit (.int .u8 27), .lit (.int .u8 13), .lit (.int .u8 23), .lit (.int .u8 21), .lit (.int .u8 19), .lit (.int .u8 16), .lit (.int .u8 7), .lit (.int .u8 26), .lit (.int .u8 12), .lit (.int .u8 18), .lit (.int .u8 6), .lit (.int .u8 11), .lit (.int .u8 5), .lit (.int .u8 10), .lit (.int .u8 9)]

/-- 'stilelaw11.DelayOpens': WHATEVER THE INPUT: true; the input reads as it did. -/
def delayOpensSpec : ChangeSpec := { name := "delayOpens", fn := fun _ => fun
  | [d1, d2, d3, d4] => { results := [.lit (.bool true)], args := [d1, d2, d3, d4] }
  | _ => none }
def delayOpensRow : OpenClaim := { program := "ytffgnjgphkdodaagreatdoor", sum := "156e4df972e0bcaa65e05493968ec1cd59d89454ba1783b68a50a8814e6fe123", func := "stile/stilelaw11.DelayOpens", spec := "delayOpens", unfollowed := true, recurses := true, named := ["math/bits.deBruijn32tab"], plainKeys := false, apart := false, laid := [("math/bits.deBruijn32tab", laid_math_bits_deBruijn32tab)] }
def DelayOpensSaid : Prop := delayOpensRow.holds Tryz.pinned (OpenSpec.ofChange delayOpensSpec)

/-- ITS FALSE NEIGHBOUR: 'it returns false'. Refute it at one input. -/
def delayOpensWrong : ChangeSpec := { name := "delayOpens", fn := fun _ => fun
  | [d1, d2, d3, d4] => { results := [.lit (.bool false)], args := [d1, d2, d3, d4] }
  | _ => none }
def DelayOpensWrongFalsely : Prop := delayOpensRow.holds Tryz.pinned (OpenSpec.ofChange delayOpensWrong)

/-- 'stilelaw11.DelayPairs': WHATEVER THE INPUT: true; the input reads as it did. -/
def delayPairsSpec : ChangeSpec := { name := "delayPairs", fn := fun _ => fun
  | [d1, d2, d3, d4] => { results := [.lit (.bool true)], args := [d1, d2, d3, d4] }
  | _ => none }
def delayPairsRow : OpenClaim := { program := "ytffgnjgphkdodaagreatdoor", sum := "156e4df972e0bcaa65e05493968ec1cd59d89454ba1783b68a50a8814e6fe123", func := "stile/stilelaw11.DelayPairs", spec := "delayPairs", unfollowed := true, recurses := true, named := ["math/bits.deBruijn32tab"], plainKeys := false, apart := false, laid := [("math/bits.deBruijn32tab", laid_math_bits_deBruijn32tab)] }
def DelayPairsSaid : Prop := delayPairsRow.holds Tryz.pinned (OpenSpec.ofChange delayPairsSpec)

/-- ITS FALSE NEIGHBOUR: 'it returns false'. Refute it at one input. -/
def delayPairsWrong : ChangeSpec := { name := "delayPairs", fn := fun _ => fun
  | [d1, d2, d3, d4] => { results := [.lit (.bool false)], args := [d1, d2, d3, d4] }
  | _ => none }
def DelayPairsWrongFalsely : Prop := delayPairsRow.holds Tryz.pinned (OpenSpec.ofChange delayPairsWrong)

/-- 'stilelaw11.DelayOwn': WHATEVER THE INPUT: true; the input reads as it did. -/
def delayOwnSpec : ChangeSpec := { name := "delayOwn", fn := fun _ => fun
  | [d1, d2] => { results := [.lit (.bool true)], args := [d1, d2] }
  | _ => none }
def delayOwnRow : OpenClaim := { program := "ytffgnjgphkdodaagreatdoor", sum := "156e4df972e0bcaa65e05493968ec1cd59d89454ba1783b68a50a8814e6fe123", func := "stile/stilelaw11.DelayOwn", spec := "delayOwn", unfollowed := true, recurses := true, named := ["math/bits.deBruijn32tab"], plainKeys := false, apart := false, laid := [("math/bits.deBruijn32tab", laid_math_bits_deBruijn32tab)] }
def DelayOwnSaid : Prop := delayOwnRow.holds Tryz.pinned (OpenSpec.ofChange delayOwnSpec)

/-- ITS FALSE NEIGHBOUR: 'it returns false'. Refute it at one input. -/
def delayOwnWrong : ChangeSpec := { name := "delayOwn", fn := fun _ => fun
  | [d1, d2] => { results := [.lit (.bool false)], args := [d1, d2] }
  | _ => none }
def DelayOwnWrongFalsely : Prop := delayOwnRow.holds Tryz.pinned (OpenSpec.ofChange delayOwnWrong)

/-- 'stilelaw11.DelayRuns': WHATEVER THE INPUT: true; the input reads as it did. -/
def delayRunsSpec : ChangeSpec := { name := "delayRuns", fn := fun _ => fun
  | [d1, d2, d3] => { results := [.lit (.bool true)], args := [d1, d2, d3] }
  | _ => none }
def delayRunsRow : OpenClaim := { program := "ytffgnjgphkdodaagreatdoor", sum := "156e4df972e0bcaa65e05493968ec1cd59d89454ba1783b68a50a8814e6fe123", func := "stile/stilelaw11.DelayRuns", spec := "delayRuns", unfollowed := true, recurses := true, named := ["math/bits.deBruijn32tab"], plainKeys := false, apart := false, laid := [("math/bits.deBruijn32tab", laid_math_bits_deBruijn32tab)] }
def DelayRunsSaid : Prop := delayRunsRow.holds Tryz.pinned (OpenSpec.ofChange delayRunsSpec)

/-- ITS FALSE NEIGHBOUR: 'it returns false'. Refute it at one input. -/
def delayRunsWrong : ChangeSpec := { name := "delayRuns", fn := fun _ => fun
  | [d1, d2, d3] => { results := [.lit (.bool false)], args := [d1, d2, d3] }
  | _ => none }
def DelayRunsWrongFalsely : Prop := delayRunsRow.holds Tryz.pinned (OpenSpec.ofChange delayRunsWrong)

/-- 'stilelaw12.FencesPlaces': WHATEVER THE INPUT: true; the input reads as it did. -/
def fencesPlacesSpec : ChangeSpec := { name := "fencesPlaces", fn := fun _ => fun
  | [d1, d2] => { results := [.lit (.bool true)], args := [d1, d2] }
  | _ => none }
def fencesPlacesRow : OpenClaim := { program := "ytffgnjgphkdodaagreatdoor", sum := "156e4df972e0bcaa65e05493968ec1cd59d89454ba1783b68a50a8814e6fe123", func := "stile/stilelaw12.FencesPlaces", spec := "fencesPlaces", unfollowed := true, recurses := true, named := ["math/bits.deBruijn32tab"], plainKeys := false, apart := false, laid := [("math/bits.deBruijn32tab", laid_math_bits_deBruijn32tab)] }
def FencesPlacesSaid : Prop := fencesPlacesRow.holds Tryz.pinned (OpenSpec.ofChange fencesPlacesSpec)

/-- ITS FALSE NEIGHBOUR: 'it returns false'. Refute it at one input. -/
def fencesPlacesWrong : ChangeSpec := { name := "fencesPlaces", fn := fun _ => fun
  | [d1, d2] => { results := [.lit (.bool false)], args := [d1, d2] }
  | _ => none }
def FencesPlacesWrongFalsely : Prop := fencesPlacesRow.holds Tryz.pinned (OpenSpec.ofChange fencesPlacesWrong)

/-- 'stilelaw12.FencesCosts': WHATEVER THE INPUT: true; the input reads as it did. -/
def fencesCostsSpec : ChangeSpec := { name := "fencesCosts", fn := fun _ => fun
  | [d1, d2] => { results := [.lit (.bool true)], args := [d1, d2] }
  | _ => none }
def fencesCostsRow : OpenClaim := { program := "ytffgnjgphkdodaagreatdoor", sum := "156e4df972e0bcaa65e05493968ec1cd59d89454ba1783b68a50a8814e6fe123", func := "stile/stilelaw12.FencesCosts", spec := "fencesCosts", unfollowed := true, recurses := true, named := ["math/bits.deBruijn32tab"], plainKeys := false, apart := false, laid := [("math/bits.deBruijn32tab", laid_math_bits_deBruijn32tab)] }
def FencesCostsSaid : Prop := fencesCostsRow.holds Tryz.pinned (OpenSpec.ofChange fencesCostsSpec)

/-- ITS FALSE NEIGHBOUR: 'it returns false'. Refute it at one input. -/
def fencesCostsWrong : ChangeSpec := { name := "fencesCosts", fn := fun _ => fun
  | [d1, d2] => { results := [.lit (.bool false)], args := [d1, d2] }
  | _ => none }
def FencesCostsWrongFalsely : Prop := fencesCostsRow.holds Tryz.pinned (OpenSpec.ofChange fencesCostsWrong)

/-- 'stilelaw12.FencesNeeds': WHATEVER THE INPUT: true; the input reads as it did. -/
def fencesNeedsSpec : ChangeSpec := { name := "fencesNeeds", fn := fun _ => fun
  | [d1, d2, d3, d4] => { results := [.lit (.bool true)], args := [d1, d2, d3, d4] }
  | _ => none }
def fencesNeedsRow : OpenClaim := { program := "ytffgnjgphkdodaagreatdoor", sum := "156e4df972e0bcaa65e05493968ec1cd59d89454ba1783b68a50a8814e6fe123", func := "stile/stilelaw12.FencesNeeds", spec := "fencesNeeds", unfollowed := true, recurses := true, named := ["math/bits.deBruijn32tab"], plainKeys := false, apart := false, laid := [("math/bits.deBruijn32tab", laid_math_bits_deBruijn32tab)] }
def FencesNeedsSaid : Prop := fencesNeedsRow.holds Tryz.pinned (OpenSpec.ofChange fencesNeedsSpec)

/-- ITS FALSE NEIGHBOUR: 'it returns false'. Refute it at one input. -/
def fencesNeedsWrong : ChangeSpec := { name := "fencesNeeds", fn := fun _ => fun
  | [d1, d2, d3, d4] => { results := [.lit (.bool false)], args := [d1, d2, d3, d4] }
  | _ => none }
def FencesNeedsWrongFalsely : Prop := fencesNeedsRow.holds Tryz.pinned (OpenSpec.ofChange fencesNeedsWrong)

/-- 'stilelaw12.FencesOwn': WHATEVER THE INPUT: true; the input reads as it did. -/
def fencesOwnSpec : ChangeSpec := { name := "fencesOwn", fn := fun _ => fun
  | [d1, d2, d3, d4] => { results := [.lit (.bool true)], args := [d1, d2, d3, d4] }
  | _ => none }
def fencesOwnRow : OpenClaim := { program := "ytffgnjgphkdodaagreatdoor", sum := "156e4df972e0bcaa65e05493968ec1cd59d89454ba1783b68a50a8814e6fe123", func := "stile/stilelaw12.FencesOwn", spec := "fencesOwn", unfollowed := true, recurses := true, named := ["math/bits.deBruijn32tab"], plainKeys := false, apart := false, laid := [("math/bits.deBruijn32tab", laid_math_bits_deBruijn32tab)] }
def FencesOwnSaid : Prop := fencesOwnRow.holds Tryz.pinned (OpenSpec.ofChange fencesOwnSpec)

/-- ITS FALSE NEIGHBOUR: 'it returns false'. Refute it at one input. -/
def fencesOwnWrong : ChangeSpec := { name := "fencesOwn", fn := fun _ => fun
  | [d1, d2, d3, d4] => { results := [.lit (.bool false)], args := [d1, d2, d3, d4] }
  | _ => none }
def FencesOwnWrongFalsely : Prop := fencesOwnRow.holds Tryz.pinned (OpenSpec.ofChange fencesOwnWrong)

/- THE SECOND FORM. 'bulk': how many values and letters a reading holds, each counted each time it is reached (what is shared counts as often as it is met; a slice's spare places count too). A statement '..UptoSaid' is the law's where the arguments, and the package variables that the reading takes, are together of bulk at most 1048576: NARROWER than '..Said'. Prove '..Said' where nothing that the law and all that it calls make is longer than what came in: it says more and counts as full. Else prove '..UptoSaid'. A law counts once. -/
mutual
def uptoBulk {H : Type} : DataW H → Nat
  | .lit (.string bytes) => bytes.length + 1
  | .lit _ => 1
  | .nil => 1
  | .ptr d => uptoBulk d + 1
  | .slice elems spare => uptoBulkAll elems + uptoBulkAll spare + 1
  | .agg parts => uptoBulkAll parts + 1
  | .iface _ d => uptoBulk d + 1
  | .map entries => uptoBulkEntries entries + 1
  | .held _ => 1
def uptoBulkAll {H : Type} : List (DataW H) → Nat
  | [] => 0
  | d :: r => uptoBulk d + uptoBulkAll r
def uptoBulkEntries {H : Type} : List (Lit × DataW H) → Nat
  | [] => 0
  | x :: r => uptoBulkEntry x + uptoBulkEntries r
def uptoBulkEntry {H : Type} : Lit × DataW H → Nat
  | (.string bytes, d) => bytes.length + uptoBulk d + 1
  | (_, d) => uptoBulk d + 1
 end
def uptoSmall : (H : Type) → List (DataW H) → Bool := fun _ ds => decide (uptoBulkAll ds ≤ 1048576)
def OpenSpec.upto (s : _root_.Go.ChangeSpec) : _root_.Go.OpenSpec := { _root_.Go.OpenSpec.ofChange s with cond := some uptoSmall }

/-- 'stilelaw11.DelayOpens', WHERE WHAT IT READS IS OF BULK AT MOST 1048576: true; the input reads as it did. -/
def delayOpensUptoRow : OpenClaim := { program := "ytffgnjgphkdodaagreatdoor", sum := "156e4df972e0bcaa65e05493968ec1cd59d89454ba1783b68a50a8814e6fe123", func := "stile/stilelaw11.DelayOpens", spec := "delayOpens", unfollowed := true, recurses := true, named := ["math/bits.deBruijn32tab"], plainKeys := false, apart := false, laid := [("math/bits.deBruijn32tab", laid_math_bits_deBruijn32tab)], narrowed := true }
def DelayOpensUptoSaid : Prop := delayOpensUptoRow.holds Tryz.pinned (OpenSpec.upto delayOpensSpec)

/-- 'stilelaw11.DelayPairs', WHERE WHAT IT READS IS OF BULK AT MOST 1048576: true; the input reads as it did. -/
def delayPairsUptoRow : OpenClaim := { program := "ytffgnjgphkdodaagreatdoor", sum := "156e4df972e0bcaa65e05493968ec1cd59d89454ba1783b68a50a8814e6fe123", func := "stile/stilelaw11.DelayPairs", spec := "delayPairs", unfollowed := true, recurses := true, named := ["math/bits.deBruijn32tab"], plainKeys := false, apart := false, laid := [("math/bits.deBruijn32tab", laid_math_bits_deBruijn32tab)], narrowed := true }
def DelayPairsUptoSaid : Prop := delayPairsUptoRow.holds Tryz.pinned (OpenSpec.upto delayPairsSpec)

/-- 'stilelaw11.DelayOwn', WHERE WHAT IT READS IS OF BULK AT MOST 1048576: true; the input reads as it did. -/
def delayOwnUptoRow : OpenClaim := { program := "ytffgnjgphkdodaagreatdoor", sum := "156e4df972e0bcaa65e05493968ec1cd59d89454ba1783b68a50a8814e6fe123", func := "stile/stilelaw11.DelayOwn", spec := "delayOwn", unfollowed := true, recurses := true, named := ["math/bits.deBruijn32tab"], plainKeys := false, apart := false, laid := [("math/bits.deBruijn32tab", laid_math_bits_deBruijn32tab)], narrowed := true }
def DelayOwnUptoSaid : Prop := delayOwnUptoRow.holds Tryz.pinned (OpenSpec.upto delayOwnSpec)

/-- 'stilelaw11.DelayRuns', WHERE WHAT IT READS IS OF BULK AT MOST 1048576: true; the input reads as it did. -/
def delayRunsUptoRow : OpenClaim := { program := "ytffgnjgphkdodaagreatdoor", sum := "156e4df972e0bcaa65e05493968ec1cd59d89454ba1783b68a50a8814e6fe123", func := "stile/stilelaw11.DelayRuns", spec := "delayRuns", unfollowed := true, recurses := true, named := ["math/bits.deBruijn32tab"], plainKeys := false, apart := false, laid := [("math/bits.deBruijn32tab", laid_math_bits_deBruijn32tab)], narrowed := true }
def DelayRunsUptoSaid : Prop := delayRunsUptoRow.holds Tryz.pinned (OpenSpec.upto delayRunsSpec)

/-- 'stilelaw12.FencesPlaces', WHERE WHAT IT READS IS OF BULK AT MOST 1048576: true; the input reads as it did. -/
def fencesPlacesUptoRow : OpenClaim := { program := "ytffgnjgphkdodaagreatdoor", sum := "156e4df972e0bcaa65e05493968ec1cd59d89454ba1783b68a50a8814e6fe123", func := "stile/stilelaw12.FencesPlaces", spec := "fencesPlaces", unfollowed := true, recurses := true, named := ["math/bits.deBruijn32tab"], plainKeys := false, apart := false, laid := [("math/bits.deBruijn32tab", laid_math_bits_deBruijn32tab)], narrowed := true }
def FencesPlacesUptoSaid : Prop := fencesPlacesUptoRow.holds Tryz.pinned (OpenSpec.upto fencesPlacesSpec)

/-- 'stilelaw12.FencesCosts', WHERE WHAT IT READS IS OF BULK AT MOST 1048576: true; the input reads as it did. -/
def fencesCostsUptoRow : OpenClaim := { program := "ytffgnjgphkdodaagreatdoor", sum := "156e4df972e0bcaa65e05493968ec1cd59d89454ba1783b68a50a8814e6fe123", func := "stile/stilelaw12.FencesCosts", spec := "fencesCosts", unfollowed := true, recurses := true, named := ["math/bits.deBruijn32tab"], plainKeys := false, apart := false, laid := [("math/bits.deBruijn32tab", laid_math_bits_deBruijn32tab)], narrowed := true }
def FencesCostsUptoSaid : Prop := fencesCostsUptoRow.holds Tryz.pinned (OpenSpec.upto fencesCostsSpec)

/-- 'stilelaw12.FencesNeeds', WHERE WHAT IT READS IS OF BULK AT MOST 1048576: true; the input reads as it did. -/
def fencesNeedsUptoRow : OpenClaim := { program := "ytffgnjgphkdodaagreatdoor", sum := "156e4df972e0bcaa65e05493968ec1cd59d89454ba1783b68a50a8814e6fe123", func := "stile/stilelaw12.FencesNeeds", spec := "fencesNeeds", unfollowed := true, recurses := true, named := ["math/bits.deBruijn32tab"], plainKeys := false, apart := false, laid := [("math/bits.deBruijn32tab", laid_math_bits_deBruijn32tab)], narrowed := true }
def FencesNeedsUptoSaid : Prop := fencesNeedsUptoRow.holds Tryz.pinned (OpenSpec.upto fencesNeedsSpec)

/-- 'stilelaw12.FencesOwn', WHERE WHAT IT READS IS OF BULK AT MOST 1048576: true; the input reads as it did. -/
def fencesOwnUptoRow : OpenClaim := { program := "ytffgnjgphkdodaagreatdoor", sum := "156e4df972e0bcaa65e05493968ec1cd59d89454ba1783b68a50a8814e6fe123", func := "stile/stilelaw12.FencesOwn", spec := "fencesOwn", unfollowed := true, recurses := true, named := ["math/bits.deBruijn32tab"], plainKeys := false, apart := false, laid := [("math/bits.deBruijn32tab", laid_math_bits_deBruijn32tab)], narrowed := true }
def FencesOwnUptoSaid : Prop := fencesOwnUptoRow.holds Tryz.pinned (OpenSpec.upto fencesOwnSpec)

end Rows
end Go.Proofs.YtffgnjgphkdodaaGreatDoor
