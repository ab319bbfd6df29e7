/-
  DERIVED. GIVEN WITH THE SEED: THE CARDS: each row of YtmkpjiahkepigaaDoorRows.lean that lists a variable, with what it lists TIED to the program's text (the seventh form; the later family's looks); each row that meets fmt, with fmt's text TOLD by the authors' own Lean function (tested against real Go, not proved from fmt's source: count such statements apart). THE CARD IS WHAT COUNTS. Prove the row's statement (the work); the ties are given (YtmkpjiahkepigaaDoorTie.lean); close each card by the builder's one call (the guide's Derived/Test/ToyasCard.lean, 'card_holds'). Laid BY PROGRAM, IN A SANDBOX (cutbox-door.mjs). By AI agents, Wed Nov 11 2026. No macro, syntax, notation, axiom, sorry.
-/
import Derived.Test.YtmkpjiahkepigaaDoorRows
import GoSem.ClaimSeven
namespace Go.Proofs.YtmkpjiahkepigaaDoor
namespace Rows

/-- THE TIED CARD OF 'stilelaw11.DelayCut'. -/
def delayCutCard : Claim7 := { stood := { row := delayCutRow, standIns := [], harness := (true, "79afcd7ac87624d3998eded9ccb74318cb0bcef6c3a1cca4567bc6894de79f46"), looks := true }, kinds := [], alts := [], laidByText := true, laidKinds := [.data], laidTests := true, laidLooks := .later }
def DelayCutCardSaid : Prop := Claim7.holds Tryd.pinned (.plain (OpenSpec.ofChange delayCutSpec)) delayCutCard

/-- THE TIED CARD OF 'stilelaw11.DelayWays'. -/
def delayWaysCard : Claim7 := { stood := { row := delayWaysRow, standIns := [], harness := (true, "79afcd7ac87624d3998eded9ccb74318cb0bcef6c3a1cca4567bc6894de79f46"), looks := true }, kinds := [], alts := [], laidByText := true, laidKinds := [.data], laidTests := true, laidLooks := .later }
def DelayWaysCardSaid : Prop := Claim7.holds Tryd.pinned (.plain (OpenSpec.ofChange delayWaysSpec)) delayWaysCard

/-- THE SECOND FORM's CARD OF 'stilelaw11.DelayCut'. -/
def delayCutUptoCard : Claim7 := { stood := { row := delayCutUptoRow, standIns := [], harness := (true, "79afcd7ac87624d3998eded9ccb74318cb0bcef6c3a1cca4567bc6894de79f46"), looks := true }, kinds := [], alts := [], laidByText := true, laidKinds := [.data], laidTests := true, laidLooks := .later }
def DelayCutUptoCardSaid : Prop := Claim7.holds Tryd.pinned (.plain (OpenSpec.upto delayCutSpec)) delayCutUptoCard

/-- THE SECOND FORM's CARD OF 'stilelaw11.DelayWays'. -/
def delayWaysUptoCard : Claim7 := { stood := { row := delayWaysUptoRow, standIns := [], harness := (true, "79afcd7ac87624d3998eded9ccb74318cb0bcef6c3a1cca4567bc6894de79f46"), looks := true }, kinds := [], alts := [], laidByText := true, laidKinds := [.data], laidTests := true, laidLooks := .later }
def DelayWaysUptoCardSaid : Prop := Claim7.holds Tryd.pinned (.plain (OpenSpec.upto delayWaysSpec)) delayWaysUptoCard
end Rows
end Go.Proofs.YtmkpjiahkepigaaDoor
