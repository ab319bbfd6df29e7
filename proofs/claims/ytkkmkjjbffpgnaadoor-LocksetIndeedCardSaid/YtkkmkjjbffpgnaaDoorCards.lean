/-
  DERIVED. GIVEN WITH THE SEED: THE CARDS: each row of YtkkmkjjbffpgnaaDoorRows.lean that lists a variable, with what it lists TIED to the program's text (the seventh form; the later family's looks); each row that meets fmt, with fmt's text TOLD by the authors' own Lean function (tested against real Go, not proved from fmt's source: count such statements apart). THE CARD IS WHAT COUNTS. Prove the row's statement (the work); the ties are given (YtkkmkjjbffpgnaaDoorTie.lean); close each card by the builder's one call (the guide's Derived/Test/ToyasCard.lean, 'card_holds'). Laid BY PROGRAM, IN A SANDBOX (cutbox-door.mjs). By AI agents, Wed Nov 11 2026. No macro, syntax, notation, axiom, sorry.
-/
import Derived.Test.YtkkmkjjbffpgnaaDoorRows
import GoSem.ClaimSeven
namespace Go.Proofs.YtkkmkjjbffpgnaaDoor
namespace Rows

/-- THE TIED CARD OF 'stilelaw10.LocksetIndeed'. -/
def locksetIndeedCard : Claim7 := { stood := { row := locksetIndeedRow, standIns := [], harness := (true, "2b5eeb9d108f787a9aa829bceb8580d2b9cd78eeec22ea851aa8a2eaa9261a2e"), looks := false }, kinds := [], alts := [], laidByText := true, laidKinds := [.data], laidTests := true, laidLooks := .later }
def LocksetIndeedCardSaid : Prop := Claim7.holds Tryd.pinned (.plain (OpenSpec.ofChange locksetIndeedSpec)) locksetIndeedCard

/-- THE SECOND FORM's CARD OF 'stilelaw10.LocksetIndeed'. -/
def locksetIndeedUptoCard : Claim7 := { stood := { row := locksetIndeedUptoRow, standIns := [], harness := (true, "2b5eeb9d108f787a9aa829bceb8580d2b9cd78eeec22ea851aa8a2eaa9261a2e"), looks := false }, kinds := [], alts := [], laidByText := true, laidKinds := [.data], laidTests := true, laidLooks := .later }
def LocksetIndeedUptoCardSaid : Prop := Claim7.holds Tryd.pinned (.plain (OpenSpec.upto locksetIndeedSpec)) locksetIndeedUptoCard
end Rows
end Go.Proofs.YtkkmkjjbffpgnaaDoor
