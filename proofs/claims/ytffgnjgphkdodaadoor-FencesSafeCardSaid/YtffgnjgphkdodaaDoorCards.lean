/-
  DERIVED. GIVEN WITH THE SEED: THE CARDS: each row of YtffgnjgphkdodaaDoorRows.lean that lists a variable, with what it lists TIED to the program's text (the seventh form; the later family's looks); each row that meets fmt, with fmt's text TOLD by the authors' own Lean function (tested against real Go, not proved from fmt's source: count such statements apart). THE CARD IS WHAT COUNTS. Prove the row's statement (the work); the ties are given (YtffgnjgphkdodaaDoorTie.lean); close each card by the builder's one call (the guide's Derived/Test/ToyasCard.lean, 'card_holds'). Laid BY PROGRAM, IN A SANDBOX (cutbox-door.mjs). By AI agents, Wed Nov 11 2026. No macro, syntax, notation, axiom, sorry.
-/
import Derived.Test.YtffgnjgphkdodaaDoorRows
import GoSem.ClaimSeven
namespace Go.Proofs.YtffgnjgphkdodaaDoor
namespace Rows

/-- THE TIED CARD OF 'stilelaw12.FencesNeedful'. -/
def fencesNeedfulCard : Claim7 := { stood := { row := fencesNeedfulRow, standIns := [], harness := (true, "3357a6459587313ea0723b41a01352e8f89c11ccd130f402b8ecc5162bca5c79"), looks := true }, kinds := [], alts := [], laidByText := true, laidKinds := [.data], laidTests := true, laidLooks := .later }
def FencesNeedfulCardSaid : Prop := Claim7.holds Tryd.pinned (.plain (OpenSpec.ofChange fencesNeedfulSpec)) fencesNeedfulCard

/-- THE TIED CARD OF 'stilelaw12.FencesAlone'. -/
def fencesAloneCard : Claim7 := { stood := { row := fencesAloneRow, standIns := [], harness := (true, "3357a6459587313ea0723b41a01352e8f89c11ccd130f402b8ecc5162bca5c79"), looks := true }, kinds := [], alts := [], laidByText := true, laidKinds := [.data], laidTests := true, laidLooks := .later }
def FencesAloneCardSaid : Prop := Claim7.holds Tryd.pinned (.plain (OpenSpec.ofChange fencesAloneSpec)) fencesAloneCard

/-- THE TIED CARD OF 'stilelaw12.FencesLeft'. -/
def fencesLeftCard : Claim7 := { stood := { row := fencesLeftRow, standIns := [], harness := (true, "3357a6459587313ea0723b41a01352e8f89c11ccd130f402b8ecc5162bca5c79"), looks := true }, kinds := [], alts := [], laidByText := true, laidKinds := [.data], laidTests := true, laidLooks := .later }
def FencesLeftCardSaid : Prop := Claim7.holds Tryd.pinned (.plain (OpenSpec.ofChange fencesLeftSpec)) fencesLeftCard

/-- THE TIED CARD OF 'stilelaw12.FencesSafe'. -/
def fencesSafeCard : Claim7 := { stood := { row := fencesSafeRow, standIns := [], harness := (true, "3357a6459587313ea0723b41a01352e8f89c11ccd130f402b8ecc5162bca5c79"), looks := true }, kinds := [], alts := [], laidByText := true, laidKinds := [.data], laidTests := true, laidLooks := .later }
def FencesSafeCardSaid : Prop := Claim7.holds Tryd.pinned (.plain (OpenSpec.ofChange fencesSafeSpec)) fencesSafeCard

/-- THE SECOND FORM's CARD OF 'stilelaw12.FencesNeedful'. -/
def fencesNeedfulUptoCard : Claim7 := { stood := { row := fencesNeedfulUptoRow, standIns := [], harness := (true, "3357a6459587313ea0723b41a01352e8f89c11ccd130f402b8ecc5162bca5c79"), looks := true }, kinds := [], alts := [], laidByText := true, laidKinds := [.data], laidTests := true, laidLooks := .later }
def FencesNeedfulUptoCardSaid : Prop := Claim7.holds Tryd.pinned (.plain (OpenSpec.upto fencesNeedfulSpec)) fencesNeedfulUptoCard

/-- THE SECOND FORM's CARD OF 'stilelaw12.FencesAlone'. -/
def fencesAloneUptoCard : Claim7 := { stood := { row := fencesAloneUptoRow, standIns := [], harness := (true, "3357a6459587313ea0723b41a01352e8f89c11ccd130f402b8ecc5162bca5c79"), looks := true }, kinds := [], alts := [], laidByText := true, laidKinds := [.data], laidTests := true, laidLooks := .later }
def FencesAloneUptoCardSaid : Prop := Claim7.holds Tryd.pinned (.plain (OpenSpec.upto fencesAloneSpec)) fencesAloneUptoCard

/-- THE SECOND FORM's CARD OF 'stilelaw12.FencesLeft'. -/
def fencesLeftUptoCard : Claim7 := { stood := { row := fencesLeftUptoRow, standIns := [], harness := (true, "3357a6459587313ea0723b41a01352e8f89c11ccd130f402b8ecc5162bca5c79"), looks := true }, kinds := [], alts := [], laidByText := true, laidKinds := [.data], laidTests := true, laidLooks := .later }
def FencesLeftUptoCardSaid : Prop := Claim7.holds Tryd.pinned (.plain (OpenSpec.upto fencesLeftSpec)) fencesLeftUptoCard

/-- THE SECOND FORM's CARD OF 'stilelaw12.FencesSafe'. -/
def fencesSafeUptoCard : Claim7 := { stood := { row := fencesSafeUptoRow, standIns := [], harness := (true, "3357a6459587313ea0723b41a01352e8f89c11ccd130f402b8ecc5162bca5c79"), looks := true }, kinds := [], alts := [], laidByText := true, laidKinds := [.data], laidTests := true, laidLooks := .later }
def FencesSafeUptoCardSaid : Prop := Claim7.holds Tryd.pinned (.plain (OpenSpec.upto fencesSafeSpec)) fencesSafeUptoCard
end Rows
end Go.Proofs.YtffgnjgphkdodaaDoor
