/-
  DERIVED. GIVEN WITH THE SEED: THE CARDS: each row of YtpaieopclpddnaaDoorRows.lean that lists a variable, with what it lists TIED to the program's text (the seventh form; the later family's looks); each row that meets fmt, with fmt's text TOLD by the authors' own Lean function (tested against real Go, not proved from fmt's source: count such statements apart). THE CARD IS WHAT COUNTS. Prove the row's statement (the work); the ties are given (YtpaieopclpddnaaDoorTie.lean); close each card by the builder's one call (the guide's Derived/Test/ToyasCard.lean, 'card_holds'). Laid BY PROGRAM, IN A SANDBOX (cutbox-door.mjs). By AI agents, Wed Nov 11 2026. No macro, syntax, notation, axiom, sorry.
-/
import Derived.Test.YtpaieopclpddnaaDoorRows
import GoSem.ClaimSeven
namespace Go.Proofs.YtpaieopclpddnaaDoor
namespace Rows

/-- THE TIED CARD OF 'stilelaw10.LocksetClasses'. -/
def locksetClassesCard : Claim7 := { stood := { row := locksetClassesRow, standIns := [], harness := (true, "dd4a214fc9b7b07502ba12aed05485c3d8a3ad97b9981f7ea19f2bdc62698c34"), looks := false }, kinds := [], alts := [], laidByText := true, laidKinds := [.data], laidTests := true, laidLooks := .later }
def LocksetClassesCardSaid : Prop := Claim7.holds Tryd.pinned (.plain (OpenSpec.ofChange locksetClassesSpec)) locksetClassesCard

/-- THE TIED CARD OF 'stilelaw10.LocksetFewer'. -/
def locksetFewerCard : Claim7 := { stood := { row := locksetFewerRow, standIns := [], harness := (true, "dd4a214fc9b7b07502ba12aed05485c3d8a3ad97b9981f7ea19f2bdc62698c34"), looks := false }, kinds := [], alts := [], laidByText := true, laidKinds := [.data], laidTests := true, laidLooks := .later }
def LocksetFewerCardSaid : Prop := Claim7.holds Tryd.pinned (.plain (OpenSpec.ofChange locksetFewerSpec)) locksetFewerCard

/-- THE TIED CARD OF 'stilelaw10.LocksetUnders'. -/
def locksetUndersCard : Claim7 := { stood := { row := locksetUndersRow, standIns := [], harness := (true, "dd4a214fc9b7b07502ba12aed05485c3d8a3ad97b9981f7ea19f2bdc62698c34"), looks := false }, kinds := [], alts := [], laidByText := true, laidKinds := [.data], laidTests := true, laidLooks := .later }
def LocksetUndersCardSaid : Prop := Claim7.holds Tryd.pinned (.plain (OpenSpec.ofChange locksetUndersSpec)) locksetUndersCard

/-- THE TIED CARD OF 'stilelaw10.LocksetGuards'. -/
def locksetGuardsCard : Claim7 := { stood := { row := locksetGuardsRow, standIns := [], harness := (true, "dd4a214fc9b7b07502ba12aed05485c3d8a3ad97b9981f7ea19f2bdc62698c34"), looks := false }, kinds := [], alts := [], laidByText := true, laidKinds := [.data], laidTests := true, laidLooks := .later }
def LocksetGuardsCardSaid : Prop := Claim7.holds Tryd.pinned (.plain (OpenSpec.ofChange locksetGuardsSpec)) locksetGuardsCard

/-- THE TIED CARD OF 'stilelaw10.LocksetUnder'. -/
def locksetUnderCard : Claim7 := { stood := { row := locksetUnderRow, standIns := [], harness := (true, "dd4a214fc9b7b07502ba12aed05485c3d8a3ad97b9981f7ea19f2bdc62698c34"), looks := false }, kinds := [], alts := [], laidByText := true, laidKinds := [.data], laidTests := true, laidLooks := .later }
def LocksetUnderCardSaid : Prop := Claim7.holds Tryd.pinned (.plain (OpenSpec.ofChange locksetUnderSpec)) locksetUnderCard

/-- THE TIED CARD OF 'stilelaw10.LocksetHelds'. -/
def locksetHeldsCard : Claim7 := { stood := { row := locksetHeldsRow, standIns := [], harness := (true, "dd4a214fc9b7b07502ba12aed05485c3d8a3ad97b9981f7ea19f2bdc62698c34"), looks := false }, kinds := [], alts := [], laidByText := true, laidKinds := [.data], laidTests := true, laidLooks := .later }
def LocksetHeldsCardSaid : Prop := Claim7.holds Tryd.pinned (.plain (OpenSpec.ofChange locksetHeldsSpec)) locksetHeldsCard

/-- THE TIED CARD OF 'stilelaw10.LocksetOwn'. -/
def locksetOwnCard : Claim7 := { stood := { row := locksetOwnRow, standIns := [], harness := (true, "dd4a214fc9b7b07502ba12aed05485c3d8a3ad97b9981f7ea19f2bdc62698c34"), looks := false }, kinds := [], alts := [], laidByText := true, laidKinds := [.data], laidTests := true, laidLooks := .later }
def LocksetOwnCardSaid : Prop := Claim7.holds Tryd.pinned (.plain (OpenSpec.ofChange locksetOwnSpec)) locksetOwnCard

/-- THE TIED CARD OF 'stilelaw10.LocksetNoRace'. -/
def locksetNoRaceCard : Claim7 := { stood := { row := locksetNoRaceRow, standIns := [], harness := (true, "dd4a214fc9b7b07502ba12aed05485c3d8a3ad97b9981f7ea19f2bdc62698c34"), looks := false }, kinds := [], alts := [], laidByText := true, laidKinds := [.data], laidTests := true, laidLooks := .later }
def LocksetNoRaceCardSaid : Prop := Claim7.holds Tryd.pinned (.plain (OpenSpec.ofChange locksetNoRaceSpec)) locksetNoRaceCard

/-- THE SECOND FORM's CARD OF 'stilelaw10.LocksetClasses'. -/
def locksetClassesUptoCard : Claim7 := { stood := { row := locksetClassesUptoRow, standIns := [], harness := (true, "dd4a214fc9b7b07502ba12aed05485c3d8a3ad97b9981f7ea19f2bdc62698c34"), looks := false }, kinds := [], alts := [], laidByText := true, laidKinds := [.data], laidTests := true, laidLooks := .later }
def LocksetClassesUptoCardSaid : Prop := Claim7.holds Tryd.pinned (.plain (OpenSpec.upto locksetClassesSpec)) locksetClassesUptoCard

/-- THE SECOND FORM's CARD OF 'stilelaw10.LocksetFewer'. -/
def locksetFewerUptoCard : Claim7 := { stood := { row := locksetFewerUptoRow, standIns := [], harness := (true, "dd4a214fc9b7b07502ba12aed05485c3d8a3ad97b9981f7ea19f2bdc62698c34"), looks := false }, kinds := [], alts := [], laidByText := true, laidKinds := [.data], laidTests := true, laidLooks := .later }
def LocksetFewerUptoCardSaid : Prop := Claim7.holds Tryd.pinned (.plain (OpenSpec.upto locksetFewerSpec)) locksetFewerUptoCard

/-- THE SECOND FORM's CARD OF 'stilelaw10.LocksetUnders'. -/
def locksetUndersUptoCard : Claim7 := { stood := { row := locksetUndersUptoRow, standIns := [], harness := (true, "dd4a214fc9b7b07502ba12aed05485c3d8a3ad97b9981f7ea19f2bdc62698c34"), looks := false }, kinds := [], alts := [], laidByText := true, laidKinds := [.data], laidTests := true, laidLooks := .later }
def LocksetUndersUptoCardSaid : Prop := Claim7.holds Tryd.pinned (.plain (OpenSpec.upto locksetUndersSpec)) locksetUndersUptoCard

/-- THE SECOND FORM's CARD OF 'stilelaw10.LocksetGuards'. -/
def locksetGuardsUptoCard : Claim7 := { stood := { row := locksetGuardsUptoRow, standIns := [], harness := (true, "dd4a214fc9b7b07502ba12aed05485c3d8a3ad97b9981f7ea19f2bdc62698c34"), looks := false }, kinds := [], alts := [], laidByText := true, laidKinds := [.data], laidTests := true, laidLooks := .later }
def LocksetGuardsUptoCardSaid : Prop := Claim7.holds Tryd.pinned (.plain (OpenSpec.upto locksetGuardsSpec)) locksetGuardsUptoCard

/-- THE SECOND FORM's CARD OF 'stilelaw10.LocksetUnder'. -/
def locksetUnderUptoCard : Claim7 := { stood := { row := locksetUnderUptoRow, standIns := [], harness := (true, "dd4a214fc9b7b07502ba12aed05485c3d8a3ad97b9981f7ea19f2bdc62698c34"), looks := false }, kinds := [], alts := [], laidByText := true, laidKinds := [.data], laidTests := true, laidLooks := .later }
def LocksetUnderUptoCardSaid : Prop := Claim7.holds Tryd.pinned (.plain (OpenSpec.upto locksetUnderSpec)) locksetUnderUptoCard

/-- THE SECOND FORM's CARD OF 'stilelaw10.LocksetHelds'. -/
def locksetHeldsUptoCard : Claim7 := { stood := { row := locksetHeldsUptoRow, standIns := [], harness := (true, "dd4a214fc9b7b07502ba12aed05485c3d8a3ad97b9981f7ea19f2bdc62698c34"), looks := false }, kinds := [], alts := [], laidByText := true, laidKinds := [.data], laidTests := true, laidLooks := .later }
def LocksetHeldsUptoCardSaid : Prop := Claim7.holds Tryd.pinned (.plain (OpenSpec.upto locksetHeldsSpec)) locksetHeldsUptoCard

/-- THE SECOND FORM's CARD OF 'stilelaw10.LocksetOwn'. -/
def locksetOwnUptoCard : Claim7 := { stood := { row := locksetOwnUptoRow, standIns := [], harness := (true, "dd4a214fc9b7b07502ba12aed05485c3d8a3ad97b9981f7ea19f2bdc62698c34"), looks := false }, kinds := [], alts := [], laidByText := true, laidKinds := [.data], laidTests := true, laidLooks := .later }
def LocksetOwnUptoCardSaid : Prop := Claim7.holds Tryd.pinned (.plain (OpenSpec.upto locksetOwnSpec)) locksetOwnUptoCard

/-- THE SECOND FORM's CARD OF 'stilelaw10.LocksetNoRace'. -/
def locksetNoRaceUptoCard : Claim7 := { stood := { row := locksetNoRaceUptoRow, standIns := [], harness := (true, "dd4a214fc9b7b07502ba12aed05485c3d8a3ad97b9981f7ea19f2bdc62698c34"), looks := false }, kinds := [], alts := [], laidByText := true, laidKinds := [.data], laidTests := true, laidLooks := .later }
def LocksetNoRaceUptoCardSaid : Prop := Claim7.holds Tryd.pinned (.plain (OpenSpec.upto locksetNoRaceSpec)) locksetNoRaceUptoCard
end Rows
end Go.Proofs.YtpaieopclpddnaaDoor
