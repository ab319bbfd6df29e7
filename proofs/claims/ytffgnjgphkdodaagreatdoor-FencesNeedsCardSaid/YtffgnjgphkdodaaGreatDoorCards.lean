/-
  DERIVED. GIVEN WITH THE SEED: THE CARDS: each row of YtffgnjgphkdodaaGreatDoorRows.lean that lists a variable, with what it lists TIED to the program's text (the seventh form; the later family's looks); each row that meets fmt, with fmt's text TOLD by the authors' own Lean function (tested against real Go, not proved from fmt's source: count such statements apart). THE CARD IS WHAT COUNTS. Prove the row's statement (the work); the ties are given (YtffgnjgphkdodaaGreatDoorTie.lean); close each card by the builder's one call (the guide's Derived/Test/ToyasCard.lean, 'card_holds'). Laid BY PROGRAM, IN A SANDBOX (cutbox-door.mjs). By AI agents, Wed Nov 11 2026. No macro, syntax, notation, axiom, sorry.
-/
import Derived.Test.YtffgnjgphkdodaaGreatDoorRows
import GoSem.ClaimSeven
namespace Go.Proofs.YtffgnjgphkdodaaGreatDoor
namespace Rows

/-- THE TIED CARD OF 'stilelaw11.DelayOpens'. -/
def delayOpensCard : Claim7 := { stood := { row := delayOpensRow, standIns := [], harness := (true, "43eb100065f7283d72337bf2fb1030522f20604b19dd21ffd34217fa926d8743"), looks := true }, kinds := [], alts := [], laidByText := true, laidKinds := [.data], laidTests := true, laidLooks := .later }
def DelayOpensCardSaid : Prop := Claim7.holds Tryz.pinned (.plain (OpenSpec.ofChange delayOpensSpec)) delayOpensCard

/-- THE TIED CARD OF 'stilelaw11.DelayPairs'. -/
def delayPairsCard : Claim7 := { stood := { row := delayPairsRow, standIns := [], harness := (true, "43eb100065f7283d72337bf2fb1030522f20604b19dd21ffd34217fa926d8743"), looks := true }, kinds := [], alts := [], laidByText := true, laidKinds := [.data], laidTests := true, laidLooks := .later }
def DelayPairsCardSaid : Prop := Claim7.holds Tryz.pinned (.plain (OpenSpec.ofChange delayPairsSpec)) delayPairsCard

/-- THE TIED CARD OF 'stilelaw11.DelayOwn'. -/
def delayOwnCard : Claim7 := { stood := { row := delayOwnRow, standIns := [], harness := (true, "43eb100065f7283d72337bf2fb1030522f20604b19dd21ffd34217fa926d8743"), looks := true }, kinds := [], alts := [], laidByText := true, laidKinds := [.data], laidTests := true, laidLooks := .later }
def DelayOwnCardSaid : Prop := Claim7.holds Tryz.pinned (.plain (OpenSpec.ofChange delayOwnSpec)) delayOwnCard

/-- THE TIED CARD OF 'stilelaw11.DelayRuns'. -/
def delayRunsCard : Claim7 := { stood := { row := delayRunsRow, standIns := [], harness := (true, "43eb100065f7283d72337bf2fb1030522f20604b19dd21ffd34217fa926d8743"), looks := true }, kinds := [], alts := [], laidByText := true, laidKinds := [.data], laidTests := true, laidLooks := .later }
def DelayRunsCardSaid : Prop := Claim7.holds Tryz.pinned (.plain (OpenSpec.ofChange delayRunsSpec)) delayRunsCard

/-- THE TIED CARD OF 'stilelaw12.FencesPlaces'. -/
def fencesPlacesCard : Claim7 := { stood := { row := fencesPlacesRow, standIns := [], harness := (true, "43eb100065f7283d72337bf2fb1030522f20604b19dd21ffd34217fa926d8743"), looks := true }, kinds := [], alts := [], laidByText := true, laidKinds := [.data], laidTests := true, laidLooks := .later }
def FencesPlacesCardSaid : Prop := Claim7.holds Tryz.pinned (.plain (OpenSpec.ofChange fencesPlacesSpec)) fencesPlacesCard

/-- THE TIED CARD OF 'stilelaw12.FencesCosts'. -/
def fencesCostsCard : Claim7 := { stood := { row := fencesCostsRow, standIns := [], harness := (true, "43eb100065f7283d72337bf2fb1030522f20604b19dd21ffd34217fa926d8743"), looks := true }, kinds := [], alts := [], laidByText := true, laidKinds := [.data], laidTests := true, laidLooks := .later }
def FencesCostsCardSaid : Prop := Claim7.holds Tryz.pinned (.plain (OpenSpec.ofChange fencesCostsSpec)) fencesCostsCard

/-- THE TIED CARD OF 'stilelaw12.FencesNeeds'. -/
def fencesNeedsCard : Claim7 := { stood := { row := fencesNeedsRow, standIns := [], harness := (true, "43eb100065f7283d72337bf2fb1030522f20604b19dd21ffd34217fa926d8743"), looks := true }, kinds := [], alts := [], laidByText := true, laidKinds := [.data], laidTests := true, laidLooks := .later }
def FencesNeedsCardSaid : Prop := Claim7.holds Tryz.pinned (.plain (OpenSpec.ofChange fencesNeedsSpec)) fencesNeedsCard

/-- THE TIED CARD OF 'stilelaw12.FencesOwn'. -/
def fencesOwnCard : Claim7 := { stood := { row := fencesOwnRow, standIns := [], harness := (true, "43eb100065f7283d72337bf2fb1030522f20604b19dd21ffd34217fa926d8743"), looks := true }, kinds := [], alts := [], laidByText := true, laidKinds := [.data], laidTests := true, laidLooks := .later }
def FencesOwnCardSaid : Prop := Claim7.holds Tryz.pinned (.plain (OpenSpec.ofChange fencesOwnSpec)) fencesOwnCard

/-- THE SECOND FORM's CARD OF 'stilelaw11.DelayOpens'. -/
def delayOpensUptoCard : Claim7 := { stood := { row := delayOpensUptoRow, standIns := [], harness := (true, "43eb100065f7283d72337bf2fb1030522f20604b19dd21ffd34217fa926d8743"), looks := true }, kinds := [], alts := [], laidByText := true, laidKinds := [.data], laidTests := true, laidLooks := .later }
def DelayOpensUptoCardSaid : Prop := Claim7.holds Tryz.pinned (.plain (OpenSpec.upto delayOpensSpec)) delayOpensUptoCard

/-- THE SECOND FORM's CARD OF 'stilelaw11.DelayPairs'. -/
def delayPairsUptoCard : Claim7 := { stood := { row := delayPairsUptoRow, standIns := [], harness := (true, "43eb100065f7283d72337bf2fb1030522f20604b19dd21ffd34217fa926d8743"), looks := true }, kinds := [], alts := [], laidByText := true, laidKinds := [.data], laidTests := true, laidLooks := .later }
def DelayPairsUptoCardSaid : Prop := Claim7.holds Tryz.pinned (.plain (OpenSpec.upto delayPairsSpec)) delayPairsUptoCard

/-- THE SECOND FORM's CARD OF 'stilelaw11.DelayOwn'. -/
def delayOwnUptoCard : Claim7 := { stood := { row := delayOwnUptoRow, standIns := [], harness := (true, "43eb100065f7283d72337bf2fb1030522f20604b19dd21ffd34217fa926d8743"), looks := true }, kinds := [], alts := [], laidByText := true, laidKinds := [.data], laidTests := true, laidLooks := .later }
def DelayOwnUptoCardSaid : Prop := Claim7.holds Tryz.pinned (.plain (OpenSpec.upto delayOwnSpec)) delayOwnUptoCard

/-- THE SECOND FORM's CARD OF 'stilelaw11.DelayRuns'. -/
def delayRunsUptoCard : Claim7 := { stood := { row := delayRunsUptoRow, standIns := [], harness := (true, "43eb100065f7283d72337bf2fb1030522f20604b19dd21ffd34217fa926d8743"), looks := true }, kinds := [], alts := [], laidByText := true, laidKinds := [.data], laidTests := true, laidLooks := .later }
def DelayRunsUptoCardSaid : Prop := Claim7.holds Tryz.pinned (.plain (OpenSpec.upto delayRunsSpec)) delayRunsUptoCard

/-- THE SECOND FORM's CARD OF 'stilelaw12.FencesPlaces'. -/
def fencesPlacesUptoCard : Claim7 := { stood := { row := fencesPlacesUptoRow, standIns := [], harness := (true, "43eb100065f7283d72337bf2fb1030522f20604b19dd21ffd34217fa926d8743"), looks := true }, kinds := [], alts := [], laidByText := true, laidKinds := [.data], laidTests := true, laidLooks := .later }
def FencesPlacesUptoCardSaid : Prop := Claim7.holds Tryz.pinned (.plain (OpenSpec.upto fencesPlacesSpec)) fencesPlacesUptoCard

/-- THE SECOND FORM's CARD OF 'stilelaw12.FencesCosts'. -/
def fencesCostsUptoCard : Claim7 := { stood := { row := fencesCostsUptoRow, standIns := [], harness := (true, "43eb100065f7283d72337bf2fb1030522f20604b19dd21ffd34217fa926d8743"), looks := true }, kinds := [], alts := [], laidByText := true, laidKinds := [.data], laidTests := true, laidLooks := .later }
def FencesCostsUptoCardSaid : Prop := Claim7.holds Tryz.pinned (.plain (OpenSpec.upto fencesCostsSpec)) fencesCostsUptoCard

/-- THE SECOND FORM's CARD OF 'stilelaw12.FencesNeeds'. -/
def fencesNeedsUptoCard : Claim7 := { stood := { row := fencesNeedsUptoRow, standIns := [], harness := (true, "43eb100065f7283d72337bf2fb1030522f20604b19dd21ffd34217fa926d8743"), looks := true }, kinds := [], alts := [], laidByText := true, laidKinds := [.data], laidTests := true, laidLooks := .later }
def FencesNeedsUptoCardSaid : Prop := Claim7.holds Tryz.pinned (.plain (OpenSpec.upto fencesNeedsSpec)) fencesNeedsUptoCard

/-- THE SECOND FORM's CARD OF 'stilelaw12.FencesOwn'. -/
def fencesOwnUptoCard : Claim7 := { stood := { row := fencesOwnUptoRow, standIns := [], harness := (true, "43eb100065f7283d72337bf2fb1030522f20604b19dd21ffd34217fa926d8743"), looks := true }, kinds := [], alts := [], laidByText := true, laidKinds := [.data], laidTests := true, laidLooks := .later }
def FencesOwnUptoCardSaid : Prop := Claim7.holds Tryz.pinned (.plain (OpenSpec.upto fencesOwnSpec)) fencesOwnUptoCard
end Rows
end Go.Proofs.YtffgnjgphkdodaaGreatDoor
