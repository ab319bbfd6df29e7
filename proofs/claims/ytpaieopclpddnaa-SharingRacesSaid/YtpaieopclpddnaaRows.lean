/-
  No cell of these rows narrows 'for every input' (looked for: loops, veiled, ifaces, maps, wideKeys, modest, calm, conditions, laid).
  DERIVED. THE GIVEN ROWS OF THIS SEAT. 4 by the template 'for every input the law returns true; each argument reads behind the call as it read before'; 0 by the template 'total and deterministic' (their statements: YtpaieopclpddnaaTotals.lean).
  GIVEN WITH THE SEED: the statements are not yours to turn. If you find one false, say at which input.
  Laid BY PROGRAM, IN A SANDBOX (cutbox-rows.mjs): the forced cells as the released guide's own fill.sh prints them over the translation 3cbfc93cf82d66ae… (all of the seat's roots in one cut). By AI agents, Wed Nov 11 2026. No macro, syntax, notation, axiom, sorry.
-/
import Derived.Test.YtpaieopclpddnaaChecked
import GoSem.Claim
import GoSem.ClaimJoined
import GoSem.ClaimMapViews
import Derived.JoinedTies
import Derived.KernelRfl
namespace Go.Proofs.Ytpaieopclpddnaa
/- THE CELL 'sum', in the pinned program and in every row, IS THE sha256 OF THE DUMP (.gsa) THAT YtpaieopclpddnaaProg.lean LOADS. Nothing in Lean hashes anything: it is a label: what it is worth is what the hold of that sum in a sandbox is worth. -/
noncomputable def Try.pinned : Pinned := { name := "ytpaieopclpddnaa", sum := "3cbfc93cf82d66ae73ddf2d320874ee1aa127f7989721cb4348814f575e3a2b4", checked := Try.checked }
namespace Rows
def none {H : Type} : Left H := { results := [], args := [] }

/-- 'stilelaw09.SharingRaces': WHATEVER THE INPUT: true; the input reads as it did. -/
def sharingRacesSpec : ChangeSpec := { name := "sharingRaces", fn := fun _ => fun
  | [d1, d2, d3] => { results := [.lit (.bool true)], args := [d1, d2, d3] }
  | _ => none }
def sharingRacesRow : OpenClaim := { program := "ytpaieopclpddnaa", sum := "3cbfc93cf82d66ae73ddf2d320874ee1aa127f7989721cb4348814f575e3a2b4", func := "stile/stilelaw09.SharingRaces", spec := "sharingRaces", unfollowed := true, recurses := true, plainKeys := false, apart := false }
def SharingRacesSaid : Prop := sharingRacesRow.holds Try.pinned (OpenSpec.ofChange sharingRacesSpec)

/-- ITS FALSE NEIGHBOUR: 'it returns false'. Refute it at one input. -/
def sharingRacesWrong : ChangeSpec := { name := "sharingRaces", fn := fun _ => fun
  | [d1, d2, d3] => { results := [.lit (.bool false)], args := [d1, d2, d3] }
  | _ => none }
def SharingRacesWrongFalsely : Prop := sharingRacesRow.holds Try.pinned (OpenSpec.ofChange sharingRacesWrong)

/-- 'stilelaw09.SharingTouches': WHATEVER THE INPUT: true; the input reads as it did. -/
def sharingTouchesSpec : ChangeSpec := { name := "sharingTouches", fn := fun _ => fun
  | [d] => { results := [.lit (.bool true)], args := [d] }
  | _ => none }
def sharingTouchesRow : OpenClaim := { program := "ytpaieopclpddnaa", sum := "3cbfc93cf82d66ae73ddf2d320874ee1aa127f7989721cb4348814f575e3a2b4", func := "stile/stilelaw09.SharingTouches", spec := "sharingTouches", unfollowed := true, recurses := true, plainKeys := false, apart := false }
def SharingTouchesSaid : Prop := sharingTouchesRow.holds Try.pinned (OpenSpec.ofChange sharingTouchesSpec)

/-- ITS FALSE NEIGHBOUR: 'it returns false'. Refute it at one input. -/
def sharingTouchesWrong : ChangeSpec := { name := "sharingTouches", fn := fun _ => fun
  | [d] => { results := [.lit (.bool false)], args := [d] }
  | _ => none }
def SharingTouchesWrongFalsely : Prop := sharingTouchesRow.holds Try.pinned (OpenSpec.ofChange sharingTouchesWrong)

/-- 'stilelaw09.SharingOwn': WHATEVER THE INPUT: true; the input reads as it did. -/
def sharingOwnSpec : ChangeSpec := { name := "sharingOwn", fn := fun _ => fun
  | [d] => { results := [.lit (.bool true)], args := [d] }
  | _ => none }
def sharingOwnRow : OpenClaim := { program := "ytpaieopclpddnaa", sum := "3cbfc93cf82d66ae73ddf2d320874ee1aa127f7989721cb4348814f575e3a2b4", func := "stile/stilelaw09.SharingOwn", spec := "sharingOwn", unfollowed := true, recurses := true, plainKeys := false, apart := false }
def SharingOwnSaid : Prop := sharingOwnRow.holds Try.pinned (OpenSpec.ofChange sharingOwnSpec)

/-- ITS FALSE NEIGHBOUR: 'it returns false'. Refute it at one input. -/
def sharingOwnWrong : ChangeSpec := { name := "sharingOwn", fn := fun _ => fun
  | [d] => { results := [.lit (.bool false)], args := [d] }
  | _ => none }
def SharingOwnWrongFalsely : Prop := sharingOwnRow.holds Try.pinned (OpenSpec.ofChange sharingOwnWrong)

/-- 'stilelaw07.SourceHolds': WHATEVER THE INPUT: true; the input reads as it did. -/
def sourceHoldsSpec : ChangeSpec := { name := "sourceHolds", fn := fun _ => fun
  | [d1, d2] => { results := [.lit (.bool true)], args := [d1, d2] }
  | _ => none }
def sourceHoldsRow : OpenClaim := { program := "ytpaieopclpddnaa", sum := "3cbfc93cf82d66ae73ddf2d320874ee1aa127f7989721cb4348814f575e3a2b4", func := "stile/stilelaw07.SourceHolds", spec := "sourceHolds", unfollowed := true, recurses := true, plainKeys := false, apart := false }
def SourceHoldsSaid : Prop := sourceHoldsRow.holds Try.pinned (OpenSpec.ofChange sourceHoldsSpec)

/-- ITS FALSE NEIGHBOUR: 'it returns false'. Refute it at one input. -/
def sourceHoldsWrong : ChangeSpec := { name := "sourceHolds", fn := fun _ => fun
  | [d1, d2] => { results := [.lit (.bool false)], args := [d1, d2] }
  | _ => none }
def SourceHoldsWrongFalsely : Prop := sourceHoldsRow.holds Try.pinned (OpenSpec.ofChange sourceHoldsWrong)

/- THE SECOND FORM. 'bulk': how many values and letters a reading holds, each counted each time it is reached (what is shared counts as often as it is met; a slice's spare places count too). A statement '..UptoSaid' is the law's where the arguments, and the package variables that the reading takes, are together of bulk at most 1048576: NARROWER than '..Said'. Prove '..Said' where nothing that the law and all that it calls make is longer than what came in: it says more and counts as full. Else prove '..UptoSaid'. A law counts once. -/
mutual
def uptoBulk {H : Type} : DataW H → Nat
  | .lit (.string bytes) => bytes.length + 1
  | .lit _ => 1
  | .nil => 1
  | .ptr d => uptoBulk d + 1
  | .slice elems spare => uptoBulkAll elems + uptoBulkAll spare + 1
  | .agg parts => uptoBulkAll parts + 1
  | .iface _ d => uptoBulk d + 1
  | .map entries => uptoBulkEntries entries + 1
  | .held _ => 1
def uptoBulkAll {H : Type} : List (DataW H) → Nat
  | [] => 0
  | d :: r => uptoBulk d + uptoBulkAll r
def uptoBulkEntries {H : Type} : List (Lit × DataW H) → Nat
  | [] => 0
  | x :: r => uptoBulkEntry x + uptoBulkEntries r
def uptoBulkEntry {H : Type} : Lit × DataW H → Nat
  | (.string bytes, d) => bytes.length + uptoBulk d + 1
  | (_, d) => uptoBulk d + 1
 end
def uptoSmall : (H : Type) → List (DataW H) → Bool := fun _ ds => decide (uptoBulkAll ds ≤ 1048576)
def OpenSpec.upto (s : _root_.Go.ChangeSpec) : _root_.Go.OpenSpec := { _root_.Go.OpenSpec.ofChange s with cond := some uptoSmall }

/-- 'stilelaw09.SharingRaces', WHERE WHAT IT READS IS OF BULK AT MOST 1048576: true; the input reads as it did. -/
def sharingRacesUptoRow : OpenClaim := { program := "ytpaieopclpddnaa", sum := "3cbfc93cf82d66ae73ddf2d320874ee1aa127f7989721cb4348814f575e3a2b4", func := "stile/stilelaw09.SharingRaces", spec := "sharingRaces", unfollowed := true, recurses := true, plainKeys := false, apart := false, narrowed := true }
def SharingRacesUptoSaid : Prop := sharingRacesUptoRow.holds Try.pinned (OpenSpec.upto sharingRacesSpec)

/-- 'stilelaw09.SharingTouches', WHERE WHAT IT READS IS OF BULK AT MOST 1048576: true; the input reads as it did. -/
def sharingTouchesUptoRow : OpenClaim := { program := "ytpaieopclpddnaa", sum := "3cbfc93cf82d66ae73ddf2d320874ee1aa127f7989721cb4348814f575e3a2b4", func := "stile/stilelaw09.SharingTouches", spec := "sharingTouches", unfollowed := true, recurses := true, plainKeys := false, apart := false, narrowed := true }
def SharingTouchesUptoSaid : Prop := sharingTouchesUptoRow.holds Try.pinned (OpenSpec.upto sharingTouchesSpec)

/-- 'stilelaw09.SharingOwn', WHERE WHAT IT READS IS OF BULK AT MOST 1048576: true; the input reads as it did. -/
def sharingOwnUptoRow : OpenClaim := { program := "ytpaieopclpddnaa", sum := "3cbfc93cf82d66ae73ddf2d320874ee1aa127f7989721cb4348814f575e3a2b4", func := "stile/stilelaw09.SharingOwn", spec := "sharingOwn", unfollowed := true, recurses := true, plainKeys := false, apart := false, narrowed := true }
def SharingOwnUptoSaid : Prop := sharingOwnUptoRow.holds Try.pinned (OpenSpec.upto sharingOwnSpec)

/-- 'stilelaw07.SourceHolds', WHERE WHAT IT READS IS OF BULK AT MOST 1048576: true; the input reads as it did. -/
def sourceHoldsUptoRow : OpenClaim := { program := "ytpaieopclpddnaa", sum := "3cbfc93cf82d66ae73ddf2d320874ee1aa127f7989721cb4348814f575e3a2b4", func := "stile/stilelaw07.SourceHolds", spec := "sourceHolds", unfollowed := true, recurses := true, plainKeys := false, apart := false, narrowed := true }
def SourceHoldsUptoSaid : Prop := sourceHoldsUptoRow.holds Try.pinned (OpenSpec.upto sourceHoldsSpec)

end Rows
end Go.Proofs.Ytpaieopclpddnaa
