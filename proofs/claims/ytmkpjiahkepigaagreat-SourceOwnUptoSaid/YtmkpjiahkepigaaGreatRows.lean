/-
  No cell of these rows narrows 'for every input' (looked for: loops, veiled, ifaces, maps, wideKeys, modest, calm, conditions, laid).
  DERIVED. THE GIVEN ROWS OF THIS SEAT. 3 by the template 'for every input the law returns true; each argument reads behind the call as it read before'; 0 by the template 'total and deterministic' (their statements: YtmkpjiahkepigaaGreatTotals.lean).
  GIVEN WITH THE SEED: the statements are not yours to turn. If you find one false, say at which input.
  Laid BY PROGRAM, IN A SANDBOX (cutbox-rows.mjs): the forced cells as the released guide's own fill.sh prints them over the translation 4dde574b5f518916… (all of the seat's roots in one cut). By AI agents, Wed Nov 11 2026. No macro, syntax, notation, axiom, sorry.
-/
import Derived.Test.YtmkpjiahkepigaaGreatChecked
import GoSem.Claim
import GoSem.ClaimJoined
import GoSem.ClaimMapViews
import Derived.JoinedTies
import Derived.KernelRfl
namespace Go.Proofs.YtmkpjiahkepigaaGreat
/- THE CELL 'sum', in the pinned program and in every row, IS THE sha256 OF THE DUMP (.gsa) THAT YtmkpjiahkepigaaGreatProg.lean LOADS. Nothing in Lean hashes anything: it is a label: what it is worth is what the hold of that sum in a sandbox is worth. -/
noncomputable def Tryz.pinned : Pinned := { name := "ytmkpjiahkepigaagreat", sum := "4dde574b5f518916c003c9279579f83dca310a89cd9699094bbaa5e036a04a5c", checked := Tryz.checked }
namespace Rows
def none {H : Type} : Left H := { results := [], args := [] }

/-- 'stilelaw07.SourceSteps': WHATEVER THE INPUT: true; the input reads as it did. -/
def sourceStepsSpec : ChangeSpec := { name := "sourceSteps", fn := fun _ => fun
  | [d1, d2] => { results := [.lit (.bool true)], args := [d1, d2] }
  | _ => none }
def sourceStepsRow : OpenClaim := { program := "ytmkpjiahkepigaagreat", sum := "4dde574b5f518916c003c9279579f83dca310a89cd9699094bbaa5e036a04a5c", func := "stile/stilelaw07.SourceSteps", spec := "sourceSteps", inPlace := ["internal/abi.NoEscape"], unfollowed := true, recurses := true, apart := false }
def SourceStepsSaid : Prop := sourceStepsRow.holds Tryz.pinned (OpenSpec.ofChange sourceStepsSpec)

/-- ITS FALSE NEIGHBOUR: 'it returns false'. Refute it at one input. -/
def sourceStepsWrong : ChangeSpec := { name := "sourceSteps", fn := fun _ => fun
  | [d1, d2] => { results := [.lit (.bool false)], args := [d1, d2] }
  | _ => none }
def SourceStepsWrongFalsely : Prop := sourceStepsRow.holds Tryz.pinned (OpenSpec.ofChange sourceStepsWrong)

/-- 'stilelaw07.SourceRuns': WHATEVER THE INPUT: true; the input reads as it did. -/
def sourceRunsSpec : ChangeSpec := { name := "sourceRuns", fn := fun _ => fun
  | [d1, d2, d3, d4, d5, d6] => { results := [.lit (.bool true)], args := [d1, d2, d3, d4, d5, d6] }
  | _ => none }
def sourceRunsRow : OpenClaim := { program := "ytmkpjiahkepigaagreat", sum := "4dde574b5f518916c003c9279579f83dca310a89cd9699094bbaa5e036a04a5c", func := "stile/stilelaw07.SourceRuns", spec := "sourceRuns", inPlace := ["internal/abi.NoEscape"], unfollowed := true, recurses := true, apart := false }
def SourceRunsSaid : Prop := sourceRunsRow.holds Tryz.pinned (OpenSpec.ofChange sourceRunsSpec)

/-- ITS FALSE NEIGHBOUR: 'it returns false'. Refute it at one input. -/
def sourceRunsWrong : ChangeSpec := { name := "sourceRuns", fn := fun _ => fun
  | [d1, d2, d3, d4, d5, d6] => { results := [.lit (.bool false)], args := [d1, d2, d3, d4, d5, d6] }
  | _ => none }
def SourceRunsWrongFalsely : Prop := sourceRunsRow.holds Tryz.pinned (OpenSpec.ofChange sourceRunsWrong)

/-- 'stilelaw07.SourceOwn': WHATEVER THE INPUT: true; the input reads as it did. -/
def sourceOwnSpec : ChangeSpec := { name := "sourceOwn", fn := fun _ => fun
  | [d1, d2] => { results := [.lit (.bool true)], args := [d1, d2] }
  | _ => none }
def sourceOwnRow : OpenClaim := { program := "ytmkpjiahkepigaagreat", sum := "4dde574b5f518916c003c9279579f83dca310a89cd9699094bbaa5e036a04a5c", func := "stile/stilelaw07.SourceOwn", spec := "sourceOwn", inPlace := ["internal/abi.NoEscape"], unfollowed := true, recurses := true, apart := false }
def SourceOwnSaid : Prop := sourceOwnRow.holds Tryz.pinned (OpenSpec.ofChange sourceOwnSpec)

/-- ITS FALSE NEIGHBOUR: 'it returns false'. Refute it at one input. -/
def sourceOwnWrong : ChangeSpec := { name := "sourceOwn", fn := fun _ => fun
  | [d1, d2] => { results := [.lit (.bool false)], args := [d1, d2] }
  | _ => none }
def SourceOwnWrongFalsely : Prop := sourceOwnRow.holds Tryz.pinned (OpenSpec.ofChange sourceOwnWrong)

/- THE SECOND FORM. 'bulk': how many values and letters a reading holds, each counted each time it is reached (what is shared counts as often as it is met; a slice's spare places count too). A statement '..UptoSaid' is the law's where the arguments, and the package variables that the reading takes, are together of bulk at most 1048576: NARROWER than '..Said'. Prove '..Said' where nothing that the law and all that it calls make is longer than what came in: it says more and counts as full. Else prove '..UptoSaid'. A law counts once. -/
mutual
def uptoBulk {H : Type} : DataW H → Nat
  | .lit (.string bytes) => bytes.length + 1
  | .lit _ => 1
  | .nil => 1
  | .ptr d => uptoBulk d + 1
  | .slice elems spare => uptoBulkAll elems + uptoBulkAll spare + 1
  | .agg parts => uptoBulkAll parts + 1
  | .iface _ d => uptoBulk d + 1
  | .map entries => uptoBulkEntries entries + 1
  | .held _ => 1
def uptoBulkAll {H : Type} : List (DataW H) → Nat
  | [] => 0
  | d :: r => uptoBulk d + uptoBulkAll r
def uptoBulkEntries {H : Type} : List (Lit × DataW H) → Nat
  | [] => 0
  | x :: r => uptoBulkEntry x + uptoBulkEntries r
def uptoBulkEntry {H : Type} : Lit × DataW H → Nat
  | (.string bytes, d) => bytes.length + uptoBulk d + 1
  | (_, d) => uptoBulk d + 1
 end
def uptoSmall : (H : Type) → List (DataW H) → Bool := fun _ ds => decide (uptoBulkAll ds ≤ 1048576)
def OpenSpec.upto (s : _root_.Go.ChangeSpec) : _root_.Go.OpenSpec := { _root_.Go.OpenSpec.ofChange s with cond := some uptoSmall }

/-- 'stilelaw07.SourceSteps', WHERE WHAT IT READS IS OF BULK AT MOST 1048576: true; the input reads as it did. -/
def sourceStepsUptoRow : OpenClaim := { program := "ytmkpjiahkepigaagreat", sum := "4dde574b5f518916c003c9279579f83dca310a89cd9699094bbaa5e036a04a5c", func := "stile/stilelaw07.SourceSteps", spec := "sourceSteps", inPlace := ["internal/abi.NoEscape"], unfollowed := true, recurses := true, apart := false, narrowed := true }
def SourceStepsUptoSaid : Prop := sourceStepsUptoRow.holds Tryz.pinned (OpenSpec.upto sourceStepsSpec)

/-- 'stilelaw07.SourceRuns', WHERE WHAT IT READS IS OF BULK AT MOST 1048576: true; the input reads as it did. -/
def sourceRunsUptoRow : OpenClaim := { program := "ytmkpjiahkepigaagreat", sum := "4dde574b5f518916c003c9279579f83dca310a89cd9699094bbaa5e036a04a5c", func := "stile/stilelaw07.SourceRuns", spec := "sourceRuns", inPlace := ["internal/abi.NoEscape"], unfollowed := true, recurses := true, apart := false, narrowed := true }
def SourceRunsUptoSaid : Prop := sourceRunsUptoRow.holds Tryz.pinned (OpenSpec.upto sourceRunsSpec)

/-- 'stilelaw07.SourceOwn', WHERE WHAT IT READS IS OF BULK AT MOST 1048576: true; the input reads as it did. -/
def sourceOwnUptoRow : OpenClaim := { program := "ytmkpjiahkepigaagreat", sum := "4dde574b5f518916c003c9279579f83dca310a89cd9699094bbaa5e036a04a5c", func := "stile/stilelaw07.SourceOwn", spec := "sourceOwn", inPlace := ["internal/abi.NoEscape"], unfollowed := true, recurses := true, apart := false, narrowed := true }
def SourceOwnUptoSaid : Prop := sourceOwnUptoRow.holds Tryz.pinned (OpenSpec.upto sourceOwnSpec)

end Rows
end Go.Proofs.YtmkpjiahkepigaaGreat
