/-
  NARROWER THAN 'FOR EVERY INPUT', by the rows' own cells (each row's printed sentence says how): LocksetClasses: laid · LocksetFewer: laid · LocksetUnders: laid · LocksetGuards: laid · LocksetUnder: laid · LocksetHelds: laid · LocksetOwn: laid · LocksetNoRace: laid.
  DERIVED. THE GIVEN ROWS OF THIS SEAT. 8 by the template 'for every input the law returns true; each argument reads behind the call as it read before'; 0 by the template 'total and deterministic' (their statements: YtpaieopclpddnaaDoorTotals.lean).
  GIVEN WITH THE SEED: the statements are not yours to turn. If you find one false, say at which input.
  Laid BY PROGRAM, IN A SANDBOX (cutbox-rows.mjs): the forced cells as the released guide's own fill.sh prints them over the translation b9f0dd6e369d5d55… (all of the seat's roots in one cut). By AI agents, Wed Nov 11 2026. No macro, syntax, notation, axiom, sorry.
-/
import Derived.Test.YtpaieopclpddnaaDoorChecked
import GoSem.Claim
import GoSem.ClaimJoined
import GoSem.ClaimMapViews
import Derived.JoinedTies
import Derived.KernelRfl
namespace Go.Proofs.YtpaieopclpddnaaDoor
/- THE CELL 'sum', in the pinned program and in every row, IS THE sha256 OF THE DUMP (.gsa) THAT YtpaieopclpddnaaDoorProg.lean LOADS. Nothing in Lean hashes anything: it is a label: what it is worth is what the hold of that sum in a sandbox is worth. -/
noncomputable def Tryd.pinned : Pinned := { name := "ytpaieopclpddnaadoor", sum := "b9f0dd6e369d5d559a2532a8e4b7882b1930903cbe7be7001f4c3b3f83d9e84b", checked := Tryd.checked }
namespace Rows
def none {H : Type} : Left H := { results := [], args := [] }

/- WHAT THE LISTED PACKAGE-LEVEL VARIABLES READ AS WHEN THE CALL BEGINS. Each datum BY PROGRAM (the guide's laid-datum.mjs) off the statement by which the dump's own 'gosem.cut.vars' lays the variable. In a bare row this is a premise. The card (YtpaieopclpddnaaDoorCards.lean) ties it to the program's text. -/
def laid_math_bits_deBruijn32tab {H : Type} : DataW H := .agg [.lit (.int .u8 0), .lit (.int .u8 1), .lit (.int .u8 28), .lit (.int .u8 2), .lit (.int .u8 29), .lit (.int .u8 14), .lit (.int .u8 24), .lit (.int .u8 3), .lit (.int .u8 30), .lit (.int .u8 22), .lit (.int .u8 20), .lit (.int .u8 15), .lit (.int .u8 25), .lit (.int .u8 17), .lit (.int .u8 4), .lit (.int .u8 8), .lit (.int .u8 31), .lit (.int .u8 27), .lit (.int .u8 13), .lit (.int .u8 23), .lit (.int .u8 21), .lit (.int .u8 19), .lit (.int .u8 16), .lit (.int .u8 7), .lit (.int .u8 26), .lit (.int .u8 12), .lit (.int .u8 18), .lit (.int .u8 6), .lit (.int .u8 11), .lit (.int .u8 5), .lit (.int .u8 10), .lit (.int .u8 9)]

/-- 'stilelaw10.LocksetClasses': WHATEVER THE INPUT: true; the input reads as it did. -/
def locksetClassesSpec : ChangeSpec := { name := "locksetClasses", fn := fun _ => fun
  | [d] => { results := [.lit (.bool true)], args := [d] }
  | _ => none }
def locksetClassesRow : OpenClaim := { program := "ytpaieopclpddnaadoor", sum := "b9f0dd6e369d5d559a2532a8e4b7882b1930903cbe7be7001f4c3b3f83d9e84b", func := "stile/stilelaw10.LocksetClasses", spec := "locksetClasses", unfollowed := true, recurses := true, named := ["math/bits.deBruijn32tab"], apart := false, laid := [("math/bits.deBruijn32tab", laid_math_bits_deBruijn32tab)] }
def LocksetClassesSaid : Prop := locksetClassesRow.holds Tryd.pinned (OpenSpec.ofChange locksetClassesSpec)

/-- ITS FALSE NEIGHBOUR: 'it returns false'. Refute it at one input. -/
def locksetClassesWrong : ChangeSpec := { name := "locksetClasses", fn := fun _ => fun
  | [d] => { results := [.lit (.bool false)], args := [d] }
  | _ => none }
def LocksetClassesWrongFalsely : Prop := locksetClassesRow.holds Tryd.pinned (OpenSpec.ofChange locksetClassesWrong)

/-- 'stilelaw10.LocksetFewer': WHATEVER THE INPUT: true; the input reads as it did. -/
def locksetFewerSpec : ChangeSpec := { name := "locksetFewer", fn := fun _ => fun
  | [d1, d2] => { results := [.lit (.bool true)], args := [d1, d2] }
  | _ => none }
def locksetFewerRow : OpenClaim := { program := "ytpaieopclpddnaadoor", sum := "b9f0dd6e369d5d559a2532a8e4b7882b1930903cbe7be7001f4c3b3f83d9e84b", func := "stile/stilelaw10.LocksetFewer", spec := "locksetFewer", unfollowed := true, recurses := true, named := ["math/bits.deBruijn32tab"], apart := false, laid := [("math/bits.deBruijn32tab", laid_math_bits_deBruijn32tab)] }
def LocksetFewerSaid : Prop := locksetFewerRow.holds Tryd.pinned (OpenSpec.ofChange locksetFewerSpec)

/-- ITS FALSE NEIGHBOUR: 'it returns false'. Refute it at one input. -/
def locksetFewerWrong : ChangeSpec := { name := "locksetFewer", fn := fun _ => fun
  | [d1, d2] => { results := [.lit (.bool false)], args := [d1, d2] }
  | _ => none }
def LocksetFewerWrongFalsely : Prop := locksetFewerRow.holds Tryd.pinned (OpenSpec.ofChange locksetFewerWrong)

/-- 'stilelaw10.LocksetUnders': WHATEVER THE INPUT: true; the input reads as it did. -/
def locksetUndersSpec : ChangeSpec := { name := "locksetUnders", fn := fun _ => fun
  | [d1, d2, d3] => { results := [.lit (.bool true)], args := [d1, d2, d3] }
  | _ => none }
def locksetUndersRow : OpenClaim := { program := "ytpaieopclpddnaadoor", sum := "b9f0dd6e369d5d559a2532a8e4b7882b1930903cbe7be7001f4c3b3f83d9e84b", func := "stile/stilelaw10.LocksetUnders", spec := "locksetUnders", unfollowed := true, recurses := true, named := ["math/bits.deBruijn32tab"], apart := false, laid := [("math/bits.deBruijn32tab", laid_math_bits_deBruijn32tab)] }
def LocksetUndersSaid : Prop := locksetUndersRow.holds Tryd.pinned (OpenSpec.ofChange locksetUndersSpec)

/-- ITS FALSE NEIGHBOUR: 'it returns false'. Refute it at one input. -/
def locksetUndersWrong : ChangeSpec := { name := "locksetUnders", fn := fun _ => fun
  | [d1, d2, d3] => { results := [.lit (.bool false)], args := [d1, d2, d3] }
  | _ => none }
def LocksetUndersWrongFalsely : Prop := locksetUndersRow.holds Tryd.pinned (OpenSpec.ofChange locksetUndersWrong)

/-- 'stilelaw10.LocksetGuards': WHATEVER THE INPUT: true; the input reads as it did. -/
def locksetGuardsSpec : ChangeSpec := { name := "locksetGuards", fn := fun _ => fun
  | [d1, d2, d3] => { results := [.lit (.bool true)], args := [d1, d2, d3] }
  | _ => none }
def locksetGuardsRow : OpenClaim := { program := "ytpaieopclpddnaadoor", sum := "b9f0dd6e369d5d559a2532a8e4b7882b1930903cbe7be7001f4c3b3f83d9e84b", func := "stile/stilelaw10.LocksetGuards", spec := "locksetGuards", unfollowed := true, recurses := true, named := ["math/bits.deBruijn32tab"], apart := false, laid := [("math/bits.deBruijn32tab", laid_math_bits_deBruijn32tab)] }
def LocksetGuardsSaid : Prop := locksetGuardsRow.holds Tryd.pinned (OpenSpec.ofChange locksetGuardsSpec)

/-- ITS FALSE NEIGHBOUR: 'it returns false'. Refute it at one input. -/
def locksetGuardsWrong : ChangeSpec := { name := "locksetGuards", fn := fun _ => fun
  | [d1, d2, d3] => { results := [.lit (.bool false)], args := [d1, d2, d3] }
  | _ => none }
def LocksetGuardsWrongFalsely : Prop := locksetGuardsRow.holds Tryd.pinned (OpenSpec.ofChange locksetGuardsWrong)

/-- 'stilelaw10.LocksetUnder': WHATEVER THE INPUT: true; the input reads as it did. -/
def locksetUnderSpec : ChangeSpec := { name := "locksetUnder", fn := fun _ => fun
  | [d1, d2, d3] => { results := [.lit (.bool true)], args := [d1, d2, d3] }
  | _ => none }
def locksetUnderRow : OpenClaim := { program := "ytpaieopclpddnaadoor", sum := "b9f0dd6e369d5d559a2532a8e4b7882b1930903cbe7be7001f4c3b3f83d9e84b", func := "stile/stilelaw10.LocksetUnder", spec := "locksetUnder", unfollowed := true, recurses := true, named := ["math/bits.deBruijn32tab"], apart := false, laid := [("math/bits.deBruijn32tab", laid_math_bits_deBruijn32tab)] }
def LocksetUnderSaid : Prop := locksetUnderRow.holds Tryd.pinned (OpenSpec.ofChange locksetUnderSpec)

/-- ITS FALSE NEIGHBOUR: 'it returns false'. Refute it at one input. -/
def locksetUnderWrong : ChangeSpec := { name := "locksetUnder", fn := fun _ => fun
  | [d1, d2, d3] => { results := [.lit (.bool false)], args := [d1, d2, d3] }
  | _ => none }
def LocksetUnderWrongFalsely : Prop := locksetUnderRow.holds Tryd.pinned (OpenSpec.ofChange locksetUnderWrong)

/-- 'stilelaw10.LocksetHelds': WHATEVER THE INPUT: true; the input reads as it did. -/
def locksetHeldsSpec : ChangeSpec := { name := "locksetHelds", fn := fun _ => fun
  | [d1, d2] => { results := [.lit (.bool true)], args := [d1, d2] }
  | _ => none }
def locksetHeldsRow : OpenClaim := { program := "ytpaieopclpddnaadoor", sum := "b9f0dd6e369d5d559a2532a8e4b7882b1930903cbe7be7001f4c3b3f83d9e84b", func := "stile/stilelaw10.LocksetHelds", spec := "locksetHelds", unfollowed := true, recurses := true, named := ["math/bits.deBruijn32tab"], apart := false, laid := [("math/bits.deBruijn32tab", laid_math_bits_deBruijn32tab)] }
def LocksetHeldsSaid : Prop := locksetHeldsRow.holds Tryd.pinned (OpenSpec.ofChange locksetHeldsSpec)

/-- ITS FALSE NEIGHBOUR: 'it returns false'. Refute it at one input. -/
def locksetHeldsWrong : ChangeSpec := { name := "locksetHelds", fn := fun _ => fun
  | [d1, d2] => { results := [.lit (.bool false)], args := [d1, d2] }
  | _ => none }
def LocksetHeldsWrongFalsely : Prop := locksetHeldsRow.holds Tryd.pinned (OpenSpec.ofChange locksetHeldsWrong)

/-- 'stilelaw10.LocksetOwn': WHATEVER THE INPUT: true; the input reads as it did. -/
def locksetOwnSpec : ChangeSpec := { name := "locksetOwn", fn := fun _ => fun
  | [d1, d2] => { results := [.lit (.bool true)], args := [d1, d2] }
  | _ => none }
def locksetOwnRow : OpenClaim := { program := "ytpaieopclpddnaadoor", sum := "b9f0dd6e369d5d559a2532a8e4b7882b1930903cbe7be7001f4c3b3f83d9e84b", func := "stile/stilelaw10.LocksetOwn", spec := "locksetOwn", unfollowed := true, recurses := true, named := ["math/bits.deBruijn32tab"], apart := false, laid := [("math/bits.deBruijn32tab", laid_math_bits_deBruijn32tab)] }
def LocksetOwnSaid : Prop := locksetOwnRow.holds Tryd.pinned (OpenSpec.ofChange locksetOwnSpec)

/-- ITS FALSE NEIGHBOUR: 'it returns false'. Refute it at one input. -/
def locksetOwnWrong : ChangeSpec := { name := "locksetOwn", fn := fun _ => fun
  | [d1, d2] => { results := [.lit (.bool false)], args := [d1, d2] }
  | _ => none }
def LocksetOwnWrongFalsely : Prop := locksetOwnRow.holds Tryd.pinned (OpenSpec.ofChange locksetOwnWrong)

/-- 'stilelaw10.LocksetNoRace': WHATEVER THE INPUT: true; the input reads as it did. -/
def locksetNoRaceSpec : ChangeSpec := { name := "locksetNoRace", fn := fun _ => fun
  | [d] => { results := [.lit (.bool true)], args := [d] }
  | _ => none }
def locksetNoRaceRow : OpenClaim := { program := "ytpaieopclpddnaadoor", sum := "b9f0dd6e369d5d559a2532a8e4b7882b1930903cbe7be7001f4c3b3f83d9e84b", func := "stile/stilelaw10.LocksetNoRace", spec := "locksetNoRace", unfollowed := true, recurses := true, named := ["math/bits.deBruijn32tab"], apart := false, laid := [("math/bits.deBruijn32tab", laid_math_bits_deBruijn32tab)] }
def LocksetNoRaceSaid : Prop := locksetNoRaceRow.holds Tryd.pinned (OpenSpec.ofChange locksetNoRaceSpec)

/-- ITS FALSE NEIGHBOUR: 'it returns false'. Refute it at one input. -/
def locksetNoRaceWrong : ChangeSpec := { name := "locksetNoRace", fn := fun _ => fun
  | [d] => { results := [.lit (.bool false)], args := [d] }
  | _ => none }
def LocksetNoRaceWrongFalsely : Prop := locksetNoRaceRow.holds Tryd.pinned (OpenSpec.ofChange locksetNoRaceWrong)

/- THE SECOND FORM. 'bulk': how many values and letters a reading holds, each counted each time it is reached (what is shared counts as often as it is met; a slice's spare places count too). A statement '..UptoSaid' is the law's where the arguments, and the package variables that the reading takes, are together of bulk at most 1048576: NARROWER than '..Said'. Prove '..Said' where nothing that the law and all that it calls make is longer than what came in: it says more and counts as full. Else prove '..UptoSaid'. A law counts once. -/
mutual
def uptoBulk {H : Type} : DataW H → Nat
  | .lit (.string bytes) => bytes.length + 1
  | .lit _ => 1
  | .nil => 1
  | .ptr d => uptoBulk d + 1
  | .slice elems spare => uptoBulkAll elems + uptoBulkAll spare + 1
  | .agg parts => uptoBulkAll parts + 1
  | .iface _ d => uptoBulk d + 1
  | .map entries => uptoBulkEntries entries + 1
  | .held _ => 1
def uptoBulkAll {H : Type} : List (DataW H) → Nat
  | [] => 0
  | d :: r => uptoBulk d + uptoBulkAll r
def uptoBulkEntries {H : Type} : List (Lit × DataW H) → Nat
  | [] => 0
  | x :: r => uptoBulkEntry x + uptoBulkEntries r
def uptoBulkEntry {H : Type} : Lit × DataW H → Nat
  | (.string bytes, d) => bytes.length + uptoBulk d + 1
  | (_, d) => uptoBulk d + 1
 end
def uptoSmall : (H : Type) → List (DataW H) → Bool := fun _ ds => decide (uptoBulkAll ds ≤ 1048576)
def OpenSpec.upto (s : _root_.Go.ChangeSpec) : _root_.Go.OpenSpec := { _root_.Go.OpenSpec.ofChange s with cond := some uptoSmall }

/-- 'stilelaw10.LocksetClasses', WHERE WHAT IT READS IS OF BULK AT MOST 1048576: true; the input reads as it did. -/
def locksetClassesUptoRow : OpenClaim := { program := "ytpaieopclpddnaadoor", sum := "b9f0dd6e369d5d559a2532a8e4b7882b1930903cbe7be7001f4c3b3f83d9e84b", func := "stile/stilelaw10.LocksetClasses", spec := "locksetClasses", unfollowed := true, recurses := true, named := ["math/bits.deBruijn32tab"], apart := false, laid := [("math/bits.deBruijn32tab", laid_math_bits_deBruijn32tab)], narrowed := true }
def LocksetClassesUptoSaid : Prop := locksetClassesUptoRow.holds Tryd.pinned (OpenSpec.upto locksetClassesSpec)

/-- 'stilelaw10.LocksetFewer', WHERE WHAT IT READS IS OF BULK AT MOST 1048576: true; the input reads as it did. -/
def locksetFewerUptoRow : OpenClaim := { program := "ytpaieopclpddnaadoor", sum := "b9f0dd6e369d5d559a2532a8e4b7882b1930903cbe7be7001f4c3b3f83d9e84b", func := "stile/stilelaw10.LocksetFewer", spec := "locksetFewer", unfollowed := true, recurses := true, named := ["math/bits.deBruijn32tab"], apart := false, laid := [("math/bits.deBruijn32tab", laid_math_bits_deBruijn32tab)], narrowed := true }
def LocksetFewerUptoSaid : Prop := locksetFewerUptoRow.holds Tryd.pinned (OpenSpec.upto locksetFewerSpec)

/-- 'stilelaw10.LocksetUnders', WHERE WHAT IT READS IS OF BULK AT MOST 1048576: true; the input reads as it did. -/
def locksetUndersUptoRow : OpenClaim := { program := "ytpaieopclpddnaadoor", sum := "b9f0dd6e369d5d559a2532a8e4b7882b1930903cbe7be7001f4c3b3f83d9e84b", func := "stile/stilelaw10.LocksetUnders", spec := "locksetUnders", unfollowed := true, recurses := true, named := ["math/bits.deBruijn32tab"], apart := false, laid := [("math/bits.deBruijn32tab", laid_math_bits_deBruijn32tab)], narrowed := true }
def LocksetUndersUptoSaid : Prop := locksetUndersUptoRow.holds Tryd.pinned (OpenSpec.upto locksetUndersSpec)

/-- 'stilelaw10.LocksetGuards', WHERE WHAT IT READS IS OF BULK AT MOST 1048576: true; the input reads as it did. -/
def locksetGuardsUptoRow : OpenClaim := { program := "ytpaieopclpddnaadoor", sum := "b9f0dd6e369d5d559a2532a8e4b7882b1930903cbe7be7001f4c3b3f83d9e84b", func := "stile/stilelaw10.LocksetGuards", spec := "locksetGuards", unfollowed := true, recurses := true, named := ["math/bits.deBruijn32tab"], apart := false, laid := [("math/bits.deBruijn32tab", laid_math_bits_deBruijn32tab)], narrowed := true }
def LocksetGuardsUptoSaid : Prop := locksetGuardsUptoRow.holds Tryd.pinned (OpenSpec.upto locksetGuardsSpec)

/-- 'stilelaw10.LocksetUnder', WHERE WHAT IT READS IS OF BULK AT MOST 1048576: true; the input reads as it did. -/
def locksetUnderUptoRow : OpenClaim := { program := "ytpaieopclpddnaadoor", sum := "b9f0dd6e369d5d559a2532a8e4b7882b1930903cbe7be7001f4c3b3f83d9e84b", func := "stile/stilelaw10.LocksetUnder", spec := "locksetUnder", unfollowed := true, recurses := true, named := ["math/bits.deBruijn32tab"], apart := false, laid := [("math/bits.deBruijn32tab", laid_math_bits_deBruijn32tab)], narrowed := true }
def LocksetUnderUptoSaid : Prop := locksetUnderUptoRow.holds Tryd.pinned (OpenSpec.upto locksetUnderSpec)

/-- 'stilelaw10.LocksetHelds', WHERE WHAT IT READS IS OF BULK AT MOST 1048576: true; the input reads as it did. -/
def locksetHeldsUptoRow : OpenClaim := { program := "ytpaieopclpddnaadoor", sum := "b9f0dd6e369d5d559a2532a8e4b7882b1930903cbe7be7001f4c3b3f83d9e84b", func := "stile/stilelaw10.LocksetHelds", spec := "locksetHelds", unfollowed := true, recurses := true, named := ["math/bits.deBruijn32tab"], apart := false, laid := [("math/bits.deBruijn32tab", laid_math_bits_deBruijn32tab)], narrowed := true }
def LocksetHeldsUptoSaid : Prop := locksetHeldsUptoRow.holds Tryd.pinned (OpenSpec.upto locksetHeldsSpec)

/-- 'stilelaw10.LocksetOwn', WHERE WHAT IT READS IS OF BULK AT MOST 1048576: true; the input reads as it did. -/
def locksetOwnUptoRow : OpenClaim := { program := "ytpaieopclpddnaadoor", sum := "b9f0dd6e369d5d559a2532a8e4b7882b1930903cbe7be7001f4c3b3f83d9e84b", func := "stile/stilelaw10.LocksetOwn", spec := "locksetOwn", unfollowed := true, recurses := true, named := ["math/bits.deBruijn32tab"], apart := false, laid := [("math/bits.deBruijn32tab", laid_math_bits_deBruijn32tab)], narrowed := true }
def LocksetOwnUptoSaid : Prop := locksetOwnUptoRow.holds Tryd.pinned (OpenSpec.upto locksetOwnSpec)

/-- 'stilelaw10.LocksetNoRace', WHERE WHAT IT READS IS OF BULK AT MOST 1048576: true; the input reads as it did. -/
def locksetNoRaceUptoRow : OpenClaim := { program := "ytpaieopclpddnaadoor", sum := "b9f0dd6e369d5d559a2532a8e4b7882b1930903cbe7be7001f4c3b3f83d9e84b", func := "stile/stilelaw10.LocksetNoRace", spec := "locksetNoRace", unfollowed := true, recurses := true, named := ["math/bits.deBruijn32tab"], apart := false, laid := [("math/bits.deBruijn32tab", laid_math_bits_deBruijn32tab)], narrowed := true }
def LocksetNoRaceUptoSaid : Prop := locksetNoRaceUptoRow.holds Tryd.pinned (OpenSpec.upto locksetNoRaceSpec)

end Rows
end Go.Proofs.YtpaieopclpddnaaDoor
