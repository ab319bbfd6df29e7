/-
  No cell of these rows narrows 'for every input' (looked for: loops, veiled, ifaces, maps, wideKeys, modest, calm, conditions, laid).
  DERIVED. THE GIVEN ROWS OF THIS SEAT. 8 by the template 'for every input the law returns true; each argument reads behind the call as it read before'; 0 by the template 'total and deterministic' (their statements: YtkkmkjjbffpgnaaTotals.lean).
  GIVEN WITH THE SEED: the statements are not yours to turn. If you find one false, say at which input.
  Laid BY PROGRAM, IN A SANDBOX (cutbox-rows.mjs): the forced cells as the released guide's own fill.sh prints them over the translation 9900c9c977243792… (all of the seat's roots in one cut). By AI agents, Wed Nov 11 2026. No macro, syntax, notation, axiom, sorry.
-/
import Derived.Test.YtkkmkjjbffpgnaaChecked
import GoSem.Claim
import GoSem.ClaimJoined
import GoSem.ClaimMapViews
import Derived.JoinedTies
import Derived.KernelRfl
namespace Go.Proofs.Ytkkmkjjbffpgnaa
/- THE CELL 'sum', in the pinned program and in every row, IS THE sha256 OF THE DUMP (.gsa) THAT YtkkmkjjbffpgnaaProg.lean LOADS. Nothing in Lean hashes anything: it is a label: what it is worth is what the hold of that sum in a sandbox is worth. -/
noncomputable def Try.pinned : Pinned := { name := "ytkkmkjjbffpgnaa", sum := "9900c9c977243792b0d1eb90cf56191e059b90662aba5bff480858aa3be7bd21", checked := Try.checked }
namespace Rows
def none {H : Type} : Left H := { results := [], args := [] }

/-- 'stilelaw09.SharingTouches': WHATEVER THE INPUT: true; the input reads as it did. -/
def sharingTouchesSpec : ChangeSpec := { name := "sharingTouches", fn := fun _ => fun
  | [d] => { results := [.lit (.bool true)], args := [d] }
  | _ => none }
def sharingTouchesRow : OpenClaim := { program := "ytkkmkjjbffpgnaa", sum := "9900c9c977243792b0d1eb90cf56191e059b90662aba5bff480858aa3be7bd21", func := "stile/stilelaw09.SharingTouches", spec := "sharingTouches", unfollowed := true, recurses := true, plainKeys := false, apart := false }
def SharingTouchesSaid : Prop := sharingTouchesRow.holds Try.pinned (OpenSpec.ofChange sharingTouchesSpec)

/-- ITS FALSE NEIGHBOUR: 'it returns false'. Refute it at one input. -/
def sharingTouchesWrong : ChangeSpec := { name := "sharingTouches", fn := fun _ => fun
  | [d] => { results := [.lit (.bool false)], args := [d] }
  | _ => none }
def SharingTouchesWrongFalsely : Prop := sharingTouchesRow.holds Try.pinned (OpenSpec.ofChange sharingTouchesWrong)

/-- 'stilelaw09.SharingOwn': WHATEVER THE INPUT: true; the input reads as it did. -/
def sharingOwnSpec : ChangeSpec := { name := "sharingOwn", fn := fun _ => fun
  | [d] => { results := [.lit (.bool true)], args := [d] }
  | _ => none }
def sharingOwnRow : OpenClaim := { program := "ytkkmkjjbffpgnaa", sum := "9900c9c977243792b0d1eb90cf56191e059b90662aba5bff480858aa3be7bd21", func := "stile/stilelaw09.SharingOwn", spec := "sharingOwn", unfollowed := true, recurses := true, plainKeys := false, apart := false }
def SharingOwnSaid : Prop := sharingOwnRow.holds Try.pinned (OpenSpec.ofChange sharingOwnSpec)

/-- ITS FALSE NEIGHBOUR: 'it returns false'. Refute it at one input. -/
def sharingOwnWrong : ChangeSpec := { name := "sharingOwn", fn := fun _ => fun
  | [d] => { results := [.lit (.bool false)], args := [d] }
  | _ => none }
def SharingOwnWrongFalsely : Prop := sharingOwnRow.holds Try.pinned (OpenSpec.ofChange sharingOwnWrong)

/-- 'stilelaw07.SourceHolds': WHATEVER THE INPUT: true; the input reads as it did. -/
def sourceHoldsSpec : ChangeSpec := { name := "sourceHolds", fn := fun _ => fun
  | [d1, d2] => { results := [.lit (.bool true)], args := [d1, d2] }
  | _ => none }
def sourceHoldsRow : OpenClaim := { program := "ytkkmkjjbffpgnaa", sum := "9900c9c977243792b0d1eb90cf56191e059b90662aba5bff480858aa3be7bd21", func := "stile/stilelaw07.SourceHolds", spec := "sourceHolds", unfollowed := true, recurses := true, plainKeys := false, apart := false }
def SourceHoldsSaid : Prop := sourceHoldsRow.holds Try.pinned (OpenSpec.ofChange sourceHoldsSpec)

/-- ITS FALSE NEIGHBOUR: 'it returns false'. Refute it at one input. -/
def sourceHoldsWrong : ChangeSpec := { name := "sourceHolds", fn := fun _ => fun
  | [d1, d2] => { results := [.lit (.bool false)], args := [d1, d2] }
  | _ => none }
def SourceHoldsWrongFalsely : Prop := sourceHoldsRow.holds Try.pinned (OpenSpec.ofChange sourceHoldsWrong)

/-- 'stilelaw07.SourceAside': WHATEVER THE INPUT: true; the input reads as it did. -/
def sourceAsideSpec : ChangeSpec := { name := "sourceAside", fn := fun _ => fun
  | [d1, d2, d3, d4] => { results := [.lit (.bool true)], args := [d1, d2, d3, d4] }
  | _ => none }
def sourceAsideRow : OpenClaim := { program := "ytkkmkjjbffpgnaa", sum := "9900c9c977243792b0d1eb90cf56191e059b90662aba5bff480858aa3be7bd21", func := "stile/stilelaw07.SourceAside", spec := "sourceAside", inPlace := ["internal/abi.NoEscape"], unfollowed := true, recurses := true, plainKeys := false, apart := false }
def SourceAsideSaid : Prop := sourceAsideRow.holds Try.pinned (OpenSpec.ofChange sourceAsideSpec)

/-- ITS FALSE NEIGHBOUR: 'it returns false'. Refute it at one input. -/
def sourceAsideWrong : ChangeSpec := { name := "sourceAside", fn := fun _ => fun
  | [d1, d2, d3, d4] => { results := [.lit (.bool false)], args := [d1, d2, d3, d4] }
  | _ => none }
def SourceAsideWrongFalsely : Prop := sourceAsideRow.holds Try.pinned (OpenSpec.ofChange sourceAsideWrong)

/-- 'stilelaw07.SourceSame': WHATEVER THE INPUT: true; the input reads as it did. -/
def sourceSameSpec : ChangeSpec := { name := "sourceSame", fn := fun _ => fun
  | [d1, d2, d3, d4, d5, d6] => { results := [.lit (.bool true)], args := [d1, d2, d3, d4, d5, d6] }
  | _ => none }
def sourceSameRow : OpenClaim := { program := "ytkkmkjjbffpgnaa", sum := "9900c9c977243792b0d1eb90cf56191e059b90662aba5bff480858aa3be7bd21", func := "stile/stilelaw07.SourceSame", spec := "sourceSame", inPlace := ["internal/abi.NoEscape"], unfollowed := true, recurses := true, plainKeys := false, apart := false }
def SourceSameSaid : Prop := sourceSameRow.holds Try.pinned (OpenSpec.ofChange sourceSameSpec)

/-- ITS FALSE NEIGHBOUR: 'it returns false'. Refute it at one input. -/
def sourceSameWrong : ChangeSpec := { name := "sourceSame", fn := fun _ => fun
  | [d1, d2, d3, d4, d5, d6] => { results := [.lit (.bool false)], args := [d1, d2, d3, d4, d5, d6] }
  | _ => none }
def SourceSameWrongFalsely : Prop := sourceSameRow.holds Try.pinned (OpenSpec.ofChange sourceSameWrong)

/-- 'stilelaw09.SharingAtOnce': WHATEVER THE INPUT: true; the input reads as it did. -/
def sharingAtOnceSpec : ChangeSpec := { name := "sharingAtOnce", fn := fun _ => fun
  | [d1, d2] => { results := [.lit (.bool true)], args := [d1, d2] }
  | _ => none }
def sharingAtOnceRow : OpenClaim := { program := "ytkkmkjjbffpgnaa", sum := "9900c9c977243792b0d1eb90cf56191e059b90662aba5bff480858aa3be7bd21", func := "stile/stilelaw09.SharingAtOnce", spec := "sharingAtOnce", unfollowed := true, recurses := true, plainKeys := false, apart := false }
def SharingAtOnceSaid : Prop := sharingAtOnceRow.holds Try.pinned (OpenSpec.ofChange sharingAtOnceSpec)

/-- ITS FALSE NEIGHBOUR: 'it returns false'. Refute it at one input. -/
def sharingAtOnceWrong : ChangeSpec := { name := "sharingAtOnce", fn := fun _ => fun
  | [d1, d2] => { results := [.lit (.bool false)], args := [d1, d2] }
  | _ => none }
def SharingAtOnceWrongFalsely : Prop := sharingAtOnceRow.holds Try.pinned (OpenSpec.ofChange sharingAtOnceWrong)

/-- 'stilelaw09.SharingTold': WHATEVER THE INPUT: true; the input reads as it did. -/
def sharingToldSpec : ChangeSpec := { name := "sharingTold", fn := fun _ => fun
  | [d1, d2] => { results := [.lit (.bool true)], args := [d1, d2] }
  | _ => none }
def sharingToldRow : OpenClaim := { program := "ytkkmkjjbffpgnaa", sum := "9900c9c977243792b0d1eb90cf56191e059b90662aba5bff480858aa3be7bd21", func := "stile/stilelaw09.SharingTold", spec := "sharingTold", unfollowed := true, recurses := true, plainKeys := false, apart := false }
def SharingToldSaid : Prop := sharingToldRow.holds Try.pinned (OpenSpec.ofChange sharingToldSpec)

/-- ITS FALSE NEIGHBOUR: 'it returns false'. Refute it at one input. -/
def sharingToldWrong : ChangeSpec := { name := "sharingTold", fn := fun _ => fun
  | [d1, d2] => { results := [.lit (.bool false)], args := [d1, d2] }
  | _ => none }
def SharingToldWrongFalsely : Prop := sharingToldRow.holds Try.pinned (OpenSpec.ofChange sharingToldWrong)

/-- 'stilelaw09.SharingApart': WHATEVER THE INPUT: true; the input reads as it did. -/
def sharingApartSpec : ChangeSpec := { name := "sharingApart", fn := fun _ => fun
  | [d1, d2, d3, d4] => { results := [.lit (.bool true)], args := [d1, d2, d3, d4] }
  | _ => none }
def sharingApartRow : OpenClaim := { program := "ytkkmkjjbffpgnaa", sum := "9900c9c977243792b0d1eb90cf56191e059b90662aba5bff480858aa3be7bd21", func := "stile/stilelaw09.SharingApart", spec := "sharingApart", inPlace := ["internal/abi.NoEscape"], unfollowed := true, recurses := true, plainKeys := false, apart := false }
def SharingApartSaid : Prop := sharingApartRow.holds Try.pinned (OpenSpec.ofChange sharingApartSpec)

/-- ITS FALSE NEIGHBOUR: 'it returns false'. Refute it at one input. -/
def sharingApartWrong : ChangeSpec := { name := "sharingApart", fn := fun _ => fun
  | [d1, d2, d3, d4] => { results := [.lit (.bool false)], args := [d1, d2, d3, d4] }
  | _ => none }
def SharingApartWrongFalsely : Prop := sharingApartRow.holds Try.pinned (OpenSpec.ofChange sharingApartWrong)

/- THE SECOND FORM. 'bulk': how many values and letters a reading holds, each counted each time it is reached (what is shared counts as often as it is met; a slice's spare places count too). A statement '..UptoSaid' is the law's where the arguments, and the package variables that the reading takes, are together of bulk at most 1048576: NARROWER than '..Said'. Prove '..Said' where nothing that the law and all that it calls make is longer than what came in: it says more and counts as full. Else prove '..UptoSaid'. A law counts once. -/
mutual
def uptoBulk {H : Type} : DataW H → Nat
  | .lit (.string bytes) => bytes.length + 1
  | .lit _ => 1
  | .nil => 1
  | .ptr d => uptoBulk d + 1
  | .slice elems spare => uptoBulkAll elems + uptoBulkAll spare + 1
  | .agg parts => uptoBulkAll parts + 1
  | .iface _ d => uptoBulk d + 1
  | .map entries => uptoBulkEntries entries + 1
  | .held _ => 1
def uptoBulkAll {H : Type} : List (DataW H) → Nat
  | [] => 0
  | d :: r => uptoBulk d + uptoBulkAll r
def uptoBulkEntries {H : Type} : List (Lit × DataW H) → Nat
  | [] => 0
  | x :: r => uptoBulkEntry x + uptoBulkEntries r
def uptoBulkEntry {H : Type} : Lit × DataW H → Nat
  | (.string bytes, d) => bytes.length + uptoBulk d + 1
  | (_, d) => uptoBulk d + 1
 end
def uptoSmall : (H : Type) → List (DataW H) → Bool := fun _ ds => decide (uptoBulkAll ds ≤ 1048576)
def OpenSpec.upto (s : _root_.Go.ChangeSpec) : _root_.Go.OpenSpec := { _root_.Go.OpenSpec.ofChange s with cond := some uptoSmall }

/-- 'stilelaw09.SharingTouches', WHERE WHAT IT READS IS OF BULK AT MOST 1048576: true; the input reads as it did. -/
def sharingTouchesUptoRow : OpenClaim := { program := "ytkkmkjjbffpgnaa", sum := "9900c9c977243792b0d1eb90cf56191e059b90662aba5bff480858aa3be7bd21", func := "stile/stilelaw09.SharingTouches", spec := "sharingTouches", unfollowed := true, recurses := true, plainKeys := false, apart := false, narrowed := true }
def SharingTouchesUptoSaid : Prop := sharingTouchesUptoRow.holds Try.pinned (OpenSpec.upto sharingTouchesSpec)

/-- 'stilelaw09.SharingOwn', WHERE WHAT IT READS IS OF BULK AT MOST 1048576: true; the input reads as it did. -/
def sharingOwnUptoRow : OpenClaim := { program := "ytkkmkjjbffpgnaa", sum := "9900c9c977243792b0d1eb90cf56191e059b90662aba5bff480858aa3be7bd21", func := "stile/stilelaw09.SharingOwn", spec := "sharingOwn", unfollowed := true, recurses := true, plainKeys := false, apart := false, narrowed := true }
def SharingOwnUptoSaid : Prop := sharingOwnUptoRow.holds Try.pinned (OpenSpec.upto sharingOwnSpec)

/-- 'stilelaw07.SourceHolds', WHERE WHAT IT READS IS OF BULK AT MOST 1048576: true; the input reads as it did. -/
def sourceHoldsUptoRow : OpenClaim := { program := "ytkkmkjjbffpgnaa", sum := "9900c9c977243792b0d1eb90cf56191e059b90662aba5bff480858aa3be7bd21", func := "stile/stilelaw07.SourceHolds", spec := "sourceHolds", unfollowed := true, recurses := true, plainKeys := false, apart := false, narrowed := true }
def SourceHoldsUptoSaid : Prop := sourceHoldsUptoRow.holds Try.pinned (OpenSpec.upto sourceHoldsSpec)

/-- 'stilelaw07.SourceAside', WHERE WHAT IT READS IS OF BULK AT MOST 1048576: true; the input reads as it did. -/
def sourceAsideUptoRow : OpenClaim := { program := "ytkkmkjjbffpgnaa", sum := "9900c9c977243792b0d1eb90cf56191e059b90662aba5bff480858aa3be7bd21", func := "stile/stilelaw07.SourceAside", spec := "sourceAside", inPlace := ["internal/abi.NoEscape"], unfollowed := true, recurses := true, plainKeys := false, apart := false, narrowed := true }
def SourceAsideUptoSaid : Prop := sourceAsideUptoRow.holds Try.pinned (OpenSpec.upto sourceAsideSpec)

/-- 'stilelaw07.SourceSame', WHERE WHAT IT READS IS OF BULK AT MOST 1048576: true; the input reads as it did. -/
def sourceSameUptoRow : OpenClaim := { program := "ytkkmkjjbffpgnaa", sum := "9900c9c977243792b0d1eb90cf56191e059b90662aba5bff480858aa3be7bd21", func := "stile/stilelaw07.SourceSame", spec := "sourceSame", inPlace := ["internal/abi.NoEscape"], unfollowed := true, recurses := true, plainKeys := false, apart := false, narrowed := true }
def SourceSameUptoSaid : Prop := sourceSameUptoRow.holds Try.pinned (OpenSpec.upto sourceSameSpec)

/-- 'stilelaw09.SharingAtOnce', WHERE WHAT IT READS IS OF BULK AT MOST 1048576: true; the input reads as it did. -/
def sharingAtOnceUptoRow : OpenClaim := { program := "ytkkmkjjbffpgnaa", sum := "9900c9c977243792b0d1eb90cf56191e059b90662aba5bff480858aa3be7bd21", func := "stile/stilelaw09.SharingAtOnce", spec := "sharingAtOnce", unfollowed := true, recurses := true, plainKeys := false, apart := false, narrowed := true }
def SharingAtOnceUptoSaid : Prop := sharingAtOnceUptoRow.holds Try.pinned (OpenSpec.upto sharingAtOnceSpec)

/-- 'stilelaw09.SharingTold', WHERE WHAT IT READS IS OF BULK AT MOST 1048576: true; the input reads as it did. -/
def sharingToldUptoRow : OpenClaim := { program := "ytkkmkjjbffpgnaa", sum := "9900c9c977243792b0d1eb90cf56191e059b90662aba5bff480858aa3be7bd21", func := "stile/stilelaw09.SharingTold", spec := "sharingTold", unfollowed := true, recurses := true, plainKeys := false, apart := false, narrowed := true }
def SharingToldUptoSaid : Prop := sharingToldUptoRow.holds Try.pinned (OpenSpec.upto sharingToldSpec)

/-- 'stilelaw09.SharingApart', WHERE WHAT IT READS IS OF BULK AT MOST 1048576: true; the input reads as it did. -/
def sharingApartUptoRow : OpenClaim := { program := "ytkkmkjjbffpgnaa", sum := "9900c9c977243792b0d1eb90cf56191e059b90662aba5bff480858aa3be7bd21", func := "stile/stilelaw09.SharingApart", spec := "sharingApart", inPlace := ["internal/abi.NoEscape"], unfollowed := true, recurses := true, plainKeys := false, apart := false, narrowed := true }
def SharingApartUptoSaid : Prop := sharingApartUptoRow.holds Try.pinned (OpenSpec.upto sharingApartSpec)

end Rows
end Go.Proofs.Ytkkmkjjbffpgnaa
