import Derived.Test.YtkkmkjjbffpgnaaDoorP06
import Derived.Test.YtkkmkjjbffpgnaaDoorP05
/- The walk of the reference's held. -/
namespace Go.Proofs.YtkkmkjjbffpgnaaDoor
open Go Go.RowKit
def H2Rel (g : Graph) (N : Nat) (cg : List Value) (w : World) (gk : Nat) (v6 v7 : Value) (wr : World) : Prop :=
  ∃ (s : HS) (S : Nat → Prop) (cs : List Value) (k : Nat), HMem2 41 26 cg w N s S cs v6 wr ∧ HOk N s ∧ hRun g gk k s = heldF g ∧ v7 = .int .i64 k ∧ gk + k = N + 1 ∧ k ≤ s.todo.length
def H2Rel2 (g : Graph) (N : Nat) (cg : List Value) (w : World) (f k : Nat) (now fs : List Int) (v10 fv : Value) (gk : Nat) (v6 v80 : Value) (wr : World) : Prop :=
  ∃ (s : HS) (S : Nat → Prop) (cs : List Value) (j : Nat), HMem2 41 26 cg w N s S cs v6 wr ∧ HOk N s ∧ hRest g f k now s (fs.drop j) = heldF g ∧ v80 = .int .i64 j ∧ gk + j = fs.length ∧ k < s.todo.length ∧
    Ints (on wr S) v10 now ∧ Ints (on wr S) fv fs
def H2Now (N : Nat) (cg : List Value) (w : World) (s : HS) (cs : List Value) (v6 : Value) (nd : Node) (at_ bn : Nat) (v10 : Value) (wc : World) : Prop :=
  ∃ (now : List Int) (S : Nat → Prop), hNow nd (hCur s at_) = some now ∧ HMem2 41 26 cg w N s S cs v6 wc ∧ Ints (on wc S) v10 now ∧ Blk wc bn 50 nd.cells
end Go.Proofs.YtkkmkjjbffpgnaaDoor
/- The reference's Reached and Held. -/
namespace Go.Proofs.YtkkmkjjbffpgnaaDoor
open Go Go.RowKit
end Go.Proofs.YtkkmkjjbffpgnaaDoor
