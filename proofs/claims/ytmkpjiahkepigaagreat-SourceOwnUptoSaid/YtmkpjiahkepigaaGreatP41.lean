import Derived.Test.YtmkpjiahkepigaaGreatP28
import Derived.Test.YtmkpjiahkepigaaGreatP02
import Derived.Laws.IdiomRangeMap
import Derived.Maps.RangeRun
/- The plain law of layer 9: has a thread a reached node of a kind. -/
namespace Go.Proofs.YtmkpjiahkepigaaGreat
open Go
open Classical
/-- How many of the first k nodes are reached, and such. -/
noncomputable def cntN (g : Graph) (q : Node → Bool) : Nat → Nat
  | 0 => 0
  | k + 1 => cntN g q k + (if ∃ n, g.nodes[k]? = some n ∧ ReachC g (-1) k ∧ q n = true then 1 else 0)
theorem cntN_no {g : Graph} {q : Node → Bool} {k : Nat} {n : Node} (hn : g.nodes[k]? = some n) (h : ¬ ReachC g (-1) k ∨ q n = false) : cntN g q (k + 1) = cntN g q k := by
  rw [cntN, if_neg, Nat.add_zero]
  rintro ⟨m, hm, hr, hq⟩
  rw [hn] at hm
  injection hm with hm
  subst hm
  rcases h with h | h
  · exact h hr
  · rw [h] at hq; cases hq
/-- What a map of counts answers. -/
def cntV (c : Nat) : Option Value := if c = 0 then none else some (.int .i64 c)
def atP (p : Node → Bool) (x : Int) (n : Node) : Bool := p n && decide (n.thing = x)
noncomputable def cntF (g : Graph) (p : Node → Bool) (k : Nat) (x : Int) : Option Value := cntV (cntN g (atP p x) k)
theorem cntF_no {g : Graph} {p : Node → Bool} {k : Nat} {n : Node} (hn : g.nodes[k]? = some n) (h : ¬ ReachC g (-1) k ∨ p n = false) : cntF g p (k + 1) = cntF g p k := by
  funext x
  unfold cntF
  rw [cntN_no hn]
  rcases h with h | h
  · exact .inl h
  · exact .inr (by simp [atP, h])
def lkB (n : Node) : Bool := decide (n.kind = 5)
end Go.Proofs.YtmkpjiahkepigaaGreat
/- The walk of sharing.meet: have two maps of counts a key in common. -/
namespace Go.Proofs.YtmkpjiahkepigaaGreat
open Go Go.RowKit
abbrev iv : Int → Value := fun n => Value.int .i64 n
end Go.Proofs.YtmkpjiahkepigaaGreat
