import Derived.Test.YtmkpjiahkepigaaDoorP02
/- The walks that tell whether a node is right: cfg.right with its parts and closures, and the reference's node. -/
namespace Go.Proofs.YtmkpjiahkepigaaDoor
open Go Go.RowKit
def numOk (n : Int) (used : Bool) (most : Int) : Bool := if used then decide (0 ≤ n ∧ n < most) else decide (n = 0)
def Val.cells (v : Val) : List Value := [.bool v.isSlot, .int .i64 v.slot, .int .i64 v.word]
def valOk (v : Val) (used : Bool) (slots : Int) : Bool :=
  if used then (if v.isSlot then decide (0 ≤ v.slot ∧ v.slot < slots ∧ v.word = 0) else decide (v.slot = 0)) else decide (v.isSlot = false ∧ v.slot = 0 ∧ v.word = 0)
def uSlot (k : Int) : Bool := decide (k = 1 ∨ k = 2 ∨ k = 4)
def uThing (k : Int) : Bool := decide (2 ≤ k ∧ k ≤ 6)
def uA (k : Int) : Bool := decide (k = 1 ∨ k = 3 ∨ k = 4 ∨ k = 7 ∨ k = 8)
def uNext (k : Int) : Bool := decide (1 ≤ k ∧ k ≤ 8)
def nodeHead (n : Node) : Bool := decide (1 ≤ n.kind ∧ n.kind ≤ 9 ∧ 0 ≤ n.origin ∧ n.origin < 4096)
def nodeOk (shared locks : Nat) (slots : Int) (nodes : Nat) (n : Node) : Bool :=
  nodeHead n && (numOk n.op (decide (n.kind = 1)) 19 && (numOk n.slot (uSlot n.kind) slots &&
    (numOk n.thing (uThing n.kind) (if n.kind = 5 ∨ n.kind = 6 then locks else shared) && (valOk n.a (uA n.kind) slots && (valOk n.b (decide (n.kind = 1) && twoB n.op) slots &&
    (numOk n.next (uNext n.kind) nodes && numOk n.els (decide (n.kind = 8)) nodes))))))
end Go.Proofs.YtmkpjiahkepigaaDoor
