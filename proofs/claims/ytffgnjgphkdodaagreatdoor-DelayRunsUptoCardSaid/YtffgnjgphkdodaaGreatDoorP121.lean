import Derived.Test.YtffgnjgphkdodaaGreatDoorP120
import Derived.Test.YtffgnjgphkdodaaGreatDoorP115
/- The walk of layer 11's reference: asked. -/
namespace Go.Proofs.YtffgnjgphkdodaaGreatDoor
open Go Go.RowKit
end Go.Proofs.YtffgnjgphkdodaaGreatDoor
/- The walk of layer 11's reference: Open. -/
namespace Go.Proofs.YtffgnjgphkdodaaGreatDoor
open Go Go.RowKit
theorem own_below {w w' : World} {base : Nat} {e : TypeId} {size n : Nat} {v : Value} {xs : List Value} (h : w.ownsRow base e size v n xs) (hb : Below w.heap.size w w') : w'.ownsRow base e size v n xs :=
  h.kept (row := none) ⟨hb.os, hb.tape, hb.output, hb.size, fun k hk _ => hb.block k hk⟩ (by
    cases hv : v.ownBlock with
    | none => exact .inl rfl
    | some b => exact .inr (by simp))
/-- A row of the region's own. -/
def srO (base : Nat) (e : TypeId) (n : Nat) (xs : List Value) : SR := ⟨fun w v => w.ownsRow base e 1 v n xs, fun hb h => own_below h hb⟩
theorem openG_length (g : Graph) (t F : List Int) : (openG g t F).length = g.nodes.length := by simp [openG]
end Go.Proofs.YtffgnjgphkdodaaGreatDoor
