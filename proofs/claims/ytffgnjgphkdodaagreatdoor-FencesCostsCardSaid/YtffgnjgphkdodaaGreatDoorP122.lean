import Derived.Test.YtffgnjgphkdodaaGreatDoorP120
import Derived.Test.YtffgnjgphkdodaaGreatDoorP115
namespace Go.Proofs.YtffgnjgphkdodaaGreatDoor
open Go Go.RowKit
end Go.Proofs.YtffgnjgphkdodaaGreatDoor
namespace Go.Proofs.YtffgnjgphkdodaaGreatDoor
open Go Go.RowKit
theorem own_below {w w' : World} {base : Nat} {e : TypeId} {size n : Nat} {v : Value} {xs : List Value} (h : w.ownsRow base e size v n xs) (hb : Below w.heap.size w w') : w'.ownsRow base e size v n xs :=
 h.kept (row := none) ⟨hb.os, hb.tape, hb.output, hb.size, fun k hk _ => hb.block k hk⟩ (by
  cases hv : v.ownBlock with
  | none => exact .inl rfl
  | some b => exact .inr (by simp))
def srO (base : Nat) (e : TypeId) (n : Nat) (xs : List Value) : SR := ⟨fun w v => w.ownsRow base e 1 v n xs, fun hb h => own_below h hb⟩
theorem own_intsq {w : World} {b n : Nat} {t : TypeId} {v : Value} {l : List Int} (h : w.ownsRow b t 1 v n (ints l)) : Ints (cmap w) v l :=
 (Sl_of_own (f := fun x : Int => Value.int .i64 x) (R := IntC) (fun _ _ _ _ h => h) h (Nat.le_refl _) (Nat.le_refl _)).mono (part_le _ _ _)
end Go.Proofs.YtffgnjgphkdodaaGreatDoor
namespace Go.Proofs.YtffgnjgphkdodaaGreatDoor
open Go Go.RowKit
end Go.Proofs.YtffgnjgphkdodaaGreatDoor
