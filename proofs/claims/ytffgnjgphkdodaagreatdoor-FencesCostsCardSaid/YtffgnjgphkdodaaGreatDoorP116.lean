import Derived.Test.YtffgnjgphkdodaaGreatDoorP117
import Derived.Test.YtffgnjgphkdodaaGreatDoorP115
import Derived.Test.YtffgnjgphkdodaaGreatDoorP14
import Derived.Laws.StructEq
namespace Go.Proofs.YtffgnjgphkdodaaGreatDoor
open Go Go.RowKit
def dkz : Val := ⟨false, 0, 0⟩
def dkS (o : Int) : Node := ⟨3, 0, 0, o, ⟨false, 0, 1⟩, dkz, 1, 0, 0⟩
def dkL (o : Int) : Node := ⟨2, 0, 0, 1 - o, dkz, dkz, 2, 0, 1⟩
theorem dk_i64 : i64 0 ∧ i64 1 ∧ i64 2 := by unfold i64; omega
section
variable (s : ByteArray) (o : Int)
end
section
variable {s : ByteArray} {o : Int}
end
end Go.Proofs.YtffgnjgphkdodaaGreatDoor
namespace Go.Proofs.YtffgnjgphkdodaaGreatDoor
open Go Go.RowKit
theorem decls_blk2 {w : World} {b : Nat} {t : TypeId} {s s' : ByteArray} (h : Blk w b t [.string s, .int .i64 0, .int .i64 0, .string s', .int .i64 0, .int .i64 0]) : Decls (cmap w) (.slice (some ⟨b, 0, none⟩) 2 2) [⟨s, 0, 0⟩, ⟨s', 0, 0⟩] := by
 refine ⟨_, _, rfl, Nat.le_refl _, ⟨by simp [maxLen], fun h => by cases h⟩, .inr ⟨b, 0, rfl, fun i x hx => ?_⟩⟩
 match i, hx with
 | 0, hx =>
  simp at hx
  subst hx
  exact ⟨h.cell 0, h.cell 1, h.cell 2⟩
 | 1, hx =>
  simp at hx
  subst hx
  exact ⟨h.cell 3, h.cell 4, h.cell 5⟩
end Go.Proofs.YtffgnjgphkdodaaGreatDoor
