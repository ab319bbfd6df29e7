import Derived.Test.YtffgnjgphkdodaaGreatDoorP09
import Derived.Test.YtffgnjgphkdodaaGreatDoorP08
/- The unit of begins: two threads that store to x, the first one under l. -/
namespace Go.Proofs.YtffgnjgphkdodaaGreatDoor
open Go Go.RowKit
def v0 : Val := ⟨false, 0, 0⟩
def nd (k next origin : Int) : Node := ⟨k, 0, 0, 0, v0, v0, next, 0, origin⟩
def nodesA : List Node := [nd 5 1 0, nd 3 2 1, nd 6 3 2, nd 9 0 3]
def nodesB : List Node := [nd 3 1 0, nd 9 0 1]
def strA : ByteArray := ⟨#[97]⟩
def strB : ByteArray := ⟨#[98]⟩
def strX : ByteArray := ⟨#[120]⟩
def strL : ByteArray := ⟨#[108]⟩
def twoU (nb : List Node) : Unit_ := ⟨[⟨strX, 0, 0⟩], [⟨strL, 0, 0⟩], [⟨strA, 0, 0, nodesA⟩, ⟨strB, 0, 0, nb⟩]⟩
/-- The unit in memory. -/
structure TwoMem (w : World) (gb ba bb xb lb : Nat) (nbv : Value) : Prop where
  a : Blk w ba 66 (nodesA.flatMap Node.cells)
  b : Blk w bb 66 (nodesB.flatMap Node.cells)
  x : Blk w xb 118 [.string strX, .int .i64 0, .int .i64 0]
  l : Blk w lb 118 [.string strL, .int .i64 0, .int .i64 0]
  g : Blk w gb 69 [.string strA, .int .i64 0, .int .i64 0, .slice (some ⟨ba, 0, none⟩) 4 4, .string strB, .int .i64 0, .int .i64 0, nbv]
theorem TwoMem.below {w w' : World} {gb ba bb xb lb : Nat} {nbv : Value} (h : TwoMem w gb ba bb xb lb nbv) (hb : Below w.heap.size w w') : TwoMem w' gb ba bb xb lb nbv :=
  ⟨h.a.below hb h.a.lt, h.b.below hb h.b.lt, h.x.below hb h.x.lt, h.l.below hb h.l.lt, h.g.below hb h.g.lt⟩
theorem Nodes_blk {w : World} {b : Nat} {t : TypeId} {ns : List Node} (h : Blk w b t (ns.flatMap Node.cells)) (n : Nat) (hn : n = ns.length) (hl : n ≤ 1000) : Nodes (cmap w) (.slice (some ⟨b, 0, none⟩) n n) ns := by
  subst hn
  refine ⟨_, _, rfl, Nat.le_refl _, ⟨by simp only [maxLen]; omega, fun h => by cases h⟩, .inr ⟨b, 0, rfl, fun i x hx j v hv => ?_⟩⟩
  show w.cell? ⟨b, 0 + i * 13 + j, none⟩ = some v
  rw [Nat.zero_add, h.cell, List.flatMap_def]
  refine flatten_at (ns.map Node.cells) 13 i x.cells (fun r hr => ?_) ?_ j v hv
  · obtain ⟨q, _, rfl⟩ := List.mem_map.1 hr; rfl
  · rw [List.getElem?_map, hx]; rfl
theorem Decls_blk {w : World} {b : Nat} {t : TypeId} {s : ByteArray} (h : Blk w b t [.string s, .int .i64 0, .int .i64 0]) : Decls (cmap w) (.slice (some ⟨b, 0, none⟩) 1 1) [⟨s, 0, 0⟩] := by
  refine ⟨_, _, rfl, Nat.le_refl _, ⟨by simp [maxLen], fun h => by cases h⟩, .inr ⟨b, 0, rfl, fun i x hx => ?_⟩⟩
  match i, hx with
  | 0, hx =>
    simp at hx
    subst hx
    exact ⟨h.cell 0, h.cell 1, h.cell 2⟩
theorem TwoMem.unit {w : World} {gb ba bb xb lb : Nat} {nbv : Value} {nb : List Node} (h : TwoMem w gb ba bb xb lb nbv) (hn : Nodes (cmap w) nbv nb) :
    UnitV (cmap w) [.slice (some ⟨xb, 0, none⟩) 1 1, .slice (some ⟨lb, 0, none⟩) 1 1, .slice (some ⟨gb, 0, none⟩) 2 2] (twoU nb) := by
  refine ⟨_, _, _, rfl, Decls_blk h.x, Decls_blk h.l, ⟨_, _, rfl, Nat.le_refl _, ⟨by simp [maxLen], fun h => by cases h⟩, .inr ⟨gb, 0, rfl, fun i x hx => ?_⟩⟩⟩
  match i, hx with
  | 0, hx =>
    simp [twoU] at hx
    subst hx
    refine ⟨_, ⟨_, rfl, Nodes_blk h.a 4 rfl (by decide)⟩, fun j v hv => ?_⟩
    have hj := (List.getElem?_eq_some_iff.1 hv).1
    match j, hv with
    | 0, hv => simp at hv; subst hv; exact h.g.cell 0
    | 1, hv => simp at hv; subst hv; exact h.g.cell 1
    | 2, hv => simp at hv; subst hv; exact h.g.cell 2
    | 3, hv => simp at hv; subst hv; exact h.g.cell 3
  | 1, hx =>
    simp [twoU] at hx
    subst hx
    refine ⟨_, ⟨_, rfl, hn⟩, fun j v hv => ?_⟩
    match j, hv with
    | 0, hv => simp at hv; subst hv; exact h.g.cell 4
    | 1, hv => simp at hv; subst hv; exact h.g.cell 5
    | 2, hv => simp at hv; subst hv; exact h.g.cell 6
    | 3, hv => simp at hv; subst hv; exact h.g.cell 7
def gA : Graph := ⟨strA, 0, 0, nodesA⟩
end Go.Proofs.YtffgnjgphkdodaaGreatDoor
