import Derived.Test.YtkkmkjjbffpgnaaDoorP09
import Derived.Test.YtkkmkjjbffpgnaaDoorP08
import Derived.Test.YtkkmkjjbffpgnaaDoorP13
import Derived.Test.YtkkmkjjbffpgnaaDoorP11
/- The unit of begins: two threads that store to x, the first one under l. -/
namespace Go.Proofs.YtkkmkjjbffpgnaaDoor
open Go Go.RowKit
def v0 : Val := ⟨false, 0, 0⟩
def nd (k next origin : Int) : Node := ⟨k, 0, 0, 0, v0, v0, next, 0, origin⟩
def nodesA : List Node := [nd 5 1 0, nd 3 2 1, nd 6 3 2, nd 9 0 3]
def nodesB : List Node := [nd 3 1 0, nd 9 0 1]
def strA : ByteArray := ⟨#[97]⟩
def strB : ByteArray := ⟨#[98]⟩
def strX : ByteArray := ⟨#[120]⟩
def strL : ByteArray := ⟨#[108]⟩
def twoU (nb : List Node) : Unit_ := ⟨[⟨strX, 0, 0⟩], [⟨strL, 0, 0⟩], [⟨strA, 0, 0, nodesA⟩, ⟨strB, 0, 0, nb⟩]⟩
/-- The unit in memory. -/
structure TwoMem (w : World) (gb ba bb xb lb : Nat) (nbv : Value) : Prop where
  a : Blk w ba 50 (nodesA.flatMap Node.cells)
  b : Blk w bb 50 (nodesB.flatMap Node.cells)
  x : Blk w xb 82 [.string strX, .int .i64 0, .int .i64 0]
  l : Blk w lb 82 [.string strL, .int .i64 0, .int .i64 0]
  g : Blk w gb 41 [.string strA, .int .i64 0, .int .i64 0, .slice (some ⟨ba, 0, none⟩) 4 4, .string strB, .int .i64 0, .int .i64 0, nbv]
theorem TwoMem.below {w w' : World} {gb ba bb xb lb : Nat} {nbv : Value} (h : TwoMem w gb ba bb xb lb nbv) (hb : Below w.heap.size w w') : TwoMem w' gb ba bb xb lb nbv :=
  ⟨h.a.below hb h.a.lt, h.b.below hb h.b.lt, h.x.below hb h.x.lt, h.l.below hb h.l.lt, h.g.below hb h.g.lt⟩
theorem Nodes_blk {w : World} {b : Nat} {t : TypeId} {ns : List Node} (h : Blk w b t (ns.flatMap Node.cells)) (n : Nat) (hn : n = ns.length) (hl : n ≤ 1000) : Nodes (cmap w) (.slice (some ⟨b, 0, none⟩) n n) ns := by
  subst hn
  refine ⟨_, _, rfl, Nat.le_refl _, ⟨by simp only [maxLen]; omega, fun h => by cases h⟩, .inr ⟨b, 0, rfl, fun i x hx j v hv => ?_⟩⟩
  show w.cell? ⟨b, 0 + i * 13 + j, none⟩ = some v
  rw [Nat.zero_add, h.cell, List.flatMap_def]
  refine flatten_at (ns.map Node.cells) 13 i x.cells (fun r hr => ?_) ?_ j v hv
  · obtain ⟨q, _, rfl⟩ := List.mem_map.1 hr; rfl
  · rw [List.getElem?_map, hx]; rfl
theorem Decls_blk {w : World} {b : Nat} {t : TypeId} {s : ByteArray} (h : Blk w b t [.string s, .int .i64 0, .int .i64 0]) : Decls (cmap w) (.slice (some ⟨b, 0, none⟩) 1 1) [⟨s, 0, 0⟩] := by
  refine ⟨_, _, rfl, Nat.le_refl _, ⟨by simp [maxLen], fun h => by cases h⟩, .inr ⟨b, 0, rfl, fun i x hx => ?_⟩⟩
  match i, hx with
  | 0, hx =>
    simp at hx
    subst hx
    exact ⟨h.cell 0, h.cell 1, h.cell 2⟩
theorem TwoMem.unit {w : World} {gb ba bb xb lb : Nat} {nbv : Value} {nb : List Node} (h : TwoMem w gb ba bb xb lb nbv) (hn : Nodes (cmap w) nbv nb) :
    UnitV (cmap w) [.slice (some ⟨xb, 0, none⟩) 1 1, .slice (some ⟨lb, 0, none⟩) 1 1, .slice (some ⟨gb, 0, none⟩) 2 2] (twoU nb) := by
  refine ⟨_, _, _, rfl, Decls_blk h.x, Decls_blk h.l, ⟨_, _, rfl, Nat.le_refl _, ⟨by simp [maxLen], fun h => by cases h⟩, .inr ⟨gb, 0, rfl, fun i x hx => ?_⟩⟩⟩
  match i, hx with
  | 0, hx =>
    simp [twoU] at hx
    subst hx
    refine ⟨_, ⟨_, rfl, Nodes_blk h.a 4 rfl (by decide)⟩, fun j v hv => ?_⟩
    have hj := (List.getElem?_eq_some_iff.1 hv).1
    match j, hv with
    | 0, hv => simp at hv; subst hv; exact h.g.cell 0
    | 1, hv => simp at hv; subst hv; exact h.g.cell 1
    | 2, hv => simp at hv; subst hv; exact h.g.cell 2
    | 3, hv => simp at hv; subst hv; exact h.g.cell 3
  | 1, hx =>
    simp [twoU] at hx
    subst hx
    refine ⟨_, ⟨_, rfl, hn⟩, fun j v hv => ?_⟩
    match j, hv with
    | 0, hv => simp at hv; subst hv; exact h.g.cell 4
    | 1, hv => simp at hv; subst hv; exact h.g.cell 5
    | 2, hv => simp at hv; subst hv; exact h.g.cell 6
    | 3, hv => simp at hv; subst hv; exact h.g.cell 7
set_option maxRecDepth 100000 in
set_option maxHeartbeats 2000000 in
theorem two_unit_calls (w : World) : Calls Tryd.prog 13 #[] w fun e w' => ∃ gb ba bb xb lb, e = .returned (.agg #[.slice (some ⟨xb, 0, none⟩) 1 1, .slice (some ⟨lb, 0, none⟩) 1 1, .slice (some ⟨gb, 0, none⟩) 2 2]) ∧
    TwoMem w' gb ba bb xb lb (.slice (some ⟨bb, 0, none⟩) 2 2) ∧ w.heap.size ≤ gb ∧ Below w.heap.size w w' := by
  go_enter Tryd.func13, Tryd.ntmps13
  go_wp2
  refine bodyPost_ret (v := .agg #[.slice (some ⟨w.heap.size + 1 + 1 + 1 + 1 + 1, 0, none⟩) 1 1, .slice (some ⟨w.heap.size + 1 + 1 + 1 + 1 + 1 + 1, 0, none⟩) 1 1, .slice (some ⟨w.heap.size + 1 + 1 + 1 + 1 + 1 + 1 + 1, 0, none⟩) 2 2]) (by simp [results, Tryd.results13, go_sem]) rfl
    ⟨w.heap.size + 1 + 1 + 1 + 1 + 1 + 1 + 1, w.heap.size + 1, w.heap.size + 1 + 1 + 1, w.heap.size + 1 + 1 + 1 + 1 + 1, w.heap.size + 1 + 1 + 1 + 1 + 1 + 1, rfl, ⟨?_, ?_, ?_, ?_, ?_⟩, by omega, ?_⟩
  · exact ((((((Blk.of (heap_new _ _ _ (by simp)) rfl).alloc _).alloc _).alloc _).alloc _).alloc _).alloc _
  · exact ((((Blk.of (heap_new _ _ _ (by simp)) rfl).alloc _).alloc _).alloc _).alloc _
  · exact ((Blk.of (heap_new _ _ _ (by simp)) rfl).alloc _).alloc _
  · exact (Blk.of (heap_new _ _ _ (by simp)) rfl).alloc _
  · exact Blk.of (heap_new _ _ _ (by simp)) rfl
  · exact (((((((Below_alloc' w _).alloc (by simp) _).alloc (by simp; omega) _).alloc (by simp; omega) _).alloc (by simp; omega) _).alloc (by simp; omega) _).alloc (by simp; omega) _).alloc (by simp; omega) _
theorem reach_chain {g : Graph} {i : Nat} {n : Node} (h : ReachC g (-1) i) (hn : g.nodes[i]? = some n) (hj : ((i + 1 : Nat) : Int) ∈ fol n) : ReachC g (-1) (i + 1) := .step h (by omega) hn hj
def gA : Graph := ⟨strA, 0, 0, nodesA⟩
def gB (nb : List Node) : Graph := ⟨strB, 0, 0, nb⟩
theorem hitsA (t : Nat) (s : ByteArray) : hitsOf t ⟨s, 0, 0, nodesA⟩ 0 nodesA = [⟨t, 0, nd 5 1 0, []⟩, ⟨t, 1, nd 3 2 1, [0]⟩, ⟨t, 2, nd 6 3 2, [0]⟩, ⟨t, 3, nd 9 0 3, []⟩] := by
  have r0 : ReachC ⟨s, 0, 0, nodesA⟩ (-1) 0 := .zero
  have r1 := reach_chain (n := nd 5 1 0) r0 rfl (by decide)
  have r2 := reach_chain (n := nd 3 2 1) r1 rfl (by decide)
  have r3 := reach_chain (n := nd 6 3 2) r2 rfl (by decide)
  have hL : heldL ⟨s, 0, 0, nodesA⟩ = [[], [0], [0], []] := rfl
  have h0 : heldAt ⟨s, 0, 0, nodesA⟩ 0 = [] := by unfold heldAt; rw [hL]; rfl
  have h1 : heldAt ⟨s, 0, 0, nodesA⟩ 1 = [0] := by unfold heldAt; rw [hL]; rfl
  have h2 : heldAt ⟨s, 0, 0, nodesA⟩ 2 = [0] := by unfold heldAt; rw [hL]; rfl
  have h3 : heldAt ⟨s, 0, 0, nodesA⟩ 3 = [] := by unfold heldAt; rw [hL]; rfl
  show hitsOf t ⟨s, 0, 0, nodesA⟩ 0 [nd 5 1 0, nd 3 2 1, nd 6 3 2, nd 9 0 3] = _
  rw [hitsOf_yes r0, hitsOf_yes r1, hitsOf_yes r2, hitsOf_yes r3, h0, h1, h2, h3]
  rfl
theorem hitsB (t : Nat) (s : ByteArray) : hitsOf t ⟨s, 0, 0, nodesB⟩ 0 nodesB = [⟨t, 0, nd 3 1 0, []⟩, ⟨t, 1, nd 9 0 1, []⟩] := by
  have r0 : ReachC ⟨s, 0, 0, nodesB⟩ (-1) 0 := .zero
  have r1 := reach_chain (n := nd 3 1 0) r0 rfl (by decide)
  have hL : heldL ⟨s, 0, 0, nodesB⟩ = [[], []] := rfl
  have h0 : heldAt ⟨s, 0, 0, nodesB⟩ 0 = [] := by unfold heldAt; rw [hL]; rfl
  have h1 : heldAt ⟨s, 0, 0, nodesB⟩ 1 = [] := by unfold heldAt; rw [hL]; rfl
  show hitsOf t ⟨s, 0, 0, nodesB⟩ 0 [nd 3 1 0, nd 9 0 1] = _
  rw [hitsOf_yes r0, hitsOf_yes r1, h0, h1]
  rfl
theorem hits_two : hitsU (twoU nodesB) = [⟨0, 0, nd 5 1 0, []⟩, ⟨0, 1, nd 3 2 1, [0]⟩, ⟨0, 2, nd 6 3 2, [0]⟩, ⟨0, 3, nd 9 0 3, []⟩, ⟨1, 0, nd 3 1 0, []⟩, ⟨1, 1, nd 9 0 1, []⟩] := by
  unfold hitsU twoU
  simp only [hits]
  rw [hitsA, hitsB]
  rfl
theorem hits_two2 : hitsU (twoU nodesA) = [⟨0, 0, nd 5 1 0, []⟩, ⟨0, 1, nd 3 2 1, [0]⟩, ⟨0, 2, nd 6 3 2, [0]⟩, ⟨0, 3, nd 9 0 3, []⟩, ⟨1, 0, nd 5 1 0, []⟩, ⟨1, 1, nd 3 2 1, [0]⟩, ⟨1, 2, nd 6 3 2, [0]⟩, ⟨1, 3, nd 9 0 3, []⟩] := by
  unfold hitsU twoU
  simp only [hits]
  rw [hitsA, hitsA]
  rfl
theorem class_two : classF (twoU nodesB) 0 = ⟨3, 0, 0⟩ := by
  unfold classF guardsF touchU
  rw [hits_two]
  rfl
theorem class_two2 : classF (twoU nodesA) 0 = ⟨2, 0, 0⟩ := by
  unfold classF guardsF touchU
  rw [hits_two2]
  rfl
theorem two_ok : checkF (twoU nodesB) = none := by kernel_rfl
theorem two_ok2 : checkF (twoU nodesA) = none := by kernel_rfl
theorem nd_ok (k n o : Int) (hk : 0 ≤ k ∧ k ≤ 255) (hn : 0 ≤ n ∧ n ≤ 100) (ho : 0 ≤ o ∧ o ≤ 100) : (nd k n o).ok := by
  have z : i64 0 := by unfold i64; omega
  exact ⟨hk, ⟨by show (0 : Int) ≤ 0; decide, by show (0 : Int) ≤ 255; decide⟩, z, z, ⟨z, z⟩, ⟨z, z⟩, by show i64 n; unfold i64; omega, z, by show i64 o; unfold i64; omega⟩
theorem nodesB_ok : ∀ n ∈ nodesB, n.ok := by
  intro n hn
  simp only [nodesB, List.mem_cons, List.not_mem_nil, or_false] at hn
  rcases hn with rfl | rfl <;> exact nd_ok _ _ _ (by decide) (by decide) (by decide)
theorem nodesA_ok : ∀ n ∈ nodesA, n.ok := by
  intro n hn
  simp only [nodesA, List.mem_cons, List.not_mem_nil, or_false] at hn
  rcases hn with rfl | rfl | rfl | rfl <;> exact nd_ok _ _ _ (by decide) (by decide) (by decide)
theorem two_nums (nb : List Node) (h : ∀ n ∈ nb, n.ok) : UOk (twoU nb) := by
  intro g hg
  simp only [twoU, List.mem_cons, List.not_mem_nil, or_false] at hg
  rcases hg with rfl | rfl
  · exact nodesA_ok
  · exact h
end Go.Proofs.YtkkmkjjbffpgnaaDoor
/- The walk of begins. -/
namespace Go.Proofs.YtkkmkjjbffpgnaaDoor
open Go Go.RowKit
theorem bare_two : (bareF (twoU nodesB) 0 0).map (fun h => (h.t, h.i)) = [(1, 0)] := by
  unfold bareF
  rw [hits_two]
  rfl
theorem Cls_first {m : CM} {A : Option Addr} {n c : Nat} {l : List Cls} (h : Clss m (.slice A n c) l) {x : Cls} (hx : l[0]? = some x) : ∃ b o, A = some ⟨b, o, none⟩ ∧ m b o = some (.int .u8 x.kind) := by
  obtain ⟨b, o, e, _, rfl, hc⟩ := h.at_ hx
  exact ⟨b, o, e, by have := hc 0 _ rfl; simpa using this⟩
theorem Blk.ne {w : World} {g g' : Nat} {t t' : TypeId} {cs cs' : List Value} (h : Blk w g t cs) (h' : Blk w g' t' cs') (hne : t ≠ t') : g ≠ g' := by
  intro e
  subst e
  unfold Blk at h h'
  rw [h] at h'
  injection h' with h'
  injection h' with _ q
  exact hne q
theorem list_two (nb : List Node) (c : Cls) (h : classF (twoU nb) 0 = c) : (List.range (twoU nb).shared.length).map (fun x : Nat => classF (twoU nb) (x : Int)) = [c] := by
  show [classF (twoU nb) 0] = _
  rw [h]
set_option maxRecDepth 100000 in
set_option maxHeartbeats 4000000 in
theorem begins_calls (w : World) (hT : Tab w) : Calls Tryd.prog 4 #[] w fun e w' => e = .returned (.bool true) ∧ Below w.heap.size w w' := by
  have HT := Lib.hid hT; clear hT
  go_enter Tryd.func4, Tryd.ntmps4
  go_wp2_with fail
  refine (two_unit_calls _).mono ?_
  rintro e w1 ⟨gb, ba, bb, xb, lb, rfl, tm, hgb, hb1⟩
  have hu1 := tm.unit (nb := nodesB) (Nodes_blk tm.b 2 rfl (by decide))
  have hgl1 := tm.g.lt
  obtain ⟨CU, hCU⟩ : ∃ CU : List Value, [.slice (some ⟨xb, 0, none⟩) 1 1, .slice (some ⟨lb, 0, none⟩) 1 1, .slice (some ⟨gb, 0, none⟩) 2 2] = CU := ⟨_, rfl⟩
  have HCU := Lib.hid hCU
  have hbx : Blk (w1.alloc (.cells #[.slice (some ⟨xb, 0, none⟩) 1 1, .slice (some ⟨lb, 0, none⟩) 1 1, .slice (some ⟨gb, 0, none⟩) 2 2] 25)) w1.heap.size 25 [.slice (some ⟨xb, 0, none⟩) 1 1, .slice (some ⟨lb, 0, none⟩) 1 1, .slice (some ⟨gb, 0, none⟩) 2 2] := Blk.new w1 _ _
  clear hCU
  have tm2 := tm.below (Below_alloc' w1 (.cells #[.slice (some ⟨xb, 0, none⟩) 1 1, .slice (some ⟨lb, 0, none⟩) 1 1, .slice (some ⟨gb, 0, none⟩) 2 2] 25))
  have hu2 := hu1.mono (cmap_alloc w1 (.cells #[.slice (some ⟨xb, 0, none⟩) 1 1, .slice (some ⟨lb, 0, none⟩) 1 1, .slice (some ⟨gb, 0, none⟩) 2 2] 25))
  have hbe := hb1.alloc hb1.size (.cells #[.slice (some ⟨xb, 0, none⟩) 1 1, .slice (some ⟨lb, 0, none⟩) 1 1, .slice (some ⟨gb, 0, none⟩) 2 2] 25)
  have HLD : Hid (∀ j v, ([.slice (some ⟨xb, 0, none⟩) 1 1, .slice (some ⟨lb, 0, none⟩) 1 1, .slice (some ⟨gb, 0, none⟩) 2 2] : List Value)[j]? = some v → (w1.alloc (.cells #[.slice (some ⟨xb, 0, none⟩) 1 1, .slice (some ⟨lb, 0, none⟩) 1 1, .slice (some ⟨gb, 0, none⟩) 2 2] 25)).cell? ⟨w1.heap.size, 0 + j, none⟩ = some v) := cell_newl w1 _ _ _ rfl
  have HT2 := Lib.hid (HT.out.below hbe)
  have ok1 := two_nums nodesB nodesB_ok
  go_wp2_with (first
    | (refine wpList_load_at rfl 25 _ rfl w1.heap.size 0 rfl _ _ HLD.out Tryd.underlying25 rfl (by kernel_rfl) ?_))
  refine (classes_calls (twoU nodesB) _ _ HT2.out hu2 ok1).mono ?_
  rintro e w3 (⟨-, va, rfl, hva, hb3⟩ | ⟨hc, -⟩)
  rotate_left
  · exact (hc two_ok).elim
  have tm3 := tm2.below hb3
  have hbx3 := hbx.below hb3 hbx.lt
  have hu3 := hu2.mono (cmap_below hb3)
  have hbe3 := hbe.trans (hb3.mono hbe.size)
  have HLD3 : Hid (∀ j v, ([.slice (some ⟨xb, 0, none⟩) 1 1, .slice (some ⟨lb, 0, none⟩) 1 1, .slice (some ⟨gb, 0, none⟩) 2 2] : List Value)[j]? = some v → w3.cell? ⟨w1.heap.size, 0 + j, none⟩ = some v) := fun j v hj => by rw [Nat.zero_add, hbx3.cell]; exact hj
  clear hu1 hu2 tm tm2 hbx
  go_wp2_with (first
    | (refine wpList_load_at rfl 25 _ rfl w1.heap.size 0 rfl _ _ HLD3.out Tryd.underlying25 rfl (by kernel_rfl) ?_))
  refine (bare_calls (twoU nodesB) _ 0 0 _ hu3 ok1).mono ?_
  rintro e w4 (⟨-, -, vl, rfl, hvl, hb4⟩ | ⟨-, hno, -⟩ | ⟨hc, -⟩)
  rotate_left
  · exact (hno (by decide)).elim
  · exact (hc two_ok).elim
  have tm4 := tm3.below hb4
  have hbx4 := hbx3.below hb4 hbx3.lt
  have hbe4 := hbe3.trans (hb4.mono hbe3.size)
  have c2 := hbx4.cell 2
  have g3 := tm4.g.cell 3
  have g7 := tm4.g.cell 7
  have f7 := tm4.g.frozen 7
  clear hu3 tm3 hbx3
  go_wp2_with fail
  go_region
  all_goals (
    have n1 := tm4.g.ne tm4.a (by decide)
    have n2 := tm4.g.ne tm4.b (by decide)
    have n3 := tm4.g.ne tm4.x (by decide)
    have n4 := tm4.g.ne tm4.l (by decide)
    have n5 := tm4.g.ne hbx4 (by decide)
    have tm5 : TwoMem (w4.setCell ⟨gb, 7, none⟩ (.slice (some ⟨ba, 0, none⟩) 4 4)) gb ba bb xb lb (.slice (some ⟨ba, 0, none⟩) 4 4) :=
      ⟨tm4.a.far (fun e => n1 e.symm) _, tm4.b.far (fun e => n2 e.symm) _, tm4.x.far (fun e => n3 e.symm) _, tm4.l.far (fun e => n4 e.symm) _, tm4.g.set_ 7 _⟩
    have hbx5 : Blk (w4.setCell ⟨gb, 7, none⟩ (.slice (some ⟨ba, 0, none⟩) 4 4)) w1.heap.size 25 [.slice (some ⟨xb, 0, none⟩) 1 1, .slice (some ⟨lb, 0, none⟩) 1 1, .slice (some ⟨gb, 0, none⟩) 2 2] := hbx4.far (fun e => n5 e.symm) _
    have hu5 := tm5.unit (nb := nodesA) (Nodes_blk tm5.a 4 rfl (by decide))
    have hbe5 : Below w.heap.size w (w4.setCell ⟨gb, 7, none⟩ (.slice (some ⟨ba, 0, none⟩) 4 4)) := hbe4.setCell (by simpa using hgb) _
    have hgl := tm4.g.lt
    have hk5 : ∀ b, b ≠ gb → (w4.setCell ⟨gb, 7, none⟩ (.slice (some ⟨ba, 0, none⟩) 4 4)).heap[b]? = w4.heap[b]? := fun b hb => Below.heap_setCell _ _ _ _ hb
    have hs5 : (w4.setCell ⟨gb, 7, none⟩ (.slice (some ⟨ba, 0, none⟩) 4 4)).heap.size = w4.heap.size := by simp [World.setCell]
    have gw : ∃ w5, w5 = w4.setCell ⟨gb, 7, none⟩ (.slice (some ⟨ba, 0, none⟩) 4 4) := ⟨_, rfl⟩
    clear tm4 hbx4 c2 g3 g7 f7 hbe4 n1 n2 n3 n4 n5
    generalize w4.setCell ⟨gb, 7, none⟩ (.slice (some ⟨ba, 0, none⟩) 4 4) = w5 at tm5 hbx5 hu5 hbe5 hk5 hs5 ⊢
    clear gw
    have HLD5 : Hid (∀ j v, ([.slice (some ⟨xb, 0, none⟩) 1 1, .slice (some ⟨lb, 0, none⟩) 1 1, .slice (some ⟨gb, 0, none⟩) 2 2] : List Value)[j]? = some v → w5.drew.cell? ⟨w1.heap.size, 0 + j, none⟩ = some v) := fun j v hj => by rw [Nat.zero_add]; exact (hbx5.cell j).trans hj
    have HK5 := Lib.hid hk5; clear hk5
    have HS5 := Lib.hid hs5; clear hs5
    have hbe5d : Below w.heap.size w w5.drew := hbe5.drew
    have HT5 := Lib.hid (HT.out.below hbe5d)
    have ok2 := two_nums nodesA nodesA_ok
    go_wp2_with (first
      | (refine wpList_load_at rfl 25 _ rfl w1.heap.size 0 rfl _ _ HLD5.out Tryd.underlying25 rfl (by kernel_rfl) ?_))
    refine (classes_calls (twoU nodesA) _ w5.drew HT5.out hu5 ok2).mono ?_
    rintro e w6 (⟨-, vb, rfl, hvb, hb6⟩ | ⟨hc, -⟩)
    rotate_left
    · exact (hc two_ok2).elim
    rw [list_two nodesB _ class_two] at hva
    rw [list_two nodesA _ class_two2] at hvb
    have hal := Accs_of hvl
    rw [bare_two] at hal
    have s3 := hb3.size
    have s4 := hb4.size
    have s6 := hb6.size
    have s5 := HS5.out
    simp only [World.size_alloc, World.size_drew] at s3 s6
    have k46 : ∀ b, b ≠ gb → b < w4.heap.size → w6.heap[b]? = w4.heap[b]? := fun b h1 h2 => (hb6.block b (by show b < w5.heap.size; omega)).trans (HK5.out b h1)
    obtain ⟨aA, ac, rfl, -⟩ := id hva
    obtain ⟨b1, o1, rfl, e1⟩ := Cls_first hva rfl
    obtain ⟨e2, e3, e4⟩ := part_at e1
    simp only [World.size_alloc] at e3
    have a6 : w6.cell? ⟨b1, o1, none⟩ = some (.int .u8 3) := (World.cell?_of_block (k46 b1 (by omega) (by omega))).trans ((hb4.cell (p := ⟨b1, o1, none⟩) e4).trans e2)
    obtain ⟨bA, bc, rfl, -⟩ := id hvb
    obtain ⟨b2, o2, rfl, e5⟩ := Cls_first hvb rfl
    have b6 : w6.cell? ⟨b2, o2, none⟩ = some (.int .u8 2) := part_le _ _ _ _ _ _ e5
    have hal6 : Accs (cmap w6) vl [(1, 0)] := hal.mono ((part_keep (w' := w6) (fun b q1 q2 => k46 b (by omega) q2)).trans (part_le _ _ _))
    have hlit : Accs (cmap (w6.alloc (.cells #[.int .i64 1, .int .i64 0] 65))) (.slice (some ⟨w6.heap.size, 0, none⟩) 1 1) [(1, 0)] := by
      refine ⟨_, _, rfl, Nat.le_refl _, ⟨by simp [maxLen], fun h => by cases h⟩, .inr ⟨w6.heap.size, 0, rfl, fun i x hx => ?_⟩⟩
      match i, hx with
      | 0, hx =>
        simp at hx
        subst hx
        exact ⟨_, rfl, fun j v hv => by have := cell_newl w6 [.int .i64 1, .int .i64 0] 65 _ rfl j v hv; simpa [cmap] using this⟩
    have hal7 := hal6.mono (cmap_alloc w6 (.cells #[.int .i64 1, .int .i64 0] 65))
    have lt1 : b1 < w6.heap.size := World.block_lt_of_cell? w6 ⟨b1, o1, none⟩ a6
    have lt2 : b2 < w6.heap.size := World.block_lt_of_cell? w6 ⟨b2, o2, none⟩ b6
    have hbe6 : Below w.heap.size w w6 := hbe5d.trans (hb6.mono hbe5d.size)
    clear hva hvb hvl hal hal6 hb6 k46 e1 e2 e5 hu5 tm5 hbx5
    go_wp2_with (go_at_call 15; (refine (accesses_calls _ _ _ _ _ hal7 hlit).mono ?_; rintro e w7 ⟨rfl, n7, rfl⟩; rw [show decide ([((1 : Nat), (0 : Nat))] = [(1, 0)]) = true from rfl]))
    go_ret
    have hfin := hbe6.alloc hbe6.size (.cells #[.int .i64 1, .int .i64 0] 65)
    exact ⟨rfl, ⟨hfin.os, hfin.tape, hfin.output, hfin.size, hfin.block⟩⟩)
end Go.Proofs.YtkkmkjjbffpgnaaDoor
