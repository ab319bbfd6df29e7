import Derived.Test.YtkkmkjjbffpgnaaP72
import Derived.Test.YtkkmkjjbffpgnaaP71
/- The walk of the law's lives: a unit of one thread that sets x to 5 and prints it. -/
namespace Go.Proofs.Ytkkmkjjbffpgnaa
open Go Go.RowKit
def zv : Val := ⟨false, 0, 0⟩
def smN0 : Node := ⟨3, 0, 0, 0, ⟨false, 0, 5⟩, zv, 1, 0, 0⟩
def smN1 : Node := ⟨2, 0, 0, 0, zv, zv, 2, 0, 1⟩
def smN2 : Node := ⟨7, 0, 0, 0, ⟨true, 0, 0⟩, zv, 3, 0, 2⟩
def smN3 : Node := ⟨9, 0, 0, 0, zv, zv, 0, 0, 3⟩
def smU : Unit_ := ⟨[⟨⟨#[120]⟩, 0, 0⟩], [], [⟨⟨#[116]⟩, 0, 1, [smN0, smN1, smN2, smN3]⟩]⟩
theorem sm_check : checkF smU = none := by kernel_rfl
theorem sm_small : ∀ x : Int, 0 ≤ x → x ≤ 5 → i64 x := fun x h1 h2 => by unfold i64; omega
theorem sm_ok : UOk smU := by
  intro g hg n hn
  have hb : ∀ x : Int, 0 ≤ x ∧ x ≤ 5 → i64 x := fun x h => sm_small x h.1 h.2
  simp only [smU, List.mem_cons, List.not_mem_nil, or_false] at hg
  subst hg
  simp only [List.mem_cons, List.not_mem_nil, or_false] at hn
  rcases hn with rfl | rfl | rfl | rfl <;> exact ⟨by decide, by decide, hb _ (by decide), hb _ (by decide), ⟨hb _ (by decide), hb _ (by decide)⟩, ⟨hb _ (by decide), hb _ (by decide)⟩, hb _ (by decide), hb _ (by decide), hb _ (by decide)⟩
theorem sm_sok : SOk smU := by
  intro d hd
  simp only [smU, List.mem_cons, List.not_mem_nil, or_false] at hd
  subst hd
  exact sm_small _ (by decide) (by decide)
theorem sm_run : runF smU (startM smU) [0, 0, 0, 0] = (⟨[3], [[5]], [5], [], [(0, 5)]⟩, 3, 70) := by kernel_rfl
theorem nodes_blk4 {w : World} {b : Nat} {t : TypeId} {ns : List Node} (h : Blk w b t (ns.flatMap Node.cells)) (n : Nat) (hn : n = ns.length) (hl : n ≤ 1000) : Nodes (cmap w) (.slice (some ⟨b, 0, none⟩) n n) ns := by
  subst hn
  refine ⟨_, _, rfl, Nat.le_refl _, ⟨by simp only [maxLen]; omega, fun h => by cases h⟩, .inr ⟨b, 0, rfl, fun i x hx j v hv => ?_⟩⟩
  show w.cell? ⟨b, 0 + i * 13 + j, none⟩ = some v
  rw [Nat.zero_add, h.cell, List.flatMap_def]
  refine flatten_at (ns.map Node.cells) 13 i x.cells (fun r hr => ?_) ?_ j v hv
  · obtain ⟨q, _, rfl⟩ := List.mem_map.1 hr; rfl
  · rw [List.getElem?_map, hx]; rfl
theorem sm_unit {w : World} {na xb gb : Nat} {T1 T2 T3 : TypeId} (ha : Blk w na T1 ([smN0, smN1, smN2, smN3].flatMap Node.cells)) (hx : Blk w xb T2 [.string ⟨#[120]⟩, .int .i64 0, .int .i64 0])
    (hg : Blk w gb T3 [.string ⟨#[116]⟩, .int .i64 0, .int .i64 1, .slice (some ⟨na, 0, none⟩) 4 4]) :
    UnitV (cmap w) [.slice (some ⟨xb, 0, none⟩) 1 1, .slice none 0 0, .slice (some ⟨gb, 0, none⟩) 1 1] smU := by
  refine ⟨_, _, _, rfl, ⟨_, _, rfl, Nat.le_refl _, ⟨by simp [maxLen], fun h => by cases h⟩, .inr ⟨xb, 0, rfl, fun i x h => ?_⟩⟩, ⟨none, 0, rfl, by simp [smU], ⟨by simp [maxLen], fun _ => rfl⟩, .inl rfl⟩, ⟨_, _, rfl, Nat.le_refl _, ⟨by simp [maxLen], fun h => by cases h⟩, .inr ⟨gb, 0, rfl, fun i x h => ?_⟩⟩⟩
  · match i, h with
    | 0, h =>
      simp [smU] at h
      subst h
      exact ⟨hx.cell 0, hx.cell 1, hx.cell 2⟩
  · match i, h with
    | 0, h =>
      simp [smU] at h
      subst h
      refine ⟨_, ⟨_, rfl, nodes_blk4 ha 4 rfl (by decide)⟩, fun j v hv => ?_⟩
      match j, hv with
      | 0, hv => simp at hv; subst hv; exact hg.cell 0
      | 1, hv => simp at hv; subst hv; exact hg.cell 1
      | 2, hv => simp at hv; subst hv; exact hg.cell 2
      | 3, hv => simp at hv; subst hv; exact hg.cell 3
set_option maxRecDepth 100000 in
set_option maxHeartbeats 2000000 in
theorem small_calls (w : World) : Calls Try.prog 54 #[] w fun e w' => ∃ s g : Option Addr, e = .returned (.agg #[.slice s 1 1, .slice none 0 0, .slice g 1 1]) ∧ UnitV (cmap w') [.slice s 1 1, .slice none 0 0, .slice g 1 1] smU ∧ Below w.heap.size w w' := by
  go_enter Try.func54, Try.ntmps54
  go_wp2
  refine bodyPost_ret (v := .agg #[.slice (some ⟨w.heap.size + 1 + 1 + 1 + 1, 0, none⟩) 1 1, .slice none 0 0, .slice (some ⟨w.heap.size + 1 + 1 + 1 + 1 + 1, 0, none⟩) 1 1]) (by simp [results, Try.results54, go_sem]) rfl ⟨_, _, rfl, ?_, ?_⟩
  · refine sm_unit (na := w.heap.size + 1 + 1 + 1) (T1 := 67) (T2 := 110) (T3 := 70) ?_ ?_ ?_
    · exact ((Blk.of (heap_new _ _ _ (by simp)) rfl : Blk _ _ _ _).alloc _).alloc _
    · exact (Blk.of (heap_new _ _ _ (by simp)) rfl : Blk _ _ _ _).alloc _
    · exact Blk.of (heap_new _ _ _ (by simp)) rfl
  · exact (((((Below_alloc' w _).alloc (by simp) _).alloc (by simp; omega) _).alloc (by simp; omega) _).alloc (by simp; omega) _).alloc (by simp; omega) _
set_option maxRecDepth 100000 in
set_option maxHeartbeats 4000000 in
theorem lives7_calls (w : World) : Calls Try.prog 23 #[] w fun e w' => e = .returned (.bool true) ∧ Below w.heap.size w w' := by
  go_enter Try.func23, Try.ntmps23
  go_wp2_with fail
  refine (small_calls _).mono ?_
  rintro e w1 ⟨sA, gA, rfl, hu1, hb1⟩
  go_wp2_with fail
  refine (new_good smU _ _ hu1 sm_ok sm_check).mono ?_
  rintro e w2 ⟨g, L, R, rfl, hM, hR, hmu, hb2⟩
  have hsit := start_situ sm_check sm_sok
  have hru := checkF_none sm_check
  have hbb : Below w2.heap.size w2 (w2.alloc (.cells #[.int .i64 0, .int .i64 0, .int .i64 0, .int .i64 0] 3)) := Below_alloc' _ _
  have hbl := Blk.new w2 3 [.int .i64 0, .int .i64 0, .int .i64 0, .int .i64 0]
  have hrun := run_calls (Q := fun b => b = w2.heap.size) (A := some ⟨w2.heap.size, 0, none⟩) (c := 4) (l := [0, 0, 0, 0]) (hM.below hbb) hsit hru sm_ok (by simp [startM]) (fun q hq => by have := (hR q hq).2; simp; omega)
    ⟨_, _, rfl, Nat.le_refl _, ⟨by simp [maxLen], fun h => by cases h⟩, .inr ⟨w2.heap.size, 0, rfl, fun i x hx => by
      refine on_mk ?_ rfl
      rw [Nat.mul_one, Nat.zero_add]
      refine (hbl.cell i).trans ?_
      match i, hx with
      | 0, hx => injection hx with hx; subst hx; rfl
      | 1, hx => injection hx with hx; subst hx; rfl
      | 2, hx => injection hx with hx; subst hx; rfl
      | 3, hx => injection hx with hx; subst hx; rfl⟩⟩ (fun q hq hm => by have := hM.lt hm; omega)
  rw [sm_run] at hrun
  have HRN := Lib.hid hrun
  have HBB := Lib.hid (And.intro hb1 (And.intro hb2 (And.intro hmu hru)))
  clear hu1 hrun hbl hbb hb1 hb2 hM hR hmu hsit hru
  go_wp2_with fail
  refine HRN.out.mono ?_
  rintro e w3 ⟨rfl, hm3⟩
  obtain ⟨pv, hM3, hmu3⟩ := id hm3.ex
  have hs3 := (runF_situ HBB.out.2.2.2 sm_ok [0, 0, 0, 0] (start_situ sm_check sm_sok)).1
  rw [sm_run] at hs3
  have hbw : Below w.heap.size w w3 := (HBB.out.1.trans (HBB.out.2.1.mono HBB.out.1.size)).trans (((Below_alloc' w2 _).mono (Nat.le_trans HBB.out.1.size HBB.out.2.1.size)).trans ((hm3.fr.grow w1.heap.size (by have := HBB.out.2.1.size; simp; omega) HBB.out.2.2.1).mono HBB.out.1.size))
  have hpc := prints_calls hM3 (by decide)
  have HP := Lib.hid hpc
  have HM := Lib.hid (And.intro hM3 (And.intro hs3.ok hbw))
  clear hM3 hs3 hmu3 hm3 hbw hpc HRN
  go_wp2_with fail
  refine HP.out.mono ?_
  rintro e w4 ⟨A4, c4, rfl, hp4, hb4⟩
  obtain ⟨pb, po, rfl, hc0, hc1⟩ := hp4.at_ (i := 0) rfl
  have q1 : w4.cell? ⟨pb, po + 1, none⟩ = some (.int .i64 5) := (part_at hc1).1
  have q1l : pb < w4.heap.size := (part_at hc1).2.2
  have he := ended_calls (HM.out.1.below hb4) HM.out.2.1 HBB.out.2.2.2 (by decide)
  rw [show endedF smU ⟨[3], [[5]], [5], [], [(0, 5)]⟩ = true from by kernel_rfl] at he
  have HE := Lib.hid he
  have HB4 := Lib.hid hb4
  clear hp4 hc0 hc1 he hb4 HP
  go_wp2_with fail
  refine HE.out.mono ?_
  rintro e w5 ⟨rfl, hb5⟩
  have q2 : w5.cell? ⟨pb, po + 1, none⟩ = some (.int .i64 5) := (hb5.cell (p := ⟨pb, po + 1, none⟩) q1l).trans q1
  have hb35 : Below w3.heap.size w3 w5 := HB4.out.trans (hb5.mono HB4.out.size)
  have h1 := memory_calls (HM.out.1.below hb35) (by decide)
  have H1 := Lib.hid h1
  have HB5 := Lib.hid hb35
  clear h1 hb35 hb5 q1 q1l HE
  go_wp2_with fail
  refine H1.out.mono ?_
  rintro e w6 ⟨A6, c6, rfl, -, hb6⟩
  have hb36 : Below w3.heap.size w3 w6 := HB5.out.trans (hb6.mono HB5.out.size)
  have h1 := memory_calls (HM.out.1.below hb36) (by decide)
  have H2 := Lib.hid h1
  have HB6 := Lib.hid hb36
  clear h1 hb36 hb6 q2 H1
  go_wp2_with fail
  refine H2.out.mono ?_
  rintro e w7 ⟨A7, c7, rfl, hm7, hb7⟩
  obtain ⟨pb7, po7, rfl, hc0⟩ := hm7.at_ (i := 0) rfl
  have q7 : w7.cell? ⟨pb7, po7, none⟩ = some (.int .i64 5) := (part_at hc0).1
  have hb37 : Below w3.heap.size w3 w7 := HB6.out.trans (hb7.mono HB6.out.size)
  have HF := Lib.hid (HM.out.2.2.trans (hb37.mono HM.out.2.2.size))
  clear hm7 hc0 hb37 hb7 H2
  go_wp2
  go_ret
  exact ⟨rfl, HF.out⟩
end Go.Proofs.Ytkkmkjjbffpgnaa
