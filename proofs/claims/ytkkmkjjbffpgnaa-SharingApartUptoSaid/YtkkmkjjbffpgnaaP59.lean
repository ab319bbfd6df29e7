import Derived.Test.YtkkmkjjbffpgnaaP51
import Derived.Test.YtkkmkjjbffpgnaaP50
import Derived.Test.YtkkmkjjbffpgnaaP44
/- The walk of the law's lives. -/
namespace Go.Proofs.Ytkkmkjjbffpgnaa
open Go Go.RowKit
theorem race_quads {u : Unit_} (hu : RightU u) : (raceA u).map (fun p => qd p.1.1 p.2.1) = rquads u := by
  rw [← rquads_pairs, ← raceA_pairs hu, List.map_map]
  rfl
theorem race_sl {u : Unit_} (hu : RightU u) {m : CM} {v : Value} (h : Sl (Cells RaceV) 4 m v (raceA u)) : Sl (Cells quadV) 4 m v (rquads u) := by
  rw [← race_quads hu]
  refine h.imp (f := fun p : Rc u => qd p.1.1 p.2.1) fun m b o x hx => ?_
  obtain ⟨cs, rfl, h2⟩ := hx
  exact ⟨_, rfl, h2⟩
theorem ints_lit1 {w : World} {b : Nat} {t : TypeId} {x : Int} (h : Blk w b t [.int .i64 x]) : Ints (cmap w) (.slice (some ⟨b, 0, none⟩) 1 1) [x] := by
  refine ⟨_, _, rfl, Nat.le_refl _, ⟨by simp [maxLen], fun h => by cases h⟩, .inr ⟨b, 0, rfl, fun i y hy => ?_⟩⟩
  match i, hy with
  | 0, hy => simp at hy; subst hy; exact h.cell 0
set_option maxRecDepth 100000 in
set_option maxHeartbeats 4000000 in
theorem lives9_calls (w : World) : Calls Try.prog 15 #[] w fun e w' => e = .returned (.bool true) ∧ Below w.heap.size w w' := by
  have hkr := checkF_none kn_check
  go_enter Try.func15, Try.ntmps15
  go_wp2_with fail
  refine (known9_calls _).mono ?_
  rintro e w1 ⟨sA, gA, rfl, hu1, hb1⟩
  have hbx := Blk.new w1 25 [.slice sA 1 1, .slice none 0 0, .slice gA 2 2]
  have hu2 := hu1.mono (cmap_alloc w1 (.cells #[.slice sA 1 1, .slice none 0 0, .slice gA 2 2] 25))
  have hbe := hb1.alloc hb1.size (.cells #[.slice sA 1 1, .slice none 0 0, .slice gA 2 2] 25)
  have HLD : Hid (∀ j v, ([.slice sA 1 1, .slice none 0 0, .slice gA 2 2] : List Value)[j]? = some v → (w1.alloc (.cells #[.slice sA 1 1, .slice none 0 0, .slice gA 2 2] 25)).cell? ⟨w1.heap.size, 0 + j, none⟩ = some v) := cell_newl w1 _ _ _ rfl
  go_wp2_with (first
    | (refine wpList_load_at rfl 25 _ rfl w1.heap.size 0 rfl _ _ HLD.out Try.underlying25 rfl (by kernel_rfl) ?_))
  refine (tou_calls knU _ _ hu2 kn_ok).mono ?_
  rintro e w2 (⟨-, v, rfl, hv, hb2⟩ | ⟨hc, -⟩)
  rotate_left
  · exact absurd kn_check hc
  rw [kn_list] at hv
  obtain ⟨lA, lc, rfl, -⟩ := id hv
  have hbx2 := hbx.below hb2 hbx.lt
  have hbe2 := hbe.trans (hb2.mono hbe.size)
  have hu3 := hu2.mono (cmap_below hb2)
  have HLD2 : Hid (∀ j v, ([.slice sA 1 1, .slice none 0 0, .slice gA 2 2] : List Value)[j]? = some v → w2.cell? ⟨w1.heap.size, 0 + j, none⟩ = some v) := Lib.hid fun j v hj => by rw [Nat.zero_add, hbx2.cell]; exact hj
  clear hu1 hu2 HLD hbx
  go_wp2_with (first
    | (refine wpList_load_at rfl 25 _ rfl w1.heap.size 0 rfl _ _ HLD2.out Try.underlying25 rfl (by kernel_rfl) ?_))
  refine (races_calls knU _ _ hu3 kn_ok).mono ?_
  have hrl : (raceA knU).length = 1 := by
    have := congrArg List.length (race_quads hkr)
    rw [List.length_map, kn_quads] at this
    exact this
  have HRL := Lib.hid hrl; clear hrl
  rintro e w3 (⟨-, -, vr, rfl, hr, hb3⟩ | ⟨k, hk, -⟩)
  rotate_left
  · rcases hk with ⟨-, hc⟩ | ⟨-, -, hl⟩
    · exact absurd kn_check hc
    · rw [HRL.out] at hl; omega
  have hq := race_sl hkr hr
  rw [kn_quads] at hq
  obtain ⟨rA, rc, rfl, -⟩ := id hq
  have hbx3 := hbx2.below hb3 hbx2.lt
  have hbe3 := hbe2.trans (hb3.mono hbe2.size)
  have hu4 := hu3.mono (cmap_below hb3)
  have HLD3 : Hid (∀ j v, ([.slice sA 1 1, .slice none 0 0, .slice gA 2 2] : List Value)[j]? = some v → w3.cell? ⟨w1.heap.size, 0 + j, none⟩ = some v) := Lib.hid fun j v hj => by rw [Nat.zero_add, hbx3.cell]; exact hj
  clear hu3 HLD2 hbx2 hr
  go_wp2_with (first
    | (refine wpList_load_at rfl 25 _ rfl w1.heap.size 0 rfl _ _ HLD3.out Try.underlying25 rfl (by kernel_rfl) ?_))
  refine (apart_calls knU _ 0 1 _ hu4 kn_ok).mono ?_
  rintro e w4 ⟨rfl, hb4⟩
  rw [kn_apart]
  have hbe4 := hbe3.trans (hb4.mono hbe3.size)
  have hv4 := hv.mono ((part_le _ _ _).trans (cmap_below (hb3.trans (hb4.mono hb3.size))))
  have hq4 := hq.mono ((part_le _ _ _).trans (cmap_below hb4))
  clear hv hq hu4 HLD3 hbx3
  obtain ⟨lb, lo, rfl, _, ⟨a, b, rfl, ha, hb⟩, hlc⟩ := hv4.at_ (i := 0) rfl
  have p0 : w4.cell? ⟨lb, lo, none⟩ = some a := hlc 0 a rfl
  have p1 : w4.cell? ⟨lb, lo + 1, none⟩ = some b := hlc 1 b rfl
  obtain ⟨aA, ac, rfl, -⟩ := id ha
  obtain ⟨bA, bc, rfl, -⟩ := id hb
  obtain ⟨rb, ro, rfl, hrc⟩ := hq4.at_ (i := 0) rfl
  have hrc := Cells_plain hrc
  have r0 : w4.cell? ⟨rb, ro, none⟩ = some (.int .i64 0) := hrc 0 _ rfl
  have r1 : w4.cell? ⟨rb, ro + 1, none⟩ = some (.int .i64 0) := hrc 1 _ rfl
  have r2 : w4.cell? ⟨rb, ro + 2, none⟩ = some (.int .i64 1) := hrc 2 _ rfl
  have r3 : w4.cell? ⟨rb, ro + 3, none⟩ = some (.int .i64 0) := hrc 3 _ rfl
  clear hlc hrc hv4 hq4
  have hm : Try.prog.eqGuardType Try.prog.depth 46 = false := by kernel_rfl
  have heq := eq_pair 0 0 1 0
  have hi1 := ints_lit1 (Blk.new w4 3 [.int .i64 1])
  have ha1 := ha.mono (cmap_alloc w4 (.cells #[.int .i64 1] 3))
  go_wp2_with fail
  refine (ints7_calls _ _ [1] [1] _ ha1 hi1).mono ?_
  rintro e w5 ⟨rfl, n5, rfl⟩
  rw [decide_eq_true rfl]
  have hbw5 : Below w4.heap.size w4 ((w4.alloc (.cells #[.int .i64 1] 3)).drewN n5) := below_drewN (Below_alloc' _ _) n5
  obtain ⟨w5, hw5⟩ : ∃ w5, (w4.alloc (.cells #[.int .i64 1] 3)).drewN n5 = w5 := ⟨_, rfl⟩
  rw [hw5] at hbw5
  rw [hw5]
  clear hw5 hi1 ha1
  have p1 : w5.cell? ⟨lb, lo + 1, none⟩ = some (.slice bA [(0 : Int)].length bc) := cmap_below hbw5 _ _ _ p1
  have r0 : w5.cell? ⟨rb, ro, none⟩ = some (.int .i64 0) := cmap_below hbw5 _ _ _ r0
  have r1 : w5.cell? ⟨rb, ro + 1, none⟩ = some (.int .i64 0) := cmap_below hbw5 _ _ _ r1
  have r2 : w5.cell? ⟨rb, ro + 2, none⟩ = some (.int .i64 1) := cmap_below hbw5 _ _ _ r2
  have r3 : w5.cell? ⟨rb, ro + 3, none⟩ = some (.int .i64 0) := cmap_below hbw5 _ _ _ r3
  have hi2 := ints_lit1 (Blk.new w5 3 [.int .i64 0])
  have hb2' := (hb.mono (cmap_below hbw5)).mono (cmap_alloc w5 (.cells #[.int .i64 0] 3))
  have hbe5 := hbe4.trans (hbw5.mono hbe4.size)
  go_wp2_with fail
  refine (ints7_calls _ _ [0] [0] _ hb2' hi2).mono ?_
  rintro e w6' ⟨rfl, n6, rfl⟩
  rw [decide_eq_true rfl]
  have hbw6 : Below w5.heap.size w5 ((w5.alloc (.cells #[.int .i64 0] 3)).drewN n6) := below_drewN (Below_alloc' _ _) n6
  obtain ⟨w6, hw6⟩ : ∃ w6, (w5.alloc (.cells #[.int .i64 0] 3)).drewN n6 = w6 := ⟨_, rfl⟩
  rw [hw6] at hbw6
  rw [hw6]
  clear hw6 hi2 hb2'
  have hbe6 := hbe5.trans (hbw6.mono hbe5.size)
  have HLP : Hid (∀ j v, ([.int .i64 0, .int .i64 0, .int .i64 1, .int .i64 0] : List Value)[j]? = some v → w6.cell? ⟨rb, ro + j, none⟩ = some v) := Lib.hid fun j v hj => by
    match j, hj with
    | 0, hj => injection hj with hj; subst hj; exact cmap_below hbw6 _ _ _ r0
    | 1, hj => injection hj with hj; subst hj; exact cmap_below hbw6 _ _ _ r1
    | 2, hj => injection hj with hj; subst hj; exact cmap_below hbw6 _ _ _ r2
    | 3, hj => injection hj with hj; subst hj; exact cmap_below hbw6 _ _ _ r3
  go_wp2_with (first
    | (refine wpList_load_at_g (by rfl) 46 _ rfl rb ro rfl _ _ HLP.out Try.underlying46 rfl (by kernel_rfl) ?_))
  go_ret
  exact ⟨rfl, hbe6⟩
end Go.Proofs.Ytkkmkjjbffpgnaa
