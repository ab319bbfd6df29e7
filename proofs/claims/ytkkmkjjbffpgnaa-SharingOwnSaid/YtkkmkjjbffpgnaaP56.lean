import Derived.Test.YtkkmkjjbffpgnaaP59
import Derived.Test.YtkkmkjjbffpgnaaP54
import Derived.Test.YtkkmkjjbffpgnaaP55
/- The walk of the law SharingTouches. -/
namespace Go.Proofs.Ytkkmkjjbffpgnaa
open Go Go.RowKit
open Classical in
/-- What Touches answers, and Owners. -/
noncomputable def tAns (u : Unit_) : List Tou × Int := if checkF u ≠ none then ([], 60) else ((List.range u.shared.length).map (touF u), 0)
open Classical in
noncomputable def oAns (u : Unit_) : List Int × Int := if checkF u ≠ none then ([], 60) else (ownRef u, 0)
theorem sl_nil0 {α : Type} {R : CM → Nat → Nat → α → Prop} {size : Nat} (m : CM) : Sl R size m (.slice none 0 0) [] := ⟨none, 0, rfl, by simp, ⟨by simp [maxLen], fun _ => rfl⟩, .inl rfl⟩
theorem tou_ans {u : Unit_} {w : World} {e : Ending} {w' : World}
    (h : (checkF u = none ∧ ∃ v, e = .returned (.tuple #[v, .int .i64 0]) ∧ Sl (Cells touV) 2 (part w' w.heap.size w'.heap.size) v ((List.range u.shared.length).map (touF u)) ∧ Below w.heap.size w w') ∨
      (checkF u ≠ none ∧ e = .returned (.tuple #[.slice none 0 0, .int .i64 60]) ∧ Below w.heap.size w w')) :
    ∃ A c, e = .returned (.tuple #[.slice A (tAns u).1.length c, .int .i64 (tAns u).2]) ∧ Sl (Cells touV) 2 (part w' w.heap.size w'.heap.size) (.slice A (tAns u).1.length c) (tAns u).1 ∧ Below w.heap.size w w' := by
  unfold tAns
  rcases h with ⟨h1, v, rfl, h3, h4⟩ | ⟨h1, rfl, h4⟩
  · rw [if_neg (by rw [h1]; simp)]
    obtain ⟨A, c, rfl, -⟩ := id h3
    exact ⟨A, c, rfl, h3, h4⟩
  · rw [if_pos h1]
    exact ⟨none, 0, rfl, sl_nil0 _, h4⟩
theorem own_ans {u : Unit_} {w : World} {e : Ending} {w' : World}
    (h : (checkF u = none ∧ ∃ v, e = .returned (.tuple #[v, .int .i64 0]) ∧ Ints (part w' w.heap.size w'.heap.size) v (ownRef u) ∧ Below w.heap.size w w') ∨
      (checkF u ≠ none ∧ e = .returned (.tuple #[.slice none 0 0, .int .i64 60]) ∧ Below w.heap.size w w')) :
    ∃ A c, e = .returned (.tuple #[.slice A (oAns u).1.length c, .int .i64 (oAns u).2]) ∧ Ints (part w' w.heap.size w'.heap.size) (.slice A (oAns u).1.length c) (oAns u).1 ∧ Below w.heap.size w w' := by
  unfold oAns
  rcases h with ⟨h1, v, rfl, h3, h4⟩ | ⟨h1, rfl, h4⟩
  · rw [if_neg (by rw [h1]; simp)]
    obtain ⟨A, c, rfl, -⟩ := id h3
    exact ⟨A, c, rfl, h3, h4⟩
  · rw [if_pos h1]
    exact ⟨none, 0, rfl, sl_nil0 _, h4⟩
theorem owners_ans (u : Unit_) (cs : List Value) (w : World) (hu : UnitV (cmap w) cs u) (hok : UOk u) :
    Calls Try.prog 13 #[.agg cs.toArray] w fun e w' => ∃ A c, e = .returned (.tuple #[.slice A (oAns u).1.length c, .int .i64 (oAns u).2]) ∧ Ints (part w' w.heap.size w'.heap.size) (.slice A (oAns u).1.length c) (oAns u).1 ∧ Below w.heap.size w w' := by
  refine (owners_calls u cs w hu hok).mono ?_
  rintro e w' h
  refine own_ans (u := u) ?_
  rcases h with ⟨h1, v, rfl, h3, h4⟩ | h
  · exact .inl ⟨h1, v, rfl, by rw [ownRef_is (checkF_none h1)]; exact h3, h4⟩
  · exact .inr h
set_option maxRecDepth 100000 in
set_option maxHeartbeats 4000000 in
theorem sharingTouches_calls (u : Unit_) (cs : List Value) (w : World) (hu : UnitV (cmap w) cs u) (hok : UOk u) :
    Calls Try.prog 3 #[.agg cs.toArray] w fun e w' => e = .returned (.bool true) ∧ Below w.heap.size w w' := by
  have hu0 := hu
  obtain ⟨sv, lv, gv, rfl, -, -, -⟩ := hu
  have hbx := Blk.new w 25 [sv, lv, gv]
  have hb0 := Below_alloc' w (.cells #[sv, lv, gv] 25)
  have hun : ∀ wr b (cs : List Value), Blk wr b 25 cs → ∀ j v, cs[j]? = some v → wr.cell? ⟨b, 0 + j, none⟩ = some v := fun wr b cs h j v hj => by rw [Nat.zero_add, h.cell]; exact hj
  have HUN := Lib.hid hun; clear hun
  have HLD : Hid (∀ j v, ([sv, lv, gv] : List Value)[j]? = some v → (w.alloc (.cells #[sv, lv, gv] 25)).cell? ⟨w.heap.size, 0 + j, none⟩ = some v) := cell_newl w _ _ _ rfl
  have h1c := fun wr (h : UnitV (cmap wr) [sv, lv, gv] u) => (tou_calls u [sv, lv, gv] wr h hok).mono fun _ _ h => tou_ans h
  have h2c := fun wr (h : UnitV (cmap wr) [sv, lv, gv] u) => (tou2_calls u [sv, lv, gv] wr h hok).mono fun _ _ h => tou_ans h
  have h3c := fun wr (h : UnitV (cmap wr) [sv, lv, gv] u) => owners_ans u [sv, lv, gv] wr h hok
  have h4c := fun wr (h : UnitV (cmap wr) [sv, lv, gv] u) => (owners2_calls u [sv, lv, gv] wr h hok).mono fun _ _ h => own_ans h
  obtain ⟨Q, hQ⟩ : ∃ Q, tAns u = Q := ⟨_, rfl⟩
  obtain ⟨QL, QK⟩ := Q
  rw [hQ] at h1c h2c
  obtain ⟨R, hR⟩ : ∃ R, oAns u = R := ⟨_, rfl⟩
  obtain ⟨RL, RK⟩ := R
  rw [hR] at h3c h4c
  have H1 := Lib.hid h1c; have H2 := Lib.hid h2c; have H3 := Lib.hid h3c; have H4 := Lib.hid h4c
  clear h1c h2c h3c h4c hQ hR
  go_enter Try.func3, Try.ntmps3
  go_wp2_with (first
    | (refine wpList_load_at rfl 25 _ rfl w.heap.size 0 rfl _ _ HLD.out Try.underlying25 rfl (by kernel_rfl) ?_))
  refine (H1.out _ (hu0.mono (cmap_below hb0))).mono ?_
  rintro e w1 ⟨A1, c1, rfl, s1, hb1⟩
  have hw1 : Below w.heap.size w w1 := hb0.trans (hb1.mono (by simp))
  have hbx1 := hbx.below hb1 hbx.lt
  have HLD1 := Lib.hid (HUN.out _ _ _ hbx1)
  clear hbx HLD
  go_wp2_with (first
    | (refine wpList_load_at rfl 25 _ rfl w.heap.size 0 rfl _ _ HLD1.out Try.underlying25 rfl (by kernel_rfl) ?_))
  refine (H2.out _ (hu0.mono (cmap_below hw1))).mono ?_
  rintro e w2 ⟨A2, c2, rfl, s2, hb2⟩
  have hw2 : Below w.heap.size w w2 := hw1.trans (hb2.mono hw1.size)
  have hbx2 := hbx1.below hb2 hbx1.lt
  have HLD2 := Lib.hid (HUN.out _ _ _ hbx2)
  go_wp2_with (first
    | (refine wpList_load_at rfl 25 _ rfl w.heap.size 0 rfl _ _ HLD2.out Try.underlying25 rfl (by kernel_rfl) ?_))
  refine (H3.out _ (hu0.mono (cmap_below hw2))).mono ?_
  rintro e w3 ⟨A3, c3, rfl, s3, hb3⟩
  have hw3 : Below w.heap.size w w3 := hw2.trans (hb3.mono hw2.size)
  have hbx3 := hbx2.below hb3 hbx2.lt
  have HLD3 := Lib.hid (HUN.out _ _ _ hbx3)
  go_wp2_with (first
    | (refine wpList_load_at rfl 25 _ rfl w.heap.size 0 rfl _ _ HLD3.out Try.underlying25 rfl (by kernel_rfl) ?_))
  refine (H4.out _ (hu0.mono (cmap_below hw3))).mono ?_
  rintro e w4 ⟨A4, c4, rfl, s4, hb4⟩
  have hw4 : Below w.heap.size w w4 := hw3.trans (hb4.mono hw3.size)
  go_wp2_with fail
  refine (lives9_calls _).mono ?_
  rintro e w5 ⟨rfl, hb5⟩
  have hw5 : Below w.heap.size w w5 := hw4.trans (hb5.mono hw4.size)
  have k1 := s1.mono ((part_le _ _ _).trans (((cmap_below hb2).trans (cmap_below hb3)).trans ((cmap_below hb4).trans (cmap_below hb5))))
  have k2 := s2.mono ((part_le _ _ _).trans ((cmap_below hb3).trans ((cmap_below hb4).trans (cmap_below hb5))))
  have k3 := s3.mono ((part_le _ _ _).trans ((cmap_below hb4).trans (cmap_below hb5)))
  have k4 := s4.mono ((part_le _ _ _).trans (cmap_below hb5))
  have e1 : (QK == QK) = true := by simp
  have e2 : (RK == RK) = true := by simp
  go_wp2_with fail
  refine (touches_calls _ _ QL _ k1 k2).mono ?_
  rintro e w6 ⟨rfl, n6, rfl⟩
  have k3' : Ints (cmap (w5.drewN n6)) (.slice A3 RL.length c3) RL := k3
  have k4' : Ints (cmap (w5.drewN n6)) (.slice A4 RL.length c4) RL := k4
  go_wp2_with fail
  refine (ints7_calls _ _ RL RL _ k3' k4').mono ?_
  rintro e w7 ⟨rfl, n7, rfl⟩
  rw [decide_eq_true rfl]
  go_wp2_with fail
  go_ret
  exact ⟨rfl, below_drewN hw5 (n6 + n7)⟩
end Go.Proofs.Ytkkmkjjbffpgnaa
