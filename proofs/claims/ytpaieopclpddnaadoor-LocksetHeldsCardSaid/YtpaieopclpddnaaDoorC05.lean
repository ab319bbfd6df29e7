/- LocksetHelds: whatever unit and thread are given, lockset.Held of a copy and lockset.Guards of it answer as the document's own, and the copy still is as the unit. Conditions: the row's own; the listed table is tied to the program's text by the card. -/
import Derived.Test.YtpaieopclpddnaaDoorP27
import Derived.Test.YtpaieopclpddnaaDoorP14
import Derived.Test.YtpaieopclpddnaaDoorP20
import Derived.Test.YtpaieopclpddnaaDoorP22
import Derived.Test.YtpaieopclpddnaaDoorP24
/- The walk of the law LocksetHelds. -/
namespace Go.Proofs.YtpaieopclpddnaaDoor
open Go Go.RowKit
set_option maxRecDepth 100000 in
set_option maxHeartbeats 4000000 in
theorem locksetHelds_calls (u : Unit_) (cs : List Value) (t : Int) (w : World) (hT : Tab w) (hu : UnitV (cmap w) cs u) (hok : UOk u) (hz : USz u) :
    Calls Tryd.prog 8 #[.agg cs.toArray, .int .i64 t] w fun e w' => e = .returned (.bool true) ∧ Below w.heap.size w w' := by
  have hu0 := hu
  obtain ⟨sv, lv, gv, rfl, -⟩ := hu
  have hbx := Blk.new w 25 [sv, lv, gv]
  have hb0 := Below_alloc' w (.cells #[sv, lv, gv] 25)
  have hun : ∀ wr b (cs : List Value), Blk wr b 25 cs → ∀ j v, cs[j]? = some v → wr.cell? ⟨b, 0 + j, none⟩ = some v := fun wr b cs h j v hj => by rw [Nat.zero_add, h.cell]; exact hj
  have HUN := Lib.hid hun; clear hun
  have HLD := Lib.hid (HUN.out _ _ _ hbx)
  have HT := Lib.hid hT; clear hT
  go_enter Tryd.func8, Tryd.ntmps8
  go_wp2_with (first
    | (refine wpList_load_at rfl 25 _ rfl w.heap.size 0 rfl _ _ HLD.out Tryd.underlying25 rfl (by kernel_rfl) ?_))
  refine (copyUnit_calls [sv, lv, gv] u _ (hu0.mono (cmap_below hb0)) hz).mono ?_
  rintro e w1 ⟨cs', rfl, hu1, hb1⟩
  have hu1' := hu1.unit.mono (part_le _ _ _)
  obtain ⟨sv1, lv1, gv1, rfl, q1, q2, q3⟩ := id hu1'
  obtain ⟨sA1, sc1, rfl, -⟩ := q1
  obtain ⟨lA1, lc1, rfl, -⟩ := q2
  obtain ⟨gA1, gc1, rfl, -⟩ := q3
  have hw1 : Below w.heap.size w w1 := hb0.trans (hb1.mono (by simp))
  have hbx1 := hbx.below hb1 hbx.lt
  clear hb1 hbx hu1
  have hw2 := hw1.alloc hw1.size (.cells #[.slice sA1 u.shared.length sc1, .slice lA1 u.locks.length lc1, .slice gA1 u.graphs.length gc1] 25)
  have hbg := Blk.new w1 25 [.slice sA1 u.shared.length sc1, .slice lA1 u.locks.length lc1, .slice gA1 u.graphs.length gc1]
  have hbx2 := hbx1.alloc (.cells #[.slice sA1 u.shared.length sc1, .slice lA1 u.locks.length lc1, .slice gA1 u.graphs.length gc1] 25)
  have hu2 := hu1'.mono (cmap_alloc w1 (.cells #[.slice sA1 u.shared.length sc1, .slice lA1 u.locks.length lc1, .slice gA1 u.graphs.length gc1] 25))
  have HLG := Lib.hid (HUN.out _ _ _ hbg)
  clear hbx1 hu1'
  go_wp2_with (first
    | (refine wpList_load_at rfl 25 _ rfl w1.heap.size 0 rfl _ _ HLG.out Tryd.underlying25 rfl (by kernel_rfl) ?_))
  refine (lheld_calls u _ t _ (HT.out.below hw2) hu2 hok).mono ?_
  intro e w3 h3
  obtain ⟨A3, n3, c3, rfl, g3, hb3⟩ := h3.one
  clear h3
  have hw3 := hw2.trans (hb3.mono hw2.size)
  have hbx3 := hbx2.below hb3 hbx2.lt
  have hbg3 := hbg.below hb3 hbg.lt
  have hu3 := hu2.mono (cmap_below hb3)
  have HLD3 := Lib.hid (HUN.out _ _ _ hbx3)
  obtain ⟨E1, hE1⟩ : ∃ E, errOf u (0 ≤ t ∧ t < u.graphs.length) = E := ⟨_, rfl⟩
  rw [hE1]
  have k3 := g3.mono (part_le _ _ _)
  clear hb3 hbx2 hbg hu2 g3
  go_wp2_with (first
    | (refine wpList_load_at rfl 25 _ rfl w.heap.size 0 rfl _ _ HLD3.out Tryd.underlying25 rfl (by kernel_rfl) ?_))
  refine (lheld2_calls u _ t _ (hu0.mono (cmap_below hw3)) hok).mono ?_
  intro e w4 h4
  obtain ⟨A4, n4, c4, rfl, g4, hb4⟩ := h4.one
  clear h4
  rw [hE1]
  clear hE1
  have hw4 := hw3.trans (hb4.mono hw3.size)
  have hbx4 := hbx3.below hb4 hbx3.lt
  have hbg4 := hbg3.below hb4 hbg3.lt
  have hu4 := hu3.mono (cmap_below hb4)
  have HLG4 := Lib.hid (HUN.out _ _ _ hbg4)
  have k4 := g4.mono (part_le _ _ _)
  have k3' := k3.mono (cmap_below hb4)
  clear hb4 hbx3 hbg3 hu3 g4 k3
  go_wp2_with (first
    | (refine wpList_load_at rfl 25 _ rfl w1.heap.size 0 rfl _ _ HLG4.out Tryd.underlying25 rfl (by kernel_rfl) ?_))
  refine (guards_calls u _ _ (HT.out.below hw4) hu4 hok).mono ?_
  intro e w5 h5
  obtain ⟨A5, n5, c5, rfl, g5, hb5⟩ := guards_one h5
  clear h5
  obtain ⟨E2, hE2⟩ : ∃ E, errOf u True = E := ⟨_, rfl⟩
  rw [hE2]
  have hw5 := hw4.trans (hb5.mono hw4.size)
  have hbx5 := hbx4.below hb5 hbx4.lt
  have hbg5 := hbg4.below hb5 hbg4.lt
  have hu5 := hu4.mono (cmap_below hb5)
  have HLD5 := Lib.hid (HUN.out _ _ _ hbx5)
  have k5 := g5.mono (part_le _ _ _)
  have k3 := k3'.mono (cmap_below hb5)
  have k4' := k4.mono (cmap_below hb5)
  clear hb5 hbx4 hbg4 hu4 g5 k3' k4
  go_wp2_with (first
    | (refine wpList_load_at rfl 25 _ rfl w.heap.size 0 rfl _ _ HLD5.out Tryd.underlying25 rfl (by kernel_rfl) ?_))
  refine (guardsu2_calls u _ _ (hu0.mono (cmap_below hw5)) hok).mono ?_
  intro e w6 h6
  obtain ⟨A6, n6, c6, rfl, g6, hb6⟩ := guards_one h6
  clear h6
  rw [hE2]
  clear hE2
  have hw6 := hw5.trans (hb6.mono hw5.size)
  have hbx6 := hbx5.below hb6 hbx5.lt
  have hbg6 := hbg5.below hb6 hbg5.lt
  have hu6 := hu5.mono (cmap_below hb6)
  have j6 := g6.mono (part_le _ _ _)
  have j3 := k3.mono (cmap_below hb6)
  have j4 := k4'.mono (cmap_below hb6)
  have j5 := k5.mono (cmap_below hb6)
  clear hb6 hbx5 hbg5 hu5 g6 k3 k4' k5
  have e1 : (E1 == E1) = true := by simp
  have e2 : (E2 == E2) = true := by simp
  generalize listsL u (0 ≤ t ∧ t < u.graphs.length) (heldsL u t.toNat) = L1 at *
  generalize listsL u True (guardsL u) = L2 at *
  go_wp2_with fail
  refine (lists_calls _ _ L1 _ j3 j4).mono ?_
  rintro e w7 ⟨rfl, k7, rfl⟩
  have m5 : Sl (Cells intsV) 1 (cmap (w6.drewN k7)) (.slice A5 n5 c5) L2 := j5
  have m6 : Sl (Cells intsV) 1 (cmap (w6.drewN k7)) (.slice A6 n6 c6) L2 := j6
  go_wp2_with fail
  refine (lists_calls _ _ L2 _ m5 m6).mono ?_
  rintro e w8 ⟨rfl, k8, rfl⟩
  have HLG8 : Hid (∀ j v, ([.slice sA1 u.shared.length sc1, .slice lA1 u.locks.length lc1, .slice gA1 u.graphs.length gc1] : List Value)[j]? = some v → (w6.drewN (k7 + k8)).cell? ⟨w1.heap.size, 0 + j, none⟩ = some v) := HUN.out w6 _ _ hbg6
  have HLD8 : Hid (∀ j v, ([sv, lv, gv] : List Value)[j]? = some v → (w6.drewN (k7 + k8)).cell? ⟨w.heap.size, 0 + j, none⟩ = some v) := HUN.out w6 _ _ hbx6
  have m8 : UnitV (cmap (w6.drewN (k7 + k8))) _ u := hu6
  have m9' := hu0.mono (cmap_below hw6)
  have m9 : UnitV (cmap (w6.drewN (k7 + k8))) [sv, lv, gv] u := m9'
  have hw8 : Below w.heap.size w (w6.drewN (k7 + k8)) := ⟨hw6.os, hw6.tape, hw6.output, hw6.size, hw6.block⟩
  go_wp2_with (first
    | (refine wpList_load_at_g (by rfl) 25 _ rfl w1.heap.size 0 rfl _ _ HLG8.out Tryd.underlying25 rfl (by kernel_rfl) ?_)
    | (refine wpList_load_at_g (by rfl) 25 _ rfl w.heap.size 0 rfl _ _ HLD8.out Tryd.underlying25 rfl (by kernel_rfl) ?_))
  refine (sameUnit_calls _ _ u _ m8 m9).mono ?_
  rintro e w9 ⟨rfl, hb9⟩
  have hw9 := hw8.trans (hb9.mono hw8.size)
  go_wp2_with fail
  refine (begins_calls _ (HT.out.below hw9)).mono ?_
  rintro e w10 ⟨rfl, hb10⟩
  go_wp2
  go_ret
  exact ⟨rfl, hw9.trans (hb10.mono hw9.size)⟩
end Go.Proofs.YtpaieopclpddnaaDoor
namespace Go.Proofs.YtpaieopclpddnaaDoor
open Go Go.RowKit Go.ChangeShapes Go.WideShapes Go.ChangeAt
namespace helds
set_option maxRecDepth 100000 in
theorem contract (H : Type) (enc : TypeId × Value → H) (W : World) (base : Nat) (args : Array Value) (ds gs : List (DataW H)) (before : List MemPlace)
    (hval : ∀ (j : Nat) t v, Tryd.f8.params[j]? = some t → args[j]? = some v → Value.okWide Tryd.prog W .any base t v)
    (hW : DataW.Whole enc Tryd.prog Tryd.f8.params.toList Rows.locksetHeldsSpec.vars false W args.toList ds gs before) (hL : laidMetH Tryd.prog Rows.locksetHeldsRow.laid W) (hwt : (DataW.weightsEach Tryd.prog (Tryd.f8.params.toList ++ (OpenSpec.ofChange Rows.locksetHeldsSpec).bare.plain.varTypes Tryd.prog) (ds ++ gs)).all (· ≤ reachBytes) = true) :
    Calls Tryd.prog 8 args W fun e W' => ∃ v, e = .returned v ∧ Rows.locksetHeldsSpec.post enc Tryd.prog Tryd.f8 false true false false W args v W' := by
  have hW' := hW
  obtain ⟨p, q, hA0, hV, rfl, hfz, hnd⟩ := hW
  have hA : DataW.TrodAll enc Tryd.prog W 0 (fun _ => true) true Tryd.f8.params.toList args.toList ds p := hA0
  have hA2 := hA
  rw [Tryd.params8] at hA hval
  obtain ⟨v0, vs0, d0, ds0, p0, q0, hargs, rfl, hp, h0, r0⟩ := trodAll_cons hA
  obtain ⟨v1, vs1, d1, ds1, p1, q1, rfl, rfl, hp1, h1, r1⟩ := trodAll_cons r0
  obtain ⟨rfl, rfl, hp9⟩ := trodAll_nil r1
  obtain rfl : args = #[v0, v1] := by cases args; simp_all
  obtain ⟨rfl, rfl⟩ := trodVars_none hV
  obtain ⟨cs, u, rfl, hu, hok, hz⟩ := open_unitz (hval 0 25 v0 rfl rfl) h0 (weights_first hwt)
  obtain ⟨n1, rfl⟩ := okWide_int Tryd.underlying3 (hval 1 3 v1 rfl rfl)
  have hlt := fun x hx => hW'.lt x hx
  simp only [List.append_nil] at hW' hlt
  have hT : Tab W := tab_of hL
  refine (locksetHelds_calls u cs n1 W hT hu hok hz).mono fun e W' ⟨he, hb⟩ => ?_
  subst he
  exact ⟨_, rfl, post_below (pa := p) (pv := []) hW' (fun _ _ _ => trodAll_cons_mk (shut_bool Tryd.underlying4 _) trodAll_mk0)
    (fun sp hsp => trodAll_stays (by intro t ht; rw [Tryd.params8] at ht; exact all_again _ (by kernel_rfl) t ht) hA2 (fun x hx => hb.same (hlt x hx)) (fun x hx => hsp x hx)) (fun _ _ => rfl) (by simp) hb (ok_one (by kernel_rfl) rfl (okWide_bool_mk Tryd.underlying4 _))⟩
theorem laid_met (os : Os) : laidMet Tryd.prog Rows.locksetHeldsRow.laid ((laidWorld os).forCall (fun _ _ => 0) ⟨#[], #[.agg #[.slice none 0 0, .slice none 0 0, .slice none 0 0], .int .i64 0], []⟩).memory :=
  laidMet_of_run' 8 (by kernel_rfl) (by kernel_rfl)
theorem reads (os : Os) {H : Type} (enc : TypeId × Value → H) : ∃ places, DataW.whole enc Tryd.prog ((laidWorld os).forCall (fun _ _ => 0) ⟨#[], #[.agg #[.slice none 0 0, .slice none 0 0, .slice none 0 0], .int .i64 0], []⟩).memory Tryd.f8.params.toList Rows.locksetHeldsSpec.vars false
    (#[.agg #[.slice none 0 0, .slice none 0 0, .slice none 0 0], .int .i64 0] : Array Value).toList 8 = some ([.agg [.nil, .nil, .nil], .lit (.int .i64 0)], [], places) :=
  ⟨[], by kernel_rfl⟩
set_option maxRecDepth 100000 in
theorem lifted (os : Os) (started : os.Started) (H : Type) (enc : TypeId × Value → H) (F : Stop.Interp) :
    ReturnsInHanded {} Tryd.checked os 8 .any ((OpenSpec.ofChange Rows.locksetHeldsSpec).preRow enc Tryd.prog Tryd.f8 Rows.locksetHeldsRow.domain false Rows.locksetHeldsRow.laid) (((OpenSpec.ofChange Rows.locksetHeldsSpec).at F).post enc Tryd.prog Tryd.f8 false true false false) := by
  obtain ⟨places, hx⟩ := reads os enc
  refine returnsInHanded_of_row (C := Tryd.checked) (s := OpenSpec.ofChange Rows.locksetHeldsSpec) own_knob started (by kernel_rfl) Tryd.func8
    (witness_row_at (enc := enc) (C := Tryd.checked) false (laidWorld os) #[.agg #[.slice none 0 0, .slice none 0 0, .slice none 0 0], .int .i64 0] rfl (by kernel_rfl) (by kernel_rfl) (by kernel_rfl)
      (OpenSpec.preRow_of_cond 8 hx (by kernel_rfl) (fun k hk => by cases hk) (by kernel_rfl) (laid_met os))) ?_
  intro W base args ds gs before hval hW _ _ hwt hL _ _
  exact contract H enc W base args ds gs before hval hW hL hwt
theorem said : Rows.LocksetHeldsSaid :=
  OpenClaim.holds_of_cond 8 Tryd.f8 rfl rfl rfl rfl rfl rfl rfl ⟨rfl, rfl, rfl, rfl, rfl⟩ rfl rfl rfl rfl rfl (by kernel_rfl) Tryd.func8 (by kernel_rfl)
    (of_decide_eq_true (by kernel_rfl)) (by unfold Func.isWrapper; first | (rw [if_pos (by decide +kernel)]; kernel_rfl) | (rw [if_neg (by decide +kernel)]; exact ⟨rfl, rfl⟩))
    (fun os started H enc _ F => by rw [OpenClaim.pre_eq_preRow]; exact lifted os started H enc F)
theorem plain (f : FuncId) (fn : Func) (hf : Tryd.pinned.checked.prog.funcNamed "stile/stilelaw10.LocksetHelds" = some f) (hfn : Tryd.pinned.checked.prog.funcs[f]? = some fn) :
    false = Tryd.pinned.checked.prog.looks [] ∧ ∀ (j : Nat) t, fn.params[j]? = some t → Tryd.pinned.checked.prog.wantsStandIn t = false := by
  obtain rfl : f = 8 := Option.some.inj ((show Tryd.prog.funcNamed "stile/stilelaw10.LocksetHelds" = some 8 by kernel_rfl).symm.trans hf) |>.symm
  obtain rfl : fn = Tryd.f8 := (Option.some.inj (Tryd.func8.symm.trans hfn)).symm
  refine ⟨by kernel_rfl, fun j t ht => ?_⟩
  rw [Tryd.params8] at ht
  have hm := Array.mem_of_getElem? ht
  simp at hm
  rcases hm with rfl | rfl
  · exact (show Tryd.prog.wantsStandIn 25 = false by kernel_rfl)
  · exact (show Tryd.prog.wantsStandIn 3 = false by kernel_rfl)
end helds
/-- THE CARD. -/
theorem locksetHelds_card : Rows.LocksetHeldsCardSaid :=
  Claim7.holds_tied_plain_at .later [] _ _ _ _ helds.said (fun _ h => by cases h) (by kernel_rfl) (fun _ h => by cases h) locksetHelds_row_tie rfl ⟨rfl, rfl⟩ (by kernel_rfl) rfl helds.plain (by kernel_rfl)
#print axioms locksetHelds_card
end Go.Proofs.YtpaieopclpddnaaDoor
