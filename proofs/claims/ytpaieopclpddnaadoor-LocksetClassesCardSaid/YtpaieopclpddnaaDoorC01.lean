/- LocksetClasses: whatever unit is given, lockset.Classes and the document's own Classes answer alike, and the unit reads behind the call as it read before. Conditions: the row's own; the listed table is tied to the program's text by the card. -/
import Derived.Test.YtpaieopclpddnaaDoorP14
import Derived.Test.YtpaieopclpddnaaDoorP12
import Derived.Test.YtpaieopclpddnaaDoorP15
/- The walk of the law LocksetClasses. -/
namespace Go.Proofs.YtpaieopclpddnaaDoor
open Go Go.RowKit
theorem Clss_nil (m : CM) : Clss m (.slice none 0 0) [] := ⟨none, 0, rfl, by simp, ⟨by simp [maxLen], fun _ => rfl⟩, .inl rfl⟩
set_option maxRecDepth 100000 in
set_option maxHeartbeats 2000000 in
theorem locksetClasses_calls (u : Unit_) (cs : List Value) (w : World) (hT : Tab w) (hu : UnitV (cmap w) cs u) (hok : UOk u) :
    Calls Tryd.prog 3 #[.agg cs.toArray] w fun e w' => e = .returned (.bool true) ∧ Below w.heap.size w w' := by
  have hu0 := hu
  obtain ⟨sv, lv, gv, rfl, -⟩ := hu
  have hbx := Blk.new w 25 [sv, lv, gv]
  have hb0 := Below_alloc' w (.cells #[sv, lv, gv] 25)
  have HLD : Hid (∀ j v, ([sv, lv, gv] : List Value)[j]? = some v → (w.alloc (.cells #[sv, lv, gv] 25)).cell? ⟨w.heap.size, 0 + j, none⟩ = some v) := cell_newl w _ _ _ rfl
  have HT := Lib.hid hT; clear hT
  go_enter Tryd.func3, Tryd.ntmps3
  go_wp2_with (first
    | (refine wpList_load_at rfl 25 _ rfl w.heap.size 0 rfl _ _ HLD.out Tryd.underlying25 rfl (by kernel_rfl) ?_))
  refine (classes_calls u [sv, lv, gv] _ (HT.out.below hb0) (hu0.mono (cmap_below hb0)) hok).mono ?_
  rintro e w1 (⟨hc, v1, rfl, h1, hb1⟩ | ⟨hc, rfl, hb1⟩)
  all_goals have hw1 : Below w.heap.size w w1 := hb0.trans (hb1.mono (by simp))
  all_goals have hbx1 := hbx.below hb1 hbx.lt
  all_goals have HLD1 : Hid (∀ j v, ([sv, lv, gv] : List Value)[j]? = some v → w1.cell? ⟨w.heap.size, 0 + j, none⟩ = some v) := fun j v hj => by rw [Nat.zero_add, hbx1.cell]; exact hj
  all_goals go_wp2_with (first
    | (refine wpList_load_at rfl 25 _ rfl w.heap.size 0 rfl _ _ HLD1.out Tryd.underlying25 rfl (by kernel_rfl) ?_))
  all_goals refine (classes2_calls u [sv, lv, gv] _ (hu0.mono (cmap_below hw1)) hok).mono ?_
  · rintro e w2 (⟨-, v2, rfl, h2, hb2⟩ | ⟨hc2, -⟩)
    · have hw2 : Below w.heap.size w w2 := hw1.trans (hb2.mono hw1.size)
      have g1 : Clss (cmap w2) v1 _ := h1.mono ((part_le _ _ _).trans (cmap_below hb2))
      have g2 : Clss (cmap w2) v2 _ := h2.mono (part_le _ _ _)
      have HC := Lib.hid hc; clear hc
      clear h1 h2
      go_wp2_with fail
      refine (sameClasses_calls v1 v2 _ _ _ g1 g2).mono ?_
      rintro e w3 ⟨rfl, n3, rfl⟩
      rw [decide_eq_true rfl]
      have hT3 : Tab (w2.drewN n3) := HT.out.below ⟨hw2.os, hw2.tape, hw2.output, hw2.size, hw2.block⟩
      have HT3 := Lib.hid hT3; clear hT3
      go_wp2_with (go_at_call 14; refine (begins_calls _ HT3.out).mono ?_; rintro e w4 ⟨rfl, hb4⟩)
      go_ret
      exact ⟨rfl, hw2.trans (Below.mono (B := w2.heap.size) ⟨hb4.os, hb4.tape, hb4.output, hb4.size, hb4.block⟩ hw2.size)⟩
    · exact (hc2 hc).elim
  · rintro e w2 (⟨hc2, -⟩ | ⟨-, rfl, hb2⟩)
    · exact (hc hc2).elim
    · have hw2 : Below w.heap.size w w2 := hw1.trans (hb2.mono hw1.size)
      have HC := Lib.hid hc; clear hc
      go_wp2_with fail
      refine (sameClasses_calls (.slice none 0 0) (.slice none 0 0) [] [] _ (Clss_nil _) (Clss_nil _)).mono ?_
      rintro e w3 ⟨rfl, n3, rfl⟩
      rw [decide_eq_true rfl]
      have hT3 : Tab (w2.drewN n3) := HT.out.below ⟨hw2.os, hw2.tape, hw2.output, hw2.size, hw2.block⟩
      have HT3 := Lib.hid hT3; clear hT3
      go_wp2_with (go_at_call 14; refine (begins_calls _ HT3.out).mono ?_; rintro e w4 ⟨rfl, hb4⟩)
      go_ret
      exact ⟨rfl, hw2.trans (Below.mono (B := w2.heap.size) ⟨hb4.os, hb4.tape, hb4.output, hb4.size, hb4.block⟩ hw2.size)⟩
end Go.Proofs.YtpaieopclpddnaaDoor
namespace Go.Proofs.YtpaieopclpddnaaDoor
open Go Go.RowKit Go.ChangeShapes Go.WideShapes Go.ChangeAt
namespace classes
set_option maxRecDepth 100000 in
theorem contract (H : Type) (enc : TypeId × Value → H) (W : World) (base : Nat) (args : Array Value) (ds gs : List (DataW H)) (before : List MemPlace)
    (hval : ∀ (j : Nat) t v, Tryd.f3.params[j]? = some t → args[j]? = some v → Value.okWide Tryd.prog W .any base t v)
    (hW : DataW.Whole enc Tryd.prog Tryd.f3.params.toList Rows.locksetClassesSpec.vars false W args.toList ds gs before) (hL : laidMetH Tryd.prog Rows.locksetClassesRow.laid W) :
    Calls Tryd.prog 3 args W fun e W' => ∃ v, e = .returned v ∧ Rows.locksetClassesSpec.post enc Tryd.prog Tryd.f3 false true false false W args v W' := by
  have hW' := hW
  obtain ⟨p, q, hA0, hV, rfl, hfz, hnd⟩ := hW
  have hA : DataW.TrodAll enc Tryd.prog W 0 (fun _ => true) true Tryd.f3.params.toList args.toList ds p := hA0
  rw [Tryd.params3] at hA hval
  obtain ⟨v0, vs0, d0, ds0, p0, q0, hargs, rfl, rfl, h0, r0⟩ := trodAll_cons hA
  obtain ⟨rfl, rfl, rfl⟩ := trodAll_nil r0
  obtain rfl : args = #[v0] := by cases args; simp_all
  obtain ⟨rfl, rfl⟩ := trodVars_none hV
  obtain ⟨cs, u, rfl, hu, hok⟩ := open_unit (hval 0 25 v0 rfl rfl) h0
  clear hA0
  have hlt := fun x hx => hW'.lt x hx
  simp only [List.append_nil] at hW' hlt
  have hT : Tab W := tab_of hL
  refine (locksetClasses_calls u cs W hT hu hok).mono fun e W' ⟨he, hb⟩ => ?_
  subst he
  exact ⟨_, rfl, post_below (pa := p0) (pv := []) hW' (fun _ _ _ => trodAll_cons_mk (shut_bool Tryd.underlying4 _) trodAll_mk0)
    (fun sp hsp => by
      have := trodAll_cons_mk (WideElems.Trod_stays laid_out (by kernel_rfl) (of_decide_eq_true (by kernel_rfl)) h0 (fun x hx => hb.same (hlt x hx)) (fun x hx => hsp x hx)) trodAll_mk0
      have h2 : DataW.TrodAll enc Tryd.prog W' 0 sp true [25] [Value.agg cs.toArray] [d0] p0 := by simpa using this
      exact h2) (fun _ _ => rfl) (by simp) hb (ok_one (by kernel_rfl) rfl (okWide_bool_mk Tryd.underlying4 _))⟩
theorem laid_met (os : Os) : laidMet Tryd.prog Rows.locksetClassesRow.laid ((laidWorld os).forCall (fun _ _ => 0) ⟨#[], #[.agg #[.slice none 0 0, .slice none 0 0, .slice none 0 0]], []⟩).memory :=
  laidMet_of_run' 8 (by kernel_rfl) (by kernel_rfl)
theorem reads (os : Os) {H : Type} (enc : TypeId × Value → H) : ∃ places, DataW.whole enc Tryd.prog ((laidWorld os).forCall (fun _ _ => 0) ⟨#[], #[.agg #[.slice none 0 0, .slice none 0 0, .slice none 0 0]], []⟩).memory Tryd.f3.params.toList Rows.locksetClassesSpec.vars false
    #[Value.agg #[.slice none 0 0, .slice none 0 0, .slice none 0 0]].toList 8 = some ([.agg [.nil, .nil, .nil]], [], places) :=
  ⟨[], by kernel_rfl⟩
set_option maxRecDepth 100000 in
theorem lifted (os : Os) (started : os.Started) (H : Type) (enc : TypeId × Value → H) (F : Stop.Interp) :
    ReturnsInHanded {} Tryd.checked os 3 .any ((OpenSpec.ofChange Rows.locksetClassesSpec).preRow enc Tryd.prog Tryd.f3 Rows.locksetClassesRow.domain false Rows.locksetClassesRow.laid) (((OpenSpec.ofChange Rows.locksetClassesSpec).at F).post enc Tryd.prog Tryd.f3 false true false false) := by
  obtain ⟨places, hx⟩ := reads os enc
  refine returnsInHanded_of_row (C := Tryd.checked) (s := OpenSpec.ofChange Rows.locksetClassesSpec) own_knob started (by kernel_rfl) Tryd.func3
    (witness_row_at (enc := enc) (C := Tryd.checked) false (laidWorld os) #[.agg #[.slice none 0 0, .slice none 0 0, .slice none 0 0]] rfl (by kernel_rfl) (by kernel_rfl) (by kernel_rfl)
      (OpenSpec.preRow_of_cond 8 hx (by kernel_rfl) (fun k hk => by cases hk) (by kernel_rfl) (laid_met os))) ?_
  intro W base args ds gs before hval hW _ _ _ hL _ _
  exact contract H enc W base args ds gs before hval hW hL
theorem said : Rows.LocksetClassesSaid :=
  OpenClaim.holds_of_cond 3 Tryd.f3 rfl rfl rfl rfl rfl rfl rfl ⟨rfl, rfl, rfl, rfl, rfl⟩ rfl rfl rfl rfl rfl (by kernel_rfl) Tryd.func3 (by kernel_rfl)
    (of_decide_eq_true (by kernel_rfl)) (by unfold Func.isWrapper; first | (rw [if_pos (by decide +kernel)]; kernel_rfl) | (rw [if_neg (by decide +kernel)]; exact ⟨rfl, rfl⟩))
    (fun os started H enc _ F => by rw [OpenClaim.pre_eq_preRow]; exact lifted os started H enc F)
theorem plain (f : FuncId) (fn : Func) (hf : Tryd.pinned.checked.prog.funcNamed "stile/stilelaw10.LocksetClasses" = some f) (hfn : Tryd.pinned.checked.prog.funcs[f]? = some fn) :
    false = Tryd.pinned.checked.prog.looks [] ∧ ∀ (j : Nat) t, fn.params[j]? = some t → Tryd.pinned.checked.prog.wantsStandIn t = false := by
  obtain rfl : f = 3 := Option.some.inj ((show Tryd.prog.funcNamed "stile/stilelaw10.LocksetClasses" = some 3 by kernel_rfl).symm.trans hf) |>.symm
  obtain rfl : fn = Tryd.f3 := (Option.some.inj (Tryd.func3.symm.trans hfn)).symm
  refine ⟨by kernel_rfl, fun j t ht => ?_⟩
  rw [Tryd.params3] at ht
  obtain rfl : t = 25 := by simpa using Array.mem_of_getElem? ht
  exact (show Tryd.prog.wantsStandIn 25 = false by kernel_rfl)
end classes
/-- THE CARD. -/
theorem locksetClasses_card : Rows.LocksetClassesCardSaid :=
  Claim7.holds_tied_plain_at .later [] _ _ _ _ classes.said (fun _ h => by cases h) (by kernel_rfl) (fun _ h => by cases h) locksetClasses_row_tie rfl ⟨rfl, rfl⟩ (by kernel_rfl) rfl classes.plain (by kernel_rfl)
#print axioms locksetClasses_card
end Go.Proofs.YtpaieopclpddnaaDoor
