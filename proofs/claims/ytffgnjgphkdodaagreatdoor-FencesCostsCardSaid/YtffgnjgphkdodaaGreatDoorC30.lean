/- FencesCosts: whatever unit and lists of fences are given: fences.Cost tells what the document's own answer tells. -/
import Derived.Test.YtffgnjgphkdodaaGreatDoorP144
import Derived.Test.YtffgnjgphkdodaaGreatDoorP138
import Derived.Test.YtffgnjgphkdodaaGreatDoorP14
namespace Go.Proofs.YtffgnjgphkdodaaGreatDoor
open Go Go.RowKit
set_option maxRecDepth 100000 in
set_option maxHeartbeats 1000000 in
theorem fencesCosts_calls (u : Unit_) (cs : List Value) (v : Value) (L : List (List Int)) (w : World) (hT : Tab w) (hu : UnitV (cmap w) cs u) (hok : UOk u) (hL : Ints2 (cmap w) v L) :
  Calls Tryz.prog 8 #[.agg cs.toArray, v] w fun e w' => e = .returned (.bool true) ∧ Below w.heap.size w w' := by
 have HBG := Lib.hid fun w1 (h : Below w.heap.size w w1) => begins_calls w1 (hT.below h)
 have HC1 := Lib.hid fun w1 (h : Below w.heap.size w w1) => cost_calls u cs v L w1 (hu.mono (cmap_below h)) hok (hL.mono (cmap_below h))
 have HC2 := Lib.hid fun w1 (h : Below w.heap.size w w1) => rcost_calls u cs v L w1 (hu.mono (cmap_below h)) hok (hL.mono (cmap_below h))
 obtain ⟨sv, lv, gv, rfl, -, -, -⟩ := hu
 obtain ⟨lA, lc, rfl, -⟩ := id hL
 have hbx := Blk.new w 25 [sv, lv, gv]
 have hb0 := Below_alloc' w (.cells #[sv, lv, gv] 25)
 have HBX := Lib.hid (And.intro hbx hb0)
 clear hbx hb0 hT hok hL
 obtain ⟨c1, hc1⟩ : ∃ o, costR u L = o := ⟨_, rfl⟩
 obtain ⟨a, er⟩ := c1
 unfold CostPost at HC1 HC2
 simp only [hc1] at HC1 HC2
 clear hc1
 have q1 : (er == er) = true := by simp
 have q2 : (a == a) = true := by simp
 go_enter Tryz.func8, Tryz.ntmps8
 go_wp2_with (first
  | (go_at_call 39
     refine (HC1.out _ HBX.out.2).mono ?_
     rintro e w1 ⟨rfl, hb1⟩
     have hbx1 := HBX.out.1.below hb1 HBX.out.1.lt
     have x0 := hbx1.cell 0
     have x1 := hbx1.cell 1
     have x2 := hbx1.cell 2
     have H1 := Lib.hid (HBX.out.2.trans (hb1.mono HBX.out.2.size))
     clear hb1 hbx1)
  | (go_at_call 40
     refine (HC2.out _ H1.out).mono ?_
     rintro e w2 ⟨rfl, hb2⟩
     have H2 := Lib.hid (H1.out.trans (hb2.mono H1.out.size))
     clear hb2)
  | (go_at_call 38
     refine (HBG.out _ H2.out).mono ?_
     rintro e w3 ⟨rfl, hb3⟩
     have H3 := Lib.hid (H2.out.trans (hb3.mono H2.out.size))
     clear hb3))
 go_ret
 exact ⟨rfl, H3.out⟩
end Go.Proofs.YtffgnjgphkdodaaGreatDoor
namespace Go.Proofs.YtffgnjgphkdodaaGreatDoor
open Go Go.RowKit Go.ChangeShapes Go.WideShapes Go.ChangeAt
namespace fencesCosts
set_option maxRecDepth 100000 in
theorem contract (H : Type) (enc : TypeId × Value → H) (W : World) (base : Nat) (args : Array Value) (ds gs : List (DataW H)) (before : List MemPlace)
  (hval : ∀ (j : Nat) t v, Tryz.f8.params[j]? = some t → args[j]? = some v → Value.okWide Tryz.prog W .any base t v)
  (hW : DataW.Whole enc Tryz.prog Tryz.f8.params.toList Rows.fencesCostsSpec.vars false W args.toList ds gs before) (hL : laidMetH Tryz.prog Rows.fencesCostsRow.laid W) :
  Calls Tryz.prog 8 args W fun e W' => ∃ v, e = .returned v ∧ Rows.fencesCostsSpec.post enc Tryz.prog Tryz.f8 false true false false W args v W' := by
 have hW' := hW
 obtain ⟨p, q, hA0, hV, rfl, hfz, hnd⟩ := hW
 have hA : DataW.TrodAll enc Tryz.prog W 0 (fun _ => true) true Tryz.f8.params.toList args.toList ds p := hA0
 have hA2 := hA
 rw [Tryz.params8] at hA hval
 obtain ⟨v0, vs0, d0, ds0, p0, q0, hargs, rfl, hp, h0, r0⟩ := trodAll_cons hA
 obtain ⟨v1, vs1, d1, ds1, p1, q1, rfl, rfl, hp1, h1, r1⟩ := trodAll_cons r0
 obtain ⟨rfl, rfl, hp9⟩ := trodAll_nil r1
 obtain rfl : args = #[v0, v1] := by cases args; simp_all
 obtain ⟨rfl, rfl⟩ := trodVars_none hV
 obtain ⟨cs, u, rfl, hu, hok⟩ := open_unit (hval 0 25 v0 rfl rfl) h0
 obtain ⟨l1, hv1, _hi1⟩ := open_ints2_i (hval 1 27 v1 rfl rfl) h1
 have hlt := fun x hx => hW'.lt x hx
 simp only [List.append_nil] at hW' hlt
 have hT : Tab W := tab_of hL
 refine (fencesCosts_calls u cs v1 l1 W hT hu hok hv1).mono fun e W' ⟨he, hb⟩ => ?_
 subst he
 exact ⟨_, rfl, post_below (pa := p) (pv := []) hW' (fun _ _ _ => trodAll_cons_mk (shut_bool Tryz.underlying4 _) trodAll_mk0)
  (fun sp hsp => trodAll_stays (by intro t ht; rw [Tryz.params8] at ht; exact all_again _ (by kernel_rfl) t ht) hA2 (fun x hx => hb.same (hlt x hx)) (fun x hx => hsp x hx)) (fun _ _ => rfl) (by simp) hb (ok_one (by kernel_rfl) rfl (okWide_bool_mk Tryz.underlying4 _))⟩
theorem laid_met (os : Os) : laidMet Tryz.prog Rows.fencesCostsRow.laid ((laidWorld os).forCall (fun _ _ => 0) ⟨#[], #[.agg #[.slice none 0 0, .slice none 0 0, .slice none 0 0], .slice none 0 0], []⟩).memory :=
 laidMet_of_run' 8 (by kernel_rfl) (by kernel_rfl)
theorem reads (os : Os) {H : Type} (enc : TypeId × Value → H) : ∃ places, DataW.whole enc Tryz.prog ((laidWorld os).forCall (fun _ _ => 0) ⟨#[], #[.agg #[.slice none 0 0, .slice none 0 0, .slice none 0 0], .slice none 0 0], []⟩).memory Tryz.f8.params.toList Rows.fencesCostsSpec.vars false
  (#[.agg #[.slice none 0 0, .slice none 0 0, .slice none 0 0], .slice none 0 0] : Array Value).toList 8 = some ([.agg [.nil, .nil, .nil], .nil], [], places) :=
 ⟨[], by kernel_rfl⟩
set_option maxRecDepth 100000 in
theorem lifted (os : Os) (started : os.Started) (H : Type) (enc : TypeId × Value → H) (F : Stop.Interp) :
  ReturnsInHanded {} Tryz.checked os 8 .any ((OpenSpec.ofChange Rows.fencesCostsSpec).preRow enc Tryz.prog Tryz.f8 Rows.fencesCostsRow.domain false Rows.fencesCostsRow.laid) (((OpenSpec.ofChange Rows.fencesCostsSpec).at F).post enc Tryz.prog Tryz.f8 false true false false) := by
 obtain ⟨places, hx⟩ := reads os enc
 refine returnsInHanded_of_row (C := Tryz.checked) (s := OpenSpec.ofChange Rows.fencesCostsSpec) own_knob started (by kernel_rfl) Tryz.func8
  (witness_row_at (enc := enc) (C := Tryz.checked) false (laidWorld os) #[.agg #[.slice none 0 0, .slice none 0 0, .slice none 0 0], .slice none 0 0] rfl (by kernel_rfl) (by kernel_rfl) (by kernel_rfl)
   (OpenSpec.preRow_of_cond 8 hx (by kernel_rfl) (fun k hk => by cases hk) (by kernel_rfl) (laid_met os))) ?_
 intro W base args ds gs before hval hW _ _ _ hL _ _
 exact contract H enc W base args ds gs before hval hW hL
theorem said : Rows.FencesCostsSaid :=
 OpenClaim.holds_of_cond 8 Tryz.f8 rfl rfl rfl rfl rfl rfl rfl ⟨rfl, rfl, rfl, rfl, rfl⟩ rfl rfl rfl rfl rfl (by kernel_rfl) Tryz.func8 (by kernel_rfl)
  (of_decide_eq_true (by kernel_rfl)) (by unfold Func.isWrapper; first | (rw [if_pos (by decide +kernel)]; kernel_rfl) | (rw [if_neg (by decide +kernel)]; exact ⟨rfl, rfl⟩))
  (fun os started H enc _ F => by rw [OpenClaim.pre_eq_preRow]; exact lifted os started H enc F)
theorem plain (f : FuncId) (fn : Func) (hf : Tryz.pinned.checked.prog.funcNamed "stile/stilelaw12.FencesCosts" = some f) (hfn : Tryz.pinned.checked.prog.funcs[f]? = some fn) :
  true = Tryz.pinned.checked.prog.looks [] ∧ ∀ (j : Nat) t, fn.params[j]? = some t → Tryz.pinned.checked.prog.wantsStandIn t = false := by
 obtain rfl : f = 8 := Option.some.inj ((show Tryz.prog.funcNamed "stile/stilelaw12.FencesCosts" = some 8 by kernel_rfl).symm.trans hf) |>.symm
 obtain rfl : fn = Tryz.f8 := (Option.some.inj (Tryz.func8.symm.trans hfn)).symm
 refine ⟨by kernel_rfl, fun j t ht => ?_⟩
 rw [Tryz.params8] at ht
 have hm := Array.mem_of_getElem? ht
 simp at hm
 rcases hm with rfl | rfl
 ·exact (show Tryz.prog.wantsStandIn 25 = false by kernel_rfl)
 ·exact (show Tryz.prog.wantsStandIn 27 = false by kernel_rfl)
end fencesCosts
theorem fencesCosts_card : Rows.FencesCostsCardSaid :=
 Claim7.holds_tied_plain_at .later [] _ _ _ _ fencesCosts.said (fun _ h => by cases h) (by kernel_rfl) (fun _ h => by cases h) fencesCosts_row_tie rfl ⟨rfl, rfl⟩ (by kernel_rfl) rfl fencesCosts.plain (by kernel_rfl)
#print axioms fencesCosts_card
end Go.Proofs.YtffgnjgphkdodaaGreatDoor
