/- LocksetFewer: whatever unit and thread are given, with that thread's nodes taken away no class grows, and no variable is private to it. Conditions: the row's own; the listed table is tied to the program's text by the card. -/
import Derived.Test.YtpaieopclpddnaaDoorP14
import Derived.Test.YtpaieopclpddnaaDoorP23
import Derived.Test.YtpaieopclpddnaaDoorP22
import Derived.Test.YtpaieopclpddnaaDoorP24
/- The walk of the law LocksetFewer. -/
namespace Go.Proofs.YtpaieopclpddnaaDoor
open Go Go.RowKit
theorem endN_ok : endN.ok := nd_ok 9 0 0 (by decide) (by decide) (by decide)
theorem cut_nums {u : Unit_} {t : Nat} {g : Graph} (h : UOk u) : UOk (cutU u t g) := by
  intro g' hg' n hn
  unfold cutU at hg'
  dsimp only at hg'
  rcases List.mem_or_eq_of_mem_set hg' with h1 | h1
  · exact h g' h1 n hn
  · subst h1
    unfold Graph.end_ at hn
    rw [List.mem_singleton] at hn
    subst hn
    exact endN_ok
set_option maxRecDepth 100000 in
set_option maxHeartbeats 4000000 in
theorem locksetFewer_calls (u : Unit_) (cs : List Value) (t : Int) (w : World) (hT : Tab w) (hu : UnitV (cmap w) cs u) (hok : UOk u) (hz : USz u) :
    Calls Tryd.prog 4 #[.agg cs.toArray, .int .i64 t] w fun e w' => e = .returned (.bool true) ∧ Below w.heap.size w w' := by
  have hu0 := hu
  obtain ⟨sv, lv, gv, rfl, -, -, hg⟩ := hu
  obtain ⟨gA, gc, rfl, -⟩ := id hg
  clear hg
  have hbx := Blk.new w 25 [sv, lv, .slice gA u.graphs.length gc]
  have hb0 := Below_alloc' w (.cells #[sv, lv, .slice gA u.graphs.length gc] 25)
  have hun : ∀ wr b (cs : List Value), Blk wr b 25 cs → ∀ j v, cs[j]? = some v → wr.cell? ⟨b, 0 + j, none⟩ = some v := fun wr b cs h j v hj => by rw [Nat.zero_add, h.cell]; exact hj
  have HUN := Lib.hid hun; clear hun
  have HT := Lib.hid hT; clear hT
  go_enter Tryd.func4, Tryd.ntmps4
  go_wp2_with fail
  refine (begins_calls _ (HT.out.below hb0)).mono ?_
  rintro e w1 ⟨rfl, hb1⟩
  have hw1 : Below w.heap.size w w1 := hb0.trans (hb1.mono (by simp))
  have hbx1 := hbx.below hb1 hbx.lt
  have HLD1 := Lib.hid (HUN.out _ _ _ hbx1)
  clear hb1 hbx
  go_wp2_with (first
    | (refine wpList_load_at rfl 25 _ rfl w.heap.size 0 rfl _ _ HLD1.out Tryd.underlying25 rfl (by kernel_rfl) ?_))
  refine (classes_calls u _ _ (HT.out.below hw1) (hu0.mono (cmap_below hw1)) hok).mono ?_
  rintro e w2 (⟨hck, v2, rfl, k2, hb2⟩ | ⟨-, rfl, hb2⟩)
  · have HCK := Lib.hid hck; clear hck
    have hw2 : Below w.heap.size w w2 := hw1.trans (hb2.mono hw1.size)
    have hbx2 := hbx1.below hb2 hbx1.lt
    have HLD2 := Lib.hid (HUN.out _ _ _ hbx2)
    have c2 := hbx2.cell 2
    have k2' := k2.mono (part_le _ _ _)
    obtain ⟨cA, cc, rfl, -⟩ := id k2'
    simp only [List.length_map, List.length_range] at k2' ⊢
    clear k2 hb2 hbx1
    by_cases ht : 0 ≤ t ∧ t < u.graphs.length
    · obtain ⟨k, rfl⟩ : ∃ n : Nat, t = n := ⟨t.toNat, by omega⟩
      have hk : k < u.graphs.length := by omega
      have hk0 : (0 : Int) ≤ k := by omega
      have hk1 : (k : Int) < u.graphs.length := by omega
      have d1 : decide ((k : Int) < 0) = false := by simp
      have d2 : decide ((u.graphs.length : Int) ≤ (k : Int)) = false := by simp; omega
      clear ht
      obtain ⟨g, hg⟩ : ∃ g, u.graphs[k]? = some g := ⟨_, List.getElem?_eq_getElem hk⟩
      have HG := Lib.hid hg; clear hg
      go_wp2_with (first
        | (refine wpList_load_at rfl 25 _ rfl w.heap.size 0 rfl _ _ HLD2.out Tryd.underlying25 rfl (by kernel_rfl) ?_))
      refine (copyUnit_calls _ u _ (hu0.mono (cmap_below hw2)) hz).mono ?_
      rintro e w3 ⟨cs', rfl, hu3, hb3⟩
      obtain ⟨sv1, lv1, gv1, rfl, q1, q2, -⟩ := hu3.unit
      obtain ⟨sA1, sc1, rfl, -⟩ := q1
      obtain ⟨lA1, lc1, rfl, -⟩ := q2
      have hw3 : Below w.heap.size w w3 := hw2.trans (hb3.mono hw2.size)
      obtain ⟨W, hW⟩ : ∃ W, (w3.alloc (.cells #[.slice sA1 u.shared.length sc1, .slice lA1 u.locks.length lc1, gv1] 25)).alloc (.cells endN.cells.toArray 39) = W := ⟨_, rfl⟩
      have hbW : Below w3.heap.size w3 W := by rw [← hW]; exact (Below_alloc' _ _).alloc (by simp) _
      have hnW : Blk W (w3.heap.size + 1) 39 endN.cells := by rw [← hW]; exact Blk.of (heap_new _ _ _ (by simp)) rfl
      have hvW : Blk W w3.heap.size 25 [.slice sA1 u.shared.length sc1, .slice lA1 u.locks.length lc1, gv1] := by rw [← hW]; exact (Blk.new _ _ _).alloc _
      obtain ⟨gb, gc1, rfl, hgb1, hgb2, ⟨x, hx⟩, hfz, huc⟩ := hu3.cut HG.out hbW (by omega) hnW
      have hvc := hvW.cell 2
      have hx3 : w3.cell? ⟨gb, k * 4 + 3, none⟩ = some x := by rw [← World.cell?_of_block (hbW.block gb hgb2)]; exact hx
      have hf3 : w3.frozen? ⟨gb, k * 4 + 3, none⟩ = false := by rw [← World.frozen?_of_block (hbW.block gb hgb2)]; exact hfz
      have hWs : W.setCell ⟨gb, k * 4 + 3, none⟩ (.slice (some ⟨w3.heap.size + 1, 0, none⟩) 1 1) = ((w3.setCell ⟨gb, k * 4 + 3, none⟩ (.slice (some ⟨w3.heap.size + 1, 0, none⟩) 1 1)).alloc (.cells #[.slice sA1 u.shared.length sc1, .slice lA1 u.locks.length lc1, .slice (some ⟨gb, 0, none⟩) u.graphs.length gc1] 25)).alloc (.cells endN.cells.toArray 39) := by
        rw [← hW, World.setCell_alloc_past _ _ _ _ (by simp; omega), World.setCell_alloc_past _ _ _ _ hgb2]
      have hvf : Blk (W.setCell ⟨gb, k * 4 + 3, none⟩ (.slice (some ⟨w3.heap.size + 1, 0, none⟩) 1 1)) w3.heap.size 25 [.slice sA1 u.shared.length sc1, .slice lA1 u.locks.length lc1, .slice (some ⟨gb, 0, none⟩) u.graphs.length gc1] := hvW.far (by simp; omega) _
      have hbf : Below w.heap.size w (W.setCell ⟨gb, k * 4 + 3, none⟩ (.slice (some ⟨w3.heap.size + 1, 0, none⟩) 1 1)) := (hw3.trans (hbW.mono hw3.size)).setCell (by have := hw2.size; simp; omega) _
      have hcf : (cmap w2).le (cmap (W.setCell ⟨gb, k * 4 + 3, none⟩ (.slice (some ⟨w3.heap.size + 1, 0, none⟩) 1 1))) := cmap_below ((hb3.trans (hbW.mono hb3.size)).setCell hgb1 _)
      have HLD3 : Hid (∀ j v, ([.slice sA1 u.shared.length sc1, .slice lA1 u.locks.length lc1, .slice (some ⟨gb, 0, none⟩) u.graphs.length gc1] : List Value)[j]? = some v → (((w3.setCell ⟨gb, k * 4 + 3, none⟩ (.slice (some ⟨w3.heap.size + 1, 0, none⟩) 1 1)).alloc (.cells #[.slice sA1 u.shared.length sc1, .slice lA1 u.locks.length lc1, .slice (some ⟨gb, 0, none⟩) u.graphs.length gc1] 25)).alloc (.cells endN.cells.toArray 39)).cell? ⟨w3.heap.size, 0 + j, none⟩ = some v) := by
        rw [← hWs]; exact HUN.out _ _ _ hvf
      have hWs2 : W.setCell ⟨gb, k * 4 + 3, none⟩ (.slice (some ⟨w3.heap.size + 1, 0, none⟩) 1 1) = ((w3.setCell ⟨gb, k * 4 + 3, none⟩ (.slice (some ⟨w3.heap.size + 1, 0, none⟩) 1 1)).alloc (.cells #[.slice sA1 u.shared.length sc1, .slice lA1 u.locks.length lc1, .slice (some ⟨gb, 0, none⟩) u.graphs.length gc1] 25)).alloc (.cells #[.int .u8 9, .int .u8 0, .int .i64 0, .int .i64 0, .bool false, .int .i64 0, .int .i64 0, .bool false, .int .i64 0, .int .i64 0, .int .i64 0, .int .i64 0, .int .i64 0] 39) := hWs
      have HWS := Lib.hid hWs2; clear hWs hWs2
      clear hx hfz hvW hnW hbW hW hb3 hu3
      go_wp2_with (first
        | (refine wpList_load_at rfl 25 _ rfl w3.heap.size 0 rfl _ _ HLD3.out Tryd.underlying25 rfl (by kernel_rfl) ?_))
      rw [← HWS.out]
      clear HWS HLD3 hx3 hf3
      generalize W.setCell ⟨gb, k * 4 + 3, none⟩ (.slice (some ⟨w3.heap.size + 1, 0, none⟩) 1 1) = W2 at *
      have hokc : UOk (cutU u k g) := cut_nums hok
      refine (classes_calls (cutU u k g) _ W2 (HT.out.below hbf) huc hokc).mono ?_
      rintro e w5 (⟨-, v5, rfl, k5, hb5⟩ | ⟨hck2, -⟩)
      rotate_left
      · exact absurd (cut_ok HG.out HCK.out) hck2
      have hw5 := hbf.trans (hb5.mono hbf.size)
      have k5' := k5.mono (part_le _ _ _)
      have k2 := k2'.mono (hcf.trans (cmap_below hb5))
      obtain ⟨dA, dc, rfl, -⟩ := id k5'
      have hlc : (cutU u k g).shared.length = u.shared.length := rfl
      rw [hlc] at k5' ⊢
      simp only [List.length_map, List.length_range] at k5' ⊢
      clear k5 hb5 k2' hlc huc
      have e9 : ((u.shared.length : Int) != (u.shared.length : Int)) = false := by simp
      have hn64 : u.shared.length ≤ 64 := (checkF_none HCK.out).shared
      go_wp2
      go_loopw [10] (fun v10 wr => ∃ (i n : Nat), v10 = .int .i64 i ∧ i ≤ u.shared.length ∧ wr = w5.drewN n) (fun v10 _ => u.shared.length - (intOf v10).toNat)
      case atStart => exact ⟨0, 0, rfl, by omega, rfl⟩
      case round =>
        obtain ⟨i, n, rfl, hi, rfl⟩ := hrel
        by_cases hlt : i < u.shared.length
        · have ca : ((List.range u.shared.length).map fun x : Nat => classF u (x : Int))[i]? = some (classF u i) := by rw [List.getElem?_map, List.getElem?_range hlt]; rfl
          have cb : ((List.range u.shared.length).map fun x : Nat => classF (cutU u k g) (x : Int))[i]? = some (classF (cutU u k g) i) := by rw [List.getElem?_map, List.getElem?_range hlt]; rfl
          obtain ⟨ab, ao, rfl, _, rfl, ah⟩ := k2.at_ ca
          obtain ⟨bb, bo, rfl, _, rfl, bh⟩ := k5'.at_ cb
          have hcc := class_cut HG.out (i : Int)
          have a0 : w5.cell? ⟨ab, ao + i * 3, none⟩ = some (.int .u8 (classF u i).kind) := ah 0 _ rfl
          have b0 : w5.cell? ⟨bb, bo + i * 3, none⟩ = some (.int .u8 (classF (cutU u k g) i).kind) := bh 0 _ rfl
          have b1 : w5.cell? ⟨bb, bo + i * 3 + 1, none⟩ = some (.int .i64 (classF (cutU u k g) i).thread) := bh 1 _ rfl
          generalize (classF u (i : Int)).kind = ka at *
          generalize (classF (cutU u k g) (i : Int)).kind = kb at *
          generalize (classF (cutU u k g) (i : Int)).thread = tb at *
          obtain ⟨h1, h2, h3, h4⟩ := hcc
          have f1 : decide (ka < kb) = false := by simp; omega
          have hi0 : (0 : Int) ≤ i := by omega
          have hil : (i : Int) < u.shared.length := by omega
          clear ah bh ca cb
          by_cases hk1 : kb = 1
          · have f2 : (kb == 1) = true := by simp [hk1]
            have f3 : (tb == (k : Int)) = false := by
              rw [beq_eq_false_iff_ne]
              exact fun e => h2 ⟨hk1, e⟩
            clear h2 hk1
            go_wp2
            go_quiet (fail)
            go_wp2
            go_roundw
            case rel => exact ⟨i + 1, _, by go_num, by omega, rfl⟩
            case measure => simp [intOf]; omega
          · have f2 : (kb == 1) = false := by simp [hk1]
            clear h2 hk1
            go_wp2
            go_quiet (fail)
            go_wp2
            go_roundw
            case rel => exact ⟨i + 1, _, by go_num, by omega, rfl⟩
            case measure => simp [intOf]; omega
        · go_wp2
          go_ret
          exact ⟨rfl, ⟨hw5.os, hw5.tape, hw5.output, hw5.size, hw5.block⟩⟩
    · have hs : t < 0 ∨ (0 ≤ t ∧ (u.graphs.length : Int) ≤ t) := by omega
      clear ht
      rcases hs with h | ⟨h, h'⟩
      · have d3 : decide (t < 0) = true := by simp; omega
        clear h
        go_wp2
        go_ret
        exact ⟨rfl, hw2⟩
      · have d3 : decide (t < 0) = false := by simp; omega
        have d4 : decide ((u.graphs.length : Int) ≤ t) = true := by simp; omega
        clear h h'
        go_wp2
        go_ret
        exact ⟨rfl, hw2⟩
  · have hw2 : Below w.heap.size w w2 := hw1.trans (hb2.mono hw1.size)
    go_wp2
    go_ret
    exact ⟨rfl, hw2⟩
end Go.Proofs.YtpaieopclpddnaaDoor
namespace Go.Proofs.YtpaieopclpddnaaDoor
open Go Go.RowKit Go.ChangeShapes Go.WideShapes Go.ChangeAt
namespace fewer
set_option maxRecDepth 100000 in
theorem contract (H : Type) (enc : TypeId × Value → H) (W : World) (base : Nat) (args : Array Value) (ds gs : List (DataW H)) (before : List MemPlace)
    (hval : ∀ (j : Nat) t v, Tryd.f4.params[j]? = some t → args[j]? = some v → Value.okWide Tryd.prog W .any base t v)
    (hW : DataW.Whole enc Tryd.prog Tryd.f4.params.toList Rows.locksetFewerSpec.vars false W args.toList ds gs before) (hL : laidMetH Tryd.prog Rows.locksetFewerRow.laid W) (hwt : (DataW.weightsEach Tryd.prog (Tryd.f4.params.toList ++ (OpenSpec.ofChange Rows.locksetFewerSpec).bare.plain.varTypes Tryd.prog) (ds ++ gs)).all (· ≤ reachBytes) = true) :
    Calls Tryd.prog 4 args W fun e W' => ∃ v, e = .returned v ∧ Rows.locksetFewerSpec.post enc Tryd.prog Tryd.f4 false true false false W args v W' := by
  have hW' := hW
  obtain ⟨p, q, hA0, hV, rfl, hfz, hnd⟩ := hW
  have hA : DataW.TrodAll enc Tryd.prog W 0 (fun _ => true) true Tryd.f4.params.toList args.toList ds p := hA0
  have hA2 := hA
  rw [Tryd.params4] at hA hval
  obtain ⟨v0, vs0, d0, ds0, p0, q0, hargs, rfl, hp, h0, r0⟩ := trodAll_cons hA
  obtain ⟨v1, vs1, d1, ds1, p1, q1, rfl, rfl, hp1, h1, r1⟩ := trodAll_cons r0
  obtain ⟨rfl, rfl, hp9⟩ := trodAll_nil r1
  obtain rfl : args = #[v0, v1] := by cases args; simp_all
  obtain ⟨rfl, rfl⟩ := trodVars_none hV
  obtain ⟨cs, u, rfl, hu, hok, hz⟩ := open_unitz (hval 0 25 v0 rfl rfl) h0 (weights_first hwt)
  obtain ⟨n1, rfl⟩ := okWide_int Tryd.underlying3 (hval 1 3 v1 rfl rfl)
  have hlt := fun x hx => hW'.lt x hx
  simp only [List.append_nil] at hW' hlt
  have hT : Tab W := tab_of hL
  refine (locksetFewer_calls u cs n1 W hT hu hok hz).mono fun e W' ⟨he, hb⟩ => ?_
  subst he
  exact ⟨_, rfl, post_below (pa := p) (pv := []) hW' (fun _ _ _ => trodAll_cons_mk (shut_bool Tryd.underlying4 _) trodAll_mk0)
    (fun sp hsp => trodAll_stays (by intro t ht; rw [Tryd.params4] at ht; exact all_again _ (by kernel_rfl) t ht) hA2 (fun x hx => hb.same (hlt x hx)) (fun x hx => hsp x hx)) (fun _ _ => rfl) (by simp) hb (ok_one (by kernel_rfl) rfl (okWide_bool_mk Tryd.underlying4 _))⟩
theorem laid_met (os : Os) : laidMet Tryd.prog Rows.locksetFewerRow.laid ((laidWorld os).forCall (fun _ _ => 0) ⟨#[], #[.agg #[.slice none 0 0, .slice none 0 0, .slice none 0 0], .int .i64 0], []⟩).memory :=
  laidMet_of_run' 8 (by kernel_rfl) (by kernel_rfl)
theorem reads (os : Os) {H : Type} (enc : TypeId × Value → H) : ∃ places, DataW.whole enc Tryd.prog ((laidWorld os).forCall (fun _ _ => 0) ⟨#[], #[.agg #[.slice none 0 0, .slice none 0 0, .slice none 0 0], .int .i64 0], []⟩).memory Tryd.f4.params.toList Rows.locksetFewerSpec.vars false
    (#[.agg #[.slice none 0 0, .slice none 0 0, .slice none 0 0], .int .i64 0] : Array Value).toList 8 = some ([.agg [.nil, .nil, .nil], .lit (.int .i64 0)], [], places) :=
  ⟨[], by kernel_rfl⟩
set_option maxRecDepth 100000 in
theorem lifted (os : Os) (started : os.Started) (H : Type) (enc : TypeId × Value → H) (F : Stop.Interp) :
    ReturnsInHanded {} Tryd.checked os 4 .any ((OpenSpec.ofChange Rows.locksetFewerSpec).preRow enc Tryd.prog Tryd.f4 Rows.locksetFewerRow.domain false Rows.locksetFewerRow.laid) (((OpenSpec.ofChange Rows.locksetFewerSpec).at F).post enc Tryd.prog Tryd.f4 false true false false) := by
  obtain ⟨places, hx⟩ := reads os enc
  refine returnsInHanded_of_row (C := Tryd.checked) (s := OpenSpec.ofChange Rows.locksetFewerSpec) own_knob started (by kernel_rfl) Tryd.func4
    (witness_row_at (enc := enc) (C := Tryd.checked) false (laidWorld os) #[.agg #[.slice none 0 0, .slice none 0 0, .slice none 0 0], .int .i64 0] rfl (by kernel_rfl) (by kernel_rfl) (by kernel_rfl)
      (OpenSpec.preRow_of_cond 8 hx (by kernel_rfl) (fun k hk => by cases hk) (by kernel_rfl) (laid_met os))) ?_
  intro W base args ds gs before hval hW _ _ hwt hL _ _
  exact contract H enc W base args ds gs before hval hW hL hwt
theorem said : Rows.LocksetFewerSaid :=
  OpenClaim.holds_of_cond 4 Tryd.f4 rfl rfl rfl rfl rfl rfl rfl ⟨rfl, rfl, rfl, rfl, rfl⟩ rfl rfl rfl rfl rfl (by kernel_rfl) Tryd.func4 (by kernel_rfl)
    (of_decide_eq_true (by kernel_rfl)) (by unfold Func.isWrapper; first | (rw [if_pos (by decide +kernel)]; kernel_rfl) | (rw [if_neg (by decide +kernel)]; exact ⟨rfl, rfl⟩))
    (fun os started H enc _ F => by rw [OpenClaim.pre_eq_preRow]; exact lifted os started H enc F)
theorem plain (f : FuncId) (fn : Func) (hf : Tryd.pinned.checked.prog.funcNamed "stile/stilelaw10.LocksetFewer" = some f) (hfn : Tryd.pinned.checked.prog.funcs[f]? = some fn) :
    false = Tryd.pinned.checked.prog.looks [] ∧ ∀ (j : Nat) t, fn.params[j]? = some t → Tryd.pinned.checked.prog.wantsStandIn t = false := by
  obtain rfl : f = 4 := Option.some.inj ((show Tryd.prog.funcNamed "stile/stilelaw10.LocksetFewer" = some 4 by kernel_rfl).symm.trans hf) |>.symm
  obtain rfl : fn = Tryd.f4 := (Option.some.inj (Tryd.func4.symm.trans hfn)).symm
  refine ⟨by kernel_rfl, fun j t ht => ?_⟩
  rw [Tryd.params4] at ht
  have hm := Array.mem_of_getElem? ht
  simp at hm
  rcases hm with rfl | rfl
  · exact (show Tryd.prog.wantsStandIn 25 = false by kernel_rfl)
  · exact (show Tryd.prog.wantsStandIn 3 = false by kernel_rfl)
end fewer
/-- THE CARD. -/
theorem locksetFewer_card : Rows.LocksetFewerCardSaid :=
  Claim7.holds_tied_plain_at .later [] _ _ _ _ fewer.said (fun _ h => by cases h) (by kernel_rfl) (fun _ h => by cases h) locksetFewer_row_tie rfl ⟨rfl, rfl⟩ (by kernel_rfl) rfl fewer.plain (by kernel_rfl)
#print axioms locksetFewer_card
end Go.Proofs.YtpaieopclpddnaaDoor
