/- LocksetNoRace: whatever unit is given, a variable of a race is racy, and the class of a variable names its one owner. Conditions: the row's own; the listed table is tied to the program's text by the card. -/
import Derived.Test.YtpaieopclpddnaaDoorP14
import Derived.Test.YtpaieopclpddnaaDoorP32
import Derived.Test.YtpaieopclpddnaaDoorP30
import Derived.Test.YtpaieopclpddnaaDoorP12
import Derived.Test.YtpaieopclpddnaaDoorP17
/- The walk of the law LocksetNoRace. -/
namespace Go.Proofs.YtpaieopclpddnaaDoor
open Go Go.RowKit
theorem races_one {u : Unit_} {w w' : World} {e : Ending} (h : (checkF u = none ∧ ∃ v, e = .returned (.tuple #[v, .int .i64 0]) ∧ Sl (Cells RaceV) 4 (part w' w.heap.size w'.heap.size) v (raceA u) ∧ Below w.heap.size w w') ∨
      (∃ k : Int, k ≠ 0 ∧ e = .returned (.tuple #[.slice none 0 0, .int .i64 k]) ∧ Below w.heap.size w w')) :
    ∃ (A : Option Addr) (c : Nat) (k : Int) (L : List (Rc u)), e = .returned (.tuple #[.slice A L.length c, .int .i64 k]) ∧ Sl (Cells RaceV) 4 (cmap w') (.slice A L.length c) L ∧ (∀ p ∈ L, p ∈ raceA u) ∧ (k = 0 ∨ L = []) ∧ Below w.heap.size w w' := by
  rcases h with ⟨h1, v, rfl, h3, h4⟩ | ⟨k, _, rfl, h4⟩
  · obtain ⟨A, c, rfl, _⟩ := id h3
    exact ⟨A, c, 0, raceA u, rfl, h3.mono (part_le _ _ _), fun _ h => h, .inl rfl, h4⟩
  · exact ⟨none, 0, k, [], rfl, ⟨none, 0, rfl, by simp, ⟨by simp [maxLen], fun _ => rfl⟩, .inl rfl⟩, fun _ h => (by cases h), .inr rfl, h4⟩
set_option maxRecDepth 100000 in
set_option maxHeartbeats 8000000 in
theorem locksetNoRace_calls (u : Unit_) (cs : List Value) (w : World) (hT : Tab w) (hu : UnitV (cmap w) cs u) (hok : UOk u) :
    Calls Tryd.prog 10 #[.agg cs.toArray] w fun e w' => e = .returned (.bool true) ∧ Below w.heap.size w w' := by
  have hu0 := hu
  obtain ⟨sv, lv, gv, rfl, hs, -, hg⟩ := hu
  obtain ⟨sA, sc, rfl, -⟩ := id hs
  obtain ⟨gA, gc, rfl, -⟩ := id hg
  clear hs
  have hbx := Blk.new w 25 [.slice sA u.shared.length sc, lv, .slice gA u.graphs.length gc]
  have hb0 := Below_alloc' w (.cells #[.slice sA u.shared.length sc, lv, .slice gA u.graphs.length gc] 25)
  have hun : ∀ wr b (cs : List Value), Blk wr b 25 cs → ∀ j v, cs[j]? = some v → wr.cell? ⟨b, 0 + j, none⟩ = some v := fun wr b cs h j v hj => by rw [Nat.zero_add, h.cell]; exact hj
  have HUN := Lib.hid hun; clear hun
  have HT := Lib.hid hT; clear hT
  go_enter Tryd.func10, Tryd.ntmps10
  go_wp2_with fail
  refine (begins_calls _ (HT.out.below hb0)).mono ?_
  rintro e w1 ⟨rfl, hb1⟩
  have hw1 : Below w.heap.size w w1 := hb0.trans (hb1.mono (by simp))
  have hbx1 := hbx.below hb1 hbx.lt
  have HLD1 := Lib.hid (HUN.out _ _ _ hbx1)
  clear hb1 hbx
  go_wp2_with (first
    | (refine wpList_load_at rfl 25 _ rfl w.heap.size 0 rfl _ _ HLD1.out Tryd.underlying25 rfl (by kernel_rfl) ?_))
  refine (classes_calls u _ _ (HT.out.below hw1) (hu0.mono (cmap_below hw1)) hok).mono ?_
  rintro e w2 (⟨hck, v2, rfl, k2, hb2⟩ | ⟨hck, rfl, hb2⟩)
  all_goals have HCK := Lib.hid hck; clear hck
  all_goals have hw2 : Below w.heap.size w w2 := hw1.trans (hb2.mono hw1.size)
  all_goals have hbx2 := hbx1.below hb2 hbx1.lt
  all_goals have HLD2 := Lib.hid (HUN.out _ _ _ hbx2)
  all_goals go_wp2_with (first
    | (refine wpList_load_at rfl 25 _ rfl w.heap.size 0 rfl _ _ HLD2.out Tryd.underlying25 rfl (by kernel_rfl) ?_))
  all_goals refine (races_calls u _ _ (hu0.mono (cmap_below hw2)) hok).mono ?_
  all_goals rintro e w3 h3
  all_goals obtain ⟨A, c, k, L, rfl, hL, hmem, hk, hb3⟩ := races_one h3
  all_goals clear h3
  all_goals have hw3 : Below w.heap.size w w3 := hw2.trans (hb3.mono hw2.size)
  all_goals have hbx3 := hbx2.below hb3 hbx2.lt
  all_goals have HLD3 := Lib.hid (HUN.out _ _ _ hbx3)
  all_goals have HK := Lib.hid hk; clear hk
  all_goals have HMEM := Lib.hid hmem; clear hmem
  all_goals go_wp2_with (first
    | (refine wpList_load_at rfl 25 _ rfl w.heap.size 0 rfl _ _ HLD3.out Tryd.underlying25 rfl (by kernel_rfl) ?_))
  all_goals refine (owners_calls u _ _ (hu0.mono (cmap_below hw3)) hok).mono ?_
  · rintro e w4 (⟨-, v4, rfl, k4, hb4⟩ | ⟨hn, -⟩)
    rotate_left
    · exact absurd HCK.out hn
    have hw4 : Below w.heap.size w w4 := hw3.trans (hb4.mono hw3.size)
    have hbx4 := hbx3.below hb4 hbx3.lt
    have c0 := hbx4.cell 0
    have c2 := hbx4.cell 2
    have k2' := k2.mono ((part_le _ _ _).trans (cmap_below (hb3.trans (hb4.mono hb3.size))))
    have k4' := k4.mono (part_le _ _ _)
    have hL4 := hL.mono (cmap_below hb4)
    obtain ⟨cA, cc, rfl, -⟩ := id k2'
    obtain ⟨oA, oc, rfl, -⟩ := id k4'
    have hol : (ownList u.shared.length (TT u)).length = u.shared.length := by unfold ownList; simp
    rw [hol] at k4' ⊢
    simp only [List.length_map, List.length_range] at k2' ⊢
    have hru := checkF_none HCK.out
    have hn64 : u.shared.length ≤ 64 := hru.shared
    have hLm : L.length ≤ maxLen := by
      obtain ⟨_, _, e, h1, ⟨h2, _⟩, _⟩ := id hL4
      omega
    simp only [maxLen] at hLm
    have e9 : ((u.shared.length : Int) != (u.shared.length : Int)) = false := by simp
    clear k2 k4 hL hol hb2 hb3 hb4 hbx1 hbx2 hbx3 HLD1 HLD2 HLD3
    go_wp2
    go_loopw [9] (fun v9 wr => ∃ i : Nat, v9 = .int .i64 i ∧ i ≤ L.length ∧ Below w4.heap.size w4 wr) (fun v9 _ => L.length - (intOf v9).toNat)
    case atStart => exact ⟨0, rfl, by omega, Below.refl _ _⟩
    case round =>
      obtain ⟨i, rfl, hi, hbr⟩ := hrel
      by_cases hlt : i < L.length
      · obtain ⟨p, hp⟩ : ∃ p, L[i]? = some p := ⟨_, List.getElem?_eq_getElem hlt⟩
        obtain rfl : k = 0 := by
          rcases HK.out with h | h
          · exact h
          · rw [h] at hlt; simp at hlt
        have hrac := race_racy hru (HMEM.out p (List.mem_of_getElem? hp))
        obtain ⟨x, hx, hxl, htl⟩ := tt_thing hru p.1
        obtain ⟨g, hgt, hgn⟩ := tch_at p.1
        rw [hx] at hrac
        obtain ⟨pb, po, rfl, hpc⟩ := hL4.at_ hp
        have hpc := Cells_plain hpc
        have q0 : w4.cell? ⟨pb, po + i * 4, none⟩ = some (.int .i64 (p.1.1.t : Int)) := hpc 0 _ rfl
        have q1 : w4.cell? ⟨pb, po + i * 4 + 1, none⟩ = some (.int .i64 (p.1.1.i : Int)) := hpc 1 _ rfl
        have hgr := ((hg.mono (cmap_below hw4)).mono (cmap_below hbr))
        obtain ⟨gb, go_, rfl, gcs, hgv, hgc⟩ := hgr.at_ hgt
        obtain ⟨nv, rfl, hns⟩ := hgv
        obtain ⟨nA, nc, rfl, -⟩ := id hns
        obtain ⟨bn, on_, rfl, hnc⟩ := hns.at_ hgn
        have g3 : wr.cell? ⟨gb, go_ + p.1.1.t * 4 + 3, none⟩ = some (.slice (some ⟨bn, on_, none⟩) g.nodes.length nc) := hgc 3 _ rfl
        have n3 : wr.cell? ⟨bn, on_ + p.1.1.i * 13 + 3, none⟩ = some (.int .i64 p.1.1.n.thing) := hnc 3 _ rfl
        rw [hx] at n3
        have hil : p.1.1.i < g.nodes.length := (List.getElem?_eq_some_iff.1 hgn).1
        have ca : ((List.range u.shared.length).map fun x : Nat => classF u (x : Int))[x]? = some (classF u x) := by rw [List.getElem?_map, List.getElem?_range hxl]; rfl
        obtain ⟨ab, ao, rfl, _, rfl, ah⟩ := k2'.at_ ca
        have a0 : w4.cell? ⟨ab, ao + x * 3, none⟩ = some (.int .u8 (classF u (x : Int)).kind) := ah 0 _ rfl
        rw [hrac] at a0
        have up1 : ∀ q v, w4.cell? q = some v → wr.cell? q = some v := fun q v h => (World.cell?_of_block (hbr.block q.block (World.block_lt_of_cell? w4 q h))).trans h
        have HLDp : Hid (∀ j v, ([.int .i64 (p.1.1.t : Int), .int .i64 (p.1.1.i : Int)] : List Value)[j]? = some v → wr.cell? ⟨pb, po + i * 4 + j, none⟩ = some v) := Lib.hid fun j v hj => by
          match j, hj with
          | 0, hj => injection hj with hj; subst hj; exact up1 _ _ q0
          | 1, hj => injection hj with hj; subst hj; exact up1 _ _ q1
        obtain ⟨wb, hwb⟩ : ∃ wb, wr.alloc (.cells #[.int .i64 (p.1.1.t : Int), .int .i64 (p.1.1.i : Int)] 59) = wb := ⟨_, rfl⟩
        have bb : Blk wb wr.heap.size 59 [.int .i64 (p.1.1.t : Int), .int .i64 (p.1.1.i : Int)] := by rw [← hwb]; exact Blk.new wr _ _
        have hbb : Below wr.heap.size wr wb := by rw [← hwb]; exact Below_alloc' _ _
        have hbw : Below w4.heap.size w4 wb := hbr.trans (hbb.mono hbr.size)
        have up2 : ∀ q v, wr.cell? q = some v → wb.cell? q = some v := fun q v h => (World.cell?_of_block (hbb.block q.block (World.block_lt_of_cell? wr q h))).trans h
        have b0 := bb.cell 0
        have b1 := bb.cell 1
        have c2b := up2 _ _ (up1 _ _ c2)
        have g3b := up2 _ _ g3
        have n3b := up2 _ _ n3
        have a0b := up2 _ _ (up1 _ _ a0)
        have HWB := Lib.hid hwb; clear hwb
        have HLT := Lib.hid hlt
        have HBW := Lib.hid hbw; clear hbw
        clear hp hgn hgt hgc hnc hns ah ca hpc q0 q1 g3 n3 a0 up1 up2 hrac hx
        generalize p.1.1.t = tt at *
        generalize p.1.1.i = ii at *
        have hi0 : (0 : Int) ≤ i := by omega
        have hil2 : (i : Int) < L.length := by omega
        have t0 : (0 : Int) ≤ tt := by omega
        have t1 : (tt : Int) < u.graphs.length := by omega
        have i0 : (0 : Int) ≤ ii := by omega
        have i1 : (ii : Int) < g.nodes.length := by omega
        have x0 : (0 : Int) ≤ x := by omega
        have x1 : (x : Int) < u.shared.length := by omega
        have d1 : decide ((tt : Int) < 0) = false := by simp
        have d2 : decide ((u.graphs.length : Int) ≤ (tt : Int)) = false := by simp; omega
        have d3 : decide ((ii : Int) < 0) = false := by simp
        have d4 : decide ((g.nodes.length : Int) ≤ (ii : Int)) = false := by simp; omega
        have d5 : decide ((x : Int) < 0) = false := by simp
        have d6 : decide ((u.shared.length : Int) ≤ (x : Int)) = false := by simp; omega
        have d7 : decide ((i : Int) < (L.length : Int)) = true := by simp; omega
        have d8 : decide (i < L.length) = true := by simp; omega
        go_wp2_with (first
          | (refine wpList_load_at rfl 59 _ rfl pb (po + i * 4) rfl _ _ HLDp.out Tryd.underlying59 rfl (by kernel_rfl) ?_))
        rw [HWB.out]
        go_quiet (fail)
        go_wp2
        go_quiet (fail)
        go_wp2
        go_roundw
        case rel => exact ⟨i + 1, by go_num, HLT.out, ⟨HBW.out.os, HBW.out.tape, HBW.out.output, HBW.out.size, HBW.out.block⟩⟩
        case measure =>
          have := HLT.out
          simp [intOf]
          omega
      · have d7 : decide ((i : Int) < (L.length : Int)) = false := by simp; omega
        have d8 : decide (i < L.length) = false := by simp; omega
        obtain ⟨wo, rfl⟩ : ∃ wo : World, wo = wr := ⟨_, rfl⟩
        have hwo : Below w.heap.size w wo := hw4.trans (hbr.mono hw4.size)
        have k2r := k2'.mono (cmap_below hbr)
        have k4r := k4'.mono (cmap_below hbr)
        clear k2' k4' hL4 c0 c2
        go_wp2
        go_loopw [12] (fun v12 wr => ∃ (i n : Nat), v12 = .int .i64 i ∧ i ≤ u.shared.length ∧ wr = wo.drewN n) (fun v12 _ => u.shared.length - (intOf v12).toNat)
        case atStart => exact ⟨0, 0, rfl, by omega, rfl⟩
        case round =>
          obtain ⟨j, n, rfl, hj, rfl⟩ := hrel
          by_cases hlj : j < u.shared.length
          · have ca : ((List.range u.shared.length).map fun x : Nat => classF u (x : Int))[j]? = some (classF u j) := by rw [List.getElem?_map, List.getElem?_range hlj]; rfl
            obtain ⟨ab, ao, rfl, _, rfl, ah⟩ := k2r.at_ ca
            have a0 : wo.cell? ⟨ab, ao + j * 3, none⟩ = some (.int .u8 (classF u (j : Int)).kind) := ah 0 _ rfl
            have a1 : wo.cell? ⟨ab, ao + j * 3 + 1, none⟩ = some (.int .i64 (classF u (j : Int)).thread) := ah 1 _ rfl
            obtain ⟨ob, oo, rfl, o0⟩ := Ints_at' k4r (ownList_get (T := TT u) hlj)
            have o0 : wo.cell? ⟨ob, oo + j, none⟩ = some (.int .i64 (ownFold (TT u) (j : Int))) := o0
            have j0 : (0 : Int) ≤ j := by omega
            have j1 : (j : Int) < u.shared.length := by omega
            have hcases := own_class u (j : Int)
            clear ah ca
            generalize (classF u (j : Int)).kind = kk at *
            generalize (classF u (j : Int)).thread = th at *
            generalize ownFold (TT u) (j : Int) = ow at *
            rcases hcases with ⟨rfl, rfl⟩ | ⟨t, rfl, rfl, rfl⟩ | ⟨rfl, rfl | rfl⟩
            · go_wp2
              go_quiet (fail)
              go_wp2
              go_roundw
              case rel => exact ⟨j + 1, _, by go_num, by omega, rfl⟩
              case measure => simp [intOf]; omega
            · have e1 : ((t : Int) == -1) = false := by simp <;> omega
              have e2 : decide ((0 : Int) ≤ (t : Int)) = true := by simp
              have e3 : ((t : Int) != (t : Int)) = false := by simp
              go_wp2
              go_quiet (fail)
              go_wp2
              go_roundw
              case rel => exact ⟨j + 1, _, by go_num, by omega, rfl⟩
              case measure => simp [intOf]; omega
            · go_wp2
              go_quiet (fail)
              go_wp2
              go_roundw
              case rel => exact ⟨j + 1, _, by go_num, by omega, rfl⟩
              case measure => simp [intOf]; omega
            · go_wp2
              go_quiet (fail)
              go_wp2
              go_roundw
              case rel => exact ⟨j + 1, _, by go_num, by omega, rfl⟩
              case measure => simp [intOf]; omega
          · go_wp2
            go_ret
            exact ⟨rfl, ⟨hwo.os, hwo.tape, hwo.output, hwo.size, hwo.block⟩⟩
  · rintro e w4 (⟨hn, -⟩ | ⟨-, rfl, hb4⟩)
    · exact absurd hn HCK.out
    have hw4 : Below w.heap.size w w4 := hw3.trans (hb4.mono hw3.size)
    have hbx4 := hbx3.below hb4 hbx3.lt
    have c0 := hbx4.cell 0
    go_wp2
    go_ret
    exact ⟨rfl, hw4⟩
end Go.Proofs.YtpaieopclpddnaaDoor
namespace Go.Proofs.YtpaieopclpddnaaDoor
open Go Go.RowKit Go.ChangeShapes Go.WideShapes Go.ChangeAt
namespace noRace
set_option maxRecDepth 100000 in
theorem contract (H : Type) (enc : TypeId × Value → H) (W : World) (base : Nat) (args : Array Value) (ds gs : List (DataW H)) (before : List MemPlace)
    (hval : ∀ (j : Nat) t v, Tryd.f10.params[j]? = some t → args[j]? = some v → Value.okWide Tryd.prog W .any base t v)
    (hW : DataW.Whole enc Tryd.prog Tryd.f10.params.toList Rows.locksetNoRaceSpec.vars false W args.toList ds gs before) (hL : laidMetH Tryd.prog Rows.locksetNoRaceRow.laid W) :
    Calls Tryd.prog 10 args W fun e W' => ∃ v, e = .returned v ∧ Rows.locksetNoRaceSpec.post enc Tryd.prog Tryd.f10 false true false false W args v W' := by
  have hW' := hW
  obtain ⟨p, q, hA0, hV, rfl, hfz, hnd⟩ := hW
  have hA : DataW.TrodAll enc Tryd.prog W 0 (fun _ => true) true Tryd.f10.params.toList args.toList ds p := hA0
  have hA2 := hA
  rw [Tryd.params10] at hA hval
  obtain ⟨v0, vs0, d0, ds0, p0, q0, hargs, rfl, hp, h0, r0⟩ := trodAll_cons hA
  obtain ⟨rfl, rfl, hp9⟩ := trodAll_nil r0
  obtain rfl : args = #[v0] := by cases args; simp_all
  obtain ⟨rfl, rfl⟩ := trodVars_none hV
  obtain ⟨cs, u, rfl, hu, hok⟩ := open_unit (hval 0 25 v0 rfl rfl) h0
  have hlt := fun x hx => hW'.lt x hx
  simp only [List.append_nil] at hW' hlt
  have hT : Tab W := tab_of hL
  refine (locksetNoRace_calls u cs  W hT hu hok).mono fun e W' ⟨he, hb⟩ => ?_
  subst he
  exact ⟨_, rfl, post_below (pa := p) (pv := []) hW' (fun _ _ _ => trodAll_cons_mk (shut_bool Tryd.underlying4 _) trodAll_mk0)
    (fun sp hsp => trodAll_stays (by intro t ht; rw [Tryd.params10] at ht; exact all_again _ (by kernel_rfl) t ht) hA2 (fun x hx => hb.same (hlt x hx)) (fun x hx => hsp x hx)) (fun _ _ => rfl) (by simp) hb (ok_one (by kernel_rfl) rfl (okWide_bool_mk Tryd.underlying4 _))⟩
theorem laid_met (os : Os) : laidMet Tryd.prog Rows.locksetNoRaceRow.laid ((laidWorld os).forCall (fun _ _ => 0) ⟨#[], #[.agg #[.slice none 0 0, .slice none 0 0, .slice none 0 0]], []⟩).memory :=
  laidMet_of_run' 8 (by kernel_rfl) (by kernel_rfl)
theorem reads (os : Os) {H : Type} (enc : TypeId × Value → H) : ∃ places, DataW.whole enc Tryd.prog ((laidWorld os).forCall (fun _ _ => 0) ⟨#[], #[.agg #[.slice none 0 0, .slice none 0 0, .slice none 0 0]], []⟩).memory Tryd.f10.params.toList Rows.locksetNoRaceSpec.vars false
    (#[.agg #[.slice none 0 0, .slice none 0 0, .slice none 0 0]] : Array Value).toList 8 = some ([.agg [.nil, .nil, .nil]], [], places) :=
  ⟨[], by kernel_rfl⟩
set_option maxRecDepth 100000 in
theorem lifted (os : Os) (started : os.Started) (H : Type) (enc : TypeId × Value → H) (F : Stop.Interp) :
    ReturnsInHanded {} Tryd.checked os 10 .any ((OpenSpec.ofChange Rows.locksetNoRaceSpec).preRow enc Tryd.prog Tryd.f10 Rows.locksetNoRaceRow.domain false Rows.locksetNoRaceRow.laid) (((OpenSpec.ofChange Rows.locksetNoRaceSpec).at F).post enc Tryd.prog Tryd.f10 false true false false) := by
  obtain ⟨places, hx⟩ := reads os enc
  refine returnsInHanded_of_row (C := Tryd.checked) (s := OpenSpec.ofChange Rows.locksetNoRaceSpec) own_knob started (by kernel_rfl) Tryd.func10
    (witness_row_at (enc := enc) (C := Tryd.checked) false (laidWorld os) #[.agg #[.slice none 0 0, .slice none 0 0, .slice none 0 0]] rfl (by kernel_rfl) (by kernel_rfl) (by kernel_rfl)
      (OpenSpec.preRow_of_cond 8 hx (by kernel_rfl) (fun k hk => by cases hk) (by kernel_rfl) (laid_met os))) ?_
  intro W base args ds gs before hval hW _ _ _ hL _ _
  exact contract H enc W base args ds gs before hval hW hL
theorem said : Rows.LocksetNoRaceSaid :=
  OpenClaim.holds_of_cond 10 Tryd.f10 rfl rfl rfl rfl rfl rfl rfl ⟨rfl, rfl, rfl, rfl, rfl⟩ rfl rfl rfl rfl rfl (by kernel_rfl) Tryd.func10 (by kernel_rfl)
    (of_decide_eq_true (by kernel_rfl)) (by unfold Func.isWrapper; first | (rw [if_pos (by decide +kernel)]; kernel_rfl) | (rw [if_neg (by decide +kernel)]; exact ⟨rfl, rfl⟩))
    (fun os started H enc _ F => by rw [OpenClaim.pre_eq_preRow]; exact lifted os started H enc F)
theorem plain (f : FuncId) (fn : Func) (hf : Tryd.pinned.checked.prog.funcNamed "stile/stilelaw10.LocksetNoRace" = some f) (hfn : Tryd.pinned.checked.prog.funcs[f]? = some fn) :
    false = Tryd.pinned.checked.prog.looks [] ∧ ∀ (j : Nat) t, fn.params[j]? = some t → Tryd.pinned.checked.prog.wantsStandIn t = false := by
  obtain rfl : f = 10 := Option.some.inj ((show Tryd.prog.funcNamed "stile/stilelaw10.LocksetNoRace" = some 10 by kernel_rfl).symm.trans hf) |>.symm
  obtain rfl : fn = Tryd.f10 := (Option.some.inj (Tryd.func10.symm.trans hfn)).symm
  refine ⟨by kernel_rfl, fun j t ht => ?_⟩
  rw [Tryd.params10] at ht
  have hm := Array.mem_of_getElem? ht
  simp at hm
  subst hm
  exact (show Tryd.prog.wantsStandIn 25 = false by kernel_rfl)
end noRace
/-- THE CARD. -/
theorem locksetNoRace_card : Rows.LocksetNoRaceCardSaid :=
  Claim7.holds_tied_plain_at .later [] _ _ _ _ noRace.said (fun _ h => by cases h) (by kernel_rfl) (fun _ h => by cases h) locksetNoRace_row_tie rfl ⟨rfl, rfl⟩ (by kernel_rfl) rfl noRace.plain (by kernel_rfl)
#print axioms locksetNoRace_card
end Go.Proofs.YtpaieopclpddnaaDoor
