/- DelayCut: whatever unit, thread and lists of fences are given: with further fences no more is open; with one ahead of each racy load that was open no load is; what delay.Loads tells without fences is what delay.Pairs leads to. Conditions: the row's own. -/
import Derived.Test.YtmkpjiahkepigaaDoorP116
import Derived.Test.YtmkpjiahkepigaaDoorP117
import Derived.Test.YtmkpjiahkepigaaDoorP17
import Derived.Test.YtmkpjiahkepigaaDoorP118
/- The walk of DelayCut. -/
namespace Go.Proofs.YtmkpjiahkepigaaDoor
open Go Go.RowKit
set_option maxRecDepth 100000 in
set_option maxHeartbeats 8000000 in
theorem delayCut_calls (u : Unit_) (cs : List Value) (t : Int) (v1 : Value) (F1 : List Int) (v2 : Value) (F2 : List Int) (w : World) (hT : Tab w) (hu : UnitV (cmap w) cs u) (hok : UOk u) (h1 : Ints (cmap w) v1 F1) (h2 : Ints (cmap w) v2 F2) :
    Calls Tryd.prog 3 #[.agg cs.toArray, .int .i64 t, v1, v2] w fun e w' => e = .returned (.bool true) ∧ Below w.heap.size w w' := by
  have HLV := Lib.hid fun w1 (h : Below w.heap.size w w1) => lives11_calls w1 (hT.below h)
  have HO1 := Lib.hid fun w1 (h : Below w.heap.size w w1) => open_calls u cs t v1 F1 w1 (hT.below h) (hu.mono (cmap_below h)) hok (h1.mono (cmap_below h))
  have HO2 := Lib.hid fun w1 (h : Below w.heap.size w w1) => open_calls u cs t v2 F2 w1 (hT.below h) (hu.mono (cmap_below h)) hok (h2.mono (cmap_below h))
  have HLO := Lib.hid fun w1 (h : Below w.heap.size w w1) (fv : Value) (F : List Int) (hF : Ints (cmap w1) fv F) => loads_calls u cs t fv F w1 (hT.below h) (hu.mono (cmap_below h)) hok hF
  have HPA := Lib.hid fun w1 (h : Below w.heap.size w w1) => pairs_calls u cs t w1 (hT.below h) (hu.mono (cmap_below h)) hok
  obtain ⟨sv, lv, gv, rfl, -, -, -⟩ := hu
  have hbx := Blk.new w 25 [sv, lv, gv]
  have hb0 := Below_alloc' w (.cells #[sv, lv, gv] 25)
  have HBX := Lib.hid (And.intro hbx hb0)
  obtain ⟨f1A, f1c, rfl, -⟩ := id h1
  obtain ⟨f2A, f2c, rfl, -⟩ := id h2
  have b1 := h1.len.2.2
  have b2 := h2.len.2.2
  have HF := Lib.hid (And.intro h1 h2)
  clear hbx hb0 hT h1 h2
  obtain ⟨o1, ho1⟩ : ∃ o, openR u t F1 = o := ⟨_, rfl⟩
  obtain ⟨o2, ho2⟩ : ∃ o, openR u t F2 = o := ⟨_, rfl⟩
  obtain ⟨a, e1⟩ := o1
  obtain ⟨b, e2⟩ := o2
  have HR1 := Lib.hid ho1
  have HR2 := Lib.hid ho2
  unfold OpenPost at HO1 HO2
  by_cases he1 : e1 = 0
  · by_cases he2 : e2 = 0
    · subst he1 he2
      have hask : askE u t = 0 := by
        by_cases h : askE u t = 0
        · exact h
        · unfold openR at ho1
          rw [if_neg h] at ho1
          injection ho1 with _ h2
      obtain ⟨hc, t0, t1⟩ := askE_zero hask
      obtain ⟨tn, rfl⟩ := Int.eq_ofNat_of_zero_le t0
      obtain ⟨g, hg⟩ : ∃ g, u.graphs[tn]? = some g := ⟨_, List.getElem?_eq_getElem (by omega)⟩
      have hrg := (checkF_none hc).graphs g (List.mem_of_getElem? hg)
      have hor : ∀ F, openR u (tn : Int) F = if fenB g.nodes.length (-1) F then (openG g (stL u g) F, 0) else ([], 110) := fun F => by
        unfold openR
        rw [if_pos hask, Int.toNat_natCast, hg]
      have hae : ∀ F a, openR u (tn : Int) F = (a, 0) → a = openG g (stL u g) F := fun F a h => by
        rw [hor F] at h
        split at h
        · injection h with h _; exact h.symm
        · injection h with _ h; cases h
      have ha := hae F1 a ho1
      have hb := hae F2 b ho2
      have hlo : ∀ F, fenB g.nodes.length (-1) F = true → loadsR u (tn : Int) F = (ldK u g (openG g (stL u g) F) g.nodes.length, 0) := fun F h => by
        unfold loadsR
        rw [hor F, if_pos h, if_pos rfl, Int.toNat_natCast, hg]
      have hl1 := hlo [] rfl
      have hl2 := hlo _ (ldK_fen u g (openG g (stL u g) []))
      rw [ldK_none] at hl2
      obtain ⟨L, hL⟩ : ∃ L, ldK u g (openG g (stL u g) []) g.nodes.length = L := ⟨_, rfl⟩
      rw [hL] at hl1 hl2
      have HLR := Lib.hid (And.intro hl1 hl2)
      have hpr : pairsR u (tn : Int) = if (prL u g (stL u g)).length ≤ 65536 then (prL u g (stL u g), 0) else ([], 3) := by
        unfold pairsR
        rw [if_pos hask, Int.toNat_natCast, hg]
      have hlp := loads_pairs u g
      rw [hL] at hlp
      obtain ⟨N, hN⟩ : ∃ N, g.nodes.length = N := ⟨_, rfl⟩
      have hal : a.length = N := by rw [ha, openG_len, hN]
      have hbl : b.length = N := by rw [hb, openG_len, hN]
      have hmost := hrg.whole.most
      rw [hN] at hmost
      have hLl : L.length ≤ 4096 := by have := ldK_length u g (openG g (stL u g) []) g.nodes.length; rw [hL, hN] at this; omega
      have hcut : (∀ x ∈ F1, x ∈ F2) → ∀ i, i < N → b[i]? = some true → a[i]? = some true := fun h i hi hbi => by
        rw [ha]
        rw [hb] at hbi
        exact openG_cut h (by rw [hN]; exact hi) hbi
      have HAB := Lib.hid (And.intro hal (And.intro hbl hcut))
      have HLP := Lib.hid (And.intro hpr hlp)
      clear hor hae ha hb hlo hl1 hl2 hL hpr hlp ho1 ho2 hal hbl hcut hask hc t0 t1 hg hrg hN
      go_enter Tryd.func3, Tryd.ntmps3
      go_wp2_with (first
        | (go_at_call 5
           refine (HLV.out _ HBX.out.2).mono ?_
           rintro e w1 ⟨rfl, hb1⟩
           have hbx1 := HBX.out.1.below hb1 HBX.out.1.lt
           have x0 := hbx1.cell 0
           have x1 := hbx1.cell 1
           have x2 := hbx1.cell 2
           have H1 := Lib.hid (And.intro (HBX.out.2.trans (hb1.mono HBX.out.2.size)) hbx1)
           have HO1 := Lib.hid (HO1.out _ H1.out.1)
           clear hb1 hbx1))
      refine (HO1.out).mono ?_
      rintro e w2 ⟨r1, rfl, hr1, hb2⟩
      rw [HR1.out] at hr1 ⊢
      obtain ⟨rA1, rc1, rfl, -⟩ := own_slice hr1
      have hbx2 := H1.out.2.below hb2 H1.out.2.lt
      have x0 := hbx2.cell 0
      have x1 := hbx2.cell 1
      have x2 := hbx2.cell 2
      have H2 := Lib.hid (And.intro (H1.out.1.trans (hb2.mono H1.out.1.size)) (And.intro hbx2 (And.intro hr1 hb2)))
      have HO2 := Lib.hid (HO2.out _ H2.out.1)
      clear hb2 hbx2 hr1
      go_wp2_with fail
      refine (HO2.out).mono ?_
      rintro e w3 ⟨r2, rfl, hr2, hb3⟩
      rw [HR2.out] at hr2 ⊢
      obtain ⟨rA2, rc2, rfl, -⟩ := own_slice hr2
      have hbx3 := H2.out.2.1.below hb3 H2.out.2.1.lt
      have x0 := hbx3.cell 0
      have x1 := hbx3.cell 1
      have x2 := hbx3.cell 2
      have H3 := Lib.hid (And.intro (H2.out.1.trans (hb3.mono H2.out.1.size)) (And.intro hbx3 (And.intro hr2 hb3)))
      skip
      clear hb3 hbx3 hr2
      go_wp2_with fail
      go_loopw [51] (fun v51 wr => ∃ k : Nat, v51 = .int .i64 k ∧ k ≤ F1.length ∧ Hid (∀ x ∈ F1.take k, x ∈ F2) ∧ Hid (wr = w3)) (fun v51 _ => F1.length - (intOf v51).toNat)
      case atStart => exact ⟨0, rfl, Nat.zero_le _, Lib.hid (by simp), Lib.hid (by first | rfl | trivial)⟩
      case round =>
        obtain ⟨k, rfl, hk, HS, HE⟩ := hrel
        obtain rfl := HE.out
        by_cases hlt : k < F1.length
        · obtain ⟨x, hx⟩ : ∃ x, F1[k]? = some x := ⟨_, List.getElem?_eq_getElem hlt⟩
          obtain ⟨fb, fo, rfl, hfc⟩ := HF.out.1.at_ hx
          rw [Nat.mul_one] at hfc
          have hfc1 : wr.cell? ⟨fb, fo + k, none⟩ = some (.int .i64 x) := cmap_below H3.out.1 _ _ _ hfc
          have k0 : (0 : Int) ≤ k := by omega
          have kF : (k : Int) < F1.length := by omega
          have HHAS := Lib.hid (has11_calls _ F2 x wr (HF.out.2.mono (cmap_below H3.out.1)))
          have htk : F1.take (k + 1) = F1.take k ++ [x] := by
            rw [List.take_succ_eq_append_getElem hlt]
            rw [List.getElem?_eq_getElem hlt] at hx
            injection hx with hx
            rw [hx]
          have HTK := Lib.hid htk
          clear hx hfc htk
          by_cases hm : x ∈ F2
          · rw [decide_eq_true hm] at HHAS
            have HM := Lib.hid hm
            clear hm
            go_wp2_with (first
              | (go_at_call 7
                 refine (HHAS.out).mono ?_
                 rintro e wq ⟨rfl, rfl⟩))
            go_roundw
            case rel => exact ⟨k + 1, by go_num, hlt, Lib.hid (by rw [HTK.out]; intro y hy; rcases List.mem_append.1 hy with h | h; exact HS.out y h; rw [List.mem_singleton] at h; rw [h]; exact HM.out), Lib.hid (by first | rfl | trivial)⟩
            case measure => simp [intOf]; omega
          · rw [decide_eq_false hm] at HHAS
            clear hm
            go_wp2_with (first
              | (go_at_call 7
                 refine (HHAS.out).mono ?_
                 rintro e wq ⟨rfl, rfl⟩))
            go_ret
            exact ⟨rfl, H3.out.1⟩
        · obtain rfl : k = F1.length := by omega
          rw [List.take_length] at HS
          have HCUT := Lib.hid (HAB.out.2.2 HS.out)
          have ra := H2.out.2.2.1
          have rb := H3.out.2.2.1
          rw [HAB.out.1] at ra
          rw [HAB.out.2.1] at rb
          have HRA := Lib.hid (And.intro ra rb)
          rw [HAB.out.1, HAB.out.2.1]
          clear HS ra rb
          go_wp2
          go_loopw [62] (fun v62 wr2 => ∃ k : Nat, v62 = .int .i64 k ∧ k ≤ N ∧ Hid (wr2 = wr)) (fun v62 _ => N - (intOf v62).toNat)
          case atStart => exact ⟨0, rfl, Nat.zero_le _, Lib.hid (by first | rfl | trivial)⟩
          case round =>
            obtain ⟨k, rfl, hk, HE2⟩ := hrel
            obtain rfl := HE2.out
            by_cases hlt : k < N
            · obtain ⟨oa, oca, e, -, hoal, -, hoac⟩ := own_form HRA.out.1 (by omega)
              injection e with e _ e3
              subst e e3
              obtain ⟨ob, ocb, e, -, hobl, -, hobc⟩ := own_form HRA.out.2 (by omega)
              injection e with e _ e3
              subst e e3
              have hka : k < a.length := by rw [HAB.out.1]; exact hlt
              have hkb : k < b.length := by rw [HAB.out.2.1]; exact hlt
              obtain ⟨ba, hba⟩ : ∃ x, a[k]? = some x := ⟨_, List.getElem?_eq_getElem hka⟩
              obtain ⟨bb, hbb⟩ : ∃ x, b[k]? = some x := ⟨_, List.getElem?_eq_getElem hkb⟩
              have ca : wr.cell? ⟨oa, k, none⟩ = some (.bool ba) := cmap_below H3.out.2.2.2 _ _ _ ((hoac k (by omega)).trans (by simp [bools, hba]))
              have cb : wr.cell? ⟨ob, k, none⟩ = some (.bool bb) := (hobc k (by omega)).trans (by simp [bools, hbb])
              have k0 : (0 : Int) ≤ k := by omega
              have kN : (k : Int) < N := by omega
              have dN : ((N : Int) != (N : Int)) = false := by simp
              have dN2 : (N != N) = false := by simp
              have hcc : bb = true → ba = true := fun h => by
                have := HCUT.out k hlt (by rw [hbb, h])
                rw [hba] at this
                injection this
              clear hka hkb hba hbb hoac hobc
              cases bb with
              | false =>
                clear hcc
                go_wp2
                go_roundw
                case rel => exact ⟨k + 1, by go_num, hlt, Lib.hid (by first | rfl | trivial)⟩
                case measure => simp [intOf]; omega
              | true =>
                obtain rfl := hcc rfl
                clear hcc
                go_wp2
                go_roundw
                case rel => exact ⟨k + 1, by go_num, hlt, Lib.hid (by first | rfl | trivial)⟩
                case measure => simp [intOf]; omega
            · obtain rfl : k = N := by omega
              have HX := Lib.hid (And.intro H3.out.1 H3.out.2.1)
              have HL1 := Lib.hid (HLO.out wr H3.out.1 (.slice none 0 0) [] (Ints_nil _))
              unfold LoadsPost at HLO HL1
              unfold PairsPost at HPA
              obtain ⟨pr0, hpr0⟩ : ∃ r, pairsR u (tn : Int) = r := ⟨_, rfl⟩
              obtain ⟨P, nor⟩ := pr0
              have HPR := Lib.hid hpr0
              have hpp := HLP.out.1
              rw [hpr0] at hpp
              clear hpr0 hlt
              by_cases hsz : (prL u g (stL u g)).length ≤ 65536
              · rw [if_pos hsz] at hpp
                injection hpp with hp1 hp2
                subst hp1 hp2
                have HP := Lib.hid HLP.out.2
                obtain ⟨P, hP⟩ : ∃ P, prL u g (stL u g) = P := ⟨_, rfl⟩
                rw [hP] at hsz HP HPR
                clear hP
                go_wp2_with fail
                refine (HL1.out).mono ?_
                rintro e w4 ⟨q1, rfl, hq1, hb4⟩
                rw [HLR.out.1] at hq1 ⊢
                simp only at hq1
                obtain ⟨lA, lc, rfl, -⟩ := own_slice hq1
                have hbx4 := HX.out.2.below hb4 HX.out.2.lt
                have x0 := hbx4.cell 0
                have x1 := hbx4.cell 1
                have x2 := hbx4.cell 2
                have H4 := Lib.hid (And.intro (HX.out.1.trans (hb4.mono HX.out.1.size)) (And.intro hbx4 hq1))
                have HL2 := Lib.hid (HLO.out w4 H4.out.1 _ L ((Sl_of_own (f := fun x : Int => Value.int .i64 x) (R := IntC) (fun _ _ _ _ h => h) hq1 (Nat.le_refl _) (Nat.le_refl _)).mono (part_le _ _ _)))
                clear hb4 hbx4 hq1 HL1
                go_wp2_with fail
                refine (HL2.out).mono ?_
                rintro e w5 ⟨q2, rfl, hq2, hb5⟩
                rw [HLR.out.2] at hq2 ⊢
                simp only at hq2
                obtain ⟨l2A, l2c, rfl, -⟩ := own_slice hq2
                simp only [List.length_nil]
                have hbx5 := H4.out.2.1.below hb5 H4.out.2.1.lt
                have x0 := hbx5.cell 0
                have x1 := hbx5.cell 1
                have x2 := hbx5.cell 2
                have H5 := Lib.hid (And.intro (H4.out.1.trans (hb5.mono H4.out.1.size)) (And.intro hbx5 hb5))
                clear hb5 hbx5 hq2
                go_wp2_with fail
                refine (HPA.out _ H5.out.1).mono ?_
                rintro e w6 ⟨p, rfl, hp, hb6⟩
                rw [HPR.out] at hp ⊢
                simp only at hp
                obtain ⟨pA, pc, rfl, -⟩ := own_slice hp
                have H6 := Lib.hid (And.intro (H5.out.1.trans (hb6.mono H5.out.1.size)) (And.intro hp (H5.out.2.2.trans (hb6.mono H5.out.2.2.size))))
                clear hb6 hp
                go_wp2_with fail
                have hlw6 : w6.ownsRow w.heap.size 3 1 (.slice lA L.length lc) L.length (ints L) := own_base (H4.out.2.2.kept (row := none) ⟨H6.out.2.2.os, H6.out.2.2.tape, H6.out.2.2.output, H6.out.2.2.size, fun k hk _ => H6.out.2.2.block k hk⟩ (by cases lA <;> simp [Value.ownBlock])) H3.out.1.size
                have HLW := Lib.hid hlw6
                clear hlw6
                go_loopw [120] (fun v120 wr => ∃ k : Nat, v120 = .int .i64 k ∧ k ≤ P.length ∧ Hid (Below w6.heap.size w6 wr)) (fun v120 _ => P.length - (intOf v120).toNat)
                case atStart => exact ⟨0, rfl, Nat.zero_le _, Lib.hid (Below.refl _ _)⟩
                case round =>
                  obtain ⟨k, rfl, hk, HB⟩ := hrel
                  by_cases hlt : k < P.length
                  · obtain ⟨q, hq⟩ : ∃ q, P[k]? = some q := ⟨_, List.getElem?_eq_getElem hlt⟩
                    obtain ⟨pb, pc', e, -, hpl, -, hpc⟩ := own_form H6.out.2.1 (by omega)
                    injection e with e _ e3
                    subst e e3
                    obtain ⟨qa, qb⟩ := q
                    have hpd : ∀ j v, ([.int .i64 qa, .int .i64 qb] : List Value)[j]? = some v → wr.cell? ⟨pb, k * 2 + j, none⟩ = some v := fun j v hj => by
                      have hj2 : j < 2 := (List.getElem?_eq_some_iff.1 hj).1
                      have h1 := hpc (k * 2 + j) (by omega)
                      rw [show (pairsV P)[k * 2 + j]? = some v from fm_at (f := pairV) pairV_len hq hj] at h1
                      exact cmap_below HB.out _ _ _ h1
                    have HPD := Lib.hid hpd
                    have k0 : (0 : Int) ≤ k := by omega
                    have kP : (k : Int) < P.length := by omega
                    have hb2 := HB.out.alloc HB.out.size (.cells #[.int .i64 qa, .int .i64 qb] 39)
                    have HB2 := Lib.hid hb2
                    have hpbl : pb < wr.heap.size := Nat.lt_of_lt_of_le hpl HB.out.size
                    have hin : qb ∈ L := (HP.out qb).2 ⟨qa, List.mem_of_getElem? hq⟩
                    have hha := has11_calls (.slice lA L.length lc) L qb (wr.alloc (.cells #[.int .i64 qa, .int .i64 qb] 39)) (((Sl_of_own (f := fun x : Int => Value.int .i64 x) (R := IntC) (fun _ _ _ _ h => h) HLW.out (Nat.le_refl _) (Nat.le_refl _)).mono (part_le _ _ _)).mono (cmap_below HB2.out))
                    rw [decide_eq_true hin] at hha
                    have HHAS := Lib.hid hha
                    clear hq hpc hpd hb2 hin hha
                    go_wp2_with (first
                      | (refine wpList_load_at rfl 39 _ rfl pb (k * 2) rfl _ _ HPD.out Tryd.underlying39 rfl (by kernel_rfl) ?_)
                      | (go_at_call 7
                         refine (HHAS.out).mono ?_
                         rintro e wq ⟨rfl, rfl⟩))
                    go_roundw
                    case rel => exact ⟨k + 1, by go_num, hlt, HB2⟩
                    case measure => simp [intOf]; omega
                  · obtain rfl : k = P.length := by omega
                    clear hlt
                    go_wp2
                    obtain ⟨wo, rfl⟩ : ∃ wo : World, wo = wr := ⟨_, rfl⟩
                    go_loopw [132] (fun v132 wr => ∃ j : Nat, v132 = .int .i64 j ∧ j ≤ L.length ∧ Hid (Below w6.heap.size w6 wr)) (fun v132 _ => L.length - (intOf v132).toNat)
                    case atStart => exact ⟨0, rfl, Nat.zero_le _, HB⟩
                    case round =>
                      obtain ⟨j, rfl, hj, HB⟩ := hrel
                      by_cases hjl : j < L.length
                      · obtain ⟨x, hx⟩ : ∃ x, L[j]? = some x := ⟨_, List.getElem?_eq_getElem hjl⟩
                        obtain ⟨lb, lc', e, -, hlbl, -, hlc⟩ := own_form HLW.out (by omega)
                        injection e with e _ e3
                        subst e e3
                        have xc : wr.cell? ⟨lb, j, none⟩ = some (.int .i64 x) := cmap_below HB.out _ _ _ ((hlc j (by omega)).trans (by simp [ints, hx]))
                        have j0 : (0 : Int) ≤ j := by omega
                        have jL : (j : Int) < L.length := by omega
                        have hfx : (P.any fun q => q.2 == x) = true := by
                          obtain ⟨s, hs⟩ := (HP.out x).1 (List.mem_of_getElem? hx)
                          exact List.any_eq_true.2 ⟨_, hs, by simp⟩
                        have HFX := Lib.hid hfx
                        have HBJ := HB
                        clear hx hlc hfx
                        go_wp2
                        go_loopw [24, 138] (fun v24 v138 wr => ∃ k : Nat, v24 = .bool ((P.take k).any fun q => q.2 == x) ∧ v138 = .int .i64 k ∧ k ≤ P.length ∧ Hid (Below w6.heap.size w6 wr)) (fun _ v138 _ => P.length - (intOf v138).toNat)
                        case atStart => exact ⟨0, by simp, rfl, Nat.zero_le _, HB⟩
                        case round =>
                          obtain ⟨k, rfl, rfl, hk, HB⟩ := hrel
                          by_cases hlt : k < P.length
                          · obtain ⟨q, hq⟩ : ∃ q, P[k]? = some q := ⟨_, List.getElem?_eq_getElem hlt⟩
                            obtain ⟨pb, pc', e, -, hpl, -, hpc⟩ := own_form H6.out.2.1 (by omega)
                            injection e with e _ e3
                            subst e e3
                            obtain ⟨qa, qb⟩ := q
                            have hpd : ∀ j v, ([.int .i64 qa, .int .i64 qb] : List Value)[j]? = some v → wr.cell? ⟨pb, k * 2 + j, none⟩ = some v := fun j v hj => by
                              have hj2 : j < 2 := (List.getElem?_eq_some_iff.1 hj).1
                              have h1 := hpc (k * 2 + j) (by omega)
                              rw [show (pairsV P)[k * 2 + j]? = some v from fm_at (f := pairV) pairV_len hq hj] at h1
                              exact cmap_below HB.out _ _ _ h1
                            have HPD := Lib.hid hpd
                            have k0 : (0 : Int) ≤ k := by omega
                            have kP : (k : Int) < P.length := by omega
                            have hb2 := HB.out.alloc HB.out.size (.cells #[.int .i64 qa, .int .i64 qb] 39)
                            have HB2 := Lib.hid hb2
                            have hpbl : pb < wr.heap.size := Nat.lt_of_lt_of_le hpl HB.out.size
                            have htk : ((P.take (k + 1)).any fun q => q.2 == x) = (((P.take k).any fun q => q.2 == x) || (qb == x)) := by
                              have h1 := List.take_succ_eq_append_getElem hlt
                              rw [List.getElem?_eq_getElem hlt] at hq
                              injection hq with hq
                              rw [h1, hq, List.any_append]
                              simp
                            have HTK := Lib.hid htk
                            clear hq hpc hpd hb2 htk
                            cases hf : (P.take k).any (fun q => q.2 == x) with
                            | true =>
                              have dn : Hid (((P.take (k + 1)).any fun q => q.2 == x) = true) := Lib.hid (by rw [HTK.out, hf]; rfl)
                              clear hf HTK
                              go_wp2_with (first
                                | (refine wpList_load_at rfl 39 _ rfl pb (k * 2) rfl _ _ HPD.out Tryd.underlying39 rfl (by kernel_rfl) ?_))
                              go_roundw
                              case rel => exact ⟨k + 1, by rw [dn.out], by go_num, hlt, HB2⟩
                              case measure => simp [intOf]; omega
                            | false =>
                              have dn : Hid (((P.take (k + 1)).any fun q => q.2 == x) = (qb == x)) := Lib.hid (by rw [HTK.out, hf]; rfl)
                              clear hf HTK
                              go_wp2_with (first
                                | (refine wpList_load_at rfl 39 _ rfl pb (k * 2) rfl _ _ HPD.out Tryd.underlying39 rfl (by kernel_rfl) ?_))
                              go_roundw
                              case rel => exact ⟨k + 1, by rw [dn.out], by go_num, hlt, HB2⟩
                              case measure => simp [intOf]; omega
                          · obtain rfl : k = P.length := by omega
                            rw [List.take_length, HFX.out]
                            clear hlt
                            go_wp2
                            go_roundw
                            case rel => exact ⟨j + 1, by go_num, hjl, HB⟩
                            case measure => simp [intOf]; omega
                      · obtain rfl : j = L.length := by omega
                        go_wp2
                        go_ret
                        exact ⟨rfl, H6.out.1.trans (HB.out.mono H6.out.1.size)⟩
              · rw [if_neg hsz] at hpp
                injection hpp with hp1 hp2
                subst hp1 hp2
                clear hsz
                go_wp2_with fail
                refine (HL1.out).mono ?_
                rintro e w4 ⟨q1, rfl, hq1, hb4⟩
                rw [HLR.out.1] at hq1 ⊢
                simp only at hq1
                obtain ⟨lA, lc, rfl, -⟩ := own_slice hq1
                have hbx4 := HX.out.2.below hb4 HX.out.2.lt
                have x0 := hbx4.cell 0
                have x1 := hbx4.cell 1
                have x2 := hbx4.cell 2
                have H4 := Lib.hid (And.intro (HX.out.1.trans (hb4.mono HX.out.1.size)) (And.intro hbx4 hq1))
                have HL2 := Lib.hid (HLO.out w4 H4.out.1 _ L ((Sl_of_own (f := fun x : Int => Value.int .i64 x) (R := IntC) (fun _ _ _ _ h => h) hq1 (Nat.le_refl _) (Nat.le_refl _)).mono (part_le _ _ _)))
                clear hb4 hbx4 hq1 HL1
                go_wp2_with fail
                refine (HL2.out).mono ?_
                rintro e w5 ⟨q2, rfl, hq2, hb5⟩
                rw [HLR.out.2] at hq2 ⊢
                simp only at hq2
                obtain ⟨l2A, l2c, rfl, -⟩ := own_slice hq2
                simp only [List.length_nil]
                have hbx5 := H4.out.2.1.below hb5 H4.out.2.1.lt
                have x0 := hbx5.cell 0
                have x1 := hbx5.cell 1
                have x2 := hbx5.cell 2
                have H5 := Lib.hid (And.intro (H4.out.1.trans (hb5.mono H4.out.1.size)) (And.intro hbx5 hb5))
                clear hb5 hbx5 hq2
                go_wp2_with fail
                refine (HPA.out _ H5.out.1).mono ?_
                rintro e w6 ⟨p, rfl, hp, hb6⟩
                rw [HPR.out] at hp ⊢
                simp only at hp
                obtain ⟨pA, pc, rfl, -⟩ := own_slice hp
                have H6 := Lib.hid (And.intro (H5.out.1.trans (hb6.mono H5.out.1.size)) (And.intro hp (H5.out.2.2.trans (hb6.mono H5.out.2.2.size))))
                clear hb6 hp
                go_wp2_with fail
                go_ret
                exact ⟨rfl, H6.out.1⟩
    · have d2 : (e2 != 0) = true := by simp [he2]
      subst he1
      clear he2 ho1 ho2
      go_enter Tryd.func3, Tryd.ntmps3
      go_wp2_with (first
        | (go_at_call 5
           refine (HLV.out _ HBX.out.2).mono ?_
           rintro e w1 ⟨rfl, hb1⟩
           have hbx1 := HBX.out.1.below hb1 HBX.out.1.lt
           have x0 := hbx1.cell 0
           have x1 := hbx1.cell 1
           have x2 := hbx1.cell 2
           have H1 := Lib.hid (And.intro (HBX.out.2.trans (hb1.mono HBX.out.2.size)) hbx1)
           have HO1 := Lib.hid (HO1.out _ H1.out.1)
           clear hb1 hbx1))
      refine (HO1.out).mono ?_
      rintro e w2 ⟨r1, rfl, hr1, hb2⟩
      rw [HR1.out] at hr1 ⊢
      obtain ⟨rA1, rc1, rfl, -⟩ := own_slice hr1
      have hbx2 := H1.out.2.below hb2 H1.out.2.lt
      have x0 := hbx2.cell 0
      have x1 := hbx2.cell 1
      have x2 := hbx2.cell 2
      have H2 := Lib.hid (And.intro (H1.out.1.trans (hb2.mono H1.out.1.size)) (And.intro hbx2 (And.intro hr1 hb2)))
      have HO2 := Lib.hid (HO2.out _ H2.out.1)
      clear hb2 hbx2 hr1
      go_wp2_with fail
      refine (HO2.out).mono ?_
      rintro e w3 ⟨r2, rfl, hr2, hb3⟩
      rw [HR2.out] at hr2 ⊢
      obtain ⟨rA2, rc2, rfl, -⟩ := own_slice hr2
      have hbx3 := H2.out.2.1.below hb3 H2.out.2.1.lt
      have x0 := hbx3.cell 0
      have x1 := hbx3.cell 1
      have x2 := hbx3.cell 2
      have H3 := Lib.hid (And.intro (H2.out.1.trans (hb3.mono H2.out.1.size)) (And.intro hbx3 (And.intro hr2 hb3)))
      skip
      clear hb3 hbx3 hr2
      go_wp2_with fail
      go_ret
      exact ⟨rfl, H3.out.1⟩
  · have d1 : (e1 != 0) = true := by simp [he1]
    clear he1 ho1 ho2
    go_enter Tryd.func3, Tryd.ntmps3
    go_wp2_with (first
      | (go_at_call 5
         refine (HLV.out _ HBX.out.2).mono ?_
         rintro e w1 ⟨rfl, hb1⟩
         have hbx1 := HBX.out.1.below hb1 HBX.out.1.lt
         have x0 := hbx1.cell 0
         have x1 := hbx1.cell 1
         have x2 := hbx1.cell 2
         have H1 := Lib.hid (And.intro (HBX.out.2.trans (hb1.mono HBX.out.2.size)) hbx1)
         have HO1 := Lib.hid (HO1.out _ H1.out.1)
         clear hb1 hbx1))
    refine (HO1.out).mono ?_
    rintro e w2 ⟨r1, rfl, hr1, hb2⟩
    rw [HR1.out] at hr1 ⊢
    obtain ⟨rA1, rc1, rfl, -⟩ := own_slice hr1
    have hbx2 := H1.out.2.below hb2 H1.out.2.lt
    have x0 := hbx2.cell 0
    have x1 := hbx2.cell 1
    have x2 := hbx2.cell 2
    have H2 := Lib.hid (And.intro (H1.out.1.trans (hb2.mono H1.out.1.size)) (And.intro hbx2 (And.intro hr1 hb2)))
    have HO2 := Lib.hid (HO2.out _ H2.out.1)
    clear hb2 hbx2 hr1
    go_wp2_with fail
    refine (HO2.out).mono ?_
    rintro e w3 ⟨r2, rfl, hr2, hb3⟩
    rw [HR2.out] at hr2 ⊢
    obtain ⟨rA2, rc2, rfl, -⟩ := own_slice hr2
    have hbx3 := H2.out.2.1.below hb3 H2.out.2.1.lt
    have x0 := hbx3.cell 0
    have x1 := hbx3.cell 1
    have x2 := hbx3.cell 2
    have H3 := Lib.hid (And.intro (H2.out.1.trans (hb3.mono H2.out.1.size)) (And.intro hbx3 (And.intro hr2 hb3)))
    skip
    clear hb3 hbx3 hr2
    go_wp2_with fail
    go_ret
    exact ⟨rfl, H3.out.1⟩
end Go.Proofs.YtmkpjiahkepigaaDoor
namespace Go.Proofs.YtmkpjiahkepigaaDoor
open Go Go.RowKit Go.ChangeShapes Go.WideShapes Go.ChangeAt
namespace delayCut
set_option maxRecDepth 100000 in
theorem contract (H : Type) (enc : TypeId × Value → H) (W : World) (base : Nat) (args : Array Value) (ds gs : List (DataW H)) (before : List MemPlace)
    (hval : ∀ (j : Nat) t v, Tryd.f3.params[j]? = some t → args[j]? = some v → Value.okWide Tryd.prog W .any base t v)
    (hW : DataW.Whole enc Tryd.prog Tryd.f3.params.toList Rows.delayCutSpec.vars false W args.toList ds gs before) (hL : laidMetH Tryd.prog Rows.delayCutRow.laid W) :
    Calls Tryd.prog 3 args W fun e W' => ∃ v, e = .returned v ∧ Rows.delayCutSpec.post enc Tryd.prog Tryd.f3 false true false false W args v W' := by
  have hW' := hW
  obtain ⟨p, q, hA0, hV, rfl, hfz, hnd⟩ := hW
  have hA : DataW.TrodAll enc Tryd.prog W 0 (fun _ => true) true Tryd.f3.params.toList args.toList ds p := hA0
  have hA2 := hA
  rw [Tryd.params3] at hA hval
  obtain ⟨v0, vs0, d0, ds0, p0, q0, hargs, rfl, hp, h0, r0⟩ := trodAll_cons hA
  obtain ⟨v1, vs1, d1, ds1, p1, q1, rfl, rfl, hp1, h1, r1⟩ := trodAll_cons r0
  obtain ⟨v2, vs2, d2, ds2, p2, q2, rfl, rfl, hp2, h2, r2⟩ := trodAll_cons r1
  obtain ⟨v3, vs3, d3, ds3, p3, q3, rfl, rfl, hp3, h3, r3⟩ := trodAll_cons r2
  obtain ⟨rfl, rfl, hp9⟩ := trodAll_nil r3
  obtain rfl : args = #[v0, v1, v2, v3] := by cases args; simp_all
  obtain ⟨rfl, rfl⟩ := trodVars_none hV
  obtain ⟨cs, u, rfl, hu, hok⟩ := open_unit (hval 0 25 v0 rfl rfl) h0
  obtain ⟨n1, rfl⟩ := okWide_int Tryd.underlying3 (hval 1 3 v1 rfl rfl)
  obtain ⟨l2, hv2, _hi2⟩ := open_ints_i (hval 2 26 v2 rfl rfl) h2
  obtain ⟨l3, hv3, _hi3⟩ := open_ints_i (hval 3 26 v3 rfl rfl) h3
  have hlt := fun x hx => hW'.lt x hx
  simp only [List.append_nil] at hW' hlt
  have hT : Tab W := tab_of hL
  refine (delayCut_calls u cs n1 v2 l2 v3 l3 W hT hu hok hv2 hv3).mono fun e W' ⟨he, hb⟩ => ?_
  subst he
  exact ⟨_, rfl, post_below (pa := p) (pv := []) hW' (fun _ _ _ => trodAll_cons_mk (shut_bool Tryd.underlying4 _) trodAll_mk0)
    (fun sp hsp => trodAll_stays (by intro t ht; rw [Tryd.params3] at ht; exact all_again _ (by kernel_rfl) t ht) hA2 (fun x hx => hb.same (hlt x hx)) (fun x hx => hsp x hx)) (fun _ _ => rfl) (by simp) hb (ok_one (by kernel_rfl) rfl (okWide_bool_mk Tryd.underlying4 _))⟩
theorem laid_met (os : Os) : laidMet Tryd.prog Rows.delayCutRow.laid ((laidWorld os).forCall (fun _ _ => 0) ⟨#[], #[.agg #[.slice none 0 0, .slice none 0 0, .slice none 0 0], .int .i64 0, .slice none 0 0, .slice none 0 0], []⟩).memory :=
  laidMet_of_run' 8 (by kernel_rfl) (by kernel_rfl)
theorem reads (os : Os) {H : Type} (enc : TypeId × Value → H) : ∃ places, DataW.whole enc Tryd.prog ((laidWorld os).forCall (fun _ _ => 0) ⟨#[], #[.agg #[.slice none 0 0, .slice none 0 0, .slice none 0 0], .int .i64 0, .slice none 0 0, .slice none 0 0], []⟩).memory Tryd.f3.params.toList Rows.delayCutSpec.vars false
    (#[.agg #[.slice none 0 0, .slice none 0 0, .slice none 0 0], .int .i64 0, .slice none 0 0, .slice none 0 0] : Array Value).toList 8 = some ([.agg [.nil, .nil, .nil], .lit (.int .i64 0), .nil, .nil], [], places) :=
  ⟨[], by kernel_rfl⟩
set_option maxRecDepth 100000 in
theorem lifted (os : Os) (started : os.Started) (H : Type) (enc : TypeId × Value → H) (F : Stop.Interp) :
    ReturnsInHanded {} Tryd.checked os 3 .any ((OpenSpec.ofChange Rows.delayCutSpec).preRow enc Tryd.prog Tryd.f3 Rows.delayCutRow.domain false Rows.delayCutRow.laid) (((OpenSpec.ofChange Rows.delayCutSpec).at F).post enc Tryd.prog Tryd.f3 false true false false) := by
  obtain ⟨places, hx⟩ := reads os enc
  refine returnsInHanded_of_row (C := Tryd.checked) (s := OpenSpec.ofChange Rows.delayCutSpec) own_knob started (by kernel_rfl) Tryd.func3
    (witness_row_at (enc := enc) (C := Tryd.checked) false (laidWorld os) #[.agg #[.slice none 0 0, .slice none 0 0, .slice none 0 0], .int .i64 0, .slice none 0 0, .slice none 0 0] rfl (by kernel_rfl) (by kernel_rfl) (by kernel_rfl)
      (OpenSpec.preRow_of_cond 8 hx (by kernel_rfl) (fun k hk => by cases hk) (by kernel_rfl) (laid_met os))) ?_
  intro W base args ds gs before hval hW _ _ _ hL _ _
  exact contract H enc W base args ds gs before hval hW hL
theorem said : Rows.DelayCutSaid :=
  OpenClaim.holds_of_cond 3 Tryd.f3 rfl rfl rfl rfl rfl rfl rfl ⟨rfl, rfl, rfl, rfl, rfl⟩ rfl rfl rfl rfl rfl (by kernel_rfl) Tryd.func3 (by kernel_rfl)
    (of_decide_eq_true (by kernel_rfl)) (by unfold Func.isWrapper; first | (rw [if_pos (by decide +kernel)]; kernel_rfl) | (rw [if_neg (by decide +kernel)]; exact ⟨rfl, rfl⟩))
    (fun os started H enc _ F => by rw [OpenClaim.pre_eq_preRow]; exact lifted os started H enc F)
theorem plain (f : FuncId) (fn : Func) (hf : Tryd.pinned.checked.prog.funcNamed "stile/stilelaw11.DelayCut" = some f) (hfn : Tryd.pinned.checked.prog.funcs[f]? = some fn) :
    true = Tryd.pinned.checked.prog.looks [] ∧ ∀ (j : Nat) t, fn.params[j]? = some t → Tryd.pinned.checked.prog.wantsStandIn t = false := by
  obtain rfl : f = 3 := Option.some.inj ((show Tryd.prog.funcNamed "stile/stilelaw11.DelayCut" = some 3 by kernel_rfl).symm.trans hf) |>.symm
  obtain rfl : fn = Tryd.f3 := (Option.some.inj (Tryd.func3.symm.trans hfn)).symm
  refine ⟨by kernel_rfl, fun j t ht => ?_⟩
  rw [Tryd.params3] at ht
  have hm := Array.mem_of_getElem? ht
  simp at hm
  rcases hm with rfl | rfl | rfl
  · exact (show Tryd.prog.wantsStandIn 25 = false by kernel_rfl)
  · exact (show Tryd.prog.wantsStandIn 3 = false by kernel_rfl)
  · exact (show Tryd.prog.wantsStandIn 26 = false by kernel_rfl)
end delayCut
/-- THE CARD. -/
theorem delayCut_card : Rows.DelayCutCardSaid :=
  Claim7.holds_tied_plain_at .later [] _ _ _ _ delayCut.said (fun _ h => by cases h) (by kernel_rfl) (fun _ h => by cases h) delayCut_row_tie rfl ⟨rfl, rfl⟩ (by kernel_rfl) rfl delayCut.plain (by kernel_rfl)
#print axioms delayCut_card
end Go.Proofs.YtmkpjiahkepigaaDoor
