import Derived.Test.YtffgnjgphkdodaaGreatDoorP122
import Derived.Test.YtffgnjgphkdodaaGreatDoorP114
/- The walk of layer 11's reference: Pairs. -/
namespace Go.Proofs.YtffgnjgphkdodaaGreatDoor
open Go Go.RowKit
theorem open_loadq {u : Unit_} {g : Graph} {t F : List Int} {k : Nat} {nd : Node} (ht : ∀ j : Nat, (j : Int) ∈ t → ReachC g (-1) j) (hn : g.nodes[k]? = some nd) (h : (openG g t F)[k]? = some true) : (mkAt u g [] k).load = ldB u nd := by
  have hk := (List.getElem?_eq_some_iff.1 hn).1
  have ho := (openG_at t F hk h).1 rfl
  have hr := openC_reach (fun i hi => ht i hi) ho
  rw [mkAt_of hn (b := true) (by simp [hr])]
  simp
theorem stL_reach {u : Unit_} {g : Graph} {j : Nat} (h : (j : Int) ∈ stL u g) : ReachC g (-1) j := by
  obtain ⟨i, e, _, hs⟩ := stK_mem.1 h
  obtain rfl : j = i := by omega
  exact mk_reach hs
set_option maxRecDepth 100000 in
set_option maxHeartbeats 4000000 in
theorem rpairs_calls (u : Unit_) (cs : List Value) (t : Int) (w : World) (hu : UnitV (cmap w) cs u) (hok : UOk u) :
    Calls Tryz.prog 21 #[.agg cs.toArray, .int .i64 t] w (PairsPost u t w) := by
  have HAS := Lib.hid fun w1 (h : Below w.heap.size w w1) => rasked_calls u cs t w1 (hu.mono (cmap_below h)) hok
  obtain ⟨sv, lv, gv, rfl, -, -, hgs⟩ := hu
  obtain ⟨gA, gc, rfl, -⟩ := id hgs
  have hgl := hgs.len.2.2
  have hbx := Blk.new w 25 [sv, lv, .slice gA u.graphs.length gc]
  have hb0 := Below_alloc' w (.cells #[sv, lv, .slice gA u.graphs.length gc] 25)
  have HBX := Lib.hid (And.intro hbx hb0)
  have HG := Lib.hid hgs
  clear hbx hb0 hgs
  by_cases hE : askE u t = 0
  · obtain ⟨hc, h0, h1⟩ := askE_zero hE
    obtain ⟨tn, rfl⟩ := Int.eq_ofNat_of_zero_le h0
    obtain ⟨g, hg⟩ : ∃ g, u.graphs[tn]? = some g := ⟨_, List.getElem?_eq_getElem (by omega)⟩
    have hrg := (checkF_none hc).graphs g (List.mem_of_getElem? hg)
    have hpr : pairsR u (tn : Int) = if (prL u g (stL u g)).length ≤ 65536 then (prL u g (stL u g), 0) else ([], 3) := by
      unfold pairsR
      rw [if_pos hE, Int.toNat_natCast, hg]
    rw [hE] at HAS
    obtain ⟨gb, go, rfl, gcs, hgv0, hgc⟩ := HG.out.at_ hg
    have hst := fun (cv : Value) w1 (h : Below w.heap.size w w1) (hcl : Clss (cmap w1) cv (clsL u)) => rstores_calls u g gcs cv w1 hrg (hgv0.mono (cmap_below h)) hcl
    have hsp := fun w1 (x : Value) (s : Int) (h : Below w.heap.size w w1) (hx : Ints (cmap w1) x [s]) (hs : 0 ≤ s ∧ s < g.nodes.length) => rspread_calls g gcs x [s] (.slice none 0 0) [] w1 hrg.whole (hgv0.mono (cmap_below h)) hx (fun k hk => by rw [List.mem_singleton] at hk; rw [hk]; exact hs) (by simp) (Ints_nil _)
    obtain ⟨nv, rfl, hnv⟩ := hgv0
    obtain ⟨nA, nc, rfl, -⟩ := id hnv
    have hnl := hnv.len.2.2
    have HST := Lib.hid hst
    have HSP0 := Lib.hid hsp
    have HNV := Lib.hid hnv
    have h1' : (tn : Int) < u.graphs.length := h1
    have hpos := hrg.whole.pos
    have hmost := hrg.whole.most
    have HGD := Lib.hid (And.intro hc (And.intro hgc hrg))
    have HPR := Lib.hid hpr
    have hsl := stK_length u g g.nodes.length
    have hsl2 : (stL u g).length ≤ 4096 := by unfold stL; omega
    have hsb : ∀ (j : Nat) (s : Int), (stL u g)[j]? = some s → 0 ≤ s ∧ s < g.nodes.length := fun j s hj => stL_bound (List.mem_of_getElem? hj)
    have HLD0 : Hid (∀ w1, Below w.heap.size w w1 → ∀ j x, ([.string g.name, .int .i64 g.locals, .int .i64 g.slots, .slice nA g.nodes.length nc] : List Value)[j]? = some x → w1.cell? ⟨gb, go + tn * 4 + j, none⟩ = some x) := Lib.hid fun w1 hb j x hj => cmap_below hb _ _ _ (HGD.out.2.1 j x hj)
    obtain ⟨N, HN⟩ : ∃ N, Hid (g.nodes.length = N) := ⟨_, rfl⟩
    rw [HN.out] at hpos hmost hsb hnl HLD0 HSP0 HST
    have HSB := Lib.hid hsb
    clear hE hc hg hrg hpr h0 h1 hsl hsb hgc hst hsp hnv
    obtain ⟨S, hS⟩ : ∃ S, stL u g = S := ⟨_, rfl⟩
    rw [hS] at hsl2 HSB HPR HST
    have HS := Lib.hid hS
    clear hS
    go_enter Tryz.func21, Tryz.ntmps21
    go_wp2_with (first
      | (go_at_call 51
         refine (HAS.out _ HBX.out.2).mono ?_
         rintro e w1 ⟨cv, rfl, hcl, hb1⟩
         have hcl' := (hcl (by trivial)).mono (part_le _ _ _)
         obtain ⟨cA, cc, rfl, -⟩ := id hcl'
         have HU1 := Lib.hid (HBX.out.1.below hb1 HBX.out.1.lt)
         have c2 := HU1.out.cell 2
         have HB1 := Lib.hid (HBX.out.2.trans (hb1.mono HBX.out.2.size))
         have HCL := Lib.hid hcl'
         clear hb1 hcl hcl')
      | (refine wpList_load_at rfl 69 _ rfl gb (go + tn * 4) rfl _ _ (HLD0.out _ HB1.out) Tryz.underlying69 rfl (by kernel_rfl) ?_)
      | (refine stop_store 69 rfl ?_))
    refine Stop.intro ?_
    refine wpList_store_row rfl 69 _ _ rfl w1.heap.size #[.string g.name, .int .i64 g.locals, .int .i64 g.slots, .slice nA N nc] rfl rfl 69 _ (heap_alloc_new _ _) (by kernel_rfl) rfl (by simp [Value.oneCell']) ?_
    rw [World.setRow_alloc_new]
    obtain ⟨X, hX⟩ : ∃ X, w1.heap.size = X := ⟨_, rfl⟩
    have hxb0 := Blk.new w1 69 [.string g.name, .int .i64 g.locals, .int .i64 g.slots, .slice nA N nc]
    have HA1 := Lib.hid (HB1.out.alloc HB1.out.size (.cells #[.string g.name, .int .i64 g.locals, .int .i64 g.slots, .slice nA N nc] 69))
    obtain ⟨wA, hwA⟩ : ∃ wA, w1.alloc (.cells #[.string g.name, .int .i64 g.locals, .int .i64 g.slots, .slice nA N nc] 69) = wA := ⟨_, rfl⟩
    have hcA : Below w1.heap.size w1 wA := by rw [← hwA]; exact Below_alloc' _ _
    have HXA : Hid (Blk wA X 69 [.string g.name, .int .i64 g.locals, .int .i64 g.slots, .slice nA N nc]) := Lib.hid (by rw [← hwA, ← hX]; exact hxb0)
    rw [hwA] at HA1 ⊢
    have HCA := Lib.hid (HCL.out.mono (cmap_below hcA))
    rw [hX]
    have x0 := HXA.out.cell 0
    have x1 := HXA.out.cell 1
    have x2 := HXA.out.cell 2
    have x3 := HXA.out.cell 3
    clear hxb0 hwA hcA c2 HCL
    go_wp2_with (first
      | (go_at_call 54
         refine (HST.out _ _ HA1.out HCA.out).mono ?_
         rintro e w4 ⟨sv4, rfl, ho4, hb4⟩
         obtain ⟨sA, sc, rfl, -⟩ := own_slice ho4
         have HX4 := Lib.hid (HXA.out.below hb4 HXA.out.lt)
         have HS4 := Lib.hid (And.intro ho4 (And.intro (HA1.out.trans (hb4.mono HA1.out.size)) (HCA.out.mono (cmap_below hb4))))
         clear ho4 hb4))
    go_loopw [9, 33] (fun v9 v33 wr => ∃ j : Nat, v33 = .int .i64 j ∧ j ≤ S.length ∧ (prL u g (S.take j)).length ≤ 65536 ∧ Hid (wr.ownsRow w4.heap.size 49 2 v9 (prL u g (S.take j)).length (pairsV (prL u g (S.take j)))) ∧ Hid (Below w4.heap.size w4 wr)) (fun _ v33 _ => S.length - (intOf v33).toNat)
    case atStart => exact ⟨0, rfl, Nat.zero_le _, by simp [prL], Lib.hid (World.ownsRow_nil _ _ _ _), Lib.hid (Below.refl _ _)⟩
    case round =>
      obtain ⟨j, rfl, hj, hpl, HO, HB⟩ := hrel
      by_cases hlt : j < S.length
      · obtain ⟨s, hs⟩ : ∃ s, S[j]? = some s := ⟨_, List.getElem?_eq_getElem hlt⟩
        obtain ⟨hs0, hsN⟩ := HSB.out j s hs
        obtain ⟨sn, rfl⟩ := Int.eq_ofNat_of_zero_le hs0
        obtain ⟨sb, sc', e, -, hsbl, -, hsc⟩ := own_form HS4.out.1 (by omega)
        injection e with e e1 e2
        subst e e2
        have hsx := HB.out.size
        have scell : wr.cell? ⟨sb, j, none⟩ = some (.int .i64 (sn : Int)) := cmap_below HB.out _ _ _ ((hsc j (by omega)).trans (by simp [ints, hs]))
        have j0 : (0 : Int) ≤ j := by omega
        have jS : (j : Int) < S.length := by omega
        have hlit := own_new (base := 0) (e := 3) (size := 1) (n := 1) wr #[.int .i64 (sn : Int)] wr.heap.size rfl (by omega) (by omega) rfl (ints [(sn : Int)]) rfl
        have hbwr : Below w.heap.size w wr := HS4.out.2.1.trans (HB.out.mono HS4.out.2.1.size)
        have HSP := Lib.hid (HSP0.out (wr.alloc (.cells #[.int .i64 (sn : Int)] 3)) (.slice (some ⟨wr.heap.size, 0, none⟩) 1 1) (sn : Int) (hbwr.alloc hbwr.size _) (own_intsq hlit) ⟨hs0, hsN⟩)
        have HXW := Lib.hid (HX4.out.below HB.out HX4.out.lt)
        have y0 := HXW.out.cell 0
        have y1 := HXW.out.cell 1
        have y2 := HXW.out.cell 2
        have y3 := HXW.out.cell 3
        have hxwl := HXW.out.lt
        have HSS := Lib.hid hs
        obtain ⟨wo, rfl⟩ : ∃ wo : World, wo = wr := ⟨_, rfl⟩
        obtain ⟨P, hP⟩ : ∃ P, prL u g (S.take j) = P := ⟨_, rfl⟩
        rw [hP] at hpl HO
        have HP := Lib.hid hP
        clear hs hsc hlit hP hbwr
        go_wp2_with (first
          | (go_at_call 53
             refine (HSP.out).mono ?_
             rintro e w6 ⟨ov, rfl, hov, hb6⟩
             obtain ⟨ol, hoe⟩ : ∃ ol, openG g [(sn : Int)] [] = ol := ⟨_, rfl⟩
             have hol' : ol.length = N := by rw [← hoe, openG_length, HN.out]
             rw [hoe] at hov
             obtain ⟨ob, oc, rfl, -⟩ := own_form hov (by omega)
             have hb46 : Below w4.heap.size w4 w6 := (HB.out.alloc hsx _).trans (hb6.mono (by simp; omega))
             have ho6 := own_below (HO.out.alloc (.cells #[.int .i64 (sn : Int)] 3)) hb6
             have HX6 := Lib.hid (HX4.out.below hb46 HX4.out.lt)
             have z3 := HX6.out.cell 3
             have H6 := Lib.hid (And.intro ho6 (And.intro hb46 (And.intro hov (And.intro hoe.symm hol'))))
             clear hov hb6 hoe hol' hb46 ho6))
        go_loopw [9, 44] (fun v9 v44 wr => ∃ k : Nat, v44 = .int .i64 k ∧ k ≤ N ∧ (P ++ (ldK u g ol k).map fun x => ((sn : Int), x)).length ≤ 65536 ∧ Hid (wr.ownsRow w4.heap.size 49 2 v9 (P ++ (ldK u g ol k).map fun x => ((sn : Int), x)).length (pairsV (P ++ (ldK u g ol k).map fun x => ((sn : Int), x)))) ∧ Hid (Below w4.heap.size w4 wr) ∧ Hid (wr.ownsRow w4.heap.size 4 1 (.slice (some ⟨ob, 0, none⟩) N oc) N (bools ol))) (fun _ v44 _ => N - (intOf v44).toNat)
        case atStart => exact ⟨0, rfl, Nat.zero_le _, by simpa [ldK] using hpl, Lib.hid (by simpa [ldK] using H6.out.1), Lib.hid H6.out.2.1, Lib.hid (own_base H6.out.2.2.1 (by simp; omega))⟩
        case round =>
          obtain ⟨k, rfl, hk, hql, HO, HB, HOV⟩ := hrel
          by_cases hkn : k < N
          · have hss := ldK_succ u g ol k
            have hmo := ldK_mono u g ol (k := k + 1) (n := N) (by omega)
            obtain ⟨nd, hnd⟩ : ∃ nd, g.nodes[k]? = some nd := ⟨g.nodes[k]'(by rw [HN.out]; exact hkn), List.getElem?_eq_getElem _⟩
            obtain ⟨nb, no, rfl, hnc⟩ := HNV.out.at_ hnd
            have hbw : Below w.heap.size w wr := HS4.out.2.1.trans (HB.out.mono HS4.out.2.1.size)
            have HLD : Hid (∀ j v, nd.cells[j]? = some v → wr.cell? ⟨nb, no + k * 13 + j, none⟩ = some v) := Lib.hid fun j v h => cmap_below hbw _ _ _ (hnc j v h)
            have HST2 := Lib.hid (rload_calls u nd (.slice cA (clsL u).length cc) (wr.alloc (.cells nd.cells.toArray 66)) (HS4.out.2.2.mono (cmap_below (HB.out.alloc HB.out.size (.cells nd.cells.toArray 66)))) (fun h => dl_var (HGD.out.2.2.nodes nd (List.mem_of_getElem? hnd)) (.inl h)))
            obtain ⟨ml, hml⟩ : ∃ m, ldB u nd = m := ⟨_, rfl⟩
            have hkl : k < ol.length := by rw [H6.out.2.2.2.2]; exact hkn
            obtain ⟨b, hb⟩ : ∃ b, ol[k]? = some b := ⟨_, List.getElem?_eq_getElem hkl⟩
            have hld2 : (some b == some true && (mkAt u g [] k).load) = (some b == some true && ml) := by
              cases b with
              | false => rfl
              | true => rw [open_loadq (t := [(sn : Int)]) (F := []) (fun j hj => by rw [List.mem_singleton] at hj; exact stL_reach (by rw [HS.out]; rw [hj]; exact List.mem_of_getElem? HSS.out)) hnd (by rw [← H6.out.2.2.2.1]; exact hb), hml]
            rw [hb, hld2] at hss
            rw [hml] at HST2
            have hoc : wr.cell? ⟨ob, k, none⟩ = some (.bool b) := by
              rw [World.ownsRow.cellAt HOV.out k (by omega)]
              simp [bools, hb]
            obtain ⟨pA, pc, rfl, -⟩ := own_slice HO.out
            have k0 : (0 : Int) ≤ k := by omega
            have kN : (k : Int) < N := by omega
            have kS : (k : Int) ≤ 4096 := by omega
            have hws := HB.out.size
            have HSK := Lib.hid hss
            obtain ⟨Q, hQ⟩ : ∃ Q, P ++ (ldK u g ol k).map (fun x => ((sn : Int), x)) = Q := ⟨_, rfl⟩
            have hQ1 : ol[k]? = some b ∧ ldK u g ol (k + 1) = ldK u g ol k ++ (if (some b == some true && ml) = true then [(k : Int)] else []) ∧ (ldK u g ol (k + 1)).length ≤ (ldK u g ol N).length := ⟨hb, hss, hmo⟩
            have HQ1 := Lib.hid hQ1
            rw [hQ] at hql HO
            have HQ := Lib.hid hQ
            rw [hQ]
            clear hss hmo hkl hb hQ hQ1 HSK hld2 hml hnd hnc hbw
            have HB2 := Lib.hid (HB.out.alloc hws (.cells nd.cells.toArray 66))
            have HO2 := Lib.hid (HO.out.alloc (.cells nd.cells.toArray 66))
            have HV2 := Lib.hid (HOV.out.alloc (.cells nd.cells.toArray 66))
            unfold Node.cells at HLD HST2 HB2 HO2 HV2
            have hob2 := World.block_lt_of_cell? _ _ hoc
            simp only at hob2
            cases b with
            | false =>
              have hnx : Hid (P ++ (ldK u g ol (k + 1)).map (fun x => ((sn : Int), x)) = Q) := Lib.hid (by rw [HQ1.out.2.1]; simpa using HQ.out)
              go_wp2_with (first | (refine wpList_load_at rfl 66 _ rfl nb (no + k * 13) rfl _ _ HLD.out Tryz.underlying66 rfl (by kernel_rfl) ?_))
              go_roundw
              case rel => exact ⟨k + 1, by go_num, hkn, by rw [hnx.out]; exact hql, by rw [hnx.out]; exact HO2, HB2, HV2⟩
              case measure => simp [intOf]; omega
            | true =>
              cases ml with
              | false =>
                have hnx : Hid (P ++ (ldK u g ol (k + 1)).map (fun x => ((sn : Int), x)) = Q) := Lib.hid (by rw [HQ1.out.2.1]; simpa using HQ.out)
                go_wp2_with (first
                  | (refine wpList_load_at rfl 66 _ rfl nb (no + k * 13) rfl _ _ HLD.out Tryz.underlying66 rfl (by kernel_rfl) ?_)
                  | (go_at_call 55
                     refine (HST2.out).mono ?_
                     rintro e w9 ⟨rfl, hb9⟩
                     have H9 := Lib.hid (And.intro (HB2.out.trans (hb9.mono HB2.out.size)) (And.intro (own_below HO2.out hb9) (own_below HV2.out hb9)))
                     have hs9 := H9.out.1.size
                     clear hb9))
                go_roundw
                case rel => exact ⟨k + 1, by go_num, hkn, by rw [hnx.out]; exact hql, by rw [hnx.out]; exact Lib.hid H9.out.2.1, Lib.hid H9.out.1, Lib.hid H9.out.2.2⟩
                case measure => simp [intOf]; omega
              | true =>
                have hnx : Hid (P ++ (ldK u g ol (k + 1)).map (fun x => ((sn : Int), x)) = Q ++ [((sn : Int), (k : Int))]) := Lib.hid (by rw [HQ1.out.2.1, ← HQ.out]; simp)
                by_cases hful : Q.length = 65536
                · have dq : ((Q.length : Int) == 65536) = true := by simp; omega
                  have hbig : Hid (¬ (prL u g S).length ≤ 65536) := Lib.hid fun h => by
                    have h1 := prL_take u g S (j + 1)
                    rw [prL_snoc u g HSS.out, HP.out, ← H6.out.2.2.2.1, List.length_append, List.length_map, HN.out] at h1
                    have h2 := congrArg List.length hnx.out
                    rw [List.length_append, List.length_map, List.length_append, List.length_singleton] at h2
                    have h3 := HQ1.out.2.2
                    omega
                  clear hful
                  go_wp2_with (first
                    | (refine wpList_load_at rfl 66 _ rfl nb (no + k * 13) rfl _ _ HLD.out Tryz.underlying66 rfl (by kernel_rfl) ?_)
                    | (go_at_call 55
                       refine (HST2.out).mono ?_
                       rintro e w9 ⟨rfl, hb9⟩
                       have H9 := Lib.hid (And.intro (HB2.out.trans (hb9.mono HB2.out.size)) (And.intro (own_below HO2.out hb9) (own_below HV2.out hb9)))
                       have hs9 := H9.out.1.size
                       clear hb9))
                  go_ret2
                  rw [if_neg hbig.out] at HPR
                  refine ⟨.slice none 0 0, by rw [HPR.out]; rfl, by rw [HPR.out]; exact World.ownsRow_nil _ _ _ _, ?_⟩
                  exact HS4.out.2.1.trans (H9.out.1.mono HS4.out.2.1.size)
                · have dq : ((Q.length : Int) == 65536) = false := by simp; omega
                  go_wp2_with (first
                    | (refine wpList_load_at rfl 66 _ rfl nb (no + k * 13) rfl _ _ HLD.out Tryz.underlying66 rfl (by kernel_rfl) ?_)
                    | (go_at_call 55
                       refine (HST2.out).mono ?_
                       rintro e w9 ⟨rfl, hb9⟩
                       have H9 := Lib.hid (And.intro (HB2.out.trans (hb9.mono HB2.out.size)) (And.intro (own_below HO2.out hb9) (own_below HV2.out hb9)))
                       have hs9 := H9.out.1.size
                       clear hb9)
                    | (refine stop_append rfl ?_))
                  have how2 := H9.out.2.1.alloc (.cells #[.int .i64 (sn : Int), .int .i64 (k : Int)] 49)
                  have hov2 := H9.out.2.2.alloc (.cells #[.int .i64 (sn : Int), .int .i64 (k : Int)] 49)
                  have HOV2 := Lib.hid hov2
                  have HOW := Lib.hid how2
                  clear hov2
                  refine Stop.intro ?_
                  refine app_one sl_delay rfl _ _ rfl w4.heap.size (.slice pA Q.length pc) Q.length (pairsV Q) rfl how2 _ 0 1 [.int .i64 (sn : Int), .int .i64 (k : Int)] rfl rfl (cell_newl w9 [.int .i64 (sn : Int), .int .i64 (k : Int)] _ _ rfl) (by simp [Value.oneCell']) (by omega) (by decide) (by simp; omega) ?_
                  intro v' w7 hown5 hgr hobn
                  have hb7 := (H9.out.1.alloc hs9 (.cells #[.int .i64 (sn : Int), .int .i64 (k : Int)] 49)).grown hgr (by simp; omega) (fun b hb => (own_lt HO.out b hb))
                  have hov7 := HOV2.out.kept hgr (own_ne2 HOV2.out HOW.out (by decide))
                  have HF := Lib.hid (And.intro hown5 (And.intro hb7 hov7))
                  clear hown5 hgr hobn hb7 hov7 how2
                  go_wp2
                  go_roundw
                  case rel => exact ⟨k + 1, by go_num, hkn, by rw [hnx.out]; simp; omega, by rw [hnx.out]; exact Lib.hid (by simpa [pairsV, pairV] using HF.out.1), Lib.hid HF.out.2.1, Lib.hid HF.out.2.2⟩
                  case measure => simp [intOf]; omega
          · obtain rfl : k = N := by omega
            have hnx : Hid (prL u g (S.take (j + 1)) = P ++ (ldK u g ol k).map (fun x => ((sn : Int), x))) := Lib.hid (by rw [prL_snoc u g HSS.out, HP.out, ← H6.out.2.2.2.1, HN.out])
            go_wp2
            go_roundw
            case rel => exact ⟨j + 1, by go_num, hlt, by rw [hnx.out]; exact hql, by rw [hnx.out]; exact HO, HB⟩
            case measure => simp [intOf]; omega
      · obtain rfl : j = S.length := by omega
        rw [List.take_length] at hpl HO
        rw [if_pos hpl] at HPR
        have HPL := Lib.hid hpl
        clear hpl
        go_wp2
        go_ret2
        have h4 := HS4.out.2.1.size
        exact ⟨_, by rw [HPR.out]; rfl, by rw [HPR.out]; exact own_base HO.out (by omega), HS4.out.2.1.trans (HB.out.mono h4)⟩
  · have hpr : pairsR u t = ([], askE u t) := by unfold pairsR; rw [if_neg hE]
    have hd : (askE u t != 0) = true := by simp [hE]
    have hne := hE
    obtain ⟨er, her⟩ : ∃ er, askE u t = er := ⟨_, rfl⟩
    rw [her] at hpr HAS hd
    have HPR := Lib.hid hpr
    clear hE hpr hne her
    go_enter Tryz.func21, Tryz.ntmps21
    go_wp2_with (first
      | (go_at_call 51
         refine (HAS.out _ HBX.out.2).mono ?_
         rintro e w1 ⟨cv, rfl, -, hb1⟩
         have HB1 := Lib.hid (HBX.out.2.trans (hb1.mono HBX.out.2.size))
         clear hb1))
    go_ret2
    exact ⟨.slice none 0 0, by rw [HPR.out]; rfl, by rw [HPR.out]; exact World.ownsRow_nil _ _ _ _, HB1.out⟩
end Go.Proofs.YtffgnjgphkdodaaGreatDoor
