import Derived.Test.YtffgnjgphkdodaaGreatDoorP114
/- The walk of delay's Way. -/
namespace Go.Proofs.YtffgnjgphkdodaaGreatDoor
open Go Go.RowKit
/-- What Way hands out. -/
def WayPost (u : Unit_) (t a b : Int) (w : World) (e : Ending) (w' : World) : Prop := ∃ r, e = .returned (.tuple #[r, .bool (wayR u t a b).2.1, .int .i64 (wayR u t a b).2.2]) ∧ w'.ownsRow w.heap.size 3 1 r (wayR u t a b).1.length (ints (wayR u t a b).1) ∧ Below w.heap.size w w'
set_option maxRecDepth 100000 in
set_option maxHeartbeats 8000000 in
theorem way_calls (u : Unit_) (cs : List Value) (t a b : Int) (w : World) (hT : Tab w) (hu : UnitV (cmap w) cs u) (hok : UOk u) :
    Calls Tryz.prog 22 #[.agg cs.toArray, .int .i64 t, .int .i64 a, .int .i64 b] w (WayPost u t a b w) := by
  have HBG := Lib.hid fun w1 (h : Below w.heap.size w w1) => begun_calls u cs t w1 (hu.mono (cmap_below h)) hok
  have HMD := Lib.hid fun w1 (h : Below w.heap.size w w1) (tn : Nat) (g : Graph) (hc : checkF u = none) (hg : u.graphs[tn]? = some g) => made_calls u cs tn g (.slice none 0 0) [] w1 (hT.below h) (hu.mono (cmap_below h)) hok hc hg (Ints_nil _) rfl
  obtain ⟨sv, lv, gv, rfl, -, -, hgs⟩ := hu
  obtain ⟨gA, gc, rfl, -⟩ := id hgs
  have hgl := hgs.len.2.2
  have hbx := Blk.new w 25 [sv, lv, .slice gA u.graphs.length gc]
  have hb0 := Below_alloc' w (.cells #[sv, lv, .slice gA u.graphs.length gc] 25)
  have HBX := Lib.hid (And.intro hbx hb0)
  have HG := Lib.hid hgs
  clear hbx hb0 hgs hT
  by_cases hE : askE u t = 0
  · obtain ⟨hc, h0, h1⟩ := askE_zero hE
    obtain ⟨tn, rfl⟩ := Int.eq_ofNat_of_zero_le h0
    obtain ⟨g, hg⟩ : ∃ g, u.graphs[tn]? = some g := ⟨_, List.getElem?_eq_getElem (by omega)⟩
    have hrg := (checkF_none hc).graphs g (List.mem_of_getElem? hg)
    obtain ⟨gb, go, rfl, gcs, hgv0, hgc⟩ := HG.out.at_ hg
    obtain ⟨nv, rfl, hnv⟩ := hgv0
    obtain ⟨nA, nc, rfl, -⟩ := id hnv
    have hnl := hnv.len.2.2
    have hwr : wayR u (tn : Int) a b = (if 0 ≤ a ∧ a < g.nodes.length ∧ 0 ≤ b ∧ b < g.nodes.length then
        if (mkAt u g [] a.toNat).store = true ∧ (mkAt u g [] b.toNat).load = true then
          match (farD g b.toNat)[a.toNat]? with
          | some x => if x < 0 then ([], false, 0) else (wayF g (farD g b.toNat) x.toNat a, true, 0)
          | none => ([], false, 0)
        else ([], false, 0)
      else (([], false, 2) : List Int × Bool × Int)) := by
      unfold wayR
      rw [if_pos hE, Int.toNat_natCast, hg]
      first | done | rfl
    rw [hE] at HBG
    have hpos := hrg.whole.pos
    have hmost := hrg.whole.most
    have HGD := Lib.hid (And.intro hc (And.intro hg (And.intro hrg hgc)))
    have h1' : (tn : Int) < u.graphs.length := h1
    have HWR := Lib.hid hwr
    obtain ⟨N, HN⟩ : ∃ N, Hid (g.nodes.length = N) := ⟨_, rfl⟩
    have hld : ∀ w1, Below w.heap.size w w1 → ∀ j x, ([.string g.name, .int .i64 g.locals, .int .i64 g.slots, .slice nA g.nodes.length nc] : List Value)[j]? = some x → w1.cell? ⟨gb, go + tn * 4 + j, none⟩ = some x := fun w1 hb j x hj => cmap_below hb _ _ _ (HGD.out.2.2.2 j x hj)
    rw [HN.out] at hpos hmost HWR hnl hld
    have HLD := Lib.hid hld
    clear hE hc hg hrg hgc hwr hnv h1 hld
    by_cases hR : 0 ≤ a ∧ a < N ∧ 0 ≤ b ∧ b < N
    · rw [if_pos hR] at HWR
      obtain ⟨ha0, haN, hb0, hbN⟩ := hR
      obtain ⟨an, rfl⟩ := Int.eq_ofNat_of_zero_le ha0
      obtain ⟨bn, rfl⟩ := Int.eq_ofNat_of_zero_le hb0
      rw [Int.toNat_natCast, Int.toNat_natCast] at HWR
      have da : decide ((an : Int) < 0) = false := decide_eq_false (by omega)
      have da2 : decide ((N : Int) ≤ an) = false := decide_eq_false (by omega)
      have da3 : decide (N ≤ an) = false := decide_eq_false (by omega)
      have db : decide ((bn : Int) < 0) = false := decide_eq_false (by omega)
      have db2 : decide ((N : Int) ≤ bn) = false := decide_eq_false (by omega)
      have db3 : decide (N ≤ bn) = false := decide_eq_false (by omega)
      obtain ⟨ma, hma⟩ : ∃ ma, (mkAt u g [] an).store = ma := ⟨_, rfl⟩
      obtain ⟨mb, hmb⟩ : ∃ mb, (mkAt u g [] bn).load = mb := ⟨_, rfl⟩
      rw [hma, hmb] at HWR
      have HMA := Lib.hid (And.intro hma hmb)
      clear hma hmb ha0 hb0
      by_cases hM : ma = true ∧ mb = true
      · rw [if_pos hM] at HWR
        obtain ⟨rfl, rfl⟩ := hM
        have hfd := farD_is g bn
        obtain ⟨D, hD⟩ : ∃ D, farD g bn = D := ⟨_, rfl⟩
        rw [hD] at HWR hfd
        have hal : an < D.length := by rw [hfd.1, HN.out]; omega
        obtain ⟨x, hx⟩ : ∃ x, D[an]? = some x := ⟨_, List.getElem?_eq_getElem hal⟩
        rw [hx] at HWR
        simp only at HWR
        have HFD := Lib.hid (And.intro hfd (And.intro hx hal))
        clear hfd hD hx hal
        by_cases hx0 : x < 0
        · have d1 : decide (x < 0) = true := decide_eq_true hx0
          rw [if_pos hx0] at HWR
          clear hx0
          go_enter Tryz.func22, Tryz.ntmps22
          go_wp2_with (first
            | (go_at_call 46
               refine (HBG.out _ HBX.out.2).mono ?_
               rintro e w1 ⟨rfl, hb1⟩
               have HU1 := Lib.hid (HBX.out.1.below hb1 HBX.out.1.lt)
               have q0 := HU1.out.cell 0
               have q1 := HU1.out.cell 1
               have q2 := HU1.out.cell 2
               have q4 := HLD.out w1 (HBX.out.2.trans (hb1.mono HBX.out.2.size)) 3 _ rfl
               have HB1 := Lib.hid (HBX.out.2.trans (hb1.mono HBX.out.2.size))
               clear hb1)
            | (go_at_call 48
               refine (HMD.out _ HB1.out tn g HGD.out.1 HGD.out.2.1).mono ?_
               rintro e w3 ⟨Y, rfl, hth, hb3⟩
               have HTH := Lib.hid (And.intro hth hb3)
               obtain ⟨X, nb, no, nc', hY, hX, hyb, hxb, hnv⟩ := hth.ex
               have HXB := Lib.hid (And.intro hxb (And.intro hyb hnv))
               have hyl := hyb.lt
               have hxl := hxb.lt
               have y3 := hyb.cell 3
               have y4 := hyb.cell 4
               rw [HN.out] at y3 y4
               have m1 : w3.cell? ⟨X, an * 4 + 0, none⟩ = some (.bool true) := by
                 rw [hxb.cell]
                 exact fm_at mk_len (mkL_at u g [] (by rw [HN.out]; omega)) (j := 0) (by rw [← HMA.out.1]; rfl)
               have m2 : w3.cell? ⟨X, bn * 4 + 1, none⟩ = some (.bool true) := by
                 rw [hxb.cell]
                 exact fm_at mk_len (mkL_at u g [] (by rw [HN.out]; omega)) (j := 1) (by rw [← HMA.out.2]; rfl)
               rw [Nat.add_zero] at m1
               clear hth hb3 hyb hxb hnv)
            | (go_at_call 59
               refine (far_calls u g [] Y w1.heap.size bn w3 HGD.out.2.2.1 HTH.out.1 HTH.out.2.size (by rw [HN.out]; omega)).mono ?_
               rintro e w4 ⟨fv, D', rfl, hfi, hfl, hb4⟩
               have hDD : D' = D := hfl.inj HFD.out.1
               subst hDD
               have hDN : D'.length = N := by rw [HFD.out.1.1, HN.out]
               obtain ⟨fA, fc, rfl, -⟩ := id hfi
               rw [hDN] at hfi
               obtain ⟨fb, fo, rfl, hfc⟩ := hfi.at_ HFD.out.2.1
               rw [Nat.mul_one] at hfc
               have hfx := (part_at hfc).1
               rw [hDN]
               have HF4 := Lib.hid (And.intro hfi (And.intro hb4 hDN))
               clear hfi hfl hb4 hfc hDN))
          refine bodyPost_ret (v := .tuple #[.slice none 0 0, .bool false, .int .i64 0]) (by simp [results, Tryz.results22, go_sem]) rfl ?_
          exact ⟨.slice none 0 0, by (rw [HWR.out]; try rfl), by rw [HWR.out]; exact World.ownsRow_nil _ _ _ _, ((HB1.out.trans (HTH.out.2.mono HB1.out.size)).trans (HF4.out.2.1.mono (by have := HB1.out.size; have := HTH.out.2.size; omega)))⟩
        · have d1 : decide (x < 0) = false := decide_eq_false hx0
          rw [if_neg hx0] at HWR
          obtain ⟨d, rfl⟩ := Int.eq_ofNat_of_zero_le (show 0 ≤ x by omega)
          rw [Int.toNat_natCast] at HWR
          clear hx0
          go_enter Tryz.func22, Tryz.ntmps22
          go_wp2_with (first
            | (go_at_call 46
               refine (HBG.out _ HBX.out.2).mono ?_
               rintro e w1 ⟨rfl, hb1⟩
               have HU1 := Lib.hid (HBX.out.1.below hb1 HBX.out.1.lt)
               have q0 := HU1.out.cell 0
               have q1 := HU1.out.cell 1
               have q2 := HU1.out.cell 2
               have q4 := HLD.out w1 (HBX.out.2.trans (hb1.mono HBX.out.2.size)) 3 _ rfl
               have HB1 := Lib.hid (HBX.out.2.trans (hb1.mono HBX.out.2.size))
               clear hb1)
            | (go_at_call 48
               refine (HMD.out _ HB1.out tn g HGD.out.1 HGD.out.2.1).mono ?_
               rintro e w3 ⟨Y, rfl, hth, hb3⟩
               have HTH := Lib.hid (And.intro hth hb3)
               obtain ⟨X, nb, no, nc', hY, hX, hyb, hxb, hnv⟩ := hth.ex
               have HXB := Lib.hid (And.intro hxb (And.intro hyb hnv))
               have hyl := hyb.lt
               have hxl := hxb.lt
               have y3 := hyb.cell 3
               have y4 := hyb.cell 4
               rw [HN.out] at y3 y4
               have m1 : w3.cell? ⟨X, an * 4 + 0, none⟩ = some (.bool true) := by
                 rw [hxb.cell]
                 exact fm_at mk_len (mkL_at u g [] (by rw [HN.out]; omega)) (j := 0) (by rw [← HMA.out.1]; rfl)
               have m2 : w3.cell? ⟨X, bn * 4 + 1, none⟩ = some (.bool true) := by
                 rw [hxb.cell]
                 exact fm_at mk_len (mkL_at u g [] (by rw [HN.out]; omega)) (j := 1) (by rw [← HMA.out.2]; rfl)
               rw [Nat.add_zero] at m1
               clear hth hb3 hyb hxb hnv)
            | (go_at_call 59
               refine (far_calls u g [] Y w1.heap.size bn w3 HGD.out.2.2.1 HTH.out.1 HTH.out.2.size (by rw [HN.out]; omega)).mono ?_
               rintro e w4 ⟨fv, D', rfl, hfi, hfl, hb4⟩
               have hDD : D' = D := hfl.inj HFD.out.1
               subst hDD
               have hDN : D'.length = N := by rw [HFD.out.1.1, HN.out]
               obtain ⟨fA, fc, rfl, -⟩ := id hfi
               rw [hDN] at hfi
               obtain ⟨fb, fo, rfl, hfc⟩ := hfi.at_ HFD.out.2.1
               rw [Nat.mul_one] at hfc
               have hfx := (part_at hfc).1
               rw [hDN]
               have HF4 := Lib.hid (And.intro hfi (And.intro hb4 hDN))
               clear hfi hfl hb4 hfc hDN))
          obtain ⟨W, hW⟩ : ∃ W, wayF g D' d (an : Int) = W := ⟨_, rfl⟩
          rw [hW] at HWR
          have hs1 := HB1.out.size
          have hs3 := HTH.out.2.size
          have hs4 := HF4.out.2.1.size
          have hdN : d < N := by
            rcases HFD.out.1.2 an _ HFD.out.2.1 with ⟨h1, _⟩ | ⟨d', h1, h2⟩
            · omega
            · have := h2.lt (by rw [HN.out]; omega)
              rw [HN.out] at this
              omega
          have HW := Lib.hid hW
          have hini := own_new (base := w4.heap.size) (e := 3) (size := 1) (n := 1) w4 #[.int .i64 (an : Int)] w4.heap.size rfl (Nat.le_refl _) (by omega) rfl (ints [(an : Int)]) rfl
          have HINI := Lib.hid hini
          clear hW hini
          go_loopw [15, 16] (fun v15 v16 wr => ∃ (i e : Nat) (pre : List Int), v16 = .int .i64 (i : Int) ∧ pre.length + e = d ∧ Hid (D'[i]? = some (e : Int) ∧ i < N ∧ pre ++ wayF g D' e (i : Int) = W) ∧ Hid (wr.ownsRow w4.heap.size 3 1 v15 (pre.length + 1) (ints (pre ++ [(i : Int)]))) ∧ Hid (Below w4.heap.size w4 wr)) (fun v15 _ _ => d + 1 - (match v15 with | .slice _ n _ => n | _ => 0))
          case atStart => exact ⟨an, d, [], rfl, by simp, Lib.hid ⟨HFD.out.2.1, by omega, HW.out⟩, HINI, Lib.hid (Below_alloc' _ _)⟩
          case round =>
            obtain ⟨i, e, pre, rfl, hpe, HI, HO, HB⟩ := hrel
            have hiN := HI.out.2.1
            have hi0 : (0 : Int) ≤ i := by omega
            have hiN' : (i : Int) < N := by omega
            have hfi4 : Ints (cmap wr) (.slice (some ⟨fb, fo, none⟩) N fc) D' := (HF4.out.1.mono (part_le _ _ _)).mono (cmap_below HB.out)
            obtain ⟨fb', fo', e', hfc⟩ := hfi4.at_ HI.out.1
            injection e' with e'
            injection e' with e1 e2
            subst e1 e2
            rw [Nat.mul_one] at hfc
            have fci : wr.cell? ⟨fb, fo + i, none⟩ = some (.int .i64 (e : Int)) := hfc
            have HFI := Lib.hid hfi4
            clear hfc hfi4
            obtain ⟨wA, wc, rfl, -⟩ := own_slice HO.out
            cases e with
            | zero =>
              have e0 : ((0 : Nat) : Int) = 0 := rfl
              rw [e0] at fci
              have hfin : Hid (W = pre ++ [(i : Int)]) := Lib.hid HI.out.2.2.symm
              go_wp2
              refine bodyPost_ret (v := .tuple #[.slice wA (pre.length + 1) wc, .bool true, .int .i64 0]) (by simp [results, Tryz.results22, go_sem]) rfl ?_
              refine ⟨_, by rw [HWR.out], ?_, ((HB1.out.trans (HTH.out.2.mono hs1)).trans (HF4.out.2.1.mono (by omega))).trans (HB.out.mono (by omega))⟩
              rw [HWR.out, hfin.out]
              have h1 := own_base (base' := w.heap.size) HO.out (by omega)
              simpa using h1
            | succ e =>
              have e1 : ((e + 1 : Nat) : Int) = (e : Int) + 1 := by omega
              rw [e1] at fci
              have he0 : (0 : Int) ≤ e := by omega
              have heN : (e : Int) ≤ 4096 := by omega
              have dgt : decide ((0 : Int) < (e : Int) + 1) = true := decide_eq_true (by omega)
              obtain ⟨nd, hnd⟩ : ∃ nd, g.nodes[i]? = some nd := ⟨g.nodes[i]'(by rw [HN.out]; exact hiN), List.getElem?_eq_getElem _⟩
              have hbo := best_ok HGD.out.2.2.1.whole (tg := bn) (by rw [HN.out]; omega) HFD.out.1 (d := e) (by rw [HI.out.1, e1]) hnd
              have hyr := ((HXB.out.2.1.below HF4.out.2.1 hyl).below HB.out (by omega))
              have y3r := hyr.cell 3
              rw [HN.out] at y3r
              have hnvr : Nodes (cmap wr) (.slice (some ⟨nb, no, none⟩) g.nodes.length nc') g.nodes := ((HXB.out.2.2.mono (part_le _ _ _)).mono (cmap_below HF4.out.2.1)).mono (cmap_below HB.out)
              obtain ⟨nb', no', e', hnc⟩ := hnvr.at_ hnd
              injection e' with e'
              injection e' with e3 e4
              subst e3 e4
              have HLDn : Hid (∀ j v, nd.cells[j]? = some v → wr.cell? ⟨nb, no + i * 13 + j, none⟩ = some v) := Lib.hid hnc
              have hf2 := fol2_length nd
              have hff := HGD.out.2.2.1.whole.fol nd (List.mem_of_getElem? hnd)
              rw [HN.out] at hff
              have hff2 : ∀ (q : Nat) (y : Int), (fol2 nd)[q]? = some y → 0 ≤ y ∧ y < N := fun q y hq => hff y ((fol_mem nd y).1 (List.mem_of_getElem? hq))
              have hbf := bestK_fol D' ((e : Int) + 1) (-1) nd (fun k hk => (hff k hk).1)
              have HFF := Lib.hid hff2
              have HND := Lib.hid (And.intro hnd (And.intro hbo hbf))
              obtain ⟨wo, rfl⟩ : ∃ wo : World, wo = wr := ⟨_, rfl⟩
              have hws := HB.out.size
              clear hnd hbo hyr hnvr hnc hff hff2 hbf
              go_wp2_with (first
                | (refine wpList_load_at rfl 66 _ rfl nb (no + i * 13) rfl nd.cells _ HLDn.out Tryz.underlying66 rfl (by kernel_rfl) ?_)
                | (go_at_call 60
                   refine (dfollows_calls nd _).mono ?_
                   rintro e w5 ⟨fv5, rfl, hf5, hb5⟩
                   obtain ⟨f5A, f5c, rfl, hf5c, hf5m, hf5e⟩ := hf5
                   have HFV : Hid (Ints (part w5 wo.heap.size w5.heap.size) (.slice f5A (fol2 nd).length f5c) (fol2 nd)) := Lib.hid ⟨f5A, f5c, rfl, hf5c, hf5m, hf5e⟩
                   have HB5 := Lib.hid hb5
                   clear hb5 hf5e hf5c hf5m))
              obtain ⟨fs, hfs⟩ : ∃ fs, fol2 nd = fs := ⟨_, rfl⟩
              rw [hfs] at HFV HFF hf2 HND
              rw [hfs]
              have HFS := Lib.hid hfs
              clear hfs
              have fc5 : w5.cell? ⟨fb, fo + i, none⟩ = some (.int .i64 ((e : Int) + 1)) := cmap_below HB5.out _ _ _ fci
              have HFI5 := Lib.hid (HFI.out.mono (cmap_below HB5.out))
              clear fci
              go_loopw [17, 98] (fun v17 v98 wr => ∃ q : Nat, v17 = .int .i64 (bestK D' ((e : Int) + 1) (-1) (fs.take q)) ∧ v98 = .int .i64 q ∧ q ≤ fs.length ∧ Hid (∃ m, wr = w5.drewN m)) (fun _ v98 _ => fs.length - (intOf v98).toNat)
              case atStart => exact ⟨0, rfl, rfl, Nat.zero_le _, Lib.hid ⟨0, rfl⟩⟩
              case round =>
                obtain ⟨q, rfl, rfl, hq, HM⟩ := hrel
                obtain ⟨m, rfl⟩ := HM.out
                by_cases hql : q < fs.length
                · obtain ⟨y, hy⟩ : ∃ y, fs[q]? = some y := ⟨_, List.getElem?_eq_getElem hql⟩
                  obtain ⟨hy0, hyN⟩ := HFF.out q y hy
                  obtain ⟨f5b, f5o, rfl, h5c⟩ := HFV.out.at_ hy
                  rw [Nat.mul_one] at h5c
                  have h5d : w5.cell? ⟨f5b, f5o + q, none⟩ = some (.int .i64 y) := (part_at h5c).1
                  obtain ⟨yn, rfl⟩ := Int.eq_ofNat_of_zero_le hy0
                  have hyl : yn < D'.length := by rw [HF4.out.2.2]; omega
                  obtain ⟨z, hz⟩ : ∃ z, D'[yn]? = some z := ⟨_, List.getElem?_eq_getElem hyl⟩
                  obtain ⟨fb', fo', e', hfc⟩ := HFI5.out.at_ hz
                  injection e' with e'
                  injection e' with e3 e4
                  subst e3 e4
                  rw [Nat.mul_one] at hfc
                  have fcz : w5.cell? ⟨fb, fo + yn, none⟩ = some (.int .i64 z) := hfc
                  have hsn := bestK_snoc D' ((e : Int) + 1) (yn : Int) (fs.take q) (-1)
                  have htk : fs.take q ++ [(yn : Int)] = fs.take (q + 1) := by rw [List.take_succ_eq_append_getElem hql]; congr 2; have := hy; rw [List.getElem?_eq_getElem hql] at this; injection this with this; exact this.symm
                  rw [htk, Int.toNat_natCast, hz] at hsn
                  obtain ⟨bk, hbk⟩ : ∃ bk, bestK D' ((e : Int) + 1) (-1) (fs.take q) = bk := ⟨_, rfl⟩
                  rw [hbk] at hsn
                  rw [hbk]
                  have q0 : (0 : Int) ≤ q := by omega
                  have qf : (q : Int) < fs.length := by omega
                  have qs : (q : Int) ≤ 2 := by omega
                  have HSN := Lib.hid hsn
                  clear hsn htk hbk hy h5c hfc hz hyl
                  by_cases c1 : z = (e : Int)
                  · have g1 : (z == (e : Int)) = true := by simp [c1]
                    have hzz : Hid (some z = some ((e : Int) + 1 - 1)) := Lib.hid (by rw [c1]; congr 1; omega)
                    clear c1
                    by_cases c2 : bk < 0
                    · have g2 : decide (bk < 0) = true := decide_eq_true c2
                      have hnx : Hid (bestK D' ((e : Int) + 1) (-1) (fs.take (q + 1)) = (yn : Int)) := Lib.hid (by rw [HSN.out, if_pos ⟨hzz.out, .inl c2⟩])
                      clear c2
                      go_wp2
                      go_quiet (fail)
                      go_wp2
                      go_roundw
                      case rel => exact ⟨q + 1, by rw [hnx.out], by go_num, hql, Lib.hid ⟨_, rfl⟩⟩
                      case measure => simp [intOf]; omega
                    · have g2 : decide (bk < 0) = false := decide_eq_false c2
                      by_cases c3 : (yn : Int) < bk
                      · have g3 : decide ((yn : Int) < bk) = true := decide_eq_true c3
                        have hnx : Hid (bestK D' ((e : Int) + 1) (-1) (fs.take (q + 1)) = (yn : Int)) := Lib.hid (by rw [HSN.out, if_pos ⟨hzz.out, .inr c3⟩])
                        clear c2 c3
                        go_wp2
                        go_quiet (fail)
                        go_wp2
                        go_roundw
                        case rel => exact ⟨q + 1, by rw [hnx.out], by go_num, hql, Lib.hid ⟨_, rfl⟩⟩
                        case measure => simp [intOf]; omega
                      · have g3 : decide ((yn : Int) < bk) = false := decide_eq_false c3
                        have hnx : Hid (bestK D' ((e : Int) + 1) (-1) (fs.take (q + 1)) = bk) := Lib.hid (by rw [HSN.out, if_neg (by rintro ⟨_, h | h⟩; exact c2 h; exact c3 h)])
                        clear c2 c3
                        go_wp2
                        go_quiet (fail)
                        go_wp2
                        go_roundw
                        case rel => exact ⟨q + 1, by rw [hnx.out], by go_num, hql, Lib.hid ⟨_, rfl⟩⟩
                        case measure => simp [intOf]; omega
                  · have g1 : (z == (e : Int)) = false := by simp [c1]
                    have hnx : Hid (bestK D' ((e : Int) + 1) (-1) (fs.take (q + 1)) = bk) := Lib.hid (by rw [HSN.out, if_neg (by rintro ⟨h, _⟩; injection h with h; omega)])
                    clear c1
                    go_wp2
                    go_quiet (fail)
                    go_wp2
                    go_roundw
                    case rel => exact ⟨q + 1, by rw [hnx.out], by go_num, hql, Lib.hid ⟨_, rfl⟩⟩
                    case measure => simp [intOf]; omega
                · obtain rfl : q = fs.length := by omega
                  rw [List.take_length]
                  obtain ⟨dr, j, hj1, hj2, hj3, hj4⟩ := HND.out.2.1
                  have hbe : bestK D' ((e : Int) + 1) (-1) fs = (j : Int) := by rw [HND.out.2.2, hj1]
                  rw [hbe]
                  have hjl : j < N := by have := (List.getElem?_eq_some_iff.1 hj3).1; rw [HF4.out.2.2] at this; exact this
                  have hwy : pre ++ [(i : Int)] ++ wayF g D' e (j : Int) = W := by
                    rw [← HI.out.2.2]
                    show _ = pre ++ ((i : Int) :: wayF g D' e (bestK D' ((e : Int) + 1) (-1) (folAt g (i : Int))))
                    unfold folAt
                    rw [Int.toNat_natCast, HND.out.1]
                    simp only
                    rw [hj1]
                    simp
                  have HJ := Lib.hid (And.intro hj3 (And.intro hjl hwy))
                  have hbw : Below w4.heap.size w4 (w5.drewN m) := below_drewN (HB.out.trans (HB5.out.mono hws)) m
                  have how5 : (w5.drewN m).ownsRow w4.heap.size 3 1 (.slice wA (pre.length + 1) wc) (pre.length + 1) (ints (pre ++ [(i : Int)])) := HO.out.kept (row := none) ⟨(below_drewN HB5.out m).os, (below_drewN HB5.out m).tape, (below_drewN HB5.out m).output, (below_drewN HB5.out m).size, fun k hk _ => (below_drewN HB5.out m).block k hk⟩ (by cases wA <;> simp [Value.ownBlock])
                  obtain ⟨w6, hw6⟩ : ∃ w6, w5.drewN m = w6 := ⟨_, rfl⟩
                  rw [hw6] at hbw how5
                  rw [hw6]
                  have how6 := how5.alloc (.cells #[.int .i64 (j : Int)] 3)
                  have HBW := Lib.hid (And.intro hbw how5)
                  have hbs := hbw.size
                  have hpl : pre.length ≤ 4096 := by omega
                  clear dr hj1 hj2 hj3 hj4 hbe hwy hbw how5 fc5 hw6
                  go_wp2_with (refine stop_append rfl ?_)
                  refine Stop.intro ?_
                  refine app_one sl_int rfl _ _ rfl w4.heap.size (.slice wA (pre.length + 1) wc) (pre.length + 1) (ints (pre ++ [(i : Int)])) rfl how6 _ 0 1 [.int .i64 (j : Int)] rfl rfl (cell_new1 _ _ _ _ rfl) (by simp [Value.oneCell']) (by omega) (by decide) (by simp; omega) ?_
                  intro v' w7 hown5 hgr hobn
                  have hb7 := (HBW.out.1.alloc hbs (.cells #[.int .i64 (j : Int)] 3)).grown hgr (by simp; omega) (fun b hb => (own_lt HBW.out.2 b hb))
                  obtain ⟨vA, vc, rfl, -⟩ := own_slice hown5
                  have HF := Lib.hid (And.intro hown5 hb7)
                  clear hown5 hgr hobn hb7 how6
                  go_wp2
                  go_roundw
                  case rel => exact ⟨j, e, pre ++ [(i : Int)], rfl, by simp; omega, Lib.hid HJ.out, Lib.hid (by simpa [ints] using HF.out.1), Lib.hid HF.out.2⟩
                  case measure => simp; omega
      · rw [if_neg hM] at HWR
        cases ma with
        | false =>
          clear hM
          go_enter Tryz.func22, Tryz.ntmps22
          go_wp2_with (first
          | (go_at_call 46
             refine (HBG.out _ HBX.out.2).mono ?_
             rintro e w1 ⟨rfl, hb1⟩
             have HU1 := Lib.hid (HBX.out.1.below hb1 HBX.out.1.lt)
             have q0 := HU1.out.cell 0
             have q1 := HU1.out.cell 1
             have q2 := HU1.out.cell 2
             have q4 := HLD.out w1 (HBX.out.2.trans (hb1.mono HBX.out.2.size)) 3 _ rfl
             have HB1 := Lib.hid (HBX.out.2.trans (hb1.mono HBX.out.2.size))
             clear hb1)
          | (go_at_call 48
             refine (HMD.out _ HB1.out tn g HGD.out.1 HGD.out.2.1).mono ?_
             rintro e w3 ⟨Y, rfl, hth, hb3⟩
             have HTH := Lib.hid (And.intro hth hb3)
             obtain ⟨X, nb, no, nc', hY, hX, hyb, hxb, hnv⟩ := hth.ex
             have HXB := Lib.hid (And.intro hxb (And.intro hyb hnv))
             have hyl := hyb.lt
             have hxl := hxb.lt
             have y3 := hyb.cell 3
             have y4 := hyb.cell 4
             rw [HN.out] at y3 y4
             have m1 : w3.cell? ⟨X, an * 4 + 0, none⟩ = some (.bool false) := by
               rw [hxb.cell]
               exact fm_at mk_len (mkL_at u g [] (by rw [HN.out]; omega)) (j := 0) (by rw [← HMA.out.1]; rfl)
             have m2 : w3.cell? ⟨X, bn * 4 + 1, none⟩ = some (.bool mb) := by
               rw [hxb.cell]
               exact fm_at mk_len (mkL_at u g [] (by rw [HN.out]; omega)) (j := 1) (by rw [← HMA.out.2]; rfl)
             rw [Nat.add_zero] at m1
             clear hth hb3 hyb hxb hnv))
          refine bodyPost_ret (v := .tuple #[.slice none 0 0, .bool false, .int .i64 0]) (by simp [results, Tryz.results22, go_sem]) rfl ?_
          exact ⟨.slice none 0 0, by (rw [HWR.out]; try rfl), by rw [HWR.out]; exact World.ownsRow_nil _ _ _ _, ((HB1.out.trans (HTH.out.2.mono HB1.out.size)))⟩
        | true =>
          obtain rfl : mb = false := by simpa using hM
          clear hM
          go_enter Tryz.func22, Tryz.ntmps22
          go_wp2_with (first
          | (go_at_call 46
             refine (HBG.out _ HBX.out.2).mono ?_
             rintro e w1 ⟨rfl, hb1⟩
             have HU1 := Lib.hid (HBX.out.1.below hb1 HBX.out.1.lt)
             have q0 := HU1.out.cell 0
             have q1 := HU1.out.cell 1
             have q2 := HU1.out.cell 2
             have q4 := HLD.out w1 (HBX.out.2.trans (hb1.mono HBX.out.2.size)) 3 _ rfl
             have HB1 := Lib.hid (HBX.out.2.trans (hb1.mono HBX.out.2.size))
             clear hb1)
          | (go_at_call 48
             refine (HMD.out _ HB1.out tn g HGD.out.1 HGD.out.2.1).mono ?_
             rintro e w3 ⟨Y, rfl, hth, hb3⟩
             have HTH := Lib.hid (And.intro hth hb3)
             obtain ⟨X, nb, no, nc', hY, hX, hyb, hxb, hnv⟩ := hth.ex
             have HXB := Lib.hid (And.intro hxb (And.intro hyb hnv))
             have hyl := hyb.lt
             have hxl := hxb.lt
             have y3 := hyb.cell 3
             have y4 := hyb.cell 4
             rw [HN.out] at y3 y4
             have m1 : w3.cell? ⟨X, an * 4 + 0, none⟩ = some (.bool true) := by
               rw [hxb.cell]
               exact fm_at mk_len (mkL_at u g [] (by rw [HN.out]; omega)) (j := 0) (by rw [← HMA.out.1]; rfl)
             have m2 : w3.cell? ⟨X, bn * 4 + 1, none⟩ = some (.bool false) := by
               rw [hxb.cell]
               exact fm_at mk_len (mkL_at u g [] (by rw [HN.out]; omega)) (j := 1) (by rw [← HMA.out.2]; rfl)
             rw [Nat.add_zero] at m1
             clear hth hb3 hyb hxb hnv))
          refine bodyPost_ret (v := .tuple #[.slice none 0 0, .bool false, .int .i64 0]) (by simp [results, Tryz.results22, go_sem]) rfl ?_
          exact ⟨.slice none 0 0, by (rw [HWR.out]; try rfl), by rw [HWR.out]; exact World.ownsRow_nil _ _ _ _, ((HB1.out.trans (HTH.out.2.mono HB1.out.size)))⟩
    · rw [if_neg hR] at HWR
      by_cases hz : a < 0
      · have d1 : decide (a < 0) = true := decide_eq_true hz
        clear hR hz
        go_enter Tryz.func22, Tryz.ntmps22
        go_wp2_with (first
        | (go_at_call 46
           refine (HBG.out _ HBX.out.2).mono ?_
           rintro e w1 ⟨rfl, hb1⟩
           have HU1 := Lib.hid (HBX.out.1.below hb1 HBX.out.1.lt)
           have q0 := HU1.out.cell 0
           have q1 := HU1.out.cell 1
           have q2 := HU1.out.cell 2
           have q4 := HLD.out w1 (HBX.out.2.trans (hb1.mono HBX.out.2.size)) 3 _ rfl
           have HB1 := Lib.hid (HBX.out.2.trans (hb1.mono HBX.out.2.size))
           clear hb1))
        refine bodyPost_ret (v := .tuple #[.slice none 0 0, .bool false, .int .i64 2]) (by simp [results, Tryz.results22, go_sem]) rfl ?_
        exact ⟨.slice none 0 0, by (rw [HWR.out]; try rfl), by rw [HWR.out]; exact World.ownsRow_nil _ _ _ _, HB1.out⟩
      · by_cases hz : (N : Int) ≤ a
        · have d1 : decide (a < 0) = false := decide_eq_false (by omega)
          have d2 : decide ((N : Int) ≤ a) = true := decide_eq_true hz
          clear hR hz
          go_enter Tryz.func22, Tryz.ntmps22
          go_wp2_with (first
        | (go_at_call 46
           refine (HBG.out _ HBX.out.2).mono ?_
           rintro e w1 ⟨rfl, hb1⟩
           have HU1 := Lib.hid (HBX.out.1.below hb1 HBX.out.1.lt)
           have q0 := HU1.out.cell 0
           have q1 := HU1.out.cell 1
           have q2 := HU1.out.cell 2
           have q4 := HLD.out w1 (HBX.out.2.trans (hb1.mono HBX.out.2.size)) 3 _ rfl
           have HB1 := Lib.hid (HBX.out.2.trans (hb1.mono HBX.out.2.size))
           clear hb1))
          refine bodyPost_ret (v := .tuple #[.slice none 0 0, .bool false, .int .i64 2]) (by simp [results, Tryz.results22, go_sem]) rfl ?_
          exact ⟨.slice none 0 0, by (rw [HWR.out]; try rfl), by rw [HWR.out]; exact World.ownsRow_nil _ _ _ _, HB1.out⟩
        · by_cases hz : b < 0
          · have d1 : decide (a < 0) = false := decide_eq_false (by omega)
            have d2 : decide ((N : Int) ≤ a) = false := decide_eq_false (by omega)
            have d3 : decide (b < 0) = true := decide_eq_true hz
            clear hR hz
            go_enter Tryz.func22, Tryz.ntmps22
            go_wp2_with (first
        | (go_at_call 46
           refine (HBG.out _ HBX.out.2).mono ?_
           rintro e w1 ⟨rfl, hb1⟩
           have HU1 := Lib.hid (HBX.out.1.below hb1 HBX.out.1.lt)
           have q0 := HU1.out.cell 0
           have q1 := HU1.out.cell 1
           have q2 := HU1.out.cell 2
           have q4 := HLD.out w1 (HBX.out.2.trans (hb1.mono HBX.out.2.size)) 3 _ rfl
           have HB1 := Lib.hid (HBX.out.2.trans (hb1.mono HBX.out.2.size))
           clear hb1))
            refine bodyPost_ret (v := .tuple #[.slice none 0 0, .bool false, .int .i64 2]) (by simp [results, Tryz.results22, go_sem]) rfl ?_
            exact ⟨.slice none 0 0, by (rw [HWR.out]; try rfl), by rw [HWR.out]; exact World.ownsRow_nil _ _ _ _, HB1.out⟩
          · have d1 : decide (a < 0) = false := decide_eq_false (by omega)
            have d2 : decide ((N : Int) ≤ a) = false := decide_eq_false (by omega)
            have d3 : decide (b < 0) = false := decide_eq_false (by omega)
            have d4 : decide ((N : Int) ≤ b) = true := decide_eq_true (by omega)
            clear hR
            go_enter Tryz.func22, Tryz.ntmps22
            go_wp2_with (first
        | (go_at_call 46
           refine (HBG.out _ HBX.out.2).mono ?_
           rintro e w1 ⟨rfl, hb1⟩
           have HU1 := Lib.hid (HBX.out.1.below hb1 HBX.out.1.lt)
           have q0 := HU1.out.cell 0
           have q1 := HU1.out.cell 1
           have q2 := HU1.out.cell 2
           have q4 := HLD.out w1 (HBX.out.2.trans (hb1.mono HBX.out.2.size)) 3 _ rfl
           have HB1 := Lib.hid (HBX.out.2.trans (hb1.mono HBX.out.2.size))
           clear hb1))
            refine bodyPost_ret (v := .tuple #[.slice none 0 0, .bool false, .int .i64 2]) (by simp [results, Tryz.results22, go_sem]) rfl ?_
            exact ⟨.slice none 0 0, by (rw [HWR.out]; try rfl), by rw [HWR.out]; exact World.ownsRow_nil _ _ _ _, HB1.out⟩
  · have hwr : wayR u t a b = ([], false, askE u t) := by unfold wayR; rw [if_neg hE]
    have hd : (askE u t != 0) = true := by simp [hE]
    obtain ⟨er, her⟩ : ∃ er, askE u t = er := ⟨_, rfl⟩
    rw [her] at hwr HBG hd
    have HWR := Lib.hid hwr
    clear hE hwr her
    go_enter Tryz.func22, Tryz.ntmps22
    go_wp2_with (first
      | (go_at_call 46
         refine (HBG.out _ HBX.out.2).mono ?_
         rintro e w1 ⟨rfl, hb1⟩
         have HB1 := Lib.hid (HBX.out.2.trans (hb1.mono HBX.out.2.size))
         clear hb1))
    refine bodyPost_ret (v := .tuple #[.slice none 0 0, .bool false, .int .i64 er]) (by simp [results, Tryz.results22, go_sem]) rfl ?_
    exact ⟨.slice none 0 0, by (rw [HWR.out]; try rfl), by rw [HWR.out]; exact World.ownsRow_nil _ _ _ _, HB1.out⟩
end Go.Proofs.YtffgnjgphkdodaaGreatDoor
/- The walk of delay's Safe. -/
namespace Go.Proofs.YtffgnjgphkdodaaGreatDoor
open Go Go.RowKit
/-- Each list is one of fences of its graph. -/
def FenAll (u : Unit_) (L : List (List Int)) : Prop := ∀ (t : Nat) (g : Graph) (l : List Int), u.graphs[t]? = some g → L[t]? = some l → fenB g.nodes.length (-1) l = true
def NoneOpen (u : Unit_) (L : List (List Int)) : Prop := ∀ (t : Nat) (l : List Int), L[t]? = some l → (loadsR u (t : Int) l).1 = []
open Classical in
/-- The answer of Safe. -/
noncomputable def safeR (u : Unit_) (L : List (List Int)) : Bool × Int :=
  if checkF u = none then if L.length = u.graphs.length ∧ FenAll u L then (decide (NoneOpen u L), 0) else (false, 110) else (false, 60)
theorem safeR_bad {u : Unit_} {L : List (List Int)} (h : checkF u ≠ none) : safeR u L = (false, 60) := by unfold safeR; rw [if_neg h]
theorem safeR_fence {u : Unit_} {L : List (List Int)} (h : checkF u = none) (h2 : ¬ (L.length = u.graphs.length ∧ FenAll u L)) : safeR u L = (false, 110) := by unfold safeR; rw [if_pos h, if_neg h2]
theorem safeR_open {u : Unit_} {L : List (List Int)} (h : checkF u = none) (h2 : L.length = u.graphs.length ∧ FenAll u L) (h3 : ¬ NoneOpen u L) : safeR u L = (false, 0) := by unfold safeR; rw [if_pos h, if_pos h2]; simp [h3]
theorem safeR_safe {u : Unit_} {L : List (List Int)} (h : checkF u = none) (h2 : L.length = u.graphs.length ∧ FenAll u L) (h3 : NoneOpen u L) : safeR u L = (true, 0) := by unfold safeR; rw [if_pos h, if_pos h2]; simp [h3]
def SafePost (u : Unit_) (L : List (List Int)) (w : World) (e : Ending) (w' : World) : Prop := e = .returned (.tuple #[.bool (safeR u L).1, .int .i64 (safeR u L).2]) ∧ Below w.heap.size w w'
set_option maxRecDepth 100000 in
set_option maxHeartbeats 4000000 in
theorem safe_calls (u : Unit_) (cs : List Value) (v : Value) (L : List (List Int)) (w : World) (hT : Tab w) (hu : UnitV (cmap w) cs u) (hok : UOk u) (hL : Ints2 (cmap w) v L) :
    Calls Tryz.prog 15 #[.agg cs.toArray, v] w (SafePost u L w) := by
  have HC := Lib.hid fun w1 (h : Below w.heap.size w w1) => check_calls u cs w1 (hu.mono (cmap_below h)) hok
  have HLO := Lib.hid fun w1 (h : Below w.heap.size w w1) (t : Int) (fv : Value) (F : List Int) (hF : Ints (cmap w) fv F) => loads_calls u cs t fv F w1 (hT.below h) (hu.mono (cmap_below h)) hok (hF.mono (cmap_below h))
  obtain ⟨sv, lv, gv, rfl, -, -, hgs⟩ := hu
  obtain ⟨gA, gc, rfl, -⟩ := id hgs
  have hgl := hgs.len.2.2
  obtain ⟨lA, lc, rfl, -⟩ := id hL
  have hll := hL.len.2.2
  have hbx := Blk.new w 25 [sv, lv, .slice gA u.graphs.length gc]
  have hb0 := Below_alloc' w (.cells #[sv, lv, .slice gA u.graphs.length gc] 25)
  have HBX := Lib.hid (And.intro hbx hb0)
  have HG := Lib.hid hgs
  have HL := Lib.hid hL
  clear hbx hb0 hgs hT hL
  cases hc : checkF u with
  | some r =>
    obtain ⟨r1, r2⟩ := r
    have HS := Lib.hid (safeR_bad (u := u) (L := L) (by rw [hc]; simp))
    rw [hc] at HC
    clear hc
    go_enter Tryz.func15, Tryz.ntmps15
    go_wp2_with (first
      | (go_at_call 56
         refine (HC.out _ HBX.out.2).mono ?_
         rintro e w1 ⟨rfl, hb1⟩
         have HB1 := Lib.hid (HBX.out.2.trans (hb1.mono HBX.out.2.size))
         simp only [checkV]
         clear hb1))
    go_ret2
    exact ⟨by rw [HS.out]; rfl, HB1.out⟩
  | none =>
    rw [hc] at HC
    have HCC := Lib.hid hc
    clear hc
    by_cases hlen : L.length = u.graphs.length
    · have d0 : ((L.length : Int) != (u.graphs.length : Int)) = false := by simp [hlen]
      have HLE := Lib.hid hlen
      rw [hlen] at d0
      have d0' : (u.graphs.length != u.graphs.length) = false := by simp
      obtain ⟨G, hG⟩ : ∃ G, u.graphs.length = G := ⟨_, rfl⟩
      have hlen2 : L.length = G := by rw [hlen, hG]
      rw [hG] at d0 hgl HBX HG HC HLO
      clear d0'
      rw [hlen2] at hll HL
      rw [hlen2, hG]
      have HLG := Lib.hid (And.intro hlen2 hG)
      clear hlen hlen2 hG HLE
      go_enter Tryz.func15, Tryz.ntmps15
      go_wp2_with (first
        | (go_at_call 56
           refine (HC.out _ HBX.out.2).mono ?_
           rintro e w1 ⟨rfl, hb1⟩
           have HU1 := Lib.hid (HBX.out.1.below hb1 HBX.out.1.lt)
           have c2 := HU1.out.cell 2
           have HB1 := Lib.hid (HBX.out.2.trans (hb1.mono HBX.out.2.size))
           simp only [checkV]
           clear hb1))
      go_loopw [32] (fun v32 wr => ∃ k : Nat, v32 = .int .i64 k ∧ k ≤ G ∧ Hid (∀ (t : Nat) (g : Graph) (l : List Int), t < k → u.graphs[t]? = some g → L[t]? = some l → fenB g.nodes.length (-1) l = true) ∧ Hid (Below w1.heap.size w1 wr)) (fun v32 _ => G - (intOf v32).toNat)
      case atStart => exact ⟨0, rfl, Nat.zero_le _, Lib.hid (fun t _ _ h => by omega), Lib.hid (Below.refl _ _)⟩
      case round =>
        obtain ⟨k, rfl, hk, HF, HB⟩ := hrel
        have hbw : Below w.heap.size w wr := HB1.out.trans (HB.out.mono HB1.out.size)
        have hur := HU1.out.below HB.out HU1.out.lt
        by_cases hlt : k < G
        · obtain ⟨g, hg⟩ : ∃ g, u.graphs[k]? = some g := ⟨u.graphs[k]'(by rw [HLG.out.2]; exact hlt), List.getElem?_eq_getElem _⟩
          obtain ⟨l, hl⟩ : ∃ l, L[k]? = some l := ⟨L[k]'(by rw [HLG.out.1]; exact hlt), List.getElem?_eq_getElem _⟩
          obtain ⟨gb, go, rfl, gcs, hgv, hgc⟩ := HG.out.at_ hg
          obtain ⟨lb, lo, rfl, fv, hfc, hfi⟩ := HL.out.at_ hl
          rw [Nat.mul_one] at hfc
          have c2r := hur.cell 2
          have hfc1 : wr.cell? ⟨lb, lo + k, none⟩ = some fv := cmap_below hbw _ _ _ hfc
          obtain ⟨nv, rfl, hnv⟩ := id hgv
          have HLD : Hid (∀ j x, ([.string g.name, .int .i64 g.locals, .int .i64 g.slots, nv] : List Value)[j]? = some x → wr.cell? ⟨gb, go + k * 4 + j, none⟩ = some x) := Lib.hid fun j x hj => cmap_below hbw _ _ _ (hgc j x hj)
          obtain ⟨fA, fc, rfl, -⟩ := id hfi
          have HRT := Lib.hid (dright_calls g _ _ l wr (hgv.mono (cmap_below hbw)) (hfi.mono (cmap_below hbw)))
          have k0 : (0 : Int) ≤ k := by omega
          have kG : (k : Int) < G := by omega
          have HGL := Lib.hid (And.intro hg (And.intro hl (And.intro hbw hur)))
          clear hg hl hgv hgc hfc hfi hnv hur hbw
          cases hfb : fenB g.nodes.length (-1) l with
          | false =>
            have HFB := Lib.hid hfb
            rw [hfb] at HRT
            clear hfb
            go_wp2_with (first
              | (refine wpList_load_at rfl 69 _ rfl gb (go + k * 4) rfl _ _ HLD.out Tryz.underlying69 rfl (by kernel_rfl) ?_)
              | (go_at_call 47
                 refine (HRT.out).mono ?_
                 rintro e w2 ⟨rfl, hb2⟩
                 have HB2 := Lib.hid (HGL.out.2.2.1.trans (hb2.mono HGL.out.2.2.1.size))
                 clear hb2))
            go_ret2
            have hs := safeR_fence (u := u) (L := L) HCC.out (by rintro ⟨_, h⟩; have := h k g l HGL.out.1 HGL.out.2.1; rw [HFB.out] at this; cases this)
            exact ⟨by rw [hs]; rfl, HB2.out⟩
          | true =>
            have HFB := Lib.hid hfb
            rw [hfb] at HRT
            clear hfb
            go_wp2_with (first
              | (refine wpList_load_at rfl 69 _ rfl gb (go + k * 4) rfl _ _ HLD.out Tryz.underlying69 rfl (by kernel_rfl) ?_)
              | (go_at_call 47
                 refine (HRT.out).mono ?_
                 rintro e w2 ⟨rfl, hb2⟩
                 have HB2 := Lib.hid (HB.out.trans (hb2.mono HB.out.size))
                 clear hb2))
            go_roundw
            case rel => exact ⟨k + 1, by go_num, hlt, Lib.hid (fun t g' l' ht hg' hl' => by
              by_cases e : t = k
              · subst e
                have h1 := HGL.out.1
                have h2 := HGL.out.2.1
                rw [h1] at hg'; rw [h2] at hl'
                injection hg' with hg'; injection hl' with hl'
                subst hg' hl'
                exact HFB.out
              · exact HF.out t g' l' (by omega) hg' hl'), HB2⟩
            case measure => simp [intOf]; omega
        · obtain rfl : k = G := by omega
          have hfa : L.length = u.graphs.length ∧ FenAll u L := ⟨by rw [HLG.out.1, HLG.out.2], fun t g l hg hl => HF.out t g l (by have := (List.getElem?_eq_some_iff.1 hl).1; rw [HLG.out.1] at this; exact this) hg hl⟩
          have HFA := Lib.hid hfa
          have HUR := Lib.hid (And.intro hbw hur)
          clear hfa hbw hur HF
          go_wp2
          obtain ⟨wo, rfl⟩ : ∃ wo : World, wo = wr := ⟨_, rfl⟩
          go_loopw [48] (fun v48 wr => ∃ j : Nat, v48 = .int .i64 j ∧ j ≤ k ∧ Hid (∀ (t : Nat) (l : List Int), t < j → L[t]? = some l → (loadsR u (t : Int) l).1 = []) ∧ Hid (Below wo.heap.size wo wr)) (fun v48 _ => k - (intOf v48).toNat)
          case atStart => exact ⟨0, rfl, Nat.zero_le _, Lib.hid (fun t _ h => by omega), Lib.hid (Below.refl _ _)⟩
          case round =>
            obtain ⟨j, rfl, hj, HF, HB⟩ := hrel
            have hbw : Below w.heap.size w wr := HUR.out.1.trans (HB.out.mono HUR.out.1.size)
            have hur := HUR.out.2.below HB.out HUR.out.2.lt
            by_cases hlt : j < k
            · obtain ⟨l, hl⟩ : ∃ l, L[j]? = some l := ⟨L[j]'(by rw [HLG.out.1]; exact hlt), List.getElem?_eq_getElem _⟩
              obtain ⟨lb, lo, rfl, fv, hfc, hfi⟩ := HL.out.at_ hl
              rw [Nat.mul_one] at hfc
              have d0 := hur.cell 0
              have d1 := hur.cell 1
              have d2 := hur.cell 2
              have hfc1 : wr.cell? ⟨lb, lo + j, none⟩ = some fv := cmap_below hbw _ _ _ hfc
              obtain ⟨fA, fc, rfl, -⟩ := id hfi
              have HLR := Lib.hid (HLO.out wr hbw (j : Int) _ l hfi)
              have j0 : (0 : Int) ≤ j := by omega
              have jk : (j : Int) < k := by omega
              have HGL := Lib.hid (And.intro hl (And.intro hbw hur))
              clear hl hfc hfi hur hbw
              by_cases hno : (loadsR u (j : Int) l).1 = []
              · have HNO := Lib.hid hno
                clear hno
                go_wp2_with (first
                  | (go_at_call 13
                     refine (HLR.out).mono ?_
                     rintro e w2 ⟨r, rfl, hr, hb2⟩
                     rw [HNO.out] at hr
                     obtain ⟨rA, rc, rfl, -⟩ := own_slice hr
                     simp only [List.length_nil]
                     have HB2 := Lib.hid (HB.out.trans (hb2.mono HB.out.size))
                     clear hb2 hr))
                go_roundw
                case rel => exact ⟨j + 1, by go_num, hlt, Lib.hid (fun t l' ht hl' => by
                  by_cases e : t = j
                  · subst e
                    have h2 := HGL.out.1
                    rw [h2] at hl'
                    injection hl' with hl'
                    subst hl'
                    exact HNO.out
                  · exact HF.out t l' (by omega) hl'), HB2⟩
                case measure => simp [intOf]; omega
              · have hpos : 0 < (loadsR u (j : Int) l).1.length := List.length_pos_iff.2 hno
                have HNO := Lib.hid hno
                clear hno
                obtain ⟨n, hn⟩ : ∃ n, (loadsR u (j : Int) l).1.length = n := ⟨_, rfl⟩
                rw [hn] at hpos
                have HN := Lib.hid hn
                have hn0 : (0 : Int) < n := by omega
                clear hn
                go_wp2_with (first
                  | (go_at_call 13
                     refine (HLR.out).mono ?_
                     rintro e w2 ⟨r, rfl, hr, hb2⟩
                     rw [HN.out] at hr
                     obtain ⟨rA, rc, rfl, -⟩ := own_slice hr
                     have HB2 := Lib.hid (HGL.out.2.1.trans (hb2.mono HGL.out.2.1.size))
                     clear hb2 hr))
                go_ret2
                have hs := safeR_open (u := u) (L := L) HCC.out HFA.out (fun h => HNO.out (h j l HGL.out.1))
                exact ⟨by rw [hs]; rfl, HB2.out⟩
            · obtain rfl : j = k := by omega
              have hs := safeR_safe (u := u) (L := L) HCC.out HFA.out (fun t l hl => HF.out t l (by have := (List.getElem?_eq_some_iff.1 hl).1; rw [HLG.out.1] at this; exact this) hl)
              have HS := Lib.hid hs
              clear hs
              go_wp2
              go_ret2
              exact ⟨by rw [HS.out]; rfl, hbw⟩
    · have d0 : ((L.length : Int) != (u.graphs.length : Int)) = true := by simp; omega
      have d1 : (L.length != u.graphs.length) = true := by simp; omega
      have HS := Lib.hid (safeR_fence (u := u) (L := L) HCC.out (fun h => hlen h.1))
      clear hlen
      go_enter Tryz.func15, Tryz.ntmps15
      go_wp2_with (first
        | (go_at_call 56
           refine (HC.out _ HBX.out.2).mono ?_
           rintro e w1 ⟨rfl, hb1⟩
           have c2 := (HBX.out.1.below hb1 HBX.out.1.lt).cell 2
           have HB1 := Lib.hid (HBX.out.2.trans (hb1.mono HBX.out.2.size))
           simp only [checkV]
           clear hb1))
      go_ret2
      exact ⟨by rw [HS.out]; rfl, HB1.out⟩
end Go.Proofs.YtffgnjgphkdodaaGreatDoor
