import Derived.Test.YtffgnjgphkdodaaGreatDoorP122
import Derived.Test.YtffgnjgphkdodaaGreatDoorP115
/- The walk of layer 11's reference: Safe. -/
namespace Go.Proofs.YtffgnjgphkdodaaGreatDoor
open Go Go.RowKit
def slRf : List Nat := [38, 39, 40, 41, 42, 43, 44]
def slRg : List Nat := [53, 54, 55, 56, 57, 58, 59, 52, 60, 61, 13, 14]
/-- A pair of the region's own: a row, a number. -/
def srT (base : Nat) (e : TypeId) (n : Nat) (xs : List Value) (er : Int) : SR := ⟨fun w v => ∃ r, v = .tuple #[r, .int .i64 er] ∧ w.ownsRow base e 1 r n xs, fun hb ⟨r, e, h⟩ => ⟨r, e, own_below h hb⟩⟩
set_option maxRecDepth 100000 in
set_option maxHeartbeats 4000000 in
theorem rsafe_calls (u : Unit_) (cs : List Value) (v : Value) (L : List (List Int)) (w : World) (hu : UnitV (cmap w) cs u) (hok : UOk u) (hL : Ints2 (cmap w) v L) :
    Calls Tryz.prog 16 #[.agg cs.toArray, v] w (SafePost u L w) := by
  have HC := Lib.hid fun w1 (h : Below w.heap.size w w1) => check2_calls u cs w1 (hu.mono (cmap_below h)) hok
  have HLO := Lib.hid fun w1 (h : Below w.heap.size w w1) (t : Int) (fv : Value) (F : List Int) (hF : Ints (cmap w) fv F) => rloads_calls u cs t fv F w1 (hu.mono (cmap_below h)) hok (hF.mono (cmap_below h))
  obtain ⟨sv, lv, gv, rfl, -, -, hgs⟩ := hu
  obtain ⟨gA, gc, rfl, -⟩ := id hgs
  have hgl := hgs.len.2.2
  obtain ⟨lA, lc, rfl, -⟩ := id hL
  have hll := hL.len.2.2
  have hbx := Blk.new w 25 [sv, lv, .slice gA u.graphs.length gc]
  have hb0 := Below_alloc' w (.cells #[sv, lv, .slice gA u.graphs.length gc] 25)
  have HBX := Lib.hid (And.intro hbx hb0)
  have HG := Lib.hid hgs
  have HL := Lib.hid hL
  clear hbx hb0 hgs hL
  cases hc : checkF u with
  | some r =>
    obtain ⟨r1, r2⟩ := r
    have HS := Lib.hid (safeR_bad (u := u) (L := L) (by rw [hc]; simp))
    rw [hc] at HC
    clear hc
    go_enter Tryz.func16, Tryz.ntmps16
    go_wp2_with (first
      | (go_at_call 57
         refine (HC.out _ HBX.out.2).mono ?_
         rintro e w1 ⟨rfl, hb1⟩
         have HB1 := Lib.hid (HBX.out.2.trans (hb1.mono HBX.out.2.size))
         simp only [checkV]
         clear hb1))
    go_ret2
    exact ⟨by rw [HS.out]; rfl, HB1.out⟩
  | none =>
    rw [hc] at HC
    have HCC := Lib.hid hc
    clear hc
    by_cases hlen : L.length = u.graphs.length
    · obtain ⟨G, hG⟩ : ∃ G, u.graphs.length = G := ⟨_, rfl⟩
      have hlen2 : L.length = G := by rw [hlen, hG]
      rw [hG] at hgl HBX HG HC HLO
      rw [hlen2] at hll HL
      rw [hlen2, hG]
      have HLG := Lib.hid (And.intro hlen2 hG)
      clear hlen hlen2 hG
      go_enter Tryz.func16, Tryz.ntmps16
      go_wp2_with (first
        | (go_at_call 57
           refine (HC.out _ HBX.out.2).mono ?_
           rintro e w1 ⟨rfl, hb1⟩
           have HU1 := Lib.hid (HBX.out.1.below hb1 HBX.out.1.lt)
           have c2 := HU1.out.cell 2
           have HB1 := Lib.hid (HBX.out.2.trans (hb1.mono HBX.out.2.size))
           simp only [checkV]
           clear hb1))
      go_loopw [33] (fun v33 wr => ∃ k : Nat, v33 = .int .i64 k ∧ k ≤ G ∧ Hid (∀ (t : Nat) (g : Graph) (l : List Int), t < k → u.graphs[t]? = some g → L[t]? = some l → fenB g.nodes.length (-1) l = true) ∧ Hid (Below w1.heap.size w1 wr)) (fun v33 _ => G - (intOf v33).toNat)
      case atStart => exact ⟨0, rfl, Nat.zero_le _, Lib.hid (fun t _ _ h => by omega), Lib.hid (Below.refl _ _)⟩
      case round =>
        obtain ⟨k, rfl, hk, HF, HB⟩ := hrel
        have hbw : Below w.heap.size w wr := HB1.out.trans (HB.out.mono HB1.out.size)
        have hur := HU1.out.below HB.out HU1.out.lt
        by_cases hlt : k < G
        · obtain ⟨g, hg⟩ : ∃ g, u.graphs[k]? = some g := ⟨u.graphs[k]'(by rw [HLG.out.2]; exact hlt), List.getElem?_eq_getElem _⟩
          obtain ⟨l, hl⟩ : ∃ l, L[k]? = some l := ⟨L[k]'(by rw [HLG.out.1]; exact hlt), List.getElem?_eq_getElem _⟩
          obtain ⟨gb, go, rfl, gcs, hgv, hgc⟩ := HG.out.at_ hg
          obtain ⟨lb, lo, rfl, fv, hfc, hfi⟩ := HL.out.at_ hl
          rw [Nat.mul_one] at hfc
          have hfc1 : wr.cell? ⟨lb, lo + k, none⟩ = some fv := cmap_below hbw _ _ _ hfc
          have hrt := fun wx (h : Below w.heap.size w wx) => rfences_calls g gcs fv l wx (hgv.mono (cmap_below h)) (hfi.mono (cmap_below h))
          obtain ⟨nv, rfl, hnv⟩ := id hgv
          obtain ⟨nA, nc, rfl, -⟩ := id hnv
          have HLD : Hid (∀ j x, ([.string g.name, .int .i64 g.locals, .int .i64 g.slots, .slice nA g.nodes.length nc] : List Value)[j]? = some x → wr.cell? ⟨gb, go + k * 4 + j, none⟩ = some x) := Lib.hid fun j x hj => cmap_below hbw _ _ _ (hgc j x hj)
          obtain ⟨fA, fc, rfl, -⟩ := id hfi
          have HRT0 := Lib.hid hrt
          have k0 : (0 : Int) ≤ k := by omega
          have kG : (k : Int) < G := by omega
          have HGL := Lib.hid (And.intro hg (And.intro hl (And.intro hbw hur)))
          clear hg hl hgv hgc hfc hfi hnv hur hbw hrt
          cases hfb : fenB g.nodes.length (-1) l with
          | false =>
            have HFB := Lib.hid hfb
            rw [hfb] at HRT0
            clear hfb
            go_wp2_with (first
              | (refine wpList_load_at rfl 69 _ rfl gb (go + k * 4) rfl _ _ HLD.out Tryz.underlying69 rfl (by kernel_rfl) ?_)
              | (refine stop_store 69 rfl ?_))
            refine Stop.intro ?_
            refine wpList_store_row rfl 69 _ _ rfl wr.heap.size #[.string g.name, .int .i64 g.locals, .int .i64 g.slots, .slice nA g.nodes.length nc] rfl rfl 69 _ (heap_alloc_new _ _) (by kernel_rfl) rfl (by simp [Value.oneCell']) ?_
            rw [World.setRow_alloc_new]
            obtain ⟨X, hX⟩ : ∃ X, wr.heap.size = X := ⟨_, rfl⟩
            have hxb0 := Blk.new wr 69 [.string g.name, .int .i64 g.locals, .int .i64 g.slots, .slice nA g.nodes.length nc]
            have ha0 := Below_alloc' wr (.cells #[.string g.name, .int .i64 g.locals, .int .i64 g.slots, .slice nA g.nodes.length nc] 69)
            obtain ⟨W0, hW0⟩ : ∃ W0, wr.alloc (.cells #[.string g.name, .int .i64 g.locals, .int .i64 g.slots, .slice nA g.nodes.length nc] 69) = W0 := ⟨_, rfl⟩
            rw [hW0] at hxb0 ha0 ⊢
            rw [hX] at hxb0 ⊢
            have HXW := Lib.hid hxb0
            have HBWR := Lib.hid ha0
            have HBW0 := Lib.hid (HGL.out.2.2.1.trans (ha0.mono HGL.out.2.2.1.size))
            have HB1W := Lib.hid (HB.out.trans (ha0.mono HB.out.size))
            have HFC := Lib.hid (cmap_below HBWR.out _ _ _ hfc1)
            have HRT := Lib.hid fun wx (h : Below W0.heap.size W0 wx) => HRT0.out wx (HBW0.out.trans (h.mono HBW0.out.size))
            clear hxb0 hW0 ha0 hX
            go_wp2
            refine wp_act0 fun a0 ha0 => ?_
            have t10 : a0.eval (.tmp 10) = .pointer (some ⟨X, 0, none⟩) := by rw [ha0]; rfl
            have t1 : a0.eval (.tmp 1) = .slice (some ⟨lb, lo, none⟩) G lc := by rw [ha0]; rfl
            have t9 : a0.eval (.tmp 9) = .int .i64 (k : Nat) := by rw [ha0]; rfl
            have hsz : a0.tmps.size = 70 := by rw [ha0]; rfl
            have HA0 := Lib.hid ha0; clear ha0
            refine wp_region_w [(38, .is (.agg #[.string g.name, .int .i64 g.locals, .int .i64 g.slots, .slice nA g.nodes.length nc])), (39, .is (.slice (some ⟨lb, lo, none⟩) G lc)), (40, .is (.int .i64 (k : Nat))), (41, .is (.pointer (some ⟨lb, lo + k, none⟩))), (42, .is (.slice fA l.length fc)), (43, .is (.bool false)), (44, .is (.bool true))] (by kernel_rfl) (by kernel_rfl) ?steps ?done
            case steps =>
              refine ⟨?_, ?_, ?_, ?_, ?_, ?_, ?_, trivial⟩
              · -- 0
                refine JW.step (slots := slRf) rfl (by decide) (by rw [hsz]; decide) (38, .is (.agg #[.string g.name, .int .i64 g.locals, .int .i64 g.slots, .slice nA g.nodes.length nc])) rfl rfl rfl ?_
                intro D a wx K hD hp h hK
                have hfr : Fr slRf a0 a := h.fr
                refine step_wp rfl ?_
                have q10 : a.eval (.tmp 10) = .pointer (some ⟨X, 0, none⟩) := (hfr.eval (j := 10) (by decide)).trans t10
                refine wpw_load hK 69 _ rfl X (0) q10 _ (by have hb := h.below; exact fun j v hj => by rw [Nat.zero_add, (HXW.out.below hb HXW.out.lt).cell]; exact hj) Tryz.underlying69 rfl (by kernel_rfl)
              · -- 1
                refine JW.step (slots := slRf) rfl (by decide) (by rw [hsz]; decide) (39, .is (.slice (some ⟨lb, lo, none⟩) G lc)) rfl rfl rfl ?_
                intro D a wx K hD hp h hK
                have hfr : Fr slRf a0 a := h.fr
                refine step_wp rfl ?_
                have q1 : a.eval (.tmp 1) = .slice (some ⟨lb, lo, none⟩) G lc := (hfr.eval (j := 1) (by decide)).trans t1
                exact wpw_move hK rfl q1
              · -- 2
                refine JW.step (slots := slRf) rfl (by decide) (by rw [hsz]; decide) (40, .is (.int .i64 (k : Nat))) rfl rfl rfl ?_
                intro D a wx K hD hp h hK
                have hfr : Fr slRf a0 a := h.fr
                refine step_wp rfl ?_
                have q9 : a.eval (.tmp 9) = .int .i64 (k : Nat) := (hfr.eval (j := 9) (by decide)).trans t9
                exact wpw_move hK rfl q9
              · -- 3
                refine JW.step (slots := slRf) rfl (by decide) (by rw [hsz]; decide) (41, .is (.pointer (some ⟨lb, lo + k, none⟩))) rfl rfl rfl ?_
                intro D a wx K hD hp h hK
                have hfr : Fr slRf a0 a := h.fr
                refine step_wp rfl ?_
                have q39 : a.eval (.tmp 39) = .slice (some ⟨lb, lo, none⟩) G lc := h.val 1 _ rfl (hp 1 (by decide))
                have q40 : a.eval (.tmp 40) = .int .i64 (k : Nat) := h.val 2 _ rfl (hp 2 (by decide))
                have z2 : (0 : Int) ≤ (k : Nat) := by omega
                have z3 : ((k : Nat) : Int) < (G : Nat) := by omega
                refine wpw_val hK (by clear hfr; generalize a.eval = ρ at *; go_simp)
              · -- 4
                refine JW.step (slots := slRf) rfl (by decide) (by rw [hsz]; decide) (42, .is (.slice fA l.length fc)) rfl rfl rfl ?_
                intro D a wx K hD hp h hK
                have hfr : Fr slRf a0 a := h.fr
                refine step_wp rfl ?_
                have q41 : a.eval (.tmp 41) = .pointer (some ⟨lb, lo + k, none⟩) := h.val 3 _ rfl (hp 3 (by decide))
                have z1 : wx.cell? ⟨lb, lo + k, none⟩ = some (.slice fA l.length fc) := cmap_below h.below _ _ _ HFC.out
                refine wpw_val hK (by clear hfr; generalize a.eval = ρ at *; go_simp)
              · -- 5
                refine JW.step (slots := slRf) rfl (by decide) (by rw [hsz]; decide) (43, .is (.bool false)) rfl rfl rfl ?_
                intro D a wx K hD hp h hK
                have hfr : Fr slRf a0 a := h.fr
                refine step_wp rfl ?_
                have q38 : a.eval (.tmp 38) = .agg #[.string g.name, .int .i64 g.locals, .int .i64 g.slots, .slice nA g.nodes.length nc] := h.val 0 _ rfl (hp 0 (by decide))
                have q42 : a.eval (.tmp 42) = .slice fA l.length fc := h.val 4 _ rfl (hp 4 (by decide))
                refine wpw_call hK Tryz.func52 (by kernel_rfl) (by kernel_rfl) rfl #[.agg #[.string g.name, .int .i64 g.locals, .int .i64 g.slots, .slice nA g.nodes.length nc], .slice fA l.length fc] (by simp only [List.map_toArray, List.map_cons, List.map_nil, q38, q42]; try rfl) ?_
                refine (HRT.out wx h.below).mono ?_
                rintro e w' ⟨rfl, hb⟩
                exact ⟨_, rfl, hb, rfl⟩
              · -- 6
                refine JW.step (slots := slRf) rfl (by decide) (by rw [hsz]; decide) (44, .is (.bool true)) rfl rfl rfl ?_
                intro D a wx K hD hp h hK
                have hfr : Fr slRf a0 a := h.fr
                refine step_wp rfl ?_
                have q43 : a.eval (.tmp 43) = .bool false := h.val 5 _ rfl (hp 5 (by decide))
                refine wpw_val hK (by clear hfr; generalize a.eval = ρ at *; go_simp)
            case done =>
              intro D a wz hall h
              have hd : ∀ i, i < 7 → D i = true := hall
              have hfin := Fr.allW (slots := slRf) h.fr (by rw [hsz]; decide)
              simp only [putW, slRf] at hfin
              rw [(show a.eval (.tmp 38) = .agg #[.string g.name, .int .i64 g.locals, .int .i64 g.slots, .slice nA g.nodes.length nc] from h.val 0 _ rfl (hd 0 (by decide))), (show a.eval (.tmp 39) = .slice (some ⟨lb, lo, none⟩) G lc from h.val 1 _ rfl (hd 1 (by decide))), (show a.eval (.tmp 40) = .int .i64 (k : Nat) from h.val 2 _ rfl (hd 2 (by decide))), (show a.eval (.tmp 41) = .pointer (some ⟨lb, lo + k, none⟩) from h.val 3 _ rfl (hd 3 (by decide))), (show a.eval (.tmp 42) = .slice fA l.length fc from h.val 4 _ rfl (hd 4 (by decide))), (show a.eval (.tmp 43) = .bool false from h.val 5 _ rfl (hd 5 (by decide))), (show a.eval (.tmp 44) = .bool true from h.val 6 _ rfl (hd 6 (by decide)))] at hfin
              have hbz := h.below
              rw [hfin, HA0.out]
              clear hfin HA0 h hall hd t10 t1 t9 hsz
              simp only [Act.put, List.setIfInBounds_toArray, List.set_cons_zero, List.set_cons_succ]
              have HZ := Lib.hid hbz
              clear hbz
              go_wp2
              go_ret2
              have hs := safeR_fence (u := u) (L := L) HCC.out (by rintro ⟨_, h⟩; have := h k g l HGL.out.1 HGL.out.2.1; rw [HFB.out] at this; cases this)
              exact ⟨by rw [hs]; rfl, HBW0.out.trans (HZ.out.mono HBW0.out.size)⟩
          | true =>
            have HFB := Lib.hid hfb
            rw [hfb] at HRT0
            clear hfb
            go_wp2_with (first
              | (refine wpList_load_at rfl 69 _ rfl gb (go + k * 4) rfl _ _ HLD.out Tryz.underlying69 rfl (by kernel_rfl) ?_)
              | (refine stop_store 69 rfl ?_))
            refine Stop.intro ?_
            refine wpList_store_row rfl 69 _ _ rfl wr.heap.size #[.string g.name, .int .i64 g.locals, .int .i64 g.slots, .slice nA g.nodes.length nc] rfl rfl 69 _ (heap_alloc_new _ _) (by kernel_rfl) rfl (by simp [Value.oneCell']) ?_
            rw [World.setRow_alloc_new]
            obtain ⟨X, hX⟩ : ∃ X, wr.heap.size = X := ⟨_, rfl⟩
            have hxb0 := Blk.new wr 69 [.string g.name, .int .i64 g.locals, .int .i64 g.slots, .slice nA g.nodes.length nc]
            have ha0 := Below_alloc' wr (.cells #[.string g.name, .int .i64 g.locals, .int .i64 g.slots, .slice nA g.nodes.length nc] 69)
            obtain ⟨W0, hW0⟩ : ∃ W0, wr.alloc (.cells #[.string g.name, .int .i64 g.locals, .int .i64 g.slots, .slice nA g.nodes.length nc] 69) = W0 := ⟨_, rfl⟩
            rw [hW0] at hxb0 ha0 ⊢
            rw [hX] at hxb0 ⊢
            have HXW := Lib.hid hxb0
            have HBWR := Lib.hid ha0
            have HBW0 := Lib.hid (HGL.out.2.2.1.trans (ha0.mono HGL.out.2.2.1.size))
            have HB1W := Lib.hid (HB.out.trans (ha0.mono HB.out.size))
            have HFC := Lib.hid (cmap_below HBWR.out _ _ _ hfc1)
            have HRT := Lib.hid fun wx (h : Below W0.heap.size W0 wx) => HRT0.out wx (HBW0.out.trans (h.mono HBW0.out.size))
            clear hxb0 hW0 ha0 hX
            go_wp2
            refine wp_act0 fun a0 ha0 => ?_
            have t10 : a0.eval (.tmp 10) = .pointer (some ⟨X, 0, none⟩) := by rw [ha0]; rfl
            have t1 : a0.eval (.tmp 1) = .slice (some ⟨lb, lo, none⟩) G lc := by rw [ha0]; rfl
            have t9 : a0.eval (.tmp 9) = .int .i64 (k : Nat) := by rw [ha0]; rfl
            have hsz : a0.tmps.size = 70 := by rw [ha0]; rfl
            have HA0 := Lib.hid ha0; clear ha0
            refine wp_region_w [(38, .is (.agg #[.string g.name, .int .i64 g.locals, .int .i64 g.slots, .slice nA g.nodes.length nc])), (39, .is (.slice (some ⟨lb, lo, none⟩) G lc)), (40, .is (.int .i64 (k : Nat))), (41, .is (.pointer (some ⟨lb, lo + k, none⟩))), (42, .is (.slice fA l.length fc)), (43, .is (.bool true)), (44, .is (.bool false))] (by kernel_rfl) (by kernel_rfl) ?steps ?done
            case steps =>
              refine ⟨?_, ?_, ?_, ?_, ?_, ?_, ?_, trivial⟩
              · -- 0
                refine JW.step (slots := slRf) rfl (by decide) (by rw [hsz]; decide) (38, .is (.agg #[.string g.name, .int .i64 g.locals, .int .i64 g.slots, .slice nA g.nodes.length nc])) rfl rfl rfl ?_
                intro D a wx K hD hp h hK
                have hfr : Fr slRf a0 a := h.fr
                refine step_wp rfl ?_
                have q10 : a.eval (.tmp 10) = .pointer (some ⟨X, 0, none⟩) := (hfr.eval (j := 10) (by decide)).trans t10
                refine wpw_load hK 69 _ rfl X (0) q10 _ (by have hb := h.below; exact fun j v hj => by rw [Nat.zero_add, (HXW.out.below hb HXW.out.lt).cell]; exact hj) Tryz.underlying69 rfl (by kernel_rfl)
              · -- 1
                refine JW.step (slots := slRf) rfl (by decide) (by rw [hsz]; decide) (39, .is (.slice (some ⟨lb, lo, none⟩) G lc)) rfl rfl rfl ?_
                intro D a wx K hD hp h hK
                have hfr : Fr slRf a0 a := h.fr
                refine step_wp rfl ?_
                have q1 : a.eval (.tmp 1) = .slice (some ⟨lb, lo, none⟩) G lc := (hfr.eval (j := 1) (by decide)).trans t1
                exact wpw_move hK rfl q1
              · -- 2
                refine JW.step (slots := slRf) rfl (by decide) (by rw [hsz]; decide) (40, .is (.int .i64 (k : Nat))) rfl rfl rfl ?_
                intro D a wx K hD hp h hK
                have hfr : Fr slRf a0 a := h.fr
                refine step_wp rfl ?_
                have q9 : a.eval (.tmp 9) = .int .i64 (k : Nat) := (hfr.eval (j := 9) (by decide)).trans t9
                exact wpw_move hK rfl q9
              · -- 3
                refine JW.step (slots := slRf) rfl (by decide) (by rw [hsz]; decide) (41, .is (.pointer (some ⟨lb, lo + k, none⟩))) rfl rfl rfl ?_
                intro D a wx K hD hp h hK
                have hfr : Fr slRf a0 a := h.fr
                refine step_wp rfl ?_
                have q39 : a.eval (.tmp 39) = .slice (some ⟨lb, lo, none⟩) G lc := h.val 1 _ rfl (hp 1 (by decide))
                have q40 : a.eval (.tmp 40) = .int .i64 (k : Nat) := h.val 2 _ rfl (hp 2 (by decide))
                have z2 : (0 : Int) ≤ (k : Nat) := by omega
                have z3 : ((k : Nat) : Int) < (G : Nat) := by omega
                refine wpw_val hK (by clear hfr; generalize a.eval = ρ at *; go_simp)
              · -- 4
                refine JW.step (slots := slRf) rfl (by decide) (by rw [hsz]; decide) (42, .is (.slice fA l.length fc)) rfl rfl rfl ?_
                intro D a wx K hD hp h hK
                have hfr : Fr slRf a0 a := h.fr
                refine step_wp rfl ?_
                have q41 : a.eval (.tmp 41) = .pointer (some ⟨lb, lo + k, none⟩) := h.val 3 _ rfl (hp 3 (by decide))
                have z1 : wx.cell? ⟨lb, lo + k, none⟩ = some (.slice fA l.length fc) := cmap_below h.below _ _ _ HFC.out
                refine wpw_val hK (by clear hfr; generalize a.eval = ρ at *; go_simp)
              · -- 5
                refine JW.step (slots := slRf) rfl (by decide) (by rw [hsz]; decide) (43, .is (.bool true)) rfl rfl rfl ?_
                intro D a wx K hD hp h hK
                have hfr : Fr slRf a0 a := h.fr
                refine step_wp rfl ?_
                have q38 : a.eval (.tmp 38) = .agg #[.string g.name, .int .i64 g.locals, .int .i64 g.slots, .slice nA g.nodes.length nc] := h.val 0 _ rfl (hp 0 (by decide))
                have q42 : a.eval (.tmp 42) = .slice fA l.length fc := h.val 4 _ rfl (hp 4 (by decide))
                refine wpw_call hK Tryz.func52 (by kernel_rfl) (by kernel_rfl) rfl #[.agg #[.string g.name, .int .i64 g.locals, .int .i64 g.slots, .slice nA g.nodes.length nc], .slice fA l.length fc] (by simp only [List.map_toArray, List.map_cons, List.map_nil, q38, q42]; try rfl) ?_
                refine (HRT.out wx h.below).mono ?_
                rintro e w' ⟨rfl, hb⟩
                exact ⟨_, rfl, hb, rfl⟩
              · -- 6
                refine JW.step (slots := slRf) rfl (by decide) (by rw [hsz]; decide) (44, .is (.bool false)) rfl rfl rfl ?_
                intro D a wx K hD hp h hK
                have hfr : Fr slRf a0 a := h.fr
                refine step_wp rfl ?_
                have q43 : a.eval (.tmp 43) = .bool true := h.val 5 _ rfl (hp 5 (by decide))
                refine wpw_val hK (by clear hfr; generalize a.eval = ρ at *; go_simp)
            case done =>
              intro D a wz hall h
              have hd : ∀ i, i < 7 → D i = true := hall
              have hfin := Fr.allW (slots := slRf) h.fr (by rw [hsz]; decide)
              simp only [putW, slRf] at hfin
              rw [(show a.eval (.tmp 38) = .agg #[.string g.name, .int .i64 g.locals, .int .i64 g.slots, .slice nA g.nodes.length nc] from h.val 0 _ rfl (hd 0 (by decide))), (show a.eval (.tmp 39) = .slice (some ⟨lb, lo, none⟩) G lc from h.val 1 _ rfl (hd 1 (by decide))), (show a.eval (.tmp 40) = .int .i64 (k : Nat) from h.val 2 _ rfl (hd 2 (by decide))), (show a.eval (.tmp 41) = .pointer (some ⟨lb, lo + k, none⟩) from h.val 3 _ rfl (hd 3 (by decide))), (show a.eval (.tmp 42) = .slice fA l.length fc from h.val 4 _ rfl (hd 4 (by decide))), (show a.eval (.tmp 43) = .bool true from h.val 5 _ rfl (hd 5 (by decide))), (show a.eval (.tmp 44) = .bool false from h.val 6 _ rfl (hd 6 (by decide)))] at hfin
              have hbz := h.below
              rw [hfin, HA0.out]
              clear hfin HA0 h hall hd t10 t1 t9 hsz
              simp only [Act.put, List.setIfInBounds_toArray, List.set_cons_zero, List.set_cons_succ]
              have HZ := Lib.hid hbz
              clear hbz
              go_wp2
              go_roundw
              case rel => exact ⟨k + 1, by go_num, hlt, Lib.hid (fun t g' l' ht hg' hl' => by
                by_cases e : t = k
                · subst e
                  have h1 := HGL.out.1
                  have h2 := HGL.out.2.1
                  rw [h1] at hg'; rw [h2] at hl'
                  injection hg' with hg'; injection hl' with hl'
                  subst hg' hl'
                  exact HFB.out
                · exact HF.out t g' l' (by omega) hg' hl'), Lib.hid (HB1W.out.trans (HZ.out.mono HB1W.out.size))⟩
              case measure => simp [intOf]; omega
        · obtain rfl : k = G := by omega
          have hfa : L.length = u.graphs.length ∧ FenAll u L := ⟨by rw [HLG.out.1, HLG.out.2], fun t g l hg hl => HF.out t g l (by have := (List.getElem?_eq_some_iff.1 hl).1; rw [HLG.out.1] at this; exact this) hg hl⟩
          have HFA := Lib.hid hfa
          have HUR := Lib.hid (And.intro hbw hur)
          have d2 := hur.cell 2
          clear hfa hbw hur HF
          obtain ⟨G, rfl⟩ : ∃ G : Nat, G = k := ⟨_, rfl⟩
          go_wp2
          obtain ⟨wo, rfl⟩ : ∃ wo : World, wo = wr := ⟨_, rfl⟩
          go_loopw [11, 49] (fun v11 v49 wr => ∃ (j : Nat) (b : Bool), v49 = .int .i64 j ∧ v11 = .bool b ∧ j ≤ G ∧ Hid (b = true ↔ ∀ (t : Nat) (l : List Int), t < j → L[t]? = some l → (loadsR u (t : Int) l).1 = []) ∧ Hid (Below wo.heap.size wo wr)) (fun _ v49 _ => G - (intOf v49).toNat)
          case atStart => exact ⟨0, true, rfl, rfl, Nat.zero_le _, Lib.hid (by simp), Lib.hid (Below.refl _ _)⟩
          case round =>
            obtain ⟨j, b, rfl, rfl, hj, HBO, HB⟩ := hrel
            have hbw : Below w.heap.size w wr := HUR.out.1.trans (HB.out.mono HUR.out.1.size)
            have hur := HUR.out.2.below HB.out HUR.out.2.lt
            by_cases hlt : j < G
            · obtain ⟨l, hl⟩ : ∃ l, L[j]? = some l := ⟨L[j]'(by rw [HLG.out.1]; exact hlt), List.getElem?_eq_getElem _⟩
              obtain ⟨lb, lo, rfl, fv, hfc, hfi⟩ := HL.out.at_ hl
              rw [Nat.mul_one] at hfc
              have hfc1 : wr.cell? ⟨lb, lo + j, none⟩ = some fv := cmap_below hbw _ _ _ hfc
              obtain ⟨fA, fc, rfl, -⟩ := id hfi
              have j0 : (0 : Int) ≤ j := by omega
              have jk : (j : Int) < G := by omega
              have HGL := Lib.hid hl
              have HFC := Lib.hid hfc1
              have HUW := Lib.hid hur
              obtain ⟨W0, rfl⟩ : ∃ W0 : World, W0 = wr := ⟨_, rfl⟩
              have HLR := Lib.hid fun wx (h : Below W0.heap.size W0 wx) => HLO.out wx (hbw.trans (h.mono hbw.size)) (j : Int) _ l hfi
              unfold LoadsPost at HLR
              clear hl hfc hfi hur hbw hfc1
              go_wp2
              refine wp_act0 fun a0 ha0 => ?_
              have t2 : a0.eval (.tmp 2) = .pointer (some ⟨w.heap.size, 0, none⟩) := by rw [ha0]; rfl
              have t1 : a0.eval (.tmp 1) = .slice (some ⟨lb, lo, none⟩) G lc := by rw [ha0]; rfl
              have t12 : a0.eval (.tmp 12) = .int .i64 (j : Nat) := by rw [ha0]; rfl
              have hsz : a0.tmps.size = 70 := by rw [ha0]; rfl
              have HA0 := Lib.hid ha0; clear ha0
              refine wp_region_w [(53, .is (.agg #[sv, lv, .slice gA G gc])), (54, .is (.int .i64 (j : Nat))), (55, .is (.slice (some ⟨lb, lo, none⟩) G lc)), (56, .is (.int .i64 (j : Nat))), (57, .is (.pointer (some ⟨lb, lo + j, none⟩))), (58, .is (.slice fA l.length fc)), (59, srT W0.heap.size 3 (loadsR u ((j : Nat) : Int) l).1.length (ints (loadsR u ((j : Nat) : Int) l).1) (loadsR u ((j : Nat) : Int) l).2), (52, srT W0.heap.size 3 (loadsR u ((j : Nat) : Int) l).1.length (ints (loadsR u ((j : Nat) : Int) l).1) (loadsR u ((j : Nat) : Int) l).2), (60, srO W0.heap.size 3 (loadsR u ((j : Nat) : Int) l).1.length (ints (loadsR u ((j : Nat) : Int) l).1)), (61, .is (.int .i64 (loadsR u ((j : Nat) : Int) l).2)), (13, srO W0.heap.size 3 (loadsR u ((j : Nat) : Int) l).1.length (ints (loadsR u ((j : Nat) : Int) l).1)), (14, .is (.int .i64 (loadsR u ((j : Nat) : Int) l).2))] (by kernel_rfl) (by kernel_rfl) ?steps ?done
              case steps =>
                refine ⟨?_, ?_, ?_, ?_, ?_, ?_, ?_, ?_, ?_, ?_, ?_, ?_, trivial⟩
                · -- 0
                  refine JW.step (slots := slRg) rfl (by decide) (by rw [hsz]; decide) (53, .is (.agg #[sv, lv, .slice gA G gc])) rfl rfl rfl ?_
                  intro D a wx K hD hp h hK
                  have hfr : Fr slRg a0 a := h.fr
                  refine step_wp rfl ?_
                  have q2 : a.eval (.tmp 2) = .pointer (some ⟨w.heap.size, 0, none⟩) := (hfr.eval (j := 2) (by decide)).trans t2
                  refine wpw_load hK 25 _ rfl w.heap.size (0) q2 _ (by have hb := h.below; exact fun j v hj => by rw [Nat.zero_add, (HUW.out.below hb HUW.out.lt).cell]; exact hj) Tryz.underlying25 rfl (by kernel_rfl)
                · -- 1
                  refine JW.step (slots := slRg) rfl (by decide) (by rw [hsz]; decide) (54, .is (.int .i64 (j : Nat))) rfl rfl rfl ?_
                  intro D a wx K hD hp h hK
                  have hfr : Fr slRg a0 a := h.fr
                  refine step_wp rfl ?_
                  have q12 : a.eval (.tmp 12) = .int .i64 (j : Nat) := (hfr.eval (j := 12) (by decide)).trans t12
                  exact wpw_move hK rfl q12
                · -- 2
                  refine JW.step (slots := slRg) rfl (by decide) (by rw [hsz]; decide) (55, .is (.slice (some ⟨lb, lo, none⟩) G lc)) rfl rfl rfl ?_
                  intro D a wx K hD hp h hK
                  have hfr : Fr slRg a0 a := h.fr
                  refine step_wp rfl ?_
                  have q1 : a.eval (.tmp 1) = .slice (some ⟨lb, lo, none⟩) G lc := (hfr.eval (j := 1) (by decide)).trans t1
                  exact wpw_move hK rfl q1
                · -- 3
                  refine JW.step (slots := slRg) rfl (by decide) (by rw [hsz]; decide) (56, .is (.int .i64 (j : Nat))) rfl rfl rfl ?_
                  intro D a wx K hD hp h hK
                  have hfr : Fr slRg a0 a := h.fr
                  refine step_wp rfl ?_
                  have q12 : a.eval (.tmp 12) = .int .i64 (j : Nat) := (hfr.eval (j := 12) (by decide)).trans t12
                  exact wpw_move hK rfl q12
                · -- 4
                  refine JW.step (slots := slRg) rfl (by decide) (by rw [hsz]; decide) (57, .is (.pointer (some ⟨lb, lo + j, none⟩))) rfl rfl rfl ?_
                  intro D a wx K hD hp h hK
                  have hfr : Fr slRg a0 a := h.fr
                  refine step_wp rfl ?_
                  have q55 : a.eval (.tmp 55) = .slice (some ⟨lb, lo, none⟩) G lc := h.val 2 _ rfl (hp 2 (by decide))
                  have q56 : a.eval (.tmp 56) = .int .i64 (j : Nat) := h.val 3 _ rfl (hp 3 (by decide))
                  have z2 : (0 : Int) ≤ (j : Nat) := by omega
                  have z3 : ((j : Nat) : Int) < (G : Nat) := by omega
                  refine wpw_val hK (by clear hfr; generalize a.eval = ρ at *; go_simp)
                · -- 5
                  refine JW.step (slots := slRg) rfl (by decide) (by rw [hsz]; decide) (58, .is (.slice fA l.length fc)) rfl rfl rfl ?_
                  intro D a wx K hD hp h hK
                  have hfr : Fr slRg a0 a := h.fr
                  refine step_wp rfl ?_
                  have q57 : a.eval (.tmp 57) = .pointer (some ⟨lb, lo + j, none⟩) := h.val 4 _ rfl (hp 4 (by decide))
                  have z1 : wx.cell? ⟨lb, lo + j, none⟩ = some (.slice fA l.length fc) := cmap_below h.below _ _ _ HFC.out
                  refine wpw_val hK (by clear hfr; generalize a.eval = ρ at *; go_simp)
                · -- 6
                  refine JW.step (slots := slRg) rfl (by decide) (by rw [hsz]; decide) (59, srT W0.heap.size 3 (loadsR u ((j : Nat) : Int) l).1.length (ints (loadsR u ((j : Nat) : Int) l).1) (loadsR u ((j : Nat) : Int) l).2) rfl rfl rfl ?_
                  intro D a wx K hD hp h hK
                  have hfr : Fr slRg a0 a := h.fr
                  refine step_wp rfl ?_
                  have q53 : a.eval (.tmp 53) = .agg #[sv, lv, .slice gA G gc] := h.val 0 _ rfl (hp 0 (by decide))
                  have q54 : a.eval (.tmp 54) = .int .i64 (j : Nat) := h.val 1 _ rfl (hp 1 (by decide))
                  have q58 : a.eval (.tmp 58) = .slice fA l.length fc := h.val 5 _ rfl (hp 5 (by decide))
                  refine wpw_call hK Tryz.func14 (by kernel_rfl) (by kernel_rfl) rfl #[.agg #[sv, lv, .slice gA G gc], .int .i64 (j : Nat), .slice fA l.length fc] (by simp only [List.map_toArray, List.map_cons, List.map_nil, q53, q54, q58]; try rfl) ?_
                  refine (HLR.out wx h.below).mono ?_
                  rintro e w' ⟨r, rfl, hr, hb⟩
                  exact ⟨_, rfl, hb, r, rfl, own_base hr h.below.size⟩
                · -- 7
                  refine JW.step (slots := slRg) rfl (by decide) (by rw [hsz]; decide) (52, srT W0.heap.size 3 (loadsR u ((j : Nat) : Int) l).1.length (ints (loadsR u ((j : Nat) : Int) l).1) (loadsR u ((j : Nat) : Int) l).2) rfl rfl rfl ?_
                  intro D a wx K hD hp h hK
                  have hfr : Fr slRg a0 a := h.fr
                  refine step_wp rfl ?_
                  have q59 := h.val 6 _ rfl (hp 6 (by decide))
                  exact wpw_move hK rfl q59
                · -- 8
                  refine JW.step (slots := slRg) rfl (by decide) (by rw [hsz]; decide) (60, srO W0.heap.size 3 (loadsR u ((j : Nat) : Int) l).1.length (ints (loadsR u ((j : Nat) : Int) l).1)) rfl rfl rfl ?_
                  intro D a wx K hD hp h hK
                  have hfr : Fr slRg a0 a := h.fr
                  refine step_wp rfl ?_
                  have q52 := h.val 7 _ rfl (hp 7 (by decide))
                  obtain ⟨r60, hr1, hr2⟩ := q52
                  have q52 : a.eval (.tmp 52) = .tuple #[r60, .int .i64 (loadsR u ((j : Nat) : Int) l).2] := hr1
                  refine wpw_valx r60 hK hr2 (by clear hfr hr1 hr2; generalize a.eval = ρ at *; go_simp)
                · -- 9
                  refine JW.step (slots := slRg) rfl (by decide) (by rw [hsz]; decide) (61, .is (.int .i64 (loadsR u ((j : Nat) : Int) l).2)) rfl rfl rfl ?_
                  intro D a wx K hD hp h hK
                  have hfr : Fr slRg a0 a := h.fr
                  refine step_wp rfl ?_
                  have q52 := h.val 7 _ rfl (hp 7 (by decide))
                  obtain ⟨r60, hr1, hr2⟩ := q52
                  have q52 : a.eval (.tmp 52) = .tuple #[r60, .int .i64 (loadsR u ((j : Nat) : Int) l).2] := hr1
                  refine wpw_val hK (by clear hfr hr1 hr2; generalize a.eval = ρ at *; go_simp)
                · -- 10
                  refine JW.step (slots := slRg) rfl (by decide) (by rw [hsz]; decide) (13, srO W0.heap.size 3 (loadsR u ((j : Nat) : Int) l).1.length (ints (loadsR u ((j : Nat) : Int) l).1)) rfl rfl rfl ?_
                  intro D a wx K hD hp h hK
                  have hfr : Fr slRg a0 a := h.fr
                  refine step_wp rfl ?_
                  have q60 := h.val 8 _ rfl (hp 8 (by decide))
                  exact wpw_assign hK rfl q60
                · -- 11
                  refine JW.step (slots := slRg) rfl (by decide) (by rw [hsz]; decide) (14, .is (.int .i64 (loadsR u ((j : Nat) : Int) l).2)) rfl rfl rfl ?_
                  intro D a wx K hD hp h hK
                  have hfr : Fr slRg a0 a := h.fr
                  refine step_wp rfl ?_
                  have q61 : a.eval (.tmp 61) = .int .i64 (loadsR u ((j : Nat) : Int) l).2 := h.val 9 _ rfl (hp 9 (by decide))
                  refine wpw_val hK (by clear hfr; generalize a.eval = ρ at *; go_simp)
              case done =>
                intro D a wz hall h
                have hd : ∀ i, i < 12 → D i = true := hall
                have hfin := Fr.allW (slots := slRg) h.fr (by rw [hsz]; decide)
                have v13 : wz.ownsRow W0.heap.size 3 1 (a.eval (.tmp 13)) (loadsR u ((j : Nat) : Int) l).1.length (ints (loadsR u ((j : Nat) : Int) l).1) := h.val 10 _ rfl (hd 10 (by decide))
                simp only [putW, slRg] at hfin
                rw [(show a.eval (.tmp 53) = .agg #[sv, lv, .slice gA G gc] from h.val 0 _ rfl (hd 0 (by decide))), (show a.eval (.tmp 54) = .int .i64 (j : Nat) from h.val 1 _ rfl (hd 1 (by decide))), (show a.eval (.tmp 55) = .slice (some ⟨lb, lo, none⟩) G lc from h.val 2 _ rfl (hd 2 (by decide))), (show a.eval (.tmp 56) = .int .i64 (j : Nat) from h.val 3 _ rfl (hd 3 (by decide))), (show a.eval (.tmp 57) = .pointer (some ⟨lb, lo + j, none⟩) from h.val 4 _ rfl (hd 4 (by decide))), (show a.eval (.tmp 58) = .slice fA l.length fc from h.val 5 _ rfl (hd 5 (by decide))), (show a.eval (.tmp 61) = .int .i64 (loadsR u ((j : Nat) : Int) l).2 from h.val 9 _ rfl (hd 9 (by decide))), (show a.eval (.tmp 14) = .int .i64 (loadsR u ((j : Nat) : Int) l).2 from h.val 11 _ rfl (hd 11 (by decide)))] at hfin
                have hbz := h.below
                generalize a.eval (.tmp 13) = r13 at hfin v13
                generalize a.eval (.tmp 59) = r59 at hfin
                generalize a.eval (.tmp 52) = r52 at hfin
                generalize a.eval (.tmp 60) = r60 at hfin
                rw [hfin, HA0.out]
                clear hfin HA0 h hall hd t2 t1 t12 hsz
                simp only [Act.put, List.setIfInBounds_toArray, List.set_cons_zero, List.set_cons_succ]
                obtain ⟨n, hn⟩ : ∃ n, (loadsR u ((j : Nat) : Int) l).1.length = n := ⟨_, rfl⟩
                rw [hn] at v13
                obtain ⟨rA, rc, rfl, -⟩ := own_slice v13
                have HZ := Lib.hid hbz
                have hn0 : n = 0 ↔ (loadsR u ((j : Nat) : Int) l).1 = [] := by rw [← hn]; exact List.length_eq_zero_iff
                have HN0 := Lib.hid hn0
                clear hbz v13 hn hn0
                have hall : ∀ b' : Bool, (b' = true ↔ (b = true ∧ n = 0)) → Hid (b' = true ↔ ∀ (t : Nat) (l : List Int), t < j + 1 → L[t]? = some l → (loadsR u (t : Int) l).1 = []) := fun b' hb' => Lib.hid (by
                  rw [hb', HBO.out, HN0.out]
                  constructor
                  · rintro ⟨h1, h2⟩ t l' ht hl'
                    by_cases e : t = j
                    · subst e
                      have h3 := HGL.out
                      rw [h3] at hl'
                      injection hl' with hl'
                      subst hl'
                      exact h2
                    · exact h1 t l' (by omega) hl'
                  · intro h
                    exact ⟨fun t l' ht hl' => h t l' (by omega) hl', h j l (by omega) HGL.out⟩)
                have HALL := Lib.hid hall
                clear hall
                cases b with
                | false =>
                  go_wp2
                  go_roundw
                  case rel => exact ⟨j + 1, false, by go_num, rfl, hlt, HALL.out false (by simp), Lib.hid (HB.out.trans (HZ.out.mono HB.out.size))⟩
                  case measure => simp [intOf]; omega
                | true =>
                  by_cases hz : n = 0
                  · subst hz
                    go_wp2
                    go_roundw
                    case rel => exact ⟨j + 1, true, by go_num, rfl, hlt, HALL.out true (by simp), Lib.hid (HB.out.trans (HZ.out.mono HB.out.size))⟩
                    case measure => simp [intOf]; omega
                  · have dz : ((n : Int) == 0) = false := by simp; omega
                    go_wp2
                    go_roundw
                    case rel => exact ⟨j + 1, false, by go_num, rfl, hlt, HALL.out false (by simp [hz]), Lib.hid (HB.out.trans (HZ.out.mono HB.out.size))⟩
                    case measure => simp [intOf]; omega
            · obtain rfl : j = G := by omega
              go_wp2
              go_ret2
              have hno : b = true ↔ NoneOpen u L := by
                rw [HBO.out]
                exact ⟨fun h t l hl => h t l (by have := (List.getElem?_eq_some_iff.1 hl).1; rw [HLG.out.1] at this; exact this) hl, fun h t l _ hl => h t l hl⟩
              cases b with
              | false =>
                have hs := safeR_open HCC.out HFA.out (fun h => by have := hno.2 h; cases this)
                exact ⟨by rw [hs]; rfl, hbw⟩
              | true =>
                have hs := safeR_safe HCC.out HFA.out (hno.1 rfl)
                exact ⟨by rw [hs]; rfl, hbw⟩
    · have d0 : ((L.length : Int) != (u.graphs.length : Int)) = true := by simp; omega
      have d1 : (L.length != u.graphs.length) = true := by simp; omega
      have HS := Lib.hid (safeR_fence (u := u) (L := L) HCC.out (fun h => hlen h.1))
      clear hlen
      go_enter Tryz.func16, Tryz.ntmps16
      go_wp2_with (first
        | (go_at_call 57
           refine (HC.out _ HBX.out.2).mono ?_
           rintro e w1 ⟨rfl, hb1⟩
           have HU1 := Lib.hid (HBX.out.1.below hb1 HBX.out.1.lt)
           have c2 := HU1.out.cell 2
           have HB1 := Lib.hid (HBX.out.2.trans (hb1.mono HBX.out.2.size))
           simp only [checkV]
           clear hb1))
      go_ret2
      exact ⟨by rw [HS.out]; rfl, HB1.out⟩
end Go.Proofs.YtffgnjgphkdodaaGreatDoor
