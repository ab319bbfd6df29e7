import Derived.Test.YtffgnjgphkdodaaGreatDoorP137
import Derived.Test.YtffgnjgphkdodaaGreatDoorP134
namespace Go.Proofs.YtffgnjgphkdodaaGreatDoor
open Go Go.RowKit
def slCp : List Nat := [37, 38, 39, 40, 41, 42, 43, 44, 45, 46, 47]
theorem pow4_le {m : Nat} (h : m ≤ 15) : (4 : Int) ^ m ≤ 1073741824 := by
 rcases (by omega : m = 0 ∨ m = 1 ∨ m = 2 ∨ m = 3 ∨ m = 4 ∨ m = 5 ∨ m = 6 ∨ m = 7 ∨ m = 8 ∨ m = 9 ∨ m = 10 ∨ m = 11 ∨ m = 12 ∨ m = 13 ∨ m = 14 ∨ m = 15) with rfl | rfl | rfl | rfl | rfl | rfl | rfl | rfl | rfl | rfl | rfl | rfl | rfl | rfl | rfl | rfl <;> decide
set_option maxRecDepth 100000 in
set_option maxHeartbeats 8000000 in
theorem rcost_calls (u : Unit_) (cs : List Value) (v : Value) (L : List (List Int)) (w : World) (hu : UnitV (cmap w) cs u) (hok : UOk u) (hL : Ints2 (cmap w) v L) :
  Calls Tryz.prog 40 #[.agg cs.toArray, v] w (CostPost u L w) := by
 have HC := Lib.hid fun w1 (h : Below w.heap.size w w1) => check2_calls u cs w1 (hu.mono (cmap_below h)) hok
 obtain ⟨sv, lv, gv, rfl, -, -, hgs⟩ := hu
 obtain ⟨gA, gc, rfl, -⟩ := id hgs
 have hgl := hgs.len.2.2
 obtain ⟨lA, lc, rfl, -⟩ := id hL
 have hll := hL.len.2.2
 have hbx := Blk.new w 25 [sv, lv, .slice gA u.graphs.length gc]
 have hb0 := Below_alloc' w (.cells #[sv, lv, .slice gA u.graphs.length gc] 25)
 have HBX := Lib.hid (And.intro hbx hb0)
 have HG := Lib.hid hgs
 have HL := Lib.hid hL
 clear hbx hb0 hgs hL
 cases hc : checkF u with
 | some r =>
  obtain ⟨r1, r2⟩ := r
  have HS := Lib.hid (costR_bad (u := u) (L := L) (by rw [hc]; simp))
  rw [hc] at HC
  clear hc
  go_enter Tryz.func40, Tryz.ntmps40
  go_wp2_with (first
   | (go_at_call 57
      refine (HC.out _ HBX.out.2).mono ?_
      rintro e w1 ⟨rfl, hb1⟩
      have HB1 := Lib.hid (HBX.out.2.trans (hb1.mono HBX.out.2.size))
      simp only [checkV]
      clear hb1))
  go_ret2
  exact ⟨by rw [HS.out]; rfl, HB1.out⟩
 | none =>
  rw [hc] at HC
  have HCC := Lib.hid hc
  clear hc
  by_cases hlen : L.length = u.graphs.length
  ·have d0 : ((L.length : Int) != (u.graphs.length : Int)) = false := by simp [hlen]
   rw [hlen] at d0
   obtain ⟨G, hG⟩ : ∃ G, u.graphs.length = G := ⟨_, rfl⟩
   have hlen2 : L.length = G := by rw [hlen, hG]
   rw [hG] at d0 hgl HBX HG HC
   rw [hlen2] at hll HL
   rw [hlen2, hG]
   have HLG := Lib.hid (And.intro hlen2 hG)
   clear hlen hlen2 hG
   go_enter Tryz.func40, Tryz.ntmps40
   go_wp2_with (first
    | (go_at_call 57
       refine (HC.out _ HBX.out.2).mono ?_
       rintro e w1 ⟨rfl, hb1⟩
       have HU1 := Lib.hid (HBX.out.1.below hb1 HBX.out.1.lt)
       have c2 := HU1.out.cell 2
       have HB1 := Lib.hid (HBX.out.2.trans (hb1.mono HBX.out.2.size))
       simp only [checkV]
       clear hb1))
   go_loopw [9, 10] (fun v9 v10 wr => ∃ (k : Nat) (s : Int), v10 = .int .i64 k ∧ v9 = .int .i64 s ∧ k ≤ G ∧ Hid (s = costS u L k) ∧ 0 ≤ s ∧ s ≤ k * 17592186044416 ∧ Hid (∀ (t : Nat) (g : Graph) (l : List Int), t < k → u.graphs[t]? = some g → L[t]? = some l → fenB g.nodes.length (-1) l = true) ∧ Hid (Below w1.heap.size w1 wr)) (fun _ v10 _ => G - (intOf v10).toNat)
   case atStart => exact ⟨0, 0, rfl, rfl, Nat.zero_le _, Lib.hid (costS_zero u L).symm, by omega, by omega, Lib.hid (fun t _ _ h => by omega), Lib.hid (Below.refl _ _)⟩
   case round =>
    obtain ⟨k, s0, rfl, rfl, hk, HS0, hs1, hs2, HF, HB⟩ := hrel
    have hbw : Below w.heap.size w wr := HB1.out.trans (HB.out.mono HB1.out.size)
    have hur := HU1.out.below HB.out HU1.out.lt
    by_cases hlt : k < G
    ·obtain ⟨g, hg⟩ : ∃ g, u.graphs[k]? = some g := ⟨u.graphs[k]'(by rw [HLG.out.2]; exact hlt), List.getElem?_eq_getElem _⟩
     obtain ⟨l, hl⟩ : ∃ l, L[k]? = some l := ⟨L[k]'(by rw [HLG.out.1]; exact hlt), List.getElem?_eq_getElem _⟩
     obtain ⟨gb, go, rfl, gcs, hgv, hgc⟩ := HG.out.at_ hg
     obtain ⟨lb, lo, rfl, fv, hfc, hfi⟩ := HL.out.at_ hl
     rw [Nat.mul_one] at hfc
     have hfc1 : wr.cell? ⟨lb, lo + k, none⟩ = some fv := cmap_below hbw _ _ _ hfc
     have c2r := hur.cell 2
     have hrt := fun wx (h : Below w.heap.size w wx) => rfences_calls g gcs fv l wx (hgv.mono (cmap_below h)) (hfi.mono (cmap_below h))
     have hdc := fun wx (h : Below w.heap.size w wx) (hw : WholeG g) => rdepth_calls g gcs wx hw (hgv.mono (cmap_below h))
     obtain ⟨nv, rfl, hnv⟩ := id hgv
     obtain ⟨nA, nc, rfl, -⟩ := id hnv
     have HLD : Hid (∀ wx, Below wr.heap.size wr wx → ∀ j x, ([.string g.name, .int .i64 g.locals, .int .i64 g.slots, .slice nA g.nodes.length nc] : List Value)[j]? = some x → wx.cell? ⟨gb, go + k * 4 + j, none⟩ = some x) := Lib.hid fun wx hx j x hj => cmap_below hx _ _ _ (cmap_below hbw _ _ _ (hgc j x hj))
     obtain ⟨fA, fc, rfl, -⟩ := id hfi
     have HRT0 := Lib.hid hrt
     have HDC := Lib.hid hdc
     have HFI := Lib.hid hfi
     have k0 : (0 : Int) ≤ k := by omega
     have kG : (k : Int) < G := by omega
     have HGL := Lib.hid (And.intro hg (And.intro hl (And.intro hbw hur)))
     clear hg hl hgv hgc hfc hfi hnv hur hbw hrt hdc
     cases hfb : fenB g.nodes.length (-1) l with
     | false =>
      have HFB := Lib.hid hfb
      rw [hfb] at HRT0
      clear hfb
      obtain ⟨W0, rfl⟩ : ∃ W0 : World, W0 = wr := ⟨_, rfl⟩
      have HUW := Lib.hid HGL.out.2.2.2
      have HBW0 := Lib.hid HGL.out.2.2.1
      have HFC := Lib.hid hfc1
      have HRT := Lib.hid fun wx (h : Below W0.heap.size W0 wx) => HRT0.out wx (HBW0.out.trans (h.mono HBW0.out.size))
      go_wp2
      refine wp_act0 fun a0 ha0 => ?_
      have t2 : a0.eval (.tmp 2) = .pointer (some ⟨w.heap.size, 0, none⟩) := by rw [ha0]; rfl
      have t1 : a0.eval (.tmp 1) = .slice (some ⟨lb, lo, none⟩) G lc := by rw [ha0]; rfl
      have t10 : a0.eval (.tmp 10) = .int .i64 (k : Nat) := by rw [ha0]; rfl
      have hsz : a0.tmps.size = 87 := by rw [ha0]; rfl
      have HA0 := Lib.hid ha0; clear ha0
      refine wp_region_w [(37, .is (.pointer (some ⟨w.heap.size, 2, none⟩))), (38, .is (.slice (some ⟨gb, go, none⟩) G gc)), (39, .is (.int .i64 (k : Nat))), (40, .is (.pointer (some ⟨gb, go + k * 4, none⟩))), (41, .is (.agg #[.string g.name, .int .i64 g.locals, .int .i64 g.slots, .slice nA g.nodes.length nc])), (42, .is (.slice (some ⟨lb, lo, none⟩) G lc)), (43, .is (.int .i64 (k : Nat))), (44, .is (.pointer (some ⟨lb, lo + k, none⟩))), (45, .is (.slice fA l.length fc)), (46, .is (.bool false)), (47, .is (.bool true))] (by kernel_rfl) (by kernel_rfl) ?steps ?done
      case steps =>
       refine ⟨?_, ?_, ?_, ?_, ?_, ?_, ?_, ?_, ?_, ?_, ?_, trivial⟩
       ·
        refine JW.step (slots := slCp) rfl (by decide) (by rw [hsz]; decide) (37, .is (.pointer (some ⟨w.heap.size, 2, none⟩))) rfl rfl rfl ?_
        intro D a wx K hD hp h hK
        have hfr : Fr slCp a0 a := h.fr
        refine step_wp rfl ?_
        have q2 : a.eval (.tmp 2) = .pointer (some ⟨w.heap.size, 0, none⟩) := (hfr.eval (j := 2) (by decide)).trans t2
        refine wpw_val hK (by clear hfr; generalize a.eval = ρ at *; go_simp)
       ·
        refine JW.step (slots := slCp) rfl (by decide) (by rw [hsz]; decide) (38, .is (.slice (some ⟨gb, go, none⟩) G gc)) rfl rfl rfl ?_
        intro D a wx K hD hp h hK
        have hfr : Fr slCp a0 a := h.fr
        refine step_wp rfl ?_
        have q37 : a.eval (.tmp 37) = .pointer (some ⟨w.heap.size, 2, none⟩) := h.val 0 _ rfl (hp 0 (by decide))
        have z1 : wx.cell? ⟨w.heap.size, 2, none⟩ = some (.slice (some ⟨gb, go, none⟩) G gc) := (HUW.out.below h.below HUW.out.lt).cell 2
        refine wpw_val hK (by clear hfr; generalize a.eval = ρ at *; go_simp)
       ·
        refine JW.step (slots := slCp) rfl (by decide) (by rw [hsz]; decide) (39, .is (.int .i64 (k : Nat))) rfl rfl rfl ?_
        intro D a wx K hD hp h hK
        have hfr : Fr slCp a0 a := h.fr
        refine step_wp rfl ?_
        have q10 : a.eval (.tmp 10) = .int .i64 (k : Nat) := (hfr.eval (j := 10) (by decide)).trans t10
        exact wpw_move hK rfl q10
       ·
        refine JW.step (slots := slCp) rfl (by decide) (by rw [hsz]; decide) (40, .is (.pointer (some ⟨gb, go + k * 4, none⟩))) rfl rfl rfl ?_
        intro D a wx K hD hp h hK
        have hfr : Fr slCp a0 a := h.fr
        refine step_wp rfl ?_
        have q38 : a.eval (.tmp 38) = .slice (some ⟨gb, go, none⟩) G gc := h.val 1 _ rfl (hp 1 (by decide))
        have q39 : a.eval (.tmp 39) = .int .i64 (k : Nat) := h.val 2 _ rfl (hp 2 (by decide))
        have z2 : (0 : Int) ≤ (k : Nat) := by omega
        have z3 : ((k : Nat) : Int) < (G : Nat) := by omega
        refine wpw_val hK (by clear hfr; generalize a.eval = ρ at *; go_simp)
       ·
        refine JW.step (slots := slCp) rfl (by decide) (by rw [hsz]; decide) (41, .is (.agg #[.string g.name, .int .i64 g.locals, .int .i64 g.slots, .slice nA g.nodes.length nc])) rfl rfl rfl ?_
        intro D a wx K hD hp h hK
        have hfr : Fr slCp a0 a := h.fr
        refine step_wp rfl ?_
        have q40 : a.eval (.tmp 40) = .pointer (some ⟨gb, go + k * 4, none⟩) := h.val 3 _ rfl (hp 3 (by decide))
        refine wpw_load hK 69 _ rfl gb (go + k * 4) q40 _ (by have hb := h.below; exact fun j v hj => HLD.out _ hb j v hj) Tryz.underlying69 rfl (by kernel_rfl)
       ·
        refine JW.step (slots := slCp) rfl (by decide) (by rw [hsz]; decide) (42, .is (.slice (some ⟨lb, lo, none⟩) G lc)) rfl rfl rfl ?_
        intro D a wx K hD hp h hK
        have hfr : Fr slCp a0 a := h.fr
        refine step_wp rfl ?_
        have q1 : a.eval (.tmp 1) = .slice (some ⟨lb, lo, none⟩) G lc := (hfr.eval (j := 1) (by decide)).trans t1
        exact wpw_move hK rfl q1
       ·
        refine JW.step (slots := slCp) rfl (by decide) (by rw [hsz]; decide) (43, .is (.int .i64 (k : Nat))) rfl rfl rfl ?_
        intro D a wx K hD hp h hK
        have hfr : Fr slCp a0 a := h.fr
        refine step_wp rfl ?_
        have q10 : a.eval (.tmp 10) = .int .i64 (k : Nat) := (hfr.eval (j := 10) (by decide)).trans t10
        exact wpw_move hK rfl q10
       ·
        refine JW.step (slots := slCp) rfl (by decide) (by rw [hsz]; decide) (44, .is (.pointer (some ⟨lb, lo + k, none⟩))) rfl rfl rfl ?_
        intro D a wx K hD hp h hK
        have hfr : Fr slCp a0 a := h.fr
        refine step_wp rfl ?_
        have q42 : a.eval (.tmp 42) = .slice (some ⟨lb, lo, none⟩) G lc := h.val 5 _ rfl (hp 5 (by decide))
        have q43 : a.eval (.tmp 43) = .int .i64 (k : Nat) := h.val 6 _ rfl (hp 6 (by decide))
        have z2 : (0 : Int) ≤ (k : Nat) := by omega
        have z3 : ((k : Nat) : Int) < (G : Nat) := by omega
        refine wpw_val hK (by clear hfr; generalize a.eval = ρ at *; go_simp)
       ·
        refine JW.step (slots := slCp) rfl (by decide) (by rw [hsz]; decide) (45, .is (.slice fA l.length fc)) rfl rfl rfl ?_
        intro D a wx K hD hp h hK
        have hfr : Fr slCp a0 a := h.fr
        refine step_wp rfl ?_
        have q44 : a.eval (.tmp 44) = .pointer (some ⟨lb, lo + k, none⟩) := h.val 7 _ rfl (hp 7 (by decide))
        have z1 : wx.cell? ⟨lb, lo + k, none⟩ = some (.slice fA l.length fc) := cmap_below h.below _ _ _ HFC.out
        refine wpw_val hK (by clear hfr; generalize a.eval = ρ at *; go_simp)
       ·
        refine JW.step (slots := slCp) rfl (by decide) (by rw [hsz]; decide) (46, .is (.bool false)) rfl rfl rfl ?_
        intro D a wx K hD hp h hK
        have hfr : Fr slCp a0 a := h.fr
        refine step_wp rfl ?_
        have q41 : a.eval (.tmp 41) = .agg #[.string g.name, .int .i64 g.locals, .int .i64 g.slots, .slice nA g.nodes.length nc] := h.val 4 _ rfl (hp 4 (by decide))
        have q45 : a.eval (.tmp 45) = .slice fA l.length fc := h.val 8 _ rfl (hp 8 (by decide))
        refine wpw_call hK Tryz.func52 (by kernel_rfl) (by kernel_rfl) rfl #[.agg #[.string g.name, .int .i64 g.locals, .int .i64 g.slots, .slice nA g.nodes.length nc], .slice fA l.length fc] (by simp only [List.map_toArray, List.map_cons, List.map_nil, q41, q45]; try rfl) ?_
        refine (HRT.out wx h.below).mono ?_
        rintro e w' ⟨rfl, hb⟩
        exact ⟨_, rfl, hb, rfl⟩
       ·
        refine JW.step (slots := slCp) rfl (by decide) (by rw [hsz]; decide) (47, .is (.bool true)) rfl rfl rfl ?_
        intro D a wx K hD hp h hK
        have hfr : Fr slCp a0 a := h.fr
        refine step_wp rfl ?_
        have q46 : a.eval (.tmp 46) = .bool false := h.val 9 _ rfl (hp 9 (by decide))
        refine wpw_val hK (by clear hfr; generalize a.eval = ρ at *; go_simp)
      case done =>
       intro D a wz hall h
       have hd : ∀ i, i < 11 → D i = true := hall
       have hfin := Fr.allW (slots := slCp) h.fr (by rw [hsz]; decide)
       simp only [putW, slCp] at hfin
       rw [(show a.eval (.tmp 37) = .pointer (some ⟨w.heap.size, 2, none⟩) from h.val 0 _ rfl (hd 0 (by decide))), (show a.eval (.tmp 38) = .slice (some ⟨gb, go, none⟩) G gc from h.val 1 _ rfl (hd 1 (by decide))), (show a.eval (.tmp 39) = .int .i64 (k : Nat) from h.val 2 _ rfl (hd 2 (by decide))), (show a.eval (.tmp 40) = .pointer (some ⟨gb, go + k * 4, none⟩) from h.val 3 _ rfl (hd 3 (by decide))), (show a.eval (.tmp 41) = .agg #[.string g.name, .int .i64 g.locals, .int .i64 g.slots, .slice nA g.nodes.length nc] from h.val 4 _ rfl (hd 4 (by decide))), (show a.eval (.tmp 42) = .slice (some ⟨lb, lo, none⟩) G lc from h.val 5 _ rfl (hd 5 (by decide))), (show a.eval (.tmp 43) = .int .i64 (k : Nat) from h.val 6 _ rfl (hd 6 (by decide))), (show a.eval (.tmp 44) = .pointer (some ⟨lb, lo + k, none⟩) from h.val 7 _ rfl (hd 7 (by decide))), (show a.eval (.tmp 45) = .slice fA l.length fc from h.val 8 _ rfl (hd 8 (by decide))), (show a.eval (.tmp 46) = .bool false from h.val 9 _ rfl (hd 9 (by decide))), (show a.eval (.tmp 47) = .bool true from h.val 10 _ rfl (hd 10 (by decide)))] at hfin
       have hbz := h.below
       rw [hfin, HA0.out]
       clear hfin HA0 h hall hd t2 t1 t10 hsz
       simp only [Act.put, List.setIfInBounds_toArray, List.set_cons_zero, List.set_cons_succ]
       have HZ := Lib.hid hbz
       clear hbz
       go_wp2
       go_ret2
       have hs := costR_fence (u := u) (L := L) HCC.out (by rintro ⟨_, h⟩; have := h k g l HGL.out.1 HGL.out.2.1; rw [HFB.out] at this; cases this)
       exact ⟨by rw [hs]; rfl, HBW0.out.trans (HZ.out.mono HBW0.out.size)⟩
     | true =>
      have HFB := Lib.hid hfb
      rw [hfb] at HRT0
      clear hfb
      obtain ⟨W0, rfl⟩ : ∃ W0 : World, W0 = wr := ⟨_, rfl⟩
      have HUW := Lib.hid HGL.out.2.2.2
      have HBW0 := Lib.hid HGL.out.2.2.1
      have HFC := Lib.hid hfc1
      have HRT := Lib.hid fun wx (h : Below W0.heap.size W0 wx) => HRT0.out wx (HBW0.out.trans (h.mono HBW0.out.size))
      go_wp2
      refine wp_act0 fun a0 ha0 => ?_
      have t2 : a0.eval (.tmp 2) = .pointer (some ⟨w.heap.size, 0, none⟩) := by rw [ha0]; rfl
      have t1 : a0.eval (.tmp 1) = .slice (some ⟨lb, lo, none⟩) G lc := by rw [ha0]; rfl
      have t10 : a0.eval (.tmp 10) = .int .i64 (k : Nat) := by rw [ha0]; rfl
      have hsz : a0.tmps.size = 87 := by rw [ha0]; rfl
      have HA0 := Lib.hid ha0; clear ha0
      refine wp_region_w [(37, .is (.pointer (some ⟨w.heap.size, 2, none⟩))), (38, .is (.slice (some ⟨gb, go, none⟩) G gc)), (39, .is (.int .i64 (k : Nat))), (40, .is (.pointer (some ⟨gb, go + k * 4, none⟩))), (41, .is (.agg #[.string g.name, .int .i64 g.locals, .int .i64 g.slots, .slice nA g.nodes.length nc])), (42, .is (.slice (some ⟨lb, lo, none⟩) G lc)), (43, .is (.int .i64 (k : Nat))), (44, .is (.pointer (some ⟨lb, lo + k, none⟩))), (45, .is (.slice fA l.length fc)), (46, .is (.bool true)), (47, .is (.bool false))] (by kernel_rfl) (by kernel_rfl) ?steps ?done
      case steps =>
       refine ⟨?_, ?_, ?_, ?_, ?_, ?_, ?_, ?_, ?_, ?_, ?_, trivial⟩
       ·
        refine JW.step (slots := slCp) rfl (by decide) (by rw [hsz]; decide) (37, .is (.pointer (some ⟨w.heap.size, 2, none⟩))) rfl rfl rfl ?_
        intro D a wx K hD hp h hK
        have hfr : Fr slCp a0 a := h.fr
        refine step_wp rfl ?_
        have q2 : a.eval (.tmp 2) = .pointer (some ⟨w.heap.size, 0, none⟩) := (hfr.eval (j := 2) (by decide)).trans t2
        refine wpw_val hK (by clear hfr; generalize a.eval = ρ at *; go_simp)
       ·
        refine JW.step (slots := slCp) rfl (by decide) (by rw [hsz]; decide) (38, .is (.slice (some ⟨gb, go, none⟩) G gc)) rfl rfl rfl ?_
        intro D a wx K hD hp h hK
        have hfr : Fr slCp a0 a := h.fr
        refine step_wp rfl ?_
        have q37 : a.eval (.tmp 37) = .pointer (some ⟨w.heap.size, 2, none⟩) := h.val 0 _ rfl (hp 0 (by decide))
        have z1 : wx.cell? ⟨w.heap.size, 2, none⟩ = some (.slice (some ⟨gb, go, none⟩) G gc) := (HUW.out.below h.below HUW.out.lt).cell 2
        refine wpw_val hK (by clear hfr; generalize a.eval = ρ at *; go_simp)
       ·
        refine JW.step (slots := slCp) rfl (by decide) (by rw [hsz]; decide) (39, .is (.int .i64 (k : Nat))) rfl rfl rfl ?_
        intro D a wx K hD hp h hK
        have hfr : Fr slCp a0 a := h.fr
        refine step_wp rfl ?_
        have q10 : a.eval (.tmp 10) = .int .i64 (k : Nat) := (hfr.eval (j := 10) (by decide)).trans t10
        exact wpw_move hK rfl q10
       ·
        refine JW.step (slots := slCp) rfl (by decide) (by rw [hsz]; decide) (40, .is (.pointer (some ⟨gb, go + k * 4, none⟩))) rfl rfl rfl ?_
        intro D a wx K hD hp h hK
        have hfr : Fr slCp a0 a := h.fr
        refine step_wp rfl ?_
        have q38 : a.eval (.tmp 38) = .slice (some ⟨gb, go, none⟩) G gc := h.val 1 _ rfl (hp 1 (by decide))
        have q39 : a.eval (.tmp 39) = .int .i64 (k : Nat) := h.val 2 _ rfl (hp 2 (by decide))
        have z2 : (0 : Int) ≤ (k : Nat) := by omega
        have z3 : ((k : Nat) : Int) < (G : Nat) := by omega
        refine wpw_val hK (by clear hfr; generalize a.eval = ρ at *; go_simp)
       ·
        refine JW.step (slots := slCp) rfl (by decide) (by rw [hsz]; decide) (41, .is (.agg #[.string g.name, .int .i64 g.locals, .int .i64 g.slots, .slice nA g.nodes.length nc])) rfl rfl rfl ?_
        intro D a wx K hD hp h hK
        have hfr : Fr slCp a0 a := h.fr
        refine step_wp rfl ?_
        have q40 : a.eval (.tmp 40) = .pointer (some ⟨gb, go + k * 4, none⟩) := h.val 3 _ rfl (hp 3 (by decide))
        refine wpw_load hK 69 _ rfl gb (go + k * 4) q40 _ (by have hb := h.below; exact fun j v hj => HLD.out _ hb j v hj) Tryz.underlying69 rfl (by kernel_rfl)
       ·
        refine JW.step (slots := slCp) rfl (by decide) (by rw [hsz]; decide) (42, .is (.slice (some ⟨lb, lo, none⟩) G lc)) rfl rfl rfl ?_
        intro D a wx K hD hp h hK
        have hfr : Fr slCp a0 a := h.fr
        refine step_wp rfl ?_
        have q1 : a.eval (.tmp 1) = .slice (some ⟨lb, lo, none⟩) G lc := (hfr.eval (j := 1) (by decide)).trans t1
        exact wpw_move hK rfl q1
       ·
        refine JW.step (slots := slCp) rfl (by decide) (by rw [hsz]; decide) (43, .is (.int .i64 (k : Nat))) rfl rfl rfl ?_
        intro D a wx K hD hp h hK
        have hfr : Fr slCp a0 a := h.fr
        refine step_wp rfl ?_
        have q10 : a.eval (.tmp 10) = .int .i64 (k : Nat) := (hfr.eval (j := 10) (by decide)).trans t10
        exact wpw_move hK rfl q10
       ·
        refine JW.step (slots := slCp) rfl (by decide) (by rw [hsz]; decide) (44, .is (.pointer (some ⟨lb, lo + k, none⟩))) rfl rfl rfl ?_
        intro D a wx K hD hp h hK
        have hfr : Fr slCp a0 a := h.fr
        refine step_wp rfl ?_
        have q42 : a.eval (.tmp 42) = .slice (some ⟨lb, lo, none⟩) G lc := h.val 5 _ rfl (hp 5 (by decide))
        have q43 : a.eval (.tmp 43) = .int .i64 (k : Nat) := h.val 6 _ rfl (hp 6 (by decide))
        have z2 : (0 : Int) ≤ (k : Nat) := by omega
        have z3 : ((k : Nat) : Int) < (G : Nat) := by omega
        refine wpw_val hK (by clear hfr; generalize a.eval = ρ at *; go_simp)
       ·
        refine JW.step (slots := slCp) rfl (by decide) (by rw [hsz]; decide) (45, .is (.slice fA l.length fc)) rfl rfl rfl ?_
        intro D a wx K hD hp h hK
        have hfr : Fr slCp a0 a := h.fr
        refine step_wp rfl ?_
        have q44 : a.eval (.tmp 44) = .pointer (some ⟨lb, lo + k, none⟩) := h.val 7 _ rfl (hp 7 (by decide))
        have z1 : wx.cell? ⟨lb, lo + k, none⟩ = some (.slice fA l.length fc) := cmap_below h.below _ _ _ HFC.out
        refine wpw_val hK (by clear hfr; generalize a.eval = ρ at *; go_simp)
       ·
        refine JW.step (slots := slCp) rfl (by decide) (by rw [hsz]; decide) (46, .is (.bool true)) rfl rfl rfl ?_
        intro D a wx K hD hp h hK
        have hfr : Fr slCp a0 a := h.fr
        refine step_wp rfl ?_
        have q41 : a.eval (.tmp 41) = .agg #[.string g.name, .int .i64 g.locals, .int .i64 g.slots, .slice nA g.nodes.length nc] := h.val 4 _ rfl (hp 4 (by decide))
        have q45 : a.eval (.tmp 45) = .slice fA l.length fc := h.val 8 _ rfl (hp 8 (by decide))
        refine wpw_call hK Tryz.func52 (by kernel_rfl) (by kernel_rfl) rfl #[.agg #[.string g.name, .int .i64 g.locals, .int .i64 g.slots, .slice nA g.nodes.length nc], .slice fA l.length fc] (by simp only [List.map_toArray, List.map_cons, List.map_nil, q41, q45]; try rfl) ?_
        refine (HRT.out wx h.below).mono ?_
        rintro e w' ⟨rfl, hb⟩
        exact ⟨_, rfl, hb, rfl⟩
       ·
        refine JW.step (slots := slCp) rfl (by decide) (by rw [hsz]; decide) (47, .is (.bool false)) rfl rfl rfl ?_
        intro D a wx K hD hp h hK
        have hfr : Fr slCp a0 a := h.fr
        refine step_wp rfl ?_
        have q46 : a.eval (.tmp 46) = .bool true := h.val 9 _ rfl (hp 9 (by decide))
        refine wpw_val hK (by clear hfr; generalize a.eval = ρ at *; go_simp)
      case done =>
       intro D a wz hall h
       have hd : ∀ i, i < 11 → D i = true := hall
       have hfin := Fr.allW (slots := slCp) h.fr (by rw [hsz]; decide)
       simp only [putW, slCp] at hfin
       rw [(show a.eval (.tmp 37) = .pointer (some ⟨w.heap.size, 2, none⟩) from h.val 0 _ rfl (hd 0 (by decide))), (show a.eval (.tmp 38) = .slice (some ⟨gb, go, none⟩) G gc from h.val 1 _ rfl (hd 1 (by decide))), (show a.eval (.tmp 39) = .int .i64 (k : Nat) from h.val 2 _ rfl (hd 2 (by decide))), (show a.eval (.tmp 40) = .pointer (some ⟨gb, go + k * 4, none⟩) from h.val 3 _ rfl (hd 3 (by decide))), (show a.eval (.tmp 41) = .agg #[.string g.name, .int .i64 g.locals, .int .i64 g.slots, .slice nA g.nodes.length nc] from h.val 4 _ rfl (hd 4 (by decide))), (show a.eval (.tmp 42) = .slice (some ⟨lb, lo, none⟩) G lc from h.val 5 _ rfl (hd 5 (by decide))), (show a.eval (.tmp 43) = .int .i64 (k : Nat) from h.val 6 _ rfl (hd 6 (by decide))), (show a.eval (.tmp 44) = .pointer (some ⟨lb, lo + k, none⟩) from h.val 7 _ rfl (hd 7 (by decide))), (show a.eval (.tmp 45) = .slice fA l.length fc from h.val 8 _ rfl (hd 8 (by decide))), (show a.eval (.tmp 46) = .bool true from h.val 9 _ rfl (hd 9 (by decide))), (show a.eval (.tmp 47) = .bool false from h.val 10 _ rfl (hd 10 (by decide)))] at hfin
       have hbz := h.below
       rw [hfin, HA0.out]
       clear hfin HA0 h hall hd t2 t1 t10 hsz
       simp only [Act.put, List.setIfInBounds_toArray, List.set_cons_zero, List.set_cons_succ]
       have HZ := Lib.hid hbz
       clear hbz
       have HFK : Hid (∀ (t : Nat) (g : Graph) (l : List Int), t < k + 1 → u.graphs[t]? = some g → L[t]? = some l → fenB g.nodes.length (-1) l = true) := Lib.hid (fun t g' l' ht hg' hl' => by
        by_cases e : t = k
        ·subst e
         have h1 := HGL.out.1
         have h2 := HGL.out.2.1
         rw [h1] at hg'; rw [h2] at hl'
         injection hg' with hg'; injection hl' with hl'
         subst hg' hl'
         exact HFB.out
        ·exact HF.out t g' l' (by omega) hg' hl')
       have hwg : WholeG g := ((checkF_none HCC.out).graphs g (List.mem_of_getElem? HGL.out.1)).whole
       have hmost := hwg.most
       have hll2 : l.length ≤ 4096 := by
        rcases fen_short l (-1) (by omega) HFB.out with h | h
        ·omega
        ·rw [h]; simp
       have hG8 := (checkF_none HCC.out).threads
       rw [HLG.out.2] at hG8
       have z2 := (HUW.out.below HZ.out HUW.out.lt).cell 2
       have HLX := Lib.hid (HLD.out _ HZ.out)
       have HDP := Lib.hid (HDC.out wz (HBW0.out.trans (HZ.out.mono HBW0.out.size)) hwg)
       have hfz : wz.cell? ⟨lb, lo + k, none⟩ = some (.slice fA l.length fc) := cmap_below HZ.out _ _ _ HFC.out
       have HFZ := Lib.hid hfz
       clear hwg hfz
       go_wp2_with (first
        | (refine wpList_load_at rfl 69 _ rfl gb (go + k * 4) rfl _ _ HLX.out Tryz.underlying69 rfl (by kernel_rfl) ?_)
        | (go_at_call 76
           refine (HDP.out).mono ?_
           rintro e w2 ⟨dv, rfl, hdo, hb2⟩
           obtain ⟨dA, dc, rfl, -⟩ := own_slice hdo
           have hf2 : w2.cell? ⟨lb, lo + k, none⟩ = some (.slice fA l.length fc) := cmap_below hb2 _ _ _ HFZ.out
           have HD2 := Lib.hid (And.intro (own_intsq (by rw [show g.nodes.length = (depthL g).length from (depL_len _ _).symm] at hdo; exact hdo)) hb2)
           clear hdo hb2))
       have HIL := Lib.hid (HFI.out.mono (cmap_below (HBW0.out.trans ((HZ.out.trans (HD2.out.2.mono HZ.out.size)).mono HBW0.out.size))))
       obtain ⟨NL, hNL⟩ : ∃ NL, l.length = NL := ⟨_, rfl⟩
       rw [hNL] at hll2 hf2
       have HNL := Lib.hid hNL
       rw [hNL]
       clear hNL z2
       go_loop [9, 12] (fun v9 v12 => ∃ (j : Nat) (s : Int), v12 = .int .i64 j ∧ v9 = .int .i64 s ∧ j ≤ NL ∧ Hid (s = costS u L k + costG g (l.take j)) ∧ 0 ≤ s ∧ s ≤ (k * 4096 + j) * 4294967296) (fun _ v12 => NL - (intOf v12).toNat)
       case atStart => exact ⟨0, s0, rfl, rfl, Nat.zero_le _, Lib.hid (by rw [HS0.out, List.take_zero, costG_nil]; omega), hs1, by omega⟩
       case round =>
        obtain ⟨j, s, rfl, rfl, hj, HS, hsa, hsb⟩ := hrel
        by_cases hltj : j < NL
        ·obtain ⟨x, hx⟩ : ∃ x, l[j]? = some x := ⟨l[j]'(by rw [HNL.out]; exact hltj), List.getElem?_eq_getElem _⟩
         obtain ⟨xb, xo, rfl, hx1⟩ := HIL.out.at_ hx
         rw [Nat.mul_one] at hx1
         have hxc : w2.cell? ⟨xb, xo + j, none⟩ = some (.int .i64 x) := hx1
         have hxm := fenB_mem (by omega) HFB.out (List.mem_of_getElem? hx)
         obtain ⟨xn, rfl⟩ := Int.eq_ofNat_of_zero_le hxm.1
         have hxl : xn < g.nodes.length := by omega
         have hdx : (depthL g)[xn]? = some (depN g g.nodes.length xn : Int) := depL_at g _ hxl
         obtain ⟨db, dd, rfl, hd1⟩ := HD2.out.1.at_ hdx
         rw [Nat.mul_one] at hd1
         have hdle := depN_le g g.nodes.length xn
         obtain ⟨D, hD⟩ : ∃ D : Nat, depN g g.nodes.length xn = D := ⟨_, rfl⟩
         rw [hD] at hd1 hdle
         have hdc : w2.cell? ⟨db, dd + xn, none⟩ = some (.int .i64 (D : Int)) := hd1
         have HSU : Hid (∀ c, c = cost1 (D : Int) → s + c = costS u L k + costG g (l.take (j + 1))) := Lib.hid fun c hc => by
          rw [hc, HS.out, costG_succ hx, ← hD]
          show _ + _ + cost1 _ = _ + (_ + cost1 ((depN g g.nodes.length ((xn : Int).toNat) : Nat) : Int))
          rw [Int.toNat_natCast]
          omega
         have hj0 : (0 : Int) ≤ j := by omega
         have hjN : (j : Int) < NL := by omega
         have hx0 : (0 : Int) ≤ (xn : Int) := by omega
         have hxN : (xn : Int) < (depthL g).length := by rw [show (depthL g).length = g.nodes.length from depL_len _ _]; omega
         clear hx hx1 hxm hdx hd1 hD
         go_wp2
         go_loop [13, 14] (fun v13 v14 => ∃ (m : Nat) (c : Int), v14 = .int .i64 m ∧ v13 = .int .i64 c ∧ m ≤ 16 ∧ m ≤ D ∧ Hid (c = 4 ^ m) ∧ 1 ≤ c ∧ c ≤ 4294967296) (fun _ v14 => 16 - (intOf v14).toNat)
         case atStart => exact ⟨0, 1, rfl, rfl, by omega, by omega, Lib.hid (by decide), by omega, by omega⟩
         case round =>
          obtain ⟨m, c, rfl, rfl, hm, hmD, HP, hc1, hc2⟩ := hrel
          by_cases hmd : m < D
          ·have dmd : decide ((m : Int) < (D : Int)) = true := decide_eq_true (by omega)
           by_cases hm16 : m < 16
           ·have d16 : decide ((m : Int) < 16) = true := decide_eq_true (by omega)
            have hc3 : c ≤ 1073741824 := by rw [HP.out]; exact pow4_le (by omega)
            have HP2 : Hid (4 * c = 4 ^ (m + 1)) := Lib.hid (by rw [HP.out, Int.pow_succ]; omega)
            go_wp2
            go_round
            case rel => exact ⟨m + 1, 4 * c, by go_num, by go_num, by omega, by omega, HP2, by omega, by omega⟩
            case measure => simp [intOf]; omega
           ·have d16 : decide ((m : Int) < 16) = false := decide_eq_false (by omega)
            have hcc : c = cost1 (D : Int) := by
             rw [HP.out]
             unfold cost1
             rw [Int.toNat_natCast, Nat.min_eq_right (by omega), show m = 16 by omega]
            have HSD := Lib.hid (HSU.out c hcc)
            clear hcc
            go_wp2
            go_round
            case rel => exact ⟨j + 1, s + c, by go_num, by go_num, by omega, HSD, by omega, by omega⟩
            case measure => simp [intOf]; omega
          ·have dmd : decide ((m : Int) < (D : Int)) = false := decide_eq_false (by omega)
           have hcc : c = cost1 (D : Int) := by
            rw [HP.out]
            unfold cost1
            rw [Int.toNat_natCast, Nat.min_eq_left (by omega), show m = D by omega]
           have HSD := Lib.hid (HSU.out c hcc)
           clear hcc
           go_wp2
           go_round
           case rel => exact ⟨j + 1, s + c, by go_num, by go_num, by omega, HSD, by omega, by omega⟩
           case measure => simp [intOf]; omega
        ·have hnj : ¬ ((j : Int) < NL) := by omega
         obtain rfl : NL = j := by omega
         have HSN : Hid (s = costS u L (k + 1)) := Lib.hid (by rw [HS.out, costS_succ HGL.out.1 HGL.out.2.1, List.take_of_length_le (by rw [HNL.out]; omega)])
         have HBN : Hid (Below w1.heap.size w1 w2) := Lib.hid (HB.out.trans ((HZ.out.trans (HD2.out.2.mono HZ.out.size)).mono HB.out.size))
         have hsb2 : s ≤ (k + 1 : Nat) * 17592186044416 := by omega
         go_wp2
         go_roundw
         case rel => exact ⟨k + 1, s, by go_num, rfl, hlt, HSN, hsa, hsb2, HFK, HBN⟩
         case measure => simp [intOf]; omega
    ·obtain rfl : k = G := by omega
     have hfa : L.length = u.graphs.length ∧ FenAll u L := ⟨by rw [HLG.out.1, HLG.out.2], fun t g l hg hl => HF.out t g l (by have := (List.getElem?_eq_some_iff.1 hl).1; rw [HLG.out.1] at this; exact this) hg hl⟩
     have HFA := Lib.hid hfa
     have HUR := Lib.hid hbw
     have hs := costR_good HCC.out HFA.out
     rw [HLG.out.2, ← HS0.out] at hs
     have HS := Lib.hid hs
     have d2 := hur.cell 2
     clear hfa hbw hur HF hs
     go_wp2
     go_ret2
     exact ⟨by rw [HS.out]; rfl, HUR.out⟩
  ·have d0 : ((L.length : Int) != (u.graphs.length : Int)) = true := by simp; omega
   have d1 : (L.length != u.graphs.length) = true := by simp; omega
   have HS := Lib.hid (costR_fence (u := u) (L := L) HCC.out (fun h => hlen h.1))
   clear hlen
   go_enter Tryz.func40, Tryz.ntmps40
   go_wp2_with (first
    | (go_at_call 57
       refine (HC.out _ HBX.out.2).mono ?_
       rintro e w1 ⟨rfl, hb1⟩
       have HU1 := Lib.hid (HBX.out.1.below hb1 HBX.out.1.lt)
       have c2 := HU1.out.cell 2
       have HB1 := Lib.hid (HBX.out.2.trans (hb1.mono HBX.out.2.size))
       simp only [checkV]
       clear hb1))
   go_ret2
   exact ⟨by rw [HS.out]; rfl, HB1.out⟩
end Go.Proofs.YtffgnjgphkdodaaGreatDoor
