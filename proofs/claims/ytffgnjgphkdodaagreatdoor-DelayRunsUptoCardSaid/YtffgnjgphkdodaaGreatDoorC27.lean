/- whatever is run stands where Open tells it. Proved where the arguments are of bulk at most 1048576. -/
import Derived.Test.YtffgnjgphkdodaaGreatDoorP128
import Derived.Test.YtffgnjgphkdodaaGreatDoorP125
import Derived.Test.YtffgnjgphkdodaaGreatDoorP116
import Derived.Test.YtffgnjgphkdodaaGreatDoorP71
import Derived.Test.YtffgnjgphkdodaaGreatDoorP17
import Derived.Test.YtffgnjgphkdodaaGreatDoorP74
import Derived.Test.YtffgnjgphkdodaaGreatDoorP118
/- The walk of the law DelayRuns. -/
namespace Go.Proofs.YtffgnjgphkdodaaGreatDoor
open Go Go.RowKit
def slDr : List Nat := [63, 64, 65, 66, 67, 68, 69, 62, 70, 71, 13, 14]
set_option maxRecDepth 100000 in
set_option maxHeartbeats 2000000 in
theorem runs_bad (u : Unit_) (cs : List Value) (v1 : Value) (v2 : Value) (w : World) (hT : Tab w) (hu : UnitV (cmap w) cs u) (hok : UOk u) (hc : checkF u ≠ none) :
    Calls Tryz.prog 6 #[.agg cs.toArray, v1, v2] w fun e w' => e = .returned (.bool true) ∧ Below w.heap.size w w' := by
  have hu0 := hu
  obtain ⟨su, lu, gu, rfl, -, -, -⟩ := hu0
  have HU := Lib.hid (And.intro hu (And.intro hok (And.intro hc hT)))
  have HL : ∀ wr, Blk wr w.heap.size 25 [su, lu, gu] → Hid (∀ j v, ([su, lu, gu] : List Value)[j]? = some v → wr.cell? ⟨w.heap.size, 0 + j, none⟩ = some v) := fun wr h => Lib.hid fun j v hj => by rw [Nat.zero_add, h.cell]; exact hj
  have HLL := Lib.hid HL
  have hB0 := Below_alloc' w (.cells #[su, lu, gu] 25)
  have hx0 := Blk.new w 25 [su, lu, gu]
  have HLD := HL _ hx0
  clear hu hok hc HL hT
  go_enter Tryz.func6, Tryz.ntmps6
  go_wp2_with (first
    | (refine wpList_load_at rfl 25 _ rfl w.heap.size 0 rfl _ _ HLD.out Tryz.underlying25 rfl (by kernel_rfl) ?_))
  refine (new_bad u _ _ (HU.out.1.mono (cmap_below hB0)) HU.out.2.1 HU.out.2.2.1).mono ?_
  rintro e w1 ⟨rfl, hb1⟩
  have hB1 := hB0.trans (hb1.mono hB0.size)
  have hx1 := hx0.below hb1 hx0.lt
  have HLD1 := HLL.out _ hx1
  clear hb1 hx0 HLD
  go_wp2_with (first
    | (refine wpList_load_at rfl 25 _ rfl w.heap.size 0 rfl _ _ HLD1.out Tryz.underlying25 rfl (by kernel_rfl) ?_))
  refine (classes_calls u _ _ (HU.out.2.2.2.below hB1) (HU.out.1.mono (cmap_below hB1)) HU.out.2.1).mono ?_
  rintro e w2 (⟨h, -⟩ | ⟨-, rfl, hb2⟩)
  · exact absurd h HU.out.2.2.1
  have hB2 := hB1.trans (hb2.mono hB1.size)
  clear hb2 hx1 HLD1
  go_wp2_with fail
  refine (lives11_calls _ (HU.out.2.2.2.below hB2)).mono ?_
  rintro e w3 ⟨rfl, hb3⟩
  have HF := Lib.hid (hB2.trans (hb3.mono hB2.size))
  clear hb3 hB0 hB1 hB2
  go_wp2
  go_ret
  exact ⟨rfl, HF.out⟩
set_option maxRecDepth 100000 in
set_option maxHeartbeats 16000000 in
theorem runs_good (u : Unit_) (cs : List Value) (A : Option Addr) (c : Nat) (sch : List Int) (mv : Value) (L : List (List Int)) (w : World) (hT : Tab w) (hu : UnitV (cmap w) cs u) (hok : UOk u) (hso : SOk u) (hv : Ints (cmap w) (.slice A sch.length c) sch) (hl : sch.length ≤ 1048576) (hL : Ints2 (cmap w) mv L) (hc : checkF u = none) :
    Calls Tryz.prog 6 #[.agg cs.toArray, .slice A sch.length c, mv] w fun e w' => e = .returned (.bool true) ∧ Below w.heap.size w w' := by
  have hru := checkF_none hc
  have hst := start_situ hc hso
  have hu0 := hu
  obtain ⟨su, lv, gu, rfl, hsh, -, hgr⟩ := hu0
  obtain ⟨sA, sc, rfl, -, -, -⟩ := id hsh
  obtain ⟨gA, gc, rfl, -, -, -⟩ := id hgr
  obtain ⟨lA, lc, rfl, -⟩ := id hL
  have hll := hL.len.2.2
  have nG := hru.threads
  have HU := Lib.hid (And.intro hu (And.intro hok (And.intro hc hgr)))
  have HK := Lib.hid (And.intro hru (And.intro hok (And.intro hst hv)))
  have HTB := Lib.hid hT
  have HM2 := Lib.hid hL
  have HOC0 := Lib.hid fun w1 (h : Below w.heap.size w w1) (t : Int) (fv : Value) (F : List Int) (hF : Ints (cmap w) fv F) => open_calls u _ t fv F w1 (hT.below h) (hu.mono (cmap_below h)) hok (hF.mono (cmap_below h))
  have HL : ∀ wr, Blk wr w.heap.size 25 [.slice sA u.shared.length sc, lv, .slice gA u.graphs.length gc] → Hid (∀ j v, ([.slice sA u.shared.length sc, lv, .slice gA u.graphs.length gc] : List Value)[j]? = some v → wr.cell? ⟨w.heap.size, 0 + j, none⟩ = some v) := fun wr h => Lib.hid fun j v hj => by rw [Nat.zero_add, h.cell]; exact hj
  have HLL := Lib.hid HL
  have hB0 := Below_alloc' w (.cells #[.slice sA u.shared.length sc, lv, .slice gA u.graphs.length gc] 25)
  have hx0 := Blk.new w 25 [.slice sA u.shared.length sc, lv, .slice gA u.graphs.length gc]
  have HLD := HL _ hx0
  have HX0 := Lib.hid hx0.lt
  obtain ⟨G, hG⟩ : ∃ G, u.graphs.length = G := ⟨_, rfl⟩
  have HGE := Lib.hid hG
  rw [hG] at nG
  have HKL := Lib.hid hl
  clear hG
  clear hu hok hc HL hru hst hso hv hgr hsh hT hL
  go_enter Tryz.func6, Tryz.ntmps6
  go_wp2_with (first
    | (refine wpList_load_at rfl 25 _ rfl w.heap.size 0 rfl _ _ HLD.out Tryz.underlying25 rfl (by kernel_rfl) ?_))
  obtain ⟨w0, hw0⟩ : ∃ w0, w.alloc (.cells #[.slice sA u.shared.length sc, lv, .slice gA u.graphs.length gc] 25) = w0 := ⟨_, rfl⟩
  have hB0' : Below w.heap.size w w0 := by rw [← hw0]; exact hB0
  have HX0' : Hid (w.heap.size < w0.heap.size) := Lib.hid (by rw [← hw0]; exact HX0.out)
  have hx0' : Blk w0 w.heap.size 25 [.slice sA u.shared.length sc, lv, .slice gA u.graphs.length gc] := by rw [← hw0]; exact hx0
  rw [hw0]
  clear HX0 hx0 hB0 hw0 HLD
  refine (new_good u _ _ (HU.out.1.mono (cmap_below hB0')) HU.out.2.1 HU.out.2.2.1).mono ?_
  rintro e w1 ⟨g, L1, R, rfl, hM, hR, hmu, hb1⟩
  have hB1 := hB0'.trans (hb1.mono hB0'.size)
  have hx1 := hx0'.below hb1 hx0'.lt
  have HLD1 := HLL.out _ hx1
  have HA := Lib.hid (And.intro hM (And.intro hR (And.intro hmu (And.intro hb1 hB0'))))
  clear hb1 hx0' hM hR hmu hB0'
  go_wp2_with (first
    | (refine wpList_load_at rfl 25 _ rfl w.heap.size 0 rfl _ _ HLD1.out Tryz.underlying25 rfl (by kernel_rfl) ?_))
  refine (classes_calls u _ _ (HTB.out.below hB1) (HU.out.1.mono (cmap_below hB1)) HU.out.2.1).mono ?_
  rintro e w2 (⟨-, v2, rfl, hcl, hb2⟩ | ⟨h, -⟩)
  rotate_left
  · exact absurd HU.out.2.2.1 h
  have hB2 := hB1.trans (hb2.mono hB1.size)
  have hx2 := hx1.below hb2 hx1.lt
  have HC2 := Lib.hid (And.intro hcl hb2)
  clear hb2 hx1 HLD1 hcl
  go_wp2_with fail
  refine (lives11_calls _ (HTB.out.below hB2)).mono ?_
  rintro e w3 ⟨rfl, hb3⟩
  have hB3 := hB2.trans (hb3.mono hB2.size)
  have hx3 := hx2.below hb3 hx2.lt
  have u32 : w3.cell? ⟨w.heap.size, 2, none⟩ = some (.slice gA u.graphs.length gc) := hx3.cell 2
  have HB23 := Lib.hid hb3
  have HB3 := Lib.hid hB3
  have HX3 := Lib.hid hx3
  clear hb3 hx2 hB1 hB2 hB3 hx3
  have hG := HGE.out
  rw [hG] at u32 HX3 HLL HOC0 ⊢
  by_cases hlen : L.length = G
  rotate_left
  · clear hG
    have dl : ((L.length : Int) != (G : Int)) = true := by simp; omega
    have dl2 : (L.length != G) = true := by simp; omega
    clear hlen
    go_wp2
    go_ret
    exact ⟨rfl, HB3.out⟩
  have hgr2 := HU.out.2.2.2
  rw [hG] at hgr2
  clear hG
  rw [hlen] at hll HM2 ⊢
  have HLE := Lib.hid hlen
  have HGR := Lib.hid hgr2
  clear hlen hgr2
  go_wp2
  go_loopw [11, 59] (fun v11 v59 wr => ∃ (k : Nat) (S : Nat → Prop), v59 = .int .i64 k ∧ k ≤ G ∧ Hid (∀ (t : Nat) (g : Graph) (l : List Int), t < k → u.graphs[t]? = some g → L[t]? = some l → fenB g.nodes.length (-1) l = true) ∧ Hid (Acc boolsV 1 28 w3.heap.size S v11 ((List.range k).map (opnL u L)) wr) ∧ Hid (Below w3.heap.size w3 wr)) (fun _ v59 _ => G - (intOf v59).toNat)
  case atStart => exact ⟨0, _, rfl, by omega, Lib.hid (fun t _ _ h => by omega), Lib.hid (Acc.nil boolsV 1 _ _ _), Lib.hid (Below.refl _ _)⟩
  case round =>
    clear u32
    obtain ⟨k, S, rfl, hk, HFN, HA9, HB⟩ := hrel
    have hxr := HX3.out.below HB.out HX3.out.lt
    have hbw : Below w.heap.size w wr := HB3.out.trans (HB.out.mono HB3.out.size)
    have u2 : wr.cell? ⟨w.heap.size, 2, none⟩ = some (.slice gA G gc) := hxr.cell 2
    by_cases hlt : k < G
    · have k0 : (0 : Int) ≤ k := by omega
      have kG : (k : Int) < G := by omega
      obtain ⟨g1, hg⟩ : ∃ g1, u.graphs[k]? = some g1 := ⟨u.graphs[k]'(by rw [HGE.out]; exact hlt), List.getElem?_eq_getElem _⟩
      obtain ⟨l, hlk⟩ : ∃ l, L[k]? = some l := ⟨L[k]'(by rw [HLE.out]; exact hlt), List.getElem?_eq_getElem _⟩
      obtain ⟨gb, go, rfl, -, -, -⟩ := HGR.out.at_ hg
      obtain ⟨lb, lo, rfl, fv, hfc, hfi⟩ := HM2.out.at_ hlk
      rw [Nat.mul_one] at hfc
      obtain ⟨fA, fc, rfl, -⟩ := id hfi
      have hoc := fun w1 (h : Below w.heap.size w w1) => HOC0.out w1 h (k : Int) _ l hfi
      have hask : askE u (k : Int) = 0 := askE_ok HU.out.2.2.1 ⟨by omega, by rw [HGE.out]; omega⟩
      have hor : openR u (k : Int) l = if fenB g1.nodes.length (-1) l then (openG g1 (stL u g1) l, 0) else ([], 110) := by
        unfold openR
        rw [if_pos hask, Int.toNat_natCast, hg]
      have HGL := Lib.hid (And.intro hg (And.intro hlk hbw))
      obtain ⟨W0, rfl⟩ : ∃ W0 : World, W0 = wr := ⟨_, rfl⟩
      have HUW := Lib.hid hxr
      have HBW0 := Lib.hid hbw
      have HFC := Lib.hid (cmap_below hbw _ _ _ hfc)
      have HA := HA9
      unfold OpenPost at hoc
      rw [hor] at hoc
      clear hg hlk hfc hfi hask hor hbw hxr HA9
      cases hfb : fenB g1.nodes.length (-1) l with
      | false =>
        rw [hfb] at hoc
        simp only [Bool.false_eq_true, if_false, List.length_nil] at hoc
        have HOC := Lib.hid fun wx (h : Below W0.heap.size W0 wx) => hoc wx (HBW0.out.trans (h.mono HBW0.out.size))
        clear hoc hfb
        go_wp2
        refine wp_act0 fun a0 ha0 => ?_
        have t3 : a0.eval (.tmp 3) = .pointer (some ⟨w.heap.size, 0, none⟩) := by rw [ha0]; rfl
        have t12 : a0.eval (.tmp 12) = .int .i64 (k : Nat) := by rw [ha0]; rfl
        have t2 : a0.eval (.tmp 2) = .slice (some ⟨lb, lo, none⟩) G lc := by rw [ha0]; rfl
        have hsz : a0.tmps.size = 150 := by rw [ha0]; rfl
        have HA0 := Lib.hid ha0; clear ha0
        refine wp_region_w [(63, .is (.agg #[.slice sA u.shared.length sc, lv, .slice (some ⟨gb, go, none⟩) G gc])), (64, .is (.int .i64 (k : Nat))), (65, .is (.slice (some ⟨lb, lo, none⟩) G lc)), (66, .is (.int .i64 (k : Nat))), (67, .is (.pointer (some ⟨lb, lo + k, none⟩))), (68, .is (.slice fA l.length fc)), (69, srT W0.heap.size 4 0 (bools []) 110), (62, srT W0.heap.size 4 0 (bools []) 110), (70, srO W0.heap.size 4 0 (bools [])), (71, .is (.int .i64 110)), (13, srO W0.heap.size 4 0 (bools [])), (14, .is (.int .i64 110))] (by kernel_rfl) (by kernel_rfl) ?steps ?done
        case steps =>
          refine ⟨?_, ?_, ?_, ?_, ?_, ?_, ?_, ?_, ?_, ?_, ?_, ?_, trivial⟩
          · -- 0
            refine JW.step (slots := slDr) rfl (by decide) (by rw [hsz]; decide) (63, .is (.agg #[.slice sA u.shared.length sc, lv, .slice (some ⟨gb, go, none⟩) G gc])) rfl rfl rfl ?_
            intro D a wx K hD hp h hK
            have hfr : Fr slDr a0 a := h.fr
            refine step_wp rfl ?_
            have q3 : a.eval (.tmp 3) = .pointer (some ⟨w.heap.size, 0, none⟩) := (hfr.eval (j := 3) (by decide)).trans t3
            refine wpw_load hK 25 _ rfl w.heap.size (0) q3 _ (by have hb := h.below; exact fun j v hj => by rw [Nat.zero_add, (HUW.out.below hb HUW.out.lt).cell]; exact hj) Tryz.underlying25 rfl (by kernel_rfl)
          · -- 1
            refine JW.step (slots := slDr) rfl (by decide) (by rw [hsz]; decide) (64, .is (.int .i64 (k : Nat))) rfl rfl rfl ?_
            intro D a wx K hD hp h hK
            have hfr : Fr slDr a0 a := h.fr
            refine step_wp rfl ?_
            have q12 : a.eval (.tmp 12) = .int .i64 (k : Nat) := (hfr.eval (j := 12) (by decide)).trans t12
            exact wpw_move hK rfl q12
          · -- 2
            refine JW.step (slots := slDr) rfl (by decide) (by rw [hsz]; decide) (65, .is (.slice (some ⟨lb, lo, none⟩) G lc)) rfl rfl rfl ?_
            intro D a wx K hD hp h hK
            have hfr : Fr slDr a0 a := h.fr
            refine step_wp rfl ?_
            have q2 : a.eval (.tmp 2) = .slice (some ⟨lb, lo, none⟩) G lc := (hfr.eval (j := 2) (by decide)).trans t2
            exact wpw_move hK rfl q2
          · -- 3
            refine JW.step (slots := slDr) rfl (by decide) (by rw [hsz]; decide) (66, .is (.int .i64 (k : Nat))) rfl rfl rfl ?_
            intro D a wx K hD hp h hK
            have hfr : Fr slDr a0 a := h.fr
            refine step_wp rfl ?_
            have q12 : a.eval (.tmp 12) = .int .i64 (k : Nat) := (hfr.eval (j := 12) (by decide)).trans t12
            exact wpw_move hK rfl q12
          · -- 4
            refine JW.step (slots := slDr) rfl (by decide) (by rw [hsz]; decide) (67, .is (.pointer (some ⟨lb, lo + k, none⟩))) rfl rfl rfl ?_
            intro D a wx K hD hp h hK
            have hfr : Fr slDr a0 a := h.fr
            refine step_wp rfl ?_
            have q65 : a.eval (.tmp 65) = .slice (some ⟨lb, lo, none⟩) G lc := h.val 2 _ rfl (hp 2 (by decide))
            have q66 : a.eval (.tmp 66) = .int .i64 (k : Nat) := h.val 3 _ rfl (hp 3 (by decide))
            have z2 : (0 : Int) ≤ (k : Nat) := by omega
            have z3 : ((k : Nat) : Int) < (G : Nat) := by omega
            refine wpw_val hK (by clear hfr; generalize a.eval = ρ at *; go_simp)
          · -- 5
            refine JW.step (slots := slDr) rfl (by decide) (by rw [hsz]; decide) (68, .is (.slice fA l.length fc)) rfl rfl rfl ?_
            intro D a wx K hD hp h hK
            have hfr : Fr slDr a0 a := h.fr
            refine step_wp rfl ?_
            have q67 : a.eval (.tmp 67) = .pointer (some ⟨lb, lo + k, none⟩) := h.val 4 _ rfl (hp 4 (by decide))
            have z1 : wx.cell? ⟨lb, lo + k, none⟩ = some (.slice fA l.length fc) := cmap_below h.below _ _ _ HFC.out
            refine wpw_val hK (by clear hfr; generalize a.eval = ρ at *; go_simp)
          · -- 6
            refine JW.step (slots := slDr) rfl (by decide) (by rw [hsz]; decide) (69, srT W0.heap.size 4 0 (bools []) 110) rfl rfl rfl ?_
            intro D a wx K hD hp h hK
            have hfr : Fr slDr a0 a := h.fr
            refine step_wp rfl ?_
            have q63 : a.eval (.tmp 63) = .agg #[.slice sA u.shared.length sc, lv, .slice (some ⟨gb, go, none⟩) G gc] := h.val 0 _ rfl (hp 0 (by decide))
            have q64 : a.eval (.tmp 64) = .int .i64 (k : Nat) := h.val 1 _ rfl (hp 1 (by decide))
            have q68 : a.eval (.tmp 68) = .slice fA l.length fc := h.val 5 _ rfl (hp 5 (by decide))
            refine wpw_call hK Tryz.func11 (by kernel_rfl) (by kernel_rfl) rfl #[.agg #[.slice sA u.shared.length sc, lv, .slice (some ⟨gb, go, none⟩) G gc], .int .i64 (k : Nat), .slice fA l.length fc] (by simp only [List.map_toArray, List.map_cons, List.map_nil, q63, q64, q68]; try rfl) ?_
            refine (HOC.out wx h.below).mono ?_
            rintro e w' ⟨r, rfl, hr, hb⟩
            exact ⟨_, rfl, hb, r, rfl, own_base hr h.below.size⟩
          · -- 7
            refine JW.step (slots := slDr) rfl (by decide) (by rw [hsz]; decide) (62, srT W0.heap.size 4 0 (bools []) 110) rfl rfl rfl ?_
            intro D a wx K hD hp h hK
            have hfr : Fr slDr a0 a := h.fr
            refine step_wp rfl ?_
            have q69 := h.val 6 _ rfl (hp 6 (by decide))
            exact wpw_move hK rfl q69
          · -- 8
            refine JW.step (slots := slDr) rfl (by decide) (by rw [hsz]; decide) (70, srO W0.heap.size 4 0 (bools [])) rfl rfl rfl ?_
            intro D a wx K hD hp h hK
            have hfr : Fr slDr a0 a := h.fr
            refine step_wp rfl ?_
            have q62 := h.val 7 _ rfl (hp 7 (by decide))
            obtain ⟨r60, hr1, hr2⟩ := q62
            have q62 : a.eval (.tmp 62) = .tuple #[r60, .int .i64 110] := hr1
            refine wpw_valx r60 hK hr2 (by clear hfr hr1 hr2; generalize a.eval = ρ at *; go_simp)
          · -- 9
            refine JW.step (slots := slDr) rfl (by decide) (by rw [hsz]; decide) (71, .is (.int .i64 110)) rfl rfl rfl ?_
            intro D a wx K hD hp h hK
            have hfr : Fr slDr a0 a := h.fr
            refine step_wp rfl ?_
            have q62 := h.val 7 _ rfl (hp 7 (by decide))
            obtain ⟨r60, hr1, hr2⟩ := q62
            have q62 : a.eval (.tmp 62) = .tuple #[r60, .int .i64 110] := hr1
            refine wpw_val hK (by clear hfr hr1 hr2; generalize a.eval = ρ at *; go_simp)
          · -- 10
            refine JW.step (slots := slDr) rfl (by decide) (by rw [hsz]; decide) (13, srO W0.heap.size 4 0 (bools [])) rfl rfl rfl ?_
            intro D a wx K hD hp h hK
            have hfr : Fr slDr a0 a := h.fr
            refine step_wp rfl ?_
            have q70 := h.val 8 _ rfl (hp 8 (by decide))
            exact wpw_assign hK rfl q70
          · -- 11
            refine JW.step (slots := slDr) rfl (by decide) (by rw [hsz]; decide) (14, .is (.int .i64 110)) rfl rfl rfl ?_
            intro D a wx K hD hp h hK
            have hfr : Fr slDr a0 a := h.fr
            refine step_wp rfl ?_
            have q71 : a.eval (.tmp 71) = .int .i64 110 := h.val 9 _ rfl (hp 9 (by decide))
            refine wpw_val hK (by clear hfr; generalize a.eval = ρ at *; go_simp)
        case done =>
          intro D a wz hall h
          have hd : ∀ i, i < 12 → D i = true := hall
          have hfin := Fr.allW (slots := slDr) h.fr (by rw [hsz]; decide)
          have v13 : wz.ownsRow W0.heap.size 4 1 (a.eval (.tmp 13)) 0 (bools []) := h.val 10 _ rfl (hd 10 (by decide))
          simp only [putW, slDr] at hfin
          rw [(show a.eval (.tmp 63) = .agg #[.slice sA u.shared.length sc, lv, .slice (some ⟨gb, go, none⟩) G gc] from h.val 0 _ rfl (hd 0 (by decide))), (show a.eval (.tmp 64) = .int .i64 (k : Nat) from h.val 1 _ rfl (hd 1 (by decide))), (show a.eval (.tmp 65) = .slice (some ⟨lb, lo, none⟩) G lc from h.val 2 _ rfl (hd 2 (by decide))), (show a.eval (.tmp 66) = .int .i64 (k : Nat) from h.val 3 _ rfl (hd 3 (by decide))), (show a.eval (.tmp 67) = .pointer (some ⟨lb, lo + k, none⟩) from h.val 4 _ rfl (hd 4 (by decide))), (show a.eval (.tmp 68) = .slice fA l.length fc from h.val 5 _ rfl (hd 5 (by decide))), (show a.eval (.tmp 71) = .int .i64 110 from h.val 9 _ rfl (hd 9 (by decide))), (show a.eval (.tmp 14) = .int .i64 110 from h.val 11 _ rfl (hd 11 (by decide)))] at hfin
          have hbz := h.below
          generalize a.eval (.tmp 13) = r13 at hfin v13
          generalize a.eval (.tmp 70) = r70 at hfin
          generalize a.eval (.tmp 62) = r62 at hfin
          generalize a.eval (.tmp 69) = r69 at hfin
          rw [hfin, HA0.out]
          clear hfin HA0 h hall hd t3 t12 t2 hsz
          simp only [Act.put, List.setIfInBounds_toArray, List.set_cons_zero, List.set_cons_succ]
          have HZ := Lib.hid hbz
          clear hbz v13
          go_wp2
          go_ret
          exact ⟨rfl, HBW0.out.trans (HZ.out.mono HBW0.out.size)⟩
      | true =>
        rw [hfb] at hoc
        simp only [if_true, openG_length] at hoc
        have HOC := Lib.hid fun wx (h : Below W0.heap.size W0 wx) => hoc wx (HBW0.out.trans (h.mono HBW0.out.size))
        have HFB := Lib.hid hfb
        have HFK : Hid (∀ (t : Nat) (g : Graph) (l : List Int), t < k + 1 → u.graphs[t]? = some g → L[t]? = some l → fenB g.nodes.length (-1) l = true) := Lib.hid (fun t g' l' ht hg' hl' => by
          by_cases e : t = k
          · subst e
            have h1 := HGL.out.1
            have h2 := HGL.out.2.1
            rw [h1] at hg'; rw [h2] at hl'
            injection hg' with hg'; injection hl' with hl'
            subst hg' hl'
            exact HFB.out
          · exact HFN.out t g' l' (by omega) hg' hl')
        clear hoc hfb
        go_wp2
        refine wp_act0 fun a0 ha0 => ?_
        have t3 : a0.eval (.tmp 3) = .pointer (some ⟨w.heap.size, 0, none⟩) := by rw [ha0]; rfl
        have t12 : a0.eval (.tmp 12) = .int .i64 (k : Nat) := by rw [ha0]; rfl
        have t2 : a0.eval (.tmp 2) = .slice (some ⟨lb, lo, none⟩) G lc := by rw [ha0]; rfl
        have hsz : a0.tmps.size = 150 := by rw [ha0]; rfl
        have HA0 := Lib.hid ha0; clear ha0
        refine wp_region_w [(63, .is (.agg #[.slice sA u.shared.length sc, lv, .slice (some ⟨gb, go, none⟩) G gc])), (64, .is (.int .i64 (k : Nat))), (65, .is (.slice (some ⟨lb, lo, none⟩) G lc)), (66, .is (.int .i64 (k : Nat))), (67, .is (.pointer (some ⟨lb, lo + k, none⟩))), (68, .is (.slice fA l.length fc)), (69, srT W0.heap.size 4 g1.nodes.length (bools (openG g1 (stL u g1) l)) 0), (62, srT W0.heap.size 4 g1.nodes.length (bools (openG g1 (stL u g1) l)) 0), (70, srO W0.heap.size 4 g1.nodes.length (bools (openG g1 (stL u g1) l))), (71, .is (.int .i64 0)), (13, srO W0.heap.size 4 g1.nodes.length (bools (openG g1 (stL u g1) l))), (14, .is (.int .i64 0))] (by kernel_rfl) (by kernel_rfl) ?steps ?done
        case steps =>
          refine ⟨?_, ?_, ?_, ?_, ?_, ?_, ?_, ?_, ?_, ?_, ?_, ?_, trivial⟩
          · -- 0
            refine JW.step (slots := slDr) rfl (by decide) (by rw [hsz]; decide) (63, .is (.agg #[.slice sA u.shared.length sc, lv, .slice (some ⟨gb, go, none⟩) G gc])) rfl rfl rfl ?_
            intro D a wx K hD hp h hK
            have hfr : Fr slDr a0 a := h.fr
            refine step_wp rfl ?_
            have q3 : a.eval (.tmp 3) = .pointer (some ⟨w.heap.size, 0, none⟩) := (hfr.eval (j := 3) (by decide)).trans t3
            refine wpw_load hK 25 _ rfl w.heap.size (0) q3 _ (by have hb := h.below; exact fun j v hj => by rw [Nat.zero_add, (HUW.out.below hb HUW.out.lt).cell]; exact hj) Tryz.underlying25 rfl (by kernel_rfl)
          · -- 1
            refine JW.step (slots := slDr) rfl (by decide) (by rw [hsz]; decide) (64, .is (.int .i64 (k : Nat))) rfl rfl rfl ?_
            intro D a wx K hD hp h hK
            have hfr : Fr slDr a0 a := h.fr
            refine step_wp rfl ?_
            have q12 : a.eval (.tmp 12) = .int .i64 (k : Nat) := (hfr.eval (j := 12) (by decide)).trans t12
            exact wpw_move hK rfl q12
          · -- 2
            refine JW.step (slots := slDr) rfl (by decide) (by rw [hsz]; decide) (65, .is (.slice (some ⟨lb, lo, none⟩) G lc)) rfl rfl rfl ?_
            intro D a wx K hD hp h hK
            have hfr : Fr slDr a0 a := h.fr
            refine step_wp rfl ?_
            have q2 : a.eval (.tmp 2) = .slice (some ⟨lb, lo, none⟩) G lc := (hfr.eval (j := 2) (by decide)).trans t2
            exact wpw_move hK rfl q2
          · -- 3
            refine JW.step (slots := slDr) rfl (by decide) (by rw [hsz]; decide) (66, .is (.int .i64 (k : Nat))) rfl rfl rfl ?_
            intro D a wx K hD hp h hK
            have hfr : Fr slDr a0 a := h.fr
            refine step_wp rfl ?_
            have q12 : a.eval (.tmp 12) = .int .i64 (k : Nat) := (hfr.eval (j := 12) (by decide)).trans t12
            exact wpw_move hK rfl q12
          · -- 4
            refine JW.step (slots := slDr) rfl (by decide) (by rw [hsz]; decide) (67, .is (.pointer (some ⟨lb, lo + k, none⟩))) rfl rfl rfl ?_
            intro D a wx K hD hp h hK
            have hfr : Fr slDr a0 a := h.fr
            refine step_wp rfl ?_
            have q65 : a.eval (.tmp 65) = .slice (some ⟨lb, lo, none⟩) G lc := h.val 2 _ rfl (hp 2 (by decide))
            have q66 : a.eval (.tmp 66) = .int .i64 (k : Nat) := h.val 3 _ rfl (hp 3 (by decide))
            have z2 : (0 : Int) ≤ (k : Nat) := by omega
            have z3 : ((k : Nat) : Int) < (G : Nat) := by omega
            refine wpw_val hK (by clear hfr; generalize a.eval = ρ at *; go_simp)
          · -- 5
            refine JW.step (slots := slDr) rfl (by decide) (by rw [hsz]; decide) (68, .is (.slice fA l.length fc)) rfl rfl rfl ?_
            intro D a wx K hD hp h hK
            have hfr : Fr slDr a0 a := h.fr
            refine step_wp rfl ?_
            have q67 : a.eval (.tmp 67) = .pointer (some ⟨lb, lo + k, none⟩) := h.val 4 _ rfl (hp 4 (by decide))
            have z1 : wx.cell? ⟨lb, lo + k, none⟩ = some (.slice fA l.length fc) := cmap_below h.below _ _ _ HFC.out
            refine wpw_val hK (by clear hfr; generalize a.eval = ρ at *; go_simp)
          · -- 6
            refine JW.step (slots := slDr) rfl (by decide) (by rw [hsz]; decide) (69, srT W0.heap.size 4 g1.nodes.length (bools (openG g1 (stL u g1) l)) 0) rfl rfl rfl ?_
            intro D a wx K hD hp h hK
            have hfr : Fr slDr a0 a := h.fr
            refine step_wp rfl ?_
            have q63 : a.eval (.tmp 63) = .agg #[.slice sA u.shared.length sc, lv, .slice (some ⟨gb, go, none⟩) G gc] := h.val 0 _ rfl (hp 0 (by decide))
            have q64 : a.eval (.tmp 64) = .int .i64 (k : Nat) := h.val 1 _ rfl (hp 1 (by decide))
            have q68 : a.eval (.tmp 68) = .slice fA l.length fc := h.val 5 _ rfl (hp 5 (by decide))
            refine wpw_call hK Tryz.func11 (by kernel_rfl) (by kernel_rfl) rfl #[.agg #[.slice sA u.shared.length sc, lv, .slice (some ⟨gb, go, none⟩) G gc], .int .i64 (k : Nat), .slice fA l.length fc] (by simp only [List.map_toArray, List.map_cons, List.map_nil, q63, q64, q68]; try rfl) ?_
            refine (HOC.out wx h.below).mono ?_
            rintro e w' ⟨r, rfl, hr, hb⟩
            exact ⟨_, rfl, hb, r, rfl, own_base hr h.below.size⟩
          · -- 7
            refine JW.step (slots := slDr) rfl (by decide) (by rw [hsz]; decide) (62, srT W0.heap.size 4 g1.nodes.length (bools (openG g1 (stL u g1) l)) 0) rfl rfl rfl ?_
            intro D a wx K hD hp h hK
            have hfr : Fr slDr a0 a := h.fr
            refine step_wp rfl ?_
            have q69 := h.val 6 _ rfl (hp 6 (by decide))
            exact wpw_move hK rfl q69
          · -- 8
            refine JW.step (slots := slDr) rfl (by decide) (by rw [hsz]; decide) (70, srO W0.heap.size 4 g1.nodes.length (bools (openG g1 (stL u g1) l))) rfl rfl rfl ?_
            intro D a wx K hD hp h hK
            have hfr : Fr slDr a0 a := h.fr
            refine step_wp rfl ?_
            have q62 := h.val 7 _ rfl (hp 7 (by decide))
            obtain ⟨r60, hr1, hr2⟩ := q62
            have q62 : a.eval (.tmp 62) = .tuple #[r60, .int .i64 0] := hr1
            refine wpw_valx r60 hK hr2 (by clear hfr hr1 hr2; generalize a.eval = ρ at *; go_simp)
          · -- 9
            refine JW.step (slots := slDr) rfl (by decide) (by rw [hsz]; decide) (71, .is (.int .i64 0)) rfl rfl rfl ?_
            intro D a wx K hD hp h hK
            have hfr : Fr slDr a0 a := h.fr
            refine step_wp rfl ?_
            have q62 := h.val 7 _ rfl (hp 7 (by decide))
            obtain ⟨r60, hr1, hr2⟩ := q62
            have q62 : a.eval (.tmp 62) = .tuple #[r60, .int .i64 0] := hr1
            refine wpw_val hK (by clear hfr hr1 hr2; generalize a.eval = ρ at *; go_simp)
          · -- 10
            refine JW.step (slots := slDr) rfl (by decide) (by rw [hsz]; decide) (13, srO W0.heap.size 4 g1.nodes.length (bools (openG g1 (stL u g1) l))) rfl rfl rfl ?_
            intro D a wx K hD hp h hK
            have hfr : Fr slDr a0 a := h.fr
            refine step_wp rfl ?_
            have q70 := h.val 8 _ rfl (hp 8 (by decide))
            exact wpw_assign hK rfl q70
          · -- 11
            refine JW.step (slots := slDr) rfl (by decide) (by rw [hsz]; decide) (14, .is (.int .i64 0)) rfl rfl rfl ?_
            intro D a wx K hD hp h hK
            have hfr : Fr slDr a0 a := h.fr
            refine step_wp rfl ?_
            have q71 : a.eval (.tmp 71) = .int .i64 0 := h.val 9 _ rfl (hp 9 (by decide))
            refine wpw_val hK (by clear hfr; generalize a.eval = ρ at *; go_simp)
        case done =>
          intro D a wz hall h
          have hd : ∀ i, i < 12 → D i = true := hall
          have hfin := Fr.allW (slots := slDr) h.fr (by rw [hsz]; decide)
          have v13 : wz.ownsRow W0.heap.size 4 1 (a.eval (.tmp 13)) g1.nodes.length (bools (openG g1 (stL u g1) l)) := h.val 10 _ rfl (hd 10 (by decide))
          simp only [putW, slDr] at hfin
          rw [(show a.eval (.tmp 63) = .agg #[.slice sA u.shared.length sc, lv, .slice (some ⟨gb, go, none⟩) G gc] from h.val 0 _ rfl (hd 0 (by decide))), (show a.eval (.tmp 64) = .int .i64 (k : Nat) from h.val 1 _ rfl (hd 1 (by decide))), (show a.eval (.tmp 65) = .slice (some ⟨lb, lo, none⟩) G lc from h.val 2 _ rfl (hd 2 (by decide))), (show a.eval (.tmp 66) = .int .i64 (k : Nat) from h.val 3 _ rfl (hd 3 (by decide))), (show a.eval (.tmp 67) = .pointer (some ⟨lb, lo + k, none⟩) from h.val 4 _ rfl (hd 4 (by decide))), (show a.eval (.tmp 68) = .slice fA l.length fc from h.val 5 _ rfl (hd 5 (by decide))), (show a.eval (.tmp 71) = .int .i64 0 from h.val 9 _ rfl (hd 9 (by decide))), (show a.eval (.tmp 14) = .int .i64 0 from h.val 11 _ rfl (hd 11 (by decide)))] at hfin
          have hbz := h.below
          generalize a.eval (.tmp 13) = r13 at hfin v13
          generalize a.eval (.tmp 70) = r70 at hfin
          generalize a.eval (.tmp 62) = r62 at hfin
          generalize a.eval (.tmp 69) = r69 at hfin
          rw [hfin, HA0.out]
          clear hfin HA0 h hall hd t3 t12 t2 hsz
          simp only [Act.put, List.setIfInBounds_toArray, List.set_cons_zero, List.set_cons_succ]
          obtain ⟨rA, rc, rfl, -⟩ := own_slice v13
          have ha9 := (HA.out.keep hbz).alloc (.cells #[.slice rA g1.nodes.length rc] 28)
          have hb9 : Below w3.heap.size w3 (wz.alloc (.cells #[.slice rA g1.nodes.length rc] 28)) := (HB.out.trans (hbz.mono HB.out.size)).alloc (Nat.le_trans HB.out.size hbz.size) _
          have hs9 : w3.heap.size ≤ W0.heap.size := HB.out.size
          have hs5 : W0.heap.size ≤ wz.heap.size := hbz.size
          have h9lt := HA.out.lt
          obtain ⟨rows, ho, hrl, hrs, hrx⟩ := id ha9.rows
          have ho' := ho
          rw [List.length_map, List.length_range] at ho'
          have HR9 := Lib.hid (And.intro ha9 (And.intro hb9 (And.intro hrl (And.intro hrs hrx))))
          have HO9 := Lib.hid (And.intro ho ho')
          have H9 := Lib.hid (And.intro hs9 (And.intro hs5 h9lt))
          have HV13 := Lib.hid v13
          clear ha9 hb9 ho ho' hrl hrs hrx hs9 hs5 h9lt hbz v13
          go_wp2_with (refine stop_append rfl ?_)
          refine Stop.intro ?_
          refine app_one sl_opn rfl _ _ rfl w3.heap.size _ k rows.flatten rfl HO9.out.2 wz.heap.size 0 1 [.slice rA g1.nodes.length rc] rfl rfl (cell_new1 _ _ _ _ rfl) (by simp [Value.oneCell']) (by omega) (by decide) (by have := H9.out.1; have := H9.out.2.1; simp; omega) ?_
          intro v7 w7 hown hg7 hob
          have hlb : (openG g1 (stL u g1) l).length = g1.nodes.length := openG_len _ _ _
          have hsl : Bools (part wz W0.heap.size wz.heap.size) (.slice rA g1.nodes.length rc) (openG g1 (stL u g1) l) := by
            have h1 := HV13.out
            rw [← hlb] at h1 ⊢
            exact Sl_of_own (f := Value.bool) (R := BoolC) (fun _ _ _ _ h => h) h1 (Nat.le_refl _) (Nat.le_refl _)
          have hacc := HR9.out.1.push HR9.out.2.2.1 HR9.out.2.2.2.1 HR9.out.2.2.2.2 (r := [.slice rA g1.nodes.length rc]) rfl (x := opnL u L k) (v' := v7) (wx := w7) (by rw [List.length_map, List.length_range]; exact hown) hg7 hob (S' := fun q => S q ∨ (W0.heap.size ≤ q ∧ q < wz.heap.size)) (fun q h => .inl h)
            (fun q h => by
              have h1 := H9.out.1
              have h2 := H9.out.2.1
              rcases h with h | h
              · exact HR9.out.1.sep q h
              · refine ⟨by omega, by simp; omega, fun e => ?_⟩
                have := (H9.out.2.2 q e.symm).2
                omega)
            ⟨_, rfl, by
              rw [opnL_at HGL.out.1 HGL.out.2.1]
              exact hsl.mono ((part_on wz (S := fun q => W0.heap.size ≤ q ∧ q < wz.heap.size) (fun q h1 h2 => ⟨h1, h2⟩)).trans (on_keep (fun q hq hlt => by
                rw [hg7.block q (by simp; omega) (fun e => by have := (H9.out.2.2 q e.symm).2; omega)]
                exact Below.heap_alloc wz _ q hq.2) (fun q hq => .inr hq)))⟩
          have HACC : Hid (Acc boolsV 1 28 w3.heap.size (fun q => S q ∨ (W0.heap.size ≤ q ∧ q < wz.heap.size)) v7 ((List.range (k + 1)).map (opnL u L)) w7) := Lib.hid (by rw [List.range_succ, List.map_append]; exact hacc)
          have HB7 : Hid (Below w3.heap.size w3 w7) := Lib.hid (HR9.out.2.1.grown hg7 (by have := H9.out.1; have := H9.out.2.1; simp; omega) (fun q e => (HR9.out.1.lt q e).1))
          clear hown hg7 hob hacc hsl hlb
          go_wp2
          go_roundw
          case rel => exact ⟨k + 1, _, by go_num, by omega, HFK, HACC, HB7⟩
          case measure => simp [intOf]; omega
    · obtain rfl : k = G := by omega
      obtain ⟨G, rfl⟩ : ∃ G : Nat, G = k := ⟨_, rfl⟩
      have ng : ¬ ((G : Int) < G) := by omega
      have hA1 := HA.out
      have z12 : Below w1.heap.size w1 wr := (HC2.out.2.trans (HB23.out.mono HC2.out.2.size)).trans (HB.out.mono (Nat.le_trans HC2.out.2.size HB23.out.size))
      have hAt := MAz.startD HX0'.out hA1.2.2.2.2 hA1.1 hA1.2.1 hA1.2.2.1 hA1.2.2.2.1 z12
      have z23 : Below w2.heap.size w2 wr := HB23.out.trans (HB.out.mono HB23.out.size)
      have kC : Clss (on wr (drZ w w1 wr)) v2 ((List.range u.shared.length).map fun x : Nat => classF u (x : Int)) := HC2.out.1.mono fun b o v h => by
        obtain ⟨q1, q2, q3⟩ := part_at h
        exact on_mk (cmap_below z23 _ _ _ q1) (.inr ⟨by have := HC2.out.2.size; omega, by have := z23.size; omega⟩)
      have s13 : w1.heap.size ≤ w3.heap.size := Nat.le_trans HC2.out.2.size HB23.out.size
      have kH : Sl (Cells boolsV) 1 (on wr (drZ w w1 wr)) u11 ((List.range G).map (opnL u L)) := (HA9.out.done (Nat.le_refl _) (Nat.le_refl _)).mono (part_on wr fun q h1 h2 => .inr ⟨by omega, h2⟩)
      have kx : on wr (drZ w w1 wr) w.heap.size 2 = some (.slice gA G gc) := on_mk u2 (.inl rfl)
      obtain ⟨OL, hOL⟩ : ∃ OL, (List.range G).map (opnL u L) = OL := ⟨_, rfl⟩
      have hOn : OL.length = G := by rw [← hOL]; simp
      rw [hOL] at kH
      obtain ⟨oA, oc, rfl, -⟩ := id kH
      rw [hOn] at kH ⊢
      obtain ⟨cA, cc, rfl, -⟩ := id kC
      have hcl : ((List.range u.shared.length).map fun x : Nat => classF u (x : Int)).length = u.shared.length := by simp
      rw [hcl] at kC ⊢
      clear hcl
      obtain ⟨Z, hZ⟩ : ∃ Z : Nat → Prop, drZ w w1 wr = Z := ⟨_, rfl⟩
      have hZl : ∀ q, Z q → q < wr.heap.size := fun q hq => by
        rw [← hZ] at hq
        rcases hq with e | e
        · have := HX0'.out; have := hA1.2.2.2.1.size; have := z12.size; omega
        · exact e.2
      rw [hZ] at hAt kC kH kx
      obtain ⟨w4, hw4⟩ : ∃ w4 : World, w4 = wr := ⟨_, rfl⟩
      have hown : OwnB w (wr.alloc (.cells (bools (List.replicate G false)).toArray 4)) R g L1 wr.heap.size 4 (bools (List.replicate G false)) :=
        ⟨Blk.new _ _ _, fun e => by have := hA1.1.lt e; have := z12.size; omega, fun e => by have := (hA1.2.1 _ e).2; have := z12.size; omega, hbw.size⟩
      have hT0 : DrAt w w4 (wr.alloc (.cells (bools (List.replicate G false)).toArray 4)) R g L1 u Z wr.heap.size 0 (startM u) (List.replicate G false) :=
        ⟨hAt.below (Below_alloc' _ _), HK.out.2.2.1, by simp [startM], by rw [hw4]; exact (FrW.of_below (fun _ => False) (Below_alloc' wr _)).on fun _ _ => id, hown, fun e => by have := hZl _ e; omega⟩
      have hD0 : DrI u L (startM u) (List.replicate G false) := by have := DrI.start u L (startM u); rwa [HGE.out] at this
      have KZ : Hid (Clss (on w4 Z) (.slice cA u.shared.length cc) ((List.range u.shared.length).map fun x : Nat => classF u (x : Int)) ∧ Sl (Cells boolsV) 1 (on w4 Z) (.slice oA G oc) OL ∧ on w4 Z w.heap.size 2 = some (.slice gA G gc)) := Lib.hid (by rw [hw4]; exact ⟨kC, kH, kx⟩)
      have HOL := Lib.hid (And.intro hOL hOn)
      have HT0 := Lib.hid (And.intro hT0 hD0)
      have hG32 : G < 4294967296 := by omega
      rw [show (bools (List.replicate G false)).toArray = Array.replicate G (.bool false) by simp [bools]] at HT0
      clear hlt hk hA1 hAt z12 z23 kC kH kx hZ hZl hw4 HA9 HB hxr hown hT0 hD0 hOL hOn s13 hbw HFN
      go_wp2_with (first
        | (refine mk_full sl_bool rfl rfl _ _ rfl G rfl rfl hG32 (by decide) ?_))
      obtain ⟨hb, hhb⟩ : ∃ hb, wr.heap.size = hb := ⟨_, rfl⟩
      obtain ⟨w5, hw5⟩ : ∃ w5, wr.alloc (.cells (Array.replicate G (Value.bool false)) 4) = w5 := ⟨_, rfl⟩
      rw [hhb, hw5] at HT0
      simp only [List.toArray_replicate, hw5, hhb]
      clear u2
      go_wp2_with fail
      go_loopw [87, 17, 18, 19, 20, 21] (fun v87 _ _ _ _ _ wr => ∃ (k : Nat) (mk : Mach) (W : List Bool), v87 = .int .i64 k ∧ k ≤ sch.length ∧ Hid (DrAt w w4 wr R g L1 u Z hb k mk W) ∧ Hid (DrI u L mk W)) (fun v87 _ _ _ _ _ _ => sch.length - (intOf v87).toNat)
      case atStart => exact ⟨0, _, _, rfl, by omega, Lib.hid HT0.out.1, Lib.hid HT0.out.2⟩
      case round =>
        clear HT0
        obtain ⟨k, mk, W, rfl, hk, HH, HDI⟩ := hrel
        have k0 : (0 : Int) ≤ k := by omega
        by_cases hlt : k < sch.length
        rotate_left
        · obtain rfl : k = sch.length := by omega
          have nk : ¬ ((sch.length : Int) < sch.length) := by omega
          have HF := Lib.hid HH.out.at_.bel
          clear hlt hk
          go_wp2_with fail
          go_ret
          exact ⟨rfl, HF.out⟩
        have k1 : (k : Int) < sch.length := by omega
        obtain ⟨t, ht⟩ : ∃ t, sch[k]? = some t := ⟨_, List.getElem?_eq_getElem hlt⟩
        obtain ⟨sb, so, rfl, hsc⟩ := (HK.out.2.2.2.mono (cmap_below HH.out.at_.bel)).at_ ht
        rw [Nat.mul_one] at hsc
        have hcs : wr.cell? ⟨sb, so + k, none⟩ = some (.int .i64 t) := hsc
        obtain ⟨pv, hM, hmu⟩ := HH.out.at_.ex
        have HC := can_calls t hM HH.out.situ.ok HK.out.1
        clear hM hmu hsc
        by_cases hcan : barF u mk t = 0
        rotate_left
        · have e1 : (barF u mk t == 0) = false := by simp [hcan]
          rw [e1] at HC
          have HC := Lib.hid HC
          clear e1 hcan ht
          go_wp2_with fail
          refine HC.out.mono ?_
          rintro e wa ⟨rfl, hba⟩
          have HHa := Lib.hid (HH.out.below hba).succ
          clear hba
          go_wp2_with fail
          go_roundw
          case rel => exact ⟨k + 1, mk, W, by go_num, by omega, HHa, HDI⟩
          case measure => simp [intOf]; omega
        obtain ⟨ta, g1, ia, n1, rfl, hta, st1, wh1⟩ := can_yes_dr HH.out.situ hcan
        have e1 : (barF u mk (ta : Int) == 0) = true := by simp [hcan]
        rw [e1] at HC
        have HC := Lib.hid HC
        have HST := Lib.hid (And.intro st1 (And.intro wh1 hcan))
        have htG : ta < G := by rw [← HGE.out]; exact hta
        have hWl : W.length = G := by rw [HDI.out.len]; exact HGE.out
        obtain ⟨F1, hF1⟩ : ∃ F1, L[ta]? = some F1 := ⟨L[ta]'(by rw [HLE.out]; exact htG), List.getElem?_eq_getElem _⟩
        obtain ⟨wb, hwb⟩ : ∃ b, W[ta]? = some b := ⟨W[ta]'(by rw [hWl]; exact htG), List.getElem?_eq_getElem _⟩
        have hil : ia < g1.nodes.length := (List.getElem?_eq_some_iff.1 st1.nd).1
        have HWT := Lib.hid hwb
        have HTL : Hid (ta < W.length) := Lib.hid (by rw [hWl]; exact htG)
        have HF1 := Lib.hid hF1
        have hel : OL[ta]? = some (opnL u L ta) := by rw [← HOL.out.1, List.getElem?_map, List.getElem?_range htG]; rfl
        obtain ⟨ob, oo, rfl, _, ⟨ov, rfl, hin⟩, hcell⟩ := KZ.out.2.1.at_ hel
        rw [opnL_at st1.gr hF1] at hin
        obtain ⟨bo, hbo⟩ : ∃ b, (openG g1 (stL u g1) F1)[ia]? = some b := ⟨_, List.getElem?_eq_getElem (by rw [openG_len]; exact hil)⟩
        obtain ⟨ovA, pc, rfl, -⟩ := id hin
        obtain ⟨pb, po, rfl, hpc⟩ := hin.at_ hbo
        have hz := hcell 0 _ rfl
        rw [Nat.mul_one] at hz hpc
        rw [openG_len] at hz
        have HOPN : Hid (W[ta]? = some true → (ia : Int) ∉ F1 → ∃ pb po pc, Hid (on w4 Z ob (oo + ta) = some (.slice (some ⟨pb, po, none⟩) g1.nodes.length pc) ∧ on w4 Z pb (po + ia) = some (.bool true))) := Lib.hid fun h1 h2 => by
          have hbt := HDI.out.open_ st1 hF1 h1 h2 hbo
          subst hbt
          exact ⟨pb, po, pc, hz, hpc⟩
        obtain ⟨lb, lo, rfl, fv, hfc, hfi⟩ := HM2.out.at_ hF1
        rw [Nat.mul_one] at hfc
        obtain ⟨fA, fc, rfl, -⟩ := id hfi
        have HFI := Lib.hid (And.intro hfc hfi)
        have i5 : (ia : Int) < g1.nodes.length := by omega
        have i6 : (0 : Int) ≤ ia := by omega
        have a0 : (0 : Int) ≤ ta := by omega
        have a1 : (ta : Int) < G := by omega
        clear e1 hcan ht st1 wh1 hel hin hcell hbo hz hpc hwb hfc hfi hF1 hWl hil
        go_wp2_with fail
        refine HC.out.mono ?_
        rintro e wa ⟨rfl, hba⟩
        have HHa := Lib.hid (HH.out.below hba)
        obtain ⟨pv, hM, hmu⟩ := HHa.out.at_.ex
        have HA1 := at_calls (ta : Int) hM
        rw [HST.out.2.1] at HA1
        have HA1 := Lib.hid HA1
        clear hM hmu hba HC hcs HH
        go_wp2_with fail
        refine HA1.out.mono ?_
        rintro e wbb ⟨rfl, q1, rfl⟩
        have HHb := Lib.hid (HHa.out.drewN q1)
        clear HA1 HHa
        obtain ⟨W2, hW2⟩ : ∃ W2, wa.drewN q1 = W2 := ⟨_, rfl⟩
        rw [hW2] at HHb ⊢
        have hnd := ndF ((HK.out.1.graphs g1 (List.mem_of_getElem? HST.out.1.gr)).nodes n1 (List.mem_of_getElem? HST.out.1.nd))
        obtain ⟨gb, go_, rfl, c1, ⟨v1_, rfl, hn1⟩, hcs1⟩ := (HGR.out.mono (cmap_below HHb.out.at_.bel)).at_ HST.out.1.gr
        obtain ⟨nA_, nc_, rfl, -⟩ := id hn1
        obtain ⟨nb, no_, rfl, hnc⟩ := hn1.at_ HST.out.1.nd
        have p1 : W2.cell? ⟨w.heap.size, 2, none⟩ = some (.slice (some ⟨gb, go_, none⟩) G gc) := (on_at (HHb.out.kz _ _ _ KZ.out.2.2)).1
        have p2 : W2.cell? ⟨gb, go_ + ta * 4 + 3, none⟩ = some (.slice (some ⟨nb, no_, none⟩) g1.nodes.length _) := hcs1 3 _ rfl
        obtain ⟨⟨nk, nop, nsl, nth, ⟨a1_, a2, a3⟩, ⟨b1, b2, b3⟩, nn, ne_, no⟩, hn1e⟩ : ∃ n, n1 = n := ⟨_, rfl⟩
        rw [hn1e] at hnd hnc
        have HN1 := Lib.hid hn1e
        have HLDN : Hid (∀ j v, ([.int .u8 nk, .int .u8 nop, .int .i64 nsl, .int .i64 nth, .bool a1_, .int .i64 a2, .int .i64 a3, .bool b1, .int .i64 b2, .int .i64 b3, .int .i64 nn, .int .i64 ne_, .int .i64 no] : List Value)[j]? = some v → W2.cell? ⟨nb, no_ + ia * 13 + j, none⟩ = some v) := Lib.hid hnc
        have HDRC : Hid (∀ wx : World, Calls Tryz.prog 32 #[.agg #[.int .u8 nk, .int .u8 nop, .int .i64 nsl, .int .i64 nth, .bool a1_, .int .i64 a2, .int .i64 a3, .bool b1, .int .i64 b2, .int .i64 b3, .int .i64 nn, .int .i64 ne_, .int .i64 no]] wx fun e w' => e = .returned (.bool (drB (⟨nk, nop, nsl, nth, ⟨a1_, a2, a3⟩, ⟨b1, b2, b3⟩, nn, ne_, no⟩ : Node))) ∧ Below wx.heap.size wx w') := Lib.hid fun wx => rdrain_calls (⟨nk, nop, nsl, nth, ⟨a1_, a2, a3⟩, ⟨b1, b2, b3⟩, nn, ne_, no⟩ : Node) wx
        have HSRC : Hid (∀ wx : World, (on w4 Z).le (on wx Z) → Calls Tryz.prog 33 #[.slice cA u.shared.length cc, .agg #[.int .u8 nk, .int .u8 nop, .int .i64 nsl, .int .i64 nth, .bool a1_, .int .i64 a2, .int .i64 a3, .bool b1, .int .i64 b2, .int .i64 b3, .int .i64 nn, .int .i64 ne_, .int .i64 no]] wx fun e w' => e = .returned (.bool (stB u (⟨nk, nop, nsl, nth, ⟨a1_, a2, a3⟩, ⟨b1, b2, b3⟩, nn, ne_, no⟩ : Node))) ∧ Below wx.heap.size wx w') := Lib.hid fun wx hle => rstore_calls u (⟨nk, nop, nsl, nth, ⟨a1_, a2, a3⟩, ⟨b1, b2, b3⟩, nn, ne_, no⟩ : Node) _ wx (KZ.out.1.mono (hle.trans (on_le _ _))) (fun h => hnd.var (.inr (.inl h)))
        have hbl : Below w.heap.size w (W2.alloc (.cells #[.int .u8 nk, .int .u8 nop, .int .i64 nsl, .int .i64 nth, .bool a1_, .int .i64 a2, .int .i64 a3, .bool b1, .int .i64 b2, .int .i64 b3, .int .i64 nn, .int .i64 ne_, .int .i64 no] 66)) := HHb.out.at_.bel.alloc HHb.out.at_.bel.size _
        have fcell : (W2.alloc (.cells #[.int .u8 nk, .int .u8 nop, .int .i64 nsl, .int .i64 nth, .bool a1_, .int .i64 a2, .int .i64 a3, .bool b1, .int .i64 b2, .int .i64 b3, .int .i64 nn, .int .i64 ne_, .int .i64 no] 66)).cell? ⟨lb, lo + ta, none⟩ = some (.slice fA F1.length fc) := cmap_below hbl _ _ _ HFI.out.1
        have HBL := Lib.hid hbl
        clear hW2 hn1 hcs1 hnc hn1e hnd hbl
        go_wp2_with (first | (refine wpList_load_at rfl 66 _ rfl nb (no_ + ia * 13) rfl _ _ HLDN.out Tryz.underlying66 rfl (by kernel_rfl) ?_))
        obtain ⟨W3, hW3⟩ : ∃ W3, W2.alloc (.cells #[.int .u8 nk, .int .u8 nop, .int .i64 nsl, .int .i64 nth, .bool a1_, .int .i64 a2, .int .i64 a3, .bool b1, .int .i64 b2, .int .i64 b3, .int .i64 nn, .int .i64 ne_, .int .i64 no] 66) = W3 := ⟨_, rfl⟩
        obtain ⟨X, hX⟩ : ∃ X, W2.heap.size = X := ⟨_, rfl⟩
        have HH3 : Hid (DrAt w w4 W3 R g L1 u Z hb k mk W) := Lib.hid (by rw [← hW3]; exact HHb.out.below (Below_alloc' _ _))
        have HX3 : Hid (Blk W3 X 66 [.int .u8 nk, .int .u8 nop, .int .i64 nsl, .int .i64 nth, .bool a1_, .int .i64 a2, .int .i64 a3, .bool b1, .int .i64 b2, .int .i64 b3, .int .i64 nn, .int .i64 ne_, .int .i64 no]) := Lib.hid (by rw [← hW3, ← hX]; exact Blk.new _ _ _)
        have HXB : Hid (X ≠ hb) := Lib.hid (by have := HHb.out.own.blk.lt; omega)
        have HFW : Hid (Ints (cmap W3) (.slice fA F1.length fc) F1) := Lib.hid (by rw [← hW3]; exact HFI.out.2.mono (cmap_below HBL.out))
        rw [hW3, hX]
        clear hW3 hX fcell HBL HLDN p1 p2 HHb
        by_cases hfe : (ia : Int) ∈ F1
        · have HFE := Lib.hid hfe
          clear hfe
          cases hdb : drB n1 with
          | true =>
            have HDB : Hid (drB (⟨nk, nop, nsl, nth, ⟨a1_, a2, a3⟩, ⟨b1, b2, b3⟩, nn, ne_, no⟩ : Node) = true) := Lib.hid (by rw [← HN1.out]; exact hdb)
            cases hsb : stB u n1 with
            | true =>
              have HSB : Hid (stB u (⟨nk, nop, nsl, nth, ⟨a1_, a2, a3⟩, ⟨b1, b2, b3⟩, nn, ne_, no⟩ : Node) = true) := Lib.hid (by rw [← HN1.out]; exact hsb)
              clear hdb hsb
              refine (has11_calls _ F1 (ia : Int) W3 HFW.out).mono ?_
              rintro e wz ⟨rfl, hz⟩
              subst hz
              rw [decide_eq_true HFE.out]
              have HH4 := Lib.hid (HH3.out.set_ ta false)
              have HX4 : Hid (Blk (W3.setCell ⟨hb, ta, none⟩ (.bool false)) X 66 [.int .u8 nk, .int .u8 nop, .int .i64 nsl, .int .i64 nth, .bool a1_, .int .i64 a2, .int .i64 a3, .bool b1, .int .i64 b2, .int .i64 b3, .int .i64 nn, .int .i64 ne_, .int .i64 no]) := Lib.hid (HX3.out.far HXB.out (.bool false))
              have HL4 : Hid (∀ j v, ([.int .u8 nk, .int .u8 nop, .int .i64 nsl, .int .i64 nth, .bool a1_, .int .i64 a2, .int .i64 a3, .bool b1, .int .i64 b2, .int .i64 b3, .int .i64 nn, .int .i64 ne_, .int .i64 no] : List Value)[j]? = some v → (W3.setCell ⟨hb, ta, none⟩ (.bool false)).cell? ⟨X, 0 + j, none⟩ = some v) := Lib.hid fun j v hj => by rw [Nat.zero_add, HX4.out.cell]; exact hj
              have y0 := HH3.out.cell HWT.out
              have y1 : (W3.setCell ⟨hb, ta, none⟩ (.bool false)).cell? ⟨hb, ta, none⟩ = some (.bool false) := HH4.out.cell (by rw [List.getElem?_set, if_pos rfl, if_pos HTL.out])
              have yf := HH3.out.own.blk.frozen ta
              go_wp2_with (first | (refine wpList_load_at rfl 66 _ rfl X 0 rfl _ _ HL4.out Tryz.underlying66 rfl (by kernel_rfl) ?_))
              obtain ⟨W4, hW4⟩ : ∃ W4, W3.setCell ⟨hb, ta, none⟩ (.bool false) = W4 := ⟨_, rfl⟩
              rw [hW4] at HH4 HX4 ⊢
              clear hW4 HL4 y0 y1 yf
              refine (HDRC.out W4).mono ?_
              rintro e w5 ⟨rfl, hb5⟩
              have HH5 := Lib.hid (HH4.out.below hb5)
              have HX5 := Lib.hid (HX4.out.below hb5 HX4.out.lt)
              clear hb5
              rw [HDB.out]
              have HH6 := Lib.hid (HH5.out.set_ ta false)
              have HX6 : Hid (Blk (w5.setCell ⟨hb, ta, none⟩ (.bool false)) X 66 [.int .u8 nk, .int .u8 nop, .int .i64 nsl, .int .i64 nth, .bool a1_, .int .i64 a2, .int .i64 a3, .bool b1, .int .i64 b2, .int .i64 b3, .int .i64 nn, .int .i64 ne_, .int .i64 no]) := Lib.hid (HX5.out.far HXB.out (.bool false))
              obtain ⟨bq, hbq⟩ : ∃ b, (W.set ta false)[ta]? = some b := ⟨_, List.getElem?_eq_getElem (by simpa using HTL.out)⟩
              have y0 := HH5.out.cell hbq
              have yf := HH5.out.own.blk.frozen ta
              have HBQ := Lib.hid hbq
              clear hbq
              have HL6 : Hid (∀ j v, ([.int .u8 nk, .int .u8 nop, .int .i64 nsl, .int .i64 nth, .bool a1_, .int .i64 a2, .int .i64 a3, .bool b1, .int .i64 b2, .int .i64 b3, .int .i64 nn, .int .i64 ne_, .int .i64 no] : List Value)[j]? = some v → (w5.setCell ⟨hb, ta, none⟩ (.bool false)).cell? ⟨X, 0 + j, none⟩ = some v) := Lib.hid fun j v hj => by rw [Nat.zero_add, HX6.out.cell]; exact hj
              go_wp2_with (first | (refine wpList_load_at rfl 66 _ rfl X 0 rfl _ _ HL6.out Tryz.underlying66 rfl (by kernel_rfl) ?_))
              obtain ⟨W6, hW6⟩ : ∃ W6 : World, (w5.setCell ⟨hb, ta, none⟩ (.bool false)) = W6 := ⟨_, rfl⟩
              rw [hW6] at HH6 HX6 ⊢
              clear hW6 HL6 y0 yf
              refine (HSRC.out W6 HH6.out.kz).mono ?_
              rintro e w7 ⟨rfl, hb7⟩
              have HH7 := Lib.hid (HH6.out.below hb7)
              clear hb7
              rw [HSB.out]
              have HH8 := Lib.hid (HH7.out.set_ ta true)
              obtain ⟨bq2, hbq2⟩ : ∃ b, ((W.set ta false).set ta false)[ta]? = some b := ⟨_, List.getElem?_eq_getElem (by simpa using HTL.out)⟩
              have y0 := HH7.out.cell hbq2
              have yf := HH7.out.own.blk.frozen ta
              have HBQ2 := Lib.hid hbq2
              clear hbq2
              go_wp2_with fail
              clear y0 yf
              refine (dr_step HK.out.1 HK.out.2.1 (by have := HKL.out; omega) HH8.out HST.out.2.2).mono ?_
              rintro e w9 ⟨rfl, hh9⟩
              have hWe : (((W.set ta false).set ta false).set ta true) = W.set ta true := by first | rfl | (simp only [List.set_set])
              rw [hWe] at hh9
              have hdr := HDI.out.step HK.out.1 HH8.out.situ HST.out.1 HST.out.2.2 HF1.out (w := false) (fun h => by cases h)
              rw [show (if stB u n1 = true then true else if drB n1 = true then false else false) = true by rw [HN1.out, HSB.out, HDB.out]; rfl] at hdr
              have HFIN := Lib.hid (And.intro (hh9.below (Below_alloc' w9 (.cells #[.int .i64 (stepD u mk (ta : Int)).thread, .int .i64 (stepD u mk (ta : Int)).node, .int .u8 (stepD u mk (ta : Int)).kind, .int .i64 (stepD u mk (ta : Int)).thing, .int .i64 (stepD u mk (ta : Int)).word, .int .i64 (stepD u mk (ta : Int)).put] 74))) hdr)
              clear hh9 hdr hWe
              go_wp2_with fail
              go_roundw
              case rel => exact ⟨k + 1, _, W.set ta true, by go_num, by omega, Lib.hid HFIN.out.1, Lib.hid HFIN.out.2⟩
              case measure => simp [intOf]; omega
            | false =>
              have HSB : Hid (stB u (⟨nk, nop, nsl, nth, ⟨a1_, a2, a3⟩, ⟨b1, b2, b3⟩, nn, ne_, no⟩ : Node) = false) := Lib.hid (by rw [← HN1.out]; exact hsb)
              clear hdb hsb
              refine (has11_calls _ F1 (ia : Int) W3 HFW.out).mono ?_
              rintro e wz ⟨rfl, hz⟩
              subst hz
              rw [decide_eq_true HFE.out]
              have HH4 := Lib.hid (HH3.out.set_ ta false)
              have HX4 : Hid (Blk (W3.setCell ⟨hb, ta, none⟩ (.bool false)) X 66 [.int .u8 nk, .int .u8 nop, .int .i64 nsl, .int .i64 nth, .bool a1_, .int .i64 a2, .int .i64 a3, .bool b1, .int .i64 b2, .int .i64 b3, .int .i64 nn, .int .i64 ne_, .int .i64 no]) := Lib.hid (HX3.out.far HXB.out (.bool false))
              have HL4 : Hid (∀ j v, ([.int .u8 nk, .int .u8 nop, .int .i64 nsl, .int .i64 nth, .bool a1_, .int .i64 a2, .int .i64 a3, .bool b1, .int .i64 b2, .int .i64 b3, .int .i64 nn, .int .i64 ne_, .int .i64 no] : List Value)[j]? = some v → (W3.setCell ⟨hb, ta, none⟩ (.bool false)).cell? ⟨X, 0 + j, none⟩ = some v) := Lib.hid fun j v hj => by rw [Nat.zero_add, HX4.out.cell]; exact hj
              have y0 := HH3.out.cell HWT.out
              have y1 : (W3.setCell ⟨hb, ta, none⟩ (.bool false)).cell? ⟨hb, ta, none⟩ = some (.bool false) := HH4.out.cell (by rw [List.getElem?_set, if_pos rfl, if_pos HTL.out])
              have yf := HH3.out.own.blk.frozen ta
              go_wp2_with (first | (refine wpList_load_at rfl 66 _ rfl X 0 rfl _ _ HL4.out Tryz.underlying66 rfl (by kernel_rfl) ?_))
              obtain ⟨W4, hW4⟩ : ∃ W4, W3.setCell ⟨hb, ta, none⟩ (.bool false) = W4 := ⟨_, rfl⟩
              rw [hW4] at HH4 HX4 ⊢
              clear hW4 HL4 y0 y1 yf
              refine (HDRC.out W4).mono ?_
              rintro e w5 ⟨rfl, hb5⟩
              have HH5 := Lib.hid (HH4.out.below hb5)
              have HX5 := Lib.hid (HX4.out.below hb5 HX4.out.lt)
              clear hb5
              rw [HDB.out]
              have HH6 := Lib.hid (HH5.out.set_ ta false)
              have HX6 : Hid (Blk (w5.setCell ⟨hb, ta, none⟩ (.bool false)) X 66 [.int .u8 nk, .int .u8 nop, .int .i64 nsl, .int .i64 nth, .bool a1_, .int .i64 a2, .int .i64 a3, .bool b1, .int .i64 b2, .int .i64 b3, .int .i64 nn, .int .i64 ne_, .int .i64 no]) := Lib.hid (HX5.out.far HXB.out (.bool false))
              obtain ⟨bq, hbq⟩ : ∃ b, (W.set ta false)[ta]? = some b := ⟨_, List.getElem?_eq_getElem (by simpa using HTL.out)⟩
              have y0 := HH5.out.cell hbq
              have yf := HH5.out.own.blk.frozen ta
              have HBQ := Lib.hid hbq
              clear hbq
              have HL6 : Hid (∀ j v, ([.int .u8 nk, .int .u8 nop, .int .i64 nsl, .int .i64 nth, .bool a1_, .int .i64 a2, .int .i64 a3, .bool b1, .int .i64 b2, .int .i64 b3, .int .i64 nn, .int .i64 ne_, .int .i64 no] : List Value)[j]? = some v → (w5.setCell ⟨hb, ta, none⟩ (.bool false)).cell? ⟨X, 0 + j, none⟩ = some v) := Lib.hid fun j v hj => by rw [Nat.zero_add, HX6.out.cell]; exact hj
              go_wp2_with (first | (refine wpList_load_at rfl 66 _ rfl X 0 rfl _ _ HL6.out Tryz.underlying66 rfl (by kernel_rfl) ?_))
              obtain ⟨W6, hW6⟩ : ∃ W6 : World, (w5.setCell ⟨hb, ta, none⟩ (.bool false)) = W6 := ⟨_, rfl⟩
              rw [hW6] at HH6 HX6 ⊢
              clear hW6 HL6 y0 yf
              refine (HSRC.out W6 HH6.out.kz).mono ?_
              rintro e w7 ⟨rfl, hb7⟩
              have HH7 := Lib.hid (HH6.out.below hb7)
              clear hb7
              rw [HSB.out]
              have HH8 := HH7
              go_wp2_with fail
              refine (dr_step HK.out.1 HK.out.2.1 (by have := HKL.out; omega) HH8.out HST.out.2.2).mono ?_
              rintro e w9 ⟨rfl, hh9⟩
              have hWe : ((W.set ta false).set ta false) = W.set ta false := by first | rfl | (simp only [List.set_set])
              rw [hWe] at hh9
              have hdr := HDI.out.step HK.out.1 HH8.out.situ HST.out.1 HST.out.2.2 HF1.out (w := false) (fun h => by cases h)
              rw [show (if stB u n1 = true then true else if drB n1 = true then false else false) = false by rw [HN1.out, HSB.out, HDB.out]; rfl] at hdr
              have HFIN := Lib.hid (And.intro (hh9.below (Below_alloc' w9 (.cells #[.int .i64 (stepD u mk (ta : Int)).thread, .int .i64 (stepD u mk (ta : Int)).node, .int .u8 (stepD u mk (ta : Int)).kind, .int .i64 (stepD u mk (ta : Int)).thing, .int .i64 (stepD u mk (ta : Int)).word, .int .i64 (stepD u mk (ta : Int)).put] 74))) hdr)
              clear hh9 hdr hWe
              go_wp2_with fail
              go_roundw
              case rel => exact ⟨k + 1, _, W.set ta false, by go_num, by omega, Lib.hid HFIN.out.1, Lib.hid HFIN.out.2⟩
              case measure => simp [intOf]; omega
          | false =>
            have HDB : Hid (drB (⟨nk, nop, nsl, nth, ⟨a1_, a2, a3⟩, ⟨b1, b2, b3⟩, nn, ne_, no⟩ : Node) = false) := Lib.hid (by rw [← HN1.out]; exact hdb)
            cases hsb : stB u n1 with
            | true =>
              have HSB : Hid (stB u (⟨nk, nop, nsl, nth, ⟨a1_, a2, a3⟩, ⟨b1, b2, b3⟩, nn, ne_, no⟩ : Node) = true) := Lib.hid (by rw [← HN1.out]; exact hsb)
              clear hdb hsb
              refine (has11_calls _ F1 (ia : Int) W3 HFW.out).mono ?_
              rintro e wz ⟨rfl, hz⟩
              subst hz
              rw [decide_eq_true HFE.out]
              have HH4 := Lib.hid (HH3.out.set_ ta false)
              have HX4 : Hid (Blk (W3.setCell ⟨hb, ta, none⟩ (.bool false)) X 66 [.int .u8 nk, .int .u8 nop, .int .i64 nsl, .int .i64 nth, .bool a1_, .int .i64 a2, .int .i64 a3, .bool b1, .int .i64 b2, .int .i64 b3, .int .i64 nn, .int .i64 ne_, .int .i64 no]) := Lib.hid (HX3.out.far HXB.out (.bool false))
              have HL4 : Hid (∀ j v, ([.int .u8 nk, .int .u8 nop, .int .i64 nsl, .int .i64 nth, .bool a1_, .int .i64 a2, .int .i64 a3, .bool b1, .int .i64 b2, .int .i64 b3, .int .i64 nn, .int .i64 ne_, .int .i64 no] : List Value)[j]? = some v → (W3.setCell ⟨hb, ta, none⟩ (.bool false)).cell? ⟨X, 0 + j, none⟩ = some v) := Lib.hid fun j v hj => by rw [Nat.zero_add, HX4.out.cell]; exact hj
              have y0 := HH3.out.cell HWT.out
              have y1 : (W3.setCell ⟨hb, ta, none⟩ (.bool false)).cell? ⟨hb, ta, none⟩ = some (.bool false) := HH4.out.cell (by rw [List.getElem?_set, if_pos rfl, if_pos HTL.out])
              have yf := HH3.out.own.blk.frozen ta
              go_wp2_with (first | (refine wpList_load_at rfl 66 _ rfl X 0 rfl _ _ HL4.out Tryz.underlying66 rfl (by kernel_rfl) ?_))
              obtain ⟨W4, hW4⟩ : ∃ W4, W3.setCell ⟨hb, ta, none⟩ (.bool false) = W4 := ⟨_, rfl⟩
              rw [hW4] at HH4 HX4 ⊢
              clear hW4 HL4 y0 y1 yf
              refine (HDRC.out W4).mono ?_
              rintro e w5 ⟨rfl, hb5⟩
              have HH5 := Lib.hid (HH4.out.below hb5)
              have HX5 := Lib.hid (HX4.out.below hb5 HX4.out.lt)
              clear hb5
              rw [HDB.out]
              have HH6 := HH5
              have HX6 := HX5
              have HL6 : Hid (∀ j v, ([.int .u8 nk, .int .u8 nop, .int .i64 nsl, .int .i64 nth, .bool a1_, .int .i64 a2, .int .i64 a3, .bool b1, .int .i64 b2, .int .i64 b3, .int .i64 nn, .int .i64 ne_, .int .i64 no] : List Value)[j]? = some v → w5.cell? ⟨X, 0 + j, none⟩ = some v) := Lib.hid fun j v hj => by rw [Nat.zero_add, HX6.out.cell]; exact hj
              go_wp2_with (first | (refine wpList_load_at rfl 66 _ rfl X 0 rfl _ _ HL6.out Tryz.underlying66 rfl (by kernel_rfl) ?_))
              obtain ⟨W6, hW6⟩ : ∃ W6 : World, w5 = W6 := ⟨_, rfl⟩
              rw [hW6] at HH6 HX6 ⊢
              clear hW6 HL6
              refine (HSRC.out W6 HH6.out.kz).mono ?_
              rintro e w7 ⟨rfl, hb7⟩
              have HH7 := Lib.hid (HH6.out.below hb7)
              clear hb7
              rw [HSB.out]
              have HH8 := Lib.hid (HH7.out.set_ ta true)
              obtain ⟨bq2, hbq2⟩ : ∃ b, (W.set ta false)[ta]? = some b := ⟨_, List.getElem?_eq_getElem (by simpa using HTL.out)⟩
              have y0 := HH7.out.cell hbq2
              have yf := HH7.out.own.blk.frozen ta
              have HBQ2 := Lib.hid hbq2
              clear hbq2
              go_wp2_with fail
              clear y0 yf
              refine (dr_step HK.out.1 HK.out.2.1 (by have := HKL.out; omega) HH8.out HST.out.2.2).mono ?_
              rintro e w9 ⟨rfl, hh9⟩
              have hWe : ((W.set ta false).set ta true) = W.set ta true := by first | rfl | (simp only [List.set_set])
              rw [hWe] at hh9
              have hdr := HDI.out.step HK.out.1 HH8.out.situ HST.out.1 HST.out.2.2 HF1.out (w := false) (fun h => by cases h)
              rw [show (if stB u n1 = true then true else if drB n1 = true then false else false) = true by rw [HN1.out, HSB.out, HDB.out]; rfl] at hdr
              have HFIN := Lib.hid (And.intro (hh9.below (Below_alloc' w9 (.cells #[.int .i64 (stepD u mk (ta : Int)).thread, .int .i64 (stepD u mk (ta : Int)).node, .int .u8 (stepD u mk (ta : Int)).kind, .int .i64 (stepD u mk (ta : Int)).thing, .int .i64 (stepD u mk (ta : Int)).word, .int .i64 (stepD u mk (ta : Int)).put] 74))) hdr)
              clear hh9 hdr hWe
              go_wp2_with fail
              go_roundw
              case rel => exact ⟨k + 1, _, W.set ta true, by go_num, by omega, Lib.hid HFIN.out.1, Lib.hid HFIN.out.2⟩
              case measure => simp [intOf]; omega
            | false =>
              have HSB : Hid (stB u (⟨nk, nop, nsl, nth, ⟨a1_, a2, a3⟩, ⟨b1, b2, b3⟩, nn, ne_, no⟩ : Node) = false) := Lib.hid (by rw [← HN1.out]; exact hsb)
              clear hdb hsb
              refine (has11_calls _ F1 (ia : Int) W3 HFW.out).mono ?_
              rintro e wz ⟨rfl, hz⟩
              subst hz
              rw [decide_eq_true HFE.out]
              have HH4 := Lib.hid (HH3.out.set_ ta false)
              have HX4 : Hid (Blk (W3.setCell ⟨hb, ta, none⟩ (.bool false)) X 66 [.int .u8 nk, .int .u8 nop, .int .i64 nsl, .int .i64 nth, .bool a1_, .int .i64 a2, .int .i64 a3, .bool b1, .int .i64 b2, .int .i64 b3, .int .i64 nn, .int .i64 ne_, .int .i64 no]) := Lib.hid (HX3.out.far HXB.out (.bool false))
              have HL4 : Hid (∀ j v, ([.int .u8 nk, .int .u8 nop, .int .i64 nsl, .int .i64 nth, .bool a1_, .int .i64 a2, .int .i64 a3, .bool b1, .int .i64 b2, .int .i64 b3, .int .i64 nn, .int .i64 ne_, .int .i64 no] : List Value)[j]? = some v → (W3.setCell ⟨hb, ta, none⟩ (.bool false)).cell? ⟨X, 0 + j, none⟩ = some v) := Lib.hid fun j v hj => by rw [Nat.zero_add, HX4.out.cell]; exact hj
              have y0 := HH3.out.cell HWT.out
              have y1 : (W3.setCell ⟨hb, ta, none⟩ (.bool false)).cell? ⟨hb, ta, none⟩ = some (.bool false) := HH4.out.cell (by rw [List.getElem?_set, if_pos rfl, if_pos HTL.out])
              have yf := HH3.out.own.blk.frozen ta
              go_wp2_with (first | (refine wpList_load_at rfl 66 _ rfl X 0 rfl _ _ HL4.out Tryz.underlying66 rfl (by kernel_rfl) ?_))
              obtain ⟨W4, hW4⟩ : ∃ W4, W3.setCell ⟨hb, ta, none⟩ (.bool false) = W4 := ⟨_, rfl⟩
              rw [hW4] at HH4 HX4 ⊢
              clear hW4 HL4 y0 y1 yf
              refine (HDRC.out W4).mono ?_
              rintro e w5 ⟨rfl, hb5⟩
              have HH5 := Lib.hid (HH4.out.below hb5)
              have HX5 := Lib.hid (HX4.out.below hb5 HX4.out.lt)
              clear hb5
              rw [HDB.out]
              have HH6 := HH5
              have HX6 := HX5
              have HL6 : Hid (∀ j v, ([.int .u8 nk, .int .u8 nop, .int .i64 nsl, .int .i64 nth, .bool a1_, .int .i64 a2, .int .i64 a3, .bool b1, .int .i64 b2, .int .i64 b3, .int .i64 nn, .int .i64 ne_, .int .i64 no] : List Value)[j]? = some v → w5.cell? ⟨X, 0 + j, none⟩ = some v) := Lib.hid fun j v hj => by rw [Nat.zero_add, HX6.out.cell]; exact hj
              go_wp2_with (first | (refine wpList_load_at rfl 66 _ rfl X 0 rfl _ _ HL6.out Tryz.underlying66 rfl (by kernel_rfl) ?_))
              obtain ⟨W6, hW6⟩ : ∃ W6 : World, w5 = W6 := ⟨_, rfl⟩
              rw [hW6] at HH6 HX6 ⊢
              clear hW6 HL6
              refine (HSRC.out W6 HH6.out.kz).mono ?_
              rintro e w7 ⟨rfl, hb7⟩
              have HH7 := Lib.hid (HH6.out.below hb7)
              clear hb7
              rw [HSB.out]
              have HH8 := HH7
              go_wp2_with fail
              refine (dr_step HK.out.1 HK.out.2.1 (by have := HKL.out; omega) HH8.out HST.out.2.2).mono ?_
              rintro e w9 ⟨rfl, hh9⟩
              have hWe : (W.set ta false) = W.set ta false := by first | rfl | (simp only [List.set_set])
              rw [hWe] at hh9
              have hdr := HDI.out.step HK.out.1 HH8.out.situ HST.out.1 HST.out.2.2 HF1.out (w := false) (fun h => by cases h)
              rw [show (if stB u n1 = true then true else if drB n1 = true then false else false) = false by rw [HN1.out, HSB.out, HDB.out]; rfl] at hdr
              have HFIN := Lib.hid (And.intro (hh9.below (Below_alloc' w9 (.cells #[.int .i64 (stepD u mk (ta : Int)).thread, .int .i64 (stepD u mk (ta : Int)).node, .int .u8 (stepD u mk (ta : Int)).kind, .int .i64 (stepD u mk (ta : Int)).thing, .int .i64 (stepD u mk (ta : Int)).word, .int .i64 (stepD u mk (ta : Int)).put] 74))) hdr)
              clear hh9 hdr hWe
              go_wp2_with fail
              go_roundw
              case rel => exact ⟨k + 1, _, W.set ta false, by go_num, by omega, Lib.hid HFIN.out.1, Lib.hid HFIN.out.2⟩
              case measure => simp [intOf]; omega
        · have HFE := Lib.hid hfe
          clear hfe
          cases wb with
          | true =>
            obtain ⟨pb, po, pc, HOP⟩ := HOPN.out HWT.out HFE.out
            cases hdb : drB n1 with
            | true =>
              have HDB : Hid (drB (⟨nk, nop, nsl, nth, ⟨a1_, a2, a3⟩, ⟨b1, b2, b3⟩, nn, ne_, no⟩ : Node) = true) := Lib.hid (by rw [← HN1.out]; exact hdb)
              cases hsb : stB u n1 with
              | true =>
                have HSB : Hid (stB u (⟨nk, nop, nsl, nth, ⟨a1_, a2, a3⟩, ⟨b1, b2, b3⟩, nn, ne_, no⟩ : Node) = true) := Lib.hid (by rw [← HN1.out]; exact hsb)
                clear hdb hsb
                refine (has11_calls _ F1 (ia : Int) W3 HFW.out).mono ?_
                rintro e wz ⟨rfl, hz⟩
                subst hz
                rw [decide_eq_false HFE.out]
                have HL4 : Hid (∀ j v, ([.int .u8 nk, .int .u8 nop, .int .i64 nsl, .int .i64 nth, .bool a1_, .int .i64 a2, .int .i64 a3, .bool b1, .int .i64 b2, .int .i64 b3, .int .i64 nn, .int .i64 ne_, .int .i64 no] : List Value)[j]? = some v → W3.cell? ⟨X, 0 + j, none⟩ = some v) := Lib.hid fun j v hj => by rw [Nat.zero_add, HX3.out.cell]; exact hj
                have y0 := HH3.out.cell HWT.out
                have y2 : W3.cell? ⟨ob, oo + ta, none⟩ = some (.slice (some ⟨pb, po, none⟩) g1.nodes.length pc) := (on_at (HH3.out.kz _ _ _ HOP.out.1)).1
                have y3 : W3.cell? ⟨pb, po + ia, none⟩ = some (.bool true) := (on_at (HH3.out.kz _ _ _ HOP.out.2)).1
                go_wp2_with (first | (refine wpList_load_at rfl 66 _ rfl X 0 rfl _ _ HL4.out Tryz.underlying66 rfl (by kernel_rfl) ?_))
                obtain ⟨W4, hW4⟩ : ∃ W4 : World, W4 = W3 := ⟨_, rfl⟩
                have HH4 : Hid (DrAt w w4 W4 R g L1 u Z hb k mk W) := by rw [hW4]; exact HH3
                have HX4 : Hid (Blk W4 X 66 [.int .u8 nk, .int .u8 nop, .int .i64 nsl, .int .i64 nth, .bool a1_, .int .i64 a2, .int .i64 a3, .bool b1, .int .i64 b2, .int .i64 b3, .int .i64 nn, .int .i64 ne_, .int .i64 no]) := by rw [hW4]; exact HX3
                rw [← hW4]
                clear hW4 HL4 y0 y2 y3
                refine (HDRC.out W4).mono ?_
                rintro e w5 ⟨rfl, hb5⟩
                have HH5 := Lib.hid (HH4.out.below hb5)
                have HX5 := Lib.hid (HX4.out.below hb5 HX4.out.lt)
                clear hb5
                rw [HDB.out]
                have HH6 := Lib.hid (HH5.out.set_ ta false)
                have HX6 : Hid (Blk (w5.setCell ⟨hb, ta, none⟩ (.bool false)) X 66 [.int .u8 nk, .int .u8 nop, .int .i64 nsl, .int .i64 nth, .bool a1_, .int .i64 a2, .int .i64 a3, .bool b1, .int .i64 b2, .int .i64 b3, .int .i64 nn, .int .i64 ne_, .int .i64 no]) := Lib.hid (HX5.out.far HXB.out (.bool false))
                obtain ⟨bq, hbq⟩ : ∃ b, W[ta]? = some b := ⟨_, List.getElem?_eq_getElem (by simpa using HTL.out)⟩
                have y0 := HH5.out.cell hbq
                have yf := HH5.out.own.blk.frozen ta
                have HBQ := Lib.hid hbq
                clear hbq
                have HL6 : Hid (∀ j v, ([.int .u8 nk, .int .u8 nop, .int .i64 nsl, .int .i64 nth, .bool a1_, .int .i64 a2, .int .i64 a3, .bool b1, .int .i64 b2, .int .i64 b3, .int .i64 nn, .int .i64 ne_, .int .i64 no] : List Value)[j]? = some v → (w5.setCell ⟨hb, ta, none⟩ (.bool false)).cell? ⟨X, 0 + j, none⟩ = some v) := Lib.hid fun j v hj => by rw [Nat.zero_add, HX6.out.cell]; exact hj
                go_wp2_with (first | (refine wpList_load_at rfl 66 _ rfl X 0 rfl _ _ HL6.out Tryz.underlying66 rfl (by kernel_rfl) ?_))
                obtain ⟨W6, hW6⟩ : ∃ W6 : World, (w5.setCell ⟨hb, ta, none⟩ (.bool false)) = W6 := ⟨_, rfl⟩
                rw [hW6] at HH6 HX6 ⊢
                clear hW6 HL6 y0 yf
                refine (HSRC.out W6 HH6.out.kz).mono ?_
                rintro e w7 ⟨rfl, hb7⟩
                have HH7 := Lib.hid (HH6.out.below hb7)
                clear hb7
                rw [HSB.out]
                have HH8 := Lib.hid (HH7.out.set_ ta true)
                obtain ⟨bq2, hbq2⟩ : ∃ b, (W.set ta false)[ta]? = some b := ⟨_, List.getElem?_eq_getElem (by simpa using HTL.out)⟩
                have y0 := HH7.out.cell hbq2
                have yf := HH7.out.own.blk.frozen ta
                have HBQ2 := Lib.hid hbq2
                clear hbq2
                go_wp2_with fail
                clear y0 yf
                refine (dr_step HK.out.1 HK.out.2.1 (by have := HKL.out; omega) HH8.out HST.out.2.2).mono ?_
                rintro e w9 ⟨rfl, hh9⟩
                have hWe : ((W.set ta false).set ta true) = W.set ta true := by first | rfl | (simp only [List.set_set])
                rw [hWe] at hh9
                have hdr := HDI.out.step HK.out.1 HH8.out.situ HST.out.1 HST.out.2.2 HF1.out (w := true) (fun _ => ⟨HWT.out, HFE.out⟩)
                rw [show (if stB u n1 = true then true else if drB n1 = true then false else true) = true by rw [HN1.out, HSB.out, HDB.out]; rfl] at hdr
                have HFIN := Lib.hid (And.intro (hh9.below (Below_alloc' w9 (.cells #[.int .i64 (stepD u mk (ta : Int)).thread, .int .i64 (stepD u mk (ta : Int)).node, .int .u8 (stepD u mk (ta : Int)).kind, .int .i64 (stepD u mk (ta : Int)).thing, .int .i64 (stepD u mk (ta : Int)).word, .int .i64 (stepD u mk (ta : Int)).put] 74))) hdr)
                clear hh9 hdr hWe
                go_wp2_with fail
                go_roundw
                case rel => exact ⟨k + 1, _, W.set ta true, by go_num, by omega, Lib.hid HFIN.out.1, Lib.hid HFIN.out.2⟩
                case measure => simp [intOf]; omega
              | false =>
                have HSB : Hid (stB u (⟨nk, nop, nsl, nth, ⟨a1_, a2, a3⟩, ⟨b1, b2, b3⟩, nn, ne_, no⟩ : Node) = false) := Lib.hid (by rw [← HN1.out]; exact hsb)
                clear hdb hsb
                refine (has11_calls _ F1 (ia : Int) W3 HFW.out).mono ?_
                rintro e wz ⟨rfl, hz⟩
                subst hz
                rw [decide_eq_false HFE.out]
                have HL4 : Hid (∀ j v, ([.int .u8 nk, .int .u8 nop, .int .i64 nsl, .int .i64 nth, .bool a1_, .int .i64 a2, .int .i64 a3, .bool b1, .int .i64 b2, .int .i64 b3, .int .i64 nn, .int .i64 ne_, .int .i64 no] : List Value)[j]? = some v → W3.cell? ⟨X, 0 + j, none⟩ = some v) := Lib.hid fun j v hj => by rw [Nat.zero_add, HX3.out.cell]; exact hj
                have y0 := HH3.out.cell HWT.out
                have y2 : W3.cell? ⟨ob, oo + ta, none⟩ = some (.slice (some ⟨pb, po, none⟩) g1.nodes.length pc) := (on_at (HH3.out.kz _ _ _ HOP.out.1)).1
                have y3 : W3.cell? ⟨pb, po + ia, none⟩ = some (.bool true) := (on_at (HH3.out.kz _ _ _ HOP.out.2)).1
                go_wp2_with (first | (refine wpList_load_at rfl 66 _ rfl X 0 rfl _ _ HL4.out Tryz.underlying66 rfl (by kernel_rfl) ?_))
                obtain ⟨W4, hW4⟩ : ∃ W4 : World, W4 = W3 := ⟨_, rfl⟩
                have HH4 : Hid (DrAt w w4 W4 R g L1 u Z hb k mk W) := by rw [hW4]; exact HH3
                have HX4 : Hid (Blk W4 X 66 [.int .u8 nk, .int .u8 nop, .int .i64 nsl, .int .i64 nth, .bool a1_, .int .i64 a2, .int .i64 a3, .bool b1, .int .i64 b2, .int .i64 b3, .int .i64 nn, .int .i64 ne_, .int .i64 no]) := by rw [hW4]; exact HX3
                rw [← hW4]
                clear hW4 HL4 y0 y2 y3
                refine (HDRC.out W4).mono ?_
                rintro e w5 ⟨rfl, hb5⟩
                have HH5 := Lib.hid (HH4.out.below hb5)
                have HX5 := Lib.hid (HX4.out.below hb5 HX4.out.lt)
                clear hb5
                rw [HDB.out]
                have HH6 := Lib.hid (HH5.out.set_ ta false)
                have HX6 : Hid (Blk (w5.setCell ⟨hb, ta, none⟩ (.bool false)) X 66 [.int .u8 nk, .int .u8 nop, .int .i64 nsl, .int .i64 nth, .bool a1_, .int .i64 a2, .int .i64 a3, .bool b1, .int .i64 b2, .int .i64 b3, .int .i64 nn, .int .i64 ne_, .int .i64 no]) := Lib.hid (HX5.out.far HXB.out (.bool false))
                obtain ⟨bq, hbq⟩ : ∃ b, W[ta]? = some b := ⟨_, List.getElem?_eq_getElem (by simpa using HTL.out)⟩
                have y0 := HH5.out.cell hbq
                have yf := HH5.out.own.blk.frozen ta
                have HBQ := Lib.hid hbq
                clear hbq
                have HL6 : Hid (∀ j v, ([.int .u8 nk, .int .u8 nop, .int .i64 nsl, .int .i64 nth, .bool a1_, .int .i64 a2, .int .i64 a3, .bool b1, .int .i64 b2, .int .i64 b3, .int .i64 nn, .int .i64 ne_, .int .i64 no] : List Value)[j]? = some v → (w5.setCell ⟨hb, ta, none⟩ (.bool false)).cell? ⟨X, 0 + j, none⟩ = some v) := Lib.hid fun j v hj => by rw [Nat.zero_add, HX6.out.cell]; exact hj
                go_wp2_with (first | (refine wpList_load_at rfl 66 _ rfl X 0 rfl _ _ HL6.out Tryz.underlying66 rfl (by kernel_rfl) ?_))
                obtain ⟨W6, hW6⟩ : ∃ W6 : World, (w5.setCell ⟨hb, ta, none⟩ (.bool false)) = W6 := ⟨_, rfl⟩
                rw [hW6] at HH6 HX6 ⊢
                clear hW6 HL6 y0 yf
                refine (HSRC.out W6 HH6.out.kz).mono ?_
                rintro e w7 ⟨rfl, hb7⟩
                have HH7 := Lib.hid (HH6.out.below hb7)
                clear hb7
                rw [HSB.out]
                have HH8 := HH7
                go_wp2_with fail
                refine (dr_step HK.out.1 HK.out.2.1 (by have := HKL.out; omega) HH8.out HST.out.2.2).mono ?_
                rintro e w9 ⟨rfl, hh9⟩
                have hWe : (W.set ta false) = W.set ta false := by first | rfl | (simp only [List.set_set])
                rw [hWe] at hh9
                have hdr := HDI.out.step HK.out.1 HH8.out.situ HST.out.1 HST.out.2.2 HF1.out (w := true) (fun _ => ⟨HWT.out, HFE.out⟩)
                rw [show (if stB u n1 = true then true else if drB n1 = true then false else true) = false by rw [HN1.out, HSB.out, HDB.out]; rfl] at hdr
                have HFIN := Lib.hid (And.intro (hh9.below (Below_alloc' w9 (.cells #[.int .i64 (stepD u mk (ta : Int)).thread, .int .i64 (stepD u mk (ta : Int)).node, .int .u8 (stepD u mk (ta : Int)).kind, .int .i64 (stepD u mk (ta : Int)).thing, .int .i64 (stepD u mk (ta : Int)).word, .int .i64 (stepD u mk (ta : Int)).put] 74))) hdr)
                clear hh9 hdr hWe
                go_wp2_with fail
                go_roundw
                case rel => exact ⟨k + 1, _, W.set ta false, by go_num, by omega, Lib.hid HFIN.out.1, Lib.hid HFIN.out.2⟩
                case measure => simp [intOf]; omega
            | false =>
              have HDB : Hid (drB (⟨nk, nop, nsl, nth, ⟨a1_, a2, a3⟩, ⟨b1, b2, b3⟩, nn, ne_, no⟩ : Node) = false) := Lib.hid (by rw [← HN1.out]; exact hdb)
              cases hsb : stB u n1 with
              | true =>
                have HSB : Hid (stB u (⟨nk, nop, nsl, nth, ⟨a1_, a2, a3⟩, ⟨b1, b2, b3⟩, nn, ne_, no⟩ : Node) = true) := Lib.hid (by rw [← HN1.out]; exact hsb)
                clear hdb hsb
                refine (has11_calls _ F1 (ia : Int) W3 HFW.out).mono ?_
                rintro e wz ⟨rfl, hz⟩
                subst hz
                rw [decide_eq_false HFE.out]
                have HL4 : Hid (∀ j v, ([.int .u8 nk, .int .u8 nop, .int .i64 nsl, .int .i64 nth, .bool a1_, .int .i64 a2, .int .i64 a3, .bool b1, .int .i64 b2, .int .i64 b3, .int .i64 nn, .int .i64 ne_, .int .i64 no] : List Value)[j]? = some v → W3.cell? ⟨X, 0 + j, none⟩ = some v) := Lib.hid fun j v hj => by rw [Nat.zero_add, HX3.out.cell]; exact hj
                have y0 := HH3.out.cell HWT.out
                have y2 : W3.cell? ⟨ob, oo + ta, none⟩ = some (.slice (some ⟨pb, po, none⟩) g1.nodes.length pc) := (on_at (HH3.out.kz _ _ _ HOP.out.1)).1
                have y3 : W3.cell? ⟨pb, po + ia, none⟩ = some (.bool true) := (on_at (HH3.out.kz _ _ _ HOP.out.2)).1
                go_wp2_with (first | (refine wpList_load_at rfl 66 _ rfl X 0 rfl _ _ HL4.out Tryz.underlying66 rfl (by kernel_rfl) ?_))
                obtain ⟨W4, hW4⟩ : ∃ W4 : World, W4 = W3 := ⟨_, rfl⟩
                have HH4 : Hid (DrAt w w4 W4 R g L1 u Z hb k mk W) := by rw [hW4]; exact HH3
                have HX4 : Hid (Blk W4 X 66 [.int .u8 nk, .int .u8 nop, .int .i64 nsl, .int .i64 nth, .bool a1_, .int .i64 a2, .int .i64 a3, .bool b1, .int .i64 b2, .int .i64 b3, .int .i64 nn, .int .i64 ne_, .int .i64 no]) := by rw [hW4]; exact HX3
                rw [← hW4]
                clear hW4 HL4 y0 y2 y3
                refine (HDRC.out W4).mono ?_
                rintro e w5 ⟨rfl, hb5⟩
                have HH5 := Lib.hid (HH4.out.below hb5)
                have HX5 := Lib.hid (HX4.out.below hb5 HX4.out.lt)
                clear hb5
                rw [HDB.out]
                have HH6 := HH5
                have HX6 := HX5
                have HL6 : Hid (∀ j v, ([.int .u8 nk, .int .u8 nop, .int .i64 nsl, .int .i64 nth, .bool a1_, .int .i64 a2, .int .i64 a3, .bool b1, .int .i64 b2, .int .i64 b3, .int .i64 nn, .int .i64 ne_, .int .i64 no] : List Value)[j]? = some v → w5.cell? ⟨X, 0 + j, none⟩ = some v) := Lib.hid fun j v hj => by rw [Nat.zero_add, HX6.out.cell]; exact hj
                go_wp2_with (first | (refine wpList_load_at rfl 66 _ rfl X 0 rfl _ _ HL6.out Tryz.underlying66 rfl (by kernel_rfl) ?_))
                obtain ⟨W6, hW6⟩ : ∃ W6 : World, w5 = W6 := ⟨_, rfl⟩
                rw [hW6] at HH6 HX6 ⊢
                clear hW6 HL6
                refine (HSRC.out W6 HH6.out.kz).mono ?_
                rintro e w7 ⟨rfl, hb7⟩
                have HH7 := Lib.hid (HH6.out.below hb7)
                clear hb7
                rw [HSB.out]
                have HH8 := Lib.hid (HH7.out.set_ ta true)
                obtain ⟨bq2, hbq2⟩ : ∃ b, W[ta]? = some b := ⟨_, List.getElem?_eq_getElem (by simpa using HTL.out)⟩
                have y0 := HH7.out.cell hbq2
                have yf := HH7.out.own.blk.frozen ta
                have HBQ2 := Lib.hid hbq2
                clear hbq2
                go_wp2_with fail
                clear y0 yf
                refine (dr_step HK.out.1 HK.out.2.1 (by have := HKL.out; omega) HH8.out HST.out.2.2).mono ?_
                rintro e w9 ⟨rfl, hh9⟩
                have hWe : (W.set ta true) = W.set ta true := by first | rfl | (simp only [List.set_set])
                rw [hWe] at hh9
                have hdr := HDI.out.step HK.out.1 HH8.out.situ HST.out.1 HST.out.2.2 HF1.out (w := true) (fun _ => ⟨HWT.out, HFE.out⟩)
                rw [show (if stB u n1 = true then true else if drB n1 = true then false else true) = true by rw [HN1.out, HSB.out, HDB.out]; rfl] at hdr
                have HFIN := Lib.hid (And.intro (hh9.below (Below_alloc' w9 (.cells #[.int .i64 (stepD u mk (ta : Int)).thread, .int .i64 (stepD u mk (ta : Int)).node, .int .u8 (stepD u mk (ta : Int)).kind, .int .i64 (stepD u mk (ta : Int)).thing, .int .i64 (stepD u mk (ta : Int)).word, .int .i64 (stepD u mk (ta : Int)).put] 74))) hdr)
                clear hh9 hdr hWe
                go_wp2_with fail
                go_roundw
                case rel => exact ⟨k + 1, _, W.set ta true, by go_num, by omega, Lib.hid HFIN.out.1, Lib.hid HFIN.out.2⟩
                case measure => simp [intOf]; omega
              | false =>
                have HSB : Hid (stB u (⟨nk, nop, nsl, nth, ⟨a1_, a2, a3⟩, ⟨b1, b2, b3⟩, nn, ne_, no⟩ : Node) = false) := Lib.hid (by rw [← HN1.out]; exact hsb)
                clear hdb hsb
                refine (has11_calls _ F1 (ia : Int) W3 HFW.out).mono ?_
                rintro e wz ⟨rfl, hz⟩
                subst hz
                rw [decide_eq_false HFE.out]
                have HL4 : Hid (∀ j v, ([.int .u8 nk, .int .u8 nop, .int .i64 nsl, .int .i64 nth, .bool a1_, .int .i64 a2, .int .i64 a3, .bool b1, .int .i64 b2, .int .i64 b3, .int .i64 nn, .int .i64 ne_, .int .i64 no] : List Value)[j]? = some v → W3.cell? ⟨X, 0 + j, none⟩ = some v) := Lib.hid fun j v hj => by rw [Nat.zero_add, HX3.out.cell]; exact hj
                have y0 := HH3.out.cell HWT.out
                have y2 : W3.cell? ⟨ob, oo + ta, none⟩ = some (.slice (some ⟨pb, po, none⟩) g1.nodes.length pc) := (on_at (HH3.out.kz _ _ _ HOP.out.1)).1
                have y3 : W3.cell? ⟨pb, po + ia, none⟩ = some (.bool true) := (on_at (HH3.out.kz _ _ _ HOP.out.2)).1
                go_wp2_with (first | (refine wpList_load_at rfl 66 _ rfl X 0 rfl _ _ HL4.out Tryz.underlying66 rfl (by kernel_rfl) ?_))
                obtain ⟨W4, hW4⟩ : ∃ W4 : World, W4 = W3 := ⟨_, rfl⟩
                have HH4 : Hid (DrAt w w4 W4 R g L1 u Z hb k mk W) := by rw [hW4]; exact HH3
                have HX4 : Hid (Blk W4 X 66 [.int .u8 nk, .int .u8 nop, .int .i64 nsl, .int .i64 nth, .bool a1_, .int .i64 a2, .int .i64 a3, .bool b1, .int .i64 b2, .int .i64 b3, .int .i64 nn, .int .i64 ne_, .int .i64 no]) := by rw [hW4]; exact HX3
                rw [← hW4]
                clear hW4 HL4 y0 y2 y3
                refine (HDRC.out W4).mono ?_
                rintro e w5 ⟨rfl, hb5⟩
                have HH5 := Lib.hid (HH4.out.below hb5)
                have HX5 := Lib.hid (HX4.out.below hb5 HX4.out.lt)
                clear hb5
                rw [HDB.out]
                have HH6 := HH5
                have HX6 := HX5
                have HL6 : Hid (∀ j v, ([.int .u8 nk, .int .u8 nop, .int .i64 nsl, .int .i64 nth, .bool a1_, .int .i64 a2, .int .i64 a3, .bool b1, .int .i64 b2, .int .i64 b3, .int .i64 nn, .int .i64 ne_, .int .i64 no] : List Value)[j]? = some v → w5.cell? ⟨X, 0 + j, none⟩ = some v) := Lib.hid fun j v hj => by rw [Nat.zero_add, HX6.out.cell]; exact hj
                go_wp2_with (first | (refine wpList_load_at rfl 66 _ rfl X 0 rfl _ _ HL6.out Tryz.underlying66 rfl (by kernel_rfl) ?_))
                obtain ⟨W6, hW6⟩ : ∃ W6 : World, w5 = W6 := ⟨_, rfl⟩
                rw [hW6] at HH6 HX6 ⊢
                clear hW6 HL6
                refine (HSRC.out W6 HH6.out.kz).mono ?_
                rintro e w7 ⟨rfl, hb7⟩
                have HH7 := Lib.hid (HH6.out.below hb7)
                clear hb7
                rw [HSB.out]
                have HH8 := HH7
                go_wp2_with fail
                refine (dr_step HK.out.1 HK.out.2.1 (by have := HKL.out; omega) HH8.out HST.out.2.2).mono ?_
                rintro e w9 ⟨rfl, hh9⟩
                have hWe : W = W.set ta true := by exact (set_self HWT.out).symm
                rw [hWe] at hh9
                have hdr := HDI.out.step HK.out.1 HH8.out.situ HST.out.1 HST.out.2.2 HF1.out (w := true) (fun _ => ⟨HWT.out, HFE.out⟩)
                rw [show (if stB u n1 = true then true else if drB n1 = true then false else true) = true by rw [HN1.out, HSB.out, HDB.out]; rfl] at hdr
                have HFIN := Lib.hid (And.intro (hh9.below (Below_alloc' w9 (.cells #[.int .i64 (stepD u mk (ta : Int)).thread, .int .i64 (stepD u mk (ta : Int)).node, .int .u8 (stepD u mk (ta : Int)).kind, .int .i64 (stepD u mk (ta : Int)).thing, .int .i64 (stepD u mk (ta : Int)).word, .int .i64 (stepD u mk (ta : Int)).put] 74))) hdr)
                clear hh9 hdr hWe
                go_wp2_with fail
                go_roundw
                case rel => exact ⟨k + 1, _, W.set ta true, by go_num, by omega, Lib.hid HFIN.out.1, Lib.hid HFIN.out.2⟩
                case measure => simp [intOf]; omega
          | false =>
            cases hdb : drB n1 with
            | true =>
              have HDB : Hid (drB (⟨nk, nop, nsl, nth, ⟨a1_, a2, a3⟩, ⟨b1, b2, b3⟩, nn, ne_, no⟩ : Node) = true) := Lib.hid (by rw [← HN1.out]; exact hdb)
              cases hsb : stB u n1 with
              | true =>
                have HSB : Hid (stB u (⟨nk, nop, nsl, nth, ⟨a1_, a2, a3⟩, ⟨b1, b2, b3⟩, nn, ne_, no⟩ : Node) = true) := Lib.hid (by rw [← HN1.out]; exact hsb)
                clear hdb hsb
                refine (has11_calls _ F1 (ia : Int) W3 HFW.out).mono ?_
                rintro e wz ⟨rfl, hz⟩
                subst hz
                rw [decide_eq_false HFE.out]
                have HL4 : Hid (∀ j v, ([.int .u8 nk, .int .u8 nop, .int .i64 nsl, .int .i64 nth, .bool a1_, .int .i64 a2, .int .i64 a3, .bool b1, .int .i64 b2, .int .i64 b3, .int .i64 nn, .int .i64 ne_, .int .i64 no] : List Value)[j]? = some v → W3.cell? ⟨X, 0 + j, none⟩ = some v) := Lib.hid fun j v hj => by rw [Nat.zero_add, HX3.out.cell]; exact hj
                have y0 := HH3.out.cell HWT.out
                go_wp2_with (first | (refine wpList_load_at rfl 66 _ rfl X 0 rfl _ _ HL4.out Tryz.underlying66 rfl (by kernel_rfl) ?_))
                obtain ⟨W4, hW4⟩ : ∃ W4 : World, W4 = W3 := ⟨_, rfl⟩
                have HH4 : Hid (DrAt w w4 W4 R g L1 u Z hb k mk W) := by rw [hW4]; exact HH3
                have HX4 : Hid (Blk W4 X 66 [.int .u8 nk, .int .u8 nop, .int .i64 nsl, .int .i64 nth, .bool a1_, .int .i64 a2, .int .i64 a3, .bool b1, .int .i64 b2, .int .i64 b3, .int .i64 nn, .int .i64 ne_, .int .i64 no]) := by rw [hW4]; exact HX3
                rw [← hW4]
                clear hW4 HL4 y0
                refine (HDRC.out W4).mono ?_
                rintro e w5 ⟨rfl, hb5⟩
                have HH5 := Lib.hid (HH4.out.below hb5)
                have HX5 := Lib.hid (HX4.out.below hb5 HX4.out.lt)
                clear hb5
                rw [HDB.out]
                have HH6 := Lib.hid (HH5.out.set_ ta false)
                have HX6 : Hid (Blk (w5.setCell ⟨hb, ta, none⟩ (.bool false)) X 66 [.int .u8 nk, .int .u8 nop, .int .i64 nsl, .int .i64 nth, .bool a1_, .int .i64 a2, .int .i64 a3, .bool b1, .int .i64 b2, .int .i64 b3, .int .i64 nn, .int .i64 ne_, .int .i64 no]) := Lib.hid (HX5.out.far HXB.out (.bool false))
                obtain ⟨bq, hbq⟩ : ∃ b, W[ta]? = some b := ⟨_, List.getElem?_eq_getElem (by simpa using HTL.out)⟩
                have y0 := HH5.out.cell hbq
                have yf := HH5.out.own.blk.frozen ta
                have HBQ := Lib.hid hbq
                clear hbq
                have HL6 : Hid (∀ j v, ([.int .u8 nk, .int .u8 nop, .int .i64 nsl, .int .i64 nth, .bool a1_, .int .i64 a2, .int .i64 a3, .bool b1, .int .i64 b2, .int .i64 b3, .int .i64 nn, .int .i64 ne_, .int .i64 no] : List Value)[j]? = some v → (w5.setCell ⟨hb, ta, none⟩ (.bool false)).cell? ⟨X, 0 + j, none⟩ = some v) := Lib.hid fun j v hj => by rw [Nat.zero_add, HX6.out.cell]; exact hj
                go_wp2_with (first | (refine wpList_load_at rfl 66 _ rfl X 0 rfl _ _ HL6.out Tryz.underlying66 rfl (by kernel_rfl) ?_))
                obtain ⟨W6, hW6⟩ : ∃ W6 : World, (w5.setCell ⟨hb, ta, none⟩ (.bool false)) = W6 := ⟨_, rfl⟩
                rw [hW6] at HH6 HX6 ⊢
                clear hW6 HL6 y0 yf
                refine (HSRC.out W6 HH6.out.kz).mono ?_
                rintro e w7 ⟨rfl, hb7⟩
                have HH7 := Lib.hid (HH6.out.below hb7)
                clear hb7
                rw [HSB.out]
                have HH8 := Lib.hid (HH7.out.set_ ta true)
                obtain ⟨bq2, hbq2⟩ : ∃ b, (W.set ta false)[ta]? = some b := ⟨_, List.getElem?_eq_getElem (by simpa using HTL.out)⟩
                have y0 := HH7.out.cell hbq2
                have yf := HH7.out.own.blk.frozen ta
                have HBQ2 := Lib.hid hbq2
                clear hbq2
                go_wp2_with fail
                clear y0 yf
                refine (dr_step HK.out.1 HK.out.2.1 (by have := HKL.out; omega) HH8.out HST.out.2.2).mono ?_
                rintro e w9 ⟨rfl, hh9⟩
                have hWe : ((W.set ta false).set ta true) = W.set ta true := by first | rfl | (simp only [List.set_set])
                rw [hWe] at hh9
                have hdr := HDI.out.step HK.out.1 HH8.out.situ HST.out.1 HST.out.2.2 HF1.out (w := false) (fun h => by cases h)
                rw [show (if stB u n1 = true then true else if drB n1 = true then false else false) = true by rw [HN1.out, HSB.out, HDB.out]; rfl] at hdr
                have HFIN := Lib.hid (And.intro (hh9.below (Below_alloc' w9 (.cells #[.int .i64 (stepD u mk (ta : Int)).thread, .int .i64 (stepD u mk (ta : Int)).node, .int .u8 (stepD u mk (ta : Int)).kind, .int .i64 (stepD u mk (ta : Int)).thing, .int .i64 (stepD u mk (ta : Int)).word, .int .i64 (stepD u mk (ta : Int)).put] 74))) hdr)
                clear hh9 hdr hWe
                go_wp2_with fail
                go_roundw
                case rel => exact ⟨k + 1, _, W.set ta true, by go_num, by omega, Lib.hid HFIN.out.1, Lib.hid HFIN.out.2⟩
                case measure => simp [intOf]; omega
              | false =>
                have HSB : Hid (stB u (⟨nk, nop, nsl, nth, ⟨a1_, a2, a3⟩, ⟨b1, b2, b3⟩, nn, ne_, no⟩ : Node) = false) := Lib.hid (by rw [← HN1.out]; exact hsb)
                clear hdb hsb
                refine (has11_calls _ F1 (ia : Int) W3 HFW.out).mono ?_
                rintro e wz ⟨rfl, hz⟩
                subst hz
                rw [decide_eq_false HFE.out]
                have HL4 : Hid (∀ j v, ([.int .u8 nk, .int .u8 nop, .int .i64 nsl, .int .i64 nth, .bool a1_, .int .i64 a2, .int .i64 a3, .bool b1, .int .i64 b2, .int .i64 b3, .int .i64 nn, .int .i64 ne_, .int .i64 no] : List Value)[j]? = some v → W3.cell? ⟨X, 0 + j, none⟩ = some v) := Lib.hid fun j v hj => by rw [Nat.zero_add, HX3.out.cell]; exact hj
                have y0 := HH3.out.cell HWT.out
                go_wp2_with (first | (refine wpList_load_at rfl 66 _ rfl X 0 rfl _ _ HL4.out Tryz.underlying66 rfl (by kernel_rfl) ?_))
                obtain ⟨W4, hW4⟩ : ∃ W4 : World, W4 = W3 := ⟨_, rfl⟩
                have HH4 : Hid (DrAt w w4 W4 R g L1 u Z hb k mk W) := by rw [hW4]; exact HH3
                have HX4 : Hid (Blk W4 X 66 [.int .u8 nk, .int .u8 nop, .int .i64 nsl, .int .i64 nth, .bool a1_, .int .i64 a2, .int .i64 a3, .bool b1, .int .i64 b2, .int .i64 b3, .int .i64 nn, .int .i64 ne_, .int .i64 no]) := by rw [hW4]; exact HX3
                rw [← hW4]
                clear hW4 HL4 y0
                refine (HDRC.out W4).mono ?_
                rintro e w5 ⟨rfl, hb5⟩
                have HH5 := Lib.hid (HH4.out.below hb5)
                have HX5 := Lib.hid (HX4.out.below hb5 HX4.out.lt)
                clear hb5
                rw [HDB.out]
                have HH6 := Lib.hid (HH5.out.set_ ta false)
                have HX6 : Hid (Blk (w5.setCell ⟨hb, ta, none⟩ (.bool false)) X 66 [.int .u8 nk, .int .u8 nop, .int .i64 nsl, .int .i64 nth, .bool a1_, .int .i64 a2, .int .i64 a3, .bool b1, .int .i64 b2, .int .i64 b3, .int .i64 nn, .int .i64 ne_, .int .i64 no]) := Lib.hid (HX5.out.far HXB.out (.bool false))
                obtain ⟨bq, hbq⟩ : ∃ b, W[ta]? = some b := ⟨_, List.getElem?_eq_getElem (by simpa using HTL.out)⟩
                have y0 := HH5.out.cell hbq
                have yf := HH5.out.own.blk.frozen ta
                have HBQ := Lib.hid hbq
                clear hbq
                have HL6 : Hid (∀ j v, ([.int .u8 nk, .int .u8 nop, .int .i64 nsl, .int .i64 nth, .bool a1_, .int .i64 a2, .int .i64 a3, .bool b1, .int .i64 b2, .int .i64 b3, .int .i64 nn, .int .i64 ne_, .int .i64 no] : List Value)[j]? = some v → (w5.setCell ⟨hb, ta, none⟩ (.bool false)).cell? ⟨X, 0 + j, none⟩ = some v) := Lib.hid fun j v hj => by rw [Nat.zero_add, HX6.out.cell]; exact hj
                go_wp2_with (first | (refine wpList_load_at rfl 66 _ rfl X 0 rfl _ _ HL6.out Tryz.underlying66 rfl (by kernel_rfl) ?_))
                obtain ⟨W6, hW6⟩ : ∃ W6 : World, (w5.setCell ⟨hb, ta, none⟩ (.bool false)) = W6 := ⟨_, rfl⟩
                rw [hW6] at HH6 HX6 ⊢
                clear hW6 HL6 y0 yf
                refine (HSRC.out W6 HH6.out.kz).mono ?_
                rintro e w7 ⟨rfl, hb7⟩
                have HH7 := Lib.hid (HH6.out.below hb7)
                clear hb7
                rw [HSB.out]
                have HH8 := HH7
                go_wp2_with fail
                refine (dr_step HK.out.1 HK.out.2.1 (by have := HKL.out; omega) HH8.out HST.out.2.2).mono ?_
                rintro e w9 ⟨rfl, hh9⟩
                have hWe : (W.set ta false) = W.set ta false := by first | rfl | (simp only [List.set_set])
                rw [hWe] at hh9
                have hdr := HDI.out.step HK.out.1 HH8.out.situ HST.out.1 HST.out.2.2 HF1.out (w := false) (fun h => by cases h)
                rw [show (if stB u n1 = true then true else if drB n1 = true then false else false) = false by rw [HN1.out, HSB.out, HDB.out]; rfl] at hdr
                have HFIN := Lib.hid (And.intro (hh9.below (Below_alloc' w9 (.cells #[.int .i64 (stepD u mk (ta : Int)).thread, .int .i64 (stepD u mk (ta : Int)).node, .int .u8 (stepD u mk (ta : Int)).kind, .int .i64 (stepD u mk (ta : Int)).thing, .int .i64 (stepD u mk (ta : Int)).word, .int .i64 (stepD u mk (ta : Int)).put] 74))) hdr)
                clear hh9 hdr hWe
                go_wp2_with fail
                go_roundw
                case rel => exact ⟨k + 1, _, W.set ta false, by go_num, by omega, Lib.hid HFIN.out.1, Lib.hid HFIN.out.2⟩
                case measure => simp [intOf]; omega
            | false =>
              have HDB : Hid (drB (⟨nk, nop, nsl, nth, ⟨a1_, a2, a3⟩, ⟨b1, b2, b3⟩, nn, ne_, no⟩ : Node) = false) := Lib.hid (by rw [← HN1.out]; exact hdb)
              cases hsb : stB u n1 with
              | true =>
                have HSB : Hid (stB u (⟨nk, nop, nsl, nth, ⟨a1_, a2, a3⟩, ⟨b1, b2, b3⟩, nn, ne_, no⟩ : Node) = true) := Lib.hid (by rw [← HN1.out]; exact hsb)
                clear hdb hsb
                refine (has11_calls _ F1 (ia : Int) W3 HFW.out).mono ?_
                rintro e wz ⟨rfl, hz⟩
                subst hz
                rw [decide_eq_false HFE.out]
                have HL4 : Hid (∀ j v, ([.int .u8 nk, .int .u8 nop, .int .i64 nsl, .int .i64 nth, .bool a1_, .int .i64 a2, .int .i64 a3, .bool b1, .int .i64 b2, .int .i64 b3, .int .i64 nn, .int .i64 ne_, .int .i64 no] : List Value)[j]? = some v → W3.cell? ⟨X, 0 + j, none⟩ = some v) := Lib.hid fun j v hj => by rw [Nat.zero_add, HX3.out.cell]; exact hj
                have y0 := HH3.out.cell HWT.out
                go_wp2_with (first | (refine wpList_load_at rfl 66 _ rfl X 0 rfl _ _ HL4.out Tryz.underlying66 rfl (by kernel_rfl) ?_))
                obtain ⟨W4, hW4⟩ : ∃ W4 : World, W4 = W3 := ⟨_, rfl⟩
                have HH4 : Hid (DrAt w w4 W4 R g L1 u Z hb k mk W) := by rw [hW4]; exact HH3
                have HX4 : Hid (Blk W4 X 66 [.int .u8 nk, .int .u8 nop, .int .i64 nsl, .int .i64 nth, .bool a1_, .int .i64 a2, .int .i64 a3, .bool b1, .int .i64 b2, .int .i64 b3, .int .i64 nn, .int .i64 ne_, .int .i64 no]) := by rw [hW4]; exact HX3
                rw [← hW4]
                clear hW4 HL4 y0
                refine (HDRC.out W4).mono ?_
                rintro e w5 ⟨rfl, hb5⟩
                have HH5 := Lib.hid (HH4.out.below hb5)
                have HX5 := Lib.hid (HX4.out.below hb5 HX4.out.lt)
                clear hb5
                rw [HDB.out]
                have HH6 := HH5
                have HX6 := HX5
                have HL6 : Hid (∀ j v, ([.int .u8 nk, .int .u8 nop, .int .i64 nsl, .int .i64 nth, .bool a1_, .int .i64 a2, .int .i64 a3, .bool b1, .int .i64 b2, .int .i64 b3, .int .i64 nn, .int .i64 ne_, .int .i64 no] : List Value)[j]? = some v → w5.cell? ⟨X, 0 + j, none⟩ = some v) := Lib.hid fun j v hj => by rw [Nat.zero_add, HX6.out.cell]; exact hj
                go_wp2_with (first | (refine wpList_load_at rfl 66 _ rfl X 0 rfl _ _ HL6.out Tryz.underlying66 rfl (by kernel_rfl) ?_))
                obtain ⟨W6, hW6⟩ : ∃ W6 : World, w5 = W6 := ⟨_, rfl⟩
                rw [hW6] at HH6 HX6 ⊢
                clear hW6 HL6
                refine (HSRC.out W6 HH6.out.kz).mono ?_
                rintro e w7 ⟨rfl, hb7⟩
                have HH7 := Lib.hid (HH6.out.below hb7)
                clear hb7
                rw [HSB.out]
                have HH8 := Lib.hid (HH7.out.set_ ta true)
                obtain ⟨bq2, hbq2⟩ : ∃ b, W[ta]? = some b := ⟨_, List.getElem?_eq_getElem (by simpa using HTL.out)⟩
                have y0 := HH7.out.cell hbq2
                have yf := HH7.out.own.blk.frozen ta
                have HBQ2 := Lib.hid hbq2
                clear hbq2
                go_wp2_with fail
                clear y0 yf
                refine (dr_step HK.out.1 HK.out.2.1 (by have := HKL.out; omega) HH8.out HST.out.2.2).mono ?_
                rintro e w9 ⟨rfl, hh9⟩
                have hWe : (W.set ta true) = W.set ta true := by first | rfl | (simp only [List.set_set])
                rw [hWe] at hh9
                have hdr := HDI.out.step HK.out.1 HH8.out.situ HST.out.1 HST.out.2.2 HF1.out (w := false) (fun h => by cases h)
                rw [show (if stB u n1 = true then true else if drB n1 = true then false else false) = true by rw [HN1.out, HSB.out, HDB.out]; rfl] at hdr
                have HFIN := Lib.hid (And.intro (hh9.below (Below_alloc' w9 (.cells #[.int .i64 (stepD u mk (ta : Int)).thread, .int .i64 (stepD u mk (ta : Int)).node, .int .u8 (stepD u mk (ta : Int)).kind, .int .i64 (stepD u mk (ta : Int)).thing, .int .i64 (stepD u mk (ta : Int)).word, .int .i64 (stepD u mk (ta : Int)).put] 74))) hdr)
                clear hh9 hdr hWe
                go_wp2_with fail
                go_roundw
                case rel => exact ⟨k + 1, _, W.set ta true, by go_num, by omega, Lib.hid HFIN.out.1, Lib.hid HFIN.out.2⟩
                case measure => simp [intOf]; omega
              | false =>
                have HSB : Hid (stB u (⟨nk, nop, nsl, nth, ⟨a1_, a2, a3⟩, ⟨b1, b2, b3⟩, nn, ne_, no⟩ : Node) = false) := Lib.hid (by rw [← HN1.out]; exact hsb)
                clear hdb hsb
                refine (has11_calls _ F1 (ia : Int) W3 HFW.out).mono ?_
                rintro e wz ⟨rfl, hz⟩
                subst hz
                rw [decide_eq_false HFE.out]
                have HL4 : Hid (∀ j v, ([.int .u8 nk, .int .u8 nop, .int .i64 nsl, .int .i64 nth, .bool a1_, .int .i64 a2, .int .i64 a3, .bool b1, .int .i64 b2, .int .i64 b3, .int .i64 nn, .int .i64 ne_, .int .i64 no] : List Value)[j]? = some v → W3.cell? ⟨X, 0 + j, none⟩ = some v) := Lib.hid fun j v hj => by rw [Nat.zero_add, HX3.out.cell]; exact hj
                have y0 := HH3.out.cell HWT.out
                go_wp2_with (first | (refine wpList_load_at rfl 66 _ rfl X 0 rfl _ _ HL4.out Tryz.underlying66 rfl (by kernel_rfl) ?_))
                obtain ⟨W4, hW4⟩ : ∃ W4 : World, W4 = W3 := ⟨_, rfl⟩
                have HH4 : Hid (DrAt w w4 W4 R g L1 u Z hb k mk W) := by rw [hW4]; exact HH3
                have HX4 : Hid (Blk W4 X 66 [.int .u8 nk, .int .u8 nop, .int .i64 nsl, .int .i64 nth, .bool a1_, .int .i64 a2, .int .i64 a3, .bool b1, .int .i64 b2, .int .i64 b3, .int .i64 nn, .int .i64 ne_, .int .i64 no]) := by rw [hW4]; exact HX3
                rw [← hW4]
                clear hW4 HL4 y0
                refine (HDRC.out W4).mono ?_
                rintro e w5 ⟨rfl, hb5⟩
                have HH5 := Lib.hid (HH4.out.below hb5)
                have HX5 := Lib.hid (HX4.out.below hb5 HX4.out.lt)
                clear hb5
                rw [HDB.out]
                have HH6 := HH5
                have HX6 := HX5
                have HL6 : Hid (∀ j v, ([.int .u8 nk, .int .u8 nop, .int .i64 nsl, .int .i64 nth, .bool a1_, .int .i64 a2, .int .i64 a3, .bool b1, .int .i64 b2, .int .i64 b3, .int .i64 nn, .int .i64 ne_, .int .i64 no] : List Value)[j]? = some v → w5.cell? ⟨X, 0 + j, none⟩ = some v) := Lib.hid fun j v hj => by rw [Nat.zero_add, HX6.out.cell]; exact hj
                go_wp2_with (first | (refine wpList_load_at rfl 66 _ rfl X 0 rfl _ _ HL6.out Tryz.underlying66 rfl (by kernel_rfl) ?_))
                obtain ⟨W6, hW6⟩ : ∃ W6 : World, w5 = W6 := ⟨_, rfl⟩
                rw [hW6] at HH6 HX6 ⊢
                clear hW6 HL6
                refine (HSRC.out W6 HH6.out.kz).mono ?_
                rintro e w7 ⟨rfl, hb7⟩
                have HH7 := Lib.hid (HH6.out.below hb7)
                clear hb7
                rw [HSB.out]
                have HH8 := HH7
                go_wp2_with fail
                refine (dr_step HK.out.1 HK.out.2.1 (by have := HKL.out; omega) HH8.out HST.out.2.2).mono ?_
                rintro e w9 ⟨rfl, hh9⟩
                have hWe : W = W.set ta false := by exact (set_self HWT.out).symm
                rw [hWe] at hh9
                have hdr := HDI.out.step HK.out.1 HH8.out.situ HST.out.1 HST.out.2.2 HF1.out (w := false) (fun h => by cases h)
                rw [show (if stB u n1 = true then true else if drB n1 = true then false else false) = false by rw [HN1.out, HSB.out, HDB.out]; rfl] at hdr
                have HFIN := Lib.hid (And.intro (hh9.below (Below_alloc' w9 (.cells #[.int .i64 (stepD u mk (ta : Int)).thread, .int .i64 (stepD u mk (ta : Int)).node, .int .u8 (stepD u mk (ta : Int)).kind, .int .i64 (stepD u mk (ta : Int)).thing, .int .i64 (stepD u mk (ta : Int)).word, .int .i64 (stepD u mk (ta : Int)).put] 74))) hdr)
                clear hh9 hdr hWe
                go_wp2_with fail
                go_roundw
                case rel => exact ⟨k + 1, _, W.set ta false, by go_num, by omega, Lib.hid HFIN.out.1, Lib.hid HFIN.out.2⟩
                case measure => simp [intOf]; omega
end Go.Proofs.YtffgnjgphkdodaaGreatDoor
/- The law DelayRuns, of whatever unit. -/
namespace Go.Proofs.YtffgnjgphkdodaaGreatDoor
open Go Go.RowKit
theorem delayRuns_calls (w : World) (cs : List Value) (u : Unit_) (A : Option Addr) (c : Nat) (l : List Int) (mv : Value) (M : List (List Int)) (hT : Tab w) (hu : UnitV (cmap w) cs u) (hok : UOk u) (hso : SOk u) (hv : Ints (cmap w) (.slice A l.length c) l) (_hi : ∀ x ∈ l, i64 x) (hl : l.length ≤ 1048576) (hm : Ints2 (cmap w) mv M) :
    Calls Tryz.prog 6 #[.agg cs.toArray, .slice A l.length c, mv] w fun e w' => e = .returned (.bool true) ∧ Below w.heap.size w w' := by
  by_cases hc : checkF u = none
  · exact runs_good u cs A c l mv M w hT hu hok hso hv hl hm hc
  · exact runs_bad u cs _ _ w hT hu hok hc
end Go.Proofs.YtffgnjgphkdodaaGreatDoor
namespace Go.Proofs.YtffgnjgphkdodaaGreatDoor
open Go Go.RowKit Go.ChangeShapes Go.WideShapes Go.ChangeAt
namespace dRuns
set_option maxRecDepth 100000 in
theorem contract (H : Type) (enc : TypeId × Value → H) (W : World) (base : Nat) (args : Array Value) (ds gs : List (DataW H)) (before : List MemPlace)
    (hval : ∀ (j : Nat) t v, Tryz.f6.params[j]? = some t → args[j]? = some v → Value.okWide Tryz.prog W .any base t v)
    (hW : DataW.Whole enc Tryz.prog Tryz.f6.params.toList Rows.delayRunsSpec.vars false W args.toList ds gs before) (hk : Rows.uptoSmall H (ds ++ gs) = true) (hL : laidMetH Tryz.prog Rows.delayRunsUptoRow.laid W) :
    Calls Tryz.prog 6 args W fun e W' => ∃ v, e = .returned v ∧ Rows.delayRunsSpec.post enc Tryz.prog Tryz.f6 false true false false W args v W' := by
  have hW' := hW
  obtain ⟨p, q, hA0, hV, rfl, hfz, hnd⟩ := hW
  have hA : DataW.TrodAll enc Tryz.prog W 0 (fun _ => true) true Tryz.f6.params.toList args.toList ds p := hA0
  have hA2 := hA
  rw [Tryz.params6] at hA hval
  obtain ⟨v0, vs0, d0, ds0, p0, q0, hargs, rfl, hp, h0, r0⟩ := trodAll_cons hA
  obtain ⟨v1, vs1, d1, ds1, p1, q1, rfl, rfl, hp1, h1, r1⟩ := trodAll_cons r0
  obtain ⟨v2, vs2, d2, ds2, p2, q2, rfl, rfl, hp2, h2, r2⟩ := trodAll_cons r1
  obtain ⟨rfl, rfl, hp9⟩ := trodAll_nil r2
  obtain rfl : args = #[v0, v1, v2] := by cases args; simp_all
  obtain ⟨rfl, rfl⟩ := trodVars_none hV
  have hbulk := bulk_small hk
  obtain ⟨cs0, u0, rfl, hu0, hok0, hso0⟩ := open_unit_s (hval 0 25 v0 rfl rfl) h0
  obtain ⟨A1, c1, l1, rfl, hv1, hi1, hl1⟩ := open_ints_s (hval 1 26 v1 rfl rfl) h1
  have hl1 : l1.length ≤ 1048576 := Nat.le_trans hl1 (Nat.le_trans (bulk_part (by simp)) hbulk)
  obtain ⟨l2, hv2, _hi2⟩ := open_ints2_i (hval 2 27 v2 rfl rfl) h2
  have hlt := fun x hx => hW'.lt x hx
  simp only [List.append_nil] at hW' hlt
  have hT : Tab W := tab_of hL
  refine (delayRuns_calls W cs0 u0 A1 c1 l1 v2 l2 hT hu0 hok0 hso0 hv1 hi1 hl1 hv2).mono fun e W' ⟨he, hb⟩ => ?_
  subst he
  exact ⟨_, rfl, post_below (pa := p) (pv := []) hW' (fun _ _ _ => trodAll_cons_mk (shut_bool Tryz.underlying4 _) trodAll_mk0)
    (fun sp hsp => trodAll_stays (by intro t ht; rw [Tryz.params6] at ht; exact all_again _ (by kernel_rfl) t ht) hA2 (fun x hx => hb.same (hlt x hx)) (fun x hx => hsp x hx)) (fun _ _ => rfl) (by simp) hb (ok_one (by kernel_rfl) rfl (okWide_bool_mk Tryz.underlying4 _))⟩
theorem laid_met (os : Os) : laidMet Tryz.prog Rows.delayRunsUptoRow.laid ((laidWorld os).forCall (fun _ _ => 0) ⟨#[], #[.agg #[.slice none 0 0, .slice none 0 0, .slice none 0 0], .slice none 0 0, .slice none 0 0], []⟩).memory :=
  laidMet_of_run' 8 (by kernel_rfl) (by kernel_rfl)
theorem reads (os : Os) {H : Type} (enc : TypeId × Value → H) : ∃ places, DataW.whole enc Tryz.prog ((laidWorld os).forCall (fun _ _ => 0) ⟨#[], #[.agg #[.slice none 0 0, .slice none 0 0, .slice none 0 0], .slice none 0 0, .slice none 0 0], []⟩).memory Tryz.f6.params.toList Rows.delayRunsSpec.vars false
    (#[.agg #[.slice none 0 0, .slice none 0 0, .slice none 0 0], .slice none 0 0, .slice none 0 0] : Array Value).toList 8 = some ([.agg [.nil, .nil, .nil], .nil, .nil], [], places) :=
  ⟨[], by kernel_rfl⟩
set_option maxRecDepth 100000 in
theorem lifted (os : Os) (started : os.Started) (H : Type) (enc : TypeId × Value → H) (F : Stop.Interp) :
    ReturnsInHanded {} Tryz.checked os 6 .any ((Rows.OpenSpec.upto Rows.delayRunsSpec).preRow enc Tryz.prog Tryz.f6 Rows.delayRunsUptoRow.domain false Rows.delayRunsUptoRow.laid) (((Rows.OpenSpec.upto Rows.delayRunsSpec).at F).post enc Tryz.prog Tryz.f6 false true false false) := by
  obtain ⟨places, hx⟩ := reads os enc
  refine returnsInHanded_of_row (C := Tryz.checked) (s := Rows.OpenSpec.upto Rows.delayRunsSpec) own_knob started (by kernel_rfl) Tryz.func6
    (witness_row_at (enc := enc) (C := Tryz.checked) false (laidWorld os) #[.agg #[.slice none 0 0, .slice none 0 0, .slice none 0 0], .slice none 0 0, .slice none 0 0] rfl (by kernel_rfl) (by kernel_rfl) (by kernel_rfl)
      (OpenSpec.preRow_of_cond 8 hx (by kernel_rfl) (fun k hk => by injection hk with hk; subst hk; kernel_rfl) (by kernel_rfl) (laid_met os))) ?_
  intro W base args ds gs before hval hW _ hk _ hL _ _
  exact contract H enc W base args ds gs before hval hW (hk _ rfl) hL
theorem said : Rows.DelayRunsUptoSaid :=
  OpenClaim.holds_of_cond 6 Tryz.f6 rfl rfl rfl rfl rfl rfl rfl ⟨rfl, rfl, rfl, rfl, rfl⟩ rfl rfl rfl rfl rfl (by kernel_rfl) Tryz.func6 (by kernel_rfl)
    (of_decide_eq_true (by kernel_rfl)) (by unfold Func.isWrapper; first | (rw [if_pos (by decide +kernel)]; kernel_rfl) | (rw [if_neg (by decide +kernel)]; exact ⟨rfl, rfl⟩))
    (fun os started H enc _ F => by rw [OpenClaim.pre_eq_preRow]; exact lifted os started H enc F)
theorem plain (f : FuncId) (fn : Func) (hf : Tryz.pinned.checked.prog.funcNamed "stile/stilelaw11.DelayRuns" = some f) (hfn : Tryz.pinned.checked.prog.funcs[f]? = some fn) :
    true = Tryz.pinned.checked.prog.looks [] ∧ ∀ (j : Nat) t, fn.params[j]? = some t → Tryz.pinned.checked.prog.wantsStandIn t = false := by
  obtain rfl : f = 6 := Option.some.inj ((show Tryz.prog.funcNamed "stile/stilelaw11.DelayRuns" = some 6 by kernel_rfl).symm.trans hf) |>.symm
  obtain rfl : fn = Tryz.f6 := (Option.some.inj (Tryz.func6.symm.trans hfn)).symm
  refine ⟨by kernel_rfl, fun j t ht => ?_⟩
  rw [Tryz.params6] at ht
  have hm := Array.mem_of_getElem? ht
  simp at hm
  rcases hm with rfl | rfl | rfl
  · exact (show Tryz.prog.wantsStandIn 25 = false by kernel_rfl)
  · exact (show Tryz.prog.wantsStandIn 26 = false by kernel_rfl)
  · exact (show Tryz.prog.wantsStandIn 27 = false by kernel_rfl)
end dRuns
/-- THE CARD. -/
theorem delayRuns_upto : Rows.DelayRunsUptoCardSaid :=
  Claim7.holds_tied_plain_at .later [] _ _ _ _ dRuns.said (fun _ h => by cases h) (by kernel_rfl) (fun _ h => by cases h) delayRunsUpto_row_tie rfl ⟨rfl, rfl⟩ (by kernel_rfl) rfl dRuns.plain (by kernel_rfl)
#print axioms delayRuns_upto
end Go.Proofs.YtffgnjgphkdodaaGreatDoor
