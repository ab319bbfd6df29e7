import Derived.Test.YtmkpjiahkepigaaDoorP116
import Derived.Test.YtmkpjiahkepigaaDoorP117
import Derived.Test.YtmkpjiahkepigaaDoorP11
/- The walk of DelayWays. -/
namespace Go.Proofs.YtmkpjiahkepigaaDoor
open Go Go.RowKit
set_option maxRecDepth 100000 in
set_option maxHeartbeats 8000000 in
theorem delayWays_calls (u : Unit_) (cs : List Value) (t a b : Int) (w : World) (hT : Tab w) (hu : UnitV (cmap w) cs u) (hok : UOk u) :
    Calls Tryd.prog 4 #[.agg cs.toArray, .int .i64 t, .int .i64 a, .int .i64 b] w fun e w' => e = .returned (.bool true) ∧ Below w.heap.size w w' := by
  have HLV := Lib.hid fun w1 (h : Below w.heap.size w w1) => lives11_calls w1 (hT.below h)
  have HWY := Lib.hid fun w1 (h : Below w.heap.size w w1) => way_calls u cs t a b w1 (hT.below h) (hu.mono (cmap_below h)) hok
  have hcl := fun w1 (h : Below w.heap.size w w1) => classes_calls u cs w1 (hT.below h) (hu.mono (cmap_below h)) hok
  have HPA := Lib.hid fun w1 (h : Below w.heap.size w w1) => pairs_calls u cs t w1 (hT.below h) (hu.mono (cmap_below h)) hok
  obtain ⟨sv, lv, gv, rfl, hds, -, hgs⟩ := hu
  obtain ⟨sA, sc, rfl, -⟩ := id hds
  obtain ⟨gA, gc, rfl, -⟩ := id hgs
  have hgl := hgs.len.2.2
  have hsl := hds.len.2.2
  have hbx := Blk.new w 25 [.slice sA u.shared.length sc, lv, .slice gA u.graphs.length gc]
  have hb0 := Below_alloc' w (.cells #[.slice sA u.shared.length sc, lv, .slice gA u.graphs.length gc] 25)
  have HBX := Lib.hid (And.intro hbx hb0)
  have HG := Lib.hid hgs
  clear hbx hb0 hT hds hgs
  obtain ⟨wr0, hwr0⟩ : ∃ r, wayR u t a b = r := ⟨_, rfl⟩
  obtain ⟨l, is_, er⟩ := wr0
  by_cases hc : checkF u = none
  · have HCL := Lib.hid (show ∀ w1, Below w.heap.size w w1 → Calls Tryd.prog 11 #[.agg #[.slice sA u.shared.length sc, lv, .slice gA u.graphs.length gc]] w1 fun e w' => ∃ v, e = .returned (.tuple #[v, .int .i64 0]) ∧ Clss (part w' w1.heap.size w'.heap.size) v ((List.range u.shared.length).map fun x : Nat => classF u (x : Int)) ∧ Below w1.heap.size w1 w' from fun w1 h1 => (hcl w1 h1).mono fun e w' hh => by
      rcases hh with ⟨_, h⟩ | ⟨h, _⟩
      · exact h
      · exact absurd hc h)
    clear hcl
    by_cases he : er = 0
    · subst he
      have hask := wayR_ok (u := u) (t := t) (a := a) (b := b) (by rw [hwr0])
      obtain ⟨pr0, hpr0⟩ : ∃ r, pairsR u t = r := ⟨_, rfl⟩
      obtain ⟨P, nor⟩ := pr0
      have hnor : nor = 0 ∨ (nor ≠ 0 ∧ P = []) := by
        by_cases h : nor = 0
        · exact .inl h
        · refine .inr ⟨h, ?_⟩
          obtain ⟨_, t0, t1⟩ := askE_zero hask
          unfold pairsR at hpr0
          rw [if_pos hask] at hpr0
          split at hpr0
          · split at hpr0
            · injection hpr0 with _ h2; exact absurd h2.symm h
            · injection hpr0 with h1 _; exact h1.symm
          · injection hpr0 with h1 _; exact h1.symm
      have hpl : P.length ≤ 65536 := by
        unfold pairsR at hpr0
        rw [if_pos hask] at hpr0
        split at hpr0
        · split at hpr0
          · rename_i h; injection hpr0 with h1 _; rw [← h1]; exact h
          · injection hpr0 with h1 _; rw [← h1]; simp
        · injection hpr0 with h1 _; rw [← h1]; simp
      have htold : nor = 0 → ((a, b) ∈ P ↔ is_ = true) := fun h => by
        have h1 := told_is (u := u) (t := t) (a := a) (b := b) hask (by rw [hpr0]; exact h)
        rwa [hpr0, hwr0] at h1
      have HPR := Lib.hid hpr0
      have HAS := Lib.hid (And.intro hc (And.intro hask (And.intro hnor htold)))
      clear hpr0 hnor htold hask hc
      cases is_ with
      | false =>
        have hl0 := wayR_no (u := u) (t := t) (a := a) (b := b) (by rw [hwr0])
        rw [hwr0] at hl0
        simp only at hl0
        subst hl0
        have HWR := Lib.hid (And.intro hwr0 trivial)
        clear hwr0
        go_enter Tryd.func4, Tryd.ntmps4
        go_wp2_with (first
          | (go_at_call 5
             refine (HLV.out _ HBX.out.2).mono ?_
             rintro e w1 ⟨rfl, hb1⟩
             have hbx1 := HBX.out.1.below hb1 HBX.out.1.lt
             have x0 := hbx1.cell 0
             have x1 := hbx1.cell 1
             have x2 := hbx1.cell 2
             have H1 := Lib.hid (And.intro (HBX.out.2.trans (hb1.mono HBX.out.2.size)) hbx1)
             clear hb1 hbx1)
          | (go_at_call 10
             refine (HWY.out _ H1.out.1).mono ?_
             rintro e w2 ⟨r, rfl, hr, hb2⟩
             rw [HWR.out.1] at hr ⊢
             obtain ⟨rA, rc, rfl, -⟩ := own_slice hr
             have hbx2 := H1.out.2.below hb2 H1.out.2.lt
             have x0 := hbx2.cell 0
             have x1 := hbx2.cell 1
             have x2 := hbx2.cell 2
             have H2 := Lib.hid (And.intro (H1.out.1.trans (hb2.mono H1.out.1.size)) (And.intro hbx2 hr))
             clear hb2 hbx2 hr)
          | (go_at_call 11
             refine (HCL.out _ H2.out.1).mono ?_
             rintro e w3 ⟨cv, rfl, hcv, hb3⟩
             obtain ⟨cA, cc, rfl, -⟩ := id hcv
             have hbx3 := H2.out.2.1.below hb3 H2.out.2.1.lt
             have x0 := hbx3.cell 0
             have x1 := hbx3.cell 1
             have x2 := hbx3.cell 2
             have H3 := Lib.hid (And.intro (H2.out.1.trans (hb3.mono H2.out.1.size)) (And.intro hbx3 (And.intro hcv hb3)))
             clear hb3 hbx3 hcv)
          | (go_at_call 9
             refine (HPA.out _ H3.out.1).mono ?_
             rintro e w4 ⟨p, rfl, hp, hb4⟩
             rw [HPR.out] at hp ⊢
             simp only at hp
             obtain ⟨pA, pc, rfl, -⟩ := own_slice hp
             have hbx4 := H3.out.2.1.below hb4 H3.out.2.1.lt
             have x2 := hbx4.cell 2
             have x0 := hbx4.cell 0
             have H4 := Lib.hid (And.intro (H3.out.1.trans (hb4.mono H3.out.1.size)) (And.intro hbx4 (And.intro hp hb4)))
             clear hb4 hbx4 hp))
        go_loopw [16, 59] (fun v16 v59 wr => ∃ k : Nat, v16 = .bool (decide ((a, b) ∈ P.take k)) ∧ v59 = .int .i64 k ∧ k ≤ P.length ∧ Hid (Below w4.heap.size w4 wr)) (fun _ v59 _ => P.length - (intOf v59).toNat)
        case atStart => exact ⟨0, by simp, rfl, Nat.zero_le _, Lib.hid (Below.refl _ _)⟩
        case round =>
          obtain ⟨k, rfl, rfl, hk, HB⟩ := hrel
          by_cases hlt : k < P.length
          · obtain ⟨q, hq⟩ : ∃ q, P[k]? = some q := ⟨_, List.getElem?_eq_getElem hlt⟩
            obtain ⟨pb, pc', e, -, hpl, -, hpc⟩ := own_form H4.out.2.2.1 (by omega)
            injection e with e _ e3
            subst e e3
            obtain ⟨qa, qb⟩ := q
            have hpd : ∀ j v, ([.int .i64 qa, .int .i64 qb] : List Value)[j]? = some v → wr.cell? ⟨pb, k * 2 + j, none⟩ = some v := fun j v hj => by
              have hj2 : j < 2 := (List.getElem?_eq_some_iff.1 hj).1
              have h1 := hpc (k * 2 + j) (by omega)
              rw [show (pairsV P)[k * 2 + j]? = some v from fm_at (f := pairV) pairV_len hq hj] at h1
              exact cmap_below HB.out _ _ _ h1
            have HPD := Lib.hid hpd
            have htk : (a, b) ∈ P.take (k + 1) ↔ (a, b) ∈ P.take k ∨ ((qa, qb) = (a, b)) := by
              have h1 := List.take_succ_eq_append_getElem hlt
              rw [List.getElem?_eq_getElem hlt] at hq
              injection hq with hq
              rw [h1, hq, List.mem_append, List.mem_singleton]
              constructor
              · rintro (h | h)
                · exact .inl h
                · exact .inr h.symm
              · rintro (h | h)
                · exact .inl h
                · exact .inr h.symm
            have HTK := Lib.hid htk
            have k0 : (0 : Int) ≤ k := by omega
            have kP : (k : Int) < P.length := by omega
            have eqd := eq_delay qa qb a b
            have hm : Tryd.prog.eqGuardType Tryd.prog.depth 39 = false := by kernel_rfl
            have hb2 := HB.out.alloc HB.out.size (.cells #[.int .i64 qa, .int .i64 qb] 39)
            have HB2 := Lib.hid hb2
            have hpbl : pb < wr.heap.size := Nat.lt_of_lt_of_le hpl HB.out.size
            clear hq hpc hpd htk hb2
            by_cases h1 : (a, b) ∈ P.take k
            · have d1 : decide ((a, b) ∈ P.take k) = true := decide_eq_true h1
              have d2 : Hid (decide ((a, b) ∈ P.take (k + 1)) = true) := Lib.hid (decide_eq_true (HTK.out.2 (.inl h1)))
              rw [d1]
              clear h1 d1
              go_wp2_with (first
                | (refine wpList_load_at rfl 39 _ rfl pb (k * 2) rfl _ _ HPD.out Tryd.underlying39 rfl (by kernel_rfl) ?_))
              go_roundw
              case rel => exact ⟨k + 1, by rw [d2.out], by go_num, hlt, HB2⟩
              case measure => simp [intOf]; omega
            · have d1 : decide ((a, b) ∈ P.take k) = false := decide_eq_false h1
              rw [d1]
              have hdd : decide ((a, b) ∈ P.take (k + 1)) = (qa == a && qb == b) := by
                rw [Bool.eq_iff_iff, decide_eq_true_eq, HTK.out]
                simp [h1]
              have HDD := Lib.hid hdd
              clear h1 d1 hdd
              go_wp2_with (first
                | (refine wpList_load_at rfl 39 _ rfl pb (k * 2) rfl _ _ HPD.out Tryd.underlying39 rfl (by kernel_rfl) ?_))
              go_roundw
              case rel => exact ⟨k + 1, by rw [HDD.out], by go_num, hlt, HB2⟩
              case measure => simp [intOf]; omega
          · obtain rfl : k = P.length := by omega
            rw [List.take_length]
            have hbw : Below w.heap.size w wr := H4.out.1.trans (HB.out.mono H4.out.1.size)
            have HBW := Lib.hid hbw
            clear hbw
            rcases HAS.out.2.2.1 with h0 | ⟨h0, h1⟩
            · subst h0
              have hn : ¬ (a, b) ∈ P := fun h => by have := (HAS.out.2.2.2 rfl).1 h; cases this
              have d1 : decide ((a, b) ∈ P) = false := decide_eq_false hn
              rw [d1]
              clear hn d1
              go_wp2
              go_ret
              exact ⟨rfl, HBW.out⟩
            · subst h1
              have d1 : (nor == 0) = false := by simp [h0]
              have d2 : (nor != 0) = true := by simp [h0]
              clear h0
              have d3 : decide ((a, b) ∈ ([] : List (Int × Int))) = false := decide_eq_false (by simp)
              rw [d3]
              go_wp2
              go_ret
              exact ⟨rfl, HBW.out⟩
      | true =>
        obtain ⟨-, tn, an, bn, d, g, n, m, hw⟩ := wayR_yes (u := u) (t := t) (a := a) (b := b) (by rw [hwr0])
        rw [hwr0] at hw
        simp only at hw
        have hrg := (checkF_none hw.chk).graphs g (List.mem_of_getElem? hw.gr)
        obtain rfl := hw.t
        obtain rfl := hw.a
        obtain rfl := hw.b
        have hbN : bn < g.nodes.length := (List.getElem?_eq_some_iff.1 hw.nb).1
        have haN : an < g.nodes.length := (List.getElem?_eq_some_iff.1 hw.na).1
        have hok3 := wayF_ok hrg.whole hbN (farD_is g bn) d an hw.far
        rw [← hw.is_] at hok3
        have hll : l.length = d + 1 := by rw [hw.is_]; exact wayF_length _ _ _ _
        have hl0 : l[0]? = some (an : Int) := by
          obtain ⟨l', e⟩ := wayF_cons g (farD g bn) d (an : Int)
          rw [hw.is_, e]; rfl
        have hmost := hrg.whole.most
        have hdpos := hw.pos
        have hdN : d < g.nodes.length := by
          rcases (farD_is g bn).2 an _ hw.far with ⟨h1, _⟩ | ⟨d', h1, h2⟩
          · omega
          · have := h2.lt hbN
            omega
        obtain ⟨gb, go, rfl, gcs, hgv0, hgc⟩ := HG.out.at_ hw.gr
        obtain ⟨nv, rfl, hnv⟩ := hgv0
        obtain ⟨nA, nc, rfl, -⟩ := id hnv
        obtain ⟨nb, no, rfl, hcn⟩ := hnv.at_ hw.na
        obtain ⟨nb', no', e', hcm⟩ := hnv.at_ hw.nb
        injection e' with e'
        injection e' with e1 e2
        subst e1 e2
        have htn : tn < u.graphs.length := (List.getElem?_eq_some_iff.1 hw.gr).1
        have ht0 : (0 : Int) ≤ tn := by omega
        have htG : (tn : Int) < u.graphs.length := by omega
        have a0 : (0 : Int) ≤ an := by omega
        have aN : (an : Int) < g.nodes.length := by omega
        have b0 : (0 : Int) ≤ bn := by omega
        have bN : (bn : Int) < g.nodes.length := by omega
        have HWR := Lib.hid (And.intro hwr0 hll)
        have HOK := Lib.hid (And.intro hok3 (And.intro hl0 (And.intro hw hrg)))
        have HN := Lib.hid (And.intro hcn (And.intro hcm hnv))
        have g3 : w.cell? ⟨gb, go + tn * 4 + 3, none⟩ = some (.slice (some ⟨nb, no, none⟩) g.nodes.length nc) := hgc 3 _ rfl
        have HG3 := Lib.hid g3
        clear hwr0 hok3 hll hl0 hcn hcm hnv hgc hw hrg g3
        go_enter Tryd.func4, Tryd.ntmps4
        go_wp2_with (first
          | (go_at_call 5
             refine (HLV.out _ HBX.out.2).mono ?_
             rintro e w1 ⟨rfl, hb1⟩
             have hbx1 := HBX.out.1.below hb1 HBX.out.1.lt
             have x0 := hbx1.cell 0
             have x1 := hbx1.cell 1
             have x2 := hbx1.cell 2
             have H1 := Lib.hid (And.intro (HBX.out.2.trans (hb1.mono HBX.out.2.size)) hbx1)
             clear hb1 hbx1)
          | (go_at_call 10
             refine (HWY.out _ H1.out.1).mono ?_
             rintro e w2 ⟨r, rfl, hr, hb2⟩
             rw [HWR.out.1] at hr ⊢
             simp only at hr
             rw [HWR.out.2] at hr
             obtain ⟨rA, rc, rfl, -⟩ := own_slice hr
             have hbx2 := H1.out.2.below hb2 H1.out.2.lt
             have x0 := hbx2.cell 0
             have x1 := hbx2.cell 1
             have x2 := hbx2.cell 2
             have H2 := Lib.hid (And.intro (H1.out.1.trans (hb2.mono H1.out.1.size)) (And.intro hbx2 hr))
             clear hb2 hbx2 hr)
          | (go_at_call 11
             refine (HCL.out _ H2.out.1).mono ?_
             rintro e w3 ⟨cv, rfl, hcv, hb3⟩
             obtain ⟨cA, cc, rfl, -⟩ := id hcv
             have hbx3 := H2.out.2.1.below hb3 H2.out.2.1.lt
             have x0 := hbx3.cell 0
             have x1 := hbx3.cell 1
             have x2 := hbx3.cell 2
             have H3 := Lib.hid (And.intro (H2.out.1.trans (hb3.mono H2.out.1.size)) (And.intro hbx3 (And.intro hcv hb3)))
             clear hb3 hbx3 hcv)
          | (go_at_call 9
             refine (HPA.out _ H3.out.1).mono ?_
             rintro e w4 ⟨p, rfl, hp, hb4⟩
             rw [HPR.out] at hp ⊢
             simp only at hp
             obtain ⟨pA, pc, rfl, -⟩ := own_slice hp
             have hbx4 := H3.out.2.1.below hb4 H3.out.2.1.lt
             have x2 := hbx4.cell 2
             have x0 := hbx4.cell 0
             have H4 := Lib.hid (And.intro (H3.out.1.trans (hb4.mono H3.out.1.size)) (And.intro hbx4 (And.intro hp hb4)))
             clear hb4 hbx4 hp))
        go_loopw [16, 59] (fun v16 v59 wr => ∃ k : Nat, v16 = .bool (decide (((an : Int), (bn : Int)) ∈ P.take k)) ∧ v59 = .int .i64 k ∧ k ≤ P.length ∧ Hid (Below w4.heap.size w4 wr)) (fun _ v59 _ => P.length - (intOf v59).toNat)
        case atStart => exact ⟨0, by simp, rfl, Nat.zero_le _, Lib.hid (Below.refl _ _)⟩
        case round =>
          obtain ⟨k, rfl, rfl, hk, HB⟩ := hrel
          by_cases hlt : k < P.length
          · obtain ⟨q, hq⟩ : ∃ q, P[k]? = some q := ⟨_, List.getElem?_eq_getElem hlt⟩
            obtain ⟨pb, pc', e, -, hpl, -, hpc⟩ := own_form H4.out.2.2.1 (by omega)
            injection e with e _ e3
            subst e e3
            obtain ⟨qa, qb⟩ := q
            have hpd : ∀ j v, ([.int .i64 qa, .int .i64 qb] : List Value)[j]? = some v → wr.cell? ⟨pb, k * 2 + j, none⟩ = some v := fun j v hj => by
              have hj2 : j < 2 := (List.getElem?_eq_some_iff.1 hj).1
              have h1 := hpc (k * 2 + j) (by omega)
              rw [show (pairsV P)[k * 2 + j]? = some v from fm_at (f := pairV) pairV_len hq hj] at h1
              exact cmap_below HB.out _ _ _ h1
            have HPD := Lib.hid hpd
            have htk : ((an : Int), (bn : Int)) ∈ P.take (k + 1) ↔ ((an : Int), (bn : Int)) ∈ P.take k ∨ ((qa, qb) = ((an : Int), (bn : Int))) := by
              have h1 := List.take_succ_eq_append_getElem hlt
              rw [List.getElem?_eq_getElem hlt] at hq
              injection hq with hq
              rw [h1, hq, List.mem_append, List.mem_singleton]
              constructor
              · rintro (h | h)
                · exact .inl h
                · exact .inr h.symm
              · rintro (h | h)
                · exact .inl h
                · exact .inr h.symm
            have HTK := Lib.hid htk
            have k0 : (0 : Int) ≤ k := by omega
            have kP : (k : Int) < P.length := by omega
            have eqd := eq_delay qa qb (an : Int) (bn : Int)
            have hm : Tryd.prog.eqGuardType Tryd.prog.depth 39 = false := by kernel_rfl
            have hb2 := HB.out.alloc HB.out.size (.cells #[.int .i64 qa, .int .i64 qb] 39)
            have HB2 := Lib.hid hb2
            have hpbl : pb < wr.heap.size := Nat.lt_of_lt_of_le hpl HB.out.size
            clear hq hpc hpd htk hb2
            by_cases h1 : ((an : Int), (bn : Int)) ∈ P.take k
            · have d1 : decide (((an : Int), (bn : Int)) ∈ P.take k) = true := decide_eq_true h1
              have d2 : Hid (decide (((an : Int), (bn : Int)) ∈ P.take (k + 1)) = true) := Lib.hid (decide_eq_true (HTK.out.2 (.inl h1)))
              rw [d1]
              clear h1 d1
              go_wp2_with (first
                | (refine wpList_load_at rfl 39 _ rfl pb (k * 2) rfl _ _ HPD.out Tryd.underlying39 rfl (by kernel_rfl) ?_))
              go_roundw
              case rel => exact ⟨k + 1, by rw [d2.out], by go_num, hlt, HB2⟩
              case measure => simp [intOf]; omega
            · have d1 : decide (((an : Int), (bn : Int)) ∈ P.take k) = false := decide_eq_false h1
              rw [d1]
              have hdd : decide (((an : Int), (bn : Int)) ∈ P.take (k + 1)) = (qa == (an : Int) && qb == (bn : Int)) := by
                rw [Bool.eq_iff_iff, decide_eq_true_eq, HTK.out]
                simp [h1]
              have HDD := Lib.hid hdd
              clear h1 d1 hdd
              go_wp2_with (first
                | (refine wpList_load_at rfl 39 _ rfl pb (k * 2) rfl _ _ HPD.out Tryd.underlying39 rfl (by kernel_rfl) ?_))
              go_roundw
              case rel => exact ⟨k + 1, by rw [HDD.out], by go_num, hlt, HB2⟩
              case measure => simp [intOf]; omega
          · obtain rfl : k = P.length := by omega
            rw [List.take_length]
            have hbw : Below w.heap.size w wr := H4.out.1.trans (HB.out.mono H4.out.1.size)
            have HBW := Lib.hid hbw
            have hw2r : Below w2.heap.size w2 wr := (H3.out.2.2.2.trans (H4.out.2.2.2.mono H3.out.2.2.2.size)).trans (HB.out.mono (by have := H3.out.2.2.2.size; have := H4.out.2.2.2.size; omega))
            obtain ⟨wb, wc', e, -, hwbl, -, hwc⟩ := own_form H2.out.2.2 (by omega)
            injection e with e _ e3
            subst e e3
            have wcell : ∀ q x, l[q]? = some x → wr.cell? ⟨wb, q, none⟩ = some (.int .i64 x) := fun q x hq => by
              have hql := (List.getElem?_eq_some_iff.1 hq).1
              rw [HWR.out.2] at hql
              have h1 := hwc q (by omega)
              rw [show (ints l)[q]? = some (.int .i64 x) by simp [ints, hq]] at h1
              exact cmap_below hw2r _ _ _ h1
            have HWC := Lib.hid wcell
            have c0 : wr.cell? ⟨wb, 0, none⟩ = some (.int .i64 (an : Int)) := wcell 0 _ HOK.out.2.1
            have cd : wr.cell? ⟨wb, d, none⟩ = some (.int .i64 (bn : Int)) := wcell d _ HOK.out.1.2.2
            have hbxr := H4.out.2.1.below HB.out H4.out.2.1.lt
            have x0r := hbxr.cell 0
            have x2r := hbxr.cell 2
            have g3 : wr.cell? ⟨gb, go + tn * 4 + 3, none⟩ = some (.slice (some ⟨nb, no, none⟩) g.nodes.length nc) := cmap_below hbw _ _ _ HG3.out
            have hclr : Clss (cmap wr) (.slice cA ((List.range u.shared.length).map fun x : Nat => classF u (x : Int)).length cc) ((List.range u.shared.length).map fun x : Nat => classF u (x : Int)) := (H3.out.2.2.1.mono (part_le _ _ _)).mono (cmap_below (H4.out.2.2.2.trans (HB.out.mono H4.out.2.2.2.size)))
            have hcle : ((List.range u.shared.length).map fun x : Nat => classF u (x : Int)).length = u.shared.length := by simp
            have HST := Lib.hid (rstore_calls u n _ wr hclr (fun h => dl_var (HOK.out.2.2.2.nodes n (List.mem_of_getElem? HOK.out.2.2.1.na)) (.inr h)))
            have HLD := Lib.hid (fun w5 (h5 : Below wr.heap.size wr w5) => rload_calls u m _ w5 (hclr.mono (cmap_below h5)) (fun h => dl_var (HOK.out.2.2.2.nodes m (List.mem_of_getElem? HOK.out.2.2.1.nb)) (.inl h)))
            rw [hcle] at HST HLD
            rw [HOK.out.2.2.1.st] at HST
            rw [HOK.out.2.2.1.ld] at HLD
            have HLn : Hid (∀ j v, n.cells[j]? = some v → wr.cell? ⟨nb, no + an * 13 + j, none⟩ = some v) := Lib.hid fun j v hj => cmap_below hbw _ _ _ (HN.out.1 j v hj)
            have HLm : Hid (∀ w5, Below wr.heap.size wr w5 → ∀ j v, m.cells[j]? = some v → w5.cell? ⟨nb, no + bn * 13 + j, none⟩ = some v) := Lib.hid fun w5 h5 j v hj => cmap_below h5 _ _ _ (cmap_below hbw _ _ _ (HN.out.2.1 j v hj))
            have d0 : ((u.shared.length : Int) != (u.shared.length : Int)) = false := by simp
            have d00 : (u.shared.length != u.shared.length) = false := by simp
            have d1 : decide (((d + 1 : Nat) : Int) < 2) = false := decide_eq_false (by omega)
            have d2 : ((an : Int) != (an : Int)) = false := by simp
            have d3 : ((bn : Int) != (bn : Int)) = false := by simp
            have dsub : ((d + 1 : Nat) : Int) - 1 = (d : Int) := by omega
            have HB0 := Lib.hid HBW.out
            clear hbw hw2r hwc wcell hbxr hclr hcle
            rcases HAS.out.2.2.1 with h0 | ⟨h0, h1⟩
            · subst h0
              have hmm : ((an : Int), (bn : Int)) ∈ P := (by first | exact (HAS.out.2.2.2 rfl).2 trivial | exact (HAS.out.2.2.2 rfl).2 rfl)
              have dm : decide (((an : Int), (bn : Int)) ∈ P) = true := decide_eq_true hmm
              rw [dm]
              clear hmm dm
              obtain ⟨wo, rfl⟩ : ∃ wo : World, wo = wr := ⟨_, rfl⟩
              have pa0 : wo.cell? ⟨nb, no + an * 13, none⟩ = some (.int .u8 n.kind) := HLn.out 0 _ rfl
              have pa1 := HLn.out 1 _ rfl
              have pa2 := HLn.out 2 _ rfl
              have pa3 := HLn.out 3 _ rfl
              have pa4 := HLn.out 4 _ rfl
              have pa5 := HLn.out 5 _ rfl
              have pa6 := HLn.out 6 _ rfl
              have pa7 := HLn.out 7 _ rfl
              have pa8 := HLn.out 8 _ rfl
              have pa9 := HLn.out 9 _ rfl
              have pa10 := HLn.out 10 _ rfl
              have pa11 := HLn.out 11 _ rfl
              have pa12 := HLn.out 12 _ rfl
              go_wp2_with (first
                              | (go_at_call 12
                                 refine (HST.out).mono ?_
                                 rintro e w5 ⟨rfl, hb5⟩
                                 have HB5 := Lib.hid hb5
                                 have pm0 : w5.cell? ⟨nb, no + bn * 13, none⟩ = some (.int .u8 m.kind) := HLm.out _ HB5.out 0 _ rfl
                                 have pm1 := HLm.out _ HB5.out 1 _ rfl
                                 have pm2 := HLm.out _ HB5.out 2 _ rfl
                                 have pm3 := HLm.out _ HB5.out 3 _ rfl
                                 have pm4 := HLm.out _ HB5.out 4 _ rfl
                                 have pm5 := HLm.out _ HB5.out 5 _ rfl
                                 have pm6 := HLm.out _ HB5.out 6 _ rfl
                                 have pm7 := HLm.out _ HB5.out 7 _ rfl
                                 have pm8 := HLm.out _ HB5.out 8 _ rfl
                                 have pm9 := HLm.out _ HB5.out 9 _ rfl
                                 have pm10 := HLm.out _ HB5.out 10 _ rfl
                                 have pm11 := HLm.out _ HB5.out 11 _ rfl
                                 have pm12 := HLm.out _ HB5.out 12 _ rfl
                                 clear hb5)
                              | (go_at_call 13
                                 refine (HLD.out _ HB5.out).mono ?_
                                 rintro e w6 ⟨rfl, hb6⟩
                                 have HB6 := Lib.hid (HB5.out.trans (hb6.mono HB5.out.size))
                                 clear hb6))
              go_loopw [149] (fun v149 wr => ∃ k : Nat, v149 = .int .i64 k ∧ k ≤ d + 1 ∧ Hid (Below wo.heap.size wo wr)) (fun v149 _ => d + 1 - (intOf v149).toNat)
              case atStart => exact ⟨0, rfl, Nat.zero_le _, HB6⟩
              case round =>
                obtain ⟨k, rfl, hk, HB⟩ := hrel
                by_cases hlt : k < d + 1
                · obtain ⟨x, hx⟩ : ∃ x, l[k]? = some x := ⟨l[k]'(by rw [HWR.out.2]; exact hlt), List.getElem?_eq_getElem _⟩
                  obtain ⟨j, rfl, hjN⟩ := HOK.out.1.1 k x hx
                  have xk : wr.cell? ⟨wb, k, none⟩ = some (.int .i64 (j : Int)) := cmap_below HB.out _ _ _ (HWC.out k _ hx)
                  have k0 : (0 : Int) ≤ k := by omega
                  have kd : (k : Int) < ((d + 1 : Nat) : Int) := by omega
                  have kd2 : (k : Int) < (d : Int) + 1 := by omega
                  have j0 : (0 : Int) ≤ j := by omega
                  have jN : (j : Int) < g.nodes.length := by omega
                  cases k with
                  | zero =>
                    have z0 : ((0 : Nat) : Int) = 0 := rfl
                    rw [z0]
                    clear hx k0 kd kd2
                    go_wp2
                    go_roundw
                    case rel => exact ⟨1, rfl, by omega, HB⟩
                    case measure => simp [intOf]
                  | succ k =>
                    obtain ⟨y, hy⟩ : ∃ y, l[k]? = some y := ⟨l[k]'(by rw [HWR.out.2]; omega), List.getElem?_eq_getElem _⟩
                    obtain ⟨jy, rfl, hjyN⟩ := HOK.out.1.1 k y hy
                    obtain ⟨np, hnp, hfp, -⟩ := HOK.out.1.2.1 k _ _ hy hx
                    rw [Int.toNat_natCast] at hnp
                    have yk : wr.cell? ⟨wb, k, none⟩ = some (.int .i64 (jy : Int)) := cmap_below HB.out _ _ _ (HWC.out k _ hy)
                    have jy0 : (0 : Int) ≤ jy := by omega
                    have jyN : (jy : Int) < g.nodes.length := by omega
                    have kk0 : (0 : Int) ≤ k := by omega
                    have hbw5 : Below w.heap.size w wr := HB0.out.trans (HB.out.mono HB0.out.size)
                    obtain ⟨nb', no', e', hcp⟩ := HN.out.2.2.at_ hnp
                    injection e' with e'
                    injection e' with e5 e6
                    subst e5 e6
                    have HLp : Hid (∀ j v, np.cells[j]? = some v → wr.cell? ⟨nb, no + jy * 13 + j, none⟩ = some v) := Lib.hid fun j v hj => cmap_below hbw5 _ _ _ (hcp j v hj)
                    have HFP := Lib.hid hfp
                    have HRF := Lib.hid (rfollows_calls np wr)
                    have HBW5 := Lib.hid hbw5
                    have sx : wr.cell? ⟨wb, k + 1, none⟩ = some (.int .i64 (j : Int)) := xk
                    have s1 : ((k + 1 : Nat) : Int) = (k : Int) + 1 := by omega
                    rw [s1]
                    have kp : decide ((0 : Int) < (k : Int) + 1) = true := decide_eq_true (by omega)
                    by_cases hkd : k + 1 < d
                    · obtain ⟨z, hz⟩ : ∃ z, l[k + 1 + 1]? = some z := ⟨l[k + 1 + 1]'(by rw [HWR.out.2]; omega), List.getElem?_eq_getElem _⟩
                      obtain ⟨nx, hnx, -, hdr⟩ := HOK.out.1.2.1 (k + 1) _ _ hx hz
                      rw [Int.toNat_natCast] at hnx
                      obtain ⟨nb', no', e', hcx⟩ := HN.out.2.2.at_ hnx
                      injection e' with e'
                      injection e' with e5 e6
                      subst e5 e6
                      have HLx : Hid (∀ w5, Below wr.heap.size wr w5 → ∀ i v, nx.cells[i]? = some v → w5.cell? ⟨nb, no + j * 13 + i, none⟩ = some v) := Lib.hid fun w5 h5 i v hi => cmap_below h5 _ _ _ (cmap_below HBW5.out _ _ _ (hcx i v hi))
                      have HRD := Lib.hid (fun w5 => rdrain_calls nx w5)
                      rw [hdr] at HRD
                      have dk : decide ((k : Int) + 1 < (d : Int)) = true := decide_eq_true (by omega)
                      clear hz hnx hdr hcx hx hy hnp hfp hcp hbw5 hkd xk k0 kd
                      have pp0 : wr.cell? ⟨nb, no + jy * 13, none⟩ = some (.int .u8 np.kind) := HLp.out 0 _ rfl
                      have pp1 := HLp.out 1 _ rfl
                      have pp2 := HLp.out 2 _ rfl
                      have pp3 := HLp.out 3 _ rfl
                      have pp4 := HLp.out 4 _ rfl
                      have pp5 := HLp.out 5 _ rfl
                      have pp6 := HLp.out 6 _ rfl
                      have pp7 := HLp.out 7 _ rfl
                      have pp8 := HLp.out 8 _ rfl
                      have pp9 := HLp.out 9 _ rfl
                      have pp10 := HLp.out 10 _ rfl
                      have pp11 := HLp.out 11 _ rfl
                      have pp12 := HLp.out 12 _ rfl
                      go_wp2_with (first
                        | (go_at_call 14
                           refine (HRF.out).mono ?_
                           rintro e w7 ⟨fv, rfl, hf, hb7⟩
                           obtain ⟨fA, fc, rfl, -⟩ := id hf
                           have HB7 := Lib.hid hb7
                           have hha := has11_calls _ (fol np) (j : Int) w7 (hf.mono (part_le _ _ _))
                           rw [decide_eq_true HFP.out] at hha
                           have HHA := Lib.hid hha
                           have yk7 := cmap_below hb7 _ _ _ yk
                           have px0 : w7.cell? ⟨nb, no + j * 13, none⟩ = some (.int .u8 nx.kind) := HLx.out _ HB7.out 0 _ rfl
                           have px1 := HLx.out _ HB7.out 1 _ rfl
                           have px2 := HLx.out _ HB7.out 2 _ rfl
                           have px3 := HLx.out _ HB7.out 3 _ rfl
                           have px4 := HLx.out _ HB7.out 4 _ rfl
                           have px5 := HLx.out _ HB7.out 5 _ rfl
                           have px6 := HLx.out _ HB7.out 6 _ rfl
                           have px7 := HLx.out _ HB7.out 7 _ rfl
                           have px8 := HLx.out _ HB7.out 8 _ rfl
                           have px9 := HLx.out _ HB7.out 9 _ rfl
                           have px10 := HLx.out _ HB7.out 10 _ rfl
                           have px11 := HLx.out _ HB7.out 11 _ rfl
                           have px12 := HLx.out _ HB7.out 12 _ rfl
                           clear hb7 hf hha)
                        | (go_at_call 7
                           refine (HHA.out).mono ?_
                           rintro e w8 ⟨rfl, rfl⟩)
                        | (go_at_call 15
                           refine (HRD.out w7).mono ?_
                           rintro e w9 ⟨rfl, hb9⟩
                           have HB9 := Lib.hid (HB7.out.trans (hb9.mono HB7.out.size))
                           clear hb9))
                      go_roundw
                      case rel => exact ⟨k + 1 + 1, by go_num, by omega, Lib.hid (HB.out.trans (HB9.out.mono HB.out.size))⟩
                      case measure => simp [intOf]; omega
                    · have dk : decide ((k : Int) + 1 < (d : Int)) = false := decide_eq_false (by omega)
                      clear hx hy hnp hfp hcp hbw5 xk k0 kd
                      have pp0 : wr.cell? ⟨nb, no + jy * 13, none⟩ = some (.int .u8 np.kind) := HLp.out 0 _ rfl
                      have pp1 := HLp.out 1 _ rfl
                      have pp2 := HLp.out 2 _ rfl
                      have pp3 := HLp.out 3 _ rfl
                      have pp4 := HLp.out 4 _ rfl
                      have pp5 := HLp.out 5 _ rfl
                      have pp6 := HLp.out 6 _ rfl
                      have pp7 := HLp.out 7 _ rfl
                      have pp8 := HLp.out 8 _ rfl
                      have pp9 := HLp.out 9 _ rfl
                      have pp10 := HLp.out 10 _ rfl
                      have pp11 := HLp.out 11 _ rfl
                      have pp12 := HLp.out 12 _ rfl
                      go_wp2_with (first
                        | (go_at_call 14
                           refine (HRF.out).mono ?_
                           rintro e w7 ⟨fv, rfl, hf, hb7⟩
                           obtain ⟨fA, fc, rfl, -⟩ := id hf
                           have HB7 := Lib.hid hb7
                           have hha := has11_calls _ (fol np) (j : Int) w7 (hf.mono (part_le _ _ _))
                           rw [decide_eq_true HFP.out] at hha
                           have HHA := Lib.hid hha
                           have yk7 := cmap_below hb7 _ _ _ yk
                           clear hb7 hf hha)
                        | (go_at_call 7
                           refine (HHA.out).mono ?_
                           rintro e w8 ⟨rfl, rfl⟩))
                      go_roundw
                      case rel => exact ⟨k + 1 + 1, by go_num, by omega, Lib.hid (HB.out.trans (HB7.out.mono HB.out.size))⟩
                      case measure => simp [intOf]; omega
                · obtain rfl : k = d + 1 := by omega
                  go_wp2
                  go_ret
                  exact ⟨rfl, HB0.out.trans (HB.out.mono HB0.out.size)⟩
            · subst h1
              have e1 : (nor == 0) = false := by simp [h0]
              have e2 : (nor != 0) = true := by simp [h0]
              clear h0
              have e3 : decide (((an : Int), (bn : Int)) ∈ ([] : List (Int × Int))) = false := decide_eq_false (by simp)
              rw [e3]
              obtain ⟨wo, rfl⟩ : ∃ wo : World, wo = wr := ⟨_, rfl⟩
              have pa0 : wo.cell? ⟨nb, no + an * 13, none⟩ = some (.int .u8 n.kind) := HLn.out 0 _ rfl
              have pa1 := HLn.out 1 _ rfl
              have pa2 := HLn.out 2 _ rfl
              have pa3 := HLn.out 3 _ rfl
              have pa4 := HLn.out 4 _ rfl
              have pa5 := HLn.out 5 _ rfl
              have pa6 := HLn.out 6 _ rfl
              have pa7 := HLn.out 7 _ rfl
              have pa8 := HLn.out 8 _ rfl
              have pa9 := HLn.out 9 _ rfl
              have pa10 := HLn.out 10 _ rfl
              have pa11 := HLn.out 11 _ rfl
              have pa12 := HLn.out 12 _ rfl
              go_wp2_with (first
                              | (go_at_call 12
                                 refine (HST.out).mono ?_
                                 rintro e w5 ⟨rfl, hb5⟩
                                 have HB5 := Lib.hid hb5
                                 have pm0 : w5.cell? ⟨nb, no + bn * 13, none⟩ = some (.int .u8 m.kind) := HLm.out _ HB5.out 0 _ rfl
                                 have pm1 := HLm.out _ HB5.out 1 _ rfl
                                 have pm2 := HLm.out _ HB5.out 2 _ rfl
                                 have pm3 := HLm.out _ HB5.out 3 _ rfl
                                 have pm4 := HLm.out _ HB5.out 4 _ rfl
                                 have pm5 := HLm.out _ HB5.out 5 _ rfl
                                 have pm6 := HLm.out _ HB5.out 6 _ rfl
                                 have pm7 := HLm.out _ HB5.out 7 _ rfl
                                 have pm8 := HLm.out _ HB5.out 8 _ rfl
                                 have pm9 := HLm.out _ HB5.out 9 _ rfl
                                 have pm10 := HLm.out _ HB5.out 10 _ rfl
                                 have pm11 := HLm.out _ HB5.out 11 _ rfl
                                 have pm12 := HLm.out _ HB5.out 12 _ rfl
                                 clear hb5)
                              | (go_at_call 13
                                 refine (HLD.out _ HB5.out).mono ?_
                                 rintro e w6 ⟨rfl, hb6⟩
                                 have HB6 := Lib.hid (HB5.out.trans (hb6.mono HB5.out.size))
                                 clear hb6))
              go_loopw [149] (fun v149 wr => ∃ k : Nat, v149 = .int .i64 k ∧ k ≤ d + 1 ∧ Hid (Below wo.heap.size wo wr)) (fun v149 _ => d + 1 - (intOf v149).toNat)
              case atStart => exact ⟨0, rfl, Nat.zero_le _, HB6⟩
              case round =>
                obtain ⟨k, rfl, hk, HB⟩ := hrel
                by_cases hlt : k < d + 1
                · obtain ⟨x, hx⟩ : ∃ x, l[k]? = some x := ⟨l[k]'(by rw [HWR.out.2]; exact hlt), List.getElem?_eq_getElem _⟩
                  obtain ⟨j, rfl, hjN⟩ := HOK.out.1.1 k x hx
                  have xk : wr.cell? ⟨wb, k, none⟩ = some (.int .i64 (j : Int)) := cmap_below HB.out _ _ _ (HWC.out k _ hx)
                  have k0 : (0 : Int) ≤ k := by omega
                  have kd : (k : Int) < ((d + 1 : Nat) : Int) := by omega
                  have kd2 : (k : Int) < (d : Int) + 1 := by omega
                  have j0 : (0 : Int) ≤ j := by omega
                  have jN : (j : Int) < g.nodes.length := by omega
                  cases k with
                  | zero =>
                    have z0 : ((0 : Nat) : Int) = 0 := rfl
                    rw [z0]
                    clear hx k0 kd kd2
                    go_wp2
                    go_roundw
                    case rel => exact ⟨1, rfl, by omega, HB⟩
                    case measure => simp [intOf]
                  | succ k =>
                    obtain ⟨y, hy⟩ : ∃ y, l[k]? = some y := ⟨l[k]'(by rw [HWR.out.2]; omega), List.getElem?_eq_getElem _⟩
                    obtain ⟨jy, rfl, hjyN⟩ := HOK.out.1.1 k y hy
                    obtain ⟨np, hnp, hfp, -⟩ := HOK.out.1.2.1 k _ _ hy hx
                    rw [Int.toNat_natCast] at hnp
                    have yk : wr.cell? ⟨wb, k, none⟩ = some (.int .i64 (jy : Int)) := cmap_below HB.out _ _ _ (HWC.out k _ hy)
                    have jy0 : (0 : Int) ≤ jy := by omega
                    have jyN : (jy : Int) < g.nodes.length := by omega
                    have kk0 : (0 : Int) ≤ k := by omega
                    have hbw5 : Below w.heap.size w wr := HB0.out.trans (HB.out.mono HB0.out.size)
                    obtain ⟨nb', no', e', hcp⟩ := HN.out.2.2.at_ hnp
                    injection e' with e'
                    injection e' with e5 e6
                    subst e5 e6
                    have HLp : Hid (∀ j v, np.cells[j]? = some v → wr.cell? ⟨nb, no + jy * 13 + j, none⟩ = some v) := Lib.hid fun j v hj => cmap_below hbw5 _ _ _ (hcp j v hj)
                    have HFP := Lib.hid hfp
                    have HRF := Lib.hid (rfollows_calls np wr)
                    have HBW5 := Lib.hid hbw5
                    have sx : wr.cell? ⟨wb, k + 1, none⟩ = some (.int .i64 (j : Int)) := xk
                    have s1 : ((k + 1 : Nat) : Int) = (k : Int) + 1 := by omega
                    rw [s1]
                    have kp : decide ((0 : Int) < (k : Int) + 1) = true := decide_eq_true (by omega)
                    by_cases hkd : k + 1 < d
                    · obtain ⟨z, hz⟩ : ∃ z, l[k + 1 + 1]? = some z := ⟨l[k + 1 + 1]'(by rw [HWR.out.2]; omega), List.getElem?_eq_getElem _⟩
                      obtain ⟨nx, hnx, -, hdr⟩ := HOK.out.1.2.1 (k + 1) _ _ hx hz
                      rw [Int.toNat_natCast] at hnx
                      obtain ⟨nb', no', e', hcx⟩ := HN.out.2.2.at_ hnx
                      injection e' with e'
                      injection e' with e5 e6
                      subst e5 e6
                      have HLx : Hid (∀ w5, Below wr.heap.size wr w5 → ∀ i v, nx.cells[i]? = some v → w5.cell? ⟨nb, no + j * 13 + i, none⟩ = some v) := Lib.hid fun w5 h5 i v hi => cmap_below h5 _ _ _ (cmap_below HBW5.out _ _ _ (hcx i v hi))
                      have HRD := Lib.hid (fun w5 => rdrain_calls nx w5)
                      rw [hdr] at HRD
                      have dk : decide ((k : Int) + 1 < (d : Int)) = true := decide_eq_true (by omega)
                      clear hz hnx hdr hcx hx hy hnp hfp hcp hbw5 hkd xk k0 kd
                      have pp0 : wr.cell? ⟨nb, no + jy * 13, none⟩ = some (.int .u8 np.kind) := HLp.out 0 _ rfl
                      have pp1 := HLp.out 1 _ rfl
                      have pp2 := HLp.out 2 _ rfl
                      have pp3 := HLp.out 3 _ rfl
                      have pp4 := HLp.out 4 _ rfl
                      have pp5 := HLp.out 5 _ rfl
                      have pp6 := HLp.out 6 _ rfl
                      have pp7 := HLp.out 7 _ rfl
                      have pp8 := HLp.out 8 _ rfl
                      have pp9 := HLp.out 9 _ rfl
                      have pp10 := HLp.out 10 _ rfl
                      have pp11 := HLp.out 11 _ rfl
                      have pp12 := HLp.out 12 _ rfl
                      go_wp2_with (first
                        | (go_at_call 14
                           refine (HRF.out).mono ?_
                           rintro e w7 ⟨fv, rfl, hf, hb7⟩
                           obtain ⟨fA, fc, rfl, -⟩ := id hf
                           have HB7 := Lib.hid hb7
                           have hha := has11_calls _ (fol np) (j : Int) w7 (hf.mono (part_le _ _ _))
                           rw [decide_eq_true HFP.out] at hha
                           have HHA := Lib.hid hha
                           have yk7 := cmap_below hb7 _ _ _ yk
                           have px0 : w7.cell? ⟨nb, no + j * 13, none⟩ = some (.int .u8 nx.kind) := HLx.out _ HB7.out 0 _ rfl
                           have px1 := HLx.out _ HB7.out 1 _ rfl
                           have px2 := HLx.out _ HB7.out 2 _ rfl
                           have px3 := HLx.out _ HB7.out 3 _ rfl
                           have px4 := HLx.out _ HB7.out 4 _ rfl
                           have px5 := HLx.out _ HB7.out 5 _ rfl
                           have px6 := HLx.out _ HB7.out 6 _ rfl
                           have px7 := HLx.out _ HB7.out 7 _ rfl
                           have px8 := HLx.out _ HB7.out 8 _ rfl
                           have px9 := HLx.out _ HB7.out 9 _ rfl
                           have px10 := HLx.out _ HB7.out 10 _ rfl
                           have px11 := HLx.out _ HB7.out 11 _ rfl
                           have px12 := HLx.out _ HB7.out 12 _ rfl
                           clear hb7 hf hha)
                        | (go_at_call 7
                           refine (HHA.out).mono ?_
                           rintro e w8 ⟨rfl, rfl⟩)
                        | (go_at_call 15
                           refine (HRD.out w7).mono ?_
                           rintro e w9 ⟨rfl, hb9⟩
                           have HB9 := Lib.hid (HB7.out.trans (hb9.mono HB7.out.size))
                           clear hb9))
                      go_roundw
                      case rel => exact ⟨k + 1 + 1, by go_num, by omega, Lib.hid (HB.out.trans (HB9.out.mono HB.out.size))⟩
                      case measure => simp [intOf]; omega
                    · have dk : decide ((k : Int) + 1 < (d : Int)) = false := decide_eq_false (by omega)
                      clear hx hy hnp hfp hcp hbw5 xk k0 kd
                      have pp0 : wr.cell? ⟨nb, no + jy * 13, none⟩ = some (.int .u8 np.kind) := HLp.out 0 _ rfl
                      have pp1 := HLp.out 1 _ rfl
                      have pp2 := HLp.out 2 _ rfl
                      have pp3 := HLp.out 3 _ rfl
                      have pp4 := HLp.out 4 _ rfl
                      have pp5 := HLp.out 5 _ rfl
                      have pp6 := HLp.out 6 _ rfl
                      have pp7 := HLp.out 7 _ rfl
                      have pp8 := HLp.out 8 _ rfl
                      have pp9 := HLp.out 9 _ rfl
                      have pp10 := HLp.out 10 _ rfl
                      have pp11 := HLp.out 11 _ rfl
                      have pp12 := HLp.out 12 _ rfl
                      go_wp2_with (first
                        | (go_at_call 14
                           refine (HRF.out).mono ?_
                           rintro e w7 ⟨fv, rfl, hf, hb7⟩
                           obtain ⟨fA, fc, rfl, -⟩ := id hf
                           have HB7 := Lib.hid hb7
                           have hha := has11_calls _ (fol np) (j : Int) w7 (hf.mono (part_le _ _ _))
                           rw [decide_eq_true HFP.out] at hha
                           have HHA := Lib.hid hha
                           have yk7 := cmap_below hb7 _ _ _ yk
                           clear hb7 hf hha)
                        | (go_at_call 7
                           refine (HHA.out).mono ?_
                           rintro e w8 ⟨rfl, rfl⟩))
                      go_roundw
                      case rel => exact ⟨k + 1 + 1, by go_num, by omega, Lib.hid (HB.out.trans (HB7.out.mono HB.out.size))⟩
                      case measure => simp [intOf]; omega
                · obtain rfl : k = d + 1 := by omega
                  go_wp2
                  go_ret
                  exact ⟨rfl, HB0.out.trans (HB.out.mono HB0.out.size)⟩
    · have hne := wayR_err (u := u) (t := t) (a := a) (b := b) (by rw [hwr0]; exact he)
      rw [hwr0] at hne
      simp only at hne
      obtain ⟨rfl, rfl⟩ := hne
      have HWR := Lib.hid (And.intro hwr0 trivial)
      have d1 : (er != 0) = true := by simp [he]
      clear he hwr0 hc
      go_enter Tryd.func4, Tryd.ntmps4
      go_wp2_with (first
        | (go_at_call 5
           refine (HLV.out _ HBX.out.2).mono ?_
           rintro e w1 ⟨rfl, hb1⟩
           have hbx1 := HBX.out.1.below hb1 HBX.out.1.lt
           have x0 := hbx1.cell 0
           have x1 := hbx1.cell 1
           have x2 := hbx1.cell 2
           have H1 := Lib.hid (And.intro (HBX.out.2.trans (hb1.mono HBX.out.2.size)) hbx1)
           clear hb1 hbx1)
        | (go_at_call 10
           refine (HWY.out _ H1.out.1).mono ?_
           rintro e w2 ⟨r, rfl, hr, hb2⟩
           rw [HWR.out.1] at hr ⊢
           obtain ⟨rA, rc, rfl, -⟩ := own_slice hr
           have hbx2 := H1.out.2.below hb2 H1.out.2.lt
           have x0 := hbx2.cell 0
           have x1 := hbx2.cell 1
           have x2 := hbx2.cell 2
           have H2 := Lib.hid (And.intro (H1.out.1.trans (hb2.mono H1.out.1.size)) (And.intro hbx2 hr))
           clear hb2 hbx2 hr)
        | (go_at_call 11
           refine (HCL.out _ H2.out.1).mono ?_
           rintro e w3 ⟨cv, rfl, hcv, hb3⟩
           obtain ⟨cA, cc, rfl, -⟩ := id hcv
           have hbx3 := H2.out.2.1.below hb3 H2.out.2.1.lt
           have x0 := hbx3.cell 0
           have x1 := hbx3.cell 1
           have x2 := hbx3.cell 2
           have H3 := Lib.hid (And.intro (H2.out.1.trans (hb3.mono H2.out.1.size)) (And.intro hbx3 (And.intro hcv hb3)))
           clear hb3 hbx3 hcv))
      go_ret
      exact ⟨rfl, H3.out.1⟩
  · have HCL := Lib.hid (show ∀ w1, Below w.heap.size w w1 → Calls Tryd.prog 11 #[.agg #[.slice sA u.shared.length sc, lv, .slice gA u.graphs.length gc]] w1 fun e w' => e = .returned (.tuple #[.slice none 0 0, .int .i64 60]) ∧ Below w1.heap.size w1 w' from fun w1 h1 => (hcl w1 h1).mono fun e w' hh => by
      rcases hh with ⟨h, _⟩ | ⟨_, h⟩
      · exact absurd h hc
      · exact h)
    have hw60 : wayR u t a b = ([], false, 60) := by
      unfold wayR
      rw [if_neg (by rw [askE_bad hc]; decide), askE_bad hc]
    rw [hw60] at hwr0
    obtain ⟨rfl, rfl, rfl⟩ : [] = l ∧ false = is_ ∧ 60 = er := by
      injection hwr0 with h1 h2
      injection h2 with h2 h3
      exact ⟨h1, h2, h3⟩
    have HWR := Lib.hid (And.intro hw60 trivial)
    clear hcl hwr0 hw60 hc
    go_enter Tryd.func4, Tryd.ntmps4
    go_wp2_with (first
      | (go_at_call 5
         refine (HLV.out _ HBX.out.2).mono ?_
         rintro e w1 ⟨rfl, hb1⟩
         have hbx1 := HBX.out.1.below hb1 HBX.out.1.lt
         have x0 := hbx1.cell 0
         have x1 := hbx1.cell 1
         have x2 := hbx1.cell 2
         have H1 := Lib.hid (And.intro (HBX.out.2.trans (hb1.mono HBX.out.2.size)) hbx1)
         clear hb1 hbx1)
      | (go_at_call 10
         refine (HWY.out _ H1.out.1).mono ?_
         rintro e w2 ⟨r, rfl, hr, hb2⟩
         rw [HWR.out.1] at hr ⊢
         obtain ⟨rA, rc, rfl, -⟩ := own_slice hr
         have hbx2 := H1.out.2.below hb2 H1.out.2.lt
         have x0 := hbx2.cell 0
         have x1 := hbx2.cell 1
         have x2 := hbx2.cell 2
         have H2 := Lib.hid (And.intro (H1.out.1.trans (hb2.mono H1.out.1.size)) (And.intro hbx2 hr))
         clear hb2 hbx2 hr)
      | (go_at_call 11
         refine (HCL.out _ H2.out.1).mono ?_
         rintro e w3 ⟨rfl, hb3⟩
         have H3 := Lib.hid (H2.out.1.trans (hb3.mono H2.out.1.size))
         clear hb3))
    go_ret
    exact ⟨rfl, H3.out⟩
end Go.Proofs.YtmkpjiahkepigaaDoor
