import Derived.Test.YtffgnjgphkdodaaGreatDoorP116
import Derived.Test.YtffgnjgphkdodaaGreatDoorP123
import Derived.Test.YtffgnjgphkdodaaGreatDoorP124
/- The walk of DelayPairs. -/
namespace Go.Proofs.YtffgnjgphkdodaaGreatDoor
open Go Go.RowKit
set_option maxHeartbeats 800000 in
theorem delays_calls (v1 v2 : Value) (l : List (Int × Int)) (b1 b2 : Nat) (w : World) (h1 : w.ownsRow b1 49 2 v1 l.length (pairsV l)) (h2 : w.ownsRow b2 49 2 v2 l.length (pairsV l)) (hl : l.length ≤ 65536) :
    Calls Tryz.prog 24 #[v1, v2] w fun e w' => e = .returned (.bool true) ∧ ∃ n, w' = w.drewN n := by
  obtain ⟨A1, c1, rfl, -⟩ := own_slice h1
  obtain ⟨A2, c2, rfl, -⟩ := own_slice h2
  have hb : ((l.length : Int) != (l.length : Int)) = false := by simp
  have hm : Tryz.prog.eqGuardType Tryz.prog.depth 49 = false := by kernel_rfl
  go_enter Tryz.func24, Tryz.ntmps24
  go_wp2
  go_loopw [13] (fun v wr => ∃ (k n : Nat), v = .int .i64 k ∧ k ≤ l.length ∧ wr = w.drewN n) (fun v _ => l.length - (intOf v).toNat)
  case atStart => exact ⟨0, 0, rfl, by omega, rfl⟩
  case round =>
    obtain ⟨k, n, rfl, hk, rfl⟩ := hrel
    by_cases hlt : k < l.length
    · obtain ⟨⟨qa, qb⟩, hx⟩ : ∃ x, l[k]? = some x := ⟨_, List.getElem?_eq_getElem hlt⟩
      obtain ⟨p1, pc1, e, -, -, -, hp1⟩ := own_form h1 (by omega)
      injection e with e _ e3
      subst e e3
      obtain ⟨p2, pc2, e, -, -, -, hp2⟩ := own_form h2 (by omega)
      injection e with e _ e3
      subst e e3
      have q1 := hp1 (k * 2 + 0) (by omega)
      have q2 := hp1 (k * 2 + 1) (by omega)
      have q3 := hp2 (k * 2 + 0) (by omega)
      have q4 := hp2 (k * 2 + 1) (by omega)
      rw [show (pairsV l)[k * 2 + 0]? = some (.int .i64 qa) from fm_at (f := pairV) pairV_len hx (j := 0) rfl] at q1 q3
      rw [show (pairsV l)[k * 2 + 1]? = some (.int .i64 qb) from fm_at (f := pairV) pairV_len hx (j := 1) rfl] at q2 q4
      rw [Nat.add_zero] at q1 q3
      have hk0 : (0 : Int) ≤ k := by omega
      have hki : (k : Int) < l.length := by omega
      have hks : (k : Int) ≤ 65536 := by omega
      have eqd := eq_delay qa qb qa qb
      have z1 : (qa == qa) = true := by simp
      have z2 : (qb == qb) = true := by simp
      clear hx hp1 hp2
      go_wp2
      go_quiet (fail)
      go_wp2
      go_roundw
      case rel => exact ⟨k + 1, _, by go_num, by omega, rfl⟩
      case measure => simp [intOf]; omega
    · go_wp2
      go_ret
      exact ⟨rfl, _, rfl⟩
theorem pairsR_length (u : Unit_) (t : Int) : (pairsR u t).1.length ≤ 65536 := by
  unfold pairsR
  split
  · split
    · split
      · rename_i h; exact h
      · simp
    · simp
  · simp
set_option maxRecDepth 100000 in
set_option maxHeartbeats 4000000 in
theorem delayPairs_calls (u : Unit_) (cs : List Value) (t a b : Int) (w : World) (hT : Tab w) (hu : UnitV (cmap w) cs u) (hok : UOk u) :
    Calls Tryz.prog 4 #[.agg cs.toArray, .int .i64 t, .int .i64 a, .int .i64 b] w fun e w' => e = .returned (.bool true) ∧ Below w.heap.size w w' := by
  have HLV := Lib.hid fun w1 (h : Below w.heap.size w w1) => lives11_calls w1 (hT.below h)
  have HP1 := Lib.hid fun w1 (h : Below w.heap.size w w1) => pairs_calls u cs t w1 (hT.below h) (hu.mono (cmap_below h)) hok
  have HP2 := Lib.hid fun w1 (h : Below w.heap.size w w1) => rpairs_calls u cs t w1 (hu.mono (cmap_below h)) hok
  have HW1 := Lib.hid fun w1 (h : Below w.heap.size w w1) => way_calls u cs t a b w1 (hT.below h) (hu.mono (cmap_below h)) hok
  have HW2 := Lib.hid fun w1 (h : Below w.heap.size w w1) => rway_calls u cs t a b w1 (hu.mono (cmap_below h)) hok
  obtain ⟨sv, lv, gv, rfl, -, -, -⟩ := hu
  have hbx := Blk.new w 25 [sv, lv, gv]
  have hb0 := Below_alloc' w (.cells #[sv, lv, gv] 25)
  have HBX := Lib.hid (And.intro hbx hb0)
  have hpl := pairsR_length u t
  clear hbx hb0 hT hok
  obtain ⟨p1, hp1⟩ : ∃ o, pairsR u t = o := ⟨_, rfl⟩
  obtain ⟨y1, hy1⟩ : ∃ o, wayR u t a b = o := ⟨_, rfl⟩
  rw [hp1] at hpl
  obtain ⟨pl, e1⟩ := p1
  obtain ⟨yl, yb, e2⟩ := y1
  unfold PairsPost at HP1 HP2
  simp only [hp1] at HP1 HP2
  unfold WayPost at HW1 HW2
  simp only [hy1] at HW1 HW2
  have HPL : Hid (pl.length ≤ 65536) := Lib.hid hpl
  clear hp1 hy1 hpl
  have q1 : (e1 == e1) = true := by simp
  have q2 : (e2 == e2) = true := by simp
  have q3 : (yb == yb) = true := by simp
  go_enter Tryz.func4, Tryz.ntmps4
  go_wp2_with (first
    | (go_at_call 20
       refine (HP1.out _ HBX.out.2).mono ?_
       rintro e w1 ⟨r1, rfl, ha, hb1⟩
       obtain ⟨aA, ac, rfl, -⟩ := own_slice ha
       have hbx1 := HBX.out.1.below hb1 HBX.out.1.lt
       have x0 := hbx1.cell 0
       have x1 := hbx1.cell 1
       have x2 := hbx1.cell 2
       have H1 := Lib.hid (And.intro (HBX.out.2.trans (hb1.mono HBX.out.2.size)) (And.intro hbx1 ha))
       clear hb1 hbx1 ha)
    | (go_at_call 21
       refine (HP2.out _ H1.out.1).mono ?_
       rintro e w2 ⟨r2, rfl, hb, hb2⟩
       obtain ⟨bA, bc, rfl, -⟩ := own_slice hb
       have hbx2 := H1.out.2.1.below hb2 H1.out.2.1.lt
       have x0 := hbx2.cell 0
       have x1 := hbx2.cell 1
       have x2 := hbx2.cell 2
       have H2 := Lib.hid (And.intro (H1.out.1.trans (hb2.mono H1.out.1.size)) (And.intro hbx2 (And.intro (own_below H1.out.2.2 hb2) hb)))
       clear hb2 hbx2 hb)
    | (go_at_call 22
       refine (HW1.out _ H2.out.1).mono ?_
       rintro e w3 ⟨c, rfl, hc, hb3⟩
       obtain ⟨cA, cc, rfl, -⟩ := own_slice hc
       have hbx3 := H2.out.2.1.below hb3 H2.out.2.1.lt
       have x0 := hbx3.cell 0
       have x1 := hbx3.cell 1
       have x2 := hbx3.cell 2
       have H3 := Lib.hid (And.intro (H2.out.1.trans (hb3.mono H2.out.1.size)) (And.intro hbx3 (And.intro (Below.refl w2.heap.size w2 |>.trans hb3) (own_intsq hc))))
       clear hb3 hbx3 hc)
    | (go_at_call 23
       refine (HW2.out _ H3.out.1).mono ?_
       rintro e w4 ⟨d, rfl, hd, hb4⟩
       obtain ⟨dA, dc, rfl, -⟩ := own_slice hd
       have H4 := Lib.hid (And.intro (H3.out.1.trans (hb4.mono H3.out.1.size)) (And.intro (H3.out.2.2.1.trans (hb4.mono H3.out.2.2.1.size)) (And.intro (H3.out.2.2.2.mono (cmap_below hb4)) (own_intsq hd))))
       clear hb4 hd)
    | (go_at_call 17
       refine (HLV.out _ H4.out.1).mono ?_
       rintro e w7 ⟨rfl, hb7⟩
       have h27 := H4.out.2.1.trans (hb7.mono H4.out.2.1.size)
       have H7 := Lib.hid (And.intro (H4.out.1.trans (hb7.mono H4.out.1.size)) (And.intro (delays_calls _ _ pl _ _ w7 (own_below H2.out.2.2.1 h27) (own_below H2.out.2.2.2 h27) HPL.out) (And.intro (H4.out.2.2.1.mono (cmap_below hb7)) (H4.out.2.2.2.mono (cmap_below hb7)))))
       clear hb7 h27)
    | (go_at_call 24
       refine (H7.out.2.1).mono ?_
       rintro e w8 ⟨rfl, n8, rfl⟩
       have hbd : Below w7.heap.size w7 (w7.drewN n8) := below_drewN (Below.refl _ _) _
       have H8 := Lib.hid (dints_calls _ _ yl (w7.drewN n8) (H7.out.2.2.1.mono (cmap_below hbd)) (H7.out.2.2.2.mono (cmap_below hbd)))
       clear hbd)
    | (go_at_call 19
       refine (H8.out).mono ?_
       rintro e w9 ⟨rfl, n9, rfl⟩))
  go_ret
  exact ⟨rfl, below_drewN H7.out.1 _⟩
end Go.Proofs.YtffgnjgphkdodaaGreatDoor
