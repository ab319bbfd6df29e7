import Derived.Test.YtffgnjgphkdodaaGreatDoorP116
import Derived.Test.YtffgnjgphkdodaaGreatDoorP125
/- The walk of DelayOpens. -/
namespace Go.Proofs.YtffgnjgphkdodaaGreatDoor
open Go Go.RowKit
theorem own_boolsq {w : World} {b n : Nat} {t : TypeId} {v : Value} {l : List Bool} (h : w.ownsRow b t 1 v n (bools l)) : Bools (cmap w) v l :=
  (Sl_of_own (f := Value.bool) (R := BoolC) (fun _ _ _ _ h => h) h (Nat.le_refl _) (Nat.le_refl _)).mono (part_le _ _ _)
set_option maxHeartbeats 400000 in
theorem dbools_calls (v1 v2 : Value) (l : List Bool) (w : World) (h1 : Bools (cmap w) v1 l) (h2 : Bools (cmap w) v2 l) :
    Calls Tryz.prog 18 #[v1, v2] w fun e w' => e = .returned (.bool true) ∧ ∃ n, w' = w.drewN n := by
  obtain ⟨A1, c1, rfl, -⟩ := id h1
  obtain ⟨A2, c2, rfl, -⟩ := id h2
  have b1 := h1.len.2.2
  have hb : ((l.length : Int) != (l.length : Int)) = false := by simp
  go_enter Tryz.func18, Tryz.ntmps18
  go_wp2
  go_loopw [13] (fun v wr => ∃ (k n : Nat), v = .int .i64 k ∧ k ≤ l.length ∧ wr = w.drewN n) (fun v _ => l.length - (intOf v).toNat)
  case atStart => exact ⟨0, 0, rfl, by omega, rfl⟩
  case round =>
    obtain ⟨k, n, rfl, hk, rfl⟩ := hrel
    by_cases hlt : k < l.length
    · obtain ⟨x, hx⟩ : ∃ x, l[k]? = some x := ⟨_, List.getElem?_eq_getElem hlt⟩
      obtain ⟨bb1, o1, rfl, g1⟩ := h1.at_ hx
      obtain ⟨bb2, o2, rfl, g2⟩ := h2.at_ hx
      rw [Nat.mul_one] at g1 g2
      have g1' : w.cell? ⟨bb1, o1 + k, none⟩ = some (.bool x) := g1
      have g2' : w.cell? ⟨bb2, o2 + k, none⟩ = some (.bool x) := g2
      have hk0 : (0 : Int) ≤ k := by omega
      have hki : (k : Int) < l.length := by omega
      have hne : (x != x) = false := by simp
      clear g1 g2 hx
      cases x <;> (
        go_wp2
        go_quiet (fail)
        go_wp2
        go_roundw
        case rel => exact ⟨k + 1, _, by go_num, by omega, rfl⟩
        case measure => simp [intOf]; omega)
    · go_wp2
      go_ret
      exact ⟨rfl, _, rfl⟩
set_option maxRecDepth 100000 in
set_option maxHeartbeats 4000000 in
theorem delayOpens_calls (u : Unit_) (cs : List Value) (t : Int) (v1 : Value) (F : List Int) (v2 : Value) (M : List (List Int)) (w : World) (hT : Tab w) (hu : UnitV (cmap w) cs u) (hok : UOk u) (h1 : Ints (cmap w) v1 F) (h2 : Ints2 (cmap w) v2 M) :
    Calls Tryz.prog 3 #[.agg cs.toArray, .int .i64 t, v1, v2] w fun e w' => e = .returned (.bool true) ∧ Below w.heap.size w w' := by
  have HLV := Lib.hid fun w1 (h : Below w.heap.size w w1) => lives11_calls w1 (hT.below h)
  have HO1 := Lib.hid fun w1 (h : Below w.heap.size w w1) => open_calls u cs t v1 F w1 (hT.below h) (hu.mono (cmap_below h)) hok (h1.mono (cmap_below h))
  have HO2 := Lib.hid fun w1 (h : Below w.heap.size w w1) => ropen_calls u cs t v1 F w1 (hu.mono (cmap_below h)) hok (h1.mono (cmap_below h))
  have HL1 := Lib.hid fun w1 (h : Below w.heap.size w w1) => loads_calls u cs t v1 F w1 (hT.below h) (hu.mono (cmap_below h)) hok (h1.mono (cmap_below h))
  have HL2 := Lib.hid fun w1 (h : Below w.heap.size w w1) => rloads_calls u cs t v1 F w1 (hu.mono (cmap_below h)) hok (h1.mono (cmap_below h))
  have HS1 := Lib.hid fun w1 (h : Below w.heap.size w w1) => safe_calls u cs v2 M w1 (hT.below h) (hu.mono (cmap_below h)) hok (h2.mono (cmap_below h))
  have HS2 := Lib.hid fun w1 (h : Below w.heap.size w w1) => rsafe_calls u cs v2 M w1 (hu.mono (cmap_below h)) hok (h2.mono (cmap_below h))
  obtain ⟨sv, lv, gv, rfl, -, -, -⟩ := hu
  have hbx := Blk.new w 25 [sv, lv, gv]
  have hb0 := Below_alloc' w (.cells #[sv, lv, gv] 25)
  have HBX := Lib.hid (And.intro hbx hb0)
  obtain ⟨f1A, f1c, rfl, -⟩ := id h1
  obtain ⟨f2A, f2c, rfl, -⟩ := id h2
  clear hbx hb0 hT h1 h2 hok
  obtain ⟨o1, ho1⟩ : ∃ o, openR u t F = o := ⟨_, rfl⟩
  obtain ⟨l1, hl1⟩ : ∃ o, loadsR u t F = o := ⟨_, rfl⟩
  obtain ⟨s1, hs1⟩ : ∃ o, safeR u M = o := ⟨_, rfl⟩
  obtain ⟨bl, e1⟩ := o1
  obtain ⟨ll, e2⟩ := l1
  obtain ⟨sb, e3⟩ := s1
  unfold OpenPost at HO1 HO2
  simp only [ho1] at HO1 HO2
  unfold LoadsPost at HL1 HL2
  simp only [hl1] at HL1 HL2
  unfold SafePost at HS1 HS2
  simp only [hs1] at HS1 HS2
  clear ho1 hl1 hs1
  have q1 : (e1 == e1) = true := by simp
  have q2 : (e2 == e2) = true := by simp
  have q3 : (e3 == e3) = true := by simp
  have q4 : (sb == sb) = true := by simp
  go_enter Tryz.func3, Tryz.ntmps3
  go_wp2_with (first
    | (go_at_call 11
       refine (HO1.out _ HBX.out.2).mono ?_
       rintro e w1 ⟨a, rfl, ha, hb1⟩
       obtain ⟨aA, ac, rfl, -⟩ := own_slice ha
       have hbx1 := HBX.out.1.below hb1 HBX.out.1.lt
       have x0 := hbx1.cell 0
       have x1 := hbx1.cell 1
       have x2 := hbx1.cell 2
       have H1 := Lib.hid (And.intro (HBX.out.2.trans (hb1.mono HBX.out.2.size)) (And.intro hbx1 (own_boolsq ha)))
       clear hb1 hbx1 ha)
    | (go_at_call 12
       refine (HO2.out _ H1.out.1).mono ?_
       rintro e w2 ⟨b, rfl, hb, hb2⟩
       obtain ⟨bA, bc, rfl, -⟩ := own_slice hb
       have hbx2 := H1.out.2.1.below hb2 H1.out.2.1.lt
       have x0 := hbx2.cell 0
       have x1 := hbx2.cell 1
       have x2 := hbx2.cell 2
       have H2 := Lib.hid (And.intro (H1.out.1.trans (hb2.mono H1.out.1.size)) (And.intro hbx2 (And.intro (H1.out.2.2.mono (cmap_below hb2)) (own_boolsq hb))))
       clear hb2 hbx2 hb)
    | (go_at_call 13
       refine (HL1.out _ H2.out.1).mono ?_
       rintro e w3 ⟨c, rfl, hc, hb3⟩
       obtain ⟨cA, cc, rfl, -⟩ := own_slice hc
       have hbx3 := H2.out.2.1.below hb3 H2.out.2.1.lt
       have x0 := hbx3.cell 0
       have x1 := hbx3.cell 1
       have x2 := hbx3.cell 2
       have H3 := Lib.hid (And.intro (H2.out.1.trans (hb3.mono H2.out.1.size)) (And.intro hbx3 (And.intro (Below.refl w2.heap.size w2 |>.trans hb3) (own_intsq hc))))
       clear hb3 hbx3 hc)
    | (go_at_call 14
       refine (HL2.out _ H3.out.1).mono ?_
       rintro e w4 ⟨d, rfl, hd, hb4⟩
       obtain ⟨dA, dc, rfl, -⟩ := own_slice hd
       have hbx4 := H3.out.2.1.below hb4 H3.out.2.1.lt
       have x0 := hbx4.cell 0
       have x1 := hbx4.cell 1
       have x2 := hbx4.cell 2
       have H4 := Lib.hid (And.intro (H3.out.1.trans (hb4.mono H3.out.1.size)) (And.intro hbx4 (And.intro (H3.out.2.2.1.trans (hb4.mono H3.out.2.2.1.size)) (And.intro (H3.out.2.2.2.mono (cmap_below hb4)) (own_intsq hd)))))
       clear hb4 hbx4 hd)
    | (go_at_call 15
       refine (HS1.out _ H4.out.1).mono ?_
       rintro e w5 ⟨rfl, hb5⟩
       have hbx5 := H4.out.2.1.below hb5 H4.out.2.1.lt
       have x0 := hbx5.cell 0
       have x1 := hbx5.cell 1
       have x2 := hbx5.cell 2
       have H5 := Lib.hid (And.intro (H4.out.1.trans (hb5.mono H4.out.1.size)) hb5)
       clear hb5 hbx5)
    | (go_at_call 16
       refine (HS2.out _ H5.out.1).mono ?_
       rintro e w6 ⟨rfl, hb6⟩
       have H6 := Lib.hid (And.intro (H5.out.1.trans (hb6.mono H5.out.1.size)) (H5.out.2.trans (hb6.mono H5.out.2.size)))
       clear hb6)
    | (go_at_call 17
       refine (HLV.out _ H6.out.1).mono ?_
       rintro e w7 ⟨rfl, hb7⟩
       have h47 := H6.out.2.trans (hb7.mono H6.out.2.size)
       have h27 := H4.out.2.2.1.trans (h47.mono H4.out.2.2.1.size)
       have H7 := Lib.hid (And.intro (H6.out.1.trans (hb7.mono H6.out.1.size)) (And.intro (dbools_calls _ _ bl w7 (H2.out.2.2.1.mono (cmap_below h27)) (H2.out.2.2.2.mono (cmap_below h27))) (And.intro (H4.out.2.2.2.1.mono (cmap_below h47)) (H4.out.2.2.2.2.mono (cmap_below h47)))))
       clear hb7 h47 h27)
    | (go_at_call 18
       refine (H7.out.2.1).mono ?_
       rintro e w8 ⟨rfl, n8, rfl⟩
       have hbd : Below w7.heap.size w7 (w7.drewN n8) := below_drewN (Below.refl _ _) _
       have H8 := Lib.hid (dints_calls _ _ ll (w7.drewN n8) (H7.out.2.2.1.mono (cmap_below hbd)) (H7.out.2.2.2.mono (cmap_below hbd)))
       clear hbd)
    | (go_at_call 19
       refine (H8.out).mono ?_
       rintro e w9 ⟨rfl, n9, rfl⟩))
  go_ret
  exact ⟨rfl, below_drewN H7.out.1 _⟩
end Go.Proofs.YtffgnjgphkdodaaGreatDoor
