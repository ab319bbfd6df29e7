/- The row of SharingOwn. -/
import Derived.Test.YtkkmkjjbffpgnaaP57
import Derived.Test.YtkkmkjjbffpgnaaP56
import Derived.Test.YtkkmkjjbffpgnaaP59
import Derived.Test.YtkkmkjjbffpgnaaP22
import Derived.Test.YtkkmkjjbffpgnaaP20
import Derived.Test.YtkkmkjjbffpgnaaP58
/- The walk of the law SharingOwn. -/
namespace Go.Proofs.Ytkkmkjjbffpgnaa
open Go Go.RowKit
theorem tou_ok (u : Unit_) (cs : List Value) (w : World) (hu : UnitV (cmap w) cs u) (hok : UOk u) :
    Calls Try.prog 11 #[.agg cs.toArray] w fun e w' => ∃ A n c k, e = .returned (.tuple #[.slice A n c, .int .i64 k]) ∧ n ≤ 64 ∧ OkTous w' w.heap.size 42 3 (.slice A n c) n 4096 ∧ Below w.heap.size w w' := by
  refine (tou_own u cs w hu hok).mono ?_
  rintro e w' (⟨h1, v, rfl, h3, h4, h5⟩ | ⟨h1, rfl, h4⟩)
  · obtain ⟨A, c, rfl⟩ := h5.row.form
    exact ⟨A, _, c, 0, rfl, (checkF_none h1).shared, h5, h4⟩
  · exact ⟨none, 0, 0, 60, rfl, by omega, OkTous.nil _ _ _ _ _, h4⟩
theorem races_ok (u : Unit_) (cs : List Value) (w : World) (hu : UnitV (cmap w) cs u) (hok : UOk u) :
    Calls Try.prog 19 #[.agg cs.toArray] w fun e w' => ∃ A n c k, e = .returned (.tuple #[.slice A n c, .int .i64 k]) ∧ n ≤ 65536 ∧ OkRow w' w.heap.size 46 4 (.slice A n c) n ∧ Below w.heap.size w w' := by
  refine (races_own u cs w hu hok).mono ?_
  rintro e w' (⟨h1, h2, v, rfl, h3, h4, h5⟩ | ⟨k, h1, rfl, h4⟩)
  · obtain ⟨A, c, rfl⟩ := h5.form
    exact ⟨A, _, c, 0, rfl, h2, h5, h4⟩
  · exact ⟨none, 0, 0, k, rfl, by omega, OkRow.nil _ _ _ _, h4⟩
theorem owners_ok (u : Unit_) (cs : List Value) (w : World) (hu : UnitV (cmap w) cs u) (hok : UOk u) :
    Calls Try.prog 13 #[.agg cs.toArray] w fun e w' => ∃ A n c k, e = .returned (.tuple #[.slice A n c, .int .i64 k]) ∧ n ≤ 64 ∧ OkRow w' w.heap.size 3 1 (.slice A n c) n ∧ Below w.heap.size w w' := by
  refine (owners_own u cs w hu hok).mono ?_
  rintro e w' (⟨h1, v, rfl, h3, h4, h5⟩ | ⟨h1, rfl, h4⟩)
  · obtain ⟨A, c, rfl⟩ := h5.form
    exact ⟨A, _, c, 0, rfl, (checkF_none h1).shared, h5, h4⟩
  · exact ⟨none, 0, 0, 60, rfl, by omega, OkRow.nil _ _ _ _, h4⟩
set_option maxRecDepth 100000 in
set_option maxHeartbeats 8000000 in
theorem sharingOwn_calls (u : Unit_) (cs : List Value) (w : World) (hu : UnitV (cmap w) cs u) (hok : UOk u) (hz : USz u) :
    Calls Try.prog 4 #[.agg cs.toArray] w fun e w' => e = .returned (.bool true) ∧ Below w.heap.size w w' := by
  have hu0 := hu
  obtain ⟨sv, lv, gv, rfl, -, -, -⟩ := hu
  have hbx := Blk.new w 25 [sv, lv, gv]
  have hb0 := Below_alloc' w (.cells #[sv, lv, gv] 25)
  have hun : ∀ wr b (cs : List Value), Blk wr b 25 cs → ∀ j v, cs[j]? = some v → wr.cell? ⟨b, 0 + j, none⟩ = some v := fun wr b cs h j v hj => by rw [Nat.zero_add, h.cell]; exact hj
  have HUN := Lib.hid hun; clear hun
  have H1 := Lib.hid (tou_ok u); have H2 := Lib.hid (races_ok u); have H3 := Lib.hid (owners_ok u)
  go_enter Try.func4, Try.ntmps4
  go_wp2_with fail
  refine (lives9_calls _).mono ?_
  rintro e w1 ⟨rfl, hb1⟩
  have hw1 : Below w.heap.size w w1 := hb0.trans (hb1.mono (by simp))
  have hbx1 := hbx.below hb1 hbx.lt
  have HLD1 := Lib.hid (HUN.out _ _ _ hbx1)
  have hws1 : w.heap.size + 1 ≤ w1.heap.size := by have := hb1.size; simp at this; omega
  clear hb1 hbx
  go_wp2_with (first
    | (refine wpList_load_at rfl 25 _ rfl w.heap.size 0 rfl _ _ HLD1.out Try.underlying25 rfl (by kernel_rfl) ?_))
  refine (copyUnit_calls _ u _ (hu0.mono (cmap_below hw1)) hz).mono ?_
  rintro e w2 ⟨cs', rfl, hu2, hb2⟩
  have hown := hu2.unit.mono (part_le _ _ _)
  obtain ⟨sv1, lv1, gv1, rfl, q1, q2, q3⟩ := hu2.unit
  obtain ⟨sA1, sc1, rfl, -⟩ := q1
  obtain ⟨lA1, lc1, rfl, -⟩ := q2
  obtain ⟨gA1, gc1, rfl, -⟩ := q3
  have hw2 := hw1.trans (hb2.mono hw1.size)
  have hbx2 := hbx1.below hb2 hbx1.lt
  clear hbx1 HLD1
  have hws2 := hb2.size
  obtain ⟨W, hW⟩ : ∃ W, w2.alloc (.cells #[.slice sA1 u.shared.length sc1, .slice lA1 u.locks.length lc1, .slice gA1 u.graphs.length gc1] 25) = W := ⟨_, rfl⟩
  have hB : Blk W w2.heap.size 25 [.slice sA1 u.shared.length sc1, .slice lA1 u.locks.length lc1, .slice gA1 u.graphs.length gc1] := by rw [← hW]; exact Blk.new _ _ _
  have hbW : Below w2.heap.size w2 W := by rw [← hW]; exact Below_alloc' _ _
  have hszW : w2.heap.size + 1 = W.heap.size := by rw [← hW]; simp
  have hbxW := hbx2.below hbW hbx2.lt
  have hwW := hw2.trans (hbW.mono hw2.size)
  have hownW := hown.mono (cmap_below hbW)
  have HLDW : Hid (∀ j v, ([.slice sA1 u.shared.length sc1, .slice lA1 u.locks.length lc1, .slice gA1 u.graphs.length gc1] : List Value)[j]? = some v → (w2.alloc (.cells #[.slice sA1 u.shared.length sc1, .slice lA1 u.locks.length lc1, .slice gA1 u.graphs.length gc1] 25)).cell? ⟨w2.heap.size, 0 + j, none⟩ = some v) := Lib.hid (by rw [hW]; exact HUN.out _ _ _ hB)
  have HWE := Lib.hid hW
  clear hu2 hown hbx2 hb2 hbW hW
  go_wp2_with (first
    | (refine wpList_load_at rfl 25 _ rfl w2.heap.size 0 rfl _ _ HLDW.out Try.underlying25 rfl (by kernel_rfl) ?_))
  rw [HWE.out]
  clear HLDW
  refine (H1.out _ _ hownW hok).mono ?_
  rintro e w3 ⟨A3, n3, c3, k3, rfl, hn3, o3, hb3⟩
  have HLD3 := Lib.hid (HUN.out _ _ _ (hB.below hb3 hB.lt))
  have hs3 := hb3.size
  go_wp2_with (first
    | (refine wpList_load_at rfl 25 _ rfl w2.heap.size 0 rfl _ _ HLD3.out Try.underlying25 rfl (by kernel_rfl) ?_))
  refine (H2.out _ _ (hownW.mono (cmap_below hb3)) hok).mono ?_
  rintro e w4 ⟨A4, n4, c4, k4, rfl, hn4, o4, hb4⟩
  have hbw4 := hb3.trans (hb4.mono hs3)
  have HLD4 := Lib.hid (HUN.out _ _ _ (hB.below hbw4 hB.lt))
  have hs4 := hbw4.size
  clear HLD3
  go_wp2_with (first
    | (refine wpList_load_at rfl 25 _ rfl w2.heap.size 0 rfl _ _ HLD4.out Try.underlying25 rfl (by kernel_rfl) ?_))
  refine (H3.out _ _ (hownW.mono (cmap_below hbw4)) hok).mono ?_
  rintro e w5 ⟨A5, n5, c5, k5, rfl, hn5, o5, hb5⟩
  have hbw5 := hbw4.trans (hb5.mono hs4)
  have hs5 := hbw5.size
  have hO : OwnW W W.heap.size (.slice A3 n3 c3) (.slice A4 n4 c4) (.slice A5 n5 c5) n3 n4 n5 w5 :=
    ⟨(o3.below hb4).below hb5, (o4.low hs3).shape (Shape.below hb5), o5.low hs4, hbw5⟩
  have HO := Lib.hid hO
  clear HLD4 o3 o4 o5 hO hb3 hb4 hb5 hbw4 hbw5
  go_wp2
  go_loopw [36] (fun vI wr => ∃ i : Nat, vI = .int .i64 i ∧ i ≤ n3 ∧ Hid (OwnW W W.heap.size (.slice A3 n3 c3) (.slice A4 n4 c4) (.slice A5 n5 c5) n3 n4 n5 wr)) (fun vI _ => n3 - (intOf vI).toNat)
  case atStart => exact ⟨0, rfl, by omega, HO⟩
  case round =>
    obtain ⟨i, rfl, hi, HR⟩ := hrel
    clear HO
    by_cases hlt : i < n3
    · obtain ⟨g, c, a, b, ka, kb, hv, hbg, ca, cb, HH, hka, hkb, ra, rb⟩ := HR.out.l.at_ hlt
      injection hv with hv _ hvc
      subst hv
      subst hvc
      obtain ⟨aA, ac, rfl⟩ := ra.form
      obtain ⟨bA, bc, rfl⟩ := rb.form
      have HR0 := Lib.hid (And.intro ra (And.intro rb HR.out))
      clear ra rb HR HH
      have hi0 : (0 : Int) ≤ i := by omega
      have hil : (i : Int) < n3 := by omega
      go_wp2
      obtain ⟨wo, rfl⟩ : ∃ wo : World, wo = wr := ⟨_, rfl⟩
      go_loopw [45] (fun vK wr => ∃ j : Nat, vK = .int .i64 j ∧ j ≤ ka ∧ wr.cell? ⟨g, i * 2, none⟩ = some (.slice aA ka ac) ∧ wr.cell? ⟨g, i * 2 + 1, none⟩ = some (.slice bA kb bc) ∧ Hid (OkRow wr W.heap.size 3 1 (.slice aA ka ac) ka ∧ OkRow wr W.heap.size 3 1 (.slice bA kb bc) kb ∧ OwnW W W.heap.size (.slice (some ⟨g, 0, none⟩) n3 c3) (.slice A4 n4 c4) (.slice A5 n5 c5) n3 n4 n5 wr)) (fun vK _ => ka - (intOf vK).toNat)
      case atStart => exact ⟨0, rfl, by omega, ca, cb, HR0⟩
      case round =>
        obtain ⟨j, rfl, hj, hca, hcb, HR2⟩ := hrel
        clear ca cb HR0
        by_cases hltj : j < ka
        · obtain ⟨h, hc, x, hv2, hbh, hx, hfx, cur2, hh2⟩ := HR2.out.1.at_ hltj
          injection hv2 with hv2 _ hvc2
          subst hv2
          subst hvc2
          have hj0 : (0 : Int) ≤ j := by omega
          have hjl : (j : Int) < ka := by omega
          obtain ⟨cur3, hh3⟩ := HR2.out.2.2.l.row.block g rfl
          have hgh : g ≠ h := row_types hh3 hh2 int_ne_touch
          have hca3 : (wr.setCell ⟨h, j, none⟩ (.int .i64 99)).cell? ⟨g, i * 2, none⟩ = some (.slice (some ⟨h, 0, none⟩) ka ac) := (cell_far2 (heap_setCell_other wr ⟨h, j, none⟩ g _ hgh) _).trans hca
          have hcb3 : (wr.setCell ⟨h, j, none⟩ (.int .i64 99)).cell? ⟨g, i * 2 + 1, none⟩ = some (.slice bA kb bc) := (cell_far2 (heap_setCell_other wr ⟨h, j, none⟩ g _ hgh) _).trans hcb
          have HR3 := Lib.hid (And.intro (HR2.out.1.shape (Shape.setCell wr h j (.int .i64 99))) (And.intro (HR2.out.2.1.shape (Shape.setCell wr h j (.int .i64 99))) (HR2.out.2.2.put (v := .int .i64 99) (j := j) HR2.out.1 rfl)))
          clear hh2 hh3 HR2
          go_wp2
          go_roundw
          case rel => exact ⟨j + 1, by go_num, by omega, hca3, hcb3, HR3⟩
          case measure => simp [intOf]; omega
        · go_wp2
          obtain ⟨wp, rfl⟩ : ∃ wp : World, wp = wr := ⟨_, rfl⟩
          go_loopw [62] (fun vK wr => ∃ j : Nat, vK = .int .i64 j ∧ j ≤ kb ∧ wr.cell? ⟨g, i * 2, none⟩ = some (.slice aA ka ac) ∧ wr.cell? ⟨g, i * 2 + 1, none⟩ = some (.slice bA kb bc) ∧ Hid (OkRow wr W.heap.size 3 1 (.slice aA ka ac) ka ∧ OkRow wr W.heap.size 3 1 (.slice bA kb bc) kb ∧ OwnW W W.heap.size (.slice (some ⟨g, 0, none⟩) n3 c3) (.slice A4 n4 c4) (.slice A5 n5 c5) n3 n4 n5 wr)) (fun vK _ => kb - (intOf vK).toNat)
          case atStart => exact ⟨0, rfl, by omega, hca, hcb, HR2⟩
          case round =>
            obtain ⟨j, rfl, hj, hca, hcb, HR2⟩ := hrel
            by_cases hltj : j < kb
            · obtain ⟨h, hc, x, hv2, hbh, hx, hfx, cur2, hh2⟩ := HR2.out.2.1.at_ hltj
              injection hv2 with hv2 _ hvc2
              subst hv2
              subst hvc2
              have hj0 : (0 : Int) ≤ j := by omega
              have hjl : (j : Int) < kb := by omega
              obtain ⟨cur3, hh3⟩ := HR2.out.2.2.l.row.block g rfl
              have hgh : g ≠ h := row_types hh3 hh2 int_ne_touch
              have hca3 : (wr.setCell ⟨h, j, none⟩ (.int .i64 99)).cell? ⟨g, i * 2, none⟩ = some (.slice aA ka ac) := (cell_far2 (heap_setCell_other wr ⟨h, j, none⟩ g _ hgh) _).trans hca
              have hcb3 : (wr.setCell ⟨h, j, none⟩ (.int .i64 99)).cell? ⟨g, i * 2 + 1, none⟩ = some (.slice (some ⟨h, 0, none⟩) kb bc) := (cell_far2 (heap_setCell_other wr ⟨h, j, none⟩ g _ hgh) _).trans hcb
              have HR3 := Lib.hid (And.intro (HR2.out.1.shape (Shape.setCell wr h j (.int .i64 99))) (And.intro (HR2.out.2.1.shape (Shape.setCell wr h j (.int .i64 99))) (HR2.out.2.2.put (v := .int .i64 99) (j := j) HR2.out.2.1 rfl)))
              clear hh2 hh3 HR2
              go_wp2
              go_roundw
              case rel => exact ⟨j + 1, by go_num, by omega, hca3, hcb3, HR3⟩
              case measure => simp [intOf]; omega
            · have hsr := HR2.out.2.2.b.size
              have hKa := HR2.out.1.shape (Shape.alloc wr (.cells #[.int .i64 7] 3))
              have hOa := HR2.out.2.2.alloc hsr (.cells #[.int .i64 7] 3)
              have HKO := Lib.hid (And.intro hKa hOa); clear hKa hOa HR2
              go_wp2_with (refine stop_append rfl ?_)
              refine Stop.intro ?_
              refine app_sp sl_ints1' rfl _ _ rfl W.heap.size (.slice aA ka ac) ka rfl HKO.out.1 wr.heap.size 0 1 1 [.int .i64 7] rfl rfl (cell_newl _ _ _ _ rfl) (by simp [Value.oneCell']) (by omega) (by decide) (by simp; omega) ?_
              intro v' w' hr' hg' hs'
              have HQ := Lib.hid (HKO.out.2.app (by simp; omega) HKO.out.1 hg' hs')
              clear HKO hr' hg' hs'
              go_wp2_with fail
              go_roundw
              case rel => exact ⟨i + 1, by go_num, by omega, HQ⟩
              case measure => simp [intOf]; omega
    · go_wp2
      go_loopw [83] (fun vI wr => ∃ i : Nat, vI = .int .i64 i ∧ i ≤ n4 ∧ Hid (OkRow wr W.heap.size 46 4 (.slice A4 n4 c4) n4 ∧ OkRow wr W.heap.size 3 1 (.slice A5 n5 c5) n5 ∧ Below W.heap.size W wr)) (fun vI _ => n4 - (intOf vI).toNat)
      case atStart => exact ⟨0, rfl, by omega, Lib.hid ⟨HR.out.r, HR.out.o, HR.out.b⟩⟩
      case round =>
        clear HR
        obtain ⟨i, rfl, hi, HR⟩ := hrel
        by_cases hlt : i < n4
        · obtain ⟨g, c, hv, hbg, ⟨x0, hx0⟩, hf0⟩ := HR.out.1.cellAt (i := i * 4) (by omega)
          obtain ⟨g1, c1, hv1, -, ⟨x1, hx1⟩, hf1⟩ := HR.out.1.cellAt (i := i * 4 + 1) (by omega)
          obtain ⟨g2, c2, hv2, -, ⟨x2, hx2⟩, hf2⟩ := HR.out.1.cellAt (i := i * 4 + 2) (by omega)
          obtain ⟨g3, c6, hv3, -, ⟨x3, hx3⟩, hf3⟩ := HR.out.1.cellAt (i := i * 4 + 3) (by omega)
          injection hv with hv _ hvc
          subst hv
          subst hvc
          injection hv1 with hv1 _ hvc1; subst hvc1; injection hv1 with hv1; injection hv1 with hv1; subst hv1
          injection hv2 with hv2 _ hvc2; subst hvc2; injection hv2 with hv2; injection hv2 with hv2; subst hv2
          injection hv3 with hv3 _ hvc3; subst hvc3; injection hv3 with hv3; injection hv3 with hv3; subst hv3
          have hi0 : (0 : Int) ≤ i := by omega
          have hil : (i : Int) < n4 := by omega
          have hsh : ∀ a b c d : Value, Shape wr ((((wr.setCell ⟨g, i * 4, none⟩ a).setCell ⟨g, i * 4 + 1, none⟩ b).setCell ⟨g, i * 4 + 2, none⟩ c).setCell ⟨g, i * 4 + 3, none⟩ d) := fun a b c d => (((Shape.setCell _ _ _ _).trans (Shape.setCell _ _ _ _)).trans (Shape.setCell _ _ _ _)).trans (Shape.setCell _ _ _ _)
          have HR3 := fun a b c d : Value => Lib.hid (And.intro (HR.out.1.shape (hsh a b c d)) (And.intro (HR.out.2.1.shape (hsh a b c d)) ((((HR.out.2.2.setCell (p := ⟨g, i * 4, none⟩) hbg a).setCell (p := ⟨g, i * 4 + 1, none⟩) hbg b).setCell (p := ⟨g, i * 4 + 2, none⟩) hbg c).setCell (p := ⟨g, i * 4 + 3, none⟩) hbg d)))
          have HR4 := Lib.hid HR3; clear HR3 hsh HR
          go_wp2
          go_roundw
          case rel => exact ⟨i + 1, by go_num, by omega, HR4.out _ _ _ _⟩
          case measure => simp [intOf]; omega
        · go_wp2
          go_loopw [93] (fun vI wr => ∃ i : Nat, vI = .int .i64 i ∧ i ≤ n5 ∧ Hid (OkRow wr W.heap.size 3 1 (.slice A5 n5 c5) n5 ∧ Below W.heap.size W wr)) (fun vI _ => n5 - (intOf vI).toNat)
          case atStart => exact ⟨0, rfl, by omega, Lib.hid ⟨HR.out.2.1, HR.out.2.2⟩⟩
          case round =>
            clear HR
            obtain ⟨i, rfl, hi, HR⟩ := hrel
            by_cases hlt : i < n5
            · obtain ⟨g, c, hv, hbg, ⟨x0, hx0⟩, hf0⟩ := HR.out.1.cellAt (i := i) (by omega)
              injection hv with hv _ hvc
              subst hv
              subst hvc
              have hi0 : (0 : Int) ≤ i := by omega
              have hil : (i : Int) < n5 := by omega
              have HR3 := Lib.hid (And.intro (HR.out.1.shape (Shape.setCell wr g i (.int .i64 99))) (HR.out.2.setCell (p := ⟨g, i, none⟩) hbg (.int .i64 99)))
              clear HR
              go_wp2
              go_roundw
              case rel => exact ⟨i + 1, by go_num, by omega, HR3⟩
              case measure => simp [intOf]; omega
            · have hbr := HR.out.2
              clear HR
              have hBr := hB.below hbr hB.lt
              have hXr := hbxW.below hbr hbxW.lt
              have hur := hownW.mono (cmap_below hbr)
              have hwr := hwW.trans (hbr.mono hwW.size)
              have HLDr := Lib.hid (HUN.out _ _ _ hBr)
              clear hB hbxW hownW hbr
              go_wp2_with (first
                | (refine wpList_load_at rfl 25 _ rfl w2.heap.size 0 rfl _ _ HLDr.out Try.underlying25 rfl (by kernel_rfl) ?_))
              refine (sharingTouches_calls u _ _ hur hok).mono ?_
              rintro e w6 ⟨rfl, hb6⟩
              have hB6 := hBr.below hb6 hBr.lt
              have hX6 := hXr.below hb6 hXr.lt
              have hu6 := hur.mono (cmap_below hb6)
              have hw6 := hwr.trans (hb6.mono hwr.size)
              have HLD6 := Lib.hid (HUN.out _ _ _ hB6)
              clear hBr hXr hur HLDr hb6
              go_wp2_with (first
                | (refine wpList_load_at_g (by rfl) 25 _ rfl w2.heap.size 0 rfl _ _ HLD6.out Try.underlying25 rfl (by kernel_rfl) ?_))
              refine (sharingRaces_calls u _ 0 1 _ hu6 hok).mono ?_
              rintro e w7 ⟨rfl, hb7⟩
              have hB7 := hB6.below hb7 hB6.lt
              have hX7 := hX6.below hb7 hX6.lt
              have hu7 := hu6.mono (cmap_below hb7)
              have hw7 := hw6.trans (hb7.mono hw6.size)
              have HLD7 := Lib.hid (HUN.out _ _ _ hB7)
              have HLX7 := Lib.hid (HUN.out _ _ _ hX7)
              clear hB6 hX6 hu6 HLD6 hb7
              go_wp2_with (first
                | (refine wpList_load_at_g (by rfl) 25 _ rfl w2.heap.size 0 rfl _ _ HLD7.out Try.underlying25 rfl (by kernel_rfl) ?_)
                | (refine wpList_load_at_g (by rfl) 25 _ rfl w.heap.size 0 rfl _ _ HLX7.out Try.underlying25 rfl (by kernel_rfl) ?_))
              refine (sameUnit_calls _ _ u _ hu7 (hu0.mono (cmap_below hw7))).mono ?_
              rintro e w8 ⟨rfl, hb8⟩
              go_wp2_with fail
              go_ret
              exact ⟨rfl, hw7.trans (hb8.mono hw7.size)⟩
end Go.Proofs.Ytkkmkjjbffpgnaa
namespace Go.Proofs.Ytkkmkjjbffpgnaa
open Go Go.RowKit Go.ChangeShapes Go.WideShapes Go.ChangeAt
namespace SOwn
set_option maxRecDepth 100000 in
theorem contract (H : Type) (enc : TypeId × Value → H) (W : World) (base : Nat) (args : Array Value) (ds gs : List (DataW H)) (before : List MemPlace)
    (hval : ∀ (j : Nat) t v, Try.f4.params[j]? = some t → args[j]? = some v → Value.okWide Try.prog W .any base t v)
    (hW : DataW.Whole enc Try.prog Try.f4.params.toList Rows.sharingOwnSpec.vars false W args.toList ds gs before) (_hL : laidMetH Try.prog Rows.sharingOwnRow.laid W) (hwt : (DataW.weightsEach Try.prog (Try.f4.params.toList ++ (OpenSpec.ofChange Rows.sharingOwnSpec).bare.plain.varTypes Try.prog) (ds ++ gs)).all (· ≤ reachBytes) = true) :
    Calls Try.prog 4 args W fun e W' => ∃ v, e = .returned v ∧ Rows.sharingOwnSpec.post enc Try.prog Try.f4 false true false false W args v W' := by
  have hW' := hW
  obtain ⟨p, q, hA0, hV, rfl, hfz, hnd⟩ := hW
  have hA : DataW.TrodAll enc Try.prog W 0 (fun _ => true) true Try.f4.params.toList args.toList ds p := hA0
  have hA2 := hA
  rw [Try.params4] at hA hval
  obtain ⟨v0, vs0, d0, ds0, p0, q0, hargs, rfl, hp, h0, r0⟩ := trodAll_cons hA
  obtain ⟨rfl, rfl, hp9⟩ := trodAll_nil r0
  obtain rfl : args = #[v0] := by cases args; simp_all
  obtain ⟨rfl, rfl⟩ := trodVars_none hV
  obtain ⟨cs, u, rfl, hu, hok, hz⟩ := open_unitz (hval 0 25 v0 rfl rfl) h0 (weights_first hwt)
  have hlt := fun x hx => hW'.lt x hx
  simp only [List.append_nil] at hW' hlt
  refine (sharingOwn_calls u cs  W hu hok hz).mono fun e W' ⟨he, hb⟩ => ?_
  subst he
  exact ⟨_, rfl, post_below (pa := p) (pv := []) hW' (fun _ _ _ => trodAll_cons_mk (shut_bool Try.underlying4 _) trodAll_mk0)
    (fun sp hsp => trodAll_stays (by intro t ht; rw [Try.params4] at ht; exact all_again _ (by kernel_rfl) t ht) hA2 (fun x hx => hb.same (hlt x hx)) (fun x hx => hsp x hx)) (fun _ _ => rfl) (by simp) hb (ok_one (by kernel_rfl) rfl (okWide_bool_mk Try.underlying4 _))⟩
theorem laid_met (os : Os) : laidMet Try.prog Rows.sharingOwnRow.laid ((laidWorld os).forCall (fun _ _ => 0) ⟨#[], #[.agg #[.slice none 0 0, .slice none 0 0, .slice none 0 0]], []⟩).memory :=
  ⟨[], rfl, List.nodup_nil, fun _ _ h => by cases h⟩
theorem reads (os : Os) {H : Type} (enc : TypeId × Value → H) : ∃ places, DataW.whole enc Try.prog ((laidWorld os).forCall (fun _ _ => 0) ⟨#[], #[.agg #[.slice none 0 0, .slice none 0 0, .slice none 0 0]], []⟩).memory Try.f4.params.toList Rows.sharingOwnSpec.vars false
    (#[.agg #[.slice none 0 0, .slice none 0 0, .slice none 0 0]] : Array Value).toList 8 = some ([.agg [.nil, .nil, .nil]], [], places) :=
  ⟨[], by kernel_rfl⟩
set_option maxRecDepth 100000 in
theorem lifted (os : Os) (started : os.Started) (H : Type) (enc : TypeId × Value → H) (F : Stop.Interp) :
    ReturnsInHanded {} Try.checked os 4 .any ((OpenSpec.ofChange Rows.sharingOwnSpec).preRow enc Try.prog Try.f4 Rows.sharingOwnRow.domain false Rows.sharingOwnRow.laid) (((OpenSpec.ofChange Rows.sharingOwnSpec).at F).post enc Try.prog Try.f4 false true false false) := by
  obtain ⟨places, hx⟩ := reads os enc
  refine returnsInHanded_of_row (C := Try.checked) (s := OpenSpec.ofChange Rows.sharingOwnSpec) own_knob started (by kernel_rfl) Try.func4
    (witness_row_at (enc := enc) (C := Try.checked) false (laidWorld os) #[.agg #[.slice none 0 0, .slice none 0 0, .slice none 0 0]] rfl (by kernel_rfl) (by kernel_rfl) (by kernel_rfl)
      (OpenSpec.preRow_of_cond 8 hx (by kernel_rfl) (fun k hk => by cases hk) (by kernel_rfl) (laid_met os))) ?_
  intro W base args ds gs before hval hW _ _ hwt hL _ _
  exact contract H enc W base args ds gs before hval hW hL hwt
theorem said : Rows.SharingOwnSaid :=
  OpenClaim.holds_of_cond 4 Try.f4 rfl rfl rfl rfl rfl rfl rfl ⟨rfl, rfl, rfl, rfl, rfl⟩ rfl rfl rfl rfl rfl (by kernel_rfl) Try.func4 (by kernel_rfl)
    (of_decide_eq_true (by kernel_rfl)) (by unfold Func.isWrapper; first | (rw [if_pos (by decide +kernel)]; kernel_rfl) | (rw [if_neg (by decide +kernel)]; exact ⟨rfl, rfl⟩))
    (fun os started H enc _ F => by rw [OpenClaim.pre_eq_preRow]; exact lifted os started H enc F)
end SOwn
/-- THE STATEMENT. -/
theorem sharingOwn_said : Rows.SharingOwnSaid := SOwn.said
#print axioms sharingOwn_said
end Go.Proofs.Ytkkmkjjbffpgnaa
