/- LocksetOwn: whatever unit and thread are given, the lists that lockset.Held, Guards and Classes hand out may be written and grown, and the next ones answer as the document's own. Conditions: the row's own; the listed table is tied to the program's text by the card. -/
import Derived.Test.YtpaieopclpddnaaDoorP14
import Derived.Test.YtpaieopclpddnaaDoorP26
import Derived.Test.YtpaieopclpddnaaDoorP27
import Derived.Test.YtpaieopclpddnaaDoorP20
import Derived.Test.YtpaieopclpddnaaDoorP12
import Derived.Test.YtpaieopclpddnaaDoorP17
/- The walk of the law LocksetOwn. -/
namespace Go.Proofs.YtpaieopclpddnaaDoor
open Go Go.RowKit
section
variable {w w' : World} {base : Nat} {t e : TypeId} {v : Value} {n K : Nat}
theorem OkRows.block (h : OkRows w base t e v n K) : ∀ g, v.ownBlock = some g → ∃ cur, w.heap[g]? = some (.cells cur t (0, 0)) := fun g hg => by
  obtain ⟨ys, h1, _⟩ := h
  rcases h1.2 with ⟨rfl, _⟩ | ⟨g', cap, cur, rfl, _, k3, _⟩
  · cases hg
  · injection hg with hg
    subst hg
    exact ⟨cur, k3⟩
theorem OkRow.block {s : Nat} (h : OkRow w base e s v n) : ∀ g, v.ownBlock = some g → ∃ cur, w.heap[g]? = some (.cells cur e (0, 0)) := fun g hg => by
  obtain ⟨ys, h1⟩ := h
  rcases h1.2 with ⟨rfl, _⟩ | ⟨g', cap, cur, rfl, _, k3, _⟩
  · cases hg
  · injection hg with hg
    subst hg
    exact ⟨cur, k3⟩
theorem OkRow.lt {s : Nat} (h : OkRow w base e s v n) : ∀ g, v.ownBlock = some g → base ≤ g ∧ g < w.heap.size := by
  obtain ⟨ys, h1⟩ := h
  exact h1.lt
/-- A write into a row of another type. -/
theorem OkRows.inner {q j : Nat} {cur : Array Value} {x : Value} (h : OkRows w base t e v n K) (hne : t ≠ e) (hh : w.heap[q]? = some (.cells cur e (0, 0))) : OkRows (w.setCell ⟨q, j, none⟩ x) base t e v n K :=
  h.far (Shape.setCell w q j x) fun g hg => by
    obtain ⟨c, hc⟩ := h.block g hg
    exact heap_setCell_other w ⟨q, j, none⟩ g x (row_types hc hh hne)
/-- A write into a block of another number. -/
theorem OkRows.aside {q j : Nat} {x : Value} (h : OkRows w base t e v n K) (hq : ∀ g, v.ownBlock = some g → g ≠ q) : OkRows (w.setCell ⟨q, j, none⟩ x) base t e v n K :=
  h.far (Shape.setCell w q j x) fun g hg => heap_setCell_other w ⟨q, j, none⟩ g x (hq g hg)
/-- An append onto a row of another type. -/
theorem OkRows.grown {r : Value} {b k : Nat} (h : OkRows w base t e v n K) (hne : t ≠ e) (hr : OkRow w b e 1 r k) (hg : w.grownBy w' r.ownBlock) (hs : Shape w w') : OkRows w' base t e v n K :=
  h.far hs fun g hv => by
    obtain ⟨c, hc⟩ := h.block g hv
    refine hg.block g (lt_of_block hc) fun e => ?_
    obtain ⟨c', hc'⟩ := hr.block g e.symm
    exact row_types hc hc' hne rfl
theorem OkRow.cellAt {s : Nat} (h : OkRow w base e s v n) {i : Nat} (hi : i < n * s) : ∃ g c, v = .slice (some ⟨g, 0, none⟩) n c ∧ base ≤ g ∧ (∃ x, w.cell? ⟨g, i, none⟩ = some x) ∧ w.frozen? ⟨g, i, none⟩ = false := by
  obtain ⟨ys, h1, h2⟩ := h
  rcases id h2 with ⟨rfl, rfl⟩ | ⟨g, cap, cur, rfl, hb, hh, hn, hm, hc, ht⟩
  · omega
  · have : n * s ≤ cap * s := Nat.mul_le_mul_right _ hn
    have hlt : i < cur.size := by omega
    refine ⟨g, cap, rfl, hb, ⟨cur[i], ?_⟩, frozen_of_row w g i _ _ hh⟩
    rw [cell_of_row w g i cur e (0, 0) hh]
    exact Array.getElem?_eq_getElem hlt
end

open Classical in
noncomputable def clssL (u : Unit_) : List Cls := if checkF u = none then (List.range u.shared.length).map (fun x : Nat => classF u (x : Int)) else []
theorem classes_one {u : Unit_} {w w' : World} {e : Ending} (h : (checkF u = none ∧ ∃ v, e = .returned (.tuple #[v, .int .i64 0]) ∧ Clss (part w' w.heap.size w'.heap.size) v ((List.range u.shared.length).map fun x : Nat => classF u (x : Int)) ∧ Below w.heap.size w w') ∨
      (checkF u ≠ none ∧ e = .returned (.tuple #[.slice none 0 0, .int .i64 60]) ∧ Below w.heap.size w w')) :
    ∃ A n c er, e = .returned (.tuple #[.slice A n c, .int .i64 er]) ∧ Clss (part w' w.heap.size w'.heap.size) (.slice A n c) (clssL u) ∧ Below w.heap.size w w' := by
  unfold clssL
  rcases h with ⟨h1, v, rfl, h3, h4⟩ | ⟨h1, rfl, h4⟩
  · obtain ⟨A, c, rfl, _⟩ := id h3
    rw [if_pos h1]
    exact ⟨_, _, _, _, rfl, h3, h4⟩
  · rw [if_neg h1]
    exact ⟨_, _, _, _, rfl, Sl_nil0 _ _ _, h4⟩
theorem sl_ints1 : SlT Tryd.prog 56 3 1 8 (.int .i64 0) := SlT.mk' Tryd.underlying56 (by kernel_rfl) rfl (by omega)
theorem cell_far2 {wr w' : World} {q : Nat} (h : w'.heap[q]? = wr.heap[q]?) (o : Nat) : w'.cell? ⟨q, o, none⟩ = wr.cell? ⟨q, o, none⟩ := World.cell?_of_block h
theorem frozen_far2 {wr w' : World} {q : Nat} (h : w'.heap[q]? = wr.heap[q]?) (o : Nat) : w'.frozen? ⟨q, o, none⟩ = wr.frozen? ⟨q, o, none⟩ := World.frozen?_of_block h
set_option maxRecDepth 100000 in
set_option maxHeartbeats 8000000 in
theorem locksetOwn_calls (u : Unit_) (cs : List Value) (t : Int) (w : World) (hT : Tab w) (hu : UnitV (cmap w) cs u) (hok : UOk u) :
    Calls Tryd.prog 9 #[.agg cs.toArray, .int .i64 t] w fun e w' => e = .returned (.bool true) ∧ Below w.heap.size w w' := by
  have hu0 := hu
  obtain ⟨sv, lv, gv, rfl, -⟩ := hu
  have hbx := Blk.new w 25 [sv, lv, gv]
  have hb0 := Below_alloc' w (.cells #[sv, lv, gv] 25)
  have hun : ∀ wr b (cs : List Value), Blk wr b 25 cs → ∀ j v, cs[j]? = some v → wr.cell? ⟨b, 0 + j, none⟩ = some v := fun wr b cs h j v hj => by rw [Nat.zero_add, h.cell]; exact hj
  have HUN := Lib.hid hun; clear hun
  have HT := Lib.hid hT; clear hT
  have hni : (56 : Nat) ≠ 3 := int_ne_ints
  have HNI := Lib.hid hni; clear hni
  go_enter Tryd.func9, Tryd.ntmps9
  go_wp2_with fail
  refine (begins_calls _ (HT.out.below hb0)).mono ?_
  rintro e w1 ⟨rfl, hb1⟩
  have hw1 : Below w.heap.size w w1 := hb0.trans (hb1.mono (by simp))
  have hbx1 := hbx.below hb1 hbx.lt
  have HLD1 := Lib.hid (HUN.out _ _ _ hbx1)
  have hws1 : w.heap.size + 1 ≤ w1.heap.size := by have := hb1.size; simp at this; omega
  clear hb1 hbx
  go_wp2_with (first
    | (refine wpList_load_at rfl 25 _ rfl w.heap.size 0 rfl _ _ HLD1.out Tryd.underlying25 rfl (by kernel_rfl) ?_))
  refine (lheld_own u _ t _ (HT.out.below hw1) (hu0.mono (cmap_below hw1)) hok).mono ?_
  rintro e w2 ⟨v5, n5, er5, rfl, hn5, F5, hb2⟩
  obtain ⟨A5, c5, rfl⟩ := F5.form
  have hw2 := hw1.trans (hb2.mono hw1.size)
  have hbx2 := hbx1.below hb2 hbx1.lt
  have HLD2 := Lib.hid (HUN.out _ _ _ hbx2)
  have hws2 := hb2.size
  clear hb2 hbx1
  go_wp2_with (first
    | (refine wpList_load_at rfl 25 _ rfl w.heap.size 0 rfl _ _ HLD2.out Tryd.underlying25 rfl (by kernel_rfl) ?_))
  refine (guards_own u _ _ (HT.out.below hw2) (hu0.mono (cmap_below hw2)) hok).mono ?_
  rintro e w3 ⟨v7, n7, er7, rfl, hn7, F7, hb3⟩
  obtain ⟨A7, c7, rfl⟩ := F7.form
  have hw3 := hw2.trans (hb3.mono hw2.size)
  have hbx3 := hbx2.below hb3 hbx2.lt
  have HLD3 := Lib.hid (HUN.out _ _ _ hbx3)
  have hws3 := hb3.size
  have G5 : Hid (∀ g, (Value.slice A5 n5 c5).ownBlock = some g → g < w2.heap.size) := Lib.hid fun g hg => (F5.lt g hg).2
  replace F5 := F5.below hb3
  clear hb3 hbx2
  go_wp2_with (first
    | (refine wpList_load_at rfl 25 _ rfl w.heap.size 0 rfl _ _ HLD3.out Tryd.underlying25 rfl (by kernel_rfl) ?_))
  refine (classes_own u _ _ (HT.out.below hw3) (hu0.mono (cmap_below hw3)) hok).mono ?_
  rintro e w4 ⟨v9, n9, er9, rfl, hn9, F9, hb4⟩
  obtain ⟨A9, c9, rfl⟩ : ∃ A c, v9 = .slice A n9 c := by obtain ⟨ys, hy⟩ := F9; obtain ⟨A, c, h, _⟩ := own_slice hy; exact ⟨A, c, h⟩
  have hw4 := hw3.trans (hb4.mono hw3.size)
  have hbx4 := hbx3.below hb4 hbx3.lt
  have hws4 := hb4.size
  replace F5 := F5.below hb4
  replace F7 := F7.below hb4
  clear hb4 hbx3
  have HF : Hid (OkRows w4 w1.heap.size 56 3 (.slice A5 n5 c5) n5 16 ∧ OkRows w4 w2.heap.size 56 3 (.slice A7 n7 c7) n7 16 ∧ OkRow w4 w3.heap.size 45 3 (.slice A9 n9 c9) n9) := Lib.hid ⟨F5, F7, F9⟩
  have HBX : Hid (Blk w4 w.heap.size 25 [sv, lv, gv] ∧ Below (w.heap.size + 1) w4 w4) := Lib.hid ⟨hbx4, Below.refl _ _⟩
  clear F5 F7 F9 hbx4
  go_wp2
  go_loopw [11] (fun vI wr => ∃ i : Nat, vI = .int .i64 i ∧ i ≤ n5 ∧ Hid (OkRows wr w1.heap.size 56 3 (.slice A5 n5 c5) n5 (16 + 2 * i) ∧ OkRows wr w2.heap.size 56 3 (.slice A7 n7 c7) n7 16 ∧ OkRow wr w3.heap.size 45 3 (.slice A9 n9 c9) n9 ∧ Below w.heap.size w wr ∧ Below (w.heap.size + 1) w4 wr)) (fun vI _ => n5 - (intOf vI).toNat)
  case atStart => exact ⟨0, rfl, by omega, Lib.hid ⟨(HF.out.1.mono (by omega)), HF.out.2.1, HF.out.2.2, hw4, HBX.out.2⟩⟩
  case round =>
    obtain ⟨i, rfl, hi, HR⟩ := hrel
    by_cases hlt : i < n5
    · obtain ⟨g, c, r, k, hv, hbg, hcell, hfz, ⟨cur, hh⟩, hkk, hr⟩ := HR.out.1.at_ hlt
      injection hv with hv _ hvc
      subst hv
      subst hvc
      obtain ⟨rA, rc, rfl⟩ : ∃ A c, r = .slice A k c := by obtain ⟨ys, hy⟩ := hr; obtain ⟨A, c, h, _⟩ := own_slice hy; exact ⟨A, c, h⟩
      have hi0 : (0 : Int) ≤ i := by omega
      have hil : (i : Int) < n5 := by omega
      have HR0 := Lib.hid hr; clear hr
      have HH := Lib.hid (show ∃ cur, wr.heap[g]? = some (.cells cur 56 (0, 0)) from ⟨cur, hh⟩)
      clear hh
      have hk5 : k ≤ 16 + 2 * 4096 := by omega
      go_wp2
      obtain ⟨wo, rfl⟩ : ∃ wo : World, wo = wr := ⟨_, rfl⟩
      go_loopw [12] (fun vK wr => ∃ j : Nat, vK = .int .i64 j ∧ j ≤ k ∧ wr.cell? ⟨g, i, none⟩ = some (.slice rA k rc) ∧ wr.frozen? ⟨g, i, none⟩ = false ∧ Hid (OkRow wr w1.heap.size 3 1 (.slice rA k rc) k ∧ OkRows wr w1.heap.size 56 3 (.slice (some ⟨g, 0, none⟩) n5 c5) n5 (16 + 2 * i) ∧ OkRows wr w2.heap.size 56 3 (.slice A7 n7 c7) n7 16 ∧ OkRow wr w3.heap.size 45 3 (.slice A9 n9 c9) n9 ∧ Below w.heap.size w wr ∧ Below (w.heap.size + 1) w4 wr)) (fun vK _ => k - (intOf vK).toNat)
      case atStart => exact ⟨0, rfl, by omega, hcell, hfz, Lib.hid ⟨HR0.out, HR.out⟩⟩
      case round =>
        obtain ⟨j, rfl, hj, hcell2, hfz2, HR2⟩ := hrel
        by_cases hltj : j < k
        · obtain ⟨h, hc, x, hv2, hbh, hx, hfx, cur2, hh2⟩ := HR2.out.1.at_ hltj
          injection hv2 with hv2 _ hvc2
          subst hv2
          subst hvc2
          have hj0 : (0 : Int) ≤ j := by omega
          have hjl : (j : Int) < k := by omega
          obtain ⟨cur3, hh3⟩ := HR2.out.2.1.block g rfl
          have hgh : g ≠ h := row_types hh3 hh2 HNI.out
          have hcell3 : (wr.setCell ⟨h, j, none⟩ (.int .i64 (-3))).cell? ⟨g, i, none⟩ = some (.slice (some ⟨h, 0, none⟩) k rc) := (cell_far2 (heap_setCell_other wr ⟨h, j, none⟩ g _ hgh) i).trans hcell2
          have hfz3 : (wr.setCell ⟨h, j, none⟩ (.int .i64 (-3))).frozen? ⟨g, i, none⟩ = false := (frozen_far2 (heap_setCell_other wr ⟨h, j, none⟩ g _ hgh) i).trans hfz2
          have hbb : w1.heap.size ≤ h := hbh
          have HR3 : Hid (OkRow (wr.setCell ⟨h, j, none⟩ (.int .i64 (-3))) w1.heap.size 3 1 (.slice (some ⟨h, 0, none⟩) k rc) k ∧ OkRows (wr.setCell ⟨h, j, none⟩ (.int .i64 (-3))) w1.heap.size 56 3 (.slice (some ⟨g, 0, none⟩) n5 c5) n5 (16 + 2 * i) ∧ OkRows (wr.setCell ⟨h, j, none⟩ (.int .i64 (-3))) w2.heap.size 56 3 (.slice A7 n7 c7) n7 16 ∧ OkRow (wr.setCell ⟨h, j, none⟩ (.int .i64 (-3))) w3.heap.size 45 3 (.slice A9 n9 c9) n9 ∧ Below w.heap.size w (wr.setCell ⟨h, j, none⟩ (.int .i64 (-3))) ∧ Below (w.heap.size + 1) w4 (wr.setCell ⟨h, j, none⟩ (.int .i64 (-3)))) := Lib.hid ⟨HR2.out.1.shape (Shape.setCell _ _ _ _), HR2.out.2.1.inner HNI.out hh2, HR2.out.2.2.1.inner HNI.out hh2, HR2.out.2.2.2.1.shape (Shape.setCell _ _ _ _), HR2.out.2.2.2.2.1.setCell (p := ⟨h, j, none⟩) (show w.heap.size ≤ h by omega) _, HR2.out.2.2.2.2.2.setCell (p := ⟨h, j, none⟩) (show w.heap.size + 1 ≤ h by omega) _⟩
          clear hh2 hh3
          go_wp2
          go_roundw
          case rel => exact ⟨j + 1, by go_num, by omega, hcell3, hfz3, HR3⟩
          case measure => simp [intOf]; omega
        · clear HR hcell hfz
          have hKa := HR2.out.1.shape (Shape.alloc wr (.cells #[.int .i64 1, .int .i64 2] 3))
          have hgl : g < wr.heap.size := (HR2.out.2.1.lt g rfl).2
          have hwb : w1.heap.size ≤ wr.heap.size := by have := (HR2.out.2.1.lt g rfl).1; omega
          go_wp2_with (refine stop_append rfl ?_)
          refine Stop.intro ?_
          refine app_sp sl_ints1 rfl _ _ rfl w1.heap.size (.slice rA k rc) k rfl hKa wr.heap.size 0 2 2 [.int .i64 1, .int .i64 2] rfl rfl (cell_newl _ _ _ _ rfl) (by simp [Value.oneCell']) (by omega) (by decide) (by simp; omega) ?_
          intro v' w' hr' hg' hs'
          obtain ⟨A', c', rfl⟩ : ∃ A c, v' = .slice A (k + 2) c := by obtain ⟨ys, hy⟩ := hr'; obtain ⟨A, c, h, _⟩ := own_slice hy; exact ⟨A, c, h⟩
          have Q5 := ((HR2.out.2.1.far (Shape.alloc wr (.cells #[.int .i64 1, .int .i64 2] 3)) (fun g hg => heap_alloc_old _ _ (HR2.out.2.1.lt g hg).2)).grown HNI.out hKa hg' hs')
          obtain ⟨cur4, hh4⟩ := Q5.block g rfl
          have hcg : w'.heap[g]? = wr.heap[g]? := by
            rw [hg'.block g (by simp; omega) (fun e => by
              obtain ⟨c5, hc5⟩ := hKa.block g e.symm
              obtain ⟨c6, hc6⟩ := (HR2.out.2.1.far (Shape.alloc wr (.cells #[.int .i64 1, .int .i64 2] 3)) (fun g hg => heap_alloc_old _ _ (HR2.out.2.1.lt g hg).2)).block g rfl
              exact row_types hc6 hc5 HNI.out rfl), heap_alloc_old _ _ hgl]
          have hcell4 : w'.cell? ⟨g, i, none⟩ = some (.slice rA k rc) := (cell_far2 hcg i).trans hcell2
          have hfz4 : w'.frozen? ⟨g, i, none⟩ = false := (frozen_far2 hcg i).trans hfz2
          have hrl : ∀ q, (Value.slice rA k rc).ownBlock = some q → w1.heap.size ≤ q := fun q hq => (HR2.out.1.lt q hq).1
          have hbg2 : w1.heap.size ≤ g := hbg
          have hbA : Below w.heap.size w w' := ((HR2.out.2.2.2.2.1).alloc (by omega) _).grown hg' (by simp; omega) (fun q hq => by have := hrl q hq; omega)
          have hbB : Below (w.heap.size + 1) w4 w' := ((HR2.out.2.2.2.2.2).alloc (by omega) _).grown hg' (by simp; omega) (fun q hq => by have := hrl q hq; omega)
          have HR4 : Hid (OkRows (w'.setCell ⟨g, i, none⟩ (.slice A' (k + 2) c')) w1.heap.size 56 3 (.slice (some ⟨g, 0, none⟩) n5 c5) n5 (16 + 2 * (i + 1)) ∧ OkRows (w'.setCell ⟨g, i, none⟩ (.slice A' (k + 2) c')) w2.heap.size 56 3 (.slice A7 n7 c7) n7 16 ∧ OkRow (w'.setCell ⟨g, i, none⟩ (.slice A' (k + 2) c')) w3.heap.size 45 3 (.slice A9 n9 c9) n9 ∧ Below w.heap.size w (w'.setCell ⟨g, i, none⟩ (.slice A' (k + 2) c')) ∧ Below (w.heap.size + 1) w4 (w'.setCell ⟨g, i, none⟩ (.slice A' (k + 2) c'))) := Lib.hid ⟨(Q5.mono (by omega)).put rfl hlt hr' (by omega), (((HR2.out.2.2.1.far (Shape.alloc wr (.cells #[.int .i64 1, .int .i64 2] 3)) (fun g hg => heap_alloc_old _ _ (HR2.out.2.2.1.lt g hg).2)).grown HNI.out hKa hg' hs').aside (fun q hq => by have := (HR2.out.2.2.1.lt q hq).1; have := G5.out g rfl; omega)), (((HR2.out.2.2.2.1.shape (Shape.alloc wr (.cells #[.int .i64 1, .int .i64 2] 3))).shape hs').shape (Shape.setCell _ _ _ _)), hbA.setCell (p := ⟨g, i, none⟩) (show w.heap.size ≤ g by omega) _, hbB.setCell (p := ⟨g, i, none⟩) (show w.heap.size + 1 ≤ g by omega) _⟩
          clear hg' hs' hh4 hcg hKa Q5
          go_wp2_with fail
          go_roundw
          case rel => exact ⟨i + 1, by go_num, by omega, HR4⟩
          case measure => simp [intOf]; omega
    · have HG : Hid (OkRows wr w2.heap.size 56 3 (.slice A7 n7 c7) n7 16 ∧ OkRow wr w3.heap.size 45 3 (.slice A9 n9 c9) n9 ∧ Below w.heap.size w wr ∧ Below (w.heap.size + 1) w4 wr) := Lib.hid ⟨HR.out.2.1, HR.out.2.2.1, HR.out.2.2.2.1, HR.out.2.2.2.2⟩
      clear HR
      go_wp2
      go_loopw [13] (fun vI wr => ∃ i : Nat, vI = .int .i64 i ∧ i ≤ n7 ∧ Hid (OkRows wr w2.heap.size 56 3 (.slice A7 n7 c7) n7 (16 + 2 * i) ∧ OkRow wr w3.heap.size 45 3 (.slice A9 n9 c9) n9 ∧ Below w.heap.size w wr ∧ Below (w.heap.size + 1) w4 wr)) (fun vI _ => n7 - (intOf vI).toNat)
      case atStart => exact ⟨0, rfl, by omega, Lib.hid ⟨(HG.out.1.mono (by omega)), HG.out.2.1, HG.out.2.2.1, HG.out.2.2.2⟩⟩
      case round =>
        obtain ⟨i, rfl, hi, HR⟩ := hrel
        by_cases hlt : i < n7
        · obtain ⟨g, c, r, k, hv, hbg, hcell, hfz, ⟨cur, hh⟩, hkk, hr⟩ := HR.out.1.at_ hlt
          injection hv with hv _ hvc
          subst hv
          subst hvc
          obtain ⟨rA, rc, rfl⟩ : ∃ A c, r = .slice A k c := by obtain ⟨ys, hy⟩ := hr; obtain ⟨A, c, h, _⟩ := own_slice hy; exact ⟨A, c, h⟩
          have hi0 : (0 : Int) ≤ i := by omega
          have hil : (i : Int) < n7 := by omega
          have HR0 := Lib.hid hr; clear hr
          have HH := Lib.hid (show ∃ cur, wr.heap[g]? = some (.cells cur 56 (0, 0)) from ⟨cur, hh⟩)
          clear hh
          have hk5 : k ≤ 16 + 2 * 4096 := by omega
          go_wp2
          obtain ⟨wo, rfl⟩ : ∃ wo : World, wo = wr := ⟨_, rfl⟩
          go_loopw [14] (fun vK wr => ∃ j : Nat, vK = .int .i64 j ∧ j ≤ k ∧ wr.cell? ⟨g, i, none⟩ = some (.slice rA k rc) ∧ wr.frozen? ⟨g, i, none⟩ = false ∧ Hid (OkRow wr w2.heap.size 3 1 (.slice rA k rc) k ∧ OkRows wr w2.heap.size 56 3 (.slice (some ⟨g, 0, none⟩) n7 c7) n7 (16 + 2 * i) ∧ OkRow wr w3.heap.size 45 3 (.slice A9 n9 c9) n9 ∧ Below w.heap.size w wr ∧ Below (w.heap.size + 1) w4 wr)) (fun vK _ => k - (intOf vK).toNat)
          case atStart => exact ⟨0, rfl, by omega, hcell, hfz, Lib.hid ⟨HR0.out, HR.out⟩⟩
          case round =>
            obtain ⟨j, rfl, hj, hcell2, hfz2, HR2⟩ := hrel
            by_cases hltj : j < k
            · obtain ⟨h, hc, x, hv2, hbh, hx, hfx, cur2, hh2⟩ := HR2.out.1.at_ hltj
              injection hv2 with hv2 _ hvc2
              subst hv2
              subst hvc2
              have hj0 : (0 : Int) ≤ j := by omega
              have hjl : (j : Int) < k := by omega
              obtain ⟨cur3, hh3⟩ := HR2.out.2.1.block g rfl
              have hgh : g ≠ h := row_types hh3 hh2 HNI.out
              have hcell3 : (wr.setCell ⟨h, j, none⟩ (.int .i64 (-3))).cell? ⟨g, i, none⟩ = some (.slice (some ⟨h, 0, none⟩) k rc) := (cell_far2 (heap_setCell_other wr ⟨h, j, none⟩ g _ hgh) i).trans hcell2
              have hfz3 : (wr.setCell ⟨h, j, none⟩ (.int .i64 (-3))).frozen? ⟨g, i, none⟩ = false := (frozen_far2 (heap_setCell_other wr ⟨h, j, none⟩ g _ hgh) i).trans hfz2
              have hbb : w2.heap.size ≤ h := hbh
              have HR3 : Hid (OkRow (wr.setCell ⟨h, j, none⟩ (.int .i64 (-3))) w2.heap.size 3 1 (.slice (some ⟨h, 0, none⟩) k rc) k ∧ OkRows (wr.setCell ⟨h, j, none⟩ (.int .i64 (-3))) w2.heap.size 56 3 (.slice (some ⟨g, 0, none⟩) n7 c7) n7 (16 + 2 * i) ∧ OkRow (wr.setCell ⟨h, j, none⟩ (.int .i64 (-3))) w3.heap.size 45 3 (.slice A9 n9 c9) n9 ∧ Below w.heap.size w (wr.setCell ⟨h, j, none⟩ (.int .i64 (-3))) ∧ Below (w.heap.size + 1) w4 (wr.setCell ⟨h, j, none⟩ (.int .i64 (-3)))) := Lib.hid ⟨HR2.out.1.shape (Shape.setCell _ _ _ _), HR2.out.2.1.inner HNI.out hh2, HR2.out.2.2.1.shape (Shape.setCell _ _ _ _), HR2.out.2.2.2.1.setCell (p := ⟨h, j, none⟩) (show w.heap.size ≤ h by omega) _, HR2.out.2.2.2.2.setCell (p := ⟨h, j, none⟩) (show w.heap.size + 1 ≤ h by omega) _⟩
              clear hh2 hh3
              go_wp2
              go_roundw
              case rel => exact ⟨j + 1, by go_num, by omega, hcell3, hfz3, HR3⟩
              case measure => simp [intOf]; omega
            · clear HR hcell hfz
              have hKa := HR2.out.1.shape (Shape.alloc wr (.cells #[.int .i64 1, .int .i64 2] 3))
              have hgl : g < wr.heap.size := (HR2.out.2.1.lt g rfl).2
              have hwb : w2.heap.size ≤ wr.heap.size := by have := (HR2.out.2.1.lt g rfl).1; omega
              go_wp2_with (refine stop_append rfl ?_)
              refine Stop.intro ?_
              refine app_sp sl_ints1 rfl _ _ rfl w2.heap.size (.slice rA k rc) k rfl hKa wr.heap.size 0 2 2 [.int .i64 1, .int .i64 2] rfl rfl (cell_newl _ _ _ _ rfl) (by simp [Value.oneCell']) (by omega) (by decide) (by simp; omega) ?_
              intro v' w' hr' hg' hs'
              obtain ⟨A', c', rfl⟩ : ∃ A c, v' = .slice A (k + 2) c := by obtain ⟨ys, hy⟩ := hr'; obtain ⟨A, c, h, _⟩ := own_slice hy; exact ⟨A, c, h⟩
              have Q5 := ((HR2.out.2.1.far (Shape.alloc wr (.cells #[.int .i64 1, .int .i64 2] 3)) (fun g hg => heap_alloc_old _ _ (HR2.out.2.1.lt g hg).2)).grown HNI.out hKa hg' hs')
              obtain ⟨cur4, hh4⟩ := Q5.block g rfl
              have hcg : w'.heap[g]? = wr.heap[g]? := by
                rw [hg'.block g (by simp; omega) (fun e => by
                  obtain ⟨c5, hc5⟩ := hKa.block g e.symm
                  obtain ⟨c6, hc6⟩ := (HR2.out.2.1.far (Shape.alloc wr (.cells #[.int .i64 1, .int .i64 2] 3)) (fun g hg => heap_alloc_old _ _ (HR2.out.2.1.lt g hg).2)).block g rfl
                  exact row_types hc6 hc5 HNI.out rfl), heap_alloc_old _ _ hgl]
              have hcell4 : w'.cell? ⟨g, i, none⟩ = some (.slice rA k rc) := (cell_far2 hcg i).trans hcell2
              have hfz4 : w'.frozen? ⟨g, i, none⟩ = false := (frozen_far2 hcg i).trans hfz2
              have hrl : ∀ q, (Value.slice rA k rc).ownBlock = some q → w2.heap.size ≤ q := fun q hq => (HR2.out.1.lt q hq).1
              have hbg2 : w2.heap.size ≤ g := hbg
              have hbA : Below w.heap.size w w' := ((HR2.out.2.2.2.1).alloc (by omega) _).grown hg' (by simp; omega) (fun q hq => by have := hrl q hq; omega)
              have hbB : Below (w.heap.size + 1) w4 w' := ((HR2.out.2.2.2.2).alloc (by omega) _).grown hg' (by simp; omega) (fun q hq => by have := hrl q hq; omega)
              have HR4 : Hid (OkRows (w'.setCell ⟨g, i, none⟩ (.slice A' (k + 2) c')) w2.heap.size 56 3 (.slice (some ⟨g, 0, none⟩) n7 c7) n7 (16 + 2 * (i + 1)) ∧ OkRow (w'.setCell ⟨g, i, none⟩ (.slice A' (k + 2) c')) w3.heap.size 45 3 (.slice A9 n9 c9) n9 ∧ Below w.heap.size w (w'.setCell ⟨g, i, none⟩ (.slice A' (k + 2) c')) ∧ Below (w.heap.size + 1) w4 (w'.setCell ⟨g, i, none⟩ (.slice A' (k + 2) c'))) := Lib.hid ⟨(Q5.mono (by omega)).put rfl hlt hr' (by omega), (((HR2.out.2.2.1.shape (Shape.alloc wr (.cells #[.int .i64 1, .int .i64 2] 3))).shape hs').shape (Shape.setCell _ _ _ _)), hbA.setCell (p := ⟨g, i, none⟩) (show w.heap.size ≤ g by omega) _, hbB.setCell (p := ⟨g, i, none⟩) (show w.heap.size + 1 ≤ g by omega) _⟩
              clear hg' hs' hh4 hcg hKa Q5
              go_wp2_with fail
              go_roundw
              case rel => exact ⟨i + 1, by go_num, by omega, HR4⟩
              case measure => simp [intOf]; omega
        · have HG2 : Hid (OkRow wr w3.heap.size 45 3 (.slice A9 n9 c9) n9 ∧ Below w.heap.size w wr ∧ Below (w.heap.size + 1) w4 wr) := Lib.hid ⟨HR.out.2.1, HR.out.2.2.1, HR.out.2.2.2⟩
          clear HR
          go_wp2
          go_loopw [15] (fun vI wr => ∃ i : Nat, vI = .int .i64 i ∧ i ≤ n9 ∧ Hid (OkRow wr w3.heap.size 45 3 (.slice A9 n9 c9) n9 ∧ Below w.heap.size w wr ∧ Below (w.heap.size + 1) w4 wr)) (fun vI _ => n9 - (intOf vI).toNat)
          case atStart => exact ⟨0, rfl, by omega, HG2⟩
          case round =>
            obtain ⟨i, rfl, hi, HR⟩ := hrel
            by_cases hlt : i < n9
            · obtain ⟨g, c, hv, hbg, ⟨x0, hx0⟩, hf0⟩ := HR.out.1.cellAt (i := i * 3) (by omega)
              obtain ⟨g1, c1, hv1, -, ⟨x1, hx1⟩, hf1⟩ := HR.out.1.cellAt (i := i * 3 + 1) (by omega)
              obtain ⟨g2, c2, hv2, -, ⟨x2, hx2⟩, hf2⟩ := HR.out.1.cellAt (i := i * 3 + 2) (by omega)
              injection hv with hv _ hvc
              subst hv
              subst hvc
              injection hv1 with hv1 _ hvc1; subst hvc1; injection hv1 with hv1; injection hv1 with hv1; subst hv1
              injection hv2 with hv2 _ hvc2; subst hvc2; injection hv2 with hv2; injection hv2 with hv2; subst hv2
              have hi0 : (0 : Int) ≤ i := by omega
              have hil : (i : Int) < n9 := by omega
              have hg : w.heap.size + 1 ≤ g := by omega
              have HR3 : ∀ a b c : Value, Hid (OkRow (((wr.setCell ⟨g, i * 3, none⟩ a).setCell ⟨g, i * 3 + 1, none⟩ b).setCell ⟨g, i * 3 + 2, none⟩ c) w3.heap.size 45 3 (.slice (some ⟨g, 0, none⟩) n9 c9) n9 ∧ Below w.heap.size w (((wr.setCell ⟨g, i * 3, none⟩ a).setCell ⟨g, i * 3 + 1, none⟩ b).setCell ⟨g, i * 3 + 2, none⟩ c) ∧ Below (w.heap.size + 1) w4 (((wr.setCell ⟨g, i * 3, none⟩ a).setCell ⟨g, i * 3 + 1, none⟩ b).setCell ⟨g, i * 3 + 2, none⟩ c)) := fun a b c =>
                Lib.hid ⟨((HR.out.1.shape (Shape.setCell _ _ _ _)).shape (Shape.setCell _ _ _ _)).shape (Shape.setCell _ _ _ _), ((HR.out.2.1.setCell (show w.heap.size ≤ g by omega) _).setCell (show w.heap.size ≤ g by omega) _).setCell (show w.heap.size ≤ g by omega) _, ((HR.out.2.2.setCell hg _).setCell hg _).setCell hg _⟩
              have HR4 := Lib.hid HR3; clear HR3
              go_wp2
              go_roundw
              case rel => exact ⟨i + 1, by go_num, by omega, HR4.out _ _ _⟩
              case measure => simp [intOf]; omega
            · have hwr := HR.out.2.1
              have hbxr : Blk wr w.heap.size 25 [sv, lv, gv] := HBX.out.1.below HR.out.2.2 (by omega)
              clear HR
              have HLDr := Lib.hid (HUN.out _ _ _ hbxr)
              go_wp2_with (first
                | (refine wpList_load_at rfl 25 _ rfl w.heap.size 0 rfl _ _ HLDr.out Tryd.underlying25 rfl (by kernel_rfl) ?_))
              refine (lheld_calls u _ t _ (HT.out.below hwr) (hu0.mono (cmap_below hwr)) hok).mono ?_
              intro e w5 h5
              obtain ⟨B1, m1, d1, rfl, j1, hb5⟩ := h5.one
              clear h5
              have hw5 := hwr.trans (hb5.mono hwr.size)
              have hbx5 := hbxr.below hb5 hbxr.lt
              have HLD5 := Lib.hid (HUN.out _ _ _ hbx5)
              replace j1 := j1.mono (part_le _ _ _)
              clear hb5 hbxr
              go_wp2_with (first
                | (refine wpList_load_at rfl 25 _ rfl w.heap.size 0 rfl _ _ HLD5.out Tryd.underlying25 rfl (by kernel_rfl) ?_))
              refine (lheld2_calls u _ t _ (hu0.mono (cmap_below hw5)) hok).mono ?_
              intro e w6 h6
              obtain ⟨B2, m2, d2, rfl, j2, hb6⟩ := h6.one
              clear h6
              have hw6 := hw5.trans (hb6.mono hw5.size)
              have hbx6 := hbx5.below hb6 hbx5.lt
              have HLD6 := Lib.hid (HUN.out _ _ _ hbx6)
              replace j1 := j1.mono (cmap_below hb6)
              replace j2 := j2.mono (part_le _ _ _)
              clear hb6 hbx5
              go_wp2_with (first
                | (refine wpList_load_at rfl 25 _ rfl w.heap.size 0 rfl _ _ HLD6.out Tryd.underlying25 rfl (by kernel_rfl) ?_))
              refine (guards_calls u _ _ (HT.out.below hw6) (hu0.mono (cmap_below hw6)) hok).mono ?_
              intro e w7 h7
              obtain ⟨B3, m3, d3, rfl, j3, hb7⟩ := guards_one h7
              clear h7
              have hw7 := hw6.trans (hb7.mono hw6.size)
              have hbx7 := hbx6.below hb7 hbx6.lt
              have HLD7 := Lib.hid (HUN.out _ _ _ hbx7)
              replace j1 := j1.mono (cmap_below hb7)
              replace j2 := j2.mono (cmap_below hb7)
              replace j3 := j3.mono (part_le _ _ _)
              clear hb7 hbx6
              go_wp2_with (first
                | (refine wpList_load_at rfl 25 _ rfl w.heap.size 0 rfl _ _ HLD7.out Tryd.underlying25 rfl (by kernel_rfl) ?_))
              refine (guardsu2_calls u _ _ (hu0.mono (cmap_below hw7)) hok).mono ?_
              intro e w8 h8
              obtain ⟨B4, m4, d4, rfl, j4, hb8⟩ := guards_one h8
              clear h8
              have hw8 := hw7.trans (hb8.mono hw7.size)
              have hbx8 := hbx7.below hb8 hbx7.lt
              have HLD8 := Lib.hid (HUN.out _ _ _ hbx8)
              replace j1 := j1.mono (cmap_below hb8)
              replace j2 := j2.mono (cmap_below hb8)
              replace j3 := j3.mono (cmap_below hb8)
              replace j4 := j4.mono (part_le _ _ _)
              clear hb8 hbx7
              go_wp2_with (first
                | (refine wpList_load_at rfl 25 _ rfl w.heap.size 0 rfl _ _ HLD8.out Tryd.underlying25 rfl (by kernel_rfl) ?_))
              refine (classes_calls u _ _ (HT.out.below hw8) (hu0.mono (cmap_below hw8)) hok).mono ?_
              intro e w9 h9
              obtain ⟨B5, m5, d5, E5, rfl, j5, hb9⟩ := classes_one h9
              clear h9
              have hw9 := hw8.trans (hb9.mono hw8.size)
              have hbx9 := hbx8.below hb9 hbx8.lt
              have HLD9 := Lib.hid (HUN.out _ _ _ hbx9)
              replace j1 := j1.mono (cmap_below hb9)
              replace j2 := j2.mono (cmap_below hb9)
              replace j3 := j3.mono (cmap_below hb9)
              replace j4 := j4.mono (cmap_below hb9)
              replace j5 := j5.mono (part_le _ _ _)
              clear hb9 hbx8
              go_wp2_with (first
                | (refine wpList_load_at rfl 25 _ rfl w.heap.size 0 rfl _ _ HLD9.out Tryd.underlying25 rfl (by kernel_rfl) ?_))
              refine (classes2_calls u _ _ (hu0.mono (cmap_below hw9)) hok).mono ?_
              intro e w10 h10
              obtain ⟨B6, m6, d6, E6, rfl, j6, hb10⟩ := classes_one h10
              clear h10
              have hw10 := hw9.trans (hb10.mono hw9.size)
              replace j1 := j1.mono (cmap_below hb10)
              replace j2 := j2.mono (cmap_below hb10)
              replace j3 := j3.mono (cmap_below hb10)
              replace j4 := j4.mono (cmap_below hb10)
              replace j5 := j5.mono (cmap_below hb10)
              replace j6 := j6.mono (part_le _ _ _)
              clear hb10 hbx9
              generalize listsL u (0 ≤ t ∧ t < u.graphs.length) (heldsL u t.toNat) = L1 at *
              generalize listsL u True (guardsL u) = L2 at *
              generalize clssL u = L3 at *
              go_wp2_with fail
              refine (lists_calls _ _ L1 _ j1 j2).mono ?_
              rintro e w11 ⟨rfl, k7, rfl⟩
              have j3' : Sl (Cells intsV) 1 (cmap (w10.drewN k7)) (.slice B3 m3 d3) L2 := j3
              have j4' : Sl (Cells intsV) 1 (cmap (w10.drewN k7)) (.slice B4 m4 d4) L2 := j4
              go_wp2_with fail
              refine (lists_calls _ _ L2 _ j3' j4').mono ?_
              rintro e w12 ⟨rfl, k8, rfl⟩
              have j5' : Clss (cmap (w10.drewN (k7 + k8))) (.slice B5 m5 d5) L3 := j5
              have j6' : Clss (cmap (w10.drewN (k7 + k8))) (.slice B6 m6 d6) L3 := j6
              go_wp2_with fail
              refine (sameClasses_calls _ _ L3 L3 _ j5' j6').mono ?_
              rintro e w13 ⟨rfl, k9, rfl⟩
              rw [decide_eq_true rfl]
              go_wp2
              go_ret
              exact ⟨rfl, ⟨hw10.os, hw10.tape, hw10.output, hw10.size, hw10.block⟩⟩
end Go.Proofs.YtpaieopclpddnaaDoor
namespace Go.Proofs.YtpaieopclpddnaaDoor
open Go Go.RowKit Go.ChangeShapes Go.WideShapes Go.ChangeAt
namespace ownns
set_option maxRecDepth 100000 in
theorem contract (H : Type) (enc : TypeId × Value → H) (W : World) (base : Nat) (args : Array Value) (ds gs : List (DataW H)) (before : List MemPlace)
    (hval : ∀ (j : Nat) t v, Tryd.f9.params[j]? = some t → args[j]? = some v → Value.okWide Tryd.prog W .any base t v)
    (hW : DataW.Whole enc Tryd.prog Tryd.f9.params.toList Rows.locksetOwnSpec.vars false W args.toList ds gs before) (hL : laidMetH Tryd.prog Rows.locksetOwnRow.laid W) :
    Calls Tryd.prog 9 args W fun e W' => ∃ v, e = .returned v ∧ Rows.locksetOwnSpec.post enc Tryd.prog Tryd.f9 false true false false W args v W' := by
  have hW' := hW
  obtain ⟨p, q, hA0, hV, rfl, hfz, hnd⟩ := hW
  have hA : DataW.TrodAll enc Tryd.prog W 0 (fun _ => true) true Tryd.f9.params.toList args.toList ds p := hA0
  have hA2 := hA
  rw [Tryd.params9] at hA hval
  obtain ⟨v0, vs0, d0, ds0, p0, q0, hargs, rfl, hp, h0, r0⟩ := trodAll_cons hA
  obtain ⟨v1, vs1, d1, ds1, p1, q1, rfl, rfl, hp1, h1, r1⟩ := trodAll_cons r0
  obtain ⟨rfl, rfl, hp9⟩ := trodAll_nil r1
  obtain rfl : args = #[v0, v1] := by cases args; simp_all
  obtain ⟨rfl, rfl⟩ := trodVars_none hV
  obtain ⟨cs, u, rfl, hu, hok⟩ := open_unit (hval 0 25 v0 rfl rfl) h0
  obtain ⟨n1, rfl⟩ := okWide_int Tryd.underlying3 (hval 1 3 v1 rfl rfl)
  have hlt := fun x hx => hW'.lt x hx
  simp only [List.append_nil] at hW' hlt
  have hT : Tab W := tab_of hL
  refine (locksetOwn_calls u cs n1 W hT hu hok).mono fun e W' ⟨he, hb⟩ => ?_
  subst he
  exact ⟨_, rfl, post_below (pa := p) (pv := []) hW' (fun _ _ _ => trodAll_cons_mk (shut_bool Tryd.underlying4 _) trodAll_mk0)
    (fun sp hsp => trodAll_stays (by intro t ht; rw [Tryd.params9] at ht; exact all_again _ (by kernel_rfl) t ht) hA2 (fun x hx => hb.same (hlt x hx)) (fun x hx => hsp x hx)) (fun _ _ => rfl) (by simp) hb (ok_one (by kernel_rfl) rfl (okWide_bool_mk Tryd.underlying4 _))⟩
theorem laid_met (os : Os) : laidMet Tryd.prog Rows.locksetOwnRow.laid ((laidWorld os).forCall (fun _ _ => 0) ⟨#[], #[.agg #[.slice none 0 0, .slice none 0 0, .slice none 0 0], .int .i64 0], []⟩).memory :=
  laidMet_of_run' 8 (by kernel_rfl) (by kernel_rfl)
theorem reads (os : Os) {H : Type} (enc : TypeId × Value → H) : ∃ places, DataW.whole enc Tryd.prog ((laidWorld os).forCall (fun _ _ => 0) ⟨#[], #[.agg #[.slice none 0 0, .slice none 0 0, .slice none 0 0], .int .i64 0], []⟩).memory Tryd.f9.params.toList Rows.locksetOwnSpec.vars false
    (#[.agg #[.slice none 0 0, .slice none 0 0, .slice none 0 0], .int .i64 0] : Array Value).toList 8 = some ([.agg [.nil, .nil, .nil], .lit (.int .i64 0)], [], places) :=
  ⟨[], by kernel_rfl⟩
set_option maxRecDepth 100000 in
theorem lifted (os : Os) (started : os.Started) (H : Type) (enc : TypeId × Value → H) (F : Stop.Interp) :
    ReturnsInHanded {} Tryd.checked os 9 .any ((OpenSpec.ofChange Rows.locksetOwnSpec).preRow enc Tryd.prog Tryd.f9 Rows.locksetOwnRow.domain false Rows.locksetOwnRow.laid) (((OpenSpec.ofChange Rows.locksetOwnSpec).at F).post enc Tryd.prog Tryd.f9 false true false false) := by
  obtain ⟨places, hx⟩ := reads os enc
  refine returnsInHanded_of_row (C := Tryd.checked) (s := OpenSpec.ofChange Rows.locksetOwnSpec) own_knob started (by kernel_rfl) Tryd.func9
    (witness_row_at (enc := enc) (C := Tryd.checked) false (laidWorld os) #[.agg #[.slice none 0 0, .slice none 0 0, .slice none 0 0], .int .i64 0] rfl (by kernel_rfl) (by kernel_rfl) (by kernel_rfl)
      (OpenSpec.preRow_of_cond 8 hx (by kernel_rfl) (fun k hk => by cases hk) (by kernel_rfl) (laid_met os))) ?_
  intro W base args ds gs before hval hW _ _ _ hL _ _
  exact contract H enc W base args ds gs before hval hW hL
theorem said : Rows.LocksetOwnSaid :=
  OpenClaim.holds_of_cond 9 Tryd.f9 rfl rfl rfl rfl rfl rfl rfl ⟨rfl, rfl, rfl, rfl, rfl⟩ rfl rfl rfl rfl rfl (by kernel_rfl) Tryd.func9 (by kernel_rfl)
    (of_decide_eq_true (by kernel_rfl)) (by unfold Func.isWrapper; first | (rw [if_pos (by decide +kernel)]; kernel_rfl) | (rw [if_neg (by decide +kernel)]; exact ⟨rfl, rfl⟩))
    (fun os started H enc _ F => by rw [OpenClaim.pre_eq_preRow]; exact lifted os started H enc F)
theorem plain (f : FuncId) (fn : Func) (hf : Tryd.pinned.checked.prog.funcNamed "stile/stilelaw10.LocksetOwn" = some f) (hfn : Tryd.pinned.checked.prog.funcs[f]? = some fn) :
    false = Tryd.pinned.checked.prog.looks [] ∧ ∀ (j : Nat) t, fn.params[j]? = some t → Tryd.pinned.checked.prog.wantsStandIn t = false := by
  obtain rfl : f = 9 := Option.some.inj ((show Tryd.prog.funcNamed "stile/stilelaw10.LocksetOwn" = some 9 by kernel_rfl).symm.trans hf) |>.symm
  obtain rfl : fn = Tryd.f9 := (Option.some.inj (Tryd.func9.symm.trans hfn)).symm
  refine ⟨by kernel_rfl, fun j t ht => ?_⟩
  rw [Tryd.params9] at ht
  have hm := Array.mem_of_getElem? ht
  simp at hm
  rcases hm with rfl | rfl
  · exact (show Tryd.prog.wantsStandIn 25 = false by kernel_rfl)
  · exact (show Tryd.prog.wantsStandIn 3 = false by kernel_rfl)
end ownns
/-- THE CARD. -/
theorem locksetOwn_card : Rows.LocksetOwnCardSaid :=
  Claim7.holds_tied_plain_at .later [] _ _ _ _ ownns.said (fun _ h => by cases h) (by kernel_rfl) (fun _ h => by cases h) locksetOwn_row_tie rfl ⟨rfl, rfl⟩ (by kernel_rfl) rfl ownns.plain (by kernel_rfl)
#print axioms locksetOwn_card
end Go.Proofs.YtpaieopclpddnaaDoor
