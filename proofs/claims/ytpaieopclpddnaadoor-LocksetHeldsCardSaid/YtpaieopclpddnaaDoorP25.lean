import Derived.Test.YtpaieopclpddnaaDoorP14
import Derived.Test.YtpaieopclpddnaaDoorP16
/- The walk of the law LocksetUnders. -/
namespace Go.Proofs.YtpaieopclpddnaaDoor
open Go Go.RowKit
theorem Accs_nil (m : CM) : Accs m (.slice none 0 0) [] := ⟨none, 0, rfl, by simp, ⟨by simp [maxLen], fun _ => rfl⟩, .inl rfl⟩
open Classical in
noncomputable def errOf (u : Unit_) (ok : Prop) : Int := if checkF u = none then (if ok then 0 else 2) else 60
open Classical in
noncomputable def accL (u : Unit_) (ok : Prop) (T : List Hit) : List (Nat × Nat) := if checkF u = none ∧ ok then T.map (fun h => (h.t, h.i)) else []
theorem AccPost.one {u : Unit_} {ok : Prop} {T : List Hit} {w w' : World} {e : Ending} (h : AccPost u ok T w e w') :
    ∃ A n c, e = .returned (.tuple #[.slice A n c, .int .i64 (errOf u ok)]) ∧ Accs (part w' w.heap.size w'.heap.size) (.slice A n c) (accL u ok T) ∧ Below w.heap.size w w' := by
  unfold errOf accL
  rcases h with ⟨h1, h2, v, rfl, h3, h4⟩ | ⟨h1, h2, rfl, h4⟩ | ⟨h1, rfl, h4⟩
  · obtain ⟨A, c, rfl, _⟩ := id h3
    rw [if_pos h1, if_pos h2, if_pos ⟨h1, h2⟩]
    exact ⟨_, _, _, rfl, Accs_of h3, h4⟩
  · rw [if_pos h1, if_neg h2, if_neg (fun h => h2 h.2)]
    exact ⟨_, _, _, rfl, Accs_nil _, h4⟩
  · rw [if_neg h1, if_neg (fun h => h1 h.1)]
    exact ⟨_, _, _, rfl, Accs_nil _, h4⟩
set_option maxRecDepth 100000 in
set_option maxHeartbeats 2000000 in
theorem locksetUnders_calls (u : Unit_) (cs : List Value) (x lk : Int) (w : World) (hT : Tab w) (hu : UnitV (cmap w) cs u) (hok : UOk u) :
    Calls Tryd.prog 5 #[.agg cs.toArray, .int .i64 x, .int .i64 lk] w fun e w' => e = .returned (.bool true) ∧ Below w.heap.size w w' := by
  have hu0 := hu
  obtain ⟨sv, lv, gv, rfl, -⟩ := hu
  have hbx := Blk.new w 25 [sv, lv, gv]
  have hb0 := Below_alloc' w (.cells #[sv, lv, gv] 25)
  have hun : ∀ wr, Blk wr w.heap.size 25 [sv, lv, gv] → ∀ j v, ([sv, lv, gv] : List Value)[j]? = some v → wr.cell? ⟨w.heap.size, 0 + j, none⟩ = some v := fun wr h j v hj => by rw [Nat.zero_add, h.cell]; exact hj
  have HUN := Lib.hid hun; clear hun
  have HLD := Lib.hid (HUN.out _ hbx)
  have HT := Lib.hid hT; clear hT
  go_enter Tryd.func5, Tryd.ntmps5
  go_wp2_with (first
    | (refine wpList_load_at rfl 25 _ rfl w.heap.size 0 rfl _ _ HLD.out Tryd.underlying25 rfl (by kernel_rfl) ?_))
  refine (under_calls u [sv, lv, gv] lk _ (hu0.mono (cmap_below hb0)) hok).mono ?_
  intro e w1 h1
  obtain ⟨A1, n1, c1, rfl, g1, hb1⟩ := h1.one
  clear h1
  have hw1 : Below w.heap.size w w1 := hb0.trans (hb1.mono (by simp))
  have hbx1 := hbx.below hb1 hbx.lt
  have HLD1 := Lib.hid (HUN.out _ hbx1)
  obtain ⟨E1, hE1⟩ : ∃ E, errOf u (0 ≤ lk ∧ lk < u.locks.length) = E := ⟨_, rfl⟩
  rw [hE1]
  go_wp2_with (first
    | (refine wpList_load_at rfl 25 _ rfl w.heap.size 0 rfl _ _ HLD1.out Tryd.underlying25 rfl (by kernel_rfl) ?_))
  refine (under2_calls u [sv, lv, gv] lk _ (hu0.mono (cmap_below hw1)) hok).mono ?_
  intro e w2 h2
  obtain ⟨A2, n2, c2, rfl, g2, hb2⟩ := h2.one
  clear h2
  rw [hE1]
  clear hE1
  have hw2 : Below w.heap.size w w2 := hw1.trans (hb2.mono hw1.size)
  have hbx2 := hbx1.below hb2 hbx1.lt
  have HLD2 := Lib.hid (HUN.out _ hbx2)
  have k1 : Accs (cmap w2) (.slice A1 n1 c1) _ := g1.mono ((part_le _ _ _).trans (cmap_below hb2))
  have k2 : Accs (cmap w2) (.slice A2 n2 c2) _ := g2.mono (part_le _ _ _)
  clear g1 g2
  obtain ⟨L1, hL1⟩ : ∃ L, accL u (0 ≤ lk ∧ lk < u.locks.length) (underF u lk) = L := ⟨_, rfl⟩
  rw [hL1] at k1 k2
  clear hL1
  obtain ⟨E2, hE2⟩ : ∃ E, errOf u ((0 ≤ x ∧ x < u.shared.length) ∧ (0 ≤ lk ∧ lk < u.locks.length)) = E := ⟨_, rfl⟩
  obtain ⟨L2, hL2⟩ : ∃ L, accL u ((0 ≤ x ∧ x < u.shared.length) ∧ (0 ≤ lk ∧ lk < u.locks.length)) (bareF u x lk) = L := ⟨_, rfl⟩
  have HE2 := Lib.hid hE2; clear hE2
  have HL2 := Lib.hid hL2; clear hL2
  go_wp2_with (first
    | (refine wpList_load_at rfl 25 _ rfl w.heap.size 0 rfl _ _ HLD2.out Tryd.underlying25 rfl (by kernel_rfl) ?_))
  refine (bare_calls u [sv, lv, gv] x lk _ (hu0.mono (cmap_below hw2)) hok).mono ?_
  intro e w3 h3
  obtain ⟨A3, n3, c3, rfl, g3, hb3⟩ := h3.one
  clear h3
  rw [HE2.out]
  rw [HL2.out] at g3
  have hw3 : Below w.heap.size w w3 := hw2.trans (hb3.mono hw2.size)
  have hbx3 := hbx2.below hb3 hbx2.lt
  have HLD3 := Lib.hid (HUN.out _ hbx3)
  go_wp2_with (first
    | (refine wpList_load_at rfl 25 _ rfl w.heap.size 0 rfl _ _ HLD3.out Tryd.underlying25 rfl (by kernel_rfl) ?_))
  refine (bare2_calls u [sv, lv, gv] x lk _ (hu0.mono (cmap_below hw3)) hok).mono ?_
  intro e w4 h4
  obtain ⟨A4, n4, c4, rfl, g4, hb4⟩ := h4.one
  clear h4
  rw [HE2.out]
  rw [HL2.out] at g4
  have hw4 : Below w.heap.size w w4 := hw3.trans (hb4.mono hw3.size)
  have m1 : Accs (cmap w4) (.slice A1 n1 c1) L1 := k1.mono ((cmap_below hb3).trans (cmap_below hb4))
  have m2 : Accs (cmap w4) (.slice A2 n2 c2) L1 := k2.mono ((cmap_below hb3).trans (cmap_below hb4))
  have m3 : Accs (cmap w4) (.slice A3 n3 c3) L2 := g3.mono ((part_le _ _ _).trans (cmap_below hb4))
  have m4 : Accs (cmap w4) (.slice A4 n4 c4) L2 := g4.mono (part_le _ _ _)
  clear k1 k2 g3 g4 hb1 hb2 hb3 hb4 HE2 HL2
  have e1 : (E1 == E1) = true := by simp
  have e2 : (E2 == E2) = true := by simp
  go_wp2_with fail
  refine (accesses_calls (.slice A1 n1 c1) (.slice A2 n2 c2) _ _ _ m1 m2).mono ?_
  rintro e w5 ⟨rfl, k5, rfl⟩
  rw [decide_eq_true rfl]
  have m5 : Accs (cmap (w4.drewN k5)) (.slice A3 n3 c3) L2 := m3
  have m6 : Accs (cmap (w4.drewN k5)) (.slice A4 n4 c4) L2 := m4
  go_wp2_with (first
    | (go_at_call 20; refine (accesses_calls (.slice A3 n3 c3) (.slice A4 n4 c4) _ _ _ m5 m6).mono ?_; rintro e w6 ⟨rfl, k6, rfl⟩; rw [decide_eq_true rfl]; have hT3 : Tab (w4.drewN (k5 + k6)) := HT.out.below ⟨hw4.os, hw4.tape, hw4.output, hw4.size, hw4.block⟩; have HT3 := Lib.hid hT3; clear hT3)
    | (go_at_call 14; refine (begins_calls (w4.drewN (k5 + k6)) HT3.out).mono ?_; rintro e w7 ⟨rfl, hb7⟩))
  go_ret
  exact ⟨rfl, hw4.trans (Below.mono (B := w4.heap.size) ⟨hb7.os, hb7.tape, hb7.output, hb7.size, hb7.block⟩ hw4.size)⟩
end Go.Proofs.YtpaieopclpddnaaDoor
