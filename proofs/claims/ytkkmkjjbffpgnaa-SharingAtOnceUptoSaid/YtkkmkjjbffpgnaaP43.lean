import Derived.Test.YtkkmkjjbffpgnaaP41
import Derived.Test.YtkkmkjjbffpgnaaP07
import Derived.Test.YtkkmkjjbffpgnaaP08
import Derived.Test.YtkkmkjjbffpgnaaP42
/- The walks of the reference's Reads, Writes, touches, does of layer 9. -/
namespace Go.Proofs.Ytkkmkjjbffpgnaa
open Go Go.RowKit
set_option maxHeartbeats 400000 in
theorem reads9_calls (n : Node) (w : World) :
    Calls Try.prog 35 #[.agg n.cells.toArray] w fun e w' => e = .returned (.bool (rdB n)) ∧ Below w.heap.size w w' := by
  unfold Node.cells
  go_enter Try.func35, Try.ntmps35
  go_wp2
  all_goals (go_ret; refine ⟨ret_bool (Bool.eq_iff_iff.2 ?_), Below_alloc' _ _⟩; simp [rdB] <;> simp_all)
set_option maxHeartbeats 400000 in
theorem writes9_calls (n : Node) (w : World) :
    Calls Try.prog 36 #[.agg n.cells.toArray] w fun e w' => e = .returned (.bool (wrB n)) ∧ Below w.heap.size w w' := by
  unfold Node.cells
  go_enter Try.func36, Try.ntmps36
  go_wp2
  all_goals (go_ret; refine ⟨ret_bool (Bool.eq_iff_iff.2 ?_), Below_alloc' _ _⟩; simp [wrB] <;> simp_all)
set_option maxRecDepth 100000 in
set_option maxHeartbeats 2000000 in
theorem touches9_calls (g : Graph) (cs : List Value) (v : Int) (wb : Bool) (w : World) (hw : WholeG g) (hg : GraphV (cmap w) cs g) :
    Calls Try.prog 42 #[.agg cs.toArray, .int .i64 v, .bool wb] w fun e w' => e = .returned (.bool (anyN g (tchP v wb))) ∧ Below w.heap.size w w' := by
  have hg0 := hg
  obtain ⟨nv, rfl, A, c, rfl, hlc, hc, hn⟩ := hg
  have hmost := hw.most
  have hbx := Blk.new w 70 [.string g.name, .int .i64 g.locals, .int .i64 g.slots, .slice A g.nodes.length c]
  have HLD : Hid (∀ j v, ([.string g.name, .int .i64 g.locals, .int .i64 g.slots, .slice A g.nodes.length c] : List Value)[j]? = some v → (w.alloc (.cells #[.string g.name, .int .i64 g.locals, .int .i64 g.slots, .slice A g.nodes.length c] 70)).cell? ⟨w.heap.size, 0 + j, none⟩ = some v) := cell_newl w _ _ _ rfl
  obtain ⟨r, hr⟩ : ∃ r, anyN g (tchP v wb) = r := ⟨_, rfl⟩
  rw [hr]
  have HR := Lib.hid hr; clear hr
  have hns := (show Nodes (cmap w) (.slice A g.nodes.length c) g.nodes from ⟨A, c, rfl, hlc, hc, hn⟩)
  go_enter Try.func42, Try.ntmps42
  go_wp2_with (first
    | (refine wpList_load_at rfl 70 _ rfl w.heap.size 0 rfl _ _ HLD.out Try.underlying70 rfl (by kernel_rfl) ?_))
  refine (reached2_calls g _ _ hw (hg0.mono (cmap_alloc _ _))).mono ?_
  rintro e w1 ⟨rv, l, rfl, hl1, hl2, hl3, hb1⟩
  have hw1 : Below w.heap.size w w1 := (Below_alloc' _ _).trans (hb1.mono (by simp))
  have hbx1 := hbx.below hb1 hbx.lt
  have c3 := hbx1.cell 3
  have hlm := hl1.mono (part_le _ _ _)
  obtain ⟨lA, lc, rfl, -⟩ := id hl1
  rw [hl2] at hlm ⊢
  have HL := Lib.hid hl3; clear hl3
  have HL2 := Lib.hid hl2; clear hl2
  go_wp2
  go_loopw [15] (fun v15 wr => ∃ k : Nat, v15 = .int .i64 k ∧ k ≤ g.nodes.length ∧ Below w1.heap.size w1 wr ∧ noneN g (tchP v wb) k) (fun v15 _ => g.nodes.length - (intOf v15).toNat)
  case atStart => exact ⟨0, rfl, by omega, Below.refl _ _, noneN_zero _ _⟩
  case round =>
    obtain ⟨k, rfl, hk, hbr, hnone⟩ := hrel
    have HN := Lib.hid hnone; clear hnone
    have hbs := hbr.size
    by_cases hlt : k < g.nodes.length
    · obtain ⟨nd, hnd⟩ : ∃ nd, g.nodes[k]? = some nd := ⟨_, List.getElem?_eq_getElem hlt⟩
      obtain ⟨b, hb, hbi⟩ := bool_of_reach HL2.out HL.out hlt
      obtain ⟨lb, lo, rfl, hlcell⟩ := hlm.at_ hb
      have g1 : w1.cell? ⟨lb, lo + k, none⟩ = some (.bool b) := by rw [Nat.mul_one] at hlcell; exact hlcell
      have g2 := cmap_below hbr _ _ _ g1
      have g2 : wr.cell? ⟨lb, lo + k, none⟩ = some (.bool b) := g2
      have hsc : wr.heap.size < wr.heap.size + 1 := by omega
      obtain ⟨nb, no, rfl, hnc⟩ := hns.at_ hnd
      have HLDn : Hid (∀ j v, nd.cells[j]? = some v → wr.cell? ⟨nb, no + k * 13 + j, none⟩ = some v) := Lib.hid fun j v hj => cmap_below (hw1.trans (hbr.mono hw1.size)) _ _ _ (hnc j v hj)
      have HB := Lib.hid hbi; clear hbi
      have hbn := Blk.new wr 67 nd.cells
      have HLDm : Hid (∀ j v, nd.cells[j]? = some v → (wr.alloc (.cells nd.cells.toArray 67)).cell? ⟨wr.heap.size, 0 + j, none⟩ = some v) := cell_newl wr _ _ _ rfl
      have HND := Lib.hid hnd; clear hnd
      have k0 : (0 : Int) ≤ k := by omega
      have k1 : (k : Int) < g.nodes.length := by omega
      have e0 := hbn.cell 0
      have e3 := hbn.cell 3
      clear hb hlcell g1 hnc
      have g3 : (wr.alloc (.cells nd.cells.toArray 67)).cell? ⟨lb, lo + k, none⟩ = some (.bool b) := cmap_below (Below_alloc' _ _) _ _ _ g2
      have hbr2 : Below w1.heap.size w1 (wr.alloc (.cells nd.cells.toArray 67)) := hbr.alloc hbr.size _
      have hw2 : Below w.heap.size w (wr.alloc (.cells nd.cells.toArray 67)) := hw1.trans (hbr2.mono hw1.size)
      by_cases hbt : b = true
      · subst hbt
        have hreach := HB.out.1 rfl
        by_cases hth : nd.thing = v
        · have ht1 : (nd.thing == v) = true := by simp [hth]
          have HTH := Lib.hid hth; clear hth
          have HRE := Lib.hid hreach; clear hreach
          cases wb
          · obtain ⟨q, hq⟩ : ∃ q, rdB nd = q := ⟨_, rfl⟩
            have hp : tchP v false nd = q := by unfold tchP; rw [HTH.out, hq]; simp
            have HQ := Lib.hid hq; have HP := Lib.hid hp
            clear hp hq
            unfold Node.cells at *
            cases q
            · go_wp2_with (first
                | (refine wpList_load_at rfl 67 _ rfl nb (no + k * 13) rfl _ _ HLDn.out Try.underlying67 rfl (by kernel_rfl) ?_)
                | (refine wpList_load_at_g (by rfl) 67 _ rfl wr.heap.size 0 rfl _ _ HLDm.out Try.underlying67 rfl (by kernel_rfl) ?_)
                | (go_at_call 35; refine (reads9_calls nd _).mono ?_; rintro e w3 ⟨rfl, hb3⟩; rw [HQ.out]))
              have hbr3 := hbr2.trans (hb3.mono hbr2.size)
              go_roundw
              case rel => exact ⟨k + 1, by go_num, by omega, hbr3, noneN_succ HN.out HND.out (.inr HP.out)⟩
              case measure => simp [intOf]; omega
            · go_wp2_with (first
                | (refine wpList_load_at rfl 67 _ rfl nb (no + k * 13) rfl _ _ HLDn.out Try.underlying67 rfl (by kernel_rfl) ?_)
                | (refine wpList_load_at_g (by rfl) 67 _ rfl wr.heap.size 0 rfl _ _ HLDm.out Try.underlying67 rfl (by kernel_rfl) ?_)
                | (go_at_call 35; refine (reads9_calls nd _).mono ?_; rintro e w3 ⟨rfl, hb3⟩; rw [HQ.out]))
              go_ret
              have hrr : r = true := by rw [← HR.out]; exact anyN_yes HND.out HRE.out HP.out
              exact ⟨ret_bool hrr.symm, hw2.trans (hb3.mono hw2.size)⟩
          · obtain ⟨q, hq⟩ : ∃ q, wrB nd = q := ⟨_, rfl⟩
            have hp : tchP v true nd = q := by unfold tchP; rw [HTH.out, hq]; simp
            have HQ := Lib.hid hq; have HP := Lib.hid hp
            clear hp hq
            unfold Node.cells at *
            cases q
            · go_wp2_with (first
                | (refine wpList_load_at rfl 67 _ rfl nb (no + k * 13) rfl _ _ HLDn.out Try.underlying67 rfl (by kernel_rfl) ?_)
                | (refine wpList_load_at_g (by rfl) 67 _ rfl wr.heap.size 0 rfl _ _ HLDm.out Try.underlying67 rfl (by kernel_rfl) ?_)
                | (go_at_call 36; refine (writes9_calls nd _).mono ?_; rintro e w3 ⟨rfl, hb3⟩; rw [HQ.out]))
              have hbr3 := hbr2.trans (hb3.mono hbr2.size)
              go_roundw
              case rel => exact ⟨k + 1, by go_num, by omega, hbr3, noneN_succ HN.out HND.out (.inr HP.out)⟩
              case measure => simp [intOf]; omega
            · go_wp2_with (first
                | (refine wpList_load_at rfl 67 _ rfl nb (no + k * 13) rfl _ _ HLDn.out Try.underlying67 rfl (by kernel_rfl) ?_)
                | (refine wpList_load_at_g (by rfl) 67 _ rfl wr.heap.size 0 rfl _ _ HLDm.out Try.underlying67 rfl (by kernel_rfl) ?_)
                | (go_at_call 36; refine (writes9_calls nd _).mono ?_; rintro e w3 ⟨rfl, hb3⟩; rw [HQ.out]))
              go_ret
              have hrr : r = true := by rw [← HR.out]; exact anyN_yes HND.out HRE.out HP.out
              exact ⟨ret_bool hrr.symm, hw2.trans (hb3.mono hw2.size)⟩
        · have ht1 : (nd.thing == v) = false := by simpa using hth
          have HTH : Hid (tchP v wb nd = false) := Lib.hid (by unfold tchP; simp [hth])
          clear hth hreach
          unfold Node.cells at *
          go_wp2_with (first | (refine wpList_load_at rfl 67 _ rfl nb (no + k * 13) rfl _ _ HLDn.out Try.underlying67 rfl (by kernel_rfl) ?_))
          go_roundw
          case rel => exact ⟨k + 1, by go_num, by omega, hbr2, noneN_succ HN.out HND.out (.inr HTH.out)⟩
          case measure => simp [intOf]; omega
      · have hbf : b = false := by simpa using hbt
        have HNR := Lib.hid (show ¬ ReachC g (-1) k from fun h => hbt (HB.out.2 h))
        clear hbt
        subst hbf
        unfold Node.cells at *
        go_wp2_with (first | (refine wpList_load_at rfl 67 _ rfl nb (no + k * 13) rfl _ _ HLDn.out Try.underlying67 rfl (by kernel_rfl) ?_))
        go_roundw
        case rel => exact ⟨k + 1, by go_num, by omega, hbr2, noneN_succ HN.out HND.out (.inl HNR.out)⟩
        case measure => simp [intOf]; omega
    · have hrr : r = false := by rw [← HR.out]; exact noneN_end HN.out (by omega)
      have HRR := Lib.hid hrr; clear hrr
      go_wp2
      go_ret
      exact ⟨ret_bool HRR.out.symm, hw1.trans (hbr.mono hw1.size)⟩
end Go.Proofs.Ytkkmkjjbffpgnaa
/- The walk of the reference's does of layer 9. -/
namespace Go.Proofs.Ytkkmkjjbffpgnaa
open Go Go.RowKit
set_option maxRecDepth 100000 in
set_option maxHeartbeats 2000000 in
theorem does9_calls (g : Graph) (cs : List Value) (kd v : Int) (w : World) (hw : WholeG g) (hg : GraphV (cmap w) cs g) :
    Calls Try.prog 81 #[.agg cs.toArray, .int .u8 kd, .int .i64 v] w fun e w' => e = .returned (.bool (anyN g (doesP kd v))) ∧ Below w.heap.size w w' := by
  have hg0 := hg
  obtain ⟨nv, rfl, A, c, rfl, hlc, hc, hn⟩ := hg
  have hmost := hw.most
  have hbx := Blk.new w 70 [.string g.name, .int .i64 g.locals, .int .i64 g.slots, .slice A g.nodes.length c]
  have HLD : Hid (∀ j v, ([.string g.name, .int .i64 g.locals, .int .i64 g.slots, .slice A g.nodes.length c] : List Value)[j]? = some v → (w.alloc (.cells #[.string g.name, .int .i64 g.locals, .int .i64 g.slots, .slice A g.nodes.length c] 70)).cell? ⟨w.heap.size, 0 + j, none⟩ = some v) := cell_newl w _ _ _ rfl
  obtain ⟨r, hr⟩ : ∃ r, anyN g (doesP kd v) = r := ⟨_, rfl⟩
  rw [hr]
  have HR := Lib.hid hr; clear hr
  have hns := (show Nodes (cmap w) (.slice A g.nodes.length c) g.nodes from ⟨A, c, rfl, hlc, hc, hn⟩)
  go_enter Try.func81, Try.ntmps81
  go_wp2_with (first
    | (refine wpList_load_at rfl 70 _ rfl w.heap.size 0 rfl _ _ HLD.out Try.underlying70 rfl (by kernel_rfl) ?_))
  refine (reached2_calls g _ _ hw (hg0.mono (cmap_alloc _ _))).mono ?_
  rintro e w1 ⟨rv, l, rfl, hl1, hl2, hl3, hb1⟩
  have hw1 : Below w.heap.size w w1 := (Below_alloc' _ _).trans (hb1.mono (by simp))
  have hbx1 := hbx.below hb1 hbx.lt
  have c3 := hbx1.cell 3
  have hlm := hl1.mono (part_le _ _ _)
  obtain ⟨lA, lc, rfl, -⟩ := id hl1
  rw [hl2] at hlm ⊢
  have HL := Lib.hid hl3; clear hl3
  have HL2 := Lib.hid hl2; clear hl2
  go_wp2
  go_loopw [15] (fun v15 wr => ∃ k : Nat, v15 = .int .i64 k ∧ k ≤ g.nodes.length ∧ Below w1.heap.size w1 wr ∧ noneN g (doesP kd v) k) (fun v15 _ => g.nodes.length - (intOf v15).toNat)
  case atStart => exact ⟨0, rfl, by omega, Below.refl _ _, noneN_zero _ _⟩
  case round =>
    obtain ⟨k, rfl, hk, hbr, hnone⟩ := hrel
    have HN := Lib.hid hnone; clear hnone
    have hbs := hbr.size
    by_cases hlt : k < g.nodes.length
    · obtain ⟨nd, hnd⟩ : ∃ nd, g.nodes[k]? = some nd := ⟨_, List.getElem?_eq_getElem hlt⟩
      obtain ⟨b, hb, hbi⟩ := bool_of_reach HL2.out HL.out hlt
      obtain ⟨lb, lo, rfl, hlcell⟩ := hlm.at_ hb
      have g1 : w1.cell? ⟨lb, lo + k, none⟩ = some (.bool b) := by rw [Nat.mul_one] at hlcell; exact hlcell
      have g2 := cmap_below hbr _ _ _ g1
      have g2 : wr.cell? ⟨lb, lo + k, none⟩ = some (.bool b) := g2
      have hsc : wr.heap.size < wr.heap.size + 1 := by omega
      obtain ⟨nb, no, rfl, hnc⟩ := hns.at_ hnd
      have HLDn : Hid (∀ j v, nd.cells[j]? = some v → wr.cell? ⟨nb, no + k * 13 + j, none⟩ = some v) := Lib.hid fun j v hj => cmap_below (hw1.trans (hbr.mono hw1.size)) _ _ _ (hnc j v hj)
      have HB := Lib.hid hbi; clear hbi
      have hbn := Blk.new wr 67 nd.cells
      have HLDm : Hid (∀ j v, nd.cells[j]? = some v → (wr.alloc (.cells nd.cells.toArray 67)).cell? ⟨wr.heap.size, 0 + j, none⟩ = some v) := cell_newl wr _ _ _ rfl
      have HND := Lib.hid hnd; clear hnd
      have k0 : (0 : Int) ≤ k := by omega
      have k1 : (k : Int) < g.nodes.length := by omega
      have e0 := hbn.cell 0
      have e3 := hbn.cell 3
      clear hb hlcell g1 hnc
      have g3 : (wr.alloc (.cells nd.cells.toArray 67)).cell? ⟨lb, lo + k, none⟩ = some (.bool b) := cmap_below (Below_alloc' _ _) _ _ _ g2
      have hbr2 : Below w1.heap.size w1 (wr.alloc (.cells nd.cells.toArray 67)) := hbr.alloc hbr.size _
      have hw2 : Below w.heap.size w (wr.alloc (.cells nd.cells.toArray 67)) := hw1.trans (hbr2.mono hw1.size)
      by_cases hbt : b = true
      · subst hbt
        have hreach := HB.out.1 rfl
        have HRE := Lib.hid hreach; clear hreach
        by_cases hkd : nd.kind = kd
        · have e1 : (nd.kind == kd) = true := by simp [hkd]
          by_cases hv : v < 0
          · have e2 : decide (v < 0) = true := by simp [hv]
            have HP : Hid (doesP kd v nd = true) := Lib.hid (by unfold doesP; simp [hkd, hv])
            clear hkd hv
            unfold Node.cells at *
            go_wp2_with (first | (refine wpList_load_at rfl 67 _ rfl nb (no + k * 13) rfl _ _ HLDn.out Try.underlying67 rfl (by kernel_rfl) ?_))
            go_ret
            have hrr : r = true := by rw [← HR.out]; exact anyN_yes HND.out HRE.out HP.out
            exact ⟨ret_bool hrr.symm, hw2⟩
          · have e2 : decide (v < 0) = false := by simp; omega
            by_cases hth : nd.thing = v
            · have e3 : (nd.thing == v) = true := by simp [hth]
              have HP : Hid (doesP kd v nd = true) := Lib.hid (by unfold doesP; simp [hkd, hth])
              clear hkd hth
              unfold Node.cells at *
              go_wp2_with (first | (refine wpList_load_at rfl 67 _ rfl nb (no + k * 13) rfl _ _ HLDn.out Try.underlying67 rfl (by kernel_rfl) ?_))
              go_ret
              have hrr : r = true := by rw [← HR.out]; exact anyN_yes HND.out HRE.out HP.out
              exact ⟨ret_bool hrr.symm, hw2⟩
            · have e3 : (nd.thing == v) = false := by simpa using hth
              have HP : Hid (doesP kd v nd = false) := Lib.hid (by unfold doesP; simp [hth]; omega)
              clear hkd hth
              unfold Node.cells at *
              go_wp2_with (first | (refine wpList_load_at rfl 67 _ rfl nb (no + k * 13) rfl _ _ HLDn.out Try.underlying67 rfl (by kernel_rfl) ?_))
              go_roundw
              case rel => exact ⟨k + 1, by go_num, by omega, hbr2, noneN_succ HN.out HND.out (.inr HP.out)⟩
              case measure => simp [intOf]; omega
        · have e1 : (nd.kind == kd) = false := by simpa using hkd
          have HP : Hid (doesP kd v nd = false) := Lib.hid (by unfold doesP; simp [hkd])
          clear hkd
          unfold Node.cells at *
          go_wp2_with (first | (refine wpList_load_at rfl 67 _ rfl nb (no + k * 13) rfl _ _ HLDn.out Try.underlying67 rfl (by kernel_rfl) ?_))
          go_roundw
          case rel => exact ⟨k + 1, by go_num, by omega, hbr2, noneN_succ HN.out HND.out (.inr HP.out)⟩
          case measure => simp [intOf]; omega
      · have hbf : b = false := by simpa using hbt
        have HNR := Lib.hid (show ¬ ReachC g (-1) k from fun h => hbt (HB.out.2 h))
        clear hbt
        subst hbf
        unfold Node.cells at *
        go_wp2_with (first | (refine wpList_load_at rfl 67 _ rfl nb (no + k * 13) rfl _ _ HLDn.out Try.underlying67 rfl (by kernel_rfl) ?_))
        go_roundw
        case rel => exact ⟨k + 1, by go_num, by omega, hbr2, noneN_succ HN.out HND.out (.inl HNR.out)⟩
        case measure => simp [intOf]; omega
    · have hrr : r = false := by rw [← HR.out]; exact noneN_end HN.out (by omega)
      have HRR := Lib.hid hrr; clear hrr
      go_wp2
      go_ret
      exact ⟨ret_bool HRR.out.symm, hw1.trans (hbr.mono hw1.size)⟩
end Go.Proofs.Ytkkmkjjbffpgnaa
/- The plain law of Apart: what threads have in common. -/
namespace Go.Proofs.Ytkkmkjjbffpgnaa
open Go Go.RowKit
open Classical in
/-- Do a thread's p and another one's q touch one thing? -/
noncomputable def comP (x y : Graph) (p q : Node → Bool) : Bool := decide (∃ v : Int, anyN x (atP p v) = true ∧ anyN y (atP q v) = true)
noncomputable def apartG (x y : Graph) : Bool := !(comP x y wrB rdB || (comP x y rdB wrB || (comP x y wrB wrB || comP x y lkB lkB))) && !(anyN x prB && anyN y prB)
noncomputable def apartR (u : Unit_) (a b : Int) : Bool × Int :=
  if checkF u ≠ none then (false, 60)
  else if a < 0 ∨ (u.graphs.length : Int) ≤ a ∨ b < 0 ∨ (u.graphs.length : Int) ≤ b then (false, 2)
  else if a = b then (false, 0)
  else match u.graphs[a.toNat]?, u.graphs[b.toNat]? with
    | some x, some y => (apartG x y, 0)
    | _, _ => (false, 0)
open Classical in
theorem meet_com {x y : Graph} {p q : Node → Bool} {r : Bool} (h : r = true ↔ ∃ v : Int, 0 < cntN x (atP p v) x.nodes.length ∧ 0 < cntN y (atP q v) y.nodes.length) : comP x y p q = r := by
  rw [Bool.eq_iff_iff, h]
  unfold comP
  rw [decide_eq_true_iff]
  have e : ∀ (g : Graph) (p : Node → Bool), anyN g p = true ↔ 0 < cntN g p g.nodes.length := fun g p => by rw [← cntN_any (Nat.le_refl _), decide_eq_true_iff]
  simp only [e]
theorem meet_do {x y : Graph} {p q : Node → Bool} {ba bb : Nat} {w : World} (ha : MapIs iv decInt w ba (cntF x p x.nodes.length)) (hb : MapIs iv decInt w bb (cntF y q y.nodes.length)) (hy : y.nodes.length ≤ 4096) :
    Calls Try.prog 67 #[.map (some ba), .map (some bb)] w fun e w' => e = .returned (.bool (comP x y p q)) ∧ Below w.heap.size w w' := by
  refine (meet_calls ba bb (fun v => cntN x (atP p v) x.nodes.length) (fun v => cntN y (atP q v) y.nodes.length) w ha hb (fun v => by have := cntN_le y (atP q v) y.nodes.length; omega)).mono ?_
  rintro e w' ⟨⟨r, rfl, hr⟩, hb⟩
  exact ⟨by rw [meet_com hr], hb⟩
end Go.Proofs.Ytkkmkjjbffpgnaa
