import Derived.Test.YtkkmkjjbffpgnaaP43
import Derived.Test.YtkkmkjjbffpgnaaP09
import Derived.Test.YtkkmkjjbffpgnaaP40
/- The plain law of the reference's Apart, and its walk. -/
namespace Go.Proofs.Ytkkmkjjbffpgnaa
open Go Go.RowKit
theorem anyN_congr {g : Graph} {p q : Node → Bool} (h : ∀ n, p n = q n) : anyN g p = anyN g q := by
  have : p = q := funext h
  rw [this]
theorem tch_w (g : Graph) (v : Int) : anyN g (tchP v true) = anyN g (atP wrB v) := anyN_congr fun n => by unfold tchP atP; simp [Bool.and_comm]
theorem tch_r (g : Graph) (v : Int) : anyN g (tchP v false) = anyN g (atP rdB v) := anyN_congr fun n => by unfold tchP atP; simp [Bool.and_comm]
theorem does_l (g : Graph) (v : Int) (hv : 0 ≤ v) : anyN g (doesP 5 v) = anyN g (atP lkB v) := anyN_congr fun n => by
  unfold doesP atP lkB
  have : ¬ v < 0 := by omega
  simp [this]
theorem does_p (g : Graph) : anyN g (doesP 7 (-1)) = anyN g prB := anyN_congr fun n => by unfold doesP prB; simp
/-- Do threads clash at a variable? -/
noncomputable def clashV (x y : Graph) (v : Int) : Bool := (anyN x (tchP v true) && (anyN y (tchP v true) || anyN y (tchP v false))) || (anyN y (tchP v true) && anyN x (tchP v false))
noncomputable def clashL (x y : Graph) (l : Int) : Bool := anyN x (doesP 5 l) && anyN y (doesP 5 l)
open Classical in
theorem comP_iff {x y : Graph} {p q : Node → Bool} : comP x y p q = true ↔ ∃ v : Int, anyN x (atP p v) = true ∧ anyN y (atP q v) = true := by
  unfold comP
  exact decide_eq_true_iff
theorem at_range {u : Unit_} {g : Graph} (hg : RightG u g) {p : Node → Bool} (hp : ∀ n, p n = true → touchB n = true) {v : Int} (h : anyN g (atP p v) = true) : 0 ≤ v ∧ v < u.shared.length := by
  obtain ⟨i, n, hn, _, h2⟩ := anyN_iff.1 h
  unfold atP at h2
  simp only [Bool.and_eq_true, decide_eq_true_eq] at h2
  obtain ⟨h3, rfl⟩ := h2
  have hok := hg.nodes n (List.mem_of_getElem? hn)
  unfold ndOk nodeOk at hok
  simp only [Bool.and_eq_true] at hok
  have h4 := hok.2.2.2.1
  have h2' := hp n h3
  unfold touchB at h2'
  have h2' : n.kind = 2 ∨ n.kind = 3 ∨ n.kind = 4 := by simpa using h2'
  have hth : uThing n.kind = true := by unfold uThing; simp; omega
  have h56 : ¬ (n.kind = 5 ∨ n.kind = 6) := by omega
  unfold numOk at h4
  rw [if_pos hth, if_neg h56] at h4
  exact of_decide_eq_true h4
theorem lk_range {u : Unit_} {g : Graph} (hg : RightG u g) {v : Int} (h : anyN g (atP lkB v) = true) : 0 ≤ v ∧ v < u.locks.length := by
  obtain ⟨i, n, hn, _, h2⟩ := anyN_iff.1 h
  unfold atP lkB at h2
  simp only [Bool.and_eq_true, decide_eq_true_eq] at h2
  obtain ⟨h3, rfl⟩ := h2
  have hok := hg.nodes n (List.mem_of_getElem? hn)
  unfold ndOk nodeOk at hok
  simp only [Bool.and_eq_true] at hok
  have h4 := hok.2.2.2.1
  have hth : uThing n.kind = true := by unfold uThing; simp; omega
  have h56 : n.kind = 5 ∨ n.kind = 6 := .inl h3
  unfold numOk at h4
  rw [if_pos hth, if_pos h56] at h4
  exact of_decide_eq_true h4
theorem rd_touch (n : Node) (h : rdB n = true) : touchB n = true := by rw [touch_rw, h]; rfl
theorem wr_touch (n : Node) (h : wrB n = true) : touchB n = true := by rw [touch_rw, h]; simp
theorem apart_yes {u : Unit_} {x y : Graph} (hx : RightG u x) (_hy : RightG u y) (hv : ∀ k : Nat, k < u.shared.length → clashV x y k = false) (hl : ∀ k : Nat, k < u.locks.length → clashL x y k = false) : apartG x y = !(anyN x prB && anyN y prB) := by
  have e1 : comP x y wrB rdB = false := by
    rw [← Bool.not_eq_true, comP_iff]
    rintro ⟨v, h1, h2⟩
    obtain ⟨r1, r2⟩ := at_range hx wr_touch h1
    have := hv v.toNat (by omega)
    rw [Int.toNat_of_nonneg r1] at this
    unfold clashV at this
    simp [tch_w, tch_r, h1, h2] at this
  have e2 : comP x y rdB wrB = false := by
    rw [← Bool.not_eq_true, comP_iff]
    rintro ⟨v, h1, h2⟩
    obtain ⟨r1, r2⟩ := at_range hx rd_touch h1
    have := hv v.toNat (by omega)
    rw [Int.toNat_of_nonneg r1] at this
    unfold clashV at this
    simp [tch_w, tch_r, h1, h2] at this
  have e3 : comP x y wrB wrB = false := by
    rw [← Bool.not_eq_true, comP_iff]
    rintro ⟨v, h1, h2⟩
    obtain ⟨r1, r2⟩ := at_range hx wr_touch h1
    have := hv v.toNat (by omega)
    rw [Int.toNat_of_nonneg r1] at this
    unfold clashV at this
    simp [tch_w, h1, h2] at this
  have e4 : comP x y lkB lkB = false := by
    rw [← Bool.not_eq_true, comP_iff]
    rintro ⟨v, h1, h2⟩
    obtain ⟨r1, r2⟩ := lk_range hx h1
    have := hl v.toNat (by omega)
    rw [Int.toNat_of_nonneg r1] at this
    unfold clashL at this
    rw [does_l _ _ r1, does_l _ _ r1, h1, h2] at this
    cases this
  unfold apartG
  rw [e1, e2, e3, e4]
  simp
theorem apart_noV {x y : Graph} {k : Nat} (h : clashV x y k = true) : apartG x y = false := by
  unfold clashV at h
  rw [tch_w, tch_w, tch_r, tch_r] at h
  have key : comP x y wrB rdB = true ∨ comP x y rdB wrB = true ∨ comP x y wrB wrB = true := by
    simp only [Bool.or_eq_true, Bool.and_eq_true] at h
    rcases h with ⟨h1, h2 | h2⟩ | ⟨h1, h2⟩
    · exact .inr (.inr (comP_iff.2 ⟨k, h1, h2⟩))
    · exact .inl (comP_iff.2 ⟨k, h1, h2⟩)
    · exact .inr (.inl (comP_iff.2 ⟨k, h2, h1⟩))
  unfold apartG
  rcases key with e | e | e <;> rw [e] <;> simp
theorem apart_noL {x y : Graph} {k : Nat} (h : clashL x y k = true) : apartG x y = false := by
  unfold clashL at h
  rw [does_l _ _ (by omega), does_l _ _ (by omega)] at h
  simp only [Bool.and_eq_true] at h
  have e : comP x y lkB lkB = true := comP_iff.2 ⟨k, h.1, h.2⟩
  unfold apartG
  rw [e]
  simp
def NoV (p : Nat → Bool) (k : Nat) : Prop := ∀ i, i < k → p i = false
theorem upto_succ {p : Nat → Bool} {k : Nat} (h : NoV p k) (hk : p k = false) : NoV p (k + 1) := fun i hi => by
  by_cases e : i = k
  · subst e; exact hk
  · exact h i (by omega)
/-- What holds while a region's operations come up, D being those that have. -/
structure Ap2J (W0 : World) (bu gb go_ N gc ta tb : Nat) (ca cb : List Value) (a0 : Act) (D : Nat → Bool) (a : Act) (w : World) : Prop where
  fr : Fr [11, 12, 49, 50, 51, 52, 53, 54, 55, 56, 57, 58] a0 a
  below : Below W0.heap.size W0 w
  s0 : D 0 = true → a.eval (.tmp 49) = .pointer (some ⟨bu, 2, none⟩)
  s1 : D 1 = true → a.eval (.tmp 50) = .slice (some ⟨gb, go_, none⟩) N gc
  s2 : D 2 = true → a.eval (.tmp 51) = .int .i64 (ta : Int)
  s3 : D 3 = true → a.eval (.tmp 52) = .pointer (some ⟨gb, go_ + ta * 4, none⟩)
  s4 : D 4 = true → a.eval (.tmp 53) = .agg ca.toArray
  s5 : D 5 = true → a.eval (.tmp 54) = .pointer (some ⟨bu, 2, none⟩)
  s6 : D 6 = true → a.eval (.tmp 55) = .slice (some ⟨gb, go_, none⟩) N gc
  s7 : D 7 = true → a.eval (.tmp 56) = .int .i64 (tb : Int)
  s8 : D 8 = true → a.eval (.tmp 57) = .pointer (some ⟨gb, go_ + tb * 4, none⟩)
  s9 : D 9 = true → a.eval (.tmp 58) = .agg cb.toArray
  s10 : D 10 = true → ∃ X cs, a.eval (.tmp 11) = .pointer (some ⟨X, 0, none⟩) ∧ W0.heap.size ≤ X ∧ Blk w X 70 cs ∧ cs.length = 4 ∧ (D 12 = true → a.eval (.tmp 53) = .agg cs.toArray)
  s11 : D 11 = true → ∃ X cs, a.eval (.tmp 12) = .pointer (some ⟨X, 0, none⟩) ∧ W0.heap.size ≤ X ∧ Blk w X 70 cs ∧ cs.length = 4 ∧ (D 13 = true → a.eval (.tmp 58) = .agg cs.toArray)
  ne10_11 : D 10 = true → D 11 = true → a.eval (.tmp 11) ≠ a.eval (.tmp 12)
  o12 : D 12 = true → D 4 = true ∧ D 10 = true
  o13 : D 13 = true → D 9 = true ∧ D 11 = true
theorem Ap2J.keep {W0 : World} {bu gb go_ N gc ta tb : Nat} {ca cb : List Value} {a0 : Act} {D : Nat → Bool} {a : Act} {w w' : World} (h : Ap2J W0 bu gb go_ N gc ta tb ca cb a0 D a w) (hb : Below w.heap.size w w') : Ap2J W0 bu gb go_ N gc ta tb ca cb a0 D a w' where
  fr := h.fr
  below := h.below.trans (hb.mono h.below.size)
  s0 := h.s0
  s1 := h.s1
  s2 := h.s2
  s3 := h.s3
  s4 := h.s4
  s5 := h.s5
  s6 := h.s6
  s7 := h.s7
  s8 := h.s8
  s9 := h.s9
  s10 := fun hd => by obtain ⟨X, cs, e, e1, e2, e3⟩ := h.s10 hd; exact ⟨X, cs, e, e1, e2.below hb e2.lt, e3⟩
  s11 := fun hd => by obtain ⟨X, cs, e, e1, e2, e3⟩ := h.s11 hd; exact ⟨X, cs, e, e1, e2.below hb e2.lt, e3⟩
  ne10_11 := h.ne10_11
  o12 := h.o12
  o13 := h.o13
/-- What holds while a region's operations come up, D being those that have. -/
structure Ap2K (W0 : World) (X Y k : Nat) (ca cb : List Value) (ga gb_ : Graph) (a0 : Act) (D : Nat → Bool) (a : Act) (w : World) : Prop where
  fr : Fr [14, 15, 65, 66, 67, 68, 69, 70] a0 a
  below : Below W0.heap.size W0 w
  s0 : D 0 = true → a.eval (.tmp 65) = .agg ca.toArray
  s1 : D 1 = true → a.eval (.tmp 66) = .int .i64 (k : Int)
  s2 : D 2 = true → a.eval (.tmp 67) = .bool (anyN ga (tchP (k : Int) true))
  s3 : D 3 = true → a.eval (.tmp 68) = .agg cb.toArray
  s4 : D 4 = true → a.eval (.tmp 69) = .int .i64 (k : Int)
  s5 : D 5 = true → a.eval (.tmp 70) = .bool (anyN gb_ (tchP (k : Int) true))
  s6 : D 6 = true → a.eval (.tmp 14) = .bool (anyN ga (tchP (k : Int) true))
  s7 : D 7 = true → a.eval (.tmp 15) = .bool (anyN gb_ (tchP (k : Int) true))
theorem Ap2K.keep {W0 : World} {X Y k : Nat} {ca cb : List Value} {ga gb_ : Graph} {a0 : Act} {D : Nat → Bool} {a : Act} {w w' : World} (h : Ap2K W0 X Y k ca cb ga gb_ a0 D a w) (hb : Below w.heap.size w w') : Ap2K W0 X Y k ca cb ga gb_ a0 D a w' where
  fr := h.fr
  below := h.below.trans (hb.mono h.below.size)
  s0 := h.s0
  s1 := h.s1
  s2 := fun hd => by exact h.s2 hd
  s3 := h.s3
  s4 := h.s4
  s5 := fun hd => by exact h.s5 hd
  s6 := h.s6
  s7 := h.s7
set_option maxRecDepth 100000 in
set_option maxHeartbeats 2000000 in
theorem apart2_calls (u : Unit_) (cs : List Value) (a b : Int) (w : World) (hu : UnitV (cmap w) cs u) (hok : UOk u) :
    Calls Try.prog 48 #[.agg cs.toArray, .int .i64 a, .int .i64 b] w fun e w' => e = .returned (.tuple #[.bool (apartR u a b).1, .int .i64 (apartR u a b).2]) ∧ Below w.heap.size w w' := by
  have hu0 := hu
  obtain ⟨sv, lv, gv, rfl, hs, hl, hg⟩ := hu
  obtain ⟨sA, sc, rfl, -⟩ := id hs
  obtain ⟨lA, lc, rfl, -⟩ := id hl
  obtain ⟨gA, gc, rfl, -⟩ := id hg
  have bg := hg.len.2.2
  have hbx := Blk.new w 25 [.slice sA u.shared.length sc, .slice lA u.locks.length lc, .slice gA u.graphs.length gc]
  have HLD : Hid (∀ j v, ([.slice sA u.shared.length sc, .slice lA u.locks.length lc, .slice gA u.graphs.length gc] : List Value)[j]? = some v → (w.alloc (.cells #[.slice sA u.shared.length sc, .slice lA u.locks.length lc, .slice gA u.graphs.length gc] 25)).cell? ⟨w.heap.size, 0 + j, none⟩ = some v) := cell_newl w _ _ _ rfl
  obtain ⟨R, hR⟩ : ∃ R, apartR u a b = R := ⟨_, rfl⟩
  rw [hR]
  have HR := Lib.hid hR; clear hR
  go_enter Try.func48, Try.ntmps48
  go_wp2_with (first
    | (refine wpList_load_at rfl 25 _ rfl w.heap.size 0 rfl _ _ HLD.out Try.underlying25 rfl (by kernel_rfl) ?_))
  refine (check2_calls u _ _ (hu0.mono (cmap_alloc _ _)) hok).mono ?_
  rintro e W0 ⟨rfl, hb0⟩
  have hW0 : Below w.heap.size w W0 := (Below_alloc' _ _).trans (hb0.mono (by simp))
  have hbx0 := hbx.below hb0 hbx.lt
  obtain ⟨r, hr⟩ : ∃ r, checkF u = r := ⟨_, rfl⟩
  cases r with
  | some ti =>
    obtain ⟨t, i⟩ := ti
    have hRR : R = (false, 60) := by rw [← HR.out]; unfold apartR; rw [if_pos (by rw [hr]; simp)]
    subst hRR
    rw [hr]
    unfold checkV
    clear hr HR
    go_wp2
    go_ret2
    exact ⟨rfl, hW0⟩
  | none =>
    have hru := checkF_none hr
    have hck : ¬ checkF u ≠ none := by rw [hr]; simp
    rw [hr]
    unfold checkV
    clear hr
    have e0 := hbx0.cell 0
    have e1 := hbx0.cell 1
    have e2 := hbx0.cell 2
    by_cases hrg : a < 0 ∨ (u.graphs.length : Int) ≤ a ∨ b < 0 ∨ (u.graphs.length : Int) ≤ b
    · have hRR : R = (false, 2) := by rw [← HR.out]; unfold apartR; rw [if_neg hck, if_pos hrg]
      subst hRR
      clear HR hck
      by_cases h1 : a < 0
      · have d1 : decide (a < 0) = true := by simp [h1]
        clear hrg
        go_wp2
        go_ret2
        exact ⟨rfl, hW0⟩
      · have d1 : decide (a < 0) = false := by simp; omega
        by_cases h2 : (u.graphs.length : Int) ≤ a
        · have d2 : decide ((u.graphs.length : Int) ≤ a) = true := by simp [h2]
          clear hrg
          go_wp2
          go_ret2
          exact ⟨rfl, hW0⟩
        · have d2 : decide ((u.graphs.length : Int) ≤ a) = false := by simp; omega
          by_cases h3 : b < 0
          · have d3 : decide (b < 0) = true := by simp [h3]
            clear hrg
            go_wp2
            go_ret2
            exact ⟨rfl, hW0⟩
          · have d3 : decide (b < 0) = false := by simp; omega
            have d4 : decide ((u.graphs.length : Int) ≤ b) = true := by simp; omega
            clear hrg
            go_wp2
            go_ret2
            exact ⟨rfl, hW0⟩
    · have d1 : decide (a < 0) = false := by simp; omega
      have d2 : decide ((u.graphs.length : Int) ≤ a) = false := by simp; omega
      have d3 : decide (b < 0) = false := by simp; omega
      have d4 : decide ((u.graphs.length : Int) ≤ b) = false := by simp; omega
      by_cases hab : a = b
      · have hRR : R = (false, 0) := by rw [← HR.out]; unfold apartR; rw [if_neg hck, if_neg hrg, if_pos hab]
        subst hRR
        subst hab
        have d5 : (a == a) = true := by simp
        clear HR hck hrg
        go_wp2
        go_ret2
        exact ⟨rfl, hW0⟩
      · have d5 : (a == b) = false := by simpa using hab
        obtain ⟨ta, rfl⟩ : ∃ n : Nat, a = n := ⟨a.toNat, by omega⟩
        obtain ⟨tb, rfl⟩ : ∃ n : Nat, b = n := ⟨b.toNat, by omega⟩
        obtain ⟨ga, hga⟩ : ∃ g, u.graphs[ta]? = some g := ⟨u.graphs[ta]'(by omega), List.getElem?_eq_getElem _⟩
        obtain ⟨gb, hgb⟩ : ∃ g, u.graphs[tb]? = some g := ⟨u.graphs[tb]'(by omega), List.getElem?_eq_getElem _⟩
        have d6 : decide (u.graphs.length ≤ ta) = false := by simp; omega
        have d7 : decide (u.graphs.length ≤ tb) = false := by simp; omega
        have d8 : (ta == tb) = false := by simp; omega
        have ia0 : (0 : Int) ≤ ta := by omega
        have ia1 : (ta : Int) < u.graphs.length := by omega
        have ib0 : (0 : Int) ≤ tb := by omega
        have ib1 : (tb : Int) < u.graphs.length := by omega
        have hRR : R = (apartG ga gb, 0) := by rw [← HR.out]; unfold apartR; rw [if_neg hck, if_neg hrg, if_neg hab, Int.toNat_natCast, Int.toNat_natCast, hga, hgb]
        have HRR := Lib.hid hRR; clear hRR HR hck hrg hab
        have hwa := (hru.graphs ga (List.mem_of_getElem? hga)).whole
        have hwb := (hru.graphs gb (List.mem_of_getElem? hgb)).whole
        have HGA := Lib.hid hga; have HGB := Lib.hid hgb; clear hga hgb
        have lu := hbx0.lt
        obtain ⟨bgb, bgo, rfl, cA, hgvA, hcA⟩ := hg.at_ HGA.out
        obtain ⟨bgb', bgo', hE, cB, hgvB, hcB⟩ := hg.at_ HGB.out
        injection hE with hE
        injection hE with hE1 hE2
        subst hE1 hE2
        have hW : (cmap w).le (cmap W0) := cmap_below hW0
        have lg : bgb < W0.heap.size := by
          obtain ⟨nv, rfl, -⟩ := hgvA
          exact World.block_lt_of_cell? W0 ⟨bgb, _, none⟩ (hW _ _ _ (hcA 0 _ rfl))
        have HA : Hid (∀ j v, cA[j]? = some v → W0.cell? ⟨bgb, bgo + ta * 4 + j, none⟩ = some v) := Lib.hid fun j v hj => hW _ _ _ (hcA j v hj)
        have HB : Hid (∀ j v, cB[j]? = some v → W0.cell? ⟨bgb, bgo + tb * 4 + j, none⟩ = some v) := Lib.hid fun j v hj => hW _ _ _ (hcB j v hj)
        have HAL : Hid (cA.length = 4) := Lib.hid (by obtain ⟨nv, rfl, -⟩ := hgvA; rfl)
        have HBL : Hid (cB.length = 4) := Lib.hid (by obtain ⟨nv, rfl, -⟩ := hgvB; rfl)
        have HAO : Hid (cA.toArray.all (·.oneCell') = true) := Lib.hid (by obtain ⟨nv, rfl, nA, nc, rfl, -⟩ := hgvA; simp [Value.oneCell'])
        have HBO : Hid (cB.toArray.all (·.oneCell') = true) := Lib.hid (by obtain ⟨nv, rfl, nA, nc, rfl, -⟩ := hgvB; simp [Value.oneCell'])
        have HGVa := Lib.hid (hgvA.mono hW)
        have HGVb := Lib.hid (hgvB.mono hW)
        have HW0 := Lib.hid hW0
        have HRA := Lib.hid (hru.graphs ga (List.mem_of_getElem? HGA.out))
        have HRB := Lib.hid (hru.graphs gb (List.mem_of_getElem? HGB.out))
        have hs64 := hru.shared
        have hl16 := hru.locks
        have HBX0 := Lib.hid hbx0
        clear hu0 hW hb0 hbx hbx0 HLD hcA hcB hgvA hgvB
        go_upto_region 8 with fail
        refine wp_act0 fun a0 ha0 => ?_
        have t3 : a0.eval (.tmp 3) = .pointer (some ⟨w.heap.size, 0, none⟩) := by rw [ha0]; rfl
        have t1 : a0.eval (.tmp 1) = .int .i64 (ta : Int) := by rw [ha0]; rfl
        have t2 : a0.eval (.tmp 2) = .int .i64 (tb : Int) := by rw [ha0]; rfl
        have hsz : a0.tmps.size = 112 := by rw [ha0]; rfl
        have HA0 := Lib.hid ha0; clear ha0
        refine wp_region_inv (Ap2J W0 w.heap.size bgb bgo u.graphs.length gc ta tb cA cB a0) (by kernel_rfl) (by kernel_rfl) ?start ?steps ?done
        case start =>
          refine { fr := Fr.refl _ _, below := (Below.refl _ W0).drew, s0 := ?_, s1 := ?_, s2 := ?_, s3 := ?_, s4 := ?_, s5 := ?_, s6 := ?_, s7 := ?_, s8 := ?_, s9 := ?_, s10 := ?_, s11 := ?_, ne10_11 := ?_, o12 := ?_, o13 := ?_ } <;> (intro hd; cases hd)
        case steps =>
          refine steps_all ?_
          refine ⟨?_, ?_, ?_, ?_, ?_, ?_, ?_, ?_, ?_, ?_, ?_, ?_, ?_, ?_, trivial⟩
          · -- 0
            intro D a wx K hD hp h hK
            refine step_wp rfl ?_
            have r3 := (h.fr.eval (j := 3) (by decide)).trans t3
            refine wp_val_at (.pointer (some ⟨w.heap.size, 2, none⟩)) (by generalize a.eval = ρ at *; go_simp) ?_
            refine hK _ _ {
              fr := h.fr.put (by decide) _
              below := h.below
              s0 := fun _ => h.fr.eval_put (by rw [hsz]; decide) _
              s1 := by simpa [upD, eval_put_ne, put_none] using h.s1
              s2 := by simpa [upD, eval_put_ne, put_none] using h.s2
              s3 := by simpa [upD, eval_put_ne, put_none] using h.s3
              s4 := by simpa [upD, eval_put_ne, put_none] using h.s4
              s5 := by simpa [upD, eval_put_ne, put_none] using h.s5
              s6 := by simpa [upD, eval_put_ne, put_none] using h.s6
              s7 := by simpa [upD, eval_put_ne, put_none] using h.s7
              s8 := by simpa [upD, eval_put_ne, put_none] using h.s8
              s9 := by simpa [upD, eval_put_ne, put_none] using h.s9
              s10 := by simpa [upD, eval_put_ne, put_none] using h.s10
              s11 := by simpa [upD, eval_put_ne, put_none] using h.s11
              ne10_11 := by simpa [upD, eval_put_ne, put_none] using h.ne10_11
              o12 := fun hd => by rw [upD_ne _ (by decide)] at hd; exact ⟨upD_mono (h.o12 hd).1, upD_mono (h.o12 hd).2⟩
              o13 := fun hd => by rw [upD_ne _ (by decide)] at hd; exact ⟨upD_mono (h.o13 hd).1, upD_mono (h.o13 hd).2⟩ }
          · -- 1
            intro D a wx K hD hp h hK
            refine step_wp rfl ?_
            have q0 := h.s0 (hp 0 (by decide))
            have z0 := (h.below.cell (p := ⟨w.heap.size, 2, none⟩) lu).trans e2
            refine wp_val_at (.slice (some ⟨bgb, bgo, none⟩) u.graphs.length gc) (by generalize a.eval = ρ at *; go_simp) ?_
            refine hK _ _ {
              fr := h.fr.put (by decide) _
              below := h.below
              s1 := fun _ => h.fr.eval_put (by rw [hsz]; decide) _
              s0 := by simpa [upD, eval_put_ne, put_none] using h.s0
              s2 := by simpa [upD, eval_put_ne, put_none] using h.s2
              s3 := by simpa [upD, eval_put_ne, put_none] using h.s3
              s4 := by simpa [upD, eval_put_ne, put_none] using h.s4
              s5 := by simpa [upD, eval_put_ne, put_none] using h.s5
              s6 := by simpa [upD, eval_put_ne, put_none] using h.s6
              s7 := by simpa [upD, eval_put_ne, put_none] using h.s7
              s8 := by simpa [upD, eval_put_ne, put_none] using h.s8
              s9 := by simpa [upD, eval_put_ne, put_none] using h.s9
              s10 := by simpa [upD, eval_put_ne, put_none] using h.s10
              s11 := by simpa [upD, eval_put_ne, put_none] using h.s11
              ne10_11 := by simpa [upD, eval_put_ne, put_none] using h.ne10_11
              o12 := fun hd => by rw [upD_ne _ (by decide)] at hd; exact ⟨upD_mono (h.o12 hd).1, upD_mono (h.o12 hd).2⟩
              o13 := fun hd => by rw [upD_ne _ (by decide)] at hd; exact ⟨upD_mono (h.o13 hd).1, upD_mono (h.o13 hd).2⟩ }
          · -- 2
            intro D a wx K hD hp h hK
            refine step_wp rfl ?_
            refine wp_move_at rfl ?_
            rw [h.fr.eval (j := 1) (by decide), t1]
            refine hK _ _ {
              fr := h.fr.put (by decide) _
              below := h.below
              s2 := fun _ => h.fr.eval_put (by rw [hsz]; decide) _
              s0 := by simpa [upD, eval_put_ne, put_none] using h.s0
              s1 := by simpa [upD, eval_put_ne, put_none] using h.s1
              s3 := by simpa [upD, eval_put_ne, put_none] using h.s3
              s4 := by simpa [upD, eval_put_ne, put_none] using h.s4
              s5 := by simpa [upD, eval_put_ne, put_none] using h.s5
              s6 := by simpa [upD, eval_put_ne, put_none] using h.s6
              s7 := by simpa [upD, eval_put_ne, put_none] using h.s7
              s8 := by simpa [upD, eval_put_ne, put_none] using h.s8
              s9 := by simpa [upD, eval_put_ne, put_none] using h.s9
              s10 := by simpa [upD, eval_put_ne, put_none] using h.s10
              s11 := by simpa [upD, eval_put_ne, put_none] using h.s11
              ne10_11 := by simpa [upD, eval_put_ne, put_none] using h.ne10_11
              o12 := fun hd => by rw [upD_ne _ (by decide)] at hd; exact ⟨upD_mono (h.o12 hd).1, upD_mono (h.o12 hd).2⟩
              o13 := fun hd => by rw [upD_ne _ (by decide)] at hd; exact ⟨upD_mono (h.o13 hd).1, upD_mono (h.o13 hd).2⟩ }
          · -- 3
            intro D a wx K hD hp h hK
            refine step_wp rfl ?_
            have q1 := h.s1 (hp 1 (by decide))
            have q2 := h.s2 (hp 2 (by decide))
            refine wp_val_at (.pointer (some ⟨bgb, bgo + ta * 4, none⟩)) (by generalize a.eval = ρ at *; go_simp) ?_
            refine hK _ _ {
              fr := h.fr.put (by decide) _
              below := h.below
              s3 := fun _ => h.fr.eval_put (by rw [hsz]; decide) _
              s0 := by simpa [upD, eval_put_ne, put_none] using h.s0
              s1 := by simpa [upD, eval_put_ne, put_none] using h.s1
              s2 := by simpa [upD, eval_put_ne, put_none] using h.s2
              s4 := by simpa [upD, eval_put_ne, put_none] using h.s4
              s5 := by simpa [upD, eval_put_ne, put_none] using h.s5
              s6 := by simpa [upD, eval_put_ne, put_none] using h.s6
              s7 := by simpa [upD, eval_put_ne, put_none] using h.s7
              s8 := by simpa [upD, eval_put_ne, put_none] using h.s8
              s9 := by simpa [upD, eval_put_ne, put_none] using h.s9
              s10 := by simpa [upD, eval_put_ne, put_none] using h.s10
              s11 := by simpa [upD, eval_put_ne, put_none] using h.s11
              ne10_11 := by simpa [upD, eval_put_ne, put_none] using h.ne10_11
              o12 := fun hd => by rw [upD_ne _ (by decide)] at hd; exact ⟨upD_mono (h.o12 hd).1, upD_mono (h.o12 hd).2⟩
              o13 := fun hd => by rw [upD_ne _ (by decide)] at hd; exact ⟨upD_mono (h.o13 hd).1, upD_mono (h.o13 hd).2⟩ }
          · -- 4
            intro D a wx K hD hp h hK
            refine step_wp rfl ?_
            refine wp_load_at 70 _ rfl bgb (bgo + ta * 4) (h.s3 (hp 3 (by decide))) cA _ (fun j v hj => (h.below.cell (p := ⟨bgb, bgo + ta * 4 + j, none⟩) lg).trans (HA.out j v hj)) Try.underlying70 rfl (by rw [HAL.out]; kernel_rfl) ?_
            refine hK _ _ {
              fr := h.fr.put (by decide) _
              below := h.below
              s4 := fun _ => h.fr.eval_put (by rw [hsz]; decide) _
              s10 := fun hd => by
                rw [upD_ne _ (by decide)] at hd
                obtain ⟨X, cs, e, e1, e2, e3, e4⟩ := h.s10 hd
                refine ⟨X, cs, by rw [eval_put_ne (by decide)]; exact e, e1, e2, e3, fun h8 => ?_⟩
                rw [upD_ne _ (by decide)] at h8
                have := (h.o12 h8).1
                rw [hD] at this
                cases this
              s0 := by simpa [upD, eval_put_ne, put_none] using h.s0
              s1 := by simpa [upD, eval_put_ne, put_none] using h.s1
              s2 := by simpa [upD, eval_put_ne, put_none] using h.s2
              s3 := by simpa [upD, eval_put_ne, put_none] using h.s3
              s5 := by simpa [upD, eval_put_ne, put_none] using h.s5
              s6 := by simpa [upD, eval_put_ne, put_none] using h.s6
              s7 := by simpa [upD, eval_put_ne, put_none] using h.s7
              s8 := by simpa [upD, eval_put_ne, put_none] using h.s8
              s9 := by simpa [upD, eval_put_ne, put_none] using h.s9
              s11 := by simpa [upD, eval_put_ne, put_none] using h.s11
              ne10_11 := by simpa [upD, eval_put_ne, put_none] using h.ne10_11
              o12 := fun hd => by rw [upD_ne _ (by decide)] at hd; exact ⟨upD_mono (h.o12 hd).1, upD_mono (h.o12 hd).2⟩
              o13 := fun hd => by rw [upD_ne _ (by decide)] at hd; exact ⟨upD_mono (h.o13 hd).1, upD_mono (h.o13 hd).2⟩ }
          · -- 5
            intro D a wx K hD hp h hK
            refine step_wp rfl ?_
            have r3 := (h.fr.eval (j := 3) (by decide)).trans t3
            refine wp_val_at (.pointer (some ⟨w.heap.size, 2, none⟩)) (by generalize a.eval = ρ at *; go_simp) ?_
            refine hK _ _ {
              fr := h.fr.put (by decide) _
              below := h.below
              s5 := fun _ => h.fr.eval_put (by rw [hsz]; decide) _
              s0 := by simpa [upD, eval_put_ne, put_none] using h.s0
              s1 := by simpa [upD, eval_put_ne, put_none] using h.s1
              s2 := by simpa [upD, eval_put_ne, put_none] using h.s2
              s3 := by simpa [upD, eval_put_ne, put_none] using h.s3
              s4 := by simpa [upD, eval_put_ne, put_none] using h.s4
              s6 := by simpa [upD, eval_put_ne, put_none] using h.s6
              s7 := by simpa [upD, eval_put_ne, put_none] using h.s7
              s8 := by simpa [upD, eval_put_ne, put_none] using h.s8
              s9 := by simpa [upD, eval_put_ne, put_none] using h.s9
              s10 := by simpa [upD, eval_put_ne, put_none] using h.s10
              s11 := by simpa [upD, eval_put_ne, put_none] using h.s11
              ne10_11 := by simpa [upD, eval_put_ne, put_none] using h.ne10_11
              o12 := fun hd => by rw [upD_ne _ (by decide)] at hd; exact ⟨upD_mono (h.o12 hd).1, upD_mono (h.o12 hd).2⟩
              o13 := fun hd => by rw [upD_ne _ (by decide)] at hd; exact ⟨upD_mono (h.o13 hd).1, upD_mono (h.o13 hd).2⟩ }
          · -- 6
            intro D a wx K hD hp h hK
            refine step_wp rfl ?_
            have q5 := h.s5 (hp 5 (by decide))
            have z0 := (h.below.cell (p := ⟨w.heap.size, 2, none⟩) lu).trans e2
            refine wp_val_at (.slice (some ⟨bgb, bgo, none⟩) u.graphs.length gc) (by generalize a.eval = ρ at *; go_simp) ?_
            refine hK _ _ {
              fr := h.fr.put (by decide) _
              below := h.below
              s6 := fun _ => h.fr.eval_put (by rw [hsz]; decide) _
              s0 := by simpa [upD, eval_put_ne, put_none] using h.s0
              s1 := by simpa [upD, eval_put_ne, put_none] using h.s1
              s2 := by simpa [upD, eval_put_ne, put_none] using h.s2
              s3 := by simpa [upD, eval_put_ne, put_none] using h.s3
              s4 := by simpa [upD, eval_put_ne, put_none] using h.s4
              s5 := by simpa [upD, eval_put_ne, put_none] using h.s5
              s7 := by simpa [upD, eval_put_ne, put_none] using h.s7
              s8 := by simpa [upD, eval_put_ne, put_none] using h.s8
              s9 := by simpa [upD, eval_put_ne, put_none] using h.s9
              s10 := by simpa [upD, eval_put_ne, put_none] using h.s10
              s11 := by simpa [upD, eval_put_ne, put_none] using h.s11
              ne10_11 := by simpa [upD, eval_put_ne, put_none] using h.ne10_11
              o12 := fun hd => by rw [upD_ne _ (by decide)] at hd; exact ⟨upD_mono (h.o12 hd).1, upD_mono (h.o12 hd).2⟩
              o13 := fun hd => by rw [upD_ne _ (by decide)] at hd; exact ⟨upD_mono (h.o13 hd).1, upD_mono (h.o13 hd).2⟩ }
          · -- 7
            intro D a wx K hD hp h hK
            refine step_wp rfl ?_
            refine wp_move_at rfl ?_
            rw [h.fr.eval (j := 2) (by decide), t2]
            refine hK _ _ {
              fr := h.fr.put (by decide) _
              below := h.below
              s7 := fun _ => h.fr.eval_put (by rw [hsz]; decide) _
              s0 := by simpa [upD, eval_put_ne, put_none] using h.s0
              s1 := by simpa [upD, eval_put_ne, put_none] using h.s1
              s2 := by simpa [upD, eval_put_ne, put_none] using h.s2
              s3 := by simpa [upD, eval_put_ne, put_none] using h.s3
              s4 := by simpa [upD, eval_put_ne, put_none] using h.s4
              s5 := by simpa [upD, eval_put_ne, put_none] using h.s5
              s6 := by simpa [upD, eval_put_ne, put_none] using h.s6
              s8 := by simpa [upD, eval_put_ne, put_none] using h.s8
              s9 := by simpa [upD, eval_put_ne, put_none] using h.s9
              s10 := by simpa [upD, eval_put_ne, put_none] using h.s10
              s11 := by simpa [upD, eval_put_ne, put_none] using h.s11
              ne10_11 := by simpa [upD, eval_put_ne, put_none] using h.ne10_11
              o12 := fun hd => by rw [upD_ne _ (by decide)] at hd; exact ⟨upD_mono (h.o12 hd).1, upD_mono (h.o12 hd).2⟩
              o13 := fun hd => by rw [upD_ne _ (by decide)] at hd; exact ⟨upD_mono (h.o13 hd).1, upD_mono (h.o13 hd).2⟩ }
          · -- 8
            intro D a wx K hD hp h hK
            refine step_wp rfl ?_
            have q6 := h.s6 (hp 6 (by decide))
            have q7 := h.s7 (hp 7 (by decide))
            refine wp_val_at (.pointer (some ⟨bgb, bgo + tb * 4, none⟩)) (by generalize a.eval = ρ at *; go_simp) ?_
            refine hK _ _ {
              fr := h.fr.put (by decide) _
              below := h.below
              s8 := fun _ => h.fr.eval_put (by rw [hsz]; decide) _
              s0 := by simpa [upD, eval_put_ne, put_none] using h.s0
              s1 := by simpa [upD, eval_put_ne, put_none] using h.s1
              s2 := by simpa [upD, eval_put_ne, put_none] using h.s2
              s3 := by simpa [upD, eval_put_ne, put_none] using h.s3
              s4 := by simpa [upD, eval_put_ne, put_none] using h.s4
              s5 := by simpa [upD, eval_put_ne, put_none] using h.s5
              s6 := by simpa [upD, eval_put_ne, put_none] using h.s6
              s7 := by simpa [upD, eval_put_ne, put_none] using h.s7
              s9 := by simpa [upD, eval_put_ne, put_none] using h.s9
              s10 := by simpa [upD, eval_put_ne, put_none] using h.s10
              s11 := by simpa [upD, eval_put_ne, put_none] using h.s11
              ne10_11 := by simpa [upD, eval_put_ne, put_none] using h.ne10_11
              o12 := fun hd => by rw [upD_ne _ (by decide)] at hd; exact ⟨upD_mono (h.o12 hd).1, upD_mono (h.o12 hd).2⟩
              o13 := fun hd => by rw [upD_ne _ (by decide)] at hd; exact ⟨upD_mono (h.o13 hd).1, upD_mono (h.o13 hd).2⟩ }
          · -- 9
            intro D a wx K hD hp h hK
            refine step_wp rfl ?_
            refine wp_load_at 70 _ rfl bgb (bgo + tb * 4) (h.s8 (hp 8 (by decide))) cB _ (fun j v hj => (h.below.cell (p := ⟨bgb, bgo + tb * 4 + j, none⟩) lg).trans (HB.out j v hj)) Try.underlying70 rfl (by rw [HBL.out]; kernel_rfl) ?_
            refine hK _ _ {
              fr := h.fr.put (by decide) _
              below := h.below
              s9 := fun _ => h.fr.eval_put (by rw [hsz]; decide) _
              s11 := fun hd => by
                rw [upD_ne _ (by decide)] at hd
                obtain ⟨X, cs, e, e1, e2, e3, e4⟩ := h.s11 hd
                refine ⟨X, cs, by rw [eval_put_ne (by decide)]; exact e, e1, e2, e3, fun h8 => ?_⟩
                rw [upD_ne _ (by decide)] at h8
                have := (h.o13 h8).1
                rw [hD] at this
                cases this
              s0 := by simpa [upD, eval_put_ne, put_none] using h.s0
              s1 := by simpa [upD, eval_put_ne, put_none] using h.s1
              s2 := by simpa [upD, eval_put_ne, put_none] using h.s2
              s3 := by simpa [upD, eval_put_ne, put_none] using h.s3
              s4 := by simpa [upD, eval_put_ne, put_none] using h.s4
              s5 := by simpa [upD, eval_put_ne, put_none] using h.s5
              s6 := by simpa [upD, eval_put_ne, put_none] using h.s6
              s7 := by simpa [upD, eval_put_ne, put_none] using h.s7
              s8 := by simpa [upD, eval_put_ne, put_none] using h.s8
              s10 := by simpa [upD, eval_put_ne, put_none] using h.s10
              ne10_11 := by simpa [upD, eval_put_ne, put_none] using h.ne10_11
              o12 := fun hd => by rw [upD_ne _ (by decide)] at hd; exact ⟨upD_mono (h.o12 hd).1, upD_mono (h.o12 hd).2⟩
              o13 := fun hd => by rw [upD_ne _ (by decide)] at hd; exact ⟨upD_mono (h.o13 hd).1, upD_mono (h.o13 hd).2⟩ }
          · -- 10
            intro D a wx K hD hp h hK
            refine step_wp rfl ?_
            have HK := Lib.hid hK; clear hK
            have H := Lib.hid h; clear h
            refine wp_alloc_at rfl (.agg #[.string ⟨#[]⟩, .int .i64 0, .int .i64 0, .slice none 0 0]) [.string ⟨#[]⟩, .int .i64 0, .int .i64 0, .slice none 0 0] rfl (by kernel_rfl) ?_
            have h := H.out.keep (Below_alloc' wx (.cells (List.toArray [.string ⟨#[]⟩, .int .i64 0, .int .i64 0, .slice none 0 0]) 70))
            have hbz := Blk.new wx 70 [.string ⟨#[]⟩, .int .i64 0, .int .i64 0, .slice none 0 0]
            have hwz := H.out.below.size
            refine HK.out _ _ {
              fr := h.fr.put (by decide) _
              below := h.below
              s10 := fun _ => ⟨wx.heap.size, [.string ⟨#[]⟩, .int .i64 0, .int .i64 0, .slice none 0 0], h.fr.eval_put (by rw [hsz]; decide) _, hwz, hbz, rfl, fun h8 => by
                rw [upD_ne _ (by decide)] at h8
                have := (h.o12 h8).2
                rw [hD] at this
                cases this⟩
              ne10_11 := fun h6 h7 => by
                rw [upD_ne _ (by decide)] at h7
                obtain ⟨X, cs, e, e1, e2, e3, e4⟩ := H.out.s11 h7
                have := e2.lt
                rw [h.fr.eval_put (by rw [hsz]; decide), eval_put_ne (by decide), e]
                intro e'
                injection e' with e'
                injection e' with e'
                injection e' with e' _ _
                omega
              s0 := by simpa [upD, eval_put_ne, put_none] using h.s0
              s1 := by simpa [upD, eval_put_ne, put_none] using h.s1
              s2 := by simpa [upD, eval_put_ne, put_none] using h.s2
              s3 := by simpa [upD, eval_put_ne, put_none] using h.s3
              s4 := by simpa [upD, eval_put_ne, put_none] using h.s4
              s5 := by simpa [upD, eval_put_ne, put_none] using h.s5
              s6 := by simpa [upD, eval_put_ne, put_none] using h.s6
              s7 := by simpa [upD, eval_put_ne, put_none] using h.s7
              s8 := by simpa [upD, eval_put_ne, put_none] using h.s8
              s9 := by simpa [upD, eval_put_ne, put_none] using h.s9
              s11 := by simpa [upD, eval_put_ne, put_none] using h.s11
              o12 := fun hd => by rw [upD_ne _ (by decide)] at hd; exact ⟨upD_mono (h.o12 hd).1, upD_mono (h.o12 hd).2⟩
              o13 := fun hd => by rw [upD_ne _ (by decide)] at hd; exact ⟨upD_mono (h.o13 hd).1, upD_mono (h.o13 hd).2⟩ }
          · -- 11
            intro D a wx K hD hp h hK
            refine step_wp rfl ?_
            have HK := Lib.hid hK; clear hK
            have H := Lib.hid h; clear h
            refine wp_alloc_at rfl (.agg #[.string ⟨#[]⟩, .int .i64 0, .int .i64 0, .slice none 0 0]) [.string ⟨#[]⟩, .int .i64 0, .int .i64 0, .slice none 0 0] rfl (by kernel_rfl) ?_
            have h := H.out.keep (Below_alloc' wx (.cells (List.toArray [.string ⟨#[]⟩, .int .i64 0, .int .i64 0, .slice none 0 0]) 70))
            have hbz := Blk.new wx 70 [.string ⟨#[]⟩, .int .i64 0, .int .i64 0, .slice none 0 0]
            have hwz := H.out.below.size
            refine HK.out _ _ {
              fr := h.fr.put (by decide) _
              below := h.below
              s11 := fun _ => ⟨wx.heap.size, [.string ⟨#[]⟩, .int .i64 0, .int .i64 0, .slice none 0 0], h.fr.eval_put (by rw [hsz]; decide) _, hwz, hbz, rfl, fun h8 => by
                rw [upD_ne _ (by decide)] at h8
                have := (h.o13 h8).2
                rw [hD] at this
                cases this⟩
              ne10_11 := fun h6 h7 => by
                rw [upD_ne _ (by decide)] at h6
                obtain ⟨X, cs, e, e1, e2, e3, e4⟩ := H.out.s10 h6
                have := e2.lt
                rw [h.fr.eval_put (by rw [hsz]; decide), eval_put_ne (by decide), e]
                intro e'
                injection e' with e'
                injection e' with e'
                injection e' with e' _ _
                omega
              s0 := by simpa [upD, eval_put_ne, put_none] using h.s0
              s1 := by simpa [upD, eval_put_ne, put_none] using h.s1
              s2 := by simpa [upD, eval_put_ne, put_none] using h.s2
              s3 := by simpa [upD, eval_put_ne, put_none] using h.s3
              s4 := by simpa [upD, eval_put_ne, put_none] using h.s4
              s5 := by simpa [upD, eval_put_ne, put_none] using h.s5
              s6 := by simpa [upD, eval_put_ne, put_none] using h.s6
              s7 := by simpa [upD, eval_put_ne, put_none] using h.s7
              s8 := by simpa [upD, eval_put_ne, put_none] using h.s8
              s9 := by simpa [upD, eval_put_ne, put_none] using h.s9
              s10 := by simpa [upD, eval_put_ne, put_none] using h.s10
              o12 := fun hd => by rw [upD_ne _ (by decide)] at hd; exact ⟨upD_mono (h.o12 hd).1, upD_mono (h.o12 hd).2⟩
              o13 := fun hd => by rw [upD_ne _ (by decide)] at hd; exact ⟨upD_mono (h.o13 hd).1, upD_mono (h.o13 hd).2⟩ }
          · -- 12
            intro D a wx K hD hp h hK
            refine step_wp rfl ?_
            obtain ⟨X, cs, e, e1, e2, e3, -⟩ := h.s10 (hp 10 (by decide))
            have f1 := h.s4 (hp 4 (by decide))
            refine wp_store_row 70 _ _ rfl X _ e f1 70 cs.toArray e2 (by rw [List.size_toArray, HAL.out]; kernel_rfl) (by simp [e3, HAL.out]) (by exact HAO.out) ?_
            refine hK _ _ {
              fr := h.fr
              below := below_row h.below e1 _
              s10 := fun _ => ⟨X, _, e, e1, Blk.setRow (cs' := cA) e2, HAL.out, fun _ => f1⟩
              s11 := fun hd => by
                rw [upD_ne _ (by decide)] at hd
                obtain ⟨Y, ds, p, p1, p2, p3, p4⟩ := h.s11 hd
                have hne : Y ≠ X := fun q => by
                  subst q
                  exact h.ne10_11 (hp 10 (by decide)) hd (e.trans p.symm)
                exact ⟨Y, ds, p, p1, (heap_setRow_ne hne _).trans p2, p3, fun hk => p4 (by rwa [upD_ne _ (by decide)] at hk)⟩
              s0 := by simpa [upD, eval_put_ne, put_none] using h.s0
              s1 := by simpa [upD, eval_put_ne, put_none] using h.s1
              s2 := by simpa [upD, eval_put_ne, put_none] using h.s2
              s3 := by simpa [upD, eval_put_ne, put_none] using h.s3
              s4 := by simpa [upD, eval_put_ne, put_none] using h.s4
              s5 := by simpa [upD, eval_put_ne, put_none] using h.s5
              s6 := by simpa [upD, eval_put_ne, put_none] using h.s6
              s7 := by simpa [upD, eval_put_ne, put_none] using h.s7
              s8 := by simpa [upD, eval_put_ne, put_none] using h.s8
              s9 := by simpa [upD, eval_put_ne, put_none] using h.s9
              ne10_11 := by simpa [upD, eval_put_ne, put_none] using h.ne10_11
              o12 := fun _ => ⟨upD_mono (hp 4 (by decide)), upD_mono (hp 10 (by decide))⟩
              o13 := fun hd => by rw [upD_ne _ (by decide)] at hd; exact ⟨upD_mono (h.o13 hd).1, upD_mono (h.o13 hd).2⟩ }
          · -- 13
            intro D a wx K hD hp h hK
            refine step_wp rfl ?_
            obtain ⟨X, cs, e, e1, e2, e3, -⟩ := h.s11 (hp 11 (by decide))
            have f1 := h.s9 (hp 9 (by decide))
            refine wp_store_row 70 _ _ rfl X _ e f1 70 cs.toArray e2 (by rw [List.size_toArray, HBL.out]; kernel_rfl) (by simp [e3, HBL.out]) (by exact HBO.out) ?_
            refine hK _ _ {
              fr := h.fr
              below := below_row h.below e1 _
              s11 := fun _ => ⟨X, _, e, e1, Blk.setRow (cs' := cB) e2, HBL.out, fun _ => f1⟩
              s10 := fun hd => by
                rw [upD_ne _ (by decide)] at hd
                obtain ⟨Y, ds, p, p1, p2, p3, p4⟩ := h.s10 hd
                have hne : Y ≠ X := fun q => by
                  subst q
                  exact h.ne10_11 hd (hp 11 (by decide)) (p.trans e.symm)
                exact ⟨Y, ds, p, p1, (heap_setRow_ne hne _).trans p2, p3, fun hk => p4 (by rwa [upD_ne _ (by decide)] at hk)⟩
              s0 := by simpa [upD, eval_put_ne, put_none] using h.s0
              s1 := by simpa [upD, eval_put_ne, put_none] using h.s1
              s2 := by simpa [upD, eval_put_ne, put_none] using h.s2
              s3 := by simpa [upD, eval_put_ne, put_none] using h.s3
              s4 := by simpa [upD, eval_put_ne, put_none] using h.s4
              s5 := by simpa [upD, eval_put_ne, put_none] using h.s5
              s6 := by simpa [upD, eval_put_ne, put_none] using h.s6
              s7 := by simpa [upD, eval_put_ne, put_none] using h.s7
              s8 := by simpa [upD, eval_put_ne, put_none] using h.s8
              s9 := by simpa [upD, eval_put_ne, put_none] using h.s9
              ne10_11 := by simpa [upD, eval_put_ne, put_none] using h.ne10_11
              o12 := fun hd => by rw [upD_ne _ (by decide)] at hd; exact ⟨upD_mono (h.o12 hd).1, upD_mono (h.o12 hd).2⟩
              o13 := fun _ => ⟨upD_mono (hp 9 (by decide)), upD_mono (hp 11 (by decide))⟩ }
        case done =>
          intro D a wc hall h
          have hd : ∀ i, i < 14 → D i = true := hall
          obtain ⟨X, ds, v11, eX, bX, -, cX⟩ := h.s10 (hd 10 (by decide))
          obtain ⟨Y, es, v12, eY, bY, -, cY⟩ := h.s11 (hd 11 (by decide))
          have cX := (cX (hd 12 (by decide))).symm.trans (h.s4 (hd 4 (by decide)))
          have cY := (cY (hd 13 (by decide))).symm.trans (h.s9 (hd 9 (by decide)))
          injection cX with cX
          injection cY with cY
          obtain rfl : cA = ds := by simpa using (congrArg Array.toList cX).symm
          obtain rfl : cB = es := by simpa using (congrArg Array.toList cY).symm
          have hfin := ((((((((((((h.fr.shut (by rw [hsz]; decide)).shut (by simp [Act.put, hsz])).shut (by simp [Act.put, hsz])).shut (by simp [Act.put, hsz])).shut (by simp [Act.put, hsz])).shut (by simp [Act.put, hsz])).shut (by simp [Act.put, hsz])).shut (by simp [Act.put, hsz])).shut (by simp [Act.put, hsz])).shut (by simp [Act.put, hsz])).shut (by simp [Act.put, hsz])).shut (by simp [Act.put, hsz])).done
          rw [v11, v12, h.s0 (hd 0 (by decide)), h.s1 (hd 1 (by decide)), h.s2 (hd 2 (by decide)), h.s3 (hd 3 (by decide)), h.s4 (hd 4 (by decide)), h.s5 (hd 5 (by decide)), h.s6 (hd 6 (by decide)), h.s7 (hd 7 (by decide)), h.s8 (hd 8 (by decide)), h.s9 (hd 9 (by decide))] at hfin
          have hbw := h.below
          have hbxc := HBX0.out.below hbw lu
          rw [hfin, HA0.out]
          clear hfin HA0 h hall hd v11 v12 cX cY eX eY t1 t2 t3 hsz
          simp only [Act.put, List.setIfInBounds_toArray, List.set_cons_zero, List.set_cons_succ]
          have k0 := hbxc.cell 0
          have HS := Lib.hid hs; clear hs hl hg
          go_wp2_with fail
          go_loopw [62] (fun v62 wr => ∃ k : Nat, v62 = .int .i64 k ∧ k ≤ u.shared.length ∧ (Blk wr X 70 cA ∧ Blk wr Y 70 cB) ∧ Blk wr w.heap.size 25 [.slice sA u.shared.length sc, .slice lA u.locks.length lc, .slice (some ⟨bgb, bgo, none⟩) u.graphs.length gc] ∧ Below W0.heap.size W0 wr ∧ NoV (fun i => clashV ga gb (i : Int)) k) (fun v62 _ => u.shared.length - (intOf v62).toNat)
          case atStart => exact ⟨0, rfl, by omega, ⟨bX, bY⟩, hbxc, hbw, fun i hi => by omega⟩
          case round =>
            clear bX bY hbxc hbw k0
            obtain ⟨k, rfl, hk, ⟨bX, bY⟩, hbxr, hbr, hno⟩ := hrel
            have HN := Lib.hid hno; clear hno
            have lX := bX.lt
            have lY := bY.lt
            have HX : Hid (∀ j v, cA[j]? = some v → wr.cell? ⟨X, j, none⟩ = some v) := Lib.hid fun j v hj => (bX.cell j).trans hj
            have HY : Hid (∀ j v, cB[j]? = some v → wr.cell? ⟨Y, j, none⟩ = some v) := Lib.hid fun j v hj => (bY.cell j).trans hj
            have HGVr := Lib.hid (HGVa.out.mono (cmap_below hbr))
            have HGVs := Lib.hid (HGVb.out.mono (cmap_below hbr))
            have hwa := HRA.out.whole
            have hwb := HRB.out.whole
            have ku := hbxr.cell 1
            have ko := hbxr.cell 0
            by_cases hlt : k < u.shared.length
            · go_upto_region 12 with fail
              refine wp_act0 fun a0 ha0 => ?_
              have t11 : a0.eval (.tmp 11) = .pointer (some ⟨X, 0, none⟩) := by rw [ha0]; rfl
              have t12 : a0.eval (.tmp 12) = .pointer (some ⟨Y, 0, none⟩) := by rw [ha0]; rfl
              have t13 : a0.eval (.tmp 13) = .int .i64 (k : Int) := by rw [ha0]; rfl
              have hsz : a0.tmps.size = 112 := by rw [ha0]; rfl
              have HA0 := Lib.hid ha0; clear ha0
              refine wp_region_inv (Ap2K wr X Y k cA cB ga gb a0) (by kernel_rfl) (by kernel_rfl) ?start ?steps ?done
              case start =>
                refine { fr := Fr.refl _ _, below := (Below.refl _ wr).drew, s0 := ?_, s1 := ?_, s2 := ?_, s3 := ?_, s4 := ?_, s5 := ?_, s6 := ?_, s7 := ?_ } <;> (intro hd; cases hd)
              case steps =>
                refine steps_all ?_
                refine ⟨?_, ?_, ?_, ?_, ?_, ?_, ?_, ?_, trivial⟩
                · -- 0
                  intro D a wx K hD hp h hK
                  refine step_wp rfl ?_
                  refine wp_load_at 70 _ rfl X 0 ((h.fr.eval (by decide)).trans t11) cA _ (fun j v hj => by rw [Nat.zero_add]; exact (h.below.cell (p := ⟨X, j, none⟩) lX).trans (HX.out j v hj)) Try.underlying70 rfl (by rw [HAL.out]; kernel_rfl) ?_
                  refine hK _ _ {
                    fr := h.fr.put (by decide) _
                    below := h.below
                    s0 := fun _ => h.fr.eval_put (by rw [hsz]; decide) _
                    s1 := by simpa [upD, eval_put_ne, put_none] using h.s1
                    s2 := by simpa [upD, eval_put_ne, put_none] using h.s2
                    s3 := by simpa [upD, eval_put_ne, put_none] using h.s3
                    s4 := by simpa [upD, eval_put_ne, put_none] using h.s4
                    s5 := by simpa [upD, eval_put_ne, put_none] using h.s5
                    s6 := by simpa [upD, eval_put_ne, put_none] using h.s6
                    s7 := by simpa [upD, eval_put_ne, put_none] using h.s7 }
                · -- 1
                  intro D a wx K hD hp h hK
                  refine step_wp rfl ?_
                  refine wp_move_at rfl ?_
                  rw [h.fr.eval (j := 13) (by decide), t13]
                  refine hK _ _ {
                    fr := h.fr.put (by decide) _
                    below := h.below
                    s1 := fun _ => h.fr.eval_put (by rw [hsz]; decide) _
                    s0 := by simpa [upD, eval_put_ne, put_none] using h.s0
                    s2 := by simpa [upD, eval_put_ne, put_none] using h.s2
                    s3 := by simpa [upD, eval_put_ne, put_none] using h.s3
                    s4 := by simpa [upD, eval_put_ne, put_none] using h.s4
                    s5 := by simpa [upD, eval_put_ne, put_none] using h.s5
                    s6 := by simpa [upD, eval_put_ne, put_none] using h.s6
                    s7 := by simpa [upD, eval_put_ne, put_none] using h.s7 }
                · -- 2
                  intro D a wx K hD hp h hK
                  refine step_wp rfl ?_
                  have HK := Lib.hid hK; clear hK
                  have H := Lib.hid h; clear h
                  have q1 := H.out.s0 (hp 0 (by decide))
                  have q2 := H.out.s1 (hp 1 (by decide))
                  have hgx := (HGVr.out).mono (cmap_below H.out.below)
                  refine wp_call_at Try.func42 (by kernel_rfl) (by kernel_rfl) rfl #[.agg cA.toArray, .int .i64 (k : Int), .bool true] (by simp only [List.map_toArray, List.map_cons, List.map_nil, q1, q2]; rfl) ?_
                  refine (touches9_calls ga cA (k : Int) true _ hwa hgx).mono ?_
                  rintro e w1 ⟨rfl, hb1⟩
                  have h := H.out.keep hb1
                  refine ⟨_, rfl, HK.out _ _ ?_⟩
                  exact {
                    fr := h.fr.put (by decide) _
                    below := h.below
                    s2 := fun _ => h.fr.eval_put (by rw [hsz]; decide) _
                    s0 := by simpa [upD, eval_put_ne, put_none] using h.s0
                    s1 := by simpa [upD, eval_put_ne, put_none] using h.s1
                    s3 := by simpa [upD, eval_put_ne, put_none] using h.s3
                    s4 := by simpa [upD, eval_put_ne, put_none] using h.s4
                    s5 := by simpa [upD, eval_put_ne, put_none] using h.s5
                    s6 := by simpa [upD, eval_put_ne, put_none] using h.s6
                    s7 := by simpa [upD, eval_put_ne, put_none] using h.s7 }
                · -- 3
                  intro D a wx K hD hp h hK
                  refine step_wp rfl ?_
                  refine wp_load_at 70 _ rfl Y 0 ((h.fr.eval (by decide)).trans t12) cB _ (fun j v hj => by rw [Nat.zero_add]; exact (h.below.cell (p := ⟨Y, j, none⟩) lY).trans (HY.out j v hj)) Try.underlying70 rfl (by rw [HBL.out]; kernel_rfl) ?_
                  refine hK _ _ {
                    fr := h.fr.put (by decide) _
                    below := h.below
                    s3 := fun _ => h.fr.eval_put (by rw [hsz]; decide) _
                    s0 := by simpa [upD, eval_put_ne, put_none] using h.s0
                    s1 := by simpa [upD, eval_put_ne, put_none] using h.s1
                    s2 := by simpa [upD, eval_put_ne, put_none] using h.s2
                    s4 := by simpa [upD, eval_put_ne, put_none] using h.s4
                    s5 := by simpa [upD, eval_put_ne, put_none] using h.s5
                    s6 := by simpa [upD, eval_put_ne, put_none] using h.s6
                    s7 := by simpa [upD, eval_put_ne, put_none] using h.s7 }
                · -- 4
                  intro D a wx K hD hp h hK
                  refine step_wp rfl ?_
                  refine wp_move_at rfl ?_
                  rw [h.fr.eval (j := 13) (by decide), t13]
                  refine hK _ _ {
                    fr := h.fr.put (by decide) _
                    below := h.below
                    s4 := fun _ => h.fr.eval_put (by rw [hsz]; decide) _
                    s0 := by simpa [upD, eval_put_ne, put_none] using h.s0
                    s1 := by simpa [upD, eval_put_ne, put_none] using h.s1
                    s2 := by simpa [upD, eval_put_ne, put_none] using h.s2
                    s3 := by simpa [upD, eval_put_ne, put_none] using h.s3
                    s5 := by simpa [upD, eval_put_ne, put_none] using h.s5
                    s6 := by simpa [upD, eval_put_ne, put_none] using h.s6
                    s7 := by simpa [upD, eval_put_ne, put_none] using h.s7 }
                · -- 5
                  intro D a wx K hD hp h hK
                  refine step_wp rfl ?_
                  have HK := Lib.hid hK; clear hK
                  have H := Lib.hid h; clear h
                  have q1 := H.out.s3 (hp 3 (by decide))
                  have q2 := H.out.s4 (hp 4 (by decide))
                  have hgx := (HGVs.out).mono (cmap_below H.out.below)
                  refine wp_call_at Try.func42 (by kernel_rfl) (by kernel_rfl) rfl #[.agg cB.toArray, .int .i64 (k : Int), .bool true] (by simp only [List.map_toArray, List.map_cons, List.map_nil, q1, q2]; rfl) ?_
                  refine (touches9_calls gb cB (k : Int) true _ hwb hgx).mono ?_
                  rintro e w1 ⟨rfl, hb1⟩
                  have h := H.out.keep hb1
                  refine ⟨_, rfl, HK.out _ _ ?_⟩
                  exact {
                    fr := h.fr.put (by decide) _
                    below := h.below
                    s5 := fun _ => h.fr.eval_put (by rw [hsz]; decide) _
                    s0 := by simpa [upD, eval_put_ne, put_none] using h.s0
                    s1 := by simpa [upD, eval_put_ne, put_none] using h.s1
                    s2 := by simpa [upD, eval_put_ne, put_none] using h.s2
                    s3 := by simpa [upD, eval_put_ne, put_none] using h.s3
                    s4 := by simpa [upD, eval_put_ne, put_none] using h.s4
                    s6 := by simpa [upD, eval_put_ne, put_none] using h.s6
                    s7 := by simpa [upD, eval_put_ne, put_none] using h.s7 }
                · -- 6
                  intro D a wx K hD hp h hK
                  refine step_wp rfl ?_
                  refine wp_assign_at rfl ?_
                  rw [h.s2 (hp 2 (by decide))]
                  refine hK _ _ {
                    fr := h.fr.put (by decide) _
                    below := h.below
                    s6 := fun _ => h.fr.eval_put (by rw [hsz]; decide) _
                    s0 := by simpa [upD, eval_put_ne, put_none] using h.s0
                    s1 := by simpa [upD, eval_put_ne, put_none] using h.s1
                    s2 := by simpa [upD, eval_put_ne, put_none] using h.s2
                    s3 := by simpa [upD, eval_put_ne, put_none] using h.s3
                    s4 := by simpa [upD, eval_put_ne, put_none] using h.s4
                    s5 := by simpa [upD, eval_put_ne, put_none] using h.s5
                    s7 := by simpa [upD, eval_put_ne, put_none] using h.s7 }
                · -- 7
                  intro D a wx K hD hp h hK
                  refine step_wp rfl ?_
                  refine wp_assign_at rfl ?_
                  rw [h.s5 (hp 5 (by decide))]
                  refine hK _ _ {
                    fr := h.fr.put (by decide) _
                    below := h.below
                    s7 := fun _ => h.fr.eval_put (by rw [hsz]; decide) _
                    s0 := by simpa [upD, eval_put_ne, put_none] using h.s0
                    s1 := by simpa [upD, eval_put_ne, put_none] using h.s1
                    s2 := by simpa [upD, eval_put_ne, put_none] using h.s2
                    s3 := by simpa [upD, eval_put_ne, put_none] using h.s3
                    s4 := by simpa [upD, eval_put_ne, put_none] using h.s4
                    s5 := by simpa [upD, eval_put_ne, put_none] using h.s5
                    s6 := by simpa [upD, eval_put_ne, put_none] using h.s6 }
              case done =>
                intro D a wc hall h
                have hd : ∀ i, i < 8 → D i = true := hall
                obtain ⟨wa, hwA⟩ : ∃ x, anyN ga (tchP (k : Int) true) = x := ⟨_, rfl⟩
                obtain ⟨wb, hwB⟩ : ∃ x, anyN gb (tchP (k : Int) true) = x := ⟨_, rfl⟩
                have hfin := ((((((((h.fr.shut (by rw [hsz]; decide)).shut (by simp [Act.put, hsz])).shut (by simp [Act.put, hsz])).shut (by simp [Act.put, hsz])).shut (by simp [Act.put, hsz])).shut (by simp [Act.put, hsz])).shut (by simp [Act.put, hsz])).shut (by simp [Act.put, hsz])).done
                rw [h.s6 (hd 6 (by decide)), h.s7 (hd 7 (by decide)), h.s0 (hd 0 (by decide)), h.s1 (hd 1 (by decide)), h.s2 (hd 2 (by decide)), h.s3 (hd 3 (by decide)), h.s4 (hd 4 (by decide)), h.s5 (hd 5 (by decide)), hwA, hwB] at hfin
                have hbc := h.below
                have hbW : Below W0.heap.size W0 wc := hbr.trans (hbc.mono hbr.size)
                have bXc := bX.below hbc bX.lt
                have bYc := bY.below hbc bY.lt
                have hbxc := hbxr.below hbc hbxr.lt
                have HLX : Hid (∀ j v, cA[j]? = some v → wc.cell? ⟨X, 0 + j, none⟩ = some v) := Lib.hid fun j v hj => by rw [Nat.zero_add, bXc.cell]; exact hj
                have HLY : Hid (∀ j v, cB[j]? = some v → wc.cell? ⟨Y, 0 + j, none⟩ = some v) := Lib.hid fun j v hj => by rw [Nat.zero_add, bYc.cell]; exact hj
                have HGc := Lib.hid (HGVa.out.mono (cmap_below hbW))
                have HGd := Lib.hid (HGVb.out.mono (cmap_below hbW))
                rw [hfin, HA0.out]
                have HWA := Lib.hid hwA; have HWB := Lib.hid hwB
                clear hfin HA0 h hall hd t11 t12 t13 hsz hwA hwB hbc
                simp only [Act.put, List.setIfInBounds_toArray, List.set_cons_zero, List.set_cons_succ]
                cases wa
                · cases wb
                  · have hcl : clashV ga gb (k : Int) = false := by unfold clashV; rw [HWA.out, HWB.out]; rfl
                    have HCL := Lib.hid hcl; clear hcl
                    go_wp2_with fail
                    go_roundw
                    case rel => exact ⟨k + 1, by go_num, hlt, ⟨bXc, bYc⟩, hbxc, hbW, upto_succ HN.out HCL.out⟩
                    case measure => simp [intOf]; omega
                  · go_wp2_with (first
                      | (refine wpList_load_at_g (by rfl) 70 _ rfl X 0 rfl cA _ HLX.out Try.underlying70 rfl (by rw [HAL.out]; kernel_rfl) ?_))
                    refine (touches9_calls ga cA (k : Int) false _ hwa HGc.out).mono ?_
                    rintro e w6 ⟨rfl, hb6⟩
                    obtain ⟨rr, hrr⟩ : ∃ x, anyN ga (tchP (k : Int) false) = x := ⟨_, rfl⟩
                    rw [hrr]
                    have HRX := Lib.hid hrr; clear hrr
                    have hb6W : Below W0.heap.size W0 w6 := hbW.trans (hb6.mono hbW.size)
                    cases rr
                    · have hcl : clashV ga gb (k : Int) = false := by unfold clashV; rw [HWA.out, HWB.out, HRX.out]; rfl
                      have HCL := Lib.hid hcl; clear hcl
                      go_wp2_with fail
                      go_roundw
                      case rel => exact ⟨k + 1, by go_num, hlt, ⟨bXc.below hb6 bXc.lt, bYc.below hb6 bYc.lt⟩, hbxc.below hb6 hbxc.lt, hb6W, upto_succ HN.out HCL.out⟩
                      case measure => simp [intOf]; omega
                    · have hcl : clashV ga gb (k : Int) = true := by unfold clashV; rw [HWA.out, HWB.out, HRX.out]; rfl
                      have HF := Lib.hid (apart_noV hcl); clear hcl
                      go_wp2_with fail
                      go_ret2
                      have e := HRR.out
                      rw [HF.out] at e
                      subst e
                      exact ⟨rfl, HW0.out.trans (hb6W.mono HW0.out.size)⟩
                · cases wb
                  · go_wp2_with (first
                      | (refine wpList_load_at_g (by rfl) 70 _ rfl Y 0 rfl cB _ HLY.out Try.underlying70 rfl (by rw [HBL.out]; kernel_rfl) ?_))
                    refine (touches9_calls gb cB (k : Int) false _ hwb HGd.out).mono ?_
                    rintro e w6 ⟨rfl, hb6⟩
                    obtain ⟨rr, hrr⟩ : ∃ x, anyN gb (tchP (k : Int) false) = x := ⟨_, rfl⟩
                    rw [hrr]
                    have HRX := Lib.hid hrr; clear hrr
                    have hb6W : Below W0.heap.size W0 w6 := hbW.trans (hb6.mono hbW.size)
                    cases rr
                    · have hcl : clashV ga gb (k : Int) = false := by unfold clashV; rw [HWA.out, HWB.out, HRX.out]; rfl
                      have HCL := Lib.hid hcl; clear hcl
                      go_wp2_with fail
                      go_roundw
                      case rel => exact ⟨k + 1, by go_num, hlt, ⟨bXc.below hb6 bXc.lt, bYc.below hb6 bYc.lt⟩, hbxc.below hb6 hbxc.lt, hb6W, upto_succ HN.out HCL.out⟩
                      case measure => simp [intOf]; omega
                    · have hcl : clashV ga gb (k : Int) = true := by unfold clashV; rw [HWA.out, HWB.out, HRX.out]; rfl
                      have HF := Lib.hid (apart_noV hcl); clear hcl
                      go_wp2_with fail
                      go_ret2
                      have e := HRR.out
                      rw [HF.out] at e
                      subst e
                      exact ⟨rfl, HW0.out.trans (hb6W.mono HW0.out.size)⟩
                  · have hcl : clashV ga gb (k : Int) = true := by unfold clashV; rw [HWA.out, HWB.out]; rfl
                    have HF := Lib.hid (apart_noV hcl); clear hcl
                    go_wp2_with fail
                    go_ret2
                    have e := HRR.out
                    rw [HF.out] at e
                    subst e
                    exact ⟨rfl, HW0.out.trans (hbW.mono HW0.out.size)⟩
            · obtain rfl : k = u.shared.length := by omega
              obtain ⟨wq, rfl⟩ : ∃ wq : World, wq = wr := ⟨_, rfl⟩
              have HNV := Lib.hid HN.out
              go_wp2_with fail
              go_loopw [92] (fun v92 wr => ∃ k : Nat, v92 = .int .i64 k ∧ k ≤ u.locks.length ∧ (Blk wr X 70 cA ∧ Blk wr Y 70 cB) ∧ Below W0.heap.size W0 wr ∧ NoV (fun i => clashL ga gb (i : Int)) k) (fun v92 _ => u.locks.length - (intOf v92).toNat)
              case atStart => exact ⟨0, rfl, by omega, ⟨bX, bY⟩, hbr, fun i hi => by omega⟩
              case round =>
                clear bX bY hbxr hbr HX HY ku ko HGVr HGVs lX lY HN hlt hk
                obtain ⟨k, rfl, hk, ⟨bX, bY⟩, hbr, hno⟩ := hrel
                have HN := Lib.hid hno; clear hno
                have HLX : Hid (∀ j v, cA[j]? = some v → wr.cell? ⟨X, 0 + j, none⟩ = some v) := Lib.hid fun j v hj => by rw [Nat.zero_add, bX.cell]; exact hj
                have HGr := Lib.hid (HGVa.out.mono (cmap_below hbr))
                by_cases hlt : k < u.locks.length
                · go_wp2_with (first
                    | (refine wpList_load_at rfl 70 _ rfl X 0 rfl cA _ HLX.out Try.underlying70 rfl (by rw [HAL.out]; kernel_rfl) ?_))
                  refine (does9_calls ga cA 5 (k : Int) _ hwa HGr.out).mono ?_
                  rintro e w6 ⟨rfl, hb6⟩
                  obtain ⟨da, hda⟩ : ∃ x, anyN ga (doesP 5 (k : Int)) = x := ⟨_, rfl⟩
                  rw [hda]
                  have HDA := Lib.hid hda; clear hda
                  have hb6W : Below W0.heap.size W0 w6 := hbr.trans (hb6.mono hbr.size)
                  have bX6 := bX.below hb6 bX.lt
                  have bY6 := bY.below hb6 bY.lt
                  have HLY : Hid (∀ j v, cB[j]? = some v → w6.cell? ⟨Y, 0 + j, none⟩ = some v) := Lib.hid fun j v hj => by rw [Nat.zero_add, bY6.cell]; exact hj
                  have HGs := Lib.hid (HGVb.out.mono (cmap_below hb6W))
                  cases da
                  · have hcl : clashL ga gb (k : Int) = false := by unfold clashL; rw [HDA.out]; rfl
                    have HCL := Lib.hid hcl; clear hcl
                    go_wp2_with fail
                    go_roundw
                    case rel => exact ⟨k + 1, by go_num, hlt, ⟨bX6, bY6⟩, hb6W, upto_succ HN.out HCL.out⟩
                    case measure => simp [intOf]; omega
                  · go_wp2_with (first
                      | (refine wpList_load_at_g (by rfl) 70 _ rfl Y 0 rfl cB _ HLY.out Try.underlying70 rfl (by rw [HBL.out]; kernel_rfl) ?_))
                    refine (does9_calls gb cB 5 (k : Int) _ hwb HGs.out).mono ?_
                    rintro e w7 ⟨rfl, hb7⟩
                    obtain ⟨db, hdb⟩ : ∃ x, anyN gb (doesP 5 (k : Int)) = x := ⟨_, rfl⟩
                    rw [hdb]
                    have HDB := Lib.hid hdb; clear hdb
                    have hb7W : Below W0.heap.size W0 w7 := hb6W.trans (hb7.mono hb6W.size)
                    have bX7 := bX6.below hb7 bX6.lt
                    have bY7 := bY6.below hb7 bY6.lt
                    cases db
                    · have hcl : clashL ga gb (k : Int) = false := by unfold clashL; rw [HDA.out, HDB.out]; rfl
                      have HCL := Lib.hid hcl; clear hcl
                      go_wp2_with fail
                      go_roundw
                      case rel => exact ⟨k + 1, by go_num, hlt, ⟨bX7, bY7⟩, hb7W, upto_succ HN.out HCL.out⟩
                      case measure => simp [intOf]; omega
                    · have hcl : clashL ga gb (k : Int) = true := by unfold clashL; rw [HDA.out, HDB.out]; rfl
                      have HF := Lib.hid (apart_noL hcl); clear hcl
                      go_wp2_with fail
                      go_ret2
                      have e := HRR.out
                      rw [HF.out] at e
                      subst e
                      exact ⟨rfl, HW0.out.trans (hb7W.mono HW0.out.size)⟩
                · obtain rfl : k = u.locks.length := by omega
                  have hyes := apart_yes HRA.out HRB.out HNV.out HN.out
                  have HYS := Lib.hid hyes; clear hyes
                  go_wp2_with (first
                    | (refine wpList_load_at rfl 70 _ rfl X 0 rfl cA _ HLX.out Try.underlying70 rfl (by rw [HAL.out]; kernel_rfl) ?_))
                  refine (does9_calls ga cA 7 (-1) _ hwa HGr.out).mono ?_
                  rintro e w6 ⟨rfl, hb6⟩
                  rw [does_p]
                  obtain ⟨p1, hp1⟩ : ∃ x, anyN ga prB = x := ⟨_, rfl⟩
                  rw [hp1]
                  have HP1 := Lib.hid hp1; clear hp1
                  have hb6W : Below W0.heap.size W0 w6 := hbr.trans (hb6.mono hbr.size)
                  have bY6 := bY.below hb6 bY.lt
                  have HLY : Hid (∀ j v, cB[j]? = some v → w6.cell? ⟨Y, 0 + j, none⟩ = some v) := Lib.hid fun j v hj => by rw [Nat.zero_add, bY6.cell]; exact hj
                  have HGs := Lib.hid (HGVb.out.mono (cmap_below hb6W))
                  cases p1
                  · go_wp2_with fail
                    go_ret2
                    have e := HRR.out
                    rw [HYS.out, HP1.out] at e
                    subst e
                    exact ⟨rfl, HW0.out.trans (hb6W.mono HW0.out.size)⟩
                  · go_wp2_with (first
                      | (refine wpList_load_at_g (by rfl) 70 _ rfl Y 0 rfl cB _ HLY.out Try.underlying70 rfl (by rw [HBL.out]; kernel_rfl) ?_))
                    refine (does9_calls gb cB 7 (-1) _ hwb HGs.out).mono ?_
                    rintro e w7 ⟨rfl, hb7⟩
                    rw [does_p]
                    obtain ⟨p2, hp2⟩ : ∃ x, anyN gb prB = x := ⟨_, rfl⟩
                    rw [hp2]
                    have HP2 := Lib.hid hp2; clear hp2
                    have hb7W : Below W0.heap.size W0 w7 := hb6W.trans (hb7.mono hb6W.size)
                    go_wp2_with fail
                    go_ret2
                    have e := HRR.out
                    rw [HYS.out, HP1.out, HP2.out] at e
                    subst e
                    exact ⟨rfl, HW0.out.trans (hb7W.mono HW0.out.size)⟩
end Go.Proofs.Ytkkmkjjbffpgnaa
