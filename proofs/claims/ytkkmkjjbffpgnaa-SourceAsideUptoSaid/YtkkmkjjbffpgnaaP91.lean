import Derived.Test.YtkkmkjjbffpgnaaP90
import Derived.Test.YtkkmkjjbffpgnaaP87
import Derived.Test.YtkkmkjjbffpgnaaP73
import Derived.Test.YtkkmkjjbffpgnaaP70
/- The walk of the law SourceAside. -/
namespace Go.Proofs.Ytkkmkjjbffpgnaa
open Go Go.RowKit
theorem cmap_onA {w wr : World} (hb : Below w.heap.size w wr) : (cmap w).le (on wr fun q => q < w.heap.size) := fun b o v hv => on_mk (cmap_below hb b o v hv) (World.block_lt_of_cell? w ⟨b, o, none⟩ hv)
theorem can_stands {u : Unit_} {m : Mach} (hs : Situ u m) {t : Int} (h : barF u m t = 0) : ∃ (a : Nat) (g : Graph) (i : Nat) (n : Node), t = a ∧ a < u.graphs.length ∧ Stands u m a g i n ∧ m.where_ t = i := by
  obtain ⟨k, rfl, hl⟩ := bar_out hs.ok (t := t) (by rw [h]; decide)
  obtain ⟨g, i, n, hst⟩ := stands_at hs.ok hl
  refine ⟨k, g, i, n, rfl, hl, hst, ?_⟩
  unfold Mach.where_
  have := (List.getElem?_eq_some_iff.1 hst.pc).1
  rw [if_pos (by omega), Int.toNat_natCast, hst.pc]; rfl
set_option maxRecDepth 100000 in
set_option maxHeartbeats 1000000 in
theorem aside_bad (u : Unit_) (cs : List Value) (v1 : Value) (a b : Int) (w : World) (hu : UnitV (cmap w) cs u) (hok : UOk u) (hc : checkF u ≠ none) :
    Calls Try.prog 6 #[.agg cs.toArray, v1, .int .i64 a, .int .i64 b] w fun e w' => e = .returned (.bool true) ∧ Below w.heap.size w w' := by
  have hu0 := hu
  obtain ⟨su, lu, gu, rfl, -, -, -⟩ := hu0
  have HU := Lib.hid (And.intro hu (And.intro hok hc))
  have HL : ∀ wr, Blk wr w.heap.size 25 [su, lu, gu] → Hid (∀ j v, ([su, lu, gu] : List Value)[j]? = some v → wr.cell? ⟨w.heap.size, 0 + j, none⟩ = some v) := fun wr h => Lib.hid fun j v hj => by rw [Nat.zero_add, h.cell]; exact hj
  have hB0 := Below_alloc' w (.cells #[su, lu, gu] 25)
  have hx0 := Blk.new w 25 [su, lu, gu]
  have HLD := HL _ hx0
  clear hu hok hc HL
  go_enter Try.func6, Try.ntmps6
  go_wp2_with (first
    | (refine wpList_load_at rfl 25 _ rfl w.heap.size 0 rfl _ _ HLD.out Try.underlying25 rfl (by kernel_rfl) ?_))
  refine (new_bad u _ _ (HU.out.1.mono (cmap_below hB0)) HU.out.2.1 HU.out.2.2).mono ?_
  rintro e w2 ⟨rfl, hb2⟩
  have hB2 := hB0.trans (hb2.mono hB0.size)
  clear hb2 HLD hx0
  go_wp2_with fail
  refine (lives7_calls _).mono ?_
  rintro e w4 ⟨rfl, hb4⟩
  have hB4 := hB2.trans (hb4.mono hB2.size)
  have HF := Lib.hid hB4
  clear hb4 hB0 hB2 hB4
  go_wp2
  go_ret
  exact ⟨rfl, HF.out⟩
/-- What holds while a region's operations come up, D being those that have. -/
structure As9 (W0 : World) (bx gb go_ N gc ta tb ia ib nbP noP naP ncP nbQ noQ naQ ncQ g : Nat) (x y : Node) (a0 : Act) (D : Nat → Bool) (a : Act) (w : World) : Prop where
  fr : Fr [11, 12, 56, 57, 58, 59, 60, 61, 62, 63, 64, 65, 66, 67, 68, 69, 70, 71, 72, 73, 74, 75, 76, 77] a0 a
  below : Below W0.heap.size W0 w
  s0 : D 0 = true → a.eval (.tmp 56) = .pointer (some ⟨bx, 2, none⟩)
  s1 : D 1 = true → a.eval (.tmp 57) = .slice (some ⟨gb, go_, none⟩) N gc
  s2 : D 2 = true → a.eval (.tmp 58) = .int .i64 (ta : Int)
  s3 : D 3 = true → a.eval (.tmp 59) = .pointer (some ⟨gb, go_ + ta * 4, none⟩)
  s4 : D 4 = true → a.eval (.tmp 60) = .pointer (some ⟨gb, go_ + ta * 4 + 3, none⟩)
  s5 : D 5 = true → a.eval (.tmp 61) = .slice (some ⟨nbP, noP, none⟩) naP ncP
  s6 : D 6 = true → a.eval (.tmp 62) = .pointer (some ⟨g, 0, none⟩)
  s7 : D 7 = true → a.eval (.tmp 63) = .int .i64 (ta : Int)
  s8 : D 8 = true → a.eval (.tmp 64) = .int .i64 (ia : Int)
  s9 : D 9 = true → a.eval (.tmp 65) = .pointer (some ⟨nbP, noP + ia * 13, none⟩)
  s10 : D 10 = true → a.eval (.tmp 66) = .agg x.cells.toArray
  s11 : D 11 = true → a.eval (.tmp 67) = .pointer (some ⟨bx, 2, none⟩)
  s12 : D 12 = true → a.eval (.tmp 68) = .slice (some ⟨gb, go_, none⟩) N gc
  s13 : D 13 = true → a.eval (.tmp 69) = .int .i64 (tb : Int)
  s14 : D 14 = true → a.eval (.tmp 70) = .pointer (some ⟨gb, go_ + tb * 4, none⟩)
  s15 : D 15 = true → a.eval (.tmp 71) = .pointer (some ⟨gb, go_ + tb * 4 + 3, none⟩)
  s16 : D 16 = true → a.eval (.tmp 72) = .slice (some ⟨nbQ, noQ, none⟩) naQ ncQ
  s17 : D 17 = true → a.eval (.tmp 73) = .pointer (some ⟨g, 0, none⟩)
  s18 : D 18 = true → a.eval (.tmp 74) = .int .i64 (tb : Int)
  s19 : D 19 = true → a.eval (.tmp 75) = .int .i64 (ib : Int)
  s20 : D 20 = true → a.eval (.tmp 76) = .pointer (some ⟨nbQ, noQ + ib * 13, none⟩)
  s21 : D 21 = true → a.eval (.tmp 77) = .agg y.cells.toArray
  s22 : D 22 = true → ∃ X cs, a.eval (.tmp 11) = .pointer (some ⟨X, 0, none⟩) ∧ W0.heap.size ≤ X ∧ Blk w X 67 cs ∧ cs.length = 13 ∧ (D 24 = true → a.eval (.tmp 66) = .agg cs.toArray)
  s23 : D 23 = true → ∃ X cs, a.eval (.tmp 12) = .pointer (some ⟨X, 0, none⟩) ∧ W0.heap.size ≤ X ∧ Blk w X 67 cs ∧ cs.length = 13 ∧ (D 25 = true → a.eval (.tmp 77) = .agg cs.toArray)
  ne22_23 : D 22 = true → D 23 = true → a.eval (.tmp 11) ≠ a.eval (.tmp 12)
  o24 : D 24 = true → D 10 = true ∧ D 22 = true
  o25 : D 25 = true → D 21 = true ∧ D 23 = true
theorem As9.keep {W0 : World} {bx gb go_ N gc ta tb ia ib nbP noP naP ncP nbQ noQ naQ ncQ g : Nat} {x y : Node} {a0 : Act} {D : Nat → Bool} {a : Act} {w w' : World} (h : As9 W0 bx gb go_ N gc ta tb ia ib nbP noP naP ncP nbQ noQ naQ ncQ g x y a0 D a w) (hb : Below w.heap.size w w') : As9 W0 bx gb go_ N gc ta tb ia ib nbP noP naP ncP nbQ noQ naQ ncQ g x y a0 D a w' where
  fr := h.fr
  below := h.below.trans (hb.mono h.below.size)
  s0 := h.s0
  s1 := h.s1
  s2 := h.s2
  s3 := h.s3
  s4 := h.s4
  s5 := h.s5
  s6 := h.s6
  s7 := h.s7
  s8 := fun hd => by exact h.s8 hd
  s9 := h.s9
  s10 := h.s10
  s11 := h.s11
  s12 := h.s12
  s13 := h.s13
  s14 := h.s14
  s15 := h.s15
  s16 := h.s16
  s17 := h.s17
  s18 := h.s18
  s19 := fun hd => by exact h.s19 hd
  s20 := h.s20
  s21 := h.s21
  s22 := fun hd => by obtain ⟨X, cs, e, e1, e2, e3⟩ := h.s22 hd; exact ⟨X, cs, e, e1, e2.below hb e2.lt, e3⟩
  s23 := fun hd => by obtain ⟨X, cs, e, e1, e2, e3⟩ := h.s23 hd; exact ⟨X, cs, e, e1, e2.below hb e2.lt, e3⟩
  ne22_23 := h.ne22_23
  o24 := h.o24
  o25 := h.o25
/-- What holds while a region's operations come up, D being those that have. -/
structure As10 (W0 : World) (X Y : Nat) (x y : Node) (be bz b7 c7 : Bool) (a0 : Act) (D : Nat → Bool) (a : Act) (w : World) : Prop where
  fr : Fr [78, 79, 80, 81, 82, 83, 84, 85, 86, 87, 88, 89, 90, 91, 92, 93, 94, 95, 96, 97] a0 a
  below : Below W0.heap.size W0 w
  s0 : D 0 = true → a.eval (.tmp 78) = .agg x.cells.toArray
  s1 : D 1 = true → a.eval (.tmp 79) = .int .i64 (touchI x)
  s2 : D 2 = true → a.eval (.tmp 80) = .agg y.cells.toArray
  s3 : D 3 = true → a.eval (.tmp 81) = .int .i64 (touchI y)
  s4 : D 4 = true → a.eval (.tmp 82) = .bool be
  s5 : D 5 = true → a.eval (.tmp 83) = .bool be
  s6 : D 6 = true → a.eval (.tmp 84) = gv (be) (.agg x.cells.toArray)
  s7 : D 7 = true → a.eval (.tmp 85) = gv (be) (.int .i64 (touchI x))
  s8 : D 8 = true → a.eval (.tmp 86) = gv (be) (.bool bz)
  s9 : D 9 = true → a.eval (.tmp 87) = .bool (be && bz)
  s10 : D 10 = true → a.eval (.tmp 88) = .bool (be && bz)
  s11 : D 11 = true → a.eval (.tmp 89) = gv (!(be && bz)) (.pointer (some ⟨X, 0, none⟩))
  s12 : D 12 = true → a.eval (.tmp 90) = gv (!(be && bz)) (.int .u8 x.kind)
  s13 : D 13 = true → a.eval (.tmp 91) = gv (!(be && bz)) (.bool b7)
  s14 : D 14 = true → a.eval (.tmp 92) = gv (!(be && bz)) (.bool b7)
  s15 : D 15 = true → a.eval (.tmp 93) = gv (!(be && bz) && b7) (.pointer (some ⟨Y, 0, none⟩))
  s16 : D 16 = true → a.eval (.tmp 94) = gv (!(be && bz) && b7) (.int .u8 y.kind)
  s17 : D 17 = true → a.eval (.tmp 95) = gv (!(be && bz) && b7) (.bool c7)
  s18 : D 18 = true → a.eval (.tmp 96) = gv (!(be && bz)) (.bool (b7 && c7))
  s19 : D 19 = true → a.eval (.tmp 97) = .bool ((be && bz) || (b7 && c7))
theorem As10.keep {W0 : World} {X Y : Nat} {x y : Node} {be bz b7 c7 : Bool} {a0 : Act} {D : Nat → Bool} {a : Act} {w w' : World} (h : As10 W0 X Y x y be bz b7 c7 a0 D a w) (hb : Below w.heap.size w w') : As10 W0 X Y x y be bz b7 c7 a0 D a w' where
  fr := h.fr
  below := h.below.trans (hb.mono h.below.size)
  s0 := h.s0
  s1 := fun hd => by exact h.s1 hd
  s2 := h.s2
  s3 := fun hd => by exact h.s3 hd
  s4 := h.s4
  s5 := h.s5
  s6 := h.s6
  s7 := fun hd => by exact h.s7 hd
  s8 := h.s8
  s9 := h.s9
  s10 := h.s10
  s11 := h.s11
  s12 := h.s12
  s13 := h.s13
  s14 := h.s14
  s15 := h.s15
  s16 := h.s16
  s17 := h.s17
  s18 := h.s18
  s19 := h.s19
set_option maxRecDepth 100000 in
set_option maxHeartbeats 16000000 in
theorem aside_good (u : Unit_) (cs : List Value) (A : Option Addr) (c : Nat) (l : List Int) (a b : Int) (w : World) (hu : UnitV (cmap w) cs u) (hok : UOk u) (hso : SOk u) (hv : Ints (cmap w) (.slice A l.length c) l) (hl : l.length ≤ 1048576) (hc : checkF u = none) :
    Calls Try.prog 6 #[.agg cs.toArray, .slice A l.length c, .int .i64 a, .int .i64 b] w fun e w' => e = .returned (.bool true) ∧ Below w.heap.size w w' := by
  have hru := checkF_none hc
  have hz := checkF_sizes hc
  have hst := start_situ hc hso
  have hu0 := hu
  obtain ⟨su, lu, gu, rfl, -, -, hgr⟩ := hu0
  obtain ⟨gA, gc, rfl, -, -, -⟩ := id hgr
  have nG := hru.threads
  have HU := Lib.hid (And.intro hu (And.intro hok hc))
  have HK := Lib.hid (And.intro hru (And.intro hok (And.intro hz hgr)))
  have HV := Lib.hid (And.intro hv hst)
  have HL : ∀ wr, Blk wr w.heap.size 25 [su, lu, .slice gA u.graphs.length gc] → Hid (∀ j v, ([su, lu, .slice gA u.graphs.length gc] : List Value)[j]? = some v → wr.cell? ⟨w.heap.size, 0 + j, none⟩ = some v) := fun wr h => Lib.hid fun j v hj => by rw [Nat.zero_add, h.cell]; exact hj
  have hB0 := Below_alloc' w (.cells #[su, lu, .slice gA u.graphs.length gc] 25)
  have hx0 := Blk.new w 25 [su, lu, .slice gA u.graphs.length gc]
  have HLD := HL _ hx0
  clear hu hok hc HL hru hst hv hz hso hgr
  go_enter Try.func6, Try.ntmps6
  go_wp2_with (first
    | (refine wpList_load_at rfl 25 _ rfl w.heap.size 0 rfl _ _ HLD.out Try.underlying25 rfl (by kernel_rfl) ?_))
  refine (new_good u _ _ (HU.out.1.mono (cmap_below hB0)) HU.out.2.1 HU.out.2.2).mono ?_
  rintro e w2 ⟨g, L, R, rfl, hM, hR, hmu, hb2⟩
  have hx2 := hx0.below hb2 hx0.lt
  have hmu' : ∀ q, L.mut g q → w.heap.size < q := fun q hq => Nat.lt_of_lt_of_le hx0.lt (hmu q hq)
  have HB2 := Lib.hid (And.intro hM (And.intro hR (And.intro hmu' (And.intro hb2 (And.intro hB0 hx2)))))
  clear hb2 HLD hM hR hmu hB0 hx0 hx2 hmu'
  go_wp2_with fail
  refine (lives7_calls _).mono ?_
  rintro e w3 ⟨rfl, hb3⟩
  have hM3 := HB2.out.1.below hb3
  have hR3 : ∀ q, R q → q < w3.heap.size := fun q hq => Nat.lt_of_lt_of_le (HB2.out.2.1 q hq).2 hb3.size
  have hB3 : Below w.heap.size w w3 := (HB2.out.2.2.2.2.1.trans (HB2.out.2.2.2.1.mono HB2.out.2.2.2.2.1.size)).trans (hb3.mono (Nat.le_trans HB2.out.2.2.2.2.1.size HB2.out.2.2.2.1.size))
  have hx3 := HB2.out.2.2.2.2.2.below hb3 HB2.out.2.2.2.2.2.lt
  have hmu3 := HB2.out.2.2.1
  have hp0 : (startM u).prints.length = 0 := rfl
  have HRN := Lib.hid (run_calls hM3 HV.out.2 HK.out.1 HK.out.2.1 (by omega) hR3 (HV.out.1.mono (cmap_onA hB3)) (fun q hq e => by have := hmu3 q e; omega))
  obtain ⟨⟨m1, n1, e1⟩, hX⟩ : ∃ X, runF u (startM u) l = X := ⟨_, rfl⟩
  have hsi := runF_situ HK.out.1 HK.out.2.1 l HV.out.2
  have hpi := runF_pri HK.out.1 HK.out.2.1 l HV.out.2 (PrI.start u)
  rw [hX] at HRN hsi hpi
  have hs1 : Situ u m1 := hsi.1
  have hp1 : PrI m1 := hpi
  have hpl : m1.prints.length ≤ 1048576 := by
    have h1 : m1.prints.length ≤ (startM u).prints.length + n1 := hsi.2.1
    have h2 : n1 ≤ l.length := hsi.2.2
    omega
  have HS1 := Lib.hid (And.intro hs1 (And.intro hp1 hpl))
  have H3 := Lib.hid (And.intro hM3 (And.intro hR3 (And.intro hB3 (And.intro hmu3 hx3))))
  clear hb3 hM3 hR3 hB3 hmu3 HB2 hsi hpi hs1 hp1 hpl hX hp0 hx3
  by_cases hab : a = b
  · have eab : (a == b) = true := by simp [hab]
    have HF := Lib.hid H3.out.2.2.1
    go_wp2
    go_ret
    exact ⟨rfl, HF.out⟩
  have eab : (a == b) = false := by simp [hab]
  go_wp2_with fail
  refine HRN.out.mono ?_
  rintro e w4 ⟨rfl, hm4⟩
  obtain ⟨pv, k1, k2⟩ := hm4.ex
  obtain ⟨L1, hL1⟩ : ∃ L1 : Lay, ({ L with pv := pv } : Lay) = L1 := ⟨_, rfl⟩
  rw [hL1] at k1 k2
  have hx4 := H3.out.2.2.2.2.fr hm4.fr (fun e => by have := H3.out.2.2.2.1 _ e; omega)
  have h4 : AsAt w w4 R g L1 u m1 (.slice gA u.graphs.length gc) := ⟨k1, fun q hq => Nat.lt_of_lt_of_le (H3.out.2.1 q hq) hm4.fr.size, H3.out.2.2.1.trans (hm4.fr.grow _ H3.out.2.2.1.size fun q hq => Nat.le_of_lt (H3.out.2.2.2.1 q hq)), fun q hq => by
    rcases k2 q hq with e | e
    · exact Nat.le_of_lt (H3.out.2.2.2.1 q e)
    · exact Nat.le_trans H3.out.2.2.1.size e, hx4.cell 2⟩
  have H4 := Lib.hid h4
  have HC := Lib.hid (can_calls a h4.a HS1.out.1.ok HK.out.1)
  clear hm4 k1 k2 hL1 hx4 h4 H3 HRN
  by_cases hca : barF u m1 a = 0
  rotate_left
  · have e1 : (barF u m1 a == 0) = false := by simp [hca]
    rw [e1] at HC
    clear hca e1
    go_wp2_with fail
    refine HC.out.mono ?_
    rintro e w5 ⟨rfl, hb5⟩
    have HF := Lib.hid (H4.out.below hb5).bel
    clear hb5
    go_wp2
    go_ret
    exact ⟨rfl, HF.out⟩
  have ea : (barF u m1 a == 0) = true := by simp [hca]
  rw [ea] at HC
  have HCA := Lib.hid hca
  clear hca ea
  go_wp2_with fail
  refine HC.out.mono ?_
  rintro e w5 ⟨rfl, hb5⟩
  have H5 := Lib.hid (H4.out.below hb5)
  have HC2 := Lib.hid (can_calls b H5.out.a HS1.out.1.ok HK.out.1)
  clear hb5 HC H4
  by_cases hcb : barF u m1 b = 0
  rotate_left
  · have e2 : (barF u m1 b == 0) = false := by simp [hcb]
    rw [e2] at HC2
    clear hcb e2
    go_wp2_with fail
    refine HC2.out.mono ?_
    rintro e w6 ⟨rfl, hb6⟩
    have HF := Lib.hid (H5.out.below hb6).bel
    clear hb6
    go_wp2
    go_ret
    exact ⟨rfl, HF.out⟩
  have eb : (barF u m1 b == 0) = true := by simp [hcb]
  rw [eb] at HC2
  have HCB := Lib.hid hcb
  clear hcb eb
  go_wp2_with fail
  refine HC2.out.mono ?_
  rintro e W0 ⟨rfl, hb6⟩
  have H6 := Lib.hid (H5.out.below hb6)
  clear hb6 HC2 H5
  obtain ⟨ta, g1, ia, x, rfl, hta, st1, wh1⟩ := can_stands HS1.out.1 HCA.out
  obtain ⟨tb, g2, ib, y, rfl, htb, st2, wh2⟩ := can_stands HS1.out.1 HCB.out
  have HW := Lib.hid (And.intro wh1 wh2)
  have HST := Lib.hid (And.intro st1 st2)
  have hne : ta ≠ tb := fun e => hab (by rw [e])
  have HNE := Lib.hid hne
  have HAP := Lib.hid (fun wr (h : Below W0.heap.size W0 wr) => at_calls (ta : Int) (H6.out.a.below h))
  have HAQ := Lib.hid (fun wr (h : Below W0.heap.size W0 wr) => at_calls (tb : Int) (H6.out.a.below h))
  rw [HW.out.1] at HAP
  rw [HW.out.2] at HAQ
  have E2 : Hid (W0.cell? ⟨w.heap.size, 2, none⟩ = some (.slice gA u.graphs.length gc)) := Lib.hid H6.out.e2
  have hW : (cmap w).le (cmap W0) := cmap_below H6.out.bel
  obtain ⟨gb, go_, rfl, c1, ⟨v1, rfl, hn1⟩, hg1⟩ := HK.out.2.2.2.at_ HST.out.1.gr
  obtain ⟨_, _, eg, c2, ⟨v2, rfl, hn2⟩, hg2⟩ := HK.out.2.2.2.at_ HST.out.2.gr
  injection eg with eg
  injection eg with eg1 eg2 eg3
  subst eg1 eg2
  obtain ⟨A1, ncP, rfl, -⟩ := id hn1
  obtain ⟨A2, ncQ, rfl, -⟩ := id hn2
  obtain ⟨nbP, noP, rfl, hx1⟩ := hn1.at_ HST.out.1.nd
  obtain ⟨nbQ, noQ, rfl, hx2⟩ := hn2.at_ HST.out.2.nd
  have EP : Hid (W0.cell? ⟨gb, go_ + ta * 4 + 3, none⟩ = some (.slice (some ⟨nbP, noP, none⟩) g1.nodes.length ncP)) := Lib.hid (hW _ _ _ (hg1 3 _ rfl))
  have EQ : Hid (W0.cell? ⟨gb, go_ + tb * 4 + 3, none⟩ = some (.slice (some ⟨nbQ, noQ, none⟩) g2.nodes.length ncQ)) := Lib.hid (hW _ _ _ (hg2 3 _ rfl))
  have HP : Hid (∀ j v, x.cells[j]? = some v → W0.cell? ⟨nbP, noP + ia * 13 + j, none⟩ = some v) := Lib.hid fun j v hj => hW _ _ _ (hx1 j v hj)
  have HQ : Hid (∀ j v, y.cells[j]? = some v → W0.cell? ⟨nbQ, noQ + ib * 13 + j, none⟩ = some v) := Lib.hid fun j v hj => hW _ _ _ (hx2 j v hj)
  have lu : w.heap.size < W0.heap.size := World.block_lt_of_cell? W0 ⟨w.heap.size, _, none⟩ E2.out
  have lg : gb < W0.heap.size := World.block_lt_of_cell? W0 ⟨gb, _, none⟩ EP.out
  have lP : nbP < W0.heap.size := World.block_lt_of_cell? W0 ⟨nbP, _, none⟩ (HP.out 0 _ rfl)
  have lQ : nbQ < W0.heap.size := World.block_lt_of_cell? W0 ⟨nbQ, _, none⟩ (HQ.out 0 _ rfl)
  have a0' : (0 : Int) ≤ ta := by omega
  have a1' : (ta : Int) < u.graphs.length := by omega
  have b0' : (0 : Int) ≤ tb := by omega
  have b1' : (tb : Int) < u.graphs.length := by omega
  have i0 : (0 : Int) ≤ ia := by omega
  have i1 : (ia : Int) < g1.nodes.length := by have := (List.getElem?_eq_some_iff.1 HST.out.1.nd).1; omega
  have j0 : (0 : Int) ≤ ib := by omega
  have j1 : (ib : Int) < g2.nodes.length := by have := (List.getElem?_eq_some_iff.1 HST.out.2.nd).1; omega
  have HAL : Hid (x.cells.length = 13) := Lib.hid rfl
  have HBL : Hid (y.cells.length = 13) := Lib.hid rfl
  have HAO : Hid (x.cells.toArray.all (·.oneCell') = true) := Lib.hid (by simp [Node.cells, Value.oneCell'])
  have HBO : Hid (y.cells.toArray.all (·.oneCell') = true) := Lib.hid (by simp [Node.cells, Value.oneCell'])
  clear hW hn1 hn2 hg1 hg2 hx1 hx2 eg3 st1 st2 wh1 wh2 hne hab
  go_upto_region 9 with fail
  refine wp_act0 fun a0 ha0 => ?_
  have t4 : a0.eval (.tmp 4) = .pointer (some ⟨w.heap.size, 0, none⟩) := by rw [ha0]; rfl
  have t9 : a0.eval (.tmp 9) = .pointer (some ⟨g, 0, none⟩) := by rw [ha0]; rfl
  have t2 : a0.eval (.tmp 2) = .int .i64 (ta : Int) := by rw [ha0]; rfl
  have t3 : a0.eval (.tmp 3) = .int .i64 (tb : Int) := by rw [ha0]; rfl
  have hsz : a0.tmps.size = 147 := by rw [ha0]; rfl
  have HA0 := Lib.hid ha0; clear ha0
  refine wp_region_inv (As9 W0 w.heap.size gb go_ u.graphs.length gc ta tb ia ib nbP noP g1.nodes.length ncP nbQ noQ g2.nodes.length ncQ g x y a0) (by kernel_rfl) (by kernel_rfl) ?start ?steps ?done
  case start =>
    refine { fr := Fr.refl _ _, below := (Below.refl _ W0).drew, s0 := ?_, s1 := ?_, s2 := ?_, s3 := ?_, s4 := ?_, s5 := ?_, s6 := ?_, s7 := ?_, s8 := ?_, s9 := ?_, s10 := ?_, s11 := ?_, s12 := ?_, s13 := ?_, s14 := ?_, s15 := ?_, s16 := ?_, s17 := ?_, s18 := ?_, s19 := ?_, s20 := ?_, s21 := ?_, s22 := ?_, s23 := ?_, ne22_23 := ?_, o24 := ?_, o25 := ?_ } <;> (intro hd; cases hd)
  case steps =>
    refine steps_all ?_
    refine ⟨?_, ?_, ?_, ?_, ?_, ?_, ?_, ?_, ?_, ?_, ?_, ?_, ?_, ?_, ?_, ?_, ?_, ?_, ?_, ?_, ?_, ?_, ?_, ?_, ?_, ?_, trivial⟩
    · -- 0
      intro D a wx K hD hp h hK
      refine step_wp rfl ?_
      have r4 := (h.fr.eval (j := 4) (by decide)).trans t4
      refine wp_val_at (.pointer (some ⟨w.heap.size, 2, none⟩)) (by generalize a.eval = ρ at *; go_simp) ?_
      refine hK _ _ {
        fr := h.fr.put (by decide) _
        below := h.below
        s0 := fun _ => h.fr.eval_put (by rw [hsz]; decide) _
        s1 := by simpa [upD, eval_put_ne, put_none] using h.s1
        s2 := by simpa [upD, eval_put_ne, put_none] using h.s2
        s3 := by simpa [upD, eval_put_ne, put_none] using h.s3
        s4 := by simpa [upD, eval_put_ne, put_none] using h.s4
        s5 := by simpa [upD, eval_put_ne, put_none] using h.s5
        s6 := by simpa [upD, eval_put_ne, put_none] using h.s6
        s7 := by simpa [upD, eval_put_ne, put_none] using h.s7
        s8 := by simpa [upD, eval_put_ne, put_none] using h.s8
        s9 := by simpa [upD, eval_put_ne, put_none] using h.s9
        s10 := by simpa [upD, eval_put_ne, put_none] using h.s10
        s11 := by simpa [upD, eval_put_ne, put_none] using h.s11
        s12 := by simpa [upD, eval_put_ne, put_none] using h.s12
        s13 := by simpa [upD, eval_put_ne, put_none] using h.s13
        s14 := by simpa [upD, eval_put_ne, put_none] using h.s14
        s15 := by simpa [upD, eval_put_ne, put_none] using h.s15
        s16 := by simpa [upD, eval_put_ne, put_none] using h.s16
        s17 := by simpa [upD, eval_put_ne, put_none] using h.s17
        s18 := by simpa [upD, eval_put_ne, put_none] using h.s18
        s19 := by simpa [upD, eval_put_ne, put_none] using h.s19
        s20 := by simpa [upD, eval_put_ne, put_none] using h.s20
        s21 := by simpa [upD, eval_put_ne, put_none] using h.s21
        s22 := by simpa [upD, eval_put_ne, put_none] using h.s22
        s23 := by simpa [upD, eval_put_ne, put_none] using h.s23
        ne22_23 := by simpa [upD, eval_put_ne, put_none] using h.ne22_23
        o24 := fun hd => by rw [upD_ne _ (by decide)] at hd; exact ⟨upD_mono (h.o24 hd).1, upD_mono (h.o24 hd).2⟩
        o25 := fun hd => by rw [upD_ne _ (by decide)] at hd; exact ⟨upD_mono (h.o25 hd).1, upD_mono (h.o25 hd).2⟩ }
    · -- 1
      intro D a wx K hD hp h hK
      refine step_wp rfl ?_
      have q0 := h.s0 (hp 0 (by decide))
      have z0 := (h.below.cell (p := ⟨w.heap.size, 2, none⟩) lu).trans E2.out
      refine wp_val_at (.slice (some ⟨gb, go_, none⟩) u.graphs.length gc) (by generalize a.eval = ρ at *; go_simp) ?_
      refine hK _ _ {
        fr := h.fr.put (by decide) _
        below := h.below
        s1 := fun _ => h.fr.eval_put (by rw [hsz]; decide) _
        s0 := by simpa [upD, eval_put_ne, put_none] using h.s0
        s2 := by simpa [upD, eval_put_ne, put_none] using h.s2
        s3 := by simpa [upD, eval_put_ne, put_none] using h.s3
        s4 := by simpa [upD, eval_put_ne, put_none] using h.s4
        s5 := by simpa [upD, eval_put_ne, put_none] using h.s5
        s6 := by simpa [upD, eval_put_ne, put_none] using h.s6
        s7 := by simpa [upD, eval_put_ne, put_none] using h.s7
        s8 := by simpa [upD, eval_put_ne, put_none] using h.s8
        s9 := by simpa [upD, eval_put_ne, put_none] using h.s9
        s10 := by simpa [upD, eval_put_ne, put_none] using h.s10
        s11 := by simpa [upD, eval_put_ne, put_none] using h.s11
        s12 := by simpa [upD, eval_put_ne, put_none] using h.s12
        s13 := by simpa [upD, eval_put_ne, put_none] using h.s13
        s14 := by simpa [upD, eval_put_ne, put_none] using h.s14
        s15 := by simpa [upD, eval_put_ne, put_none] using h.s15
        s16 := by simpa [upD, eval_put_ne, put_none] using h.s16
        s17 := by simpa [upD, eval_put_ne, put_none] using h.s17
        s18 := by simpa [upD, eval_put_ne, put_none] using h.s18
        s19 := by simpa [upD, eval_put_ne, put_none] using h.s19
        s20 := by simpa [upD, eval_put_ne, put_none] using h.s20
        s21 := by simpa [upD, eval_put_ne, put_none] using h.s21
        s22 := by simpa [upD, eval_put_ne, put_none] using h.s22
        s23 := by simpa [upD, eval_put_ne, put_none] using h.s23
        ne22_23 := by simpa [upD, eval_put_ne, put_none] using h.ne22_23
        o24 := fun hd => by rw [upD_ne _ (by decide)] at hd; exact ⟨upD_mono (h.o24 hd).1, upD_mono (h.o24 hd).2⟩
        o25 := fun hd => by rw [upD_ne _ (by decide)] at hd; exact ⟨upD_mono (h.o25 hd).1, upD_mono (h.o25 hd).2⟩ }
    · -- 2
      intro D a wx K hD hp h hK
      refine step_wp rfl ?_
      refine wp_move_at rfl ?_
      rw [h.fr.eval (j := 2) (by decide), t2]
      refine hK _ _ {
        fr := h.fr.put (by decide) _
        below := h.below
        s2 := fun _ => h.fr.eval_put (by rw [hsz]; decide) _
        s0 := by simpa [upD, eval_put_ne, put_none] using h.s0
        s1 := by simpa [upD, eval_put_ne, put_none] using h.s1
        s3 := by simpa [upD, eval_put_ne, put_none] using h.s3
        s4 := by simpa [upD, eval_put_ne, put_none] using h.s4
        s5 := by simpa [upD, eval_put_ne, put_none] using h.s5
        s6 := by simpa [upD, eval_put_ne, put_none] using h.s6
        s7 := by simpa [upD, eval_put_ne, put_none] using h.s7
        s8 := by simpa [upD, eval_put_ne, put_none] using h.s8
        s9 := by simpa [upD, eval_put_ne, put_none] using h.s9
        s10 := by simpa [upD, eval_put_ne, put_none] using h.s10
        s11 := by simpa [upD, eval_put_ne, put_none] using h.s11
        s12 := by simpa [upD, eval_put_ne, put_none] using h.s12
        s13 := by simpa [upD, eval_put_ne, put_none] using h.s13
        s14 := by simpa [upD, eval_put_ne, put_none] using h.s14
        s15 := by simpa [upD, eval_put_ne, put_none] using h.s15
        s16 := by simpa [upD, eval_put_ne, put_none] using h.s16
        s17 := by simpa [upD, eval_put_ne, put_none] using h.s17
        s18 := by simpa [upD, eval_put_ne, put_none] using h.s18
        s19 := by simpa [upD, eval_put_ne, put_none] using h.s19
        s20 := by simpa [upD, eval_put_ne, put_none] using h.s20
        s21 := by simpa [upD, eval_put_ne, put_none] using h.s21
        s22 := by simpa [upD, eval_put_ne, put_none] using h.s22
        s23 := by simpa [upD, eval_put_ne, put_none] using h.s23
        ne22_23 := by simpa [upD, eval_put_ne, put_none] using h.ne22_23
        o24 := fun hd => by rw [upD_ne _ (by decide)] at hd; exact ⟨upD_mono (h.o24 hd).1, upD_mono (h.o24 hd).2⟩
        o25 := fun hd => by rw [upD_ne _ (by decide)] at hd; exact ⟨upD_mono (h.o25 hd).1, upD_mono (h.o25 hd).2⟩ }
    · -- 3
      intro D a wx K hD hp h hK
      refine step_wp rfl ?_
      have q1 := h.s1 (hp 1 (by decide))
      have q2 := h.s2 (hp 2 (by decide))
      refine wp_val_at (.pointer (some ⟨gb, go_ + ta * 4, none⟩)) (by generalize a.eval = ρ at *; go_simp) ?_
      refine hK _ _ {
        fr := h.fr.put (by decide) _
        below := h.below
        s3 := fun _ => h.fr.eval_put (by rw [hsz]; decide) _
        s0 := by simpa [upD, eval_put_ne, put_none] using h.s0
        s1 := by simpa [upD, eval_put_ne, put_none] using h.s1
        s2 := by simpa [upD, eval_put_ne, put_none] using h.s2
        s4 := by simpa [upD, eval_put_ne, put_none] using h.s4
        s5 := by simpa [upD, eval_put_ne, put_none] using h.s5
        s6 := by simpa [upD, eval_put_ne, put_none] using h.s6
        s7 := by simpa [upD, eval_put_ne, put_none] using h.s7
        s8 := by simpa [upD, eval_put_ne, put_none] using h.s8
        s9 := by simpa [upD, eval_put_ne, put_none] using h.s9
        s10 := by simpa [upD, eval_put_ne, put_none] using h.s10
        s11 := by simpa [upD, eval_put_ne, put_none] using h.s11
        s12 := by simpa [upD, eval_put_ne, put_none] using h.s12
        s13 := by simpa [upD, eval_put_ne, put_none] using h.s13
        s14 := by simpa [upD, eval_put_ne, put_none] using h.s14
        s15 := by simpa [upD, eval_put_ne, put_none] using h.s15
        s16 := by simpa [upD, eval_put_ne, put_none] using h.s16
        s17 := by simpa [upD, eval_put_ne, put_none] using h.s17
        s18 := by simpa [upD, eval_put_ne, put_none] using h.s18
        s19 := by simpa [upD, eval_put_ne, put_none] using h.s19
        s20 := by simpa [upD, eval_put_ne, put_none] using h.s20
        s21 := by simpa [upD, eval_put_ne, put_none] using h.s21
        s22 := by simpa [upD, eval_put_ne, put_none] using h.s22
        s23 := by simpa [upD, eval_put_ne, put_none] using h.s23
        ne22_23 := by simpa [upD, eval_put_ne, put_none] using h.ne22_23
        o24 := fun hd => by rw [upD_ne _ (by decide)] at hd; exact ⟨upD_mono (h.o24 hd).1, upD_mono (h.o24 hd).2⟩
        o25 := fun hd => by rw [upD_ne _ (by decide)] at hd; exact ⟨upD_mono (h.o25 hd).1, upD_mono (h.o25 hd).2⟩ }
    · -- 4
      intro D a wx K hD hp h hK
      refine step_wp rfl ?_
      have q3 := h.s3 (hp 3 (by decide))
      refine wp_val_at (.pointer (some ⟨gb, go_ + ta * 4 + 3, none⟩)) (by generalize a.eval = ρ at *; go_simp) ?_
      refine hK _ _ {
        fr := h.fr.put (by decide) _
        below := h.below
        s4 := fun _ => h.fr.eval_put (by rw [hsz]; decide) _
        s0 := by simpa [upD, eval_put_ne, put_none] using h.s0
        s1 := by simpa [upD, eval_put_ne, put_none] using h.s1
        s2 := by simpa [upD, eval_put_ne, put_none] using h.s2
        s3 := by simpa [upD, eval_put_ne, put_none] using h.s3
        s5 := by simpa [upD, eval_put_ne, put_none] using h.s5
        s6 := by simpa [upD, eval_put_ne, put_none] using h.s6
        s7 := by simpa [upD, eval_put_ne, put_none] using h.s7
        s8 := by simpa [upD, eval_put_ne, put_none] using h.s8
        s9 := by simpa [upD, eval_put_ne, put_none] using h.s9
        s10 := by simpa [upD, eval_put_ne, put_none] using h.s10
        s11 := by simpa [upD, eval_put_ne, put_none] using h.s11
        s12 := by simpa [upD, eval_put_ne, put_none] using h.s12
        s13 := by simpa [upD, eval_put_ne, put_none] using h.s13
        s14 := by simpa [upD, eval_put_ne, put_none] using h.s14
        s15 := by simpa [upD, eval_put_ne, put_none] using h.s15
        s16 := by simpa [upD, eval_put_ne, put_none] using h.s16
        s17 := by simpa [upD, eval_put_ne, put_none] using h.s17
        s18 := by simpa [upD, eval_put_ne, put_none] using h.s18
        s19 := by simpa [upD, eval_put_ne, put_none] using h.s19
        s20 := by simpa [upD, eval_put_ne, put_none] using h.s20
        s21 := by simpa [upD, eval_put_ne, put_none] using h.s21
        s22 := by simpa [upD, eval_put_ne, put_none] using h.s22
        s23 := by simpa [upD, eval_put_ne, put_none] using h.s23
        ne22_23 := by simpa [upD, eval_put_ne, put_none] using h.ne22_23
        o24 := fun hd => by rw [upD_ne _ (by decide)] at hd; exact ⟨upD_mono (h.o24 hd).1, upD_mono (h.o24 hd).2⟩
        o25 := fun hd => by rw [upD_ne _ (by decide)] at hd; exact ⟨upD_mono (h.o25 hd).1, upD_mono (h.o25 hd).2⟩ }
    · -- 5
      intro D a wx K hD hp h hK
      refine step_wp rfl ?_
      have q4 := h.s4 (hp 4 (by decide))
      have z0 := (h.below.cell (p := ⟨gb, go_ + ta * 4 + 3, none⟩) lg).trans EP.out
      refine wp_val_at (.slice (some ⟨nbP, noP, none⟩) g1.nodes.length ncP) (by generalize a.eval = ρ at *; go_simp) ?_
      refine hK _ _ {
        fr := h.fr.put (by decide) _
        below := h.below
        s5 := fun _ => h.fr.eval_put (by rw [hsz]; decide) _
        s0 := by simpa [upD, eval_put_ne, put_none] using h.s0
        s1 := by simpa [upD, eval_put_ne, put_none] using h.s1
        s2 := by simpa [upD, eval_put_ne, put_none] using h.s2
        s3 := by simpa [upD, eval_put_ne, put_none] using h.s3
        s4 := by simpa [upD, eval_put_ne, put_none] using h.s4
        s6 := by simpa [upD, eval_put_ne, put_none] using h.s6
        s7 := by simpa [upD, eval_put_ne, put_none] using h.s7
        s8 := by simpa [upD, eval_put_ne, put_none] using h.s8
        s9 := by simpa [upD, eval_put_ne, put_none] using h.s9
        s10 := by simpa [upD, eval_put_ne, put_none] using h.s10
        s11 := by simpa [upD, eval_put_ne, put_none] using h.s11
        s12 := by simpa [upD, eval_put_ne, put_none] using h.s12
        s13 := by simpa [upD, eval_put_ne, put_none] using h.s13
        s14 := by simpa [upD, eval_put_ne, put_none] using h.s14
        s15 := by simpa [upD, eval_put_ne, put_none] using h.s15
        s16 := by simpa [upD, eval_put_ne, put_none] using h.s16
        s17 := by simpa [upD, eval_put_ne, put_none] using h.s17
        s18 := by simpa [upD, eval_put_ne, put_none] using h.s18
        s19 := by simpa [upD, eval_put_ne, put_none] using h.s19
        s20 := by simpa [upD, eval_put_ne, put_none] using h.s20
        s21 := by simpa [upD, eval_put_ne, put_none] using h.s21
        s22 := by simpa [upD, eval_put_ne, put_none] using h.s22
        s23 := by simpa [upD, eval_put_ne, put_none] using h.s23
        ne22_23 := by simpa [upD, eval_put_ne, put_none] using h.ne22_23
        o24 := fun hd => by rw [upD_ne _ (by decide)] at hd; exact ⟨upD_mono (h.o24 hd).1, upD_mono (h.o24 hd).2⟩
        o25 := fun hd => by rw [upD_ne _ (by decide)] at hd; exact ⟨upD_mono (h.o25 hd).1, upD_mono (h.o25 hd).2⟩ }
    · -- 6
      intro D a wx K hD hp h hK
      refine step_wp rfl ?_
      refine wp_move_at rfl ?_
      rw [h.fr.eval (j := 9) (by decide), t9]
      refine hK _ _ {
        fr := h.fr.put (by decide) _
        below := h.below
        s6 := fun _ => h.fr.eval_put (by rw [hsz]; decide) _
        s0 := by simpa [upD, eval_put_ne, put_none] using h.s0
        s1 := by simpa [upD, eval_put_ne, put_none] using h.s1
        s2 := by simpa [upD, eval_put_ne, put_none] using h.s2
        s3 := by simpa [upD, eval_put_ne, put_none] using h.s3
        s4 := by simpa [upD, eval_put_ne, put_none] using h.s4
        s5 := by simpa [upD, eval_put_ne, put_none] using h.s5
        s7 := by simpa [upD, eval_put_ne, put_none] using h.s7
        s8 := by simpa [upD, eval_put_ne, put_none] using h.s8
        s9 := by simpa [upD, eval_put_ne, put_none] using h.s9
        s10 := by simpa [upD, eval_put_ne, put_none] using h.s10
        s11 := by simpa [upD, eval_put_ne, put_none] using h.s11
        s12 := by simpa [upD, eval_put_ne, put_none] using h.s12
        s13 := by simpa [upD, eval_put_ne, put_none] using h.s13
        s14 := by simpa [upD, eval_put_ne, put_none] using h.s14
        s15 := by simpa [upD, eval_put_ne, put_none] using h.s15
        s16 := by simpa [upD, eval_put_ne, put_none] using h.s16
        s17 := by simpa [upD, eval_put_ne, put_none] using h.s17
        s18 := by simpa [upD, eval_put_ne, put_none] using h.s18
        s19 := by simpa [upD, eval_put_ne, put_none] using h.s19
        s20 := by simpa [upD, eval_put_ne, put_none] using h.s20
        s21 := by simpa [upD, eval_put_ne, put_none] using h.s21
        s22 := by simpa [upD, eval_put_ne, put_none] using h.s22
        s23 := by simpa [upD, eval_put_ne, put_none] using h.s23
        ne22_23 := by simpa [upD, eval_put_ne, put_none] using h.ne22_23
        o24 := fun hd => by rw [upD_ne _ (by decide)] at hd; exact ⟨upD_mono (h.o24 hd).1, upD_mono (h.o24 hd).2⟩
        o25 := fun hd => by rw [upD_ne _ (by decide)] at hd; exact ⟨upD_mono (h.o25 hd).1, upD_mono (h.o25 hd).2⟩ }
    · -- 7
      intro D a wx K hD hp h hK
      refine step_wp rfl ?_
      refine wp_move_at rfl ?_
      rw [h.fr.eval (j := 2) (by decide), t2]
      refine hK _ _ {
        fr := h.fr.put (by decide) _
        below := h.below
        s7 := fun _ => h.fr.eval_put (by rw [hsz]; decide) _
        s0 := by simpa [upD, eval_put_ne, put_none] using h.s0
        s1 := by simpa [upD, eval_put_ne, put_none] using h.s1
        s2 := by simpa [upD, eval_put_ne, put_none] using h.s2
        s3 := by simpa [upD, eval_put_ne, put_none] using h.s3
        s4 := by simpa [upD, eval_put_ne, put_none] using h.s4
        s5 := by simpa [upD, eval_put_ne, put_none] using h.s5
        s6 := by simpa [upD, eval_put_ne, put_none] using h.s6
        s8 := by simpa [upD, eval_put_ne, put_none] using h.s8
        s9 := by simpa [upD, eval_put_ne, put_none] using h.s9
        s10 := by simpa [upD, eval_put_ne, put_none] using h.s10
        s11 := by simpa [upD, eval_put_ne, put_none] using h.s11
        s12 := by simpa [upD, eval_put_ne, put_none] using h.s12
        s13 := by simpa [upD, eval_put_ne, put_none] using h.s13
        s14 := by simpa [upD, eval_put_ne, put_none] using h.s14
        s15 := by simpa [upD, eval_put_ne, put_none] using h.s15
        s16 := by simpa [upD, eval_put_ne, put_none] using h.s16
        s17 := by simpa [upD, eval_put_ne, put_none] using h.s17
        s18 := by simpa [upD, eval_put_ne, put_none] using h.s18
        s19 := by simpa [upD, eval_put_ne, put_none] using h.s19
        s20 := by simpa [upD, eval_put_ne, put_none] using h.s20
        s21 := by simpa [upD, eval_put_ne, put_none] using h.s21
        s22 := by simpa [upD, eval_put_ne, put_none] using h.s22
        s23 := by simpa [upD, eval_put_ne, put_none] using h.s23
        ne22_23 := by simpa [upD, eval_put_ne, put_none] using h.ne22_23
        o24 := fun hd => by rw [upD_ne _ (by decide)] at hd; exact ⟨upD_mono (h.o24 hd).1, upD_mono (h.o24 hd).2⟩
        o25 := fun hd => by rw [upD_ne _ (by decide)] at hd; exact ⟨upD_mono (h.o25 hd).1, upD_mono (h.o25 hd).2⟩ }
    · -- 8
      intro D a wx K hD hp h hK
      refine step_wp rfl ?_
      have HK := Lib.hid hK; clear hK
      have H := Lib.hid h; clear h
      have q1 := H.out.s6 (hp 6 (by decide))
      have q2 := H.out.s7 (hp 7 (by decide))
      refine wp_call_at Try.func30 (by kernel_rfl) (by kernel_rfl) rfl #[.pointer (some ⟨g, 0, none⟩), .int .i64 (ta : Int)] (by simp only [List.map_toArray, List.map_cons, List.map_nil, q1, q2]) ?_
      refine (HAP.out _ H.out.below).mono ?_
      rintro e w1 ⟨rfl, q, rfl⟩
      have h := H.out.keep (Below_drewN _ q)
      refine ⟨_, rfl, HK.out _ _ ?_⟩
      exact {
        fr := h.fr.put (by decide) _
        below := h.below
        s8 := fun _ => h.fr.eval_put (by rw [hsz]; decide) _
        s0 := by simpa [upD, eval_put_ne, put_none] using h.s0
        s1 := by simpa [upD, eval_put_ne, put_none] using h.s1
        s2 := by simpa [upD, eval_put_ne, put_none] using h.s2
        s3 := by simpa [upD, eval_put_ne, put_none] using h.s3
        s4 := by simpa [upD, eval_put_ne, put_none] using h.s4
        s5 := by simpa [upD, eval_put_ne, put_none] using h.s5
        s6 := by simpa [upD, eval_put_ne, put_none] using h.s6
        s7 := by simpa [upD, eval_put_ne, put_none] using h.s7
        s9 := by simpa [upD, eval_put_ne, put_none] using h.s9
        s10 := by simpa [upD, eval_put_ne, put_none] using h.s10
        s11 := by simpa [upD, eval_put_ne, put_none] using h.s11
        s12 := by simpa [upD, eval_put_ne, put_none] using h.s12
        s13 := by simpa [upD, eval_put_ne, put_none] using h.s13
        s14 := by simpa [upD, eval_put_ne, put_none] using h.s14
        s15 := by simpa [upD, eval_put_ne, put_none] using h.s15
        s16 := by simpa [upD, eval_put_ne, put_none] using h.s16
        s17 := by simpa [upD, eval_put_ne, put_none] using h.s17
        s18 := by simpa [upD, eval_put_ne, put_none] using h.s18
        s19 := by simpa [upD, eval_put_ne, put_none] using h.s19
        s20 := by simpa [upD, eval_put_ne, put_none] using h.s20
        s21 := by simpa [upD, eval_put_ne, put_none] using h.s21
        s22 := by simpa [upD, eval_put_ne, put_none] using h.s22
        s23 := by simpa [upD, eval_put_ne, put_none] using h.s23
        ne22_23 := by simpa [upD, eval_put_ne, put_none] using h.ne22_23
        o24 := fun hd => by rw [upD_ne _ (by decide)] at hd; exact ⟨upD_mono (h.o24 hd).1, upD_mono (h.o24 hd).2⟩
        o25 := fun hd => by rw [upD_ne _ (by decide)] at hd; exact ⟨upD_mono (h.o25 hd).1, upD_mono (h.o25 hd).2⟩ }
    · -- 9
      intro D a wx K hD hp h hK
      refine step_wp rfl ?_
      have q5 := h.s5 (hp 5 (by decide))
      have q8 := h.s8 (hp 8 (by decide))
      refine wp_val_at (.pointer (some ⟨nbP, noP + ia * 13, none⟩)) (by generalize a.eval = ρ at *; go_simp) ?_
      refine hK _ _ {
        fr := h.fr.put (by decide) _
        below := h.below
        s9 := fun _ => h.fr.eval_put (by rw [hsz]; decide) _
        s0 := by simpa [upD, eval_put_ne, put_none] using h.s0
        s1 := by simpa [upD, eval_put_ne, put_none] using h.s1
        s2 := by simpa [upD, eval_put_ne, put_none] using h.s2
        s3 := by simpa [upD, eval_put_ne, put_none] using h.s3
        s4 := by simpa [upD, eval_put_ne, put_none] using h.s4
        s5 := by simpa [upD, eval_put_ne, put_none] using h.s5
        s6 := by simpa [upD, eval_put_ne, put_none] using h.s6
        s7 := by simpa [upD, eval_put_ne, put_none] using h.s7
        s8 := by simpa [upD, eval_put_ne, put_none] using h.s8
        s10 := by simpa [upD, eval_put_ne, put_none] using h.s10
        s11 := by simpa [upD, eval_put_ne, put_none] using h.s11
        s12 := by simpa [upD, eval_put_ne, put_none] using h.s12
        s13 := by simpa [upD, eval_put_ne, put_none] using h.s13
        s14 := by simpa [upD, eval_put_ne, put_none] using h.s14
        s15 := by simpa [upD, eval_put_ne, put_none] using h.s15
        s16 := by simpa [upD, eval_put_ne, put_none] using h.s16
        s17 := by simpa [upD, eval_put_ne, put_none] using h.s17
        s18 := by simpa [upD, eval_put_ne, put_none] using h.s18
        s19 := by simpa [upD, eval_put_ne, put_none] using h.s19
        s20 := by simpa [upD, eval_put_ne, put_none] using h.s20
        s21 := by simpa [upD, eval_put_ne, put_none] using h.s21
        s22 := by simpa [upD, eval_put_ne, put_none] using h.s22
        s23 := by simpa [upD, eval_put_ne, put_none] using h.s23
        ne22_23 := by simpa [upD, eval_put_ne, put_none] using h.ne22_23
        o24 := fun hd => by rw [upD_ne _ (by decide)] at hd; exact ⟨upD_mono (h.o24 hd).1, upD_mono (h.o24 hd).2⟩
        o25 := fun hd => by rw [upD_ne _ (by decide)] at hd; exact ⟨upD_mono (h.o25 hd).1, upD_mono (h.o25 hd).2⟩ }
    · -- 10
      intro D a wx K hD hp h hK
      refine step_wp rfl ?_
      refine wp_load_at 67 _ rfl nbP (noP + ia * 13) (h.s9 (hp 9 (by decide))) x.cells _ (fun j' v hj => (h.below.cell (p := ⟨nbP, noP + ia * 13 + j', none⟩) lP).trans (HP.out j' v hj)) Try.underlying67 rfl (by kernel_rfl) ?_
      refine hK _ _ {
        fr := h.fr.put (by decide) _
        below := h.below
        s10 := fun _ => h.fr.eval_put (by rw [hsz]; decide) _
        s22 := fun hd => by
          rw [upD_ne _ (by decide)] at hd
          obtain ⟨X, cs, e, e1, e2, e3, e4⟩ := h.s22 hd
          refine ⟨X, cs, by rw [eval_put_ne (by decide)]; exact e, e1, e2, e3, fun h8 => ?_⟩
          rw [upD_ne _ (by decide)] at h8
          have := (h.o24 h8).1
          rw [hD] at this
          cases this
        s0 := by simpa [upD, eval_put_ne, put_none] using h.s0
        s1 := by simpa [upD, eval_put_ne, put_none] using h.s1
        s2 := by simpa [upD, eval_put_ne, put_none] using h.s2
        s3 := by simpa [upD, eval_put_ne, put_none] using h.s3
        s4 := by simpa [upD, eval_put_ne, put_none] using h.s4
        s5 := by simpa [upD, eval_put_ne, put_none] using h.s5
        s6 := by simpa [upD, eval_put_ne, put_none] using h.s6
        s7 := by simpa [upD, eval_put_ne, put_none] using h.s7
        s8 := by simpa [upD, eval_put_ne, put_none] using h.s8
        s9 := by simpa [upD, eval_put_ne, put_none] using h.s9
        s11 := by simpa [upD, eval_put_ne, put_none] using h.s11
        s12 := by simpa [upD, eval_put_ne, put_none] using h.s12
        s13 := by simpa [upD, eval_put_ne, put_none] using h.s13
        s14 := by simpa [upD, eval_put_ne, put_none] using h.s14
        s15 := by simpa [upD, eval_put_ne, put_none] using h.s15
        s16 := by simpa [upD, eval_put_ne, put_none] using h.s16
        s17 := by simpa [upD, eval_put_ne, put_none] using h.s17
        s18 := by simpa [upD, eval_put_ne, put_none] using h.s18
        s19 := by simpa [upD, eval_put_ne, put_none] using h.s19
        s20 := by simpa [upD, eval_put_ne, put_none] using h.s20
        s21 := by simpa [upD, eval_put_ne, put_none] using h.s21
        s23 := by simpa [upD, eval_put_ne, put_none] using h.s23
        ne22_23 := by simpa [upD, eval_put_ne, put_none] using h.ne22_23
        o24 := fun hd => by rw [upD_ne _ (by decide)] at hd; exact ⟨upD_mono (h.o24 hd).1, upD_mono (h.o24 hd).2⟩
        o25 := fun hd => by rw [upD_ne _ (by decide)] at hd; exact ⟨upD_mono (h.o25 hd).1, upD_mono (h.o25 hd).2⟩ }
    · -- 11
      intro D a wx K hD hp h hK
      refine step_wp rfl ?_
      have r4 := (h.fr.eval (j := 4) (by decide)).trans t4
      refine wp_val_at (.pointer (some ⟨w.heap.size, 2, none⟩)) (by generalize a.eval = ρ at *; go_simp) ?_
      refine hK _ _ {
        fr := h.fr.put (by decide) _
        below := h.below
        s11 := fun _ => h.fr.eval_put (by rw [hsz]; decide) _
        s0 := by simpa [upD, eval_put_ne, put_none] using h.s0
        s1 := by simpa [upD, eval_put_ne, put_none] using h.s1
        s2 := by simpa [upD, eval_put_ne, put_none] using h.s2
        s3 := by simpa [upD, eval_put_ne, put_none] using h.s3
        s4 := by simpa [upD, eval_put_ne, put_none] using h.s4
        s5 := by simpa [upD, eval_put_ne, put_none] using h.s5
        s6 := by simpa [upD, eval_put_ne, put_none] using h.s6
        s7 := by simpa [upD, eval_put_ne, put_none] using h.s7
        s8 := by simpa [upD, eval_put_ne, put_none] using h.s8
        s9 := by simpa [upD, eval_put_ne, put_none] using h.s9
        s10 := by simpa [upD, eval_put_ne, put_none] using h.s10
        s12 := by simpa [upD, eval_put_ne, put_none] using h.s12
        s13 := by simpa [upD, eval_put_ne, put_none] using h.s13
        s14 := by simpa [upD, eval_put_ne, put_none] using h.s14
        s15 := by simpa [upD, eval_put_ne, put_none] using h.s15
        s16 := by simpa [upD, eval_put_ne, put_none] using h.s16
        s17 := by simpa [upD, eval_put_ne, put_none] using h.s17
        s18 := by simpa [upD, eval_put_ne, put_none] using h.s18
        s19 := by simpa [upD, eval_put_ne, put_none] using h.s19
        s20 := by simpa [upD, eval_put_ne, put_none] using h.s20
        s21 := by simpa [upD, eval_put_ne, put_none] using h.s21
        s22 := by simpa [upD, eval_put_ne, put_none] using h.s22
        s23 := by simpa [upD, eval_put_ne, put_none] using h.s23
        ne22_23 := by simpa [upD, eval_put_ne, put_none] using h.ne22_23
        o24 := fun hd => by rw [upD_ne _ (by decide)] at hd; exact ⟨upD_mono (h.o24 hd).1, upD_mono (h.o24 hd).2⟩
        o25 := fun hd => by rw [upD_ne _ (by decide)] at hd; exact ⟨upD_mono (h.o25 hd).1, upD_mono (h.o25 hd).2⟩ }
    · -- 12
      intro D a wx K hD hp h hK
      refine step_wp rfl ?_
      have q11 := h.s11 (hp 11 (by decide))
      have z0 := (h.below.cell (p := ⟨w.heap.size, 2, none⟩) lu).trans E2.out
      refine wp_val_at (.slice (some ⟨gb, go_, none⟩) u.graphs.length gc) (by generalize a.eval = ρ at *; go_simp) ?_
      refine hK _ _ {
        fr := h.fr.put (by decide) _
        below := h.below
        s12 := fun _ => h.fr.eval_put (by rw [hsz]; decide) _
        s0 := by simpa [upD, eval_put_ne, put_none] using h.s0
        s1 := by simpa [upD, eval_put_ne, put_none] using h.s1
        s2 := by simpa [upD, eval_put_ne, put_none] using h.s2
        s3 := by simpa [upD, eval_put_ne, put_none] using h.s3
        s4 := by simpa [upD, eval_put_ne, put_none] using h.s4
        s5 := by simpa [upD, eval_put_ne, put_none] using h.s5
        s6 := by simpa [upD, eval_put_ne, put_none] using h.s6
        s7 := by simpa [upD, eval_put_ne, put_none] using h.s7
        s8 := by simpa [upD, eval_put_ne, put_none] using h.s8
        s9 := by simpa [upD, eval_put_ne, put_none] using h.s9
        s10 := by simpa [upD, eval_put_ne, put_none] using h.s10
        s11 := by simpa [upD, eval_put_ne, put_none] using h.s11
        s13 := by simpa [upD, eval_put_ne, put_none] using h.s13
        s14 := by simpa [upD, eval_put_ne, put_none] using h.s14
        s15 := by simpa [upD, eval_put_ne, put_none] using h.s15
        s16 := by simpa [upD, eval_put_ne, put_none] using h.s16
        s17 := by simpa [upD, eval_put_ne, put_none] using h.s17
        s18 := by simpa [upD, eval_put_ne, put_none] using h.s18
        s19 := by simpa [upD, eval_put_ne, put_none] using h.s19
        s20 := by simpa [upD, eval_put_ne, put_none] using h.s20
        s21 := by simpa [upD, eval_put_ne, put_none] using h.s21
        s22 := by simpa [upD, eval_put_ne, put_none] using h.s22
        s23 := by simpa [upD, eval_put_ne, put_none] using h.s23
        ne22_23 := by simpa [upD, eval_put_ne, put_none] using h.ne22_23
        o24 := fun hd => by rw [upD_ne _ (by decide)] at hd; exact ⟨upD_mono (h.o24 hd).1, upD_mono (h.o24 hd).2⟩
        o25 := fun hd => by rw [upD_ne _ (by decide)] at hd; exact ⟨upD_mono (h.o25 hd).1, upD_mono (h.o25 hd).2⟩ }
    · -- 13
      intro D a wx K hD hp h hK
      refine step_wp rfl ?_
      refine wp_move_at rfl ?_
      rw [h.fr.eval (j := 3) (by decide), t3]
      refine hK _ _ {
        fr := h.fr.put (by decide) _
        below := h.below
        s13 := fun _ => h.fr.eval_put (by rw [hsz]; decide) _
        s0 := by simpa [upD, eval_put_ne, put_none] using h.s0
        s1 := by simpa [upD, eval_put_ne, put_none] using h.s1
        s2 := by simpa [upD, eval_put_ne, put_none] using h.s2
        s3 := by simpa [upD, eval_put_ne, put_none] using h.s3
        s4 := by simpa [upD, eval_put_ne, put_none] using h.s4
        s5 := by simpa [upD, eval_put_ne, put_none] using h.s5
        s6 := by simpa [upD, eval_put_ne, put_none] using h.s6
        s7 := by simpa [upD, eval_put_ne, put_none] using h.s7
        s8 := by simpa [upD, eval_put_ne, put_none] using h.s8
        s9 := by simpa [upD, eval_put_ne, put_none] using h.s9
        s10 := by simpa [upD, eval_put_ne, put_none] using h.s10
        s11 := by simpa [upD, eval_put_ne, put_none] using h.s11
        s12 := by simpa [upD, eval_put_ne, put_none] using h.s12
        s14 := by simpa [upD, eval_put_ne, put_none] using h.s14
        s15 := by simpa [upD, eval_put_ne, put_none] using h.s15
        s16 := by simpa [upD, eval_put_ne, put_none] using h.s16
        s17 := by simpa [upD, eval_put_ne, put_none] using h.s17
        s18 := by simpa [upD, eval_put_ne, put_none] using h.s18
        s19 := by simpa [upD, eval_put_ne, put_none] using h.s19
        s20 := by simpa [upD, eval_put_ne, put_none] using h.s20
        s21 := by simpa [upD, eval_put_ne, put_none] using h.s21
        s22 := by simpa [upD, eval_put_ne, put_none] using h.s22
        s23 := by simpa [upD, eval_put_ne, put_none] using h.s23
        ne22_23 := by simpa [upD, eval_put_ne, put_none] using h.ne22_23
        o24 := fun hd => by rw [upD_ne _ (by decide)] at hd; exact ⟨upD_mono (h.o24 hd).1, upD_mono (h.o24 hd).2⟩
        o25 := fun hd => by rw [upD_ne _ (by decide)] at hd; exact ⟨upD_mono (h.o25 hd).1, upD_mono (h.o25 hd).2⟩ }
    · -- 14
      intro D a wx K hD hp h hK
      refine step_wp rfl ?_
      have q12 := h.s12 (hp 12 (by decide))
      have q13 := h.s13 (hp 13 (by decide))
      refine wp_val_at (.pointer (some ⟨gb, go_ + tb * 4, none⟩)) (by generalize a.eval = ρ at *; go_simp) ?_
      refine hK _ _ {
        fr := h.fr.put (by decide) _
        below := h.below
        s14 := fun _ => h.fr.eval_put (by rw [hsz]; decide) _
        s0 := by simpa [upD, eval_put_ne, put_none] using h.s0
        s1 := by simpa [upD, eval_put_ne, put_none] using h.s1
        s2 := by simpa [upD, eval_put_ne, put_none] using h.s2
        s3 := by simpa [upD, eval_put_ne, put_none] using h.s3
        s4 := by simpa [upD, eval_put_ne, put_none] using h.s4
        s5 := by simpa [upD, eval_put_ne, put_none] using h.s5
        s6 := by simpa [upD, eval_put_ne, put_none] using h.s6
        s7 := by simpa [upD, eval_put_ne, put_none] using h.s7
        s8 := by simpa [upD, eval_put_ne, put_none] using h.s8
        s9 := by simpa [upD, eval_put_ne, put_none] using h.s9
        s10 := by simpa [upD, eval_put_ne, put_none] using h.s10
        s11 := by simpa [upD, eval_put_ne, put_none] using h.s11
        s12 := by simpa [upD, eval_put_ne, put_none] using h.s12
        s13 := by simpa [upD, eval_put_ne, put_none] using h.s13
        s15 := by simpa [upD, eval_put_ne, put_none] using h.s15
        s16 := by simpa [upD, eval_put_ne, put_none] using h.s16
        s17 := by simpa [upD, eval_put_ne, put_none] using h.s17
        s18 := by simpa [upD, eval_put_ne, put_none] using h.s18
        s19 := by simpa [upD, eval_put_ne, put_none] using h.s19
        s20 := by simpa [upD, eval_put_ne, put_none] using h.s20
        s21 := by simpa [upD, eval_put_ne, put_none] using h.s21
        s22 := by simpa [upD, eval_put_ne, put_none] using h.s22
        s23 := by simpa [upD, eval_put_ne, put_none] using h.s23
        ne22_23 := by simpa [upD, eval_put_ne, put_none] using h.ne22_23
        o24 := fun hd => by rw [upD_ne _ (by decide)] at hd; exact ⟨upD_mono (h.o24 hd).1, upD_mono (h.o24 hd).2⟩
        o25 := fun hd => by rw [upD_ne _ (by decide)] at hd; exact ⟨upD_mono (h.o25 hd).1, upD_mono (h.o25 hd).2⟩ }
    · -- 15
      intro D a wx K hD hp h hK
      refine step_wp rfl ?_
      have q14 := h.s14 (hp 14 (by decide))
      refine wp_val_at (.pointer (some ⟨gb, go_ + tb * 4 + 3, none⟩)) (by generalize a.eval = ρ at *; go_simp) ?_
      refine hK _ _ {
        fr := h.fr.put (by decide) _
        below := h.below
        s15 := fun _ => h.fr.eval_put (by rw [hsz]; decide) _
        s0 := by simpa [upD, eval_put_ne, put_none] using h.s0
        s1 := by simpa [upD, eval_put_ne, put_none] using h.s1
        s2 := by simpa [upD, eval_put_ne, put_none] using h.s2
        s3 := by simpa [upD, eval_put_ne, put_none] using h.s3
        s4 := by simpa [upD, eval_put_ne, put_none] using h.s4
        s5 := by simpa [upD, eval_put_ne, put_none] using h.s5
        s6 := by simpa [upD, eval_put_ne, put_none] using h.s6
        s7 := by simpa [upD, eval_put_ne, put_none] using h.s7
        s8 := by simpa [upD, eval_put_ne, put_none] using h.s8
        s9 := by simpa [upD, eval_put_ne, put_none] using h.s9
        s10 := by simpa [upD, eval_put_ne, put_none] using h.s10
        s11 := by simpa [upD, eval_put_ne, put_none] using h.s11
        s12 := by simpa [upD, eval_put_ne, put_none] using h.s12
        s13 := by simpa [upD, eval_put_ne, put_none] using h.s13
        s14 := by simpa [upD, eval_put_ne, put_none] using h.s14
        s16 := by simpa [upD, eval_put_ne, put_none] using h.s16
        s17 := by simpa [upD, eval_put_ne, put_none] using h.s17
        s18 := by simpa [upD, eval_put_ne, put_none] using h.s18
        s19 := by simpa [upD, eval_put_ne, put_none] using h.s19
        s20 := by simpa [upD, eval_put_ne, put_none] using h.s20
        s21 := by simpa [upD, eval_put_ne, put_none] using h.s21
        s22 := by simpa [upD, eval_put_ne, put_none] using h.s22
        s23 := by simpa [upD, eval_put_ne, put_none] using h.s23
        ne22_23 := by simpa [upD, eval_put_ne, put_none] using h.ne22_23
        o24 := fun hd => by rw [upD_ne _ (by decide)] at hd; exact ⟨upD_mono (h.o24 hd).1, upD_mono (h.o24 hd).2⟩
        o25 := fun hd => by rw [upD_ne _ (by decide)] at hd; exact ⟨upD_mono (h.o25 hd).1, upD_mono (h.o25 hd).2⟩ }
    · -- 16
      intro D a wx K hD hp h hK
      refine step_wp rfl ?_
      have q15 := h.s15 (hp 15 (by decide))
      have z0 := (h.below.cell (p := ⟨gb, go_ + tb * 4 + 3, none⟩) lg).trans EQ.out
      refine wp_val_at (.slice (some ⟨nbQ, noQ, none⟩) g2.nodes.length ncQ) (by generalize a.eval = ρ at *; go_simp) ?_
      refine hK _ _ {
        fr := h.fr.put (by decide) _
        below := h.below
        s16 := fun _ => h.fr.eval_put (by rw [hsz]; decide) _
        s0 := by simpa [upD, eval_put_ne, put_none] using h.s0
        s1 := by simpa [upD, eval_put_ne, put_none] using h.s1
        s2 := by simpa [upD, eval_put_ne, put_none] using h.s2
        s3 := by simpa [upD, eval_put_ne, put_none] using h.s3
        s4 := by simpa [upD, eval_put_ne, put_none] using h.s4
        s5 := by simpa [upD, eval_put_ne, put_none] using h.s5
        s6 := by simpa [upD, eval_put_ne, put_none] using h.s6
        s7 := by simpa [upD, eval_put_ne, put_none] using h.s7
        s8 := by simpa [upD, eval_put_ne, put_none] using h.s8
        s9 := by simpa [upD, eval_put_ne, put_none] using h.s9
        s10 := by simpa [upD, eval_put_ne, put_none] using h.s10
        s11 := by simpa [upD, eval_put_ne, put_none] using h.s11
        s12 := by simpa [upD, eval_put_ne, put_none] using h.s12
        s13 := by simpa [upD, eval_put_ne, put_none] using h.s13
        s14 := by simpa [upD, eval_put_ne, put_none] using h.s14
        s15 := by simpa [upD, eval_put_ne, put_none] using h.s15
        s17 := by simpa [upD, eval_put_ne, put_none] using h.s17
        s18 := by simpa [upD, eval_put_ne, put_none] using h.s18
        s19 := by simpa [upD, eval_put_ne, put_none] using h.s19
        s20 := by simpa [upD, eval_put_ne, put_none] using h.s20
        s21 := by simpa [upD, eval_put_ne, put_none] using h.s21
        s22 := by simpa [upD, eval_put_ne, put_none] using h.s22
        s23 := by simpa [upD, eval_put_ne, put_none] using h.s23
        ne22_23 := by simpa [upD, eval_put_ne, put_none] using h.ne22_23
        o24 := fun hd => by rw [upD_ne _ (by decide)] at hd; exact ⟨upD_mono (h.o24 hd).1, upD_mono (h.o24 hd).2⟩
        o25 := fun hd => by rw [upD_ne _ (by decide)] at hd; exact ⟨upD_mono (h.o25 hd).1, upD_mono (h.o25 hd).2⟩ }
    · -- 17
      intro D a wx K hD hp h hK
      refine step_wp rfl ?_
      refine wp_move_at rfl ?_
      rw [h.fr.eval (j := 9) (by decide), t9]
      refine hK _ _ {
        fr := h.fr.put (by decide) _
        below := h.below
        s17 := fun _ => h.fr.eval_put (by rw [hsz]; decide) _
        s0 := by simpa [upD, eval_put_ne, put_none] using h.s0
        s1 := by simpa [upD, eval_put_ne, put_none] using h.s1
        s2 := by simpa [upD, eval_put_ne, put_none] using h.s2
        s3 := by simpa [upD, eval_put_ne, put_none] using h.s3
        s4 := by simpa [upD, eval_put_ne, put_none] using h.s4
        s5 := by simpa [upD, eval_put_ne, put_none] using h.s5
        s6 := by simpa [upD, eval_put_ne, put_none] using h.s6
        s7 := by simpa [upD, eval_put_ne, put_none] using h.s7
        s8 := by simpa [upD, eval_put_ne, put_none] using h.s8
        s9 := by simpa [upD, eval_put_ne, put_none] using h.s9
        s10 := by simpa [upD, eval_put_ne, put_none] using h.s10
        s11 := by simpa [upD, eval_put_ne, put_none] using h.s11
        s12 := by simpa [upD, eval_put_ne, put_none] using h.s12
        s13 := by simpa [upD, eval_put_ne, put_none] using h.s13
        s14 := by simpa [upD, eval_put_ne, put_none] using h.s14
        s15 := by simpa [upD, eval_put_ne, put_none] using h.s15
        s16 := by simpa [upD, eval_put_ne, put_none] using h.s16
        s18 := by simpa [upD, eval_put_ne, put_none] using h.s18
        s19 := by simpa [upD, eval_put_ne, put_none] using h.s19
        s20 := by simpa [upD, eval_put_ne, put_none] using h.s20
        s21 := by simpa [upD, eval_put_ne, put_none] using h.s21
        s22 := by simpa [upD, eval_put_ne, put_none] using h.s22
        s23 := by simpa [upD, eval_put_ne, put_none] using h.s23
        ne22_23 := by simpa [upD, eval_put_ne, put_none] using h.ne22_23
        o24 := fun hd => by rw [upD_ne _ (by decide)] at hd; exact ⟨upD_mono (h.o24 hd).1, upD_mono (h.o24 hd).2⟩
        o25 := fun hd => by rw [upD_ne _ (by decide)] at hd; exact ⟨upD_mono (h.o25 hd).1, upD_mono (h.o25 hd).2⟩ }
    · -- 18
      intro D a wx K hD hp h hK
      refine step_wp rfl ?_
      refine wp_move_at rfl ?_
      rw [h.fr.eval (j := 3) (by decide), t3]
      refine hK _ _ {
        fr := h.fr.put (by decide) _
        below := h.below
        s18 := fun _ => h.fr.eval_put (by rw [hsz]; decide) _
        s0 := by simpa [upD, eval_put_ne, put_none] using h.s0
        s1 := by simpa [upD, eval_put_ne, put_none] using h.s1
        s2 := by simpa [upD, eval_put_ne, put_none] using h.s2
        s3 := by simpa [upD, eval_put_ne, put_none] using h.s3
        s4 := by simpa [upD, eval_put_ne, put_none] using h.s4
        s5 := by simpa [upD, eval_put_ne, put_none] using h.s5
        s6 := by simpa [upD, eval_put_ne, put_none] using h.s6
        s7 := by simpa [upD, eval_put_ne, put_none] using h.s7
        s8 := by simpa [upD, eval_put_ne, put_none] using h.s8
        s9 := by simpa [upD, eval_put_ne, put_none] using h.s9
        s10 := by simpa [upD, eval_put_ne, put_none] using h.s10
        s11 := by simpa [upD, eval_put_ne, put_none] using h.s11
        s12 := by simpa [upD, eval_put_ne, put_none] using h.s12
        s13 := by simpa [upD, eval_put_ne, put_none] using h.s13
        s14 := by simpa [upD, eval_put_ne, put_none] using h.s14
        s15 := by simpa [upD, eval_put_ne, put_none] using h.s15
        s16 := by simpa [upD, eval_put_ne, put_none] using h.s16
        s17 := by simpa [upD, eval_put_ne, put_none] using h.s17
        s19 := by simpa [upD, eval_put_ne, put_none] using h.s19
        s20 := by simpa [upD, eval_put_ne, put_none] using h.s20
        s21 := by simpa [upD, eval_put_ne, put_none] using h.s21
        s22 := by simpa [upD, eval_put_ne, put_none] using h.s22
        s23 := by simpa [upD, eval_put_ne, put_none] using h.s23
        ne22_23 := by simpa [upD, eval_put_ne, put_none] using h.ne22_23
        o24 := fun hd => by rw [upD_ne _ (by decide)] at hd; exact ⟨upD_mono (h.o24 hd).1, upD_mono (h.o24 hd).2⟩
        o25 := fun hd => by rw [upD_ne _ (by decide)] at hd; exact ⟨upD_mono (h.o25 hd).1, upD_mono (h.o25 hd).2⟩ }
    · -- 19
      intro D a wx K hD hp h hK
      refine step_wp rfl ?_
      have HK := Lib.hid hK; clear hK
      have H := Lib.hid h; clear h
      have q1 := H.out.s17 (hp 17 (by decide))
      have q2 := H.out.s18 (hp 18 (by decide))
      refine wp_call_at Try.func30 (by kernel_rfl) (by kernel_rfl) rfl #[.pointer (some ⟨g, 0, none⟩), .int .i64 (tb : Int)] (by simp only [List.map_toArray, List.map_cons, List.map_nil, q1, q2]) ?_
      refine (HAQ.out _ H.out.below).mono ?_
      rintro e w1 ⟨rfl, q, rfl⟩
      have h := H.out.keep (Below_drewN _ q)
      refine ⟨_, rfl, HK.out _ _ ?_⟩
      exact {
        fr := h.fr.put (by decide) _
        below := h.below
        s19 := fun _ => h.fr.eval_put (by rw [hsz]; decide) _
        s0 := by simpa [upD, eval_put_ne, put_none] using h.s0
        s1 := by simpa [upD, eval_put_ne, put_none] using h.s1
        s2 := by simpa [upD, eval_put_ne, put_none] using h.s2
        s3 := by simpa [upD, eval_put_ne, put_none] using h.s3
        s4 := by simpa [upD, eval_put_ne, put_none] using h.s4
        s5 := by simpa [upD, eval_put_ne, put_none] using h.s5
        s6 := by simpa [upD, eval_put_ne, put_none] using h.s6
        s7 := by simpa [upD, eval_put_ne, put_none] using h.s7
        s8 := by simpa [upD, eval_put_ne, put_none] using h.s8
        s9 := by simpa [upD, eval_put_ne, put_none] using h.s9
        s10 := by simpa [upD, eval_put_ne, put_none] using h.s10
        s11 := by simpa [upD, eval_put_ne, put_none] using h.s11
        s12 := by simpa [upD, eval_put_ne, put_none] using h.s12
        s13 := by simpa [upD, eval_put_ne, put_none] using h.s13
        s14 := by simpa [upD, eval_put_ne, put_none] using h.s14
        s15 := by simpa [upD, eval_put_ne, put_none] using h.s15
        s16 := by simpa [upD, eval_put_ne, put_none] using h.s16
        s17 := by simpa [upD, eval_put_ne, put_none] using h.s17
        s18 := by simpa [upD, eval_put_ne, put_none] using h.s18
        s20 := by simpa [upD, eval_put_ne, put_none] using h.s20
        s21 := by simpa [upD, eval_put_ne, put_none] using h.s21
        s22 := by simpa [upD, eval_put_ne, put_none] using h.s22
        s23 := by simpa [upD, eval_put_ne, put_none] using h.s23
        ne22_23 := by simpa [upD, eval_put_ne, put_none] using h.ne22_23
        o24 := fun hd => by rw [upD_ne _ (by decide)] at hd; exact ⟨upD_mono (h.o24 hd).1, upD_mono (h.o24 hd).2⟩
        o25 := fun hd => by rw [upD_ne _ (by decide)] at hd; exact ⟨upD_mono (h.o25 hd).1, upD_mono (h.o25 hd).2⟩ }
    · -- 20
      intro D a wx K hD hp h hK
      refine step_wp rfl ?_
      have q16 := h.s16 (hp 16 (by decide))
      have q19 := h.s19 (hp 19 (by decide))
      refine wp_val_at (.pointer (some ⟨nbQ, noQ + ib * 13, none⟩)) (by generalize a.eval = ρ at *; go_simp) ?_
      refine hK _ _ {
        fr := h.fr.put (by decide) _
        below := h.below
        s20 := fun _ => h.fr.eval_put (by rw [hsz]; decide) _
        s0 := by simpa [upD, eval_put_ne, put_none] using h.s0
        s1 := by simpa [upD, eval_put_ne, put_none] using h.s1
        s2 := by simpa [upD, eval_put_ne, put_none] using h.s2
        s3 := by simpa [upD, eval_put_ne, put_none] using h.s3
        s4 := by simpa [upD, eval_put_ne, put_none] using h.s4
        s5 := by simpa [upD, eval_put_ne, put_none] using h.s5
        s6 := by simpa [upD, eval_put_ne, put_none] using h.s6
        s7 := by simpa [upD, eval_put_ne, put_none] using h.s7
        s8 := by simpa [upD, eval_put_ne, put_none] using h.s8
        s9 := by simpa [upD, eval_put_ne, put_none] using h.s9
        s10 := by simpa [upD, eval_put_ne, put_none] using h.s10
        s11 := by simpa [upD, eval_put_ne, put_none] using h.s11
        s12 := by simpa [upD, eval_put_ne, put_none] using h.s12
        s13 := by simpa [upD, eval_put_ne, put_none] using h.s13
        s14 := by simpa [upD, eval_put_ne, put_none] using h.s14
        s15 := by simpa [upD, eval_put_ne, put_none] using h.s15
        s16 := by simpa [upD, eval_put_ne, put_none] using h.s16
        s17 := by simpa [upD, eval_put_ne, put_none] using h.s17
        s18 := by simpa [upD, eval_put_ne, put_none] using h.s18
        s19 := by simpa [upD, eval_put_ne, put_none] using h.s19
        s21 := by simpa [upD, eval_put_ne, put_none] using h.s21
        s22 := by simpa [upD, eval_put_ne, put_none] using h.s22
        s23 := by simpa [upD, eval_put_ne, put_none] using h.s23
        ne22_23 := by simpa [upD, eval_put_ne, put_none] using h.ne22_23
        o24 := fun hd => by rw [upD_ne _ (by decide)] at hd; exact ⟨upD_mono (h.o24 hd).1, upD_mono (h.o24 hd).2⟩
        o25 := fun hd => by rw [upD_ne _ (by decide)] at hd; exact ⟨upD_mono (h.o25 hd).1, upD_mono (h.o25 hd).2⟩ }
    · -- 21
      intro D a wx K hD hp h hK
      refine step_wp rfl ?_
      refine wp_load_at 67 _ rfl nbQ (noQ + ib * 13) (h.s20 (hp 20 (by decide))) y.cells _ (fun j' v hj => (h.below.cell (p := ⟨nbQ, noQ + ib * 13 + j', none⟩) lQ).trans (HQ.out j' v hj)) Try.underlying67 rfl (by kernel_rfl) ?_
      refine hK _ _ {
        fr := h.fr.put (by decide) _
        below := h.below
        s21 := fun _ => h.fr.eval_put (by rw [hsz]; decide) _
        s23 := fun hd => by
          rw [upD_ne _ (by decide)] at hd
          obtain ⟨X, cs, e, e1, e2, e3, e4⟩ := h.s23 hd
          refine ⟨X, cs, by rw [eval_put_ne (by decide)]; exact e, e1, e2, e3, fun h8 => ?_⟩
          rw [upD_ne _ (by decide)] at h8
          have := (h.o25 h8).1
          rw [hD] at this
          cases this
        s0 := by simpa [upD, eval_put_ne, put_none] using h.s0
        s1 := by simpa [upD, eval_put_ne, put_none] using h.s1
        s2 := by simpa [upD, eval_put_ne, put_none] using h.s2
        s3 := by simpa [upD, eval_put_ne, put_none] using h.s3
        s4 := by simpa [upD, eval_put_ne, put_none] using h.s4
        s5 := by simpa [upD, eval_put_ne, put_none] using h.s5
        s6 := by simpa [upD, eval_put_ne, put_none] using h.s6
        s7 := by simpa [upD, eval_put_ne, put_none] using h.s7
        s8 := by simpa [upD, eval_put_ne, put_none] using h.s8
        s9 := by simpa [upD, eval_put_ne, put_none] using h.s9
        s10 := by simpa [upD, eval_put_ne, put_none] using h.s10
        s11 := by simpa [upD, eval_put_ne, put_none] using h.s11
        s12 := by simpa [upD, eval_put_ne, put_none] using h.s12
        s13 := by simpa [upD, eval_put_ne, put_none] using h.s13
        s14 := by simpa [upD, eval_put_ne, put_none] using h.s14
        s15 := by simpa [upD, eval_put_ne, put_none] using h.s15
        s16 := by simpa [upD, eval_put_ne, put_none] using h.s16
        s17 := by simpa [upD, eval_put_ne, put_none] using h.s17
        s18 := by simpa [upD, eval_put_ne, put_none] using h.s18
        s19 := by simpa [upD, eval_put_ne, put_none] using h.s19
        s20 := by simpa [upD, eval_put_ne, put_none] using h.s20
        s22 := by simpa [upD, eval_put_ne, put_none] using h.s22
        ne22_23 := by simpa [upD, eval_put_ne, put_none] using h.ne22_23
        o24 := fun hd => by rw [upD_ne _ (by decide)] at hd; exact ⟨upD_mono (h.o24 hd).1, upD_mono (h.o24 hd).2⟩
        o25 := fun hd => by rw [upD_ne _ (by decide)] at hd; exact ⟨upD_mono (h.o25 hd).1, upD_mono (h.o25 hd).2⟩ }
    · -- 22
      intro D a wx K hD hp h hK
      refine step_wp rfl ?_
      have HK := Lib.hid hK; clear hK
      have H := Lib.hid h; clear h
      refine wp_alloc_at rfl (.agg #[.int .u8 0, .int .u8 0, .int .i64 0, .int .i64 0, .bool false, .int .i64 0, .int .i64 0, .bool false, .int .i64 0, .int .i64 0, .int .i64 0, .int .i64 0, .int .i64 0]) [.int .u8 0, .int .u8 0, .int .i64 0, .int .i64 0, .bool false, .int .i64 0, .int .i64 0, .bool false, .int .i64 0, .int .i64 0, .int .i64 0, .int .i64 0, .int .i64 0] rfl (by kernel_rfl) ?_
      have h := H.out.keep (Below_alloc' wx (.cells (List.toArray [.int .u8 0, .int .u8 0, .int .i64 0, .int .i64 0, .bool false, .int .i64 0, .int .i64 0, .bool false, .int .i64 0, .int .i64 0, .int .i64 0, .int .i64 0, .int .i64 0]) 67))
      have hbz := Blk.new wx 67 [.int .u8 0, .int .u8 0, .int .i64 0, .int .i64 0, .bool false, .int .i64 0, .int .i64 0, .bool false, .int .i64 0, .int .i64 0, .int .i64 0, .int .i64 0, .int .i64 0]
      have hwz := H.out.below.size
      refine HK.out _ _ {
        fr := h.fr.put (by decide) _
        below := h.below
        s22 := fun _ => ⟨wx.heap.size, [.int .u8 0, .int .u8 0, .int .i64 0, .int .i64 0, .bool false, .int .i64 0, .int .i64 0, .bool false, .int .i64 0, .int .i64 0, .int .i64 0, .int .i64 0, .int .i64 0], h.fr.eval_put (by rw [hsz]; decide) _, hwz, hbz, rfl, fun h8 => by
          rw [upD_ne _ (by decide)] at h8
          have := (h.o24 h8).2
          rw [hD] at this
          cases this⟩
        ne22_23 := fun h6 h7 => by
          rw [upD_ne _ (by decide)] at h7
          obtain ⟨X, cs, e, e1, e2, e3, e4⟩ := H.out.s23 h7
          have := e2.lt
          rw [h.fr.eval_put (by rw [hsz]; decide), eval_put_ne (by decide), e]
          intro e'
          injection e' with e'
          injection e' with e'
          injection e' with e' _ _
          omega
        s0 := by simpa [upD, eval_put_ne, put_none] using h.s0
        s1 := by simpa [upD, eval_put_ne, put_none] using h.s1
        s2 := by simpa [upD, eval_put_ne, put_none] using h.s2
        s3 := by simpa [upD, eval_put_ne, put_none] using h.s3
        s4 := by simpa [upD, eval_put_ne, put_none] using h.s4
        s5 := by simpa [upD, eval_put_ne, put_none] using h.s5
        s6 := by simpa [upD, eval_put_ne, put_none] using h.s6
        s7 := by simpa [upD, eval_put_ne, put_none] using h.s7
        s8 := by simpa [upD, eval_put_ne, put_none] using h.s8
        s9 := by simpa [upD, eval_put_ne, put_none] using h.s9
        s10 := by simpa [upD, eval_put_ne, put_none] using h.s10
        s11 := by simpa [upD, eval_put_ne, put_none] using h.s11
        s12 := by simpa [upD, eval_put_ne, put_none] using h.s12
        s13 := by simpa [upD, eval_put_ne, put_none] using h.s13
        s14 := by simpa [upD, eval_put_ne, put_none] using h.s14
        s15 := by simpa [upD, eval_put_ne, put_none] using h.s15
        s16 := by simpa [upD, eval_put_ne, put_none] using h.s16
        s17 := by simpa [upD, eval_put_ne, put_none] using h.s17
        s18 := by simpa [upD, eval_put_ne, put_none] using h.s18
        s19 := by simpa [upD, eval_put_ne, put_none] using h.s19
        s20 := by simpa [upD, eval_put_ne, put_none] using h.s20
        s21 := by simpa [upD, eval_put_ne, put_none] using h.s21
        s23 := by simpa [upD, eval_put_ne, put_none] using h.s23
        o24 := fun hd => by rw [upD_ne _ (by decide)] at hd; exact ⟨upD_mono (h.o24 hd).1, upD_mono (h.o24 hd).2⟩
        o25 := fun hd => by rw [upD_ne _ (by decide)] at hd; exact ⟨upD_mono (h.o25 hd).1, upD_mono (h.o25 hd).2⟩ }
    · -- 23
      intro D a wx K hD hp h hK
      refine step_wp rfl ?_
      have HK := Lib.hid hK; clear hK
      have H := Lib.hid h; clear h
      refine wp_alloc_at rfl (.agg #[.int .u8 0, .int .u8 0, .int .i64 0, .int .i64 0, .bool false, .int .i64 0, .int .i64 0, .bool false, .int .i64 0, .int .i64 0, .int .i64 0, .int .i64 0, .int .i64 0]) [.int .u8 0, .int .u8 0, .int .i64 0, .int .i64 0, .bool false, .int .i64 0, .int .i64 0, .bool false, .int .i64 0, .int .i64 0, .int .i64 0, .int .i64 0, .int .i64 0] rfl (by kernel_rfl) ?_
      have h := H.out.keep (Below_alloc' wx (.cells (List.toArray [.int .u8 0, .int .u8 0, .int .i64 0, .int .i64 0, .bool false, .int .i64 0, .int .i64 0, .bool false, .int .i64 0, .int .i64 0, .int .i64 0, .int .i64 0, .int .i64 0]) 67))
      have hbz := Blk.new wx 67 [.int .u8 0, .int .u8 0, .int .i64 0, .int .i64 0, .bool false, .int .i64 0, .int .i64 0, .bool false, .int .i64 0, .int .i64 0, .int .i64 0, .int .i64 0, .int .i64 0]
      have hwz := H.out.below.size
      refine HK.out _ _ {
        fr := h.fr.put (by decide) _
        below := h.below
        s23 := fun _ => ⟨wx.heap.size, [.int .u8 0, .int .u8 0, .int .i64 0, .int .i64 0, .bool false, .int .i64 0, .int .i64 0, .bool false, .int .i64 0, .int .i64 0, .int .i64 0, .int .i64 0, .int .i64 0], h.fr.eval_put (by rw [hsz]; decide) _, hwz, hbz, rfl, fun h8 => by
          rw [upD_ne _ (by decide)] at h8
          have := (h.o25 h8).2
          rw [hD] at this
          cases this⟩
        ne22_23 := fun h6 h7 => by
          rw [upD_ne _ (by decide)] at h6
          obtain ⟨X, cs, e, e1, e2, e3, e4⟩ := H.out.s22 h6
          have := e2.lt
          rw [h.fr.eval_put (by rw [hsz]; decide), eval_put_ne (by decide), e]
          intro e'
          injection e' with e'
          injection e' with e'
          injection e' with e' _ _
          omega
        s0 := by simpa [upD, eval_put_ne, put_none] using h.s0
        s1 := by simpa [upD, eval_put_ne, put_none] using h.s1
        s2 := by simpa [upD, eval_put_ne, put_none] using h.s2
        s3 := by simpa [upD, eval_put_ne, put_none] using h.s3
        s4 := by simpa [upD, eval_put_ne, put_none] using h.s4
        s5 := by simpa [upD, eval_put_ne, put_none] using h.s5
        s6 := by simpa [upD, eval_put_ne, put_none] using h.s6
        s7 := by simpa [upD, eval_put_ne, put_none] using h.s7
        s8 := by simpa [upD, eval_put_ne, put_none] using h.s8
        s9 := by simpa [upD, eval_put_ne, put_none] using h.s9
        s10 := by simpa [upD, eval_put_ne, put_none] using h.s10
        s11 := by simpa [upD, eval_put_ne, put_none] using h.s11
        s12 := by simpa [upD, eval_put_ne, put_none] using h.s12
        s13 := by simpa [upD, eval_put_ne, put_none] using h.s13
        s14 := by simpa [upD, eval_put_ne, put_none] using h.s14
        s15 := by simpa [upD, eval_put_ne, put_none] using h.s15
        s16 := by simpa [upD, eval_put_ne, put_none] using h.s16
        s17 := by simpa [upD, eval_put_ne, put_none] using h.s17
        s18 := by simpa [upD, eval_put_ne, put_none] using h.s18
        s19 := by simpa [upD, eval_put_ne, put_none] using h.s19
        s20 := by simpa [upD, eval_put_ne, put_none] using h.s20
        s21 := by simpa [upD, eval_put_ne, put_none] using h.s21
        s22 := by simpa [upD, eval_put_ne, put_none] using h.s22
        o24 := fun hd => by rw [upD_ne _ (by decide)] at hd; exact ⟨upD_mono (h.o24 hd).1, upD_mono (h.o24 hd).2⟩
        o25 := fun hd => by rw [upD_ne _ (by decide)] at hd; exact ⟨upD_mono (h.o25 hd).1, upD_mono (h.o25 hd).2⟩ }
    · -- 24
      intro D a wx K hD hp h hK
      refine step_wp rfl ?_
      obtain ⟨X, cs, e, e1, e2, e3, -⟩ := h.s22 (hp 22 (by decide))
      have f1 := h.s10 (hp 10 (by decide))
      refine wp_store_row 67 _ _ rfl X _ e f1 67 cs.toArray e2 (by rw [List.size_toArray, HAL.out]; kernel_rfl) (by simp [e3, HAL.out]) (by exact HAO.out) ?_
      refine hK _ _ {
        fr := h.fr
        below := below_row h.below e1 _
        s22 := fun _ => ⟨X, _, e, e1, Blk.setRow (cs' := x.cells) e2, HAL.out, fun _ => f1⟩
        s8 := fun hd => by rw [upD_ne _ (by decide)] at hd; simpa [upD, put_none] using h.s8 hd
        s19 := fun hd => by rw [upD_ne _ (by decide)] at hd; simpa [upD, put_none] using h.s19 hd
        s23 := fun hd => by
          rw [upD_ne _ (by decide)] at hd
          obtain ⟨Y, ds, p, p1, p2, p3, p4⟩ := h.s23 hd
          have hne : Y ≠ X := fun q => by
            subst q
            exact h.ne22_23 (hp 22 (by decide)) hd (e.trans p.symm)
          exact ⟨Y, ds, p, p1, (heap_setRow_ne hne _).trans p2, p3, fun hk => p4 (by rwa [upD_ne _ (by decide)] at hk)⟩
        s0 := by simpa [upD, eval_put_ne, put_none] using h.s0
        s1 := by simpa [upD, eval_put_ne, put_none] using h.s1
        s2 := by simpa [upD, eval_put_ne, put_none] using h.s2
        s3 := by simpa [upD, eval_put_ne, put_none] using h.s3
        s4 := by simpa [upD, eval_put_ne, put_none] using h.s4
        s5 := by simpa [upD, eval_put_ne, put_none] using h.s5
        s6 := by simpa [upD, eval_put_ne, put_none] using h.s6
        s7 := by simpa [upD, eval_put_ne, put_none] using h.s7
        s9 := by simpa [upD, eval_put_ne, put_none] using h.s9
        s10 := by simpa [upD, eval_put_ne, put_none] using h.s10
        s11 := by simpa [upD, eval_put_ne, put_none] using h.s11
        s12 := by simpa [upD, eval_put_ne, put_none] using h.s12
        s13 := by simpa [upD, eval_put_ne, put_none] using h.s13
        s14 := by simpa [upD, eval_put_ne, put_none] using h.s14
        s15 := by simpa [upD, eval_put_ne, put_none] using h.s15
        s16 := by simpa [upD, eval_put_ne, put_none] using h.s16
        s17 := by simpa [upD, eval_put_ne, put_none] using h.s17
        s18 := by simpa [upD, eval_put_ne, put_none] using h.s18
        s20 := by simpa [upD, eval_put_ne, put_none] using h.s20
        s21 := by simpa [upD, eval_put_ne, put_none] using h.s21
        ne22_23 := by simpa [upD, eval_put_ne, put_none] using h.ne22_23
        o24 := fun _ => ⟨upD_mono (hp 10 (by decide)), upD_mono (hp 22 (by decide))⟩
        o25 := fun hd => by rw [upD_ne _ (by decide)] at hd; exact ⟨upD_mono (h.o25 hd).1, upD_mono (h.o25 hd).2⟩ }
    · -- 25
      intro D a wx K hD hp h hK
      refine step_wp rfl ?_
      obtain ⟨X, cs, e, e1, e2, e3, -⟩ := h.s23 (hp 23 (by decide))
      have f1 := h.s21 (hp 21 (by decide))
      refine wp_store_row 67 _ _ rfl X _ e f1 67 cs.toArray e2 (by rw [List.size_toArray, HBL.out]; kernel_rfl) (by simp [e3, HBL.out]) (by exact HBO.out) ?_
      refine hK _ _ {
        fr := h.fr
        below := below_row h.below e1 _
        s23 := fun _ => ⟨X, _, e, e1, Blk.setRow (cs' := y.cells) e2, HBL.out, fun _ => f1⟩
        s8 := fun hd => by rw [upD_ne _ (by decide)] at hd; simpa [upD, put_none] using h.s8 hd
        s19 := fun hd => by rw [upD_ne _ (by decide)] at hd; simpa [upD, put_none] using h.s19 hd
        s22 := fun hd => by
          rw [upD_ne _ (by decide)] at hd
          obtain ⟨Y, ds, p, p1, p2, p3, p4⟩ := h.s22 hd
          have hne : Y ≠ X := fun q => by
            subst q
            exact h.ne22_23 hd (hp 23 (by decide)) (p.trans e.symm)
          exact ⟨Y, ds, p, p1, (heap_setRow_ne hne _).trans p2, p3, fun hk => p4 (by rwa [upD_ne _ (by decide)] at hk)⟩
        s0 := by simpa [upD, eval_put_ne, put_none] using h.s0
        s1 := by simpa [upD, eval_put_ne, put_none] using h.s1
        s2 := by simpa [upD, eval_put_ne, put_none] using h.s2
        s3 := by simpa [upD, eval_put_ne, put_none] using h.s3
        s4 := by simpa [upD, eval_put_ne, put_none] using h.s4
        s5 := by simpa [upD, eval_put_ne, put_none] using h.s5
        s6 := by simpa [upD, eval_put_ne, put_none] using h.s6
        s7 := by simpa [upD, eval_put_ne, put_none] using h.s7
        s9 := by simpa [upD, eval_put_ne, put_none] using h.s9
        s10 := by simpa [upD, eval_put_ne, put_none] using h.s10
        s11 := by simpa [upD, eval_put_ne, put_none] using h.s11
        s12 := by simpa [upD, eval_put_ne, put_none] using h.s12
        s13 := by simpa [upD, eval_put_ne, put_none] using h.s13
        s14 := by simpa [upD, eval_put_ne, put_none] using h.s14
        s15 := by simpa [upD, eval_put_ne, put_none] using h.s15
        s16 := by simpa [upD, eval_put_ne, put_none] using h.s16
        s17 := by simpa [upD, eval_put_ne, put_none] using h.s17
        s18 := by simpa [upD, eval_put_ne, put_none] using h.s18
        s20 := by simpa [upD, eval_put_ne, put_none] using h.s20
        s21 := by simpa [upD, eval_put_ne, put_none] using h.s21
        ne22_23 := by simpa [upD, eval_put_ne, put_none] using h.ne22_23
        o24 := fun hd => by rw [upD_ne _ (by decide)] at hd; exact ⟨upD_mono (h.o24 hd).1, upD_mono (h.o24 hd).2⟩
        o25 := fun _ => ⟨upD_mono (hp 21 (by decide)), upD_mono (hp 23 (by decide))⟩ }

  case done =>
    intro D a wc hall h
    have hd : ∀ i, i < 26 → D i = true := hall
    obtain ⟨X, ds, v11, eX, bX, -, cX⟩ := h.s22 (hd 22 (by decide))
    obtain ⟨Y, es, v12, eY, bY, -, cY⟩ := h.s23 (hd 23 (by decide))
    have cX := (cX (hd 24 (by decide))).symm.trans (h.s10 (hd 10 (by decide)))
    have cY := (cY (hd 25 (by decide))).symm.trans (h.s21 (hd 21 (by decide)))
    injection cX with cX
    injection cY with cY
    obtain rfl : x.cells = ds := by simpa using (congrArg Array.toList cX).symm
    obtain rfl : y.cells = es := by simpa using (congrArg Array.toList cY).symm
    have hfin := ((((((((((((((((((((((((h.fr.shut (by rw [hsz]; decide)).shut (by simp [Act.put, hsz])).shut (by simp [Act.put, hsz])).shut (by simp [Act.put, hsz])).shut (by simp [Act.put, hsz])).shut (by simp [Act.put, hsz])).shut (by simp [Act.put, hsz])).shut (by simp [Act.put, hsz])).shut (by simp [Act.put, hsz])).shut (by simp [Act.put, hsz])).shut (by simp [Act.put, hsz])).shut (by simp [Act.put, hsz])).shut (by simp [Act.put, hsz])).shut (by simp [Act.put, hsz])).shut (by simp [Act.put, hsz])).shut (by simp [Act.put, hsz])).shut (by simp [Act.put, hsz])).shut (by simp [Act.put, hsz])).shut (by simp [Act.put, hsz])).shut (by simp [Act.put, hsz])).shut (by simp [Act.put, hsz])).shut (by simp [Act.put, hsz])).shut (by simp [Act.put, hsz])).shut (by simp [Act.put, hsz])).done
    rw [v11, v12, h.s0 (hd 0 (by decide)), h.s1 (hd 1 (by decide)), h.s2 (hd 2 (by decide)), h.s3 (hd 3 (by decide)), h.s4 (hd 4 (by decide)), h.s5 (hd 5 (by decide)), h.s6 (hd 6 (by decide)), h.s7 (hd 7 (by decide)), h.s8 (hd 8 (by decide)), h.s9 (hd 9 (by decide)), h.s10 (hd 10 (by decide)), h.s11 (hd 11 (by decide)), h.s12 (hd 12 (by decide)), h.s13 (hd 13 (by decide)), h.s14 (hd 14 (by decide)), h.s15 (hd 15 (by decide)), h.s16 (hd 16 (by decide)), h.s17 (hd 17 (by decide)), h.s18 (hd 18 (by decide)), h.s19 (hd 19 (by decide)), h.s20 (hd 20 (by decide)), h.s21 (hd 21 (by decide))] at hfin
    have H7 := Lib.hid (And.intro (And.intro bX bY) (H6.out.below h.below))
    rw [hfin, HA0.out]
    clear hfin HA0 h hall hd v11 v12 cX cY eX eY t2 t3 t4 t9 hsz bX bY lu lg lP lQ E2 EP EQ HP HQ HAP HAQ H6 HAL HBL HAO HBO i0 i1 j0 j1
    simp only [Act.put, List.setIfInBounds_toArray, List.set_cons_zero, List.set_cons_succ]
    go_upto_region 10 with fail
    have HX : Hid (∀ j v, x.cells[j]? = some v → wc.cell? ⟨X, j, none⟩ = some v) := Lib.hid fun j v hj => by rw [H7.out.1.1.cell]; exact hj
    have HY : Hid (∀ j v, y.cells[j]? = some v → wc.cell? ⟨Y, j, none⟩ = some v) := Lib.hid fun j v hj => by rw [H7.out.1.2.cell]; exact hj
    have lX : X < wc.heap.size := H7.out.1.1.lt
    have lY : Y < wc.heap.size := H7.out.1.2.lt
    have TX := Lib.hid (thing_in HK.out.1 HST.out.1)
    have TY := Lib.hid (thing_in HK.out.1 HST.out.2)
    obtain ⟨be, hbe⟩ : ∃ r, (touchI x == touchI y) = r := ⟨_, rfl⟩
    obtain ⟨bz, hbz⟩ : ∃ r, (touchI x != 0) = r := ⟨_, rfl⟩
    obtain ⟨b7, hb7⟩ : ∃ r, (x.kind == 7) = r := ⟨_, rfl⟩
    obtain ⟨c7, hc7⟩ : ∃ r, (y.kind == 7) = r := ⟨_, rfl⟩
    have EE := Lib.hid hbe; have EZ := Lib.hid hbz; have E7 := Lib.hid hb7; have F7 := Lib.hid hc7
    clear hbe hbz hb7 hc7
    refine wp_act0 fun a0 ha0 => ?_
    have t11 : a0.eval (.tmp 11) = .pointer (some ⟨X, 0, none⟩) := by rw [ha0]; rfl
    have t12 : a0.eval (.tmp 12) = .pointer (some ⟨Y, 0, none⟩) := by rw [ha0]; rfl
    have hsz : a0.tmps.size = 147 := by rw [ha0]; rfl
    have HA0 := Lib.hid ha0; clear ha0
    refine wp_region_inv (As10 wc X Y x y be bz b7 c7 a0) (by kernel_rfl) (by kernel_rfl) ?start ?steps ?done
    case start =>
      refine { fr := Fr.refl _ _, below := (Below.refl _ wc).drew, s0 := ?_, s1 := ?_, s2 := ?_, s3 := ?_, s4 := ?_, s5 := ?_, s6 := ?_, s7 := ?_, s8 := ?_, s9 := ?_, s10 := ?_, s11 := ?_, s12 := ?_, s13 := ?_, s14 := ?_, s15 := ?_, s16 := ?_, s17 := ?_, s18 := ?_, s19 := ?_ } <;> (intro hd; cases hd)
    case steps =>
      refine steps_all ?_
      refine ⟨?_, ?_, ?_, ?_, ?_, ?_, ?_, ?_, ?_, ?_, ?_, ?_, ?_, ?_, ?_, ?_, ?_, ?_, ?_, ?_, trivial⟩
      · -- 0
        intro D a wx K hD hp h hK
        refine step_wp rfl ?_
        refine wp_load_at 67 _ rfl X 0 ((h.fr.eval (j := 11) (by decide)).trans t11) x.cells _ (fun j' v hj => by rw [Nat.zero_add]; exact (h.below.cell (p := ⟨X, j', none⟩) lX).trans (HX.out j' v hj)) Try.underlying67 rfl (by kernel_rfl) ?_
        refine hK _ _ {
          fr := h.fr.put (by decide) _
          below := h.below
          s0 := fun _ => h.fr.eval_put (by rw [hsz]; decide) _
          s1 := by simpa [upD, eval_put_ne, put_none] using h.s1
          s2 := by simpa [upD, eval_put_ne, put_none] using h.s2
          s3 := by simpa [upD, eval_put_ne, put_none] using h.s3
          s4 := by simpa [upD, eval_put_ne, put_none] using h.s4
          s5 := by simpa [upD, eval_put_ne, put_none] using h.s5
          s6 := by simpa [upD, eval_put_ne, put_none] using h.s6
          s7 := by simpa [upD, eval_put_ne, put_none] using h.s7
          s8 := by simpa [upD, eval_put_ne, put_none] using h.s8
          s9 := by simpa [upD, eval_put_ne, put_none] using h.s9
          s10 := by simpa [upD, eval_put_ne, put_none] using h.s10
          s11 := by simpa [upD, eval_put_ne, put_none] using h.s11
          s12 := by simpa [upD, eval_put_ne, put_none] using h.s12
          s13 := by simpa [upD, eval_put_ne, put_none] using h.s13
          s14 := by simpa [upD, eval_put_ne, put_none] using h.s14
          s15 := by simpa [upD, eval_put_ne, put_none] using h.s15
          s16 := by simpa [upD, eval_put_ne, put_none] using h.s16
          s17 := by simpa [upD, eval_put_ne, put_none] using h.s17
          s18 := by simpa [upD, eval_put_ne, put_none] using h.s18
          s19 := by simpa [upD, eval_put_ne, put_none] using h.s19 }
      · -- 1
        intro D a wx K hD hp h hK
        refine step_wp rfl ?_
        have HK := Lib.hid hK; clear hK
        have H := Lib.hid h; clear h
        have q1 := H.out.s0 (hp 0 (by decide))
        refine wp_call_at Try.func31 (by kernel_rfl) (by kernel_rfl) rfl #[.agg x.cells.toArray] (by simp only [List.map_toArray, List.map_cons, List.map_nil, q1]) ?_
        refine (touches7_calls x _ TX.out.1 TX.out.2).mono ?_
        rintro e w1 ⟨rfl, hb1⟩
        have h := H.out.keep hb1
        refine ⟨_, rfl, HK.out _ _ ?_⟩
        exact {
          fr := h.fr.put (by decide) _
          below := h.below
          s1 := fun _ => h.fr.eval_put (by rw [hsz]; decide) _
          s0 := by simpa [upD, eval_put_ne, put_none] using h.s0
          s2 := by simpa [upD, eval_put_ne, put_none] using h.s2
          s3 := by simpa [upD, eval_put_ne, put_none] using h.s3
          s4 := by simpa [upD, eval_put_ne, put_none] using h.s4
          s5 := by simpa [upD, eval_put_ne, put_none] using h.s5
          s6 := by simpa [upD, eval_put_ne, put_none] using h.s6
          s7 := by simpa [upD, eval_put_ne, put_none] using h.s7
          s8 := by simpa [upD, eval_put_ne, put_none] using h.s8
          s9 := by simpa [upD, eval_put_ne, put_none] using h.s9
          s10 := by simpa [upD, eval_put_ne, put_none] using h.s10
          s11 := by simpa [upD, eval_put_ne, put_none] using h.s11
          s12 := by simpa [upD, eval_put_ne, put_none] using h.s12
          s13 := by simpa [upD, eval_put_ne, put_none] using h.s13
          s14 := by simpa [upD, eval_put_ne, put_none] using h.s14
          s15 := by simpa [upD, eval_put_ne, put_none] using h.s15
          s16 := by simpa [upD, eval_put_ne, put_none] using h.s16
          s17 := by simpa [upD, eval_put_ne, put_none] using h.s17
          s18 := by simpa [upD, eval_put_ne, put_none] using h.s18
          s19 := by simpa [upD, eval_put_ne, put_none] using h.s19 }
      · -- 2
        intro D a wx K hD hp h hK
        refine step_wp rfl ?_
        refine wp_load_at 67 _ rfl Y 0 ((h.fr.eval (j := 12) (by decide)).trans t12) y.cells _ (fun j' v hj => by rw [Nat.zero_add]; exact (h.below.cell (p := ⟨Y, j', none⟩) lY).trans (HY.out j' v hj)) Try.underlying67 rfl (by kernel_rfl) ?_
        refine hK _ _ {
          fr := h.fr.put (by decide) _
          below := h.below
          s2 := fun _ => h.fr.eval_put (by rw [hsz]; decide) _
          s0 := by simpa [upD, eval_put_ne, put_none] using h.s0
          s1 := by simpa [upD, eval_put_ne, put_none] using h.s1
          s3 := by simpa [upD, eval_put_ne, put_none] using h.s3
          s4 := by simpa [upD, eval_put_ne, put_none] using h.s4
          s5 := by simpa [upD, eval_put_ne, put_none] using h.s5
          s6 := by simpa [upD, eval_put_ne, put_none] using h.s6
          s7 := by simpa [upD, eval_put_ne, put_none] using h.s7
          s8 := by simpa [upD, eval_put_ne, put_none] using h.s8
          s9 := by simpa [upD, eval_put_ne, put_none] using h.s9
          s10 := by simpa [upD, eval_put_ne, put_none] using h.s10
          s11 := by simpa [upD, eval_put_ne, put_none] using h.s11
          s12 := by simpa [upD, eval_put_ne, put_none] using h.s12
          s13 := by simpa [upD, eval_put_ne, put_none] using h.s13
          s14 := by simpa [upD, eval_put_ne, put_none] using h.s14
          s15 := by simpa [upD, eval_put_ne, put_none] using h.s15
          s16 := by simpa [upD, eval_put_ne, put_none] using h.s16
          s17 := by simpa [upD, eval_put_ne, put_none] using h.s17
          s18 := by simpa [upD, eval_put_ne, put_none] using h.s18
          s19 := by simpa [upD, eval_put_ne, put_none] using h.s19 }
      · -- 3
        intro D a wx K hD hp h hK
        refine step_wp rfl ?_
        have HK := Lib.hid hK; clear hK
        have H := Lib.hid h; clear h
        have q1 := H.out.s2 (hp 2 (by decide))
        refine wp_call_at Try.func31 (by kernel_rfl) (by kernel_rfl) rfl #[.agg y.cells.toArray] (by simp only [List.map_toArray, List.map_cons, List.map_nil, q1]) ?_
        refine (touches7_calls y _ TY.out.1 TY.out.2).mono ?_
        rintro e w1 ⟨rfl, hb1⟩
        have h := H.out.keep hb1
        refine ⟨_, rfl, HK.out _ _ ?_⟩
        exact {
          fr := h.fr.put (by decide) _
          below := h.below
          s3 := fun _ => h.fr.eval_put (by rw [hsz]; decide) _
          s0 := by simpa [upD, eval_put_ne, put_none] using h.s0
          s1 := by simpa [upD, eval_put_ne, put_none] using h.s1
          s2 := by simpa [upD, eval_put_ne, put_none] using h.s2
          s4 := by simpa [upD, eval_put_ne, put_none] using h.s4
          s5 := by simpa [upD, eval_put_ne, put_none] using h.s5
          s6 := by simpa [upD, eval_put_ne, put_none] using h.s6
          s7 := by simpa [upD, eval_put_ne, put_none] using h.s7
          s8 := by simpa [upD, eval_put_ne, put_none] using h.s8
          s9 := by simpa [upD, eval_put_ne, put_none] using h.s9
          s10 := by simpa [upD, eval_put_ne, put_none] using h.s10
          s11 := by simpa [upD, eval_put_ne, put_none] using h.s11
          s12 := by simpa [upD, eval_put_ne, put_none] using h.s12
          s13 := by simpa [upD, eval_put_ne, put_none] using h.s13
          s14 := by simpa [upD, eval_put_ne, put_none] using h.s14
          s15 := by simpa [upD, eval_put_ne, put_none] using h.s15
          s16 := by simpa [upD, eval_put_ne, put_none] using h.s16
          s17 := by simpa [upD, eval_put_ne, put_none] using h.s17
          s18 := by simpa [upD, eval_put_ne, put_none] using h.s18
          s19 := by simpa [upD, eval_put_ne, put_none] using h.s19 }
      · -- 4
        intro D a wx K hD hp h hK
        refine step_wp rfl ?_
        have q0 := (h.s1 (hp 1 (by decide)))
        have q1 := (h.s3 (hp 3 (by decide)))
        have q2 := EE.out
        refine wp_val_at (.bool be) (by generalize a.eval = ρ at *; go_simp) ?_
        refine hK _ _ {
          fr := h.fr.put (by decide) _
          below := h.below
          s4 := fun _ => h.fr.eval_put (by rw [hsz]; decide) _
          s0 := by simpa [upD, eval_put_ne, put_none] using h.s0
          s1 := by simpa [upD, eval_put_ne, put_none] using h.s1
          s2 := by simpa [upD, eval_put_ne, put_none] using h.s2
          s3 := by simpa [upD, eval_put_ne, put_none] using h.s3
          s5 := by simpa [upD, eval_put_ne, put_none] using h.s5
          s6 := by simpa [upD, eval_put_ne, put_none] using h.s6
          s7 := by simpa [upD, eval_put_ne, put_none] using h.s7
          s8 := by simpa [upD, eval_put_ne, put_none] using h.s8
          s9 := by simpa [upD, eval_put_ne, put_none] using h.s9
          s10 := by simpa [upD, eval_put_ne, put_none] using h.s10
          s11 := by simpa [upD, eval_put_ne, put_none] using h.s11
          s12 := by simpa [upD, eval_put_ne, put_none] using h.s12
          s13 := by simpa [upD, eval_put_ne, put_none] using h.s13
          s14 := by simpa [upD, eval_put_ne, put_none] using h.s14
          s15 := by simpa [upD, eval_put_ne, put_none] using h.s15
          s16 := by simpa [upD, eval_put_ne, put_none] using h.s16
          s17 := by simpa [upD, eval_put_ne, put_none] using h.s17
          s18 := by simpa [upD, eval_put_ne, put_none] using h.s18
          s19 := by simpa [upD, eval_put_ne, put_none] using h.s19 }
      · -- 5
        intro D a wx K hD hp h hK
        refine step_wp rfl ?_
        refine wp_move_at rfl ?_
        rw [(h.s4 (hp 4 (by decide)))]
        refine hK _ _ {
          fr := h.fr.put (by decide) _
          below := h.below
          s5 := fun _ => h.fr.eval_put (by rw [hsz]; decide) _
          s0 := by simpa [upD, eval_put_ne, put_none] using h.s0
          s1 := by simpa [upD, eval_put_ne, put_none] using h.s1
          s2 := by simpa [upD, eval_put_ne, put_none] using h.s2
          s3 := by simpa [upD, eval_put_ne, put_none] using h.s3
          s4 := by simpa [upD, eval_put_ne, put_none] using h.s4
          s6 := by simpa [upD, eval_put_ne, put_none] using h.s6
          s7 := by simpa [upD, eval_put_ne, put_none] using h.s7
          s8 := by simpa [upD, eval_put_ne, put_none] using h.s8
          s9 := by simpa [upD, eval_put_ne, put_none] using h.s9
          s10 := by simpa [upD, eval_put_ne, put_none] using h.s10
          s11 := by simpa [upD, eval_put_ne, put_none] using h.s11
          s12 := by simpa [upD, eval_put_ne, put_none] using h.s12
          s13 := by simpa [upD, eval_put_ne, put_none] using h.s13
          s14 := by simpa [upD, eval_put_ne, put_none] using h.s14
          s15 := by simpa [upD, eval_put_ne, put_none] using h.s15
          s16 := by simpa [upD, eval_put_ne, put_none] using h.s16
          s17 := by simpa [upD, eval_put_ne, put_none] using h.s17
          s18 := by simpa [upD, eval_put_ne, put_none] using h.s18
          s19 := by simpa [upD, eval_put_ne, put_none] using h.s19 }
      · -- 6
        intro D a wx K hD hp h hK
        by_cases hG : (be) = true
        rotate_left
        · refine step_no_g rfl rfl (g1_no (h.s5 (hp 5 (by decide))) hG) ?_
          refine hK _ _ {
            fr := h.fr.put (by decide) _
            below := h.below
            s6 := fun _ => (h.fr.eval_put (by rw [hsz]; decide) _).trans (gv_false hG).symm
            s0 := by simpa [upD, eval_put_ne, put_none] using h.s0
            s1 := by simpa [upD, eval_put_ne, put_none] using h.s1
            s2 := by simpa [upD, eval_put_ne, put_none] using h.s2
            s3 := by simpa [upD, eval_put_ne, put_none] using h.s3
            s4 := by simpa [upD, eval_put_ne, put_none] using h.s4
            s5 := by simpa [upD, eval_put_ne, put_none] using h.s5
            s7 := by simpa [upD, eval_put_ne, put_none] using h.s7
            s8 := by simpa [upD, eval_put_ne, put_none] using h.s8
            s9 := by simpa [upD, eval_put_ne, put_none] using h.s9
            s10 := by simpa [upD, eval_put_ne, put_none] using h.s10
            s11 := by simpa [upD, eval_put_ne, put_none] using h.s11
            s12 := by simpa [upD, eval_put_ne, put_none] using h.s12
            s13 := by simpa [upD, eval_put_ne, put_none] using h.s13
            s14 := by simpa [upD, eval_put_ne, put_none] using h.s14
            s15 := by simpa [upD, eval_put_ne, put_none] using h.s15
            s16 := by simpa [upD, eval_put_ne, put_none] using h.s16
            s17 := by simpa [upD, eval_put_ne, put_none] using h.s17
            s18 := by simpa [upD, eval_put_ne, put_none] using h.s18
            s19 := by simpa [upD, eval_put_ne, put_none] using h.s19 }
        refine step_wp_g rfl rfl (g1_yes (h.s5 (hp 5 (by decide))) hG) ?_
        refine wp_load_at 67 _ rfl X 0 ((h.fr.eval (j := 11) (by decide)).trans t11) x.cells _ (fun j' v hj => by rw [Nat.zero_add]; exact (h.below.cell (p := ⟨X, j', none⟩) lX).trans (HX.out j' v hj)) Try.underlying67 rfl (by kernel_rfl) ?_
        refine hK _ _ {
          fr := h.fr.put (by decide) _
          below := h.below
          s6 := fun _ => (h.fr.eval_put (by rw [hsz]; decide) _).trans (gv_true hG).symm
          s0 := by simpa [upD, eval_put_ne, put_none] using h.s0
          s1 := by simpa [upD, eval_put_ne, put_none] using h.s1
          s2 := by simpa [upD, eval_put_ne, put_none] using h.s2
          s3 := by simpa [upD, eval_put_ne, put_none] using h.s3
          s4 := by simpa [upD, eval_put_ne, put_none] using h.s4
          s5 := by simpa [upD, eval_put_ne, put_none] using h.s5
          s7 := by simpa [upD, eval_put_ne, put_none] using h.s7
          s8 := by simpa [upD, eval_put_ne, put_none] using h.s8
          s9 := by simpa [upD, eval_put_ne, put_none] using h.s9
          s10 := by simpa [upD, eval_put_ne, put_none] using h.s10
          s11 := by simpa [upD, eval_put_ne, put_none] using h.s11
          s12 := by simpa [upD, eval_put_ne, put_none] using h.s12
          s13 := by simpa [upD, eval_put_ne, put_none] using h.s13
          s14 := by simpa [upD, eval_put_ne, put_none] using h.s14
          s15 := by simpa [upD, eval_put_ne, put_none] using h.s15
          s16 := by simpa [upD, eval_put_ne, put_none] using h.s16
          s17 := by simpa [upD, eval_put_ne, put_none] using h.s17
          s18 := by simpa [upD, eval_put_ne, put_none] using h.s18
          s19 := by simpa [upD, eval_put_ne, put_none] using h.s19 }
      · -- 7
        intro D a wx K hD hp h hK
        by_cases hG : (be) = true
        rotate_left
        · refine step_no_g rfl rfl (g1_no (h.s5 (hp 5 (by decide))) hG) ?_
          refine hK _ _ {
            fr := h.fr.put (by decide) _
            below := h.below
            s7 := fun _ => (h.fr.eval_put (by rw [hsz]; decide) _).trans (gv_false hG).symm
            s0 := by simpa [upD, eval_put_ne, put_none] using h.s0
            s1 := by simpa [upD, eval_put_ne, put_none] using h.s1
            s2 := by simpa [upD, eval_put_ne, put_none] using h.s2
            s3 := by simpa [upD, eval_put_ne, put_none] using h.s3
            s4 := by simpa [upD, eval_put_ne, put_none] using h.s4
            s5 := by simpa [upD, eval_put_ne, put_none] using h.s5
            s6 := by simpa [upD, eval_put_ne, put_none] using h.s6
            s8 := by simpa [upD, eval_put_ne, put_none] using h.s8
            s9 := by simpa [upD, eval_put_ne, put_none] using h.s9
            s10 := by simpa [upD, eval_put_ne, put_none] using h.s10
            s11 := by simpa [upD, eval_put_ne, put_none] using h.s11
            s12 := by simpa [upD, eval_put_ne, put_none] using h.s12
            s13 := by simpa [upD, eval_put_ne, put_none] using h.s13
            s14 := by simpa [upD, eval_put_ne, put_none] using h.s14
            s15 := by simpa [upD, eval_put_ne, put_none] using h.s15
            s16 := by simpa [upD, eval_put_ne, put_none] using h.s16
            s17 := by simpa [upD, eval_put_ne, put_none] using h.s17
            s18 := by simpa [upD, eval_put_ne, put_none] using h.s18
            s19 := by simpa [upD, eval_put_ne, put_none] using h.s19 }
        refine step_wp_g rfl rfl (g1_yes (h.s5 (hp 5 (by decide))) hG) ?_
        have HK := Lib.hid hK; clear hK
        have H := Lib.hid h; clear h
        have q1 := (H.out.s6 (hp 6 (by decide))).trans (gv_true hG)
        refine wp_call_at Try.func31 (by kernel_rfl) (by kernel_rfl) rfl #[.agg x.cells.toArray] (by simp only [List.map_toArray, List.map_cons, List.map_nil, q1]) ?_
        refine (touches7_calls x _ TX.out.1 TX.out.2).mono ?_
        rintro e w1 ⟨rfl, hb1⟩
        have h := H.out.keep hb1
        refine ⟨_, rfl, HK.out _ _ ?_⟩
        exact {
          fr := h.fr.put (by decide) _
          below := h.below
          s7 := fun _ => (h.fr.eval_put (by rw [hsz]; decide) _).trans (gv_true hG).symm
          s0 := by simpa [upD, eval_put_ne, put_none] using h.s0
          s1 := by simpa [upD, eval_put_ne, put_none] using h.s1
          s2 := by simpa [upD, eval_put_ne, put_none] using h.s2
          s3 := by simpa [upD, eval_put_ne, put_none] using h.s3
          s4 := by simpa [upD, eval_put_ne, put_none] using h.s4
          s5 := by simpa [upD, eval_put_ne, put_none] using h.s5
          s6 := by simpa [upD, eval_put_ne, put_none] using h.s6
          s8 := by simpa [upD, eval_put_ne, put_none] using h.s8
          s9 := by simpa [upD, eval_put_ne, put_none] using h.s9
          s10 := by simpa [upD, eval_put_ne, put_none] using h.s10
          s11 := by simpa [upD, eval_put_ne, put_none] using h.s11
          s12 := by simpa [upD, eval_put_ne, put_none] using h.s12
          s13 := by simpa [upD, eval_put_ne, put_none] using h.s13
          s14 := by simpa [upD, eval_put_ne, put_none] using h.s14
          s15 := by simpa [upD, eval_put_ne, put_none] using h.s15
          s16 := by simpa [upD, eval_put_ne, put_none] using h.s16
          s17 := by simpa [upD, eval_put_ne, put_none] using h.s17
          s18 := by simpa [upD, eval_put_ne, put_none] using h.s18
          s19 := by simpa [upD, eval_put_ne, put_none] using h.s19 }
      · -- 8
        intro D a wx K hD hp h hK
        by_cases hG : (be) = true
        rotate_left
        · refine step_no_g rfl rfl (g1_no (h.s5 (hp 5 (by decide))) hG) ?_
          refine hK _ _ {
            fr := h.fr.put (by decide) _
            below := h.below
            s8 := fun _ => (h.fr.eval_put (by rw [hsz]; decide) _).trans (gv_false hG).symm
            s0 := by simpa [upD, eval_put_ne, put_none] using h.s0
            s1 := by simpa [upD, eval_put_ne, put_none] using h.s1
            s2 := by simpa [upD, eval_put_ne, put_none] using h.s2
            s3 := by simpa [upD, eval_put_ne, put_none] using h.s3
            s4 := by simpa [upD, eval_put_ne, put_none] using h.s4
            s5 := by simpa [upD, eval_put_ne, put_none] using h.s5
            s6 := by simpa [upD, eval_put_ne, put_none] using h.s6
            s7 := by simpa [upD, eval_put_ne, put_none] using h.s7
            s9 := by simpa [upD, eval_put_ne, put_none] using h.s9
            s10 := by simpa [upD, eval_put_ne, put_none] using h.s10
            s11 := by simpa [upD, eval_put_ne, put_none] using h.s11
            s12 := by simpa [upD, eval_put_ne, put_none] using h.s12
            s13 := by simpa [upD, eval_put_ne, put_none] using h.s13
            s14 := by simpa [upD, eval_put_ne, put_none] using h.s14
            s15 := by simpa [upD, eval_put_ne, put_none] using h.s15
            s16 := by simpa [upD, eval_put_ne, put_none] using h.s16
            s17 := by simpa [upD, eval_put_ne, put_none] using h.s17
            s18 := by simpa [upD, eval_put_ne, put_none] using h.s18
            s19 := by simpa [upD, eval_put_ne, put_none] using h.s19 }
        refine step_wp_g rfl rfl (g1_yes (h.s5 (hp 5 (by decide))) hG) ?_
        have q0 := (h.s7 (hp 7 (by decide))).trans (gv_true hG)
        have q1 := EZ.out
        have q2 := (show a.eval (.const (.int .i64 0)) = .int .i64 0 from rfl)
        refine wp_val_at (.bool bz) (by generalize a.eval = ρ at *; go_simp) ?_
        refine hK _ _ {
          fr := h.fr.put (by decide) _
          below := h.below
          s8 := fun _ => (h.fr.eval_put (by rw [hsz]; decide) _).trans (gv_true hG).symm
          s0 := by simpa [upD, eval_put_ne, put_none] using h.s0
          s1 := by simpa [upD, eval_put_ne, put_none] using h.s1
          s2 := by simpa [upD, eval_put_ne, put_none] using h.s2
          s3 := by simpa [upD, eval_put_ne, put_none] using h.s3
          s4 := by simpa [upD, eval_put_ne, put_none] using h.s4
          s5 := by simpa [upD, eval_put_ne, put_none] using h.s5
          s6 := by simpa [upD, eval_put_ne, put_none] using h.s6
          s7 := by simpa [upD, eval_put_ne, put_none] using h.s7
          s9 := by simpa [upD, eval_put_ne, put_none] using h.s9
          s10 := by simpa [upD, eval_put_ne, put_none] using h.s10
          s11 := by simpa [upD, eval_put_ne, put_none] using h.s11
          s12 := by simpa [upD, eval_put_ne, put_none] using h.s12
          s13 := by simpa [upD, eval_put_ne, put_none] using h.s13
          s14 := by simpa [upD, eval_put_ne, put_none] using h.s14
          s15 := by simpa [upD, eval_put_ne, put_none] using h.s15
          s16 := by simpa [upD, eval_put_ne, put_none] using h.s16
          s17 := by simpa [upD, eval_put_ne, put_none] using h.s17
          s18 := by simpa [upD, eval_put_ne, put_none] using h.s18
          s19 := by simpa [upD, eval_put_ne, put_none] using h.s19 }
      · -- 9
        intro D a wx K hD hp h hK
        refine step_wp rfl ?_
        have q0 := (h.s5 (hp 5 (by decide)))
        have q2 := (fun e' => (h.s8 (hp 8 (by decide))).trans (gv_true e') : be = true → a.eval (.tmp 86) = .bool bz)
        have qk : a.eval (.const (.bool false)) = .bool false := rfl
        refine wp_val_at (.bool (be && bz)) (by
          cases hx : (be) with
          | true =>
            have q3 := q2 hx
            rw [hx] at q0
            clear q2
            generalize a.eval = ρ at *
            go_simp
          | false =>
            rw [hx] at q0
            clear q2
            generalize a.eval = ρ at *
            go_simp) ?_
        refine hK _ _ {
          fr := h.fr.put (by decide) _
          below := h.below
          s9 := fun _ => h.fr.eval_put (by rw [hsz]; decide) _
          s0 := by simpa [upD, eval_put_ne, put_none] using h.s0
          s1 := by simpa [upD, eval_put_ne, put_none] using h.s1
          s2 := by simpa [upD, eval_put_ne, put_none] using h.s2
          s3 := by simpa [upD, eval_put_ne, put_none] using h.s3
          s4 := by simpa [upD, eval_put_ne, put_none] using h.s4
          s5 := by simpa [upD, eval_put_ne, put_none] using h.s5
          s6 := by simpa [upD, eval_put_ne, put_none] using h.s6
          s7 := by simpa [upD, eval_put_ne, put_none] using h.s7
          s8 := by simpa [upD, eval_put_ne, put_none] using h.s8
          s10 := by simpa [upD, eval_put_ne, put_none] using h.s10
          s11 := by simpa [upD, eval_put_ne, put_none] using h.s11
          s12 := by simpa [upD, eval_put_ne, put_none] using h.s12
          s13 := by simpa [upD, eval_put_ne, put_none] using h.s13
          s14 := by simpa [upD, eval_put_ne, put_none] using h.s14
          s15 := by simpa [upD, eval_put_ne, put_none] using h.s15
          s16 := by simpa [upD, eval_put_ne, put_none] using h.s16
          s17 := by simpa [upD, eval_put_ne, put_none] using h.s17
          s18 := by simpa [upD, eval_put_ne, put_none] using h.s18
          s19 := by simpa [upD, eval_put_ne, put_none] using h.s19 }
      · -- 10
        intro D a wx K hD hp h hK
        refine step_wp rfl ?_
        refine wp_move_at rfl ?_
        rw [(h.s9 (hp 9 (by decide)))]
        refine hK _ _ {
          fr := h.fr.put (by decide) _
          below := h.below
          s10 := fun _ => h.fr.eval_put (by rw [hsz]; decide) _
          s0 := by simpa [upD, eval_put_ne, put_none] using h.s0
          s1 := by simpa [upD, eval_put_ne, put_none] using h.s1
          s2 := by simpa [upD, eval_put_ne, put_none] using h.s2
          s3 := by simpa [upD, eval_put_ne, put_none] using h.s3
          s4 := by simpa [upD, eval_put_ne, put_none] using h.s4
          s5 := by simpa [upD, eval_put_ne, put_none] using h.s5
          s6 := by simpa [upD, eval_put_ne, put_none] using h.s6
          s7 := by simpa [upD, eval_put_ne, put_none] using h.s7
          s8 := by simpa [upD, eval_put_ne, put_none] using h.s8
          s9 := by simpa [upD, eval_put_ne, put_none] using h.s9
          s11 := by simpa [upD, eval_put_ne, put_none] using h.s11
          s12 := by simpa [upD, eval_put_ne, put_none] using h.s12
          s13 := by simpa [upD, eval_put_ne, put_none] using h.s13
          s14 := by simpa [upD, eval_put_ne, put_none] using h.s14
          s15 := by simpa [upD, eval_put_ne, put_none] using h.s15
          s16 := by simpa [upD, eval_put_ne, put_none] using h.s16
          s17 := by simpa [upD, eval_put_ne, put_none] using h.s17
          s18 := by simpa [upD, eval_put_ne, put_none] using h.s18
          s19 := by simpa [upD, eval_put_ne, put_none] using h.s19 }
      · -- 11
        intro D a wx K hD hp h hK
        by_cases hG : (!(be && bz)) = true
        rotate_left
        · refine step_no_g rfl rfl (g2_no (h.s10 (hp 10 (by decide))) hG) ?_
          refine hK _ _ {
            fr := h.fr.put (by decide) _
            below := h.below
            s11 := fun _ => (h.fr.eval_put (by rw [hsz]; decide) _).trans (gv_false hG).symm
            s0 := by simpa [upD, eval_put_ne, put_none] using h.s0
            s1 := by simpa [upD, eval_put_ne, put_none] using h.s1
            s2 := by simpa [upD, eval_put_ne, put_none] using h.s2
            s3 := by simpa [upD, eval_put_ne, put_none] using h.s3
            s4 := by simpa [upD, eval_put_ne, put_none] using h.s4
            s5 := by simpa [upD, eval_put_ne, put_none] using h.s5
            s6 := by simpa [upD, eval_put_ne, put_none] using h.s6
            s7 := by simpa [upD, eval_put_ne, put_none] using h.s7
            s8 := by simpa [upD, eval_put_ne, put_none] using h.s8
            s9 := by simpa [upD, eval_put_ne, put_none] using h.s9
            s10 := by simpa [upD, eval_put_ne, put_none] using h.s10
            s12 := by simpa [upD, eval_put_ne, put_none] using h.s12
            s13 := by simpa [upD, eval_put_ne, put_none] using h.s13
            s14 := by simpa [upD, eval_put_ne, put_none] using h.s14
            s15 := by simpa [upD, eval_put_ne, put_none] using h.s15
            s16 := by simpa [upD, eval_put_ne, put_none] using h.s16
            s17 := by simpa [upD, eval_put_ne, put_none] using h.s17
            s18 := by simpa [upD, eval_put_ne, put_none] using h.s18
            s19 := by simpa [upD, eval_put_ne, put_none] using h.s19 }
        refine step_wp_g rfl rfl (g2_yes (h.s10 (hp 10 (by decide))) hG) ?_
        have r11 := (h.fr.eval (j := 11) (by decide)).trans t11
        refine wp_val_at (.pointer (some ⟨X, 0, none⟩)) (by generalize a.eval = ρ at *; go_simp) ?_
        refine hK _ _ {
          fr := h.fr.put (by decide) _
          below := h.below
          s11 := fun _ => (h.fr.eval_put (by rw [hsz]; decide) _).trans (gv_true hG).symm
          s0 := by simpa [upD, eval_put_ne, put_none] using h.s0
          s1 := by simpa [upD, eval_put_ne, put_none] using h.s1
          s2 := by simpa [upD, eval_put_ne, put_none] using h.s2
          s3 := by simpa [upD, eval_put_ne, put_none] using h.s3
          s4 := by simpa [upD, eval_put_ne, put_none] using h.s4
          s5 := by simpa [upD, eval_put_ne, put_none] using h.s5
          s6 := by simpa [upD, eval_put_ne, put_none] using h.s6
          s7 := by simpa [upD, eval_put_ne, put_none] using h.s7
          s8 := by simpa [upD, eval_put_ne, put_none] using h.s8
          s9 := by simpa [upD, eval_put_ne, put_none] using h.s9
          s10 := by simpa [upD, eval_put_ne, put_none] using h.s10
          s12 := by simpa [upD, eval_put_ne, put_none] using h.s12
          s13 := by simpa [upD, eval_put_ne, put_none] using h.s13
          s14 := by simpa [upD, eval_put_ne, put_none] using h.s14
          s15 := by simpa [upD, eval_put_ne, put_none] using h.s15
          s16 := by simpa [upD, eval_put_ne, put_none] using h.s16
          s17 := by simpa [upD, eval_put_ne, put_none] using h.s17
          s18 := by simpa [upD, eval_put_ne, put_none] using h.s18
          s19 := by simpa [upD, eval_put_ne, put_none] using h.s19 }
      · -- 12
        intro D a wx K hD hp h hK
        by_cases hG : (!(be && bz)) = true
        rotate_left
        · refine step_no_g rfl rfl (g2_no (h.s10 (hp 10 (by decide))) hG) ?_
          refine hK _ _ {
            fr := h.fr.put (by decide) _
            below := h.below
            s12 := fun _ => (h.fr.eval_put (by rw [hsz]; decide) _).trans (gv_false hG).symm
            s0 := by simpa [upD, eval_put_ne, put_none] using h.s0
            s1 := by simpa [upD, eval_put_ne, put_none] using h.s1
            s2 := by simpa [upD, eval_put_ne, put_none] using h.s2
            s3 := by simpa [upD, eval_put_ne, put_none] using h.s3
            s4 := by simpa [upD, eval_put_ne, put_none] using h.s4
            s5 := by simpa [upD, eval_put_ne, put_none] using h.s5
            s6 := by simpa [upD, eval_put_ne, put_none] using h.s6
            s7 := by simpa [upD, eval_put_ne, put_none] using h.s7
            s8 := by simpa [upD, eval_put_ne, put_none] using h.s8
            s9 := by simpa [upD, eval_put_ne, put_none] using h.s9
            s10 := by simpa [upD, eval_put_ne, put_none] using h.s10
            s11 := by simpa [upD, eval_put_ne, put_none] using h.s11
            s13 := by simpa [upD, eval_put_ne, put_none] using h.s13
            s14 := by simpa [upD, eval_put_ne, put_none] using h.s14
            s15 := by simpa [upD, eval_put_ne, put_none] using h.s15
            s16 := by simpa [upD, eval_put_ne, put_none] using h.s16
            s17 := by simpa [upD, eval_put_ne, put_none] using h.s17
            s18 := by simpa [upD, eval_put_ne, put_none] using h.s18
            s19 := by simpa [upD, eval_put_ne, put_none] using h.s19 }
        refine step_wp_g rfl rfl (g2_yes (h.s10 (hp 10 (by decide))) hG) ?_
        have q0 := (h.s11 (hp 11 (by decide))).trans (gv_true hG)
        have q1 := (show wx.cell? ⟨X, 0, none⟩ = some (.int .u8 x.kind) from (h.below.cell (p := ⟨X, 0, none⟩) lX).trans (HX.out 0 _ rfl))
        refine wp_val_at (.int .u8 x.kind) (by generalize a.eval = ρ at *; go_simp) ?_
        refine hK _ _ {
          fr := h.fr.put (by decide) _
          below := h.below
          s12 := fun _ => (h.fr.eval_put (by rw [hsz]; decide) _).trans (gv_true hG).symm
          s0 := by simpa [upD, eval_put_ne, put_none] using h.s0
          s1 := by simpa [upD, eval_put_ne, put_none] using h.s1
          s2 := by simpa [upD, eval_put_ne, put_none] using h.s2
          s3 := by simpa [upD, eval_put_ne, put_none] using h.s3
          s4 := by simpa [upD, eval_put_ne, put_none] using h.s4
          s5 := by simpa [upD, eval_put_ne, put_none] using h.s5
          s6 := by simpa [upD, eval_put_ne, put_none] using h.s6
          s7 := by simpa [upD, eval_put_ne, put_none] using h.s7
          s8 := by simpa [upD, eval_put_ne, put_none] using h.s8
          s9 := by simpa [upD, eval_put_ne, put_none] using h.s9
          s10 := by simpa [upD, eval_put_ne, put_none] using h.s10
          s11 := by simpa [upD, eval_put_ne, put_none] using h.s11
          s13 := by simpa [upD, eval_put_ne, put_none] using h.s13
          s14 := by simpa [upD, eval_put_ne, put_none] using h.s14
          s15 := by simpa [upD, eval_put_ne, put_none] using h.s15
          s16 := by simpa [upD, eval_put_ne, put_none] using h.s16
          s17 := by simpa [upD, eval_put_ne, put_none] using h.s17
          s18 := by simpa [upD, eval_put_ne, put_none] using h.s18
          s19 := by simpa [upD, eval_put_ne, put_none] using h.s19 }
      · -- 13
        intro D a wx K hD hp h hK
        by_cases hG : (!(be && bz)) = true
        rotate_left
        · refine step_no_g rfl rfl (g2_no (h.s10 (hp 10 (by decide))) hG) ?_
          refine hK _ _ {
            fr := h.fr.put (by decide) _
            below := h.below
            s13 := fun _ => (h.fr.eval_put (by rw [hsz]; decide) _).trans (gv_false hG).symm
            s0 := by simpa [upD, eval_put_ne, put_none] using h.s0
            s1 := by simpa [upD, eval_put_ne, put_none] using h.s1
            s2 := by simpa [upD, eval_put_ne, put_none] using h.s2
            s3 := by simpa [upD, eval_put_ne, put_none] using h.s3
            s4 := by simpa [upD, eval_put_ne, put_none] using h.s4
            s5 := by simpa [upD, eval_put_ne, put_none] using h.s5
            s6 := by simpa [upD, eval_put_ne, put_none] using h.s6
            s7 := by simpa [upD, eval_put_ne, put_none] using h.s7
            s8 := by simpa [upD, eval_put_ne, put_none] using h.s8
            s9 := by simpa [upD, eval_put_ne, put_none] using h.s9
            s10 := by simpa [upD, eval_put_ne, put_none] using h.s10
            s11 := by simpa [upD, eval_put_ne, put_none] using h.s11
            s12 := by simpa [upD, eval_put_ne, put_none] using h.s12
            s14 := by simpa [upD, eval_put_ne, put_none] using h.s14
            s15 := by simpa [upD, eval_put_ne, put_none] using h.s15
            s16 := by simpa [upD, eval_put_ne, put_none] using h.s16
            s17 := by simpa [upD, eval_put_ne, put_none] using h.s17
            s18 := by simpa [upD, eval_put_ne, put_none] using h.s18
            s19 := by simpa [upD, eval_put_ne, put_none] using h.s19 }
        refine step_wp_g rfl rfl (g2_yes (h.s10 (hp 10 (by decide))) hG) ?_
        have q0 := (h.s12 (hp 12 (by decide))).trans (gv_true hG)
        have q1 := E7.out
        have q2 := (show a.eval (.const (.int .u8 7)) = .int .u8 7 from rfl)
        refine wp_val_at (.bool b7) (by generalize a.eval = ρ at *; go_simp) ?_
        refine hK _ _ {
          fr := h.fr.put (by decide) _
          below := h.below
          s13 := fun _ => (h.fr.eval_put (by rw [hsz]; decide) _).trans (gv_true hG).symm
          s0 := by simpa [upD, eval_put_ne, put_none] using h.s0
          s1 := by simpa [upD, eval_put_ne, put_none] using h.s1
          s2 := by simpa [upD, eval_put_ne, put_none] using h.s2
          s3 := by simpa [upD, eval_put_ne, put_none] using h.s3
          s4 := by simpa [upD, eval_put_ne, put_none] using h.s4
          s5 := by simpa [upD, eval_put_ne, put_none] using h.s5
          s6 := by simpa [upD, eval_put_ne, put_none] using h.s6
          s7 := by simpa [upD, eval_put_ne, put_none] using h.s7
          s8 := by simpa [upD, eval_put_ne, put_none] using h.s8
          s9 := by simpa [upD, eval_put_ne, put_none] using h.s9
          s10 := by simpa [upD, eval_put_ne, put_none] using h.s10
          s11 := by simpa [upD, eval_put_ne, put_none] using h.s11
          s12 := by simpa [upD, eval_put_ne, put_none] using h.s12
          s14 := by simpa [upD, eval_put_ne, put_none] using h.s14
          s15 := by simpa [upD, eval_put_ne, put_none] using h.s15
          s16 := by simpa [upD, eval_put_ne, put_none] using h.s16
          s17 := by simpa [upD, eval_put_ne, put_none] using h.s17
          s18 := by simpa [upD, eval_put_ne, put_none] using h.s18
          s19 := by simpa [upD, eval_put_ne, put_none] using h.s19 }
      · -- 14
        intro D a wx K hD hp h hK
        by_cases hG : (!(be && bz)) = true
        rotate_left
        · refine step_no_g rfl rfl (g2_no (h.s10 (hp 10 (by decide))) hG) ?_
          refine hK _ _ {
            fr := h.fr.put (by decide) _
            below := h.below
            s14 := fun _ => (h.fr.eval_put (by rw [hsz]; decide) _).trans (gv_false hG).symm
            s0 := by simpa [upD, eval_put_ne, put_none] using h.s0
            s1 := by simpa [upD, eval_put_ne, put_none] using h.s1
            s2 := by simpa [upD, eval_put_ne, put_none] using h.s2
            s3 := by simpa [upD, eval_put_ne, put_none] using h.s3
            s4 := by simpa [upD, eval_put_ne, put_none] using h.s4
            s5 := by simpa [upD, eval_put_ne, put_none] using h.s5
            s6 := by simpa [upD, eval_put_ne, put_none] using h.s6
            s7 := by simpa [upD, eval_put_ne, put_none] using h.s7
            s8 := by simpa [upD, eval_put_ne, put_none] using h.s8
            s9 := by simpa [upD, eval_put_ne, put_none] using h.s9
            s10 := by simpa [upD, eval_put_ne, put_none] using h.s10
            s11 := by simpa [upD, eval_put_ne, put_none] using h.s11
            s12 := by simpa [upD, eval_put_ne, put_none] using h.s12
            s13 := by simpa [upD, eval_put_ne, put_none] using h.s13
            s15 := by simpa [upD, eval_put_ne, put_none] using h.s15
            s16 := by simpa [upD, eval_put_ne, put_none] using h.s16
            s17 := by simpa [upD, eval_put_ne, put_none] using h.s17
            s18 := by simpa [upD, eval_put_ne, put_none] using h.s18
            s19 := by simpa [upD, eval_put_ne, put_none] using h.s19 }
        refine step_wp_g rfl rfl (g2_yes (h.s10 (hp 10 (by decide))) hG) ?_
        refine wp_move_at rfl ?_
        rw [(h.s13 (hp 13 (by decide))).trans (gv_true hG)]
        refine hK _ _ {
          fr := h.fr.put (by decide) _
          below := h.below
          s14 := fun _ => (h.fr.eval_put (by rw [hsz]; decide) _).trans (gv_true hG).symm
          s0 := by simpa [upD, eval_put_ne, put_none] using h.s0
          s1 := by simpa [upD, eval_put_ne, put_none] using h.s1
          s2 := by simpa [upD, eval_put_ne, put_none] using h.s2
          s3 := by simpa [upD, eval_put_ne, put_none] using h.s3
          s4 := by simpa [upD, eval_put_ne, put_none] using h.s4
          s5 := by simpa [upD, eval_put_ne, put_none] using h.s5
          s6 := by simpa [upD, eval_put_ne, put_none] using h.s6
          s7 := by simpa [upD, eval_put_ne, put_none] using h.s7
          s8 := by simpa [upD, eval_put_ne, put_none] using h.s8
          s9 := by simpa [upD, eval_put_ne, put_none] using h.s9
          s10 := by simpa [upD, eval_put_ne, put_none] using h.s10
          s11 := by simpa [upD, eval_put_ne, put_none] using h.s11
          s12 := by simpa [upD, eval_put_ne, put_none] using h.s12
          s13 := by simpa [upD, eval_put_ne, put_none] using h.s13
          s15 := by simpa [upD, eval_put_ne, put_none] using h.s15
          s16 := by simpa [upD, eval_put_ne, put_none] using h.s16
          s17 := by simpa [upD, eval_put_ne, put_none] using h.s17
          s18 := by simpa [upD, eval_put_ne, put_none] using h.s18
          s19 := by simpa [upD, eval_put_ne, put_none] using h.s19 }
      · -- 15
        intro D a wx K hD hp h hK
        by_cases hG : (!(be && bz) && b7) = true
        rotate_left
        · refine step_no_g rfl rfl (g3_no (h.s14 (hp 14 (by decide))) hG) ?_
          refine hK _ _ {
            fr := h.fr.put (by decide) _
            below := h.below
            s15 := fun _ => (h.fr.eval_put (by rw [hsz]; decide) _).trans (gv_false hG).symm
            s0 := by simpa [upD, eval_put_ne, put_none] using h.s0
            s1 := by simpa [upD, eval_put_ne, put_none] using h.s1
            s2 := by simpa [upD, eval_put_ne, put_none] using h.s2
            s3 := by simpa [upD, eval_put_ne, put_none] using h.s3
            s4 := by simpa [upD, eval_put_ne, put_none] using h.s4
            s5 := by simpa [upD, eval_put_ne, put_none] using h.s5
            s6 := by simpa [upD, eval_put_ne, put_none] using h.s6
            s7 := by simpa [upD, eval_put_ne, put_none] using h.s7
            s8 := by simpa [upD, eval_put_ne, put_none] using h.s8
            s9 := by simpa [upD, eval_put_ne, put_none] using h.s9
            s10 := by simpa [upD, eval_put_ne, put_none] using h.s10
            s11 := by simpa [upD, eval_put_ne, put_none] using h.s11
            s12 := by simpa [upD, eval_put_ne, put_none] using h.s12
            s13 := by simpa [upD, eval_put_ne, put_none] using h.s13
            s14 := by simpa [upD, eval_put_ne, put_none] using h.s14
            s16 := by simpa [upD, eval_put_ne, put_none] using h.s16
            s17 := by simpa [upD, eval_put_ne, put_none] using h.s17
            s18 := by simpa [upD, eval_put_ne, put_none] using h.s18
            s19 := by simpa [upD, eval_put_ne, put_none] using h.s19 }
        refine step_wp_g rfl rfl (g3_yes (h.s14 (hp 14 (by decide))) hG) ?_
        have r12 := (h.fr.eval (j := 12) (by decide)).trans t12
        refine wp_val_at (.pointer (some ⟨Y, 0, none⟩)) (by generalize a.eval = ρ at *; go_simp) ?_
        refine hK _ _ {
          fr := h.fr.put (by decide) _
          below := h.below
          s15 := fun _ => (h.fr.eval_put (by rw [hsz]; decide) _).trans (gv_true hG).symm
          s0 := by simpa [upD, eval_put_ne, put_none] using h.s0
          s1 := by simpa [upD, eval_put_ne, put_none] using h.s1
          s2 := by simpa [upD, eval_put_ne, put_none] using h.s2
          s3 := by simpa [upD, eval_put_ne, put_none] using h.s3
          s4 := by simpa [upD, eval_put_ne, put_none] using h.s4
          s5 := by simpa [upD, eval_put_ne, put_none] using h.s5
          s6 := by simpa [upD, eval_put_ne, put_none] using h.s6
          s7 := by simpa [upD, eval_put_ne, put_none] using h.s7
          s8 := by simpa [upD, eval_put_ne, put_none] using h.s8
          s9 := by simpa [upD, eval_put_ne, put_none] using h.s9
          s10 := by simpa [upD, eval_put_ne, put_none] using h.s10
          s11 := by simpa [upD, eval_put_ne, put_none] using h.s11
          s12 := by simpa [upD, eval_put_ne, put_none] using h.s12
          s13 := by simpa [upD, eval_put_ne, put_none] using h.s13
          s14 := by simpa [upD, eval_put_ne, put_none] using h.s14
          s16 := by simpa [upD, eval_put_ne, put_none] using h.s16
          s17 := by simpa [upD, eval_put_ne, put_none] using h.s17
          s18 := by simpa [upD, eval_put_ne, put_none] using h.s18
          s19 := by simpa [upD, eval_put_ne, put_none] using h.s19 }
      · -- 16
        intro D a wx K hD hp h hK
        by_cases hG : (!(be && bz) && b7) = true
        rotate_left
        · refine step_no_g rfl rfl (g3_no (h.s14 (hp 14 (by decide))) hG) ?_
          refine hK _ _ {
            fr := h.fr.put (by decide) _
            below := h.below
            s16 := fun _ => (h.fr.eval_put (by rw [hsz]; decide) _).trans (gv_false hG).symm
            s0 := by simpa [upD, eval_put_ne, put_none] using h.s0
            s1 := by simpa [upD, eval_put_ne, put_none] using h.s1
            s2 := by simpa [upD, eval_put_ne, put_none] using h.s2
            s3 := by simpa [upD, eval_put_ne, put_none] using h.s3
            s4 := by simpa [upD, eval_put_ne, put_none] using h.s4
            s5 := by simpa [upD, eval_put_ne, put_none] using h.s5
            s6 := by simpa [upD, eval_put_ne, put_none] using h.s6
            s7 := by simpa [upD, eval_put_ne, put_none] using h.s7
            s8 := by simpa [upD, eval_put_ne, put_none] using h.s8
            s9 := by simpa [upD, eval_put_ne, put_none] using h.s9
            s10 := by simpa [upD, eval_put_ne, put_none] using h.s10
            s11 := by simpa [upD, eval_put_ne, put_none] using h.s11
            s12 := by simpa [upD, eval_put_ne, put_none] using h.s12
            s13 := by simpa [upD, eval_put_ne, put_none] using h.s13
            s14 := by simpa [upD, eval_put_ne, put_none] using h.s14
            s15 := by simpa [upD, eval_put_ne, put_none] using h.s15
            s17 := by simpa [upD, eval_put_ne, put_none] using h.s17
            s18 := by simpa [upD, eval_put_ne, put_none] using h.s18
            s19 := by simpa [upD, eval_put_ne, put_none] using h.s19 }
        refine step_wp_g rfl rfl (g3_yes (h.s14 (hp 14 (by decide))) hG) ?_
        have q0 := (h.s15 (hp 15 (by decide))).trans (gv_true hG)
        have q1 := (show wx.cell? ⟨Y, 0, none⟩ = some (.int .u8 y.kind) from (h.below.cell (p := ⟨Y, 0, none⟩) lY).trans (HY.out 0 _ rfl))
        refine wp_val_at (.int .u8 y.kind) (by generalize a.eval = ρ at *; go_simp) ?_
        refine hK _ _ {
          fr := h.fr.put (by decide) _
          below := h.below
          s16 := fun _ => (h.fr.eval_put (by rw [hsz]; decide) _).trans (gv_true hG).symm
          s0 := by simpa [upD, eval_put_ne, put_none] using h.s0
          s1 := by simpa [upD, eval_put_ne, put_none] using h.s1
          s2 := by simpa [upD, eval_put_ne, put_none] using h.s2
          s3 := by simpa [upD, eval_put_ne, put_none] using h.s3
          s4 := by simpa [upD, eval_put_ne, put_none] using h.s4
          s5 := by simpa [upD, eval_put_ne, put_none] using h.s5
          s6 := by simpa [upD, eval_put_ne, put_none] using h.s6
          s7 := by simpa [upD, eval_put_ne, put_none] using h.s7
          s8 := by simpa [upD, eval_put_ne, put_none] using h.s8
          s9 := by simpa [upD, eval_put_ne, put_none] using h.s9
          s10 := by simpa [upD, eval_put_ne, put_none] using h.s10
          s11 := by simpa [upD, eval_put_ne, put_none] using h.s11
          s12 := by simpa [upD, eval_put_ne, put_none] using h.s12
          s13 := by simpa [upD, eval_put_ne, put_none] using h.s13
          s14 := by simpa [upD, eval_put_ne, put_none] using h.s14
          s15 := by simpa [upD, eval_put_ne, put_none] using h.s15
          s17 := by simpa [upD, eval_put_ne, put_none] using h.s17
          s18 := by simpa [upD, eval_put_ne, put_none] using h.s18
          s19 := by simpa [upD, eval_put_ne, put_none] using h.s19 }
      · -- 17
        intro D a wx K hD hp h hK
        by_cases hG : (!(be && bz) && b7) = true
        rotate_left
        · refine step_no_g rfl rfl (g3_no (h.s14 (hp 14 (by decide))) hG) ?_
          refine hK _ _ {
            fr := h.fr.put (by decide) _
            below := h.below
            s17 := fun _ => (h.fr.eval_put (by rw [hsz]; decide) _).trans (gv_false hG).symm
            s0 := by simpa [upD, eval_put_ne, put_none] using h.s0
            s1 := by simpa [upD, eval_put_ne, put_none] using h.s1
            s2 := by simpa [upD, eval_put_ne, put_none] using h.s2
            s3 := by simpa [upD, eval_put_ne, put_none] using h.s3
            s4 := by simpa [upD, eval_put_ne, put_none] using h.s4
            s5 := by simpa [upD, eval_put_ne, put_none] using h.s5
            s6 := by simpa [upD, eval_put_ne, put_none] using h.s6
            s7 := by simpa [upD, eval_put_ne, put_none] using h.s7
            s8 := by simpa [upD, eval_put_ne, put_none] using h.s8
            s9 := by simpa [upD, eval_put_ne, put_none] using h.s9
            s10 := by simpa [upD, eval_put_ne, put_none] using h.s10
            s11 := by simpa [upD, eval_put_ne, put_none] using h.s11
            s12 := by simpa [upD, eval_put_ne, put_none] using h.s12
            s13 := by simpa [upD, eval_put_ne, put_none] using h.s13
            s14 := by simpa [upD, eval_put_ne, put_none] using h.s14
            s15 := by simpa [upD, eval_put_ne, put_none] using h.s15
            s16 := by simpa [upD, eval_put_ne, put_none] using h.s16
            s18 := by simpa [upD, eval_put_ne, put_none] using h.s18
            s19 := by simpa [upD, eval_put_ne, put_none] using h.s19 }
        refine step_wp_g rfl rfl (g3_yes (h.s14 (hp 14 (by decide))) hG) ?_
        have q0 := (h.s16 (hp 16 (by decide))).trans (gv_true hG)
        have q1 := F7.out
        have q2 := (show a.eval (.const (.int .u8 7)) = .int .u8 7 from rfl)
        refine wp_val_at (.bool c7) (by generalize a.eval = ρ at *; go_simp) ?_
        refine hK _ _ {
          fr := h.fr.put (by decide) _
          below := h.below
          s17 := fun _ => (h.fr.eval_put (by rw [hsz]; decide) _).trans (gv_true hG).symm
          s0 := by simpa [upD, eval_put_ne, put_none] using h.s0
          s1 := by simpa [upD, eval_put_ne, put_none] using h.s1
          s2 := by simpa [upD, eval_put_ne, put_none] using h.s2
          s3 := by simpa [upD, eval_put_ne, put_none] using h.s3
          s4 := by simpa [upD, eval_put_ne, put_none] using h.s4
          s5 := by simpa [upD, eval_put_ne, put_none] using h.s5
          s6 := by simpa [upD, eval_put_ne, put_none] using h.s6
          s7 := by simpa [upD, eval_put_ne, put_none] using h.s7
          s8 := by simpa [upD, eval_put_ne, put_none] using h.s8
          s9 := by simpa [upD, eval_put_ne, put_none] using h.s9
          s10 := by simpa [upD, eval_put_ne, put_none] using h.s10
          s11 := by simpa [upD, eval_put_ne, put_none] using h.s11
          s12 := by simpa [upD, eval_put_ne, put_none] using h.s12
          s13 := by simpa [upD, eval_put_ne, put_none] using h.s13
          s14 := by simpa [upD, eval_put_ne, put_none] using h.s14
          s15 := by simpa [upD, eval_put_ne, put_none] using h.s15
          s16 := by simpa [upD, eval_put_ne, put_none] using h.s16
          s18 := by simpa [upD, eval_put_ne, put_none] using h.s18
          s19 := by simpa [upD, eval_put_ne, put_none] using h.s19 }
      · -- 18
        intro D a wx K hD hp h hK
        by_cases hG : (!(be && bz)) = true
        rotate_left
        · refine step_no_g rfl rfl (g2_no (h.s10 (hp 10 (by decide))) hG) ?_
          refine hK _ _ {
            fr := h.fr.put (by decide) _
            below := h.below
            s18 := fun _ => (h.fr.eval_put (by rw [hsz]; decide) _).trans (gv_false hG).symm
            s0 := by simpa [upD, eval_put_ne, put_none] using h.s0
            s1 := by simpa [upD, eval_put_ne, put_none] using h.s1
            s2 := by simpa [upD, eval_put_ne, put_none] using h.s2
            s3 := by simpa [upD, eval_put_ne, put_none] using h.s3
            s4 := by simpa [upD, eval_put_ne, put_none] using h.s4
            s5 := by simpa [upD, eval_put_ne, put_none] using h.s5
            s6 := by simpa [upD, eval_put_ne, put_none] using h.s6
            s7 := by simpa [upD, eval_put_ne, put_none] using h.s7
            s8 := by simpa [upD, eval_put_ne, put_none] using h.s8
            s9 := by simpa [upD, eval_put_ne, put_none] using h.s9
            s10 := by simpa [upD, eval_put_ne, put_none] using h.s10
            s11 := by simpa [upD, eval_put_ne, put_none] using h.s11
            s12 := by simpa [upD, eval_put_ne, put_none] using h.s12
            s13 := by simpa [upD, eval_put_ne, put_none] using h.s13
            s14 := by simpa [upD, eval_put_ne, put_none] using h.s14
            s15 := by simpa [upD, eval_put_ne, put_none] using h.s15
            s16 := by simpa [upD, eval_put_ne, put_none] using h.s16
            s17 := by simpa [upD, eval_put_ne, put_none] using h.s17
            s19 := by simpa [upD, eval_put_ne, put_none] using h.s19 }
        refine step_wp_g rfl rfl (g2_yes (h.s10 (hp 10 (by decide))) hG) ?_
        have q0 := (h.s14 (hp 14 (by decide))).trans (gv_true hG)
        have q2 := (fun e' => (h.s17 (hp 17 (by decide))).trans (gv_true (by rw [hG, e']; rfl)) : b7 = true → a.eval (.tmp 95) = .bool c7)
        have qk : a.eval (.const (.bool false)) = .bool false := rfl
        refine wp_val_at (.bool (b7 && c7)) (by
          cases hx : (b7) with
          | true =>
            have q3 := q2 hx
            rw [hx] at q0
            clear q2
            generalize a.eval = ρ at *
            go_simp
          | false =>
            rw [hx] at q0
            clear q2
            generalize a.eval = ρ at *
            go_simp) ?_
        refine hK _ _ {
          fr := h.fr.put (by decide) _
          below := h.below
          s18 := fun _ => (h.fr.eval_put (by rw [hsz]; decide) _).trans (gv_true hG).symm
          s0 := by simpa [upD, eval_put_ne, put_none] using h.s0
          s1 := by simpa [upD, eval_put_ne, put_none] using h.s1
          s2 := by simpa [upD, eval_put_ne, put_none] using h.s2
          s3 := by simpa [upD, eval_put_ne, put_none] using h.s3
          s4 := by simpa [upD, eval_put_ne, put_none] using h.s4
          s5 := by simpa [upD, eval_put_ne, put_none] using h.s5
          s6 := by simpa [upD, eval_put_ne, put_none] using h.s6
          s7 := by simpa [upD, eval_put_ne, put_none] using h.s7
          s8 := by simpa [upD, eval_put_ne, put_none] using h.s8
          s9 := by simpa [upD, eval_put_ne, put_none] using h.s9
          s10 := by simpa [upD, eval_put_ne, put_none] using h.s10
          s11 := by simpa [upD, eval_put_ne, put_none] using h.s11
          s12 := by simpa [upD, eval_put_ne, put_none] using h.s12
          s13 := by simpa [upD, eval_put_ne, put_none] using h.s13
          s14 := by simpa [upD, eval_put_ne, put_none] using h.s14
          s15 := by simpa [upD, eval_put_ne, put_none] using h.s15
          s16 := by simpa [upD, eval_put_ne, put_none] using h.s16
          s17 := by simpa [upD, eval_put_ne, put_none] using h.s17
          s19 := by simpa [upD, eval_put_ne, put_none] using h.s19 }
      · -- 19
        intro D a wx K hD hp h hK
        refine step_wp rfl ?_
        have q0 := (h.s10 (hp 10 (by decide)))
        have q2 := (fun e' => (h.s18 (hp 18 (by decide))).trans (gv_true (by rw [e']; rfl)) : (be && bz) = false → a.eval (.tmp 96) = .bool (b7 && c7))
        have qk : a.eval (.const (.bool true)) = .bool true := rfl
        refine wp_val_at (.bool ((be && bz) || (b7 && c7))) (by
          cases hx : (be && bz) with
          | true =>
            rw [hx] at q0
            clear q2
            generalize a.eval = ρ at *
            go_simp
          | false =>
            have q3 := q2 hx
            rw [hx] at q0
            clear q2
            generalize a.eval = ρ at *
            go_simp) ?_
        refine hK _ _ {
          fr := h.fr.put (by decide) _
          below := h.below
          s19 := fun _ => h.fr.eval_put (by rw [hsz]; decide) _
          s0 := by simpa [upD, eval_put_ne, put_none] using h.s0
          s1 := by simpa [upD, eval_put_ne, put_none] using h.s1
          s2 := by simpa [upD, eval_put_ne, put_none] using h.s2
          s3 := by simpa [upD, eval_put_ne, put_none] using h.s3
          s4 := by simpa [upD, eval_put_ne, put_none] using h.s4
          s5 := by simpa [upD, eval_put_ne, put_none] using h.s5
          s6 := by simpa [upD, eval_put_ne, put_none] using h.s6
          s7 := by simpa [upD, eval_put_ne, put_none] using h.s7
          s8 := by simpa [upD, eval_put_ne, put_none] using h.s8
          s9 := by simpa [upD, eval_put_ne, put_none] using h.s9
          s10 := by simpa [upD, eval_put_ne, put_none] using h.s10
          s11 := by simpa [upD, eval_put_ne, put_none] using h.s11
          s12 := by simpa [upD, eval_put_ne, put_none] using h.s12
          s13 := by simpa [upD, eval_put_ne, put_none] using h.s13
          s14 := by simpa [upD, eval_put_ne, put_none] using h.s14
          s15 := by simpa [upD, eval_put_ne, put_none] using h.s15
          s16 := by simpa [upD, eval_put_ne, put_none] using h.s16
          s17 := by simpa [upD, eval_put_ne, put_none] using h.s17
          s18 := by simpa [upD, eval_put_ne, put_none] using h.s18 }

    case done =>
      intro D a wd hall h
      have hd : ∀ i, i < 20 → D i = true := hall
      have hfin := ((((((((((((((((((((h.fr.shut (by rw [hsz]; decide)).shut (by simp [Act.put, hsz])).shut (by simp [Act.put, hsz])).shut (by simp [Act.put, hsz])).shut (by simp [Act.put, hsz])).shut (by simp [Act.put, hsz])).shut (by simp [Act.put, hsz])).shut (by simp [Act.put, hsz])).shut (by simp [Act.put, hsz])).shut (by simp [Act.put, hsz])).shut (by simp [Act.put, hsz])).shut (by simp [Act.put, hsz])).shut (by simp [Act.put, hsz])).shut (by simp [Act.put, hsz])).shut (by simp [Act.put, hsz])).shut (by simp [Act.put, hsz])).shut (by simp [Act.put, hsz])).shut (by simp [Act.put, hsz])).shut (by simp [Act.put, hsz])).shut (by simp [Act.put, hsz])).done
      rw [h.s0 (hd 0 (by decide)), h.s1 (hd 1 (by decide)), h.s2 (hd 2 (by decide)), h.s3 (hd 3 (by decide)), h.s4 (hd 4 (by decide)), h.s5 (hd 5 (by decide)), h.s6 (hd 6 (by decide)), h.s7 (hd 7 (by decide)), h.s8 (hd 8 (by decide)), h.s9 (hd 9 (by decide)), h.s10 (hd 10 (by decide)), h.s11 (hd 11 (by decide)), h.s12 (hd 12 (by decide)), h.s13 (hd 13 (by decide)), h.s14 (hd 14 (by decide)), h.s15 (hd 15 (by decide)), h.s16 (hd 16 (by decide)), h.s17 (hd 17 (by decide)), h.s18 (hd 18 (by decide)), h.s19 (hd 19 (by decide))] at hfin
      have H8 := Lib.hid (H7.out.2.below h.below)
      rw [hfin, HA0.out]
      clear hfin HA0 h hall hd t11 t12 hsz lX lY HX HY TX TY H7
      simp only [Act.put, List.setIfInBounds_toArray, List.set_cons_zero, List.set_cons_succ]
      by_cases hend : ((be && bz) || (b7 && c7)) = true
      · rw [hend]
        have HF := Lib.hid H8.out.bel
        clear hend
        go_wp2
        go_ret
        exact ⟨rfl, HF.out⟩
      rw [Bool.not_eq_true] at hend
      rw [hend]
      have hoff : Off x y := aside_off HK.out.1 HST.out.1 HST.out.2 (fun ⟨q1, q2⟩ => by
        have z1 : be = true := by rw [← EE.out]; simpa using q1
        have z2 : bz = true := by rw [← EZ.out]; simpa using q2
        rw [z1, z2] at hend; cases hend) (fun ⟨q1, q2⟩ => by
        have z1 : b7 = true := by rw [← E7.out]; simpa using q1
        have z2 : c7 = true := by rw [← F7.out]; simpa using q2
        rw [z1, z2, Bool.and_self, Bool.or_true] at hend; cases hend)
      have hcm := comm HK.out.1 HS1.out.1.ok HNE.out HST.out.1 HST.out.2 hoff HCA.out HCB.out
      have hbA := (bar_aside HK.out.1 HS1.out.1.ok HNE.out HST.out.1 HST.out.2 hoff HCA.out).trans HCB.out
      have hbB := (bar_aside HK.out.1 HS1.out.1.ok (fun e => HNE.out e.symm) HST.out.2 HST.out.1 hoff.symm HCB.out).trans HCA.out
      have sA := HS1.out.1.step HK.out.1 HK.out.2.1 (ta : Int)
      have sB := HS1.out.1.step HK.out.1 HK.out.2.1 (tb : Int)
      have pA := HS1.out.2.1.step HK.out.1 HK.out.2.1 HS1.out.1 (ta : Int)
      have nA := step_prints HS1.out.1.ok (ta : Int)
      have nB := step_prints HS1.out.1.ok (tb : Int)
      have sAB := sA.step HK.out.1 HK.out.2.1 (tb : Int)
      have pAB := pA.step HK.out.1 HK.out.2.1 sA (tb : Int)
      have nAB := step_prints sA.ok (tb : Int)
      have HM := Lib.hid (And.intro hcm (And.intro hbA (And.intro hbB (And.intro sA (And.intro sB (And.intro nA (And.intro nB (And.intro sAB (And.intro pAB nAB)))))))))
      have HC8 := Lib.hid (copyS_calls H8.out.a H8.out.r HS1.out.1.ok HK.out.1 HK.out.2.2.1 (by have := HS1.out.2.2; omega))
      clear hend hoff hcm hbA hbB sA sB pA nA nB sAB pAB nAB EE EZ E7 F7
      go_wp2_with fail
      refine HC8.out.mono ?_
      rintro e w9 ⟨g', L2, R2, rfl, hM9, hR9, hmu9, hb9⟩
      have hT9 := TwoM.start H8.out.a H8.out.mu H8.out.r H8.out.bel hM9 hR9 hmu9 hb9
      have hstep := step_calls (ta : Int) hT9.a HS1.out.1.ok HS1.out.1.mi HK.out.1 HK.out.2.1 (by have := HS1.out.2.2; omega) hT9.r1
      rw [HCA.out] at hstep
      obtain ⟨d1, hd1⟩ : ∃ d, stepD u m1 (ta : Int) = d := ⟨_, rfl⟩
      rw [hd1, stepD_cells] at hstep
      have HC9 := Lib.hid hstep
      have H9 := Lib.hid hT9
      clear hM9 hR9 hmu9 hb9 hT9 hstep hd1 HC8 H8
      go_wp2_with fail
      refine HC9.out.mono ?_
      rintro e w10 ⟨rfl, hm10⟩
      obtain ⟨pv1, k1, -, -⟩ := H9.out.made hm10
      have hT10 := k1.below (Below_alloc' w10 (.cells #[.int .i64 d1.thread, .int .i64 d1.node, .int .u8 d1.kind, .int .i64 d1.thing, .int .i64 d1.word, .int .i64 d1.put] 55))
      have hstep := step_calls (tb : Int) hT10.a HM.out.2.2.2.1.ok HM.out.2.2.2.1.mi HK.out.1 HK.out.2.1 (by have h1 := HS1.out.2.2; have h2 := HM.out.2.2.2.2.2.1; omega) hT10.r1
      rw [HM.out.2.1] at hstep
      obtain ⟨d2, hd2⟩ : ∃ d, stepD u (stepM u m1 (ta : Int)) (tb : Int) = d := ⟨_, rfl⟩
      rw [hd2, stepD_cells] at hstep
      have HC10 := Lib.hid hstep
      have H10 := Lib.hid hT10
      clear hm10 k1 hT10 hstep hd2 HC9 H9
      go_wp2_with fail
      refine HC10.out.mono ?_
      rintro e w11 ⟨rfl, hm11⟩
      obtain ⟨pv2, k1, -, -⟩ := H10.out.made hm11
      have hT11 := (k1.below (Below_alloc' w11 (.cells #[.int .i64 d2.thread, .int .i64 d2.node, .int .u8 d2.kind, .int .i64 d2.thing, .int .i64 d2.word, .int .i64 d2.put] 55))).swap
      have hstep := step_calls (tb : Int) hT11.a HS1.out.1.ok HS1.out.1.mi HK.out.1 HK.out.2.1 (by have := HS1.out.2.2; omega) hT11.r1
      rw [HCB.out] at hstep
      obtain ⟨d3, hd3⟩ : ∃ d, stepD u m1 (tb : Int) = d := ⟨_, rfl⟩
      rw [hd3, stepD_cells] at hstep
      have HC11 := Lib.hid hstep
      have H11 := Lib.hid hT11
      clear hm11 k1 hT11 hstep hd3 HC10 H10
      go_wp2_with fail
      refine HC11.out.mono ?_
      rintro e w12 ⟨rfl, hm12⟩
      obtain ⟨pv3, k1, -, -⟩ := H11.out.made hm12
      have hT12 := k1.below (Below_alloc' w12 (.cells #[.int .i64 d3.thread, .int .i64 d3.node, .int .u8 d3.kind, .int .i64 d3.thing, .int .i64 d3.word, .int .i64 d3.put] 55))
      have hstep := step_calls (ta : Int) hT12.a HM.out.2.2.2.2.1.ok HM.out.2.2.2.2.1.mi HK.out.1 HK.out.2.1 (by have h1 := HS1.out.2.2; have h2 := HM.out.2.2.2.2.2.2.1; omega) hT12.r1
      rw [HM.out.2.2.1, ← HM.out.1] at hstep
      obtain ⟨d4, hd4⟩ : ∃ d, stepD u (stepM u m1 (tb : Int)) (ta : Int) = d := ⟨_, rfl⟩
      rw [hd4, stepD_cells] at hstep
      have HC12 := Lib.hid hstep
      have H12 := Lib.hid hT12
      clear hm12 k1 hT12 hstep hd4 HC11 H11
      go_wp2_with fail
      refine HC12.out.mono ?_
      rintro e w13 ⟨rfl, hm13⟩
      obtain ⟨pv4, k1, -, -⟩ := H12.out.made hm13
      have hT13 := (k1.below (Below_alloc' w13 (.cells #[.int .i64 d4.thread, .int .i64 d4.node, .int .u8 d4.kind, .int .i64 d4.thing, .int .i64 d4.word, .int .i64 d4.put] 55))).swap
      obtain ⟨S, hS⟩ : ∃ S : ByteArray, ⟨(keyL (stepM u (stepM u m1 (ta : Int)) (tb : Int))).toArray⟩ = S := ⟨_, rfl⟩
      have hkey := fun (wr : World) (R : Nat → Prop) (g : Nat) (L : Lay) (h : MachB wr R g L u (stepM u (stepM u m1 (ta : Int)) (tb : Int))) => key_calls h HM.out.2.2.2.2.2.2.2.1 HM.out.2.2.2.2.2.2.2.2.1 HK.out.1 HK.out.2.2.1 (by have h1 := HS1.out.2.2; have h2 := HM.out.2.2.2.2.2.1; have h3 := HM.out.2.2.2.2.2.2.2.2.2; omega)
      rw [hS] at hkey
      have HKEY := Lib.hid hkey
      have HC13 := Lib.hid (hkey _ _ _ _ hT13.a)
      have H13 := Lib.hid hT13
      clear hm13 k1 hT13 hS hkey HC12 H12
      go_wp2_with fail
      refine HC13.out.mono ?_
      rintro e w14 ⟨rfl, hb14⟩
      have H14 := Lib.hid (H13.out.below hb14)
      clear hb14 HC13 H13
      go_wp2_with fail
      refine (HKEY.out _ _ _ _ H14.out.b).mono ?_
      rintro e w15 ⟨rfl, hb15⟩
      have HF := Lib.hid (H14.out.bel.trans (hb15.mono H14.out.bel.size))
      clear hb15
      go_wp2
      go_ret
      exact ⟨rfl, HF.out⟩
theorem sourceAside_calls (w : World) (cs : List Value) (u : Unit_) (A : Option Addr) (c : Nat) (l : List Int) (a b : Int) (hu : UnitV (cmap w) cs u) (hok : UOk u) (hso : SOk u) (hv : Ints (cmap w) (.slice A l.length c) l) (_hi : ∀ x ∈ l, i64 x) (hl : l.length ≤ 1048576) :
    Calls Try.prog 6 #[.agg cs.toArray, .slice A l.length c, .int .i64 a, .int .i64 b] w fun e w' => e = .returned (.bool true) ∧ Below w.heap.size w w' := by
  by_cases hc : checkF u = none
  · exact aside_good u cs A c l a b w hu hok hso hv hl hc
  · exact aside_bad u cs _ a b w hu hok hc
end Go.Proofs.Ytkkmkjjbffpgnaa
