/- SharingAtOnce: where two threads can step at one time on one variable, and one would write it, that pair is a race. Proved where the arguments are of bulk at most 1048576. -/
import Derived.Test.YtkkmkjjbffpgnaaP76
import Derived.Test.YtkkmkjjbffpgnaaP79
import Derived.Test.YtkkmkjjbffpgnaaP59
import Derived.Test.YtkkmkjjbffpgnaaP43
import Derived.Test.YtkkmkjjbffpgnaaP40
import Derived.Test.YtkkmkjjbffpgnaaP52
import Derived.Test.YtkkmkjjbffpgnaaP74
/- The walk of the law SharingAtOnce. -/
namespace Go.Proofs.Ytkkmkjjbffpgnaa
open Go Go.RowKit
set_option maxRecDepth 100000 in
set_option maxHeartbeats 1000000 in
/-- '==' of two pairs. -/
theorem eq_pairs (a b c d a' b' c' d' : Int) (r : Bool) (h : r = decide (a = a' ∧ b = b' ∧ c = c' ∧ d = d')) (w : World) : (Op.equalIn 10000 46 (.agg #[.int .i64 a, .int .i64 b, .int .i64 c, .int .i64 d]) (.agg #[.int .i64 a', .int .i64 b', .int .i64 c', .int .i64 d'])).run Try.prog w = .ok r w := by
  have hS : Try.prog.underlying 46 = some (.struct (Try.prog.fieldsOf 46)) := by kernel_rfl
  have hp : Try.prog.stoodInHeld 46 = false := by kernel_rfl
  rw [show (10000 : Nat) = 9999 + 1 from rfl, run_equalIn_agg w 9999 46 _ _ hS hp]
  simp only [Program.fieldsOf, Try.underlying46]
  have H := Lib.hid h
  clear h hS hp
  by_cases h1 : a = a'
  · by_cases h2 : b = b'
    · by_cases h3 : c = c'
      · by_cases h4 : d = d'
        · have hr : r = true := by rw [H.out]; exact decide_eq_true ⟨h1, h2, h3, h4⟩
          subst h1 h2 h3 h4 hr
          go_simp
        · have hr : r = false := by rw [H.out]; exact decide_eq_false fun e => h4 e.2.2.2
          have e4 : (d == d') = false := by simp [h4]
          subst h1 h2 h3 hr
          go_simp
      · have hr : r = false := by rw [H.out]; exact decide_eq_false fun e => h3 e.2.2.1
        have e4 : (c == c') = false := by simp [h3]
        subst h1 h2 hr
        go_simp
    · have hr : r = false := by rw [H.out]; exact decide_eq_false fun e => h2 e.2.1
      have e4 : (b == b') = false := by simp [h2]
      subst h1 hr
      go_simp
  · have hr : r = false := by rw [H.out]; exact decide_eq_false fun e => h1 e.1
    have e4 : (a == a') = false := by simp [h1]
    subst hr
    go_simp
/-- After k threads of the schedule. -/
structure OnceAt (w w4 wr : World) (R : Nat → Prop) (g : Nat) (L : Lay) (u : Unit_) (Z : Nat → Prop) (k : Nat) (m : Mach) : Prop where
  at_ : MAz w wr R g L u Z m
  situ : Situ u m
  pr : m.prints.length ≤ k
  kz : (on w4 Z).le (on wr Z)
theorem OnceAt.below {w w4 wr wx : World} {R Z : Nat → Prop} {g : Nat} {L : Lay} {u : Unit_} {k : Nat} {m : Mach} (h : OnceAt w w4 wr R g L u Z k m) (hx : Below wr.heap.size wr wx) : OnceAt w w4 wx R g L u Z k m := ⟨h.at_.below hx, h.situ, h.pr, h.kz.trans ((FrW.of_below (fun _ => False) hx).on fun _ _ => id)⟩
theorem OnceAt.drewN {w w4 wr : World} {R Z : Nat → Prop} {g : Nat} {L : Lay} {u : Unit_} {k : Nat} {m : Mach} (h : OnceAt w w4 wr R g L u Z k m) (q : Nat) : OnceAt w w4 (wr.drewN q) R g L u Z k m := h.below (Below_drewN wr q)
theorem two_below {W0 wz wx : World} {X Y T : Nat} {a b : List Value} (h : (Blk wz X T a ∧ Blk wz Y T b) ∧ Below W0.heap.size W0 wz) (hb : Below wz.heap.size wz wx) : (Blk wx X T a ∧ Blk wx Y T b) ∧ Below W0.heap.size W0 wx := ⟨⟨h.1.1.below hb h.1.1.lt, h.1.2.below hb h.1.2.lt⟩, h.2.trans (hb.mono h.2.size)⟩
theorem MAz.startX {w wr w0 w1 : World} {R : Nat → Prop} {g : Nat} {L : Lay} {u : Unit_} {m : Mach} (hw : Below w.heap.size w w0) (h0 : w.heap.size < w0.heap.size) (hM : MachB w1 R g L u m) (hR : ∀ q, R q → w0.heap.size ≤ q ∧ q < w1.heap.size) (hmu : ∀ q, L.mut g q → w0.heap.size ≤ q) (hb : Below w0.heap.size w0 w1) (hx : Below w1.heap.size w1 wr) : MAz w wr R g L u (fun q => q = w.heap.size ∨ (w1.heap.size ≤ q ∧ q < wr.heap.size)) m :=
  ⟨⟨L.pv, hM.below hx, fun q hq => ⟨Nat.le_trans hw.size (hmu q hq), fun e => by
    rcases e with e | e
    · have := hmu q hq; omega
    · have := hM.lt hq; omega⟩⟩, fun q hq => Nat.lt_of_lt_of_le (hR q hq).2 hx.size, (hw.trans (hb.mono hw.size)).trans (hx.mono (Nat.le_trans hw.size hb.size)), fun q hq => by
    rcases hq with e | e
    · have := hb.size; have := hx.size; omega
    · exact e.2⟩
theorem can_yes {u : Unit_} {m : Mach} (hs : Situ u m) {a : Nat} (h : barF u m (a : Nat) = 0) : ∃ g i n, Stands u m a g i n ∧ m.where_ a = i := by
  obtain ⟨k, hk, hl⟩ := bar_out hs.ok (t := (a : Int)) (by rw [h]; decide)
  obtain rfl : a = k := by omega
  obtain ⟨g, i, n, hst⟩ := stands_at hs.ok hl
  refine ⟨g, i, n, hst, ?_⟩
  unfold Mach.where_
  have := (List.getElem?_eq_some_iff.1 hst.pc).1
  rw [if_pos (by omega), Int.toNat_natCast, hst.pc]; rfl
/-- What holds while a region's operations come up, D being those that have. -/
structure AoJ (W0 : World) (bx gb go_ N gc ta tb ia ib nbP noP naP ncP nbQ noQ naQ ncQ : Nat) (n1 n2 : Node) (a0 : Act) (D : Nat → Bool) (a : Act) (w : World) : Prop where
  fr : Fr [14, 15, 93, 94, 95, 96, 97, 98, 99, 100, 101, 102, 103, 104, 105, 106, 107, 108, 109, 110] a0 a
  below : Below W0.heap.size W0 w
  s0 : D 0 = true → a.eval (.tmp 93) = .pointer (some ⟨bx, 2, none⟩)
  s1 : D 1 = true → a.eval (.tmp 94) = .slice (some ⟨gb, go_, none⟩) N gc
  s2 : D 2 = true → a.eval (.tmp 95) = .int .i64 (ta : Int)
  s3 : D 3 = true → a.eval (.tmp 96) = .pointer (some ⟨gb, go_ + ta * 4, none⟩)
  s4 : D 4 = true → a.eval (.tmp 97) = .pointer (some ⟨gb, go_ + ta * 4 + 3, none⟩)
  s5 : D 5 = true → a.eval (.tmp 98) = .slice (some ⟨nbP, noP, none⟩) naP ncP
  s6 : D 6 = true → a.eval (.tmp 99) = .int .i64 (ia : Int)
  s7 : D 7 = true → a.eval (.tmp 100) = .pointer (some ⟨nbP, noP + ia * 13, none⟩)
  s8 : D 8 = true → a.eval (.tmp 101) = .agg n1.cells.toArray
  s9 : D 9 = true → a.eval (.tmp 102) = .pointer (some ⟨bx, 2, none⟩)
  s10 : D 10 = true → a.eval (.tmp 103) = .slice (some ⟨gb, go_, none⟩) N gc
  s11 : D 11 = true → a.eval (.tmp 104) = .int .i64 (tb : Int)
  s12 : D 12 = true → a.eval (.tmp 105) = .pointer (some ⟨gb, go_ + tb * 4, none⟩)
  s13 : D 13 = true → a.eval (.tmp 106) = .pointer (some ⟨gb, go_ + tb * 4 + 3, none⟩)
  s14 : D 14 = true → a.eval (.tmp 107) = .slice (some ⟨nbQ, noQ, none⟩) naQ ncQ
  s15 : D 15 = true → a.eval (.tmp 108) = .int .i64 (ib : Int)
  s16 : D 16 = true → a.eval (.tmp 109) = .pointer (some ⟨nbQ, noQ + ib * 13, none⟩)
  s17 : D 17 = true → a.eval (.tmp 110) = .agg n2.cells.toArray
  s18 : D 18 = true → ∃ X cs, a.eval (.tmp 14) = .pointer (some ⟨X, 0, none⟩) ∧ W0.heap.size ≤ X ∧ Blk w X 67 cs ∧ cs.length = 13 ∧ (D 20 = true → a.eval (.tmp 101) = .agg cs.toArray)
  s19 : D 19 = true → ∃ X cs, a.eval (.tmp 15) = .pointer (some ⟨X, 0, none⟩) ∧ W0.heap.size ≤ X ∧ Blk w X 67 cs ∧ cs.length = 13 ∧ (D 21 = true → a.eval (.tmp 110) = .agg cs.toArray)
  ne18_19 : D 18 = true → D 19 = true → a.eval (.tmp 14) ≠ a.eval (.tmp 15)
  o20 : D 20 = true → D 8 = true ∧ D 18 = true
  o21 : D 21 = true → D 17 = true ∧ D 19 = true
theorem AoJ.keep {W0 : World} {bx gb go_ N gc ta tb ia ib nbP noP naP ncP nbQ noQ naQ ncQ : Nat} {n1 n2 : Node} {a0 : Act} {D : Nat → Bool} {a : Act} {w w' : World} (h : AoJ W0 bx gb go_ N gc ta tb ia ib nbP noP naP ncP nbQ noQ naQ ncQ n1 n2 a0 D a w) (hb : Below w.heap.size w w') : AoJ W0 bx gb go_ N gc ta tb ia ib nbP noP naP ncP nbQ noQ naQ ncQ n1 n2 a0 D a w' where
  fr := h.fr
  below := h.below.trans (hb.mono h.below.size)
  s0 := h.s0
  s1 := h.s1
  s2 := h.s2
  s3 := h.s3
  s4 := h.s4
  s5 := h.s5
  s6 := h.s6
  s7 := h.s7
  s8 := h.s8
  s9 := h.s9
  s10 := h.s10
  s11 := h.s11
  s12 := h.s12
  s13 := h.s13
  s14 := h.s14
  s15 := h.s15
  s16 := h.s16
  s17 := h.s17
  s18 := fun hd => by obtain ⟨X, cs, e, e1, e2, e3⟩ := h.s18 hd; exact ⟨X, cs, e, e1, e2.below hb e2.lt, e3⟩
  s19 := fun hd => by obtain ⟨X, cs, e, e1, e2, e3⟩ := h.s19 hd; exact ⟨X, cs, e, e1, e2.below hb e2.lt, e3⟩
  ne18_19 := h.ne18_19
  o20 := h.o20
  o21 := h.o21
set_option maxRecDepth 100000 in
set_option maxHeartbeats 16000000 in
theorem once_good (u : Unit_) (cs : List Value) (A : Option Addr) (c : Nat) (l : List Int) (w : World) (hu : UnitV (cmap w) cs u) (hok : UOk u) (hso : SOk u) (hv : Ints (cmap w) (.slice A l.length c) l) (hl : l.length ≤ 1048576) (hc : checkF u = none) :
    Calls Try.prog 8 #[.agg cs.toArray, .slice A l.length c] w fun e w' => e = .returned (.bool true) ∧ Below w.heap.size w w' := by
  have hru := checkF_none hc
  have hst := start_situ hc hso
  have hu0 := hu
  obtain ⟨su, lu, gu, rfl, -, -, hgr⟩ := hu0
  obtain ⟨gA, gc, rfl, -, -, -⟩ := id hgr
  have nG := hru.threads
  have HU := Lib.hid (And.intro hu (And.intro hok (And.intro hc hgr)))
  have HK := Lib.hid (And.intro hru (And.intro hok (And.intro hst hv)))
  have HL : ∀ wr, Blk wr w.heap.size 25 [su, lu, .slice gA u.graphs.length gc] → Hid (∀ j v, ([su, lu, .slice gA u.graphs.length gc] : List Value)[j]? = some v → wr.cell? ⟨w.heap.size, 0 + j, none⟩ = some v) := fun wr h => Lib.hid fun j v hj => by rw [Nat.zero_add, h.cell]; exact hj
  have HLL := Lib.hid HL
  have hB0 := Below_alloc' w (.cells #[su, lu, .slice gA u.graphs.length gc] 25)
  have hx0 := Blk.new w 25 [su, lu, .slice gA u.graphs.length gc]
  have HLD := HL _ hx0
  clear hu hok hc HL hru hst hso hv hgr
  go_enter Try.func8, Try.ntmps8
  go_wp2_with (first
    | (refine wpList_load_at rfl 25 _ rfl w.heap.size 0 rfl _ _ HLD.out Try.underlying25 rfl (by kernel_rfl) ?_))
  refine (new_good u _ _ (HU.out.1.mono (cmap_below hB0)) HU.out.2.1 HU.out.2.2.1).mono ?_
  rintro e w1 ⟨g, L, R, rfl, hM, hR, hmu, hb1⟩
  have hS1 := fun wr (h : Below w1.heap.size w1 wr) => MAz.startX hB0 hx0.lt hM hR hmu hb1 h
  have hbel1 : Below w.heap.size w w1 := hB0.trans (hb1.mono hB0.size)
  have hx1 := hx0.below hb1 hx0.lt
  have HLD1 := HLL.out _ hx1
  have HA := Lib.hid (And.intro hS1 hbel1)
  clear hb1 hx0 HLD hM hR hmu hS1 hbel1
  go_wp2_with (first
    | (refine wpList_load_at rfl 25 _ rfl w.heap.size 0 rfl _ _ HLD1.out Try.underlying25 rfl (by kernel_rfl) ?_))
  refine (races_calls u _ _ (HU.out.1.mono (cmap_below HA.out.2)) HU.out.2.1).mono ?_
  rintro e w2 (⟨-, hlen, v, rfl, hrc, hb2⟩ | ⟨kk, hkk, rfl, hb2⟩)
  rotate_left
  · have hk3 : kk = 3 := by
      rcases hkk with ⟨-, h⟩ | ⟨h, -⟩
      · exact absurd HU.out.2.2.1 h
      · exact h
    subst hk3
    have hb12 := HA.out.2.trans (hb2.mono HA.out.2.size)
    have HB2 := Lib.hid hb12
    clear hb12 hb2 hkk hx1 HLD1
    go_wp2_with fail
    refine (lives9_calls _).mono ?_
    rintro e w3 ⟨rfl, hb3⟩
    have HF := Lib.hid (HB2.out.trans (hb3.mono HB2.out.size))
    clear hb3
    go_wp2
    go_ret
    exact ⟨rfl, HF.out⟩
  have hrq := race_sl HK.out.1 hrc
  obtain ⟨QL, hQL⟩ : ∃ QL, rquads u = QL := ⟨_, rfl⟩
  have hql : QL.length ≤ 65536 := by rw [← hQL, ← race_quads HK.out.1, List.length_map]; exact hlen
  rw [hQL] at hrq
  obtain ⟨qA, qc, rfl, -⟩ := id hrq
  have HQL := Lib.hid hQL
  have hx2 := hx1.below hb2 hx1.lt
  have HT2 := Lib.hid (And.intro hrq hb2)
  clear hb2 hx1 HLD1 hrq hrc hlen hQL
  go_wp2_with fail
  refine (lives9_calls _).mono ?_
  rintro e w4 ⟨rfl, hb4⟩
  have hx4 := hx2.below hb4 hx2.lt
  have h12 := HT2.out.2
  have h14 : Below w1.heap.size w1 w4 := h12.trans (hb4.mono h12.size)
  have hT0 : OnceAt w w4 w4 R g L u (fun q => q = w.heap.size ∨ (w1.heap.size ≤ q ∧ q < w4.heap.size)) 0 (startM u) := ⟨HA.out.1 w4 h14, HK.out.2.2.1, by simp [startM], CM.le.refl _⟩
  have HT := Lib.hid hT0
  have k1 : Sl (Cells quadV) 4 (on w4 (fun q => q = w.heap.size ∨ (w1.heap.size ≤ q ∧ q < w4.heap.size))) (.slice qA QL.length qc) QL :=
    HT2.out.1.mono (fun b o v h => by
      obtain ⟨q1, q2, q3⟩ := part_at h
      exact on_mk (cmap_below hb4 _ _ _ q1) (.inr ⟨q2, Nat.lt_of_lt_of_le q3 hb4.size⟩))
  have kU : on w4 (fun q => q = w.heap.size ∨ (w1.heap.size ≤ q ∧ q < w4.heap.size)) w.heap.size 2 = some (.slice gA u.graphs.length gc) := on_mk (hx4.cell 2) (.inl rfl)
  obtain ⟨Z, hZ⟩ : ∃ Z : Nat → Prop, (fun q => q = w.heap.size ∨ (w1.heap.size ≤ q ∧ q < w4.heap.size)) = Z := ⟨_, rfl⟩
  rw [hZ] at HT k1 kU
  have HT4 := Lib.hid k1
  have KU := Lib.hid kU
  clear hb4 hx2 hx4 HT2 HA hT0 HLL hB0 h12 h14 k1 hZ kU
  go_wp2
  go_loopw [9, 10, 11, 12, 13, 14, 15, 16, 17, 19] (fun i _ _ _ _ _ _ _ _ _ wr => ∃ (k : Nat) (mk : Mach), i = .int .i64 k ∧ k ≤ l.length + 1 ∧ Hid (OnceAt w w4 wr R g L u Z k mk)) (fun i _ _ _ _ _ _ _ _ _ _ => l.length + 1 - (intOf i).toNat)
  case atStart => exact ⟨0, _, rfl, by omega, HT⟩
  case round =>
    clear HT
    obtain ⟨k, mk, rfl, hk, HH⟩ := hrel
    by_cases hlt : k ≤ l.length
    · have k0 : (0 : Int) ≤ k := by omega
      have k1 : (k : Int) ≤ l.length := by omega
      have u2 : wr.cell? ⟨w.heap.size, 2, none⟩ = some (.slice gA u.graphs.length gc) := (on_at (HH.out.kz _ _ _ KU.out)).1
      go_wp2
      go_loopw [65, 10, 11, 12, 13, 14, 15, 16, 17, 19] (fun i _ _ _ _ _ _ _ _ _ wr => ∃ a : Nat, i = .int .i64 a ∧ a ≤ u.graphs.length ∧ Hid (OnceAt w w4 wr R g L u Z k mk)) (fun i _ _ _ _ _ _ _ _ _ _ => u.graphs.length - (intOf i).toNat)
      case atStart => exact ⟨0, rfl, by omega, HH⟩
      case round =>
        clear u2 HH
        obtain ⟨ta, rfl, hta, HH⟩ := hrel
        by_cases hal : ta < u.graphs.length
        · have a0 : (0 : Int) ≤ ta := by omega
          have a1 : (ta : Int) < u.graphs.length := by omega
          go_wp2
          go_loopw [11, 12, 13, 14, 15, 16, 17, 19] (fun i _ _ _ _ _ _ _ wr => ∃ b : Nat, i = .int .i64 b ∧ ta < b ∧ b ≤ u.graphs.length ∧ Hid (OnceAt w w4 wr R g L u Z k mk)) (fun i _ _ _ _ _ _ _ _ => u.graphs.length - (intOf i).toNat)
          case atStart => exact ⟨ta + 1, by go_num, by omega, by omega, HH⟩
          case round =>
            clear HH
            obtain ⟨tb, rfl, hab, htb, HH⟩ := hrel
            have u2 : wr.cell? ⟨w.heap.size, 2, none⟩ = some (.slice gA u.graphs.length gc) := (on_at (HH.out.kz _ _ _ KU.out)).1
            by_cases hbl : tb < u.graphs.length
            · have b0 : (0 : Int) ≤ tb := by omega
              have b1 : (tb : Int) < u.graphs.length := by omega
              obtain ⟨pv, hM, hmu⟩ := HH.out.at_.ex
              have HC := Lib.hid (can_calls (ta : Int) hM HH.out.situ.ok HK.out.1)
              clear hM hmu
              by_cases hca : barF u mk (ta : Int) = 0
              · by_cases hcb : barF u mk (tb : Int) = 0
                · obtain ⟨g1, ia, n1, st1, wh1⟩ := can_yes HH.out.situ hca
                  obtain ⟨g2, ib, n2, st2, wh2⟩ := can_yes HH.out.situ hcb
                  have e1 : (barF u mk (ta : Int) == 0) = true := by simp [hca]
                  have e2 : (barF u mk (tb : Int) == 0) = true := by simp [hcb]
                  rw [e1] at HC
                  have HE2 := Lib.hid e2
                  have HW := Lib.hid (And.intro wh1 wh2)
                  have HST := Lib.hid (And.intro st1 st2)
                  clear hca hcb e1 e2 st1 st2 wh1 wh2
                  go_wp2_with fail
                  refine HC.out.mono ?_
                  rintro e wa ⟨rfl, hba⟩
                  have HHa := Lib.hid (HH.out.below hba)
                  obtain ⟨pv, hM, hmu⟩ := HHa.out.at_.ex
                  have HC2 := can_calls (tb : Int) hM HHa.out.situ.ok HK.out.1
                  rw [HE2.out] at HC2
                  have HC2 := Lib.hid HC2
                  clear hM hmu hba u2 HC
                  go_wp2_with fail
                  refine HC2.out.mono ?_
                  rintro e wb ⟨rfl, hbb⟩
                  have HHb := Lib.hid (HHa.out.below hbb)
                  obtain ⟨pv, hM, hmu⟩ := HHb.out.at_.ex
                  have HA1 := at_calls (ta : Int) hM
                  have HA2 := fun q => at_calls (tb : Int) (hM.below (Below_drewN wb q))
                  rw [HW.out.1] at HA1
                  rw [HW.out.2] at HA2
                  have HA1 := Lib.hid HA1
                  have HA2 := Lib.hid HA2
                  clear hM hmu hbb HC2
                  go_wp2_with fail
                  refine HA1.out.mono ?_
                  rintro e w6 ⟨rfl, q1, rfl⟩
                  go_wp2_with fail
                  refine (HA2.out q1).mono ?_
                  rintro e w6 ⟨rfl, q2, rfl⟩
                  have HH0 := Lib.hid ((HHb.out.drewN q1).drewN q2)
                  obtain ⟨W0, hW0⟩ : ∃ W0, (wb.drewN q1).drewN q2 = W0 := ⟨_, rfl⟩
                  rw [hW0] at HH0 ⊢
                  clear HA1 HA2 HHa HHb HE2 hW0
                  have E2 : Hid (W0.cell? ⟨w.heap.size, 2, none⟩ = some (.slice gA u.graphs.length gc)) := Lib.hid (on_at (HH0.out.kz _ _ _ KU.out)).1
                  have hW : (cmap w).le (cmap W0) := cmap_below HH0.out.at_.bel
                  obtain ⟨gb, go_, rfl, c1, ⟨v1, rfl, hn1⟩, hg1⟩ := HU.out.2.2.2.at_ HST.out.1.gr
                  obtain ⟨_, _, eg, c2, ⟨v2, rfl, hn2⟩, hg2⟩ := HU.out.2.2.2.at_ HST.out.2.gr
                  injection eg with eg
                  injection eg with eg1 eg2 eg3
                  subst eg1 eg2
                  obtain ⟨A1, ncP, rfl, -⟩ := id hn1
                  obtain ⟨A2, ncQ, rfl, -⟩ := id hn2
                  obtain ⟨nbP, noP, rfl, hx1⟩ := hn1.at_ HST.out.1.nd
                  obtain ⟨nbQ, noQ, rfl, hx2⟩ := hn2.at_ HST.out.2.nd
                  have EP : Hid (W0.cell? ⟨gb, go_ + ta * 4 + 3, none⟩ = some (.slice (some ⟨nbP, noP, none⟩) g1.nodes.length ncP)) := Lib.hid (hW _ _ _ (hg1 3 _ rfl))
                  have EQ : Hid (W0.cell? ⟨gb, go_ + tb * 4 + 3, none⟩ = some (.slice (some ⟨nbQ, noQ, none⟩) g2.nodes.length ncQ)) := Lib.hid (hW _ _ _ (hg2 3 _ rfl))
                  have HP : Hid (∀ j v, n1.cells[j]? = some v → W0.cell? ⟨nbP, noP + ia * 13 + j, none⟩ = some v) := Lib.hid fun j v hj => hW _ _ _ (hx1 j v hj)
                  have HQ : Hid (∀ j v, n2.cells[j]? = some v → W0.cell? ⟨nbQ, noQ + ib * 13 + j, none⟩ = some v) := Lib.hid fun j v hj => hW _ _ _ (hx2 j v hj)
                  have lu : w.heap.size < W0.heap.size := World.block_lt_of_cell? W0 ⟨w.heap.size, _, none⟩ E2.out
                  have lg : gb < W0.heap.size := World.block_lt_of_cell? W0 ⟨gb, _, none⟩ EP.out
                  have lP : nbP < W0.heap.size := World.block_lt_of_cell? W0 ⟨nbP, _, none⟩ (HP.out 0 _ rfl)
                  have lQ : nbQ < W0.heap.size := World.block_lt_of_cell? W0 ⟨nbQ, _, none⟩ (HQ.out 0 _ rfl)
                  have i0 : (0 : Int) ≤ ia := by omega
                  have i1 : (ia : Int) < g1.nodes.length := by have := (List.getElem?_eq_some_iff.1 HST.out.1.nd).1; omega
                  have j0 : (0 : Int) ≤ ib := by omega
                  have j1 : (ib : Int) < g2.nodes.length := by have := (List.getElem?_eq_some_iff.1 HST.out.2.nd).1; omega
                  have HAL : Hid (n1.cells.length = 13) := Lib.hid rfl
                  have HBL : Hid (n2.cells.length = 13) := Lib.hid rfl
                  have HAO : Hid (n1.cells.toArray.all (·.oneCell') = true) := Lib.hid (by simp [Node.cells, Value.oneCell'])
                  have HBO : Hid (n2.cells.toArray.all (·.oneCell') = true) := Lib.hid (by simp [Node.cells, Value.oneCell'])
                  clear hW hn1 hn2 hg1 hg2 hx1 hx2 eg3
                  go_upto_region 18 with fail
                  refine wp_act0 fun a0 ha0 => ?_
                  have t2 : a0.eval (.tmp 2) = .pointer (some ⟨w.heap.size, 0, none⟩) := by rw [ha0]; rfl
                  have t10 : a0.eval (.tmp 10) = .int .i64 (ta : Int) := by rw [ha0]; rfl
                  have t11 : a0.eval (.tmp 11) = .int .i64 (tb : Int) := by rw [ha0]; rfl
                  have t12 : a0.eval (.tmp 12) = .int .i64 (ia : Int) := by rw [ha0]; rfl
                  have t13 : a0.eval (.tmp 13) = .int .i64 (ib : Int) := by rw [ha0]; rfl
                  have hsz : a0.tmps.size = 176 := by rw [ha0]; rfl
                  have HA0 := Lib.hid ha0; clear ha0
                  refine wp_region_inv (AoJ W0 w.heap.size gb go_ u.graphs.length gc ta tb ia ib nbP noP g1.nodes.length ncP nbQ noQ g2.nodes.length ncQ n1 n2 a0) (by kernel_rfl) (by kernel_rfl) ?start ?steps ?done
                  case start =>
                    refine { fr := Fr.refl _ _, below := (Below.refl _ W0).drew, s0 := ?_, s1 := ?_, s2 := ?_, s3 := ?_, s4 := ?_, s5 := ?_, s6 := ?_, s7 := ?_, s8 := ?_, s9 := ?_, s10 := ?_, s11 := ?_, s12 := ?_, s13 := ?_, s14 := ?_, s15 := ?_, s16 := ?_, s17 := ?_, s18 := ?_, s19 := ?_, ne18_19 := ?_, o20 := ?_, o21 := ?_ } <;> (intro hd; cases hd)
                  case steps =>
                    refine steps_all ?_
                    refine ⟨?_, ?_, ?_, ?_, ?_, ?_, ?_, ?_, ?_, ?_, ?_, ?_, ?_, ?_, ?_, ?_, ?_, ?_, ?_, ?_, ?_, ?_, trivial⟩
                    · -- 0
                      intro D a wx K hD hp h hK
                      refine step_wp rfl ?_
                      have r2 := (h.fr.eval (j := 2) (by decide)).trans t2
                      refine wp_val_at (.pointer (some ⟨w.heap.size, 2, none⟩)) (by generalize a.eval = ρ at *; go_simp) ?_
                      refine hK _ _ {
                        fr := h.fr.put (by decide) _
                        below := h.below
                        s0 := fun _ => h.fr.eval_put (by rw [hsz]; decide) _
                        s1 := by simpa [upD, eval_put_ne, put_none] using h.s1
                        s2 := by simpa [upD, eval_put_ne, put_none] using h.s2
                        s3 := by simpa [upD, eval_put_ne, put_none] using h.s3
                        s4 := by simpa [upD, eval_put_ne, put_none] using h.s4
                        s5 := by simpa [upD, eval_put_ne, put_none] using h.s5
                        s6 := by simpa [upD, eval_put_ne, put_none] using h.s6
                        s7 := by simpa [upD, eval_put_ne, put_none] using h.s7
                        s8 := by simpa [upD, eval_put_ne, put_none] using h.s8
                        s9 := by simpa [upD, eval_put_ne, put_none] using h.s9
                        s10 := by simpa [upD, eval_put_ne, put_none] using h.s10
                        s11 := by simpa [upD, eval_put_ne, put_none] using h.s11
                        s12 := by simpa [upD, eval_put_ne, put_none] using h.s12
                        s13 := by simpa [upD, eval_put_ne, put_none] using h.s13
                        s14 := by simpa [upD, eval_put_ne, put_none] using h.s14
                        s15 := by simpa [upD, eval_put_ne, put_none] using h.s15
                        s16 := by simpa [upD, eval_put_ne, put_none] using h.s16
                        s17 := by simpa [upD, eval_put_ne, put_none] using h.s17
                        s18 := by simpa [upD, eval_put_ne, put_none] using h.s18
                        s19 := by simpa [upD, eval_put_ne, put_none] using h.s19
                        ne18_19 := by simpa [upD, eval_put_ne, put_none] using h.ne18_19
                        o20 := fun hd => by rw [upD_ne _ (by decide)] at hd; exact ⟨upD_mono (h.o20 hd).1, upD_mono (h.o20 hd).2⟩
                        o21 := fun hd => by rw [upD_ne _ (by decide)] at hd; exact ⟨upD_mono (h.o21 hd).1, upD_mono (h.o21 hd).2⟩ }
                    · -- 1
                      intro D a wx K hD hp h hK
                      refine step_wp rfl ?_
                      have q0 := h.s0 (hp 0 (by decide))
                      have z0 := (h.below.cell (p := ⟨w.heap.size, 2, none⟩) lu).trans E2.out
                      refine wp_val_at (.slice (some ⟨gb, go_, none⟩) u.graphs.length gc) (by generalize a.eval = ρ at *; go_simp) ?_
                      refine hK _ _ {
                        fr := h.fr.put (by decide) _
                        below := h.below
                        s1 := fun _ => h.fr.eval_put (by rw [hsz]; decide) _
                        s0 := by simpa [upD, eval_put_ne, put_none] using h.s0
                        s2 := by simpa [upD, eval_put_ne, put_none] using h.s2
                        s3 := by simpa [upD, eval_put_ne, put_none] using h.s3
                        s4 := by simpa [upD, eval_put_ne, put_none] using h.s4
                        s5 := by simpa [upD, eval_put_ne, put_none] using h.s5
                        s6 := by simpa [upD, eval_put_ne, put_none] using h.s6
                        s7 := by simpa [upD, eval_put_ne, put_none] using h.s7
                        s8 := by simpa [upD, eval_put_ne, put_none] using h.s8
                        s9 := by simpa [upD, eval_put_ne, put_none] using h.s9
                        s10 := by simpa [upD, eval_put_ne, put_none] using h.s10
                        s11 := by simpa [upD, eval_put_ne, put_none] using h.s11
                        s12 := by simpa [upD, eval_put_ne, put_none] using h.s12
                        s13 := by simpa [upD, eval_put_ne, put_none] using h.s13
                        s14 := by simpa [upD, eval_put_ne, put_none] using h.s14
                        s15 := by simpa [upD, eval_put_ne, put_none] using h.s15
                        s16 := by simpa [upD, eval_put_ne, put_none] using h.s16
                        s17 := by simpa [upD, eval_put_ne, put_none] using h.s17
                        s18 := by simpa [upD, eval_put_ne, put_none] using h.s18
                        s19 := by simpa [upD, eval_put_ne, put_none] using h.s19
                        ne18_19 := by simpa [upD, eval_put_ne, put_none] using h.ne18_19
                        o20 := fun hd => by rw [upD_ne _ (by decide)] at hd; exact ⟨upD_mono (h.o20 hd).1, upD_mono (h.o20 hd).2⟩
                        o21 := fun hd => by rw [upD_ne _ (by decide)] at hd; exact ⟨upD_mono (h.o21 hd).1, upD_mono (h.o21 hd).2⟩ }
                    · -- 2
                      intro D a wx K hD hp h hK
                      refine step_wp rfl ?_
                      refine wp_move_at rfl ?_
                      rw [h.fr.eval (j := 10) (by decide), t10]
                      refine hK _ _ {
                        fr := h.fr.put (by decide) _
                        below := h.below
                        s2 := fun _ => h.fr.eval_put (by rw [hsz]; decide) _
                        s0 := by simpa [upD, eval_put_ne, put_none] using h.s0
                        s1 := by simpa [upD, eval_put_ne, put_none] using h.s1
                        s3 := by simpa [upD, eval_put_ne, put_none] using h.s3
                        s4 := by simpa [upD, eval_put_ne, put_none] using h.s4
                        s5 := by simpa [upD, eval_put_ne, put_none] using h.s5
                        s6 := by simpa [upD, eval_put_ne, put_none] using h.s6
                        s7 := by simpa [upD, eval_put_ne, put_none] using h.s7
                        s8 := by simpa [upD, eval_put_ne, put_none] using h.s8
                        s9 := by simpa [upD, eval_put_ne, put_none] using h.s9
                        s10 := by simpa [upD, eval_put_ne, put_none] using h.s10
                        s11 := by simpa [upD, eval_put_ne, put_none] using h.s11
                        s12 := by simpa [upD, eval_put_ne, put_none] using h.s12
                        s13 := by simpa [upD, eval_put_ne, put_none] using h.s13
                        s14 := by simpa [upD, eval_put_ne, put_none] using h.s14
                        s15 := by simpa [upD, eval_put_ne, put_none] using h.s15
                        s16 := by simpa [upD, eval_put_ne, put_none] using h.s16
                        s17 := by simpa [upD, eval_put_ne, put_none] using h.s17
                        s18 := by simpa [upD, eval_put_ne, put_none] using h.s18
                        s19 := by simpa [upD, eval_put_ne, put_none] using h.s19
                        ne18_19 := by simpa [upD, eval_put_ne, put_none] using h.ne18_19
                        o20 := fun hd => by rw [upD_ne _ (by decide)] at hd; exact ⟨upD_mono (h.o20 hd).1, upD_mono (h.o20 hd).2⟩
                        o21 := fun hd => by rw [upD_ne _ (by decide)] at hd; exact ⟨upD_mono (h.o21 hd).1, upD_mono (h.o21 hd).2⟩ }
                    · -- 3
                      intro D a wx K hD hp h hK
                      refine step_wp rfl ?_
                      have q1 := h.s1 (hp 1 (by decide))
                      have q2 := h.s2 (hp 2 (by decide))
                      refine wp_val_at (.pointer (some ⟨gb, go_ + ta * 4, none⟩)) (by generalize a.eval = ρ at *; go_simp) ?_
                      refine hK _ _ {
                        fr := h.fr.put (by decide) _
                        below := h.below
                        s3 := fun _ => h.fr.eval_put (by rw [hsz]; decide) _
                        s0 := by simpa [upD, eval_put_ne, put_none] using h.s0
                        s1 := by simpa [upD, eval_put_ne, put_none] using h.s1
                        s2 := by simpa [upD, eval_put_ne, put_none] using h.s2
                        s4 := by simpa [upD, eval_put_ne, put_none] using h.s4
                        s5 := by simpa [upD, eval_put_ne, put_none] using h.s5
                        s6 := by simpa [upD, eval_put_ne, put_none] using h.s6
                        s7 := by simpa [upD, eval_put_ne, put_none] using h.s7
                        s8 := by simpa [upD, eval_put_ne, put_none] using h.s8
                        s9 := by simpa [upD, eval_put_ne, put_none] using h.s9
                        s10 := by simpa [upD, eval_put_ne, put_none] using h.s10
                        s11 := by simpa [upD, eval_put_ne, put_none] using h.s11
                        s12 := by simpa [upD, eval_put_ne, put_none] using h.s12
                        s13 := by simpa [upD, eval_put_ne, put_none] using h.s13
                        s14 := by simpa [upD, eval_put_ne, put_none] using h.s14
                        s15 := by simpa [upD, eval_put_ne, put_none] using h.s15
                        s16 := by simpa [upD, eval_put_ne, put_none] using h.s16
                        s17 := by simpa [upD, eval_put_ne, put_none] using h.s17
                        s18 := by simpa [upD, eval_put_ne, put_none] using h.s18
                        s19 := by simpa [upD, eval_put_ne, put_none] using h.s19
                        ne18_19 := by simpa [upD, eval_put_ne, put_none] using h.ne18_19
                        o20 := fun hd => by rw [upD_ne _ (by decide)] at hd; exact ⟨upD_mono (h.o20 hd).1, upD_mono (h.o20 hd).2⟩
                        o21 := fun hd => by rw [upD_ne _ (by decide)] at hd; exact ⟨upD_mono (h.o21 hd).1, upD_mono (h.o21 hd).2⟩ }
                    · -- 4
                      intro D a wx K hD hp h hK
                      refine step_wp rfl ?_
                      have q3 := h.s3 (hp 3 (by decide))
                      refine wp_val_at (.pointer (some ⟨gb, go_ + ta * 4 + 3, none⟩)) (by generalize a.eval = ρ at *; go_simp) ?_
                      refine hK _ _ {
                        fr := h.fr.put (by decide) _
                        below := h.below
                        s4 := fun _ => h.fr.eval_put (by rw [hsz]; decide) _
                        s0 := by simpa [upD, eval_put_ne, put_none] using h.s0
                        s1 := by simpa [upD, eval_put_ne, put_none] using h.s1
                        s2 := by simpa [upD, eval_put_ne, put_none] using h.s2
                        s3 := by simpa [upD, eval_put_ne, put_none] using h.s3
                        s5 := by simpa [upD, eval_put_ne, put_none] using h.s5
                        s6 := by simpa [upD, eval_put_ne, put_none] using h.s6
                        s7 := by simpa [upD, eval_put_ne, put_none] using h.s7
                        s8 := by simpa [upD, eval_put_ne, put_none] using h.s8
                        s9 := by simpa [upD, eval_put_ne, put_none] using h.s9
                        s10 := by simpa [upD, eval_put_ne, put_none] using h.s10
                        s11 := by simpa [upD, eval_put_ne, put_none] using h.s11
                        s12 := by simpa [upD, eval_put_ne, put_none] using h.s12
                        s13 := by simpa [upD, eval_put_ne, put_none] using h.s13
                        s14 := by simpa [upD, eval_put_ne, put_none] using h.s14
                        s15 := by simpa [upD, eval_put_ne, put_none] using h.s15
                        s16 := by simpa [upD, eval_put_ne, put_none] using h.s16
                        s17 := by simpa [upD, eval_put_ne, put_none] using h.s17
                        s18 := by simpa [upD, eval_put_ne, put_none] using h.s18
                        s19 := by simpa [upD, eval_put_ne, put_none] using h.s19
                        ne18_19 := by simpa [upD, eval_put_ne, put_none] using h.ne18_19
                        o20 := fun hd => by rw [upD_ne _ (by decide)] at hd; exact ⟨upD_mono (h.o20 hd).1, upD_mono (h.o20 hd).2⟩
                        o21 := fun hd => by rw [upD_ne _ (by decide)] at hd; exact ⟨upD_mono (h.o21 hd).1, upD_mono (h.o21 hd).2⟩ }
                    · -- 5
                      intro D a wx K hD hp h hK
                      refine step_wp rfl ?_
                      have q4 := h.s4 (hp 4 (by decide))
                      have z0 := (h.below.cell (p := ⟨gb, go_ + ta * 4 + 3, none⟩) lg).trans EP.out
                      refine wp_val_at (.slice (some ⟨nbP, noP, none⟩) g1.nodes.length ncP) (by generalize a.eval = ρ at *; go_simp) ?_
                      refine hK _ _ {
                        fr := h.fr.put (by decide) _
                        below := h.below
                        s5 := fun _ => h.fr.eval_put (by rw [hsz]; decide) _
                        s0 := by simpa [upD, eval_put_ne, put_none] using h.s0
                        s1 := by simpa [upD, eval_put_ne, put_none] using h.s1
                        s2 := by simpa [upD, eval_put_ne, put_none] using h.s2
                        s3 := by simpa [upD, eval_put_ne, put_none] using h.s3
                        s4 := by simpa [upD, eval_put_ne, put_none] using h.s4
                        s6 := by simpa [upD, eval_put_ne, put_none] using h.s6
                        s7 := by simpa [upD, eval_put_ne, put_none] using h.s7
                        s8 := by simpa [upD, eval_put_ne, put_none] using h.s8
                        s9 := by simpa [upD, eval_put_ne, put_none] using h.s9
                        s10 := by simpa [upD, eval_put_ne, put_none] using h.s10
                        s11 := by simpa [upD, eval_put_ne, put_none] using h.s11
                        s12 := by simpa [upD, eval_put_ne, put_none] using h.s12
                        s13 := by simpa [upD, eval_put_ne, put_none] using h.s13
                        s14 := by simpa [upD, eval_put_ne, put_none] using h.s14
                        s15 := by simpa [upD, eval_put_ne, put_none] using h.s15
                        s16 := by simpa [upD, eval_put_ne, put_none] using h.s16
                        s17 := by simpa [upD, eval_put_ne, put_none] using h.s17
                        s18 := by simpa [upD, eval_put_ne, put_none] using h.s18
                        s19 := by simpa [upD, eval_put_ne, put_none] using h.s19
                        ne18_19 := by simpa [upD, eval_put_ne, put_none] using h.ne18_19
                        o20 := fun hd => by rw [upD_ne _ (by decide)] at hd; exact ⟨upD_mono (h.o20 hd).1, upD_mono (h.o20 hd).2⟩
                        o21 := fun hd => by rw [upD_ne _ (by decide)] at hd; exact ⟨upD_mono (h.o21 hd).1, upD_mono (h.o21 hd).2⟩ }
                    · -- 6
                      intro D a wx K hD hp h hK
                      refine step_wp rfl ?_
                      refine wp_move_at rfl ?_
                      rw [h.fr.eval (j := 12) (by decide), t12]
                      refine hK _ _ {
                        fr := h.fr.put (by decide) _
                        below := h.below
                        s6 := fun _ => h.fr.eval_put (by rw [hsz]; decide) _
                        s0 := by simpa [upD, eval_put_ne, put_none] using h.s0
                        s1 := by simpa [upD, eval_put_ne, put_none] using h.s1
                        s2 := by simpa [upD, eval_put_ne, put_none] using h.s2
                        s3 := by simpa [upD, eval_put_ne, put_none] using h.s3
                        s4 := by simpa [upD, eval_put_ne, put_none] using h.s4
                        s5 := by simpa [upD, eval_put_ne, put_none] using h.s5
                        s7 := by simpa [upD, eval_put_ne, put_none] using h.s7
                        s8 := by simpa [upD, eval_put_ne, put_none] using h.s8
                        s9 := by simpa [upD, eval_put_ne, put_none] using h.s9
                        s10 := by simpa [upD, eval_put_ne, put_none] using h.s10
                        s11 := by simpa [upD, eval_put_ne, put_none] using h.s11
                        s12 := by simpa [upD, eval_put_ne, put_none] using h.s12
                        s13 := by simpa [upD, eval_put_ne, put_none] using h.s13
                        s14 := by simpa [upD, eval_put_ne, put_none] using h.s14
                        s15 := by simpa [upD, eval_put_ne, put_none] using h.s15
                        s16 := by simpa [upD, eval_put_ne, put_none] using h.s16
                        s17 := by simpa [upD, eval_put_ne, put_none] using h.s17
                        s18 := by simpa [upD, eval_put_ne, put_none] using h.s18
                        s19 := by simpa [upD, eval_put_ne, put_none] using h.s19
                        ne18_19 := by simpa [upD, eval_put_ne, put_none] using h.ne18_19
                        o20 := fun hd => by rw [upD_ne _ (by decide)] at hd; exact ⟨upD_mono (h.o20 hd).1, upD_mono (h.o20 hd).2⟩
                        o21 := fun hd => by rw [upD_ne _ (by decide)] at hd; exact ⟨upD_mono (h.o21 hd).1, upD_mono (h.o21 hd).2⟩ }
                    · -- 7
                      intro D a wx K hD hp h hK
                      refine step_wp rfl ?_
                      have q5 := h.s5 (hp 5 (by decide))
                      have q6 := h.s6 (hp 6 (by decide))
                      refine wp_val_at (.pointer (some ⟨nbP, noP + ia * 13, none⟩)) (by generalize a.eval = ρ at *; go_simp) ?_
                      refine hK _ _ {
                        fr := h.fr.put (by decide) _
                        below := h.below
                        s7 := fun _ => h.fr.eval_put (by rw [hsz]; decide) _
                        s0 := by simpa [upD, eval_put_ne, put_none] using h.s0
                        s1 := by simpa [upD, eval_put_ne, put_none] using h.s1
                        s2 := by simpa [upD, eval_put_ne, put_none] using h.s2
                        s3 := by simpa [upD, eval_put_ne, put_none] using h.s3
                        s4 := by simpa [upD, eval_put_ne, put_none] using h.s4
                        s5 := by simpa [upD, eval_put_ne, put_none] using h.s5
                        s6 := by simpa [upD, eval_put_ne, put_none] using h.s6
                        s8 := by simpa [upD, eval_put_ne, put_none] using h.s8
                        s9 := by simpa [upD, eval_put_ne, put_none] using h.s9
                        s10 := by simpa [upD, eval_put_ne, put_none] using h.s10
                        s11 := by simpa [upD, eval_put_ne, put_none] using h.s11
                        s12 := by simpa [upD, eval_put_ne, put_none] using h.s12
                        s13 := by simpa [upD, eval_put_ne, put_none] using h.s13
                        s14 := by simpa [upD, eval_put_ne, put_none] using h.s14
                        s15 := by simpa [upD, eval_put_ne, put_none] using h.s15
                        s16 := by simpa [upD, eval_put_ne, put_none] using h.s16
                        s17 := by simpa [upD, eval_put_ne, put_none] using h.s17
                        s18 := by simpa [upD, eval_put_ne, put_none] using h.s18
                        s19 := by simpa [upD, eval_put_ne, put_none] using h.s19
                        ne18_19 := by simpa [upD, eval_put_ne, put_none] using h.ne18_19
                        o20 := fun hd => by rw [upD_ne _ (by decide)] at hd; exact ⟨upD_mono (h.o20 hd).1, upD_mono (h.o20 hd).2⟩
                        o21 := fun hd => by rw [upD_ne _ (by decide)] at hd; exact ⟨upD_mono (h.o21 hd).1, upD_mono (h.o21 hd).2⟩ }
                    · -- 8
                      intro D a wx K hD hp h hK
                      refine step_wp rfl ?_
                      refine wp_load_at 67 _ rfl nbP (noP + ia * 13) (h.s7 (hp 7 (by decide))) n1.cells _ (fun j' v hj => (h.below.cell (p := ⟨nbP, noP + ia * 13 + j', none⟩) lP).trans (HP.out j' v hj)) Try.underlying67 rfl (by kernel_rfl) ?_
                      refine hK _ _ {
                        fr := h.fr.put (by decide) _
                        below := h.below
                        s8 := fun _ => h.fr.eval_put (by rw [hsz]; decide) _
                        s18 := fun hd => by
                          rw [upD_ne _ (by decide)] at hd
                          obtain ⟨X, cs, e, e1, e2, e3, e4⟩ := h.s18 hd
                          refine ⟨X, cs, by rw [eval_put_ne (by decide)]; exact e, e1, e2, e3, fun h8 => ?_⟩
                          rw [upD_ne _ (by decide)] at h8
                          have := (h.o20 h8).1
                          rw [hD] at this
                          cases this
                        s0 := by simpa [upD, eval_put_ne, put_none] using h.s0
                        s1 := by simpa [upD, eval_put_ne, put_none] using h.s1
                        s2 := by simpa [upD, eval_put_ne, put_none] using h.s2
                        s3 := by simpa [upD, eval_put_ne, put_none] using h.s3
                        s4 := by simpa [upD, eval_put_ne, put_none] using h.s4
                        s5 := by simpa [upD, eval_put_ne, put_none] using h.s5
                        s6 := by simpa [upD, eval_put_ne, put_none] using h.s6
                        s7 := by simpa [upD, eval_put_ne, put_none] using h.s7
                        s9 := by simpa [upD, eval_put_ne, put_none] using h.s9
                        s10 := by simpa [upD, eval_put_ne, put_none] using h.s10
                        s11 := by simpa [upD, eval_put_ne, put_none] using h.s11
                        s12 := by simpa [upD, eval_put_ne, put_none] using h.s12
                        s13 := by simpa [upD, eval_put_ne, put_none] using h.s13
                        s14 := by simpa [upD, eval_put_ne, put_none] using h.s14
                        s15 := by simpa [upD, eval_put_ne, put_none] using h.s15
                        s16 := by simpa [upD, eval_put_ne, put_none] using h.s16
                        s17 := by simpa [upD, eval_put_ne, put_none] using h.s17
                        s19 := by simpa [upD, eval_put_ne, put_none] using h.s19
                        ne18_19 := by simpa [upD, eval_put_ne, put_none] using h.ne18_19
                        o20 := fun hd => by rw [upD_ne _ (by decide)] at hd; exact ⟨upD_mono (h.o20 hd).1, upD_mono (h.o20 hd).2⟩
                        o21 := fun hd => by rw [upD_ne _ (by decide)] at hd; exact ⟨upD_mono (h.o21 hd).1, upD_mono (h.o21 hd).2⟩ }
                    · -- 9
                      intro D a wx K hD hp h hK
                      refine step_wp rfl ?_
                      have r2 := (h.fr.eval (j := 2) (by decide)).trans t2
                      refine wp_val_at (.pointer (some ⟨w.heap.size, 2, none⟩)) (by generalize a.eval = ρ at *; go_simp) ?_
                      refine hK _ _ {
                        fr := h.fr.put (by decide) _
                        below := h.below
                        s9 := fun _ => h.fr.eval_put (by rw [hsz]; decide) _
                        s0 := by simpa [upD, eval_put_ne, put_none] using h.s0
                        s1 := by simpa [upD, eval_put_ne, put_none] using h.s1
                        s2 := by simpa [upD, eval_put_ne, put_none] using h.s2
                        s3 := by simpa [upD, eval_put_ne, put_none] using h.s3
                        s4 := by simpa [upD, eval_put_ne, put_none] using h.s4
                        s5 := by simpa [upD, eval_put_ne, put_none] using h.s5
                        s6 := by simpa [upD, eval_put_ne, put_none] using h.s6
                        s7 := by simpa [upD, eval_put_ne, put_none] using h.s7
                        s8 := by simpa [upD, eval_put_ne, put_none] using h.s8
                        s10 := by simpa [upD, eval_put_ne, put_none] using h.s10
                        s11 := by simpa [upD, eval_put_ne, put_none] using h.s11
                        s12 := by simpa [upD, eval_put_ne, put_none] using h.s12
                        s13 := by simpa [upD, eval_put_ne, put_none] using h.s13
                        s14 := by simpa [upD, eval_put_ne, put_none] using h.s14
                        s15 := by simpa [upD, eval_put_ne, put_none] using h.s15
                        s16 := by simpa [upD, eval_put_ne, put_none] using h.s16
                        s17 := by simpa [upD, eval_put_ne, put_none] using h.s17
                        s18 := by simpa [upD, eval_put_ne, put_none] using h.s18
                        s19 := by simpa [upD, eval_put_ne, put_none] using h.s19
                        ne18_19 := by simpa [upD, eval_put_ne, put_none] using h.ne18_19
                        o20 := fun hd => by rw [upD_ne _ (by decide)] at hd; exact ⟨upD_mono (h.o20 hd).1, upD_mono (h.o20 hd).2⟩
                        o21 := fun hd => by rw [upD_ne _ (by decide)] at hd; exact ⟨upD_mono (h.o21 hd).1, upD_mono (h.o21 hd).2⟩ }
                    · -- 10
                      intro D a wx K hD hp h hK
                      refine step_wp rfl ?_
                      have q9 := h.s9 (hp 9 (by decide))
                      have z0 := (h.below.cell (p := ⟨w.heap.size, 2, none⟩) lu).trans E2.out
                      refine wp_val_at (.slice (some ⟨gb, go_, none⟩) u.graphs.length gc) (by generalize a.eval = ρ at *; go_simp) ?_
                      refine hK _ _ {
                        fr := h.fr.put (by decide) _
                        below := h.below
                        s10 := fun _ => h.fr.eval_put (by rw [hsz]; decide) _
                        s0 := by simpa [upD, eval_put_ne, put_none] using h.s0
                        s1 := by simpa [upD, eval_put_ne, put_none] using h.s1
                        s2 := by simpa [upD, eval_put_ne, put_none] using h.s2
                        s3 := by simpa [upD, eval_put_ne, put_none] using h.s3
                        s4 := by simpa [upD, eval_put_ne, put_none] using h.s4
                        s5 := by simpa [upD, eval_put_ne, put_none] using h.s5
                        s6 := by simpa [upD, eval_put_ne, put_none] using h.s6
                        s7 := by simpa [upD, eval_put_ne, put_none] using h.s7
                        s8 := by simpa [upD, eval_put_ne, put_none] using h.s8
                        s9 := by simpa [upD, eval_put_ne, put_none] using h.s9
                        s11 := by simpa [upD, eval_put_ne, put_none] using h.s11
                        s12 := by simpa [upD, eval_put_ne, put_none] using h.s12
                        s13 := by simpa [upD, eval_put_ne, put_none] using h.s13
                        s14 := by simpa [upD, eval_put_ne, put_none] using h.s14
                        s15 := by simpa [upD, eval_put_ne, put_none] using h.s15
                        s16 := by simpa [upD, eval_put_ne, put_none] using h.s16
                        s17 := by simpa [upD, eval_put_ne, put_none] using h.s17
                        s18 := by simpa [upD, eval_put_ne, put_none] using h.s18
                        s19 := by simpa [upD, eval_put_ne, put_none] using h.s19
                        ne18_19 := by simpa [upD, eval_put_ne, put_none] using h.ne18_19
                        o20 := fun hd => by rw [upD_ne _ (by decide)] at hd; exact ⟨upD_mono (h.o20 hd).1, upD_mono (h.o20 hd).2⟩
                        o21 := fun hd => by rw [upD_ne _ (by decide)] at hd; exact ⟨upD_mono (h.o21 hd).1, upD_mono (h.o21 hd).2⟩ }
                    · -- 11
                      intro D a wx K hD hp h hK
                      refine step_wp rfl ?_
                      refine wp_move_at rfl ?_
                      rw [h.fr.eval (j := 11) (by decide), t11]
                      refine hK _ _ {
                        fr := h.fr.put (by decide) _
                        below := h.below
                        s11 := fun _ => h.fr.eval_put (by rw [hsz]; decide) _
                        s0 := by simpa [upD, eval_put_ne, put_none] using h.s0
                        s1 := by simpa [upD, eval_put_ne, put_none] using h.s1
                        s2 := by simpa [upD, eval_put_ne, put_none] using h.s2
                        s3 := by simpa [upD, eval_put_ne, put_none] using h.s3
                        s4 := by simpa [upD, eval_put_ne, put_none] using h.s4
                        s5 := by simpa [upD, eval_put_ne, put_none] using h.s5
                        s6 := by simpa [upD, eval_put_ne, put_none] using h.s6
                        s7 := by simpa [upD, eval_put_ne, put_none] using h.s7
                        s8 := by simpa [upD, eval_put_ne, put_none] using h.s8
                        s9 := by simpa [upD, eval_put_ne, put_none] using h.s9
                        s10 := by simpa [upD, eval_put_ne, put_none] using h.s10
                        s12 := by simpa [upD, eval_put_ne, put_none] using h.s12
                        s13 := by simpa [upD, eval_put_ne, put_none] using h.s13
                        s14 := by simpa [upD, eval_put_ne, put_none] using h.s14
                        s15 := by simpa [upD, eval_put_ne, put_none] using h.s15
                        s16 := by simpa [upD, eval_put_ne, put_none] using h.s16
                        s17 := by simpa [upD, eval_put_ne, put_none] using h.s17
                        s18 := by simpa [upD, eval_put_ne, put_none] using h.s18
                        s19 := by simpa [upD, eval_put_ne, put_none] using h.s19
                        ne18_19 := by simpa [upD, eval_put_ne, put_none] using h.ne18_19
                        o20 := fun hd => by rw [upD_ne _ (by decide)] at hd; exact ⟨upD_mono (h.o20 hd).1, upD_mono (h.o20 hd).2⟩
                        o21 := fun hd => by rw [upD_ne _ (by decide)] at hd; exact ⟨upD_mono (h.o21 hd).1, upD_mono (h.o21 hd).2⟩ }
                    · -- 12
                      intro D a wx K hD hp h hK
                      refine step_wp rfl ?_
                      have q10 := h.s10 (hp 10 (by decide))
                      have q11 := h.s11 (hp 11 (by decide))
                      refine wp_val_at (.pointer (some ⟨gb, go_ + tb * 4, none⟩)) (by generalize a.eval = ρ at *; go_simp) ?_
                      refine hK _ _ {
                        fr := h.fr.put (by decide) _
                        below := h.below
                        s12 := fun _ => h.fr.eval_put (by rw [hsz]; decide) _
                        s0 := by simpa [upD, eval_put_ne, put_none] using h.s0
                        s1 := by simpa [upD, eval_put_ne, put_none] using h.s1
                        s2 := by simpa [upD, eval_put_ne, put_none] using h.s2
                        s3 := by simpa [upD, eval_put_ne, put_none] using h.s3
                        s4 := by simpa [upD, eval_put_ne, put_none] using h.s4
                        s5 := by simpa [upD, eval_put_ne, put_none] using h.s5
                        s6 := by simpa [upD, eval_put_ne, put_none] using h.s6
                        s7 := by simpa [upD, eval_put_ne, put_none] using h.s7
                        s8 := by simpa [upD, eval_put_ne, put_none] using h.s8
                        s9 := by simpa [upD, eval_put_ne, put_none] using h.s9
                        s10 := by simpa [upD, eval_put_ne, put_none] using h.s10
                        s11 := by simpa [upD, eval_put_ne, put_none] using h.s11
                        s13 := by simpa [upD, eval_put_ne, put_none] using h.s13
                        s14 := by simpa [upD, eval_put_ne, put_none] using h.s14
                        s15 := by simpa [upD, eval_put_ne, put_none] using h.s15
                        s16 := by simpa [upD, eval_put_ne, put_none] using h.s16
                        s17 := by simpa [upD, eval_put_ne, put_none] using h.s17
                        s18 := by simpa [upD, eval_put_ne, put_none] using h.s18
                        s19 := by simpa [upD, eval_put_ne, put_none] using h.s19
                        ne18_19 := by simpa [upD, eval_put_ne, put_none] using h.ne18_19
                        o20 := fun hd => by rw [upD_ne _ (by decide)] at hd; exact ⟨upD_mono (h.o20 hd).1, upD_mono (h.o20 hd).2⟩
                        o21 := fun hd => by rw [upD_ne _ (by decide)] at hd; exact ⟨upD_mono (h.o21 hd).1, upD_mono (h.o21 hd).2⟩ }
                    · -- 13
                      intro D a wx K hD hp h hK
                      refine step_wp rfl ?_
                      have q12 := h.s12 (hp 12 (by decide))
                      refine wp_val_at (.pointer (some ⟨gb, go_ + tb * 4 + 3, none⟩)) (by generalize a.eval = ρ at *; go_simp) ?_
                      refine hK _ _ {
                        fr := h.fr.put (by decide) _
                        below := h.below
                        s13 := fun _ => h.fr.eval_put (by rw [hsz]; decide) _
                        s0 := by simpa [upD, eval_put_ne, put_none] using h.s0
                        s1 := by simpa [upD, eval_put_ne, put_none] using h.s1
                        s2 := by simpa [upD, eval_put_ne, put_none] using h.s2
                        s3 := by simpa [upD, eval_put_ne, put_none] using h.s3
                        s4 := by simpa [upD, eval_put_ne, put_none] using h.s4
                        s5 := by simpa [upD, eval_put_ne, put_none] using h.s5
                        s6 := by simpa [upD, eval_put_ne, put_none] using h.s6
                        s7 := by simpa [upD, eval_put_ne, put_none] using h.s7
                        s8 := by simpa [upD, eval_put_ne, put_none] using h.s8
                        s9 := by simpa [upD, eval_put_ne, put_none] using h.s9
                        s10 := by simpa [upD, eval_put_ne, put_none] using h.s10
                        s11 := by simpa [upD, eval_put_ne, put_none] using h.s11
                        s12 := by simpa [upD, eval_put_ne, put_none] using h.s12
                        s14 := by simpa [upD, eval_put_ne, put_none] using h.s14
                        s15 := by simpa [upD, eval_put_ne, put_none] using h.s15
                        s16 := by simpa [upD, eval_put_ne, put_none] using h.s16
                        s17 := by simpa [upD, eval_put_ne, put_none] using h.s17
                        s18 := by simpa [upD, eval_put_ne, put_none] using h.s18
                        s19 := by simpa [upD, eval_put_ne, put_none] using h.s19
                        ne18_19 := by simpa [upD, eval_put_ne, put_none] using h.ne18_19
                        o20 := fun hd => by rw [upD_ne _ (by decide)] at hd; exact ⟨upD_mono (h.o20 hd).1, upD_mono (h.o20 hd).2⟩
                        o21 := fun hd => by rw [upD_ne _ (by decide)] at hd; exact ⟨upD_mono (h.o21 hd).1, upD_mono (h.o21 hd).2⟩ }
                    · -- 14
                      intro D a wx K hD hp h hK
                      refine step_wp rfl ?_
                      have q13 := h.s13 (hp 13 (by decide))
                      have z0 := (h.below.cell (p := ⟨gb, go_ + tb * 4 + 3, none⟩) lg).trans EQ.out
                      refine wp_val_at (.slice (some ⟨nbQ, noQ, none⟩) g2.nodes.length ncQ) (by generalize a.eval = ρ at *; go_simp) ?_
                      refine hK _ _ {
                        fr := h.fr.put (by decide) _
                        below := h.below
                        s14 := fun _ => h.fr.eval_put (by rw [hsz]; decide) _
                        s0 := by simpa [upD, eval_put_ne, put_none] using h.s0
                        s1 := by simpa [upD, eval_put_ne, put_none] using h.s1
                        s2 := by simpa [upD, eval_put_ne, put_none] using h.s2
                        s3 := by simpa [upD, eval_put_ne, put_none] using h.s3
                        s4 := by simpa [upD, eval_put_ne, put_none] using h.s4
                        s5 := by simpa [upD, eval_put_ne, put_none] using h.s5
                        s6 := by simpa [upD, eval_put_ne, put_none] using h.s6
                        s7 := by simpa [upD, eval_put_ne, put_none] using h.s7
                        s8 := by simpa [upD, eval_put_ne, put_none] using h.s8
                        s9 := by simpa [upD, eval_put_ne, put_none] using h.s9
                        s10 := by simpa [upD, eval_put_ne, put_none] using h.s10
                        s11 := by simpa [upD, eval_put_ne, put_none] using h.s11
                        s12 := by simpa [upD, eval_put_ne, put_none] using h.s12
                        s13 := by simpa [upD, eval_put_ne, put_none] using h.s13
                        s15 := by simpa [upD, eval_put_ne, put_none] using h.s15
                        s16 := by simpa [upD, eval_put_ne, put_none] using h.s16
                        s17 := by simpa [upD, eval_put_ne, put_none] using h.s17
                        s18 := by simpa [upD, eval_put_ne, put_none] using h.s18
                        s19 := by simpa [upD, eval_put_ne, put_none] using h.s19
                        ne18_19 := by simpa [upD, eval_put_ne, put_none] using h.ne18_19
                        o20 := fun hd => by rw [upD_ne _ (by decide)] at hd; exact ⟨upD_mono (h.o20 hd).1, upD_mono (h.o20 hd).2⟩
                        o21 := fun hd => by rw [upD_ne _ (by decide)] at hd; exact ⟨upD_mono (h.o21 hd).1, upD_mono (h.o21 hd).2⟩ }
                    · -- 15
                      intro D a wx K hD hp h hK
                      refine step_wp rfl ?_
                      refine wp_move_at rfl ?_
                      rw [h.fr.eval (j := 13) (by decide), t13]
                      refine hK _ _ {
                        fr := h.fr.put (by decide) _
                        below := h.below
                        s15 := fun _ => h.fr.eval_put (by rw [hsz]; decide) _
                        s0 := by simpa [upD, eval_put_ne, put_none] using h.s0
                        s1 := by simpa [upD, eval_put_ne, put_none] using h.s1
                        s2 := by simpa [upD, eval_put_ne, put_none] using h.s2
                        s3 := by simpa [upD, eval_put_ne, put_none] using h.s3
                        s4 := by simpa [upD, eval_put_ne, put_none] using h.s4
                        s5 := by simpa [upD, eval_put_ne, put_none] using h.s5
                        s6 := by simpa [upD, eval_put_ne, put_none] using h.s6
                        s7 := by simpa [upD, eval_put_ne, put_none] using h.s7
                        s8 := by simpa [upD, eval_put_ne, put_none] using h.s8
                        s9 := by simpa [upD, eval_put_ne, put_none] using h.s9
                        s10 := by simpa [upD, eval_put_ne, put_none] using h.s10
                        s11 := by simpa [upD, eval_put_ne, put_none] using h.s11
                        s12 := by simpa [upD, eval_put_ne, put_none] using h.s12
                        s13 := by simpa [upD, eval_put_ne, put_none] using h.s13
                        s14 := by simpa [upD, eval_put_ne, put_none] using h.s14
                        s16 := by simpa [upD, eval_put_ne, put_none] using h.s16
                        s17 := by simpa [upD, eval_put_ne, put_none] using h.s17
                        s18 := by simpa [upD, eval_put_ne, put_none] using h.s18
                        s19 := by simpa [upD, eval_put_ne, put_none] using h.s19
                        ne18_19 := by simpa [upD, eval_put_ne, put_none] using h.ne18_19
                        o20 := fun hd => by rw [upD_ne _ (by decide)] at hd; exact ⟨upD_mono (h.o20 hd).1, upD_mono (h.o20 hd).2⟩
                        o21 := fun hd => by rw [upD_ne _ (by decide)] at hd; exact ⟨upD_mono (h.o21 hd).1, upD_mono (h.o21 hd).2⟩ }
                    · -- 16
                      intro D a wx K hD hp h hK
                      refine step_wp rfl ?_
                      have q14 := h.s14 (hp 14 (by decide))
                      have q15 := h.s15 (hp 15 (by decide))
                      refine wp_val_at (.pointer (some ⟨nbQ, noQ + ib * 13, none⟩)) (by generalize a.eval = ρ at *; go_simp) ?_
                      refine hK _ _ {
                        fr := h.fr.put (by decide) _
                        below := h.below
                        s16 := fun _ => h.fr.eval_put (by rw [hsz]; decide) _
                        s0 := by simpa [upD, eval_put_ne, put_none] using h.s0
                        s1 := by simpa [upD, eval_put_ne, put_none] using h.s1
                        s2 := by simpa [upD, eval_put_ne, put_none] using h.s2
                        s3 := by simpa [upD, eval_put_ne, put_none] using h.s3
                        s4 := by simpa [upD, eval_put_ne, put_none] using h.s4
                        s5 := by simpa [upD, eval_put_ne, put_none] using h.s5
                        s6 := by simpa [upD, eval_put_ne, put_none] using h.s6
                        s7 := by simpa [upD, eval_put_ne, put_none] using h.s7
                        s8 := by simpa [upD, eval_put_ne, put_none] using h.s8
                        s9 := by simpa [upD, eval_put_ne, put_none] using h.s9
                        s10 := by simpa [upD, eval_put_ne, put_none] using h.s10
                        s11 := by simpa [upD, eval_put_ne, put_none] using h.s11
                        s12 := by simpa [upD, eval_put_ne, put_none] using h.s12
                        s13 := by simpa [upD, eval_put_ne, put_none] using h.s13
                        s14 := by simpa [upD, eval_put_ne, put_none] using h.s14
                        s15 := by simpa [upD, eval_put_ne, put_none] using h.s15
                        s17 := by simpa [upD, eval_put_ne, put_none] using h.s17
                        s18 := by simpa [upD, eval_put_ne, put_none] using h.s18
                        s19 := by simpa [upD, eval_put_ne, put_none] using h.s19
                        ne18_19 := by simpa [upD, eval_put_ne, put_none] using h.ne18_19
                        o20 := fun hd => by rw [upD_ne _ (by decide)] at hd; exact ⟨upD_mono (h.o20 hd).1, upD_mono (h.o20 hd).2⟩
                        o21 := fun hd => by rw [upD_ne _ (by decide)] at hd; exact ⟨upD_mono (h.o21 hd).1, upD_mono (h.o21 hd).2⟩ }
                    · -- 17
                      intro D a wx K hD hp h hK
                      refine step_wp rfl ?_
                      refine wp_load_at 67 _ rfl nbQ (noQ + ib * 13) (h.s16 (hp 16 (by decide))) n2.cells _ (fun j' v hj => (h.below.cell (p := ⟨nbQ, noQ + ib * 13 + j', none⟩) lQ).trans (HQ.out j' v hj)) Try.underlying67 rfl (by kernel_rfl) ?_
                      refine hK _ _ {
                        fr := h.fr.put (by decide) _
                        below := h.below
                        s17 := fun _ => h.fr.eval_put (by rw [hsz]; decide) _
                        s19 := fun hd => by
                          rw [upD_ne _ (by decide)] at hd
                          obtain ⟨X, cs, e, e1, e2, e3, e4⟩ := h.s19 hd
                          refine ⟨X, cs, by rw [eval_put_ne (by decide)]; exact e, e1, e2, e3, fun h8 => ?_⟩
                          rw [upD_ne _ (by decide)] at h8
                          have := (h.o21 h8).1
                          rw [hD] at this
                          cases this
                        s0 := by simpa [upD, eval_put_ne, put_none] using h.s0
                        s1 := by simpa [upD, eval_put_ne, put_none] using h.s1
                        s2 := by simpa [upD, eval_put_ne, put_none] using h.s2
                        s3 := by simpa [upD, eval_put_ne, put_none] using h.s3
                        s4 := by simpa [upD, eval_put_ne, put_none] using h.s4
                        s5 := by simpa [upD, eval_put_ne, put_none] using h.s5
                        s6 := by simpa [upD, eval_put_ne, put_none] using h.s6
                        s7 := by simpa [upD, eval_put_ne, put_none] using h.s7
                        s8 := by simpa [upD, eval_put_ne, put_none] using h.s8
                        s9 := by simpa [upD, eval_put_ne, put_none] using h.s9
                        s10 := by simpa [upD, eval_put_ne, put_none] using h.s10
                        s11 := by simpa [upD, eval_put_ne, put_none] using h.s11
                        s12 := by simpa [upD, eval_put_ne, put_none] using h.s12
                        s13 := by simpa [upD, eval_put_ne, put_none] using h.s13
                        s14 := by simpa [upD, eval_put_ne, put_none] using h.s14
                        s15 := by simpa [upD, eval_put_ne, put_none] using h.s15
                        s16 := by simpa [upD, eval_put_ne, put_none] using h.s16
                        s18 := by simpa [upD, eval_put_ne, put_none] using h.s18
                        ne18_19 := by simpa [upD, eval_put_ne, put_none] using h.ne18_19
                        o20 := fun hd => by rw [upD_ne _ (by decide)] at hd; exact ⟨upD_mono (h.o20 hd).1, upD_mono (h.o20 hd).2⟩
                        o21 := fun hd => by rw [upD_ne _ (by decide)] at hd; exact ⟨upD_mono (h.o21 hd).1, upD_mono (h.o21 hd).2⟩ }
                    · -- 18
                      intro D a wx K hD hp h hK
                      refine step_wp rfl ?_
                      have HK := Lib.hid hK; clear hK
                      have H := Lib.hid h; clear h
                      refine wp_alloc_at rfl (.agg #[.int .u8 0, .int .u8 0, .int .i64 0, .int .i64 0, .bool false, .int .i64 0, .int .i64 0, .bool false, .int .i64 0, .int .i64 0, .int .i64 0, .int .i64 0, .int .i64 0]) [.int .u8 0, .int .u8 0, .int .i64 0, .int .i64 0, .bool false, .int .i64 0, .int .i64 0, .bool false, .int .i64 0, .int .i64 0, .int .i64 0, .int .i64 0, .int .i64 0] rfl (by kernel_rfl) ?_
                      have h := H.out.keep (Below_alloc' wx (.cells (List.toArray [.int .u8 0, .int .u8 0, .int .i64 0, .int .i64 0, .bool false, .int .i64 0, .int .i64 0, .bool false, .int .i64 0, .int .i64 0, .int .i64 0, .int .i64 0, .int .i64 0]) 67))
                      have hbz := Blk.new wx 67 [.int .u8 0, .int .u8 0, .int .i64 0, .int .i64 0, .bool false, .int .i64 0, .int .i64 0, .bool false, .int .i64 0, .int .i64 0, .int .i64 0, .int .i64 0, .int .i64 0]
                      have hwz := H.out.below.size
                      refine HK.out _ _ {
                        fr := h.fr.put (by decide) _
                        below := h.below
                        s18 := fun _ => ⟨wx.heap.size, [.int .u8 0, .int .u8 0, .int .i64 0, .int .i64 0, .bool false, .int .i64 0, .int .i64 0, .bool false, .int .i64 0, .int .i64 0, .int .i64 0, .int .i64 0, .int .i64 0], h.fr.eval_put (by rw [hsz]; decide) _, hwz, hbz, rfl, fun h8 => by
                          rw [upD_ne _ (by decide)] at h8
                          have := (h.o20 h8).2
                          rw [hD] at this
                          cases this⟩
                        ne18_19 := fun h6 h7 => by
                          rw [upD_ne _ (by decide)] at h7
                          obtain ⟨X, cs, e, e1, e2, e3, e4⟩ := H.out.s19 h7
                          have := e2.lt
                          rw [h.fr.eval_put (by rw [hsz]; decide), eval_put_ne (by decide), e]
                          intro e'
                          injection e' with e'
                          injection e' with e'
                          injection e' with e' _ _
                          omega
                        s0 := by simpa [upD, eval_put_ne, put_none] using h.s0
                        s1 := by simpa [upD, eval_put_ne, put_none] using h.s1
                        s2 := by simpa [upD, eval_put_ne, put_none] using h.s2
                        s3 := by simpa [upD, eval_put_ne, put_none] using h.s3
                        s4 := by simpa [upD, eval_put_ne, put_none] using h.s4
                        s5 := by simpa [upD, eval_put_ne, put_none] using h.s5
                        s6 := by simpa [upD, eval_put_ne, put_none] using h.s6
                        s7 := by simpa [upD, eval_put_ne, put_none] using h.s7
                        s8 := by simpa [upD, eval_put_ne, put_none] using h.s8
                        s9 := by simpa [upD, eval_put_ne, put_none] using h.s9
                        s10 := by simpa [upD, eval_put_ne, put_none] using h.s10
                        s11 := by simpa [upD, eval_put_ne, put_none] using h.s11
                        s12 := by simpa [upD, eval_put_ne, put_none] using h.s12
                        s13 := by simpa [upD, eval_put_ne, put_none] using h.s13
                        s14 := by simpa [upD, eval_put_ne, put_none] using h.s14
                        s15 := by simpa [upD, eval_put_ne, put_none] using h.s15
                        s16 := by simpa [upD, eval_put_ne, put_none] using h.s16
                        s17 := by simpa [upD, eval_put_ne, put_none] using h.s17
                        s19 := by simpa [upD, eval_put_ne, put_none] using h.s19
                        o20 := fun hd => by rw [upD_ne _ (by decide)] at hd; exact ⟨upD_mono (h.o20 hd).1, upD_mono (h.o20 hd).2⟩
                        o21 := fun hd => by rw [upD_ne _ (by decide)] at hd; exact ⟨upD_mono (h.o21 hd).1, upD_mono (h.o21 hd).2⟩ }
                    · -- 19
                      intro D a wx K hD hp h hK
                      refine step_wp rfl ?_
                      have HK := Lib.hid hK; clear hK
                      have H := Lib.hid h; clear h
                      refine wp_alloc_at rfl (.agg #[.int .u8 0, .int .u8 0, .int .i64 0, .int .i64 0, .bool false, .int .i64 0, .int .i64 0, .bool false, .int .i64 0, .int .i64 0, .int .i64 0, .int .i64 0, .int .i64 0]) [.int .u8 0, .int .u8 0, .int .i64 0, .int .i64 0, .bool false, .int .i64 0, .int .i64 0, .bool false, .int .i64 0, .int .i64 0, .int .i64 0, .int .i64 0, .int .i64 0] rfl (by kernel_rfl) ?_
                      have h := H.out.keep (Below_alloc' wx (.cells (List.toArray [.int .u8 0, .int .u8 0, .int .i64 0, .int .i64 0, .bool false, .int .i64 0, .int .i64 0, .bool false, .int .i64 0, .int .i64 0, .int .i64 0, .int .i64 0, .int .i64 0]) 67))
                      have hbz := Blk.new wx 67 [.int .u8 0, .int .u8 0, .int .i64 0, .int .i64 0, .bool false, .int .i64 0, .int .i64 0, .bool false, .int .i64 0, .int .i64 0, .int .i64 0, .int .i64 0, .int .i64 0]
                      have hwz := H.out.below.size
                      refine HK.out _ _ {
                        fr := h.fr.put (by decide) _
                        below := h.below
                        s19 := fun _ => ⟨wx.heap.size, [.int .u8 0, .int .u8 0, .int .i64 0, .int .i64 0, .bool false, .int .i64 0, .int .i64 0, .bool false, .int .i64 0, .int .i64 0, .int .i64 0, .int .i64 0, .int .i64 0], h.fr.eval_put (by rw [hsz]; decide) _, hwz, hbz, rfl, fun h8 => by
                          rw [upD_ne _ (by decide)] at h8
                          have := (h.o21 h8).2
                          rw [hD] at this
                          cases this⟩
                        ne18_19 := fun h6 h7 => by
                          rw [upD_ne _ (by decide)] at h6
                          obtain ⟨X, cs, e, e1, e2, e3, e4⟩ := H.out.s18 h6
                          have := e2.lt
                          rw [h.fr.eval_put (by rw [hsz]; decide), eval_put_ne (by decide), e]
                          intro e'
                          injection e' with e'
                          injection e' with e'
                          injection e' with e' _ _
                          omega
                        s0 := by simpa [upD, eval_put_ne, put_none] using h.s0
                        s1 := by simpa [upD, eval_put_ne, put_none] using h.s1
                        s2 := by simpa [upD, eval_put_ne, put_none] using h.s2
                        s3 := by simpa [upD, eval_put_ne, put_none] using h.s3
                        s4 := by simpa [upD, eval_put_ne, put_none] using h.s4
                        s5 := by simpa [upD, eval_put_ne, put_none] using h.s5
                        s6 := by simpa [upD, eval_put_ne, put_none] using h.s6
                        s7 := by simpa [upD, eval_put_ne, put_none] using h.s7
                        s8 := by simpa [upD, eval_put_ne, put_none] using h.s8
                        s9 := by simpa [upD, eval_put_ne, put_none] using h.s9
                        s10 := by simpa [upD, eval_put_ne, put_none] using h.s10
                        s11 := by simpa [upD, eval_put_ne, put_none] using h.s11
                        s12 := by simpa [upD, eval_put_ne, put_none] using h.s12
                        s13 := by simpa [upD, eval_put_ne, put_none] using h.s13
                        s14 := by simpa [upD, eval_put_ne, put_none] using h.s14
                        s15 := by simpa [upD, eval_put_ne, put_none] using h.s15
                        s16 := by simpa [upD, eval_put_ne, put_none] using h.s16
                        s17 := by simpa [upD, eval_put_ne, put_none] using h.s17
                        s18 := by simpa [upD, eval_put_ne, put_none] using h.s18
                        o20 := fun hd => by rw [upD_ne _ (by decide)] at hd; exact ⟨upD_mono (h.o20 hd).1, upD_mono (h.o20 hd).2⟩
                        o21 := fun hd => by rw [upD_ne _ (by decide)] at hd; exact ⟨upD_mono (h.o21 hd).1, upD_mono (h.o21 hd).2⟩ }
                    · -- 20
                      intro D a wx K hD hp h hK
                      refine step_wp rfl ?_
                      obtain ⟨X, cs, e, e1, e2, e3, -⟩ := h.s18 (hp 18 (by decide))
                      have f1 := h.s8 (hp 8 (by decide))
                      refine wp_store_row 67 _ _ rfl X _ e f1 67 cs.toArray e2 (by rw [List.size_toArray, HAL.out]; kernel_rfl) (by simp [e3, HAL.out]) (by exact HAO.out) ?_
                      refine hK _ _ {
                        fr := h.fr
                        below := below_row h.below e1 _
                        s18 := fun _ => ⟨X, _, e, e1, Blk.setRow (cs' := n1.cells) e2, HAL.out, fun _ => f1⟩
                        s19 := fun hd => by
                          rw [upD_ne _ (by decide)] at hd
                          obtain ⟨Y, ds, p, p1, p2, p3, p4⟩ := h.s19 hd
                          have hne : Y ≠ X := fun q => by
                            subst q
                            exact h.ne18_19 (hp 18 (by decide)) hd (e.trans p.symm)
                          exact ⟨Y, ds, p, p1, (heap_setRow_ne hne _).trans p2, p3, fun hk => p4 (by rwa [upD_ne _ (by decide)] at hk)⟩
                        s0 := by simpa [upD, eval_put_ne, put_none] using h.s0
                        s1 := by simpa [upD, eval_put_ne, put_none] using h.s1
                        s2 := by simpa [upD, eval_put_ne, put_none] using h.s2
                        s3 := by simpa [upD, eval_put_ne, put_none] using h.s3
                        s4 := by simpa [upD, eval_put_ne, put_none] using h.s4
                        s5 := by simpa [upD, eval_put_ne, put_none] using h.s5
                        s6 := by simpa [upD, eval_put_ne, put_none] using h.s6
                        s7 := by simpa [upD, eval_put_ne, put_none] using h.s7
                        s8 := by simpa [upD, eval_put_ne, put_none] using h.s8
                        s9 := by simpa [upD, eval_put_ne, put_none] using h.s9
                        s10 := by simpa [upD, eval_put_ne, put_none] using h.s10
                        s11 := by simpa [upD, eval_put_ne, put_none] using h.s11
                        s12 := by simpa [upD, eval_put_ne, put_none] using h.s12
                        s13 := by simpa [upD, eval_put_ne, put_none] using h.s13
                        s14 := by simpa [upD, eval_put_ne, put_none] using h.s14
                        s15 := by simpa [upD, eval_put_ne, put_none] using h.s15
                        s16 := by simpa [upD, eval_put_ne, put_none] using h.s16
                        s17 := by simpa [upD, eval_put_ne, put_none] using h.s17
                        ne18_19 := by simpa [upD, eval_put_ne, put_none] using h.ne18_19
                        o20 := fun _ => ⟨upD_mono (hp 8 (by decide)), upD_mono (hp 18 (by decide))⟩
                        o21 := fun hd => by rw [upD_ne _ (by decide)] at hd; exact ⟨upD_mono (h.o21 hd).1, upD_mono (h.o21 hd).2⟩ }
                    · -- 21
                      intro D a wx K hD hp h hK
                      refine step_wp rfl ?_
                      obtain ⟨X, cs, e, e1, e2, e3, -⟩ := h.s19 (hp 19 (by decide))
                      have f1 := h.s17 (hp 17 (by decide))
                      refine wp_store_row 67 _ _ rfl X _ e f1 67 cs.toArray e2 (by rw [List.size_toArray, HBL.out]; kernel_rfl) (by simp [e3, HBL.out]) (by exact HBO.out) ?_
                      refine hK _ _ {
                        fr := h.fr
                        below := below_row h.below e1 _
                        s19 := fun _ => ⟨X, _, e, e1, Blk.setRow (cs' := n2.cells) e2, HBL.out, fun _ => f1⟩
                        s18 := fun hd => by
                          rw [upD_ne _ (by decide)] at hd
                          obtain ⟨Y, ds, p, p1, p2, p3, p4⟩ := h.s18 hd
                          have hne : Y ≠ X := fun q => by
                            subst q
                            exact h.ne18_19 hd (hp 19 (by decide)) (p.trans e.symm)
                          exact ⟨Y, ds, p, p1, (heap_setRow_ne hne _).trans p2, p3, fun hk => p4 (by rwa [upD_ne _ (by decide)] at hk)⟩
                        s0 := by simpa [upD, eval_put_ne, put_none] using h.s0
                        s1 := by simpa [upD, eval_put_ne, put_none] using h.s1
                        s2 := by simpa [upD, eval_put_ne, put_none] using h.s2
                        s3 := by simpa [upD, eval_put_ne, put_none] using h.s3
                        s4 := by simpa [upD, eval_put_ne, put_none] using h.s4
                        s5 := by simpa [upD, eval_put_ne, put_none] using h.s5
                        s6 := by simpa [upD, eval_put_ne, put_none] using h.s6
                        s7 := by simpa [upD, eval_put_ne, put_none] using h.s7
                        s8 := by simpa [upD, eval_put_ne, put_none] using h.s8
                        s9 := by simpa [upD, eval_put_ne, put_none] using h.s9
                        s10 := by simpa [upD, eval_put_ne, put_none] using h.s10
                        s11 := by simpa [upD, eval_put_ne, put_none] using h.s11
                        s12 := by simpa [upD, eval_put_ne, put_none] using h.s12
                        s13 := by simpa [upD, eval_put_ne, put_none] using h.s13
                        s14 := by simpa [upD, eval_put_ne, put_none] using h.s14
                        s15 := by simpa [upD, eval_put_ne, put_none] using h.s15
                        s16 := by simpa [upD, eval_put_ne, put_none] using h.s16
                        s17 := by simpa [upD, eval_put_ne, put_none] using h.s17
                        ne18_19 := by simpa [upD, eval_put_ne, put_none] using h.ne18_19
                        o20 := fun hd => by rw [upD_ne _ (by decide)] at hd; exact ⟨upD_mono (h.o20 hd).1, upD_mono (h.o20 hd).2⟩
                        o21 := fun _ => ⟨upD_mono (hp 17 (by decide)), upD_mono (hp 19 (by decide))⟩ }
                  case done =>
                    intro D a wc hall h
                    have hd : ∀ i, i < 22 → D i = true := hall
                    obtain ⟨X, ds, v14, eX, bX, -, cX⟩ := h.s18 (hd 18 (by decide))
                    obtain ⟨Y, es, v15, eY, bY, -, cY⟩ := h.s19 (hd 19 (by decide))
                    have cX := (cX (hd 20 (by decide))).symm.trans (h.s8 (hd 8 (by decide)))
                    have cY := (cY (hd 21 (by decide))).symm.trans (h.s17 (hd 17 (by decide)))
                    injection cX with cX
                    injection cY with cY
                    obtain rfl : n1.cells = ds := by simpa using (congrArg Array.toList cX).symm
                    obtain rfl : n2.cells = es := by simpa using (congrArg Array.toList cY).symm
                    have hfin := ((((((((((((((((((((h.fr.shut (by rw [hsz]; decide)).shut (by simp [Act.put, hsz])).shut (by simp [Act.put, hsz])).shut (by simp [Act.put, hsz])).shut (by simp [Act.put, hsz])).shut (by simp [Act.put, hsz])).shut (by simp [Act.put, hsz])).shut (by simp [Act.put, hsz])).shut (by simp [Act.put, hsz])).shut (by simp [Act.put, hsz])).shut (by simp [Act.put, hsz])).shut (by simp [Act.put, hsz])).shut (by simp [Act.put, hsz])).shut (by simp [Act.put, hsz])).shut (by simp [Act.put, hsz])).shut (by simp [Act.put, hsz])).shut (by simp [Act.put, hsz])).shut (by simp [Act.put, hsz])).shut (by simp [Act.put, hsz])).shut (by simp [Act.put, hsz])).done
                    rw [v14, v15, h.s0 (hd 0 (by decide)), h.s1 (hd 1 (by decide)), h.s2 (hd 2 (by decide)), h.s3 (hd 3 (by decide)), h.s4 (hd 4 (by decide)), h.s5 (hd 5 (by decide)), h.s6 (hd 6 (by decide)), h.s7 (hd 7 (by decide)), h.s8 (hd 8 (by decide)), h.s9 (hd 9 (by decide)), h.s10 (hd 10 (by decide)), h.s11 (hd 11 (by decide)), h.s12 (hd 12 (by decide)), h.s13 (hd 13 (by decide)), h.s14 (hd 14 (by decide)), h.s15 (hd 15 (by decide)), h.s16 (hd 16 (by decide)), h.s17 (hd 17 (by decide))] at hfin
                    have HB := Lib.hid (And.intro (And.intro bX bY) h.below)
                    rw [hfin, HA0.out]
                    clear hfin HA0 h hall hd v14 v15 cX cY eX eY t2 t10 t11 t12 t13 hsz bX bY
                    simp only [Act.put, List.setIfInBounds_toArray, List.set_cons_zero, List.set_cons_succ]
                    go_upto_region 19 with fail
                    obtain ⟨rx, hrx⟩ : ∃ r, rdB n1 = r := ⟨_, rfl⟩
                    obtain ⟨wx, hwx⟩ : ∃ r, wrB n1 = r := ⟨_, rfl⟩
                    obtain ⟨ry, hry⟩ : ∃ r, rdB n2 = r := ⟨_, rfl⟩
                    obtain ⟨wy, hwy⟩ : ∃ r, wrB n2 = r := ⟨_, rfl⟩
                    have HRX := Lib.hid hrx; have HWX := Lib.hid hwx; have HRY := Lib.hid hry; have HWY := Lib.hid hwy
                    obtain ⟨tt, htt⟩ : ∃ r, ((rx || wx) && (ry || wy)) = r := ⟨_, rfl⟩
                    obtain ⟨sk, hsk⟩ : ∃ r, (!tt || (!(decide (n1.thing = n2.thing)) || (!wx && !wy))) = r := ⟨_, rfl⟩
                    have HTT := Lib.hid htt; have HSK := Lib.hid hsk
                    clear hrx hwx hry hwy htt hsk
                    go_cut [16] from 70 to 164 (fun v16 wz => v16 = .bool tt ∧ Hid ((Blk wz X 67 n1.cells ∧ Blk wz Y 67 n2.cells) ∧ Below W0.heap.size W0 wz))
                    case first =>
                      have HTT := HTT.out
                      have HTT := Lib.hid HTT
--A
                      cases rx
                      · cases wx
                        · skip
                          go_wp2_with (first
                            | (refine wpList_load_at rfl 67 _ rfl X 0 rfl n1.cells _ (fun j v hj => by rw [Nat.zero_add, HB.out.1.1.cell]; exact hj) Try.underlying67 rfl (by kernel_rfl) ?_)
                            | (refine wpList_load_at_g (by rfl) 67 _ rfl X 0 rfl n1.cells _ (fun j v hj => by rw [Nat.zero_add, HB.out.1.1.cell]; exact hj) Try.underlying67 rfl (by kernel_rfl) ?_))
                          refine (reads9_calls n1 _).mono ?_
                          rintro e w3 ⟨rfl, hb3⟩
                          rw [HRX.out]
                          have HB := Lib.hid (two_below HB.out hb3)
                          clear hb3
                          go_wp2_with (first
                            | (refine wpList_load_at rfl 67 _ rfl X 0 rfl n1.cells _ (fun j v hj => by rw [Nat.zero_add, HB.out.1.1.cell]; exact hj) Try.underlying67 rfl (by kernel_rfl) ?_)
                            | (refine wpList_load_at_g (by rfl) 67 _ rfl X 0 rfl n1.cells _ (fun j v hj => by rw [Nat.zero_add, HB.out.1.1.cell]; exact hj) Try.underlying67 rfl (by kernel_rfl) ?_))
                          refine (writes9_calls n1 _).mono ?_
                          rintro e w3 ⟨rfl, hb3⟩
                          rw [HWX.out]
                          have HB := Lib.hid (two_below HB.out hb3)
                          clear hb3
                          go_wp2_with fail
                          go_meet
                          case rel => exact ⟨congrArg Value.bool HTT.out, HB⟩
                        · skip
                          cases ry
                          · cases wy
                            · skip
                              go_wp2_with (first
                                | (refine wpList_load_at rfl 67 _ rfl X 0 rfl n1.cells _ (fun j v hj => by rw [Nat.zero_add, HB.out.1.1.cell]; exact hj) Try.underlying67 rfl (by kernel_rfl) ?_)
                                | (refine wpList_load_at_g (by rfl) 67 _ rfl X 0 rfl n1.cells _ (fun j v hj => by rw [Nat.zero_add, HB.out.1.1.cell]; exact hj) Try.underlying67 rfl (by kernel_rfl) ?_))
                              refine (reads9_calls n1 _).mono ?_
                              rintro e w3 ⟨rfl, hb3⟩
                              rw [HRX.out]
                              have HB := Lib.hid (two_below HB.out hb3)
                              clear hb3
                              go_wp2_with (first
                                | (refine wpList_load_at rfl 67 _ rfl X 0 rfl n1.cells _ (fun j v hj => by rw [Nat.zero_add, HB.out.1.1.cell]; exact hj) Try.underlying67 rfl (by kernel_rfl) ?_)
                                | (refine wpList_load_at_g (by rfl) 67 _ rfl X 0 rfl n1.cells _ (fun j v hj => by rw [Nat.zero_add, HB.out.1.1.cell]; exact hj) Try.underlying67 rfl (by kernel_rfl) ?_))
                              refine (writes9_calls n1 _).mono ?_
                              rintro e w3 ⟨rfl, hb3⟩
                              rw [HWX.out]
                              have HB := Lib.hid (two_below HB.out hb3)
                              clear hb3
                              go_wp2_with (first
                                | (refine wpList_load_at rfl 67 _ rfl Y 0 rfl n2.cells _ (fun j v hj => by rw [Nat.zero_add, HB.out.1.2.cell]; exact hj) Try.underlying67 rfl (by kernel_rfl) ?_)
                                | (refine wpList_load_at_g (by rfl) 67 _ rfl Y 0 rfl n2.cells _ (fun j v hj => by rw [Nat.zero_add, HB.out.1.2.cell]; exact hj) Try.underlying67 rfl (by kernel_rfl) ?_))
                              refine (reads9_calls n2 _).mono ?_
                              rintro e w3 ⟨rfl, hb3⟩
                              rw [HRY.out]
                              have HB := Lib.hid (two_below HB.out hb3)
                              clear hb3
                              go_wp2_with (first
                                | (refine wpList_load_at rfl 67 _ rfl Y 0 rfl n2.cells _ (fun j v hj => by rw [Nat.zero_add, HB.out.1.2.cell]; exact hj) Try.underlying67 rfl (by kernel_rfl) ?_)
                                | (refine wpList_load_at_g (by rfl) 67 _ rfl Y 0 rfl n2.cells _ (fun j v hj => by rw [Nat.zero_add, HB.out.1.2.cell]; exact hj) Try.underlying67 rfl (by kernel_rfl) ?_))
                              refine (writes9_calls n2 _).mono ?_
                              rintro e w3 ⟨rfl, hb3⟩
                              rw [HWY.out]
                              have HB := Lib.hid (two_below HB.out hb3)
                              clear hb3
                              go_wp2_with fail
                              go_meet
                              case rel => exact ⟨congrArg Value.bool HTT.out, HB⟩
                            · skip
                              go_wp2_with (first
                                | (refine wpList_load_at rfl 67 _ rfl X 0 rfl n1.cells _ (fun j v hj => by rw [Nat.zero_add, HB.out.1.1.cell]; exact hj) Try.underlying67 rfl (by kernel_rfl) ?_)
                                | (refine wpList_load_at_g (by rfl) 67 _ rfl X 0 rfl n1.cells _ (fun j v hj => by rw [Nat.zero_add, HB.out.1.1.cell]; exact hj) Try.underlying67 rfl (by kernel_rfl) ?_))
                              refine (reads9_calls n1 _).mono ?_
                              rintro e w3 ⟨rfl, hb3⟩
                              rw [HRX.out]
                              have HB := Lib.hid (two_below HB.out hb3)
                              clear hb3
                              go_wp2_with (first
                                | (refine wpList_load_at rfl 67 _ rfl X 0 rfl n1.cells _ (fun j v hj => by rw [Nat.zero_add, HB.out.1.1.cell]; exact hj) Try.underlying67 rfl (by kernel_rfl) ?_)
                                | (refine wpList_load_at_g (by rfl) 67 _ rfl X 0 rfl n1.cells _ (fun j v hj => by rw [Nat.zero_add, HB.out.1.1.cell]; exact hj) Try.underlying67 rfl (by kernel_rfl) ?_))
                              refine (writes9_calls n1 _).mono ?_
                              rintro e w3 ⟨rfl, hb3⟩
                              rw [HWX.out]
                              have HB := Lib.hid (two_below HB.out hb3)
                              clear hb3
                              go_wp2_with (first
                                | (refine wpList_load_at rfl 67 _ rfl Y 0 rfl n2.cells _ (fun j v hj => by rw [Nat.zero_add, HB.out.1.2.cell]; exact hj) Try.underlying67 rfl (by kernel_rfl) ?_)
                                | (refine wpList_load_at_g (by rfl) 67 _ rfl Y 0 rfl n2.cells _ (fun j v hj => by rw [Nat.zero_add, HB.out.1.2.cell]; exact hj) Try.underlying67 rfl (by kernel_rfl) ?_))
                              refine (reads9_calls n2 _).mono ?_
                              rintro e w3 ⟨rfl, hb3⟩
                              rw [HRY.out]
                              have HB := Lib.hid (two_below HB.out hb3)
                              clear hb3
                              go_wp2_with (first
                                | (refine wpList_load_at rfl 67 _ rfl Y 0 rfl n2.cells _ (fun j v hj => by rw [Nat.zero_add, HB.out.1.2.cell]; exact hj) Try.underlying67 rfl (by kernel_rfl) ?_)
                                | (refine wpList_load_at_g (by rfl) 67 _ rfl Y 0 rfl n2.cells _ (fun j v hj => by rw [Nat.zero_add, HB.out.1.2.cell]; exact hj) Try.underlying67 rfl (by kernel_rfl) ?_))
                              refine (writes9_calls n2 _).mono ?_
                              rintro e w3 ⟨rfl, hb3⟩
                              rw [HWY.out]
                              have HB := Lib.hid (two_below HB.out hb3)
                              clear hb3
                              go_wp2_with fail
                              go_meet
                              case rel => exact ⟨congrArg Value.bool HTT.out, HB⟩
                          · skip
                            go_wp2_with (first
                              | (refine wpList_load_at rfl 67 _ rfl X 0 rfl n1.cells _ (fun j v hj => by rw [Nat.zero_add, HB.out.1.1.cell]; exact hj) Try.underlying67 rfl (by kernel_rfl) ?_)
                              | (refine wpList_load_at_g (by rfl) 67 _ rfl X 0 rfl n1.cells _ (fun j v hj => by rw [Nat.zero_add, HB.out.1.1.cell]; exact hj) Try.underlying67 rfl (by kernel_rfl) ?_))
                            refine (reads9_calls n1 _).mono ?_
                            rintro e w3 ⟨rfl, hb3⟩
                            rw [HRX.out]
                            have HB := Lib.hid (two_below HB.out hb3)
                            clear hb3
                            go_wp2_with (first
                              | (refine wpList_load_at rfl 67 _ rfl X 0 rfl n1.cells _ (fun j v hj => by rw [Nat.zero_add, HB.out.1.1.cell]; exact hj) Try.underlying67 rfl (by kernel_rfl) ?_)
                              | (refine wpList_load_at_g (by rfl) 67 _ rfl X 0 rfl n1.cells _ (fun j v hj => by rw [Nat.zero_add, HB.out.1.1.cell]; exact hj) Try.underlying67 rfl (by kernel_rfl) ?_))
                            refine (writes9_calls n1 _).mono ?_
                            rintro e w3 ⟨rfl, hb3⟩
                            rw [HWX.out]
                            have HB := Lib.hid (two_below HB.out hb3)
                            clear hb3
                            go_wp2_with (first
                              | (refine wpList_load_at rfl 67 _ rfl Y 0 rfl n2.cells _ (fun j v hj => by rw [Nat.zero_add, HB.out.1.2.cell]; exact hj) Try.underlying67 rfl (by kernel_rfl) ?_)
                              | (refine wpList_load_at_g (by rfl) 67 _ rfl Y 0 rfl n2.cells _ (fun j v hj => by rw [Nat.zero_add, HB.out.1.2.cell]; exact hj) Try.underlying67 rfl (by kernel_rfl) ?_))
                            refine (reads9_calls n2 _).mono ?_
                            rintro e w3 ⟨rfl, hb3⟩
                            rw [HRY.out]
                            have HB := Lib.hid (two_below HB.out hb3)
                            clear hb3
                            go_wp2_with fail
                            go_meet
                            case rel => exact ⟨congrArg Value.bool HTT.out, HB⟩
                      · skip
                        cases ry
                        · cases wy
                          · skip
                            go_wp2_with (first
                              | (refine wpList_load_at rfl 67 _ rfl X 0 rfl n1.cells _ (fun j v hj => by rw [Nat.zero_add, HB.out.1.1.cell]; exact hj) Try.underlying67 rfl (by kernel_rfl) ?_)
                              | (refine wpList_load_at_g (by rfl) 67 _ rfl X 0 rfl n1.cells _ (fun j v hj => by rw [Nat.zero_add, HB.out.1.1.cell]; exact hj) Try.underlying67 rfl (by kernel_rfl) ?_))
                            refine (reads9_calls n1 _).mono ?_
                            rintro e w3 ⟨rfl, hb3⟩
                            rw [HRX.out]
                            have HB := Lib.hid (two_below HB.out hb3)
                            clear hb3
                            go_wp2_with (first
                              | (refine wpList_load_at rfl 67 _ rfl Y 0 rfl n2.cells _ (fun j v hj => by rw [Nat.zero_add, HB.out.1.2.cell]; exact hj) Try.underlying67 rfl (by kernel_rfl) ?_)
                              | (refine wpList_load_at_g (by rfl) 67 _ rfl Y 0 rfl n2.cells _ (fun j v hj => by rw [Nat.zero_add, HB.out.1.2.cell]; exact hj) Try.underlying67 rfl (by kernel_rfl) ?_))
                            refine (reads9_calls n2 _).mono ?_
                            rintro e w3 ⟨rfl, hb3⟩
                            rw [HRY.out]
                            have HB := Lib.hid (two_below HB.out hb3)
                            clear hb3
                            go_wp2_with (first
                              | (refine wpList_load_at rfl 67 _ rfl Y 0 rfl n2.cells _ (fun j v hj => by rw [Nat.zero_add, HB.out.1.2.cell]; exact hj) Try.underlying67 rfl (by kernel_rfl) ?_)
                              | (refine wpList_load_at_g (by rfl) 67 _ rfl Y 0 rfl n2.cells _ (fun j v hj => by rw [Nat.zero_add, HB.out.1.2.cell]; exact hj) Try.underlying67 rfl (by kernel_rfl) ?_))
                            refine (writes9_calls n2 _).mono ?_
                            rintro e w3 ⟨rfl, hb3⟩
                            rw [HWY.out]
                            have HB := Lib.hid (two_below HB.out hb3)
                            clear hb3
                            go_wp2_with fail
                            go_meet
                            case rel => exact ⟨congrArg Value.bool HTT.out, HB⟩
                          · skip
                            go_wp2_with (first
                              | (refine wpList_load_at rfl 67 _ rfl X 0 rfl n1.cells _ (fun j v hj => by rw [Nat.zero_add, HB.out.1.1.cell]; exact hj) Try.underlying67 rfl (by kernel_rfl) ?_)
                              | (refine wpList_load_at_g (by rfl) 67 _ rfl X 0 rfl n1.cells _ (fun j v hj => by rw [Nat.zero_add, HB.out.1.1.cell]; exact hj) Try.underlying67 rfl (by kernel_rfl) ?_))
                            refine (reads9_calls n1 _).mono ?_
                            rintro e w3 ⟨rfl, hb3⟩
                            rw [HRX.out]
                            have HB := Lib.hid (two_below HB.out hb3)
                            clear hb3
                            go_wp2_with (first
                              | (refine wpList_load_at rfl 67 _ rfl Y 0 rfl n2.cells _ (fun j v hj => by rw [Nat.zero_add, HB.out.1.2.cell]; exact hj) Try.underlying67 rfl (by kernel_rfl) ?_)
                              | (refine wpList_load_at_g (by rfl) 67 _ rfl Y 0 rfl n2.cells _ (fun j v hj => by rw [Nat.zero_add, HB.out.1.2.cell]; exact hj) Try.underlying67 rfl (by kernel_rfl) ?_))
                            refine (reads9_calls n2 _).mono ?_
                            rintro e w3 ⟨rfl, hb3⟩
                            rw [HRY.out]
                            have HB := Lib.hid (two_below HB.out hb3)
                            clear hb3
                            go_wp2_with (first
                              | (refine wpList_load_at rfl 67 _ rfl Y 0 rfl n2.cells _ (fun j v hj => by rw [Nat.zero_add, HB.out.1.2.cell]; exact hj) Try.underlying67 rfl (by kernel_rfl) ?_)
                              | (refine wpList_load_at_g (by rfl) 67 _ rfl Y 0 rfl n2.cells _ (fun j v hj => by rw [Nat.zero_add, HB.out.1.2.cell]; exact hj) Try.underlying67 rfl (by kernel_rfl) ?_))
                            refine (writes9_calls n2 _).mono ?_
                            rintro e w3 ⟨rfl, hb3⟩
                            rw [HWY.out]
                            have HB := Lib.hid (two_below HB.out hb3)
                            clear hb3
                            go_wp2_with fail
                            go_meet
                            case rel => exact ⟨congrArg Value.bool HTT.out, HB⟩
                        · skip
                          go_wp2_with (first
                            | (refine wpList_load_at rfl 67 _ rfl X 0 rfl n1.cells _ (fun j v hj => by rw [Nat.zero_add, HB.out.1.1.cell]; exact hj) Try.underlying67 rfl (by kernel_rfl) ?_)
                            | (refine wpList_load_at_g (by rfl) 67 _ rfl X 0 rfl n1.cells _ (fun j v hj => by rw [Nat.zero_add, HB.out.1.1.cell]; exact hj) Try.underlying67 rfl (by kernel_rfl) ?_))
                          refine (reads9_calls n1 _).mono ?_
                          rintro e w3 ⟨rfl, hb3⟩
                          rw [HRX.out]
                          have HB := Lib.hid (two_below HB.out hb3)
                          clear hb3
                          go_wp2_with (first
                            | (refine wpList_load_at rfl 67 _ rfl Y 0 rfl n2.cells _ (fun j v hj => by rw [Nat.zero_add, HB.out.1.2.cell]; exact hj) Try.underlying67 rfl (by kernel_rfl) ?_)
                            | (refine wpList_load_at_g (by rfl) 67 _ rfl Y 0 rfl n2.cells _ (fun j v hj => by rw [Nat.zero_add, HB.out.1.2.cell]; exact hj) Try.underlying67 rfl (by kernel_rfl) ?_))
                          refine (reads9_calls n2 _).mono ?_
                          rintro e w3 ⟨rfl, hb3⟩
                          rw [HRY.out]
                          have HB := Lib.hid (two_below HB.out hb3)
                          clear hb3
                          go_wp2_with fail
                          go_meet
                          case rel => exact ⟨congrArg Value.bool HTT.out, HB⟩
--a
                    case rest =>
                      obtain ⟨rfl, HB⟩ := hcut
                      go_upto_region 20 with fail
                      have c1 : wc.cell? ⟨X, 3, none⟩ = some (.int .i64 n1.thing) := HB.out.1.1.cell 3
                      have c2 : wc.cell? ⟨Y, 3, none⟩ = some (.int .i64 n2.thing) := HB.out.1.2.cell 3
                      go_cut [143] from 70 to 164 (fun v143 wz => v143 = .bool sk ∧ Hid ((Blk wz X 67 n1.cells ∧ Blk wz Y 67 n2.cells) ∧ Below W0.heap.size W0 wz))
                      case first =>
                        cases tt
                        · go_wp2_with fail
                          go_meet
                          case rel => exact ⟨congrArg Value.bool (by rw [← HSK.out]; rfl), HB⟩
                        · by_cases hth : n1.thing = n2.thing
                          · have eb : (n1.thing != n2.thing) = false := by simp [hth]
                            have HE : Hid (decide (n1.thing = n2.thing) = true) := Lib.hid (decide_eq_true hth)
                            clear hth
--B
                            cases wx
                            · cases wy
                              · skip
                                go_wp2_with (first
                                  | (refine wpList_load_at rfl 67 _ rfl X 0 rfl n1.cells _ (fun j v hj => by rw [Nat.zero_add, HB.out.1.1.cell]; exact hj) Try.underlying67 rfl (by kernel_rfl) ?_)
                                  | (refine wpList_load_at_g (by rfl) 67 _ rfl X 0 rfl n1.cells _ (fun j v hj => by rw [Nat.zero_add, HB.out.1.1.cell]; exact hj) Try.underlying67 rfl (by kernel_rfl) ?_))
                                refine (writes9_calls n1 _).mono ?_
                                rintro e w3 ⟨rfl, hb3⟩
                                rw [HWX.out]
                                have HB := Lib.hid (two_below HB.out hb3)
                                clear hb3
                                go_wp2_with (first
                                  | (refine wpList_load_at rfl 67 _ rfl Y 0 rfl n2.cells _ (fun j v hj => by rw [Nat.zero_add, HB.out.1.2.cell]; exact hj) Try.underlying67 rfl (by kernel_rfl) ?_)
                                  | (refine wpList_load_at_g (by rfl) 67 _ rfl Y 0 rfl n2.cells _ (fun j v hj => by rw [Nat.zero_add, HB.out.1.2.cell]; exact hj) Try.underlying67 rfl (by kernel_rfl) ?_))
                                refine (writes9_calls n2 _).mono ?_
                                rintro e w3 ⟨rfl, hb3⟩
                                rw [HWY.out]
                                have HB := Lib.hid (two_below HB.out hb3)
                                clear hb3
                                go_wp2_with fail
                                go_meet
                                case rel => exact ⟨congrArg Value.bool (by rw [← HSK.out, HE.out]; rfl), HB⟩
                              · skip
                                go_wp2_with (first
                                  | (refine wpList_load_at rfl 67 _ rfl X 0 rfl n1.cells _ (fun j v hj => by rw [Nat.zero_add, HB.out.1.1.cell]; exact hj) Try.underlying67 rfl (by kernel_rfl) ?_)
                                  | (refine wpList_load_at_g (by rfl) 67 _ rfl X 0 rfl n1.cells _ (fun j v hj => by rw [Nat.zero_add, HB.out.1.1.cell]; exact hj) Try.underlying67 rfl (by kernel_rfl) ?_))
                                refine (writes9_calls n1 _).mono ?_
                                rintro e w3 ⟨rfl, hb3⟩
                                rw [HWX.out]
                                have HB := Lib.hid (two_below HB.out hb3)
                                clear hb3
                                go_wp2_with (first
                                  | (refine wpList_load_at rfl 67 _ rfl Y 0 rfl n2.cells _ (fun j v hj => by rw [Nat.zero_add, HB.out.1.2.cell]; exact hj) Try.underlying67 rfl (by kernel_rfl) ?_)
                                  | (refine wpList_load_at_g (by rfl) 67 _ rfl Y 0 rfl n2.cells _ (fun j v hj => by rw [Nat.zero_add, HB.out.1.2.cell]; exact hj) Try.underlying67 rfl (by kernel_rfl) ?_))
                                refine (writes9_calls n2 _).mono ?_
                                rintro e w3 ⟨rfl, hb3⟩
                                rw [HWY.out]
                                have HB := Lib.hid (two_below HB.out hb3)
                                clear hb3
                                go_wp2_with fail
                                go_meet
                                case rel => exact ⟨congrArg Value.bool (by rw [← HSK.out, HE.out]; rfl), HB⟩
                            · skip
                              go_wp2_with (first
                                | (refine wpList_load_at rfl 67 _ rfl X 0 rfl n1.cells _ (fun j v hj => by rw [Nat.zero_add, HB.out.1.1.cell]; exact hj) Try.underlying67 rfl (by kernel_rfl) ?_)
                                | (refine wpList_load_at_g (by rfl) 67 _ rfl X 0 rfl n1.cells _ (fun j v hj => by rw [Nat.zero_add, HB.out.1.1.cell]; exact hj) Try.underlying67 rfl (by kernel_rfl) ?_))
                              refine (writes9_calls n1 _).mono ?_
                              rintro e w3 ⟨rfl, hb3⟩
                              rw [HWX.out]
                              have HB := Lib.hid (two_below HB.out hb3)
                              clear hb3
                              go_wp2_with fail
                              go_meet
                              case rel => exact ⟨congrArg Value.bool (by rw [← HSK.out, HE.out]; rfl), HB⟩
--b
                          · have eb : (n1.thing != n2.thing) = true := by simp [hth]
                            have HE : Hid (decide (n1.thing = n2.thing) = false) := Lib.hid (decide_eq_false hth)
                            clear hth
                            go_wp2_with fail
                            go_meet
                            case rel => exact ⟨congrArg Value.bool (by rw [← HSK.out, HE.out]; rfl), HB⟩
                      case rest =>
                        clear c1 c2
                        obtain ⟨rfl, HB⟩ := hcut
                        have HHc := Lib.hid (HH0.out.below HB.out.2)
                        cases sk
                        rotate_left
                        · go_wp2_with fail
                          go_roundw
                          case rel => exact ⟨tb + 1, by go_num, by omega, by omega, HHc⟩
                          case measure => simp [intOf]; omega
                        have hin : (ta, ia, tb, ib) ∈ QL := by
                          have h1 := HSK.out
                          have h2 := HTT.out
                          simp only [Bool.or_eq_false_iff, Bool.not_eq_false', decide_eq_true_eq] at h1
                          obtain ⟨h3, h4, h5⟩ := h1
                          rw [h3, Bool.and_eq_true] at h2
                          rw [← HQL.out]
                          refine once_race HK.out.1 HH0.out.situ hab HST.out.1 HST.out.2 ?_ ?_ h4 ?_
                          · rw [touch_rw, HRX.out, HWX.out]; exact h2.1
                          · rw [touch_rw, HRY.out, HWY.out]; exact h2.2
                          · rw [HWX.out, HWY.out]
                            cases wx
                            · cases wy
                              · cases h5
                              · exact .inr rfl
                            · exact .inl rfl
                        have HIN := Lib.hid hin
--C
                        clear hin HRX HRY HWX HWY HSK HTT HH0
                        go_wp2_with fail
                        go_loopw [146, 17, 19] (fun i v17 _ wr => ∃ (q : Nat) (f : Bool), i = .int .i64 q ∧ q ≤ QL.length ∧ v17 = .bool f ∧ Hid (f = true ↔ (ta, ia, tb, ib) ∈ QL.take q) ∧ Hid (OnceAt w w4 wr R g L u Z k mk)) (fun i _ _ _ => QL.length - (intOf i).toNat)
                        case atStart => exact ⟨0, false, rfl, by omega, rfl, Lib.hid (by simp), HHc⟩
                        case round =>
                          clear HB HHc
                          obtain ⟨q, f, rfl, hq, rfl, HF, HHc⟩ := hrel
                          by_cases hql2 : q < QL.length
                          · obtain ⟨d, hd⟩ : ∃ d, QL[q]? = some d := ⟨_, List.getElem?_eq_getElem hql2⟩
                            obtain ⟨qb, qo, rfl, gq⟩ := (HT4.out.mono (HHc.out.kz.trans (on_le _ _))).at_ hd
                            have gq := Cells_plain gq
                            have HD := Lib.hid hd
                            have q10 : wr.cell? ⟨qb, qo + q * 4, none⟩ = some (.int .i64 d.1) := gq 0 _ rfl
                            have q11 : wr.cell? ⟨qb, qo + q * 4 + 1, none⟩ = some (.int .i64 d.2.1) := gq 1 _ rfl
                            have q12 : wr.cell? ⟨qb, qo + q * 4 + 2, none⟩ = some (.int .i64 d.2.2.1) := gq 2 _ rfl
                            have q13 : wr.cell? ⟨qb, qo + q * 4 + 3, none⟩ = some (.int .i64 d.2.2.2) := gq 3 _ rfl
                            have q0 : (0 : Int) ≤ q := by omega
                            have q1 : (q : Int) < QL.length := by omega
                            have hm : Try.prog.eqGuardType Try.prog.depth 46 = false := by kernel_rfl
                            have HHn := Lib.hid (HHc.out.below (Below_alloc' wr (.cells #[.int .i64 d.1, .int .i64 d.2.1, .int .i64 d.2.2.1, .int .i64 d.2.2.2] 46)))
                            clear gq hd HHc
                            obtain ⟨r, hr⟩ : ∃ r, decide (d = (ta, ia, tb, ib)) = r := ⟨_, rfl⟩
                            have HR := Lib.hid hr
                            have heq := eq_pairs (d.1 : Int) (d.2.1 : Int) (d.2.2.1 : Int) (d.2.2.2 : Int) (ta : Int) (ia : Int) (tb : Int) (ib : Int) r (by
                              rw [← hr]; obtain ⟨d1, d2, d3, d4⟩ := d
                              simp only [Prod.mk.injEq, Int.natCast_inj])
                            clear hr
                            have hn : (f || r) = true ↔ (ta, ia, tb, ib) ∈ QL.take (q + 1) := by
                              rw [List.take_add_one, HD.out, List.mem_append, ← HF.out, Bool.or_eq_true, ← HR.out, decide_eq_true_eq]
                              simp [eq_comm]
                            have HN := Lib.hid hn
                            clear hn HF HR HD
                            cases f
                            · go_wp2_with fail
                              go_roundw
                              case rel => exact ⟨q + 1, r, by go_num, by omega, rfl, HN, HHn⟩
                              case measure => simp [intOf]; omega
                            · go_wp2_with fail
                              go_roundw
                              case rel => exact ⟨q + 1, true, by go_num, by omega, rfl, HN, HHn⟩
                              case measure => simp [intOf]; omega
                          · obtain rfl : q = QL.length := by omega
                            have ft : f = true := HF.out.2 (by rw [List.take_length]; exact HIN.out)
                            have nq : ¬ ((QL.length : Int) < QL.length) := by omega
                            subst ft
                            clear hql2
                            go_wp2_with fail
                            go_roundw
                            case rel => exact ⟨tb + 1, by go_num, by omega, by omega, HHc⟩
                            case measure => simp [intOf]; omega
--c
                · have e1 : (barF u mk (ta : Int) == 0) = true := by simp [hca]
                  have e2 : (barF u mk (tb : Int) == 0) = false := by simp [hcb]
                  rw [e1] at HC
                  have HE2 := Lib.hid e2
                  clear hca hcb e1 e2
                  go_wp2_with fail
                  refine HC.out.mono ?_
                  rintro e wa ⟨rfl, hba⟩
                  have HHa := Lib.hid (HH.out.below hba)
                  obtain ⟨pv, hM, hmu⟩ := HHa.out.at_.ex
                  have HC2 := can_calls (tb : Int) hM HHa.out.situ.ok HK.out.1
                  rw [HE2.out] at HC2
                  have HC2 := Lib.hid HC2
                  clear hM hmu hba u2 HC
                  go_wp2_with fail
                  refine HC2.out.mono ?_
                  rintro e wb ⟨rfl, hbb⟩
                  have HHb := Lib.hid (HHa.out.below hbb)
                  clear hbb HC2
                  go_wp2_with fail
                  go_roundw
                  case rel => exact ⟨tb + 1, by go_num, by omega, by omega, HHb⟩
                  case measure => simp [intOf]; omega
              · have e1 : (barF u mk (ta : Int) == 0) = false := by simp [hca]
                rw [e1] at HC
                clear hca e1
                go_wp2_with fail
                refine HC.out.mono ?_
                rintro e wa ⟨rfl, hba⟩
                have HHa := Lib.hid (HH.out.below hba)
                clear hba u2 HC
                go_wp2_with fail
                go_roundw
                case rel => exact ⟨tb + 1, by go_num, by omega, by omega, HHa⟩
                case measure => simp [intOf]; omega
            · obtain rfl : tb = u.graphs.length := by omega
              have ng : ¬ ((u.graphs.length : Int) < u.graphs.length) := by omega
              clear hbl
              go_wp2_with fail
              go_roundw
              case rel => exact ⟨ta + 1, by go_num, by omega, HH⟩
              case measure => simp [intOf]; omega
        · obtain rfl : ta = u.graphs.length := by omega
          have ng : ¬ ((u.graphs.length : Int) < u.graphs.length) := by omega
          clear hal
          by_cases hkl : k < l.length
          · obtain ⟨t, ht⟩ : ∃ t, l[k]? = some t := ⟨_, List.getElem?_eq_getElem hkl⟩
            obtain ⟨sb, so, rfl, hsc⟩ := (HK.out.2.2.2.mono (cmap_below HH.out.at_.bel)).at_ ht
            rw [Nat.mul_one] at hsc
            have hcs : wr.cell? ⟨sb, so + k, none⟩ = some (.int .i64 t) := hsc
            obtain ⟨pv, hM, hmu⟩ := HH.out.at_.ex
            have i1 : (k : Int) < l.length := by omega
            have hstep := step_calls t hM HH.out.situ.ok HH.out.situ.mi HK.out.1 HK.out.2.1 (by have := HH.out.pr; omega) HH.out.at_.rl
            have hss := HH.out.situ.step HK.out.1 HK.out.2.1 t
            have hpp := step_prints HH.out.situ.ok t
            obtain ⟨d, hdd⟩ : ∃ d, stepD u mk t = d := ⟨_, rfl⟩
            obtain ⟨mn, hmn⟩ : ∃ mn, stepM u mk t = mn := ⟨_, rfl⟩
            obtain ⟨r, hr⟩ : ∃ r, barF u mk t = r := ⟨_, rfl⟩
            rw [hdd, hmn, hr] at hstep
            rw [hmn] at hss hpp
            have hnext : ∀ w6, MadeP wr w6 R g { L with pv := pv } u mn → OnceAt w w4 w6 R g L u Z (k + 1) mn := fun w6 hm => by
              obtain ⟨q1, q2⟩ := HH.out.at_.made hmu hm
              exact ⟨q1, hss, by have := HH.out.pr; omega, HH.out.kz.trans q2⟩
            have HST := Lib.hid hstep
            have HNX := Lib.hid hnext
            clear hsc hM hmu hstep hss hpp hdd hmn hr hnext ht HH
            go_wp2_with fail
            refine HST.out.mono ?_
            rintro e w6 ⟨rfl, hm⟩
            have HFIN := Lib.hid (HNX.out _ hm)
            clear hm
            go_wp2_with fail
            go_roundw
            case rel => exact ⟨k + 1, _, by go_num, by omega, HFIN⟩
            case measure => simp [intOf]; omega
          · obtain rfl : k = l.length := by omega
            have nk : ¬ ((l.length : Int) < l.length) := by omega
            have HHn : Hid (OnceAt w w4 wr R g L u Z (l.length + 1) mk) := Lib.hid ⟨HH.out.at_, HH.out.situ, Nat.le_succ_of_le HH.out.pr, HH.out.kz⟩
            clear hkl hlt
            go_wp2_with fail
            go_roundw
            case rel => exact ⟨l.length + 1, _, by go_num, by omega, HHn⟩
            case measure => simp [intOf] <;> omega
    · obtain rfl : k = l.length + 1 := by omega
      have nk : ¬ (((l.length + 1 : Nat) : Int) ≤ l.length) := by omega
      have HF := Lib.hid HH.out.at_.bel
      clear hlt hk
      go_wp2_with fail
      go_ret
      exact ⟨rfl, HF.out⟩
set_option maxRecDepth 100000 in
set_option maxHeartbeats 1000000 in
theorem once_bad (u : Unit_) (cs : List Value) (v : Value) (w : World) (hu : UnitV (cmap w) cs u) (hok : UOk u) (hc : checkF u ≠ none) :
    Calls Try.prog 8 #[.agg cs.toArray, v] w fun e w' => e = .returned (.bool true) ∧ Below w.heap.size w w' := by
  have hu0 := hu
  obtain ⟨su, lu, gu, rfl, -, -, -⟩ := hu0
  have HU := Lib.hid (And.intro hu (And.intro hok hc))
  have HL : ∀ wr, Blk wr w.heap.size 25 [su, lu, gu] → Hid (∀ j v, ([su, lu, gu] : List Value)[j]? = some v → wr.cell? ⟨w.heap.size, 0 + j, none⟩ = some v) := fun wr h => Lib.hid fun j v hj => by rw [Nat.zero_add, h.cell]; exact hj
  have HLL := Lib.hid HL
  have hB0 := Below_alloc' w (.cells #[su, lu, gu] 25)
  have hx0 := Blk.new w 25 [su, lu, gu]
  have HLD := HL _ hx0
  clear hu hok hc HL
  go_enter Try.func8, Try.ntmps8
  go_wp2_with (first
    | (refine wpList_load_at rfl 25 _ rfl w.heap.size 0 rfl _ _ HLD.out Try.underlying25 rfl (by kernel_rfl) ?_))
  refine (new_bad u _ _ (HU.out.1.mono (cmap_below hB0)) HU.out.2.1 HU.out.2.2).mono ?_
  rintro e w1 ⟨rfl, hb1⟩
  have hB1 := hB0.trans (hb1.mono hB0.size)
  have hx1 := hx0.below hb1 hx0.lt
  have HLD1 := HLL.out _ hx1
  clear hb1 hx0 HLD
  go_wp2_with (first
    | (refine wpList_load_at rfl 25 _ rfl w.heap.size 0 rfl _ _ HLD1.out Try.underlying25 rfl (by kernel_rfl) ?_))
  refine (races_calls u _ _ (HU.out.1.mono (cmap_below hB1)) HU.out.2.1).mono ?_
  rintro e w2 (⟨h0, -⟩ | ⟨kk, hkk, rfl, hb2⟩)
  · exact absurd h0 HU.out.2.2
  have hk2 : kk = 60 ∨ kk = 3 := by
    rcases hkk with ⟨h, -⟩ | ⟨h, -⟩
    · exact .inl h
    · exact .inr h
  have HB2 := Lib.hid (hB1.trans (hb2.mono hB1.size))
  clear hb2 hkk hx1 HLD1 hB0 hB1
  rcases hk2 with rfl | rfl
  all_goals (
    go_wp2_with fail
    refine (lives9_calls _).mono ?_
    rintro e w4 ⟨rfl, hb4⟩
    have HF := Lib.hid (HB2.out.trans (hb4.mono HB2.out.size))
    clear hb4
    go_wp2
    go_ret
    exact ⟨rfl, HF.out⟩)
theorem sharingAtOnce_calls (w : World) (cs : List Value) (u : Unit_) (A : Option Addr) (c : Nat) (l : List Int) (hu : UnitV (cmap w) cs u) (hok : UOk u) (hso : SOk u) (hv : Ints (cmap w) (.slice A l.length c) l) (_hi : ∀ x ∈ l, i64 x) (hl : l.length ≤ 1048576) :
    Calls Try.prog 8 #[.agg cs.toArray, .slice A l.length c] w fun e w' => e = .returned (.bool true) ∧ Below w.heap.size w w' := by
  by_cases hc : checkF u = none
  · exact once_good u cs A c l w hu hok hso hv hl hc
  · exact once_bad u cs _ w hu hok hc
end Go.Proofs.Ytkkmkjjbffpgnaa
namespace Go.Proofs.Ytkkmkjjbffpgnaa
open Go Go.RowKit Go.ChangeShapes Go.WideShapes Go.ChangeAt
namespace SAtOnce
set_option maxRecDepth 100000 in
theorem contract (H : Type) (enc : TypeId × Value → H) (W : World) (base : Nat) (args : Array Value) (ds gs : List (DataW H)) (before : List MemPlace)
    (hval : ∀ (j : Nat) t v, Try.f8.params[j]? = some t → args[j]? = some v → Value.okWide Try.prog W .any base t v)
    (hW : DataW.Whole enc Try.prog Try.f8.params.toList Rows.sharingAtOnceSpec.vars false W args.toList ds gs before) (hk : Rows.uptoSmall H (ds ++ gs) = true) :
    Calls Try.prog 8 args W fun e W' => ∃ v, e = .returned v ∧ Rows.sharingAtOnceSpec.post enc Try.prog Try.f8 false true false false W args v W' := by
  have hW' := hW
  obtain ⟨p, q, hA0, hV, rfl, hfz, hnd⟩ := hW
  have hA : DataW.TrodAll enc Try.prog W 0 (fun _ => true) true Try.f8.params.toList args.toList ds p := hA0
  have hA2 := hA
  rw [Try.params8] at hA hval
  obtain ⟨v0, vs0, d0, ds0, p0, q0, hargs, rfl, hp, h0, r0⟩ := trodAll_cons hA
  obtain ⟨v1, vs1, d1, ds1, p1, q1, rfl, rfl, hp1, h1, r1⟩ := trodAll_cons r0
  obtain ⟨rfl, rfl, hp9⟩ := trodAll_nil r1
  obtain rfl : args = #[v0, v1] := by cases args; simp_all
  obtain ⟨rfl, rfl⟩ := trodVars_none hV
  have hbulk := bulk_small hk
  obtain ⟨cs0, u0, rfl, hu0, hok0, hso0⟩ := open_unit_s (hval 0 25 v0 rfl rfl) h0
  obtain ⟨A1, c1, l1, rfl, hv1, hi1, hl1⟩ := open_ints_s (hval 1 30 v1 rfl rfl) h1
  have hl1 : l1.length ≤ 1048576 := Nat.le_trans hl1 (Nat.le_trans (bulk_part (by simp)) hbulk)
  have hlt := fun x hx => hW'.lt x hx
  simp only [List.append_nil] at hW' hlt
  refine (sharingAtOnce_calls W cs0 u0 A1 c1 l1 hu0 hok0 hso0 hv1 hi1 hl1).mono fun e W' ⟨he, hb⟩ => ?_
  subst he
  exact ⟨_, rfl, post_below (pa := p) (pv := []) hW' (fun _ _ _ => trodAll_cons_mk (shut_bool Try.underlying4 _) trodAll_mk0)
    (fun sp hsp => trodAll_stays (by intro t ht; rw [Try.params8] at ht; exact all_again _ (by kernel_rfl) t ht) hA2 (fun x hx => hb.same (hlt x hx)) (fun x hx => hsp x hx)) (fun _ _ => rfl) (by simp) hb (ok_one (by kernel_rfl) rfl (okWide_bool_mk Try.underlying4 _))⟩
theorem laid_met (os : Os) : laidMet Try.prog Rows.sharingAtOnceUptoRow.laid ((laidWorld os).forCall (fun _ _ => 0) ⟨#[], #[.agg #[.slice none 0 0, .slice none 0 0, .slice none 0 0], .slice none 0 0], []⟩).memory :=
  ⟨[], rfl, List.nodup_nil, fun _ _ h => by cases h⟩
theorem reads (os : Os) {H : Type} (enc : TypeId × Value → H) : ∃ places, DataW.whole enc Try.prog ((laidWorld os).forCall (fun _ _ => 0) ⟨#[], #[.agg #[.slice none 0 0, .slice none 0 0, .slice none 0 0], .slice none 0 0], []⟩).memory Try.f8.params.toList Rows.sharingAtOnceSpec.vars false
    (#[.agg #[.slice none 0 0, .slice none 0 0, .slice none 0 0], .slice none 0 0] : Array Value).toList 8 = some ([.agg [.nil, .nil, .nil], .nil], [], places) :=
  ⟨[], by kernel_rfl⟩
set_option maxRecDepth 100000 in
theorem lifted (os : Os) (started : os.Started) (H : Type) (enc : TypeId × Value → H) (F : Stop.Interp) :
    ReturnsInHanded {} Try.checked os 8 .any ((Rows.OpenSpec.upto Rows.sharingAtOnceSpec).preRow enc Try.prog Try.f8 Rows.sharingAtOnceUptoRow.domain false Rows.sharingAtOnceUptoRow.laid) (((Rows.OpenSpec.upto Rows.sharingAtOnceSpec).at F).post enc Try.prog Try.f8 false true false false) := by
  obtain ⟨places, hx⟩ := reads os enc
  refine returnsInHanded_of_row (C := Try.checked) (s := Rows.OpenSpec.upto Rows.sharingAtOnceSpec) own_knob started (by kernel_rfl) Try.func8
    (witness_row_at (enc := enc) (C := Try.checked) false (laidWorld os) #[.agg #[.slice none 0 0, .slice none 0 0, .slice none 0 0], .slice none 0 0] rfl (by kernel_rfl) (by kernel_rfl) (by kernel_rfl)
      (OpenSpec.preRow_of_cond 8 hx (by kernel_rfl) (fun k hk => by injection hk with hk; subst hk; kernel_rfl) (by kernel_rfl) (laid_met os))) ?_
  intro W base args ds gs before hval hW _ hk _ _ _ _
  exact contract H enc W base args ds gs before hval hW (hk _ rfl)
theorem said : Rows.SharingAtOnceUptoSaid :=
  OpenClaim.holds_of_cond 8 Try.f8 rfl rfl rfl rfl rfl rfl rfl ⟨rfl, rfl, rfl, rfl, rfl⟩ rfl rfl rfl rfl rfl (by kernel_rfl) Try.func8 (by kernel_rfl)
    (of_decide_eq_true (by kernel_rfl)) (by unfold Func.isWrapper; first | (rw [if_pos (by decide +kernel)]; kernel_rfl) | (rw [if_neg (by decide +kernel)]; exact ⟨rfl, rfl⟩))
    (fun os started H enc _ F => by rw [OpenClaim.pre_eq_preRow]; exact lifted os started H enc F)
end SAtOnce
/-- THE STATEMENT. -/
theorem sharingAtOnce_upto : Rows.SharingAtOnceUptoSaid := SAtOnce.said
#print axioms sharingAtOnce_upto
end Go.Proofs.Ytkkmkjjbffpgnaa
