/- SharingApart: whatever unit, schedule and two threads are given: threads that are apart come to the same situation in whatever order they run. Proved where the arguments are of bulk at most 1048576. -/
import Derived.Test.YtkkmkjjbffpgnaaP87
import Derived.Test.YtkkmkjjbffpgnaaP59
import Derived.Test.YtkkmkjjbffpgnaaP44
import Derived.Test.YtkkmkjjbffpgnaaP52
import Derived.Test.YtkkmkjjbffpgnaaP74
/- The walk of the law SharingApart. -/
namespace Go.Proofs.Ytkkmkjjbffpgnaa
open Go Go.RowKit
theorem apartR_bad {u : Unit_} {a b : Int} (hc : checkF u ≠ none) : apartR u a b = (false, 60) := by unfold apartR; rw [if_pos hc]
theorem apartR_two {u : Unit_} {a b : Int} (hc : checkF u = none) (h : (apartR u a b).1 = true) : (apartR u a b).2 = 0 ∧ ∃ (x y : Nat) (g1 g2 : Graph), a = x ∧ b = y ∧ x ≠ y ∧ u.graphs[x]? = some g1 ∧ u.graphs[y]? = some g2 ∧ apartG g1 g2 = true := by
  unfold apartR at h ⊢
  rw [if_neg (by simp [hc])] at h ⊢
  by_cases hr : a < 0 ∨ (u.graphs.length : Int) ≤ a ∨ b < 0 ∨ (u.graphs.length : Int) ≤ b
  · rw [if_pos hr] at h; cases h
  · rw [if_neg hr] at h ⊢
    by_cases hab : a = b
    · rw [if_pos hab] at h; cases h
    · rw [if_neg hab] at h ⊢
      obtain ⟨x, rfl⟩ := Int.eq_ofNat_of_zero_le (show 0 ≤ a by omega)
      obtain ⟨y, rfl⟩ := Int.eq_ofNat_of_zero_le (show 0 ≤ b by omega)
      simp only [Int.toNat_natCast] at h ⊢
      have h1 : u.graphs[x]? = some u.graphs[x] := List.getElem?_eq_getElem (by omega)
      have h2 : u.graphs[y]? = some u.graphs[y] := List.getElem?_eq_getElem (by omega)
      rw [h1, h2] at h ⊢
      exact ⟨rfl, x, y, _, _, rfl, rfl, fun e => hab (by rw [e]), h1, h2, h⟩
theorem apartR_no {u : Unit_} {a b : Int} (hc : checkF u = none) : (apartR u a b).2 = 0 ∨ (apartR u a b).2 = 2 := by
  unfold apartR
  rw [if_neg (by simp [hc])]
  by_cases hr : a < 0 ∨ (u.graphs.length : Int) ≤ a ∨ b < 0 ∨ (u.graphs.length : Int) ≤ b
  · rw [if_pos hr]; exact .inr rfl
  · rw [if_neg hr]
    by_cases hab : a = b
    · rw [if_pos hab]; exact .inl rfl
    · rw [if_neg hab]
      left
      split <;> rfl
set_option maxRecDepth 100000 in
set_option maxHeartbeats 1000000 in
theorem sapart_bad (u : Unit_) (cs : List Value) (v : Value) (a b : Int) (w : World) (hu : UnitV (cmap w) cs u) (hok : UOk u) (hc : checkF u ≠ none) :
    Calls Try.prog 10 #[.agg cs.toArray, v, .int .i64 a, .int .i64 b] w fun e w' => e = .returned (.bool true) ∧ Below w.heap.size w w' := by
  have hu0 := hu
  obtain ⟨su, lu, gu, rfl, -, -, -⟩ := hu0
  have hA := fun wr (h : UnitV (cmap wr) [su, lu, gu] u) => apart_calls u _ a b wr h hok
  rw [apartR_bad hc] at hA
  have HU := Lib.hid (And.intro hu (And.intro hok (And.intro hc hA)))
  have HL : ∀ wr, Blk wr w.heap.size 25 [su, lu, gu] → Hid (∀ j v, ([su, lu, gu] : List Value)[j]? = some v → wr.cell? ⟨w.heap.size, 0 + j, none⟩ = some v) := fun wr h => Lib.hid fun j v hj => by rw [Nat.zero_add, h.cell]; exact hj
  have HLL := Lib.hid HL
  have hB0 := Below_alloc' w (.cells #[su, lu, gu] 25)
  have hx0 := Blk.new w 25 [su, lu, gu]
  have HLD := HL _ hx0
  clear hu hok hc HL hA
  go_enter Try.func10, Try.ntmps10
  go_wp2_with (first
    | (refine wpList_load_at rfl 25 _ rfl w.heap.size 0 rfl _ _ HLD.out Try.underlying25 rfl (by kernel_rfl) ?_))
  refine (HU.out.2.2.2 _ (HU.out.1.mono (cmap_below hB0))).mono ?_
  rintro e w1 ⟨rfl, hb1⟩
  have hB1 := hB0.trans (hb1.mono hB0.size)
  have hx1 := hx0.below hb1 hx0.lt
  have HLD1 := HLL.out _ hx1
  clear hb1 hx0 HLD
  go_wp2_with (first
    | (refine wpList_load_at rfl 25 _ rfl w.heap.size 0 rfl _ _ HLD1.out Try.underlying25 rfl (by kernel_rfl) ?_))
  refine (new_bad u _ _ (HU.out.1.mono (cmap_below hB1)) HU.out.2.1 HU.out.2.2.1).mono ?_
  rintro e w2 ⟨rfl, hb2⟩
  have hB2 := hB1.trans (hb2.mono hB1.size)
  clear hb2 hx1 HLD1
  go_wp2_with fail
  refine (lives9_calls _).mono ?_
  rintro e w4 ⟨rfl, hb4⟩
  have hB4 := hB2.trans (hb4.mono hB2.size)
  have HF := Lib.hid hB4
  clear hb4 hB0 hB1 hB2 hB4
  go_wp2
  go_ret
  exact ⟨rfl, HF.out⟩
set_option maxRecDepth 100000 in
set_option maxHeartbeats 1000000 in
theorem sapart_no (u : Unit_) (cs : List Value) (v : Value) (a b : Int) (w : World) (hu : UnitV (cmap w) cs u) (hok : UOk u) (hc : checkF u = none) (hap : (apartR u a b).1 = false) :
    Calls Try.prog 10 #[.agg cs.toArray, v, .int .i64 a, .int .i64 b] w fun e w' => e = .returned (.bool true) ∧ Below w.heap.size w w' := by
  have hu0 := hu
  obtain ⟨su, lu, gu, rfl, -, -, -⟩ := hu0
  have hA := fun wr (h : UnitV (cmap wr) [su, lu, gu] u) => apart_calls u _ a b wr h hok
  have h2 := apartR_no hc (a := a) (b := b)
  rw [hap] at hA
  obtain ⟨r, hr⟩ : ∃ r, (apartR u a b).2 = r := ⟨_, rfl⟩
  rw [hr] at hA h2
  have HU := Lib.hid (And.intro hu (And.intro hok (And.intro hc hA)))
  have HL : ∀ wr, Blk wr w.heap.size 25 [su, lu, gu] → Hid (∀ j v, ([su, lu, gu] : List Value)[j]? = some v → wr.cell? ⟨w.heap.size, 0 + j, none⟩ = some v) := fun wr h => Lib.hid fun j v hj => by rw [Nat.zero_add, h.cell]; exact hj
  have HLL := Lib.hid HL
  have hB0 := Below_alloc' w (.cells #[su, lu, gu] 25)
  have hx0 := Blk.new w 25 [su, lu, gu]
  have HLD := HL _ hx0
  clear hu hok hc HL hA hap hr
  go_enter Try.func10, Try.ntmps10
  go_wp2_with (first
    | (refine wpList_load_at rfl 25 _ rfl w.heap.size 0 rfl _ _ HLD.out Try.underlying25 rfl (by kernel_rfl) ?_))
  refine (HU.out.2.2.2 _ (HU.out.1.mono (cmap_below hB0))).mono ?_
  rintro e w1 ⟨rfl, hb1⟩
  have hB1 := hB0.trans (hb1.mono hB0.size)
  have hx1 := hx0.below hb1 hx0.lt
  have HLD1 := HLL.out _ hx1
  clear hb1 hx0 HLD
  go_wp2_with (first
    | (refine wpList_load_at rfl 25 _ rfl w.heap.size 0 rfl _ _ HLD1.out Try.underlying25 rfl (by kernel_rfl) ?_))
  refine (new_good u _ _ (HU.out.1.mono (cmap_below hB1)) HU.out.2.1 HU.out.2.2.1).mono ?_
  rintro e w2 ⟨g, L, R, rfl, hM, hR, hmu, hb2⟩
  have hB2 := hB1.trans (hb2.mono hB1.size)
  clear hb2 hx1 HLD1 hM hR hmu
  go_wp2_with fail
  refine (lives9_calls _).mono ?_
  rintro e w4 ⟨rfl, hb4⟩
  have hB4 := hB2.trans (hb4.mono hB2.size)
  have HF := Lib.hid hB4
  clear hb4 hB0 hB1 hB2 hB4
  rcases h2 with rfl | rfl
  · go_wp2
    go_ret
    exact ⟨rfl, HF.out⟩
  · go_wp2
    go_ret
    exact ⟨rfl, HF.out⟩
/-- After k threads of the schedule. -/
structure SpAt (w wr : World) (R1 : Nat → Prop) (g1 : Nat) (L1 : Lay) (R2 : Nat → Prop) (g2 : Nat) (L2 : Lay) (u : Unit_) (a b k : Nat) (m : Mach) (v1 v2 : Value) (fs ss : List Int) : Prop where
  two : TwoM w wr R1 g1 L1 R2 g2 L2 u m (startM u)
  f : RowS w wr R1 g1 L1 R2 g2 L2 v1 fs
  s : RowS w wr R1 g1 L1 R2 g2 L2 v2 ss
  ne : ∀ q, v1.ownBlock = some q → v2.ownBlock ≠ some q
  api : ApI u a b (startM u) m fs ss
  pr : m.prints.length ≤ k
  fl : fs.length ≤ k
  sl : ss.length ≤ k
theorem SpAt.below {w wr wx : World} {R1 : Nat → Prop} {g1 : Nat} {L1 : Lay} {R2 : Nat → Prop} {g2 : Nat} {L2 : Lay} {u : Unit_} {a b k : Nat} {m : Mach} {v1 v2 : Value} {fs ss : List Int} (h : SpAt w wr R1 g1 L1 R2 g2 L2 u a b k m v1 v2 fs ss) (hx : Below wr.heap.size wr wx) : SpAt w wx R1 g1 L1 R2 g2 L2 u a b k m v1 v2 fs ss :=
  ⟨h.two.below hx, h.f.below hx, h.s.below hx, h.ne, h.api, h.pr, h.fl, h.sl⟩
theorem SpAt.succ {w wr : World} {R1 : Nat → Prop} {g1 : Nat} {L1 : Lay} {R2 : Nat → Prop} {g2 : Nat} {L2 : Lay} {u : Unit_} {a b k : Nat} {m : Mach} {v1 v2 : Value} {fs ss : List Int} (h : SpAt w wr R1 g1 L1 R2 g2 L2 u a b k m v1 v2 fs ss) : SpAt w wr R1 g1 L1 R2 g2 L2 u a b (k + 1) m v1 v2 fs ss :=
  ⟨h.two, h.f, h.s, h.ne, h.api, Nat.le_succ_of_le h.pr, Nat.le_succ_of_le h.fl, Nat.le_succ_of_le h.sl⟩
/-- A thread steps, or can't. -/
theorem sp_step {w wr : World} {R1 : Nat → Prop} {g1 : Nat} {L1 : Lay} {R2 : Nat → Prop} {g2 : Nat} {L2 : Lay} {u : Unit_} {a b k : Nat} {m : Mach} {v1 v2 : Value} {fs ss : List Int} (hu : RightU u) (huo : UOk u) (hk : k ≤ 1048576) (h : SpAt w wr R1 g1 L1 R2 g2 L2 u a b k m v1 v2 fs ss) (t : Int) :
    Calls Try.prog 25 #[.pointer (some ⟨g1, 0, none⟩), .int .i64 t] wr fun e w' => ∃ d : Did, e = .returned (.tuple #[.agg #[.int .i64 d.thread, .int .i64 d.node, .int .u8 d.kind, .int .i64 d.thing, .int .i64 d.word, .int .i64 d.put], .int .i64 (barF u m t)]) ∧
      ∃ pv, TwoM w w' R1 g1 { L1 with pv := pv } R2 g2 L2 u (stepM u m t) (startM u) ∧ RowS w w' R1 g1 { L1 with pv := pv } R2 g2 L2 v1 fs ∧ RowS w w' R1 g1 { L1 with pv := pv } R2 g2 L2 v2 ss := by
  refine (step_calls t h.two.a h.api.situ.ok h.api.situ.mi hu huo (by have := h.pr; omega) h.two.r1).mono ?_
  rintro e w6 ⟨rfl, hm⟩
  obtain ⟨pv, k1, k2, k3⟩ := h.two.made hm
  exact ⟨stepD u m t, by rw [stepD_cells], pv, k1, h.f.made k2 k3, h.s.made k2 k3⟩
end Go.Proofs.Ytkkmkjjbffpgnaa
/- The good walk of the law SharingApart. -/
namespace Go.Proofs.Ytkkmkjjbffpgnaa
open Go Go.RowKit
set_option maxRecDepth 100000 in
set_option maxHeartbeats 8000000 in
theorem sapart_good (u : Unit_) (cs : List Value) (A : Option Addr) (c : Nat) (l : List Int) (a b : Nat) (g1 g2 : Graph) (w : World) (hu : UnitV (cmap w) cs u) (hok : UOk u) (hso : SOk u) (hv : Ints (cmap w) (.slice A l.length c) l) (hl : l.length ≤ 1048576) (hc : checkF u = none)
    (hap : (apartR u a b).1 = true) (hap2 : (apartR u a b).2 = 0) (hab : a ≠ b) (hg1 : u.graphs[a]? = some g1) (hg2 : u.graphs[b]? = some g2) (hG : apartG g1 g2 = true) :
    Calls Try.prog 10 #[.agg cs.toArray, .slice A l.length c, .int .i64 (a : Int), .int .i64 (b : Int)] w fun e w' => e = .returned (.bool true) ∧ Below w.heap.size w w' := by
  have hru := checkF_none hc
  have hz := checkF_sizes hc
  have hst := start_situ hc hso
  have hu0 := hu
  obtain ⟨su, lu, gu, rfl, -, -, -⟩ := hu0
  have hA := fun wr (h : UnitV (cmap wr) [su, lu, gu] u) => apart_calls u _ a b wr h hok
  rw [hap, hap2] at hA
  have HU := Lib.hid (And.intro hu (And.intro hok (And.intro hc hA)))
  have HK := Lib.hid (And.intro hru (And.intro hok (And.intro hst (And.intro hv hz))))
  have HAB := Lib.hid (And.intro hab (And.intro hg1 (And.intro hg2 hG)))
  have HL : ∀ wr, Blk wr w.heap.size 25 [su, lu, gu] → Hid (∀ j v, ([su, lu, gu] : List Value)[j]? = some v → wr.cell? ⟨w.heap.size, 0 + j, none⟩ = some v) := fun wr h => Lib.hid fun j v hj => by rw [Nat.zero_add, h.cell]; exact hj
  have HLL := Lib.hid HL
  have hB0 := Below_alloc' w (.cells #[su, lu, gu] 25)
  have hx0 := Blk.new w 25 [su, lu, gu]
  have HLD := HL _ hx0
  have nab : ((a : Int) == (b : Int)) = false := by simp; omega
  have nba : ((b : Int) == (a : Int)) = false := by simp; omega
  clear hu hok hc HL hA hap hap2 hru hst hv hz hab hg1 hg2 hG hso
  go_enter Try.func10, Try.ntmps10
  go_wp2_with (first
    | (refine wpList_load_at rfl 25 _ rfl w.heap.size 0 rfl _ _ HLD.out Try.underlying25 rfl (by kernel_rfl) ?_))
  refine (HU.out.2.2.2 _ (HU.out.1.mono (cmap_below hB0))).mono ?_
  rintro e w1 ⟨rfl, hb1⟩
  have hB1 := hB0.trans (hb1.mono hB0.size)
  have hx1 := hx0.below hb1 hx0.lt
  have HLD1 := HLL.out _ hx1
  clear hb1 hx0 HLD hB0
  go_wp2_with (first
    | (refine wpList_load_at rfl 25 _ rfl w.heap.size 0 rfl _ _ HLD1.out Try.underlying25 rfl (by kernel_rfl) ?_))
  refine (new_good u _ _ (HU.out.1.mono (cmap_below hB1)) HU.out.2.1 HU.out.2.2.1).mono ?_
  rintro e w2 ⟨g, L, R, rfl, hM, hR, hmu, hb2⟩
  have HB2 := Lib.hid (And.intro hM (And.intro hR (And.intro hmu (And.intro hb2 hB1))))
  clear hb2 hx1 HLD1 hM hR hmu hB1
  go_wp2_with fail
  refine (lives9_calls _).mono ?_
  rintro e w3 ⟨rfl, hb3⟩
  have hM3 := HB2.out.1.below hb3
  have hR3 : ∀ q, R q → q < w3.heap.size := fun q hq => Nat.lt_of_lt_of_le (HB2.out.2.1 q hq).2 hb3.size
  have hB3 : Below w.heap.size w w3 := (HB2.out.2.2.2.2.trans (HB2.out.2.2.2.1.mono HB2.out.2.2.2.2.size)).trans (hb3.mono (Nat.le_trans HB2.out.2.2.2.2.size HB2.out.2.2.2.1.size))
  have hmu3 : ∀ q, L.mut g q → w.heap.size ≤ q := fun q hq => Nat.le_trans HB2.out.2.2.2.2.size (HB2.out.2.2.1 q hq)
  have HC := Lib.hid (copyS_calls hM3 hR3 HK.out.2.2.1.ok HK.out.1 HK.out.2.2.2.2 (by simp [startM]))
  have H3 := Lib.hid (And.intro hM3 (And.intro hR3 (And.intro hB3 hmu3)))
  clear hb3 hM3 hR3 hB3 hmu3 HB2
  go_wp2_with fail
  refine HC.out.mono ?_
  rintro e w4 ⟨g', L', R', rfl, hM4, hR4, hmu4, hb4⟩
  have hT := TwoM.start H3.out.1 H3.out.2.2.2 H3.out.2.1 H3.out.2.2.1 hM4 hR4 hmu4 hb4
  have HT : Hid (SpAt w w4 R g L R' g' L' u a b 0 (startM u) (.slice none 0 0) (.slice none 0 0) [] []) := Lib.hid ⟨hT, RowS.nil _ _, RowS.nil _ _, fun q h => (by cases h), ApI.start HK.out.2.2.1 (LockBy.start u) (PrI.start u), by simp [startM], Nat.zero_le _, Nat.zero_le _⟩
  clear hM4 hR4 hmu4 hb4 hT HC H3
  go_wp2
  go_loopw [71, 14, 15, 17, 18, 19] (fun i v14 v15 _ _ _ wr => ∃ (k : Nat) (pv : Value) (mk : Mach) (fs ss : List Int), i = .int .i64 k ∧ k ≤ l.length ∧ Hid (SpAt w wr R g { L with pv := pv } R' g' L' u a b k mk v14 v15 fs ss)) (fun i _ _ _ _ _ _ => l.length - (intOf i).toNat)
  case atStart => exact ⟨0, L.pv, startM u, [], [], rfl, by omega, HT⟩
  case round =>
    clear HT
    obtain ⟨k, pv, mk, fs, ss, rfl, hk, HH⟩ := hrel
    by_cases hlt : k < l.length
    · have i0 : (0 : Int) ≤ k := by omega
      have i1 : (k : Int) < l.length := by omega
      obtain ⟨t, ht⟩ : ∃ t, l[k]? = some t := ⟨_, List.getElem?_eq_getElem hlt⟩
      obtain ⟨sb, so, rfl, hsc⟩ := (HK.out.2.2.2.1.mono (cmap_below HH.out.two.bel)).at_ ht
      rw [Nat.mul_one] at hsc
      have hcs : wr.cell? ⟨sb, so + k, none⟩ = some (.int .i64 t) := hsc
      have HST := Lib.hid (sp_step HK.out.1 HK.out.2.1 (by omega) HH.out t)
      have HLEN := Lib.hid (And.intro hlt (And.intro hk HH.out.two.bel.size))
      clear hsc ht hlt hk
      by_cases ta : t = (a : Int)
      · subst ta
        by_cases hb0 : barF u mk (a : Int) = 0
        · have hnext := HH.out.api.stepA HK.out.1 HK.out.2.1 hb0
          have hpp := step_prints HH.out.api.situ.ok (a : Int)
          have HN := Lib.hid (And.intro hnext hpp)
          rw [hb0] at HST
          clear hnext hpp hb0
          go_wp2_with fail
          refine HST.out.mono ?_
          rintro e w6 ⟨d, rfl, pv', hT, hf, hs⟩
          obtain ⟨x0, hx0⟩ : ∃ x, w6.alloc (.cells #[.int .i64 d.thread, .int .i64 d.node, .int .u8 d.kind, .int .i64 d.thing, .int .i64 d.word, .int .i64 d.put] 55) = x := ⟨_, rfl⟩
          have hbx : Below w6.heap.size w6 x0 := by rw [← hx0]; exact Below_alloc' _ _
          have HX := Lib.hid (And.intro (hT.below hbx) (And.intro (hf.below hbx) (hs.below hbx)))
          have HX0 := Lib.hid hx0
          clear hT hf hs hbx hx0
          go_wp2_with (refine stop_append rfl ?_)
          rw [HX0.out]
          refine Stop.intro ?_
          refine app_one sl_int rfl _ _ rfl w.heap.size _ fs.length (fs.map (Value.int .i64)) rfl (HX.out.2.1.own.alloc _) (w6.heap.size + 1) 0 1 [.int .i64 (a : Int)] rfl rfl (cell_new1 _ _ _ _ (by rw [← HX0.out]; simp)) (by simp [Value.oneCell']) (by have := HH.out.fl; have := HLEN.out.1; omega) (by decide) (by have := HX.out.1.bel.size; simp; omega) ?_
          intro v7 w7 hown hg7 hob
          obtain ⟨q1, q2, q3, q4⟩ := push_two (t := (a : Int)) HX.out.1 HX.out.2.1 HX.out.2.2 HH.out.ne (Below_alloc' x0 _) hown hg7 hob
          have HF : Hid (SpAt w w7 R g { L with pv := pv' } R' g' L' u a b (k + 1) (stepM u mk (a : Int)) v7 u15 (fs ++ [(a : Int)]) ss) := Lib.hid ⟨q1, q2, q3, q4, HN.out.1, by have := HN.out.2; have := HH.out.pr; omega, by have := HH.out.fl; simp; omega, Nat.le_succ_of_le HH.out.sl⟩
          clear hown hg7 hob q1 q2 q3 q4 HX HX0
          go_wp2
          go_roundw
          case rel => exact ⟨k + 1, pv', _, _, _, by go_num, by have := HLEN.out.1; omega, HF⟩
          case measure => have := HLEN.out.1; simp [intOf]; omega
        · obtain ⟨r, hr⟩ : ∃ r, barF u mk (a : Int) = r := ⟨_, rfl⟩
          have hstay := (step_not hb0).1
          rw [hr] at hb0 HST
          rw [hstay] at HST
          have e0 : (r != 0) = true := by simp [hb0]
          clear hb0 hr hstay
          go_wp2_with fail
          refine HST.out.mono ?_
          rintro e w6 ⟨d, rfl, pv', hT, hf, hs⟩
          have HF : Hid (SpAt w (w6.alloc (.cells #[.int .i64 d.thread, .int .i64 d.node, .int .u8 d.kind, .int .i64 d.thing, .int .i64 d.word, .int .i64 d.put] 55)) R g { L with pv := pv' } R' g' L' u a b (k + 1) mk u14 u15 fs ss) := Lib.hid (SpAt.below ⟨hT, hf, hs, HH.out.ne, HH.out.api, Nat.le_succ_of_le HH.out.pr, Nat.le_succ_of_le HH.out.fl, Nat.le_succ_of_le HH.out.sl⟩ (Below_alloc' _ _))
          clear hT hf hs
          go_wp2
          go_roundw
          case rel => exact ⟨k + 1, pv', _, _, _, by go_num, by have := HLEN.out.1; omega, HF⟩
          case measure => have := HLEN.out.1; simp [intOf]; omega
      · have n1 : (t == (a : Int)) = false := by simp [ta]
        by_cases tb : t = (b : Int)
        · subst tb
          by_cases hb0 : barF u mk (b : Int) = 0
          · have hnext := HH.out.api.stepB HK.out.1 HK.out.2.1 HAB.out.1 HAB.out.2.1 HAB.out.2.2.1 HAB.out.2.2.2 hb0
            have hpp := step_prints HH.out.api.situ.ok (b : Int)
            have HN := Lib.hid (And.intro hnext hpp)
            rw [hb0] at HST
            clear hnext hpp hb0 ta
            go_wp2_with fail
            refine HST.out.mono ?_
            rintro e w6 ⟨d, rfl, pv', hT, hf, hs⟩
            obtain ⟨x0, hx0⟩ : ∃ x, w6.alloc (.cells #[.int .i64 d.thread, .int .i64 d.node, .int .u8 d.kind, .int .i64 d.thing, .int .i64 d.word, .int .i64 d.put] 55) = x := ⟨_, rfl⟩
            have hbx : Below w6.heap.size w6 x0 := by rw [← hx0]; exact Below_alloc' _ _
            have HX := Lib.hid (And.intro (hT.below hbx) (And.intro (hf.below hbx) (hs.below hbx)))
            have HX0 := Lib.hid hx0
            clear hT hf hs hbx hx0
            go_wp2_with (refine stop_append rfl ?_)
            rw [HX0.out]
            refine Stop.intro ?_
            refine app_one sl_int rfl _ _ rfl w.heap.size _ ss.length (ss.map (Value.int .i64)) rfl (HX.out.2.2.own.alloc _) (w6.heap.size + 1) 0 1 [.int .i64 (b : Int)] rfl rfl (cell_new1 _ _ _ _ (by rw [← HX0.out]; simp)) (by simp [Value.oneCell']) (by have := HH.out.sl; have := HLEN.out.1; omega) (by decide) (by have := HX.out.1.bel.size; simp; omega) ?_
            intro v7 w7 hown hg7 hob
            obtain ⟨q1, q2, q3, q4⟩ := push_two (t := (b : Int)) HX.out.1 HX.out.2.2 HX.out.2.1 (fun q e e' => HH.out.ne q e' e) (Below_alloc' x0 _) hown hg7 hob
            have HF : Hid (SpAt w w7 R g { L with pv := pv' } R' g' L' u a b (k + 1) (stepM u mk (b : Int)) u14 v7 fs (ss ++ [(b : Int)])) := Lib.hid ⟨q1, q3, q2, fun q e e' => q4 q e' e, HN.out.1, by have := HN.out.2; have := HH.out.pr; omega, Nat.le_succ_of_le HH.out.fl, by have := HH.out.sl; simp; omega⟩
            clear hown hg7 hob q1 q2 q3 q4 HX HX0
            go_wp2
            go_roundw
            case rel => exact ⟨k + 1, pv', _, _, _, by go_num, by have := HLEN.out.1; omega, HF⟩
            case measure => have := HLEN.out.1; simp [intOf]; omega
          · obtain ⟨r, hr⟩ : ∃ r, barF u mk (b : Int) = r := ⟨_, rfl⟩
            have hstay := (step_not hb0).1
            rw [hr] at hb0 HST
            rw [hstay] at HST
            have e0 : (r != 0) = true := by simp [hb0]
            clear hb0 hr hstay ta
            go_wp2_with fail
            refine HST.out.mono ?_
            rintro e w6 ⟨d, rfl, pv', hT, hf, hs⟩
            have HF : Hid (SpAt w (w6.alloc (.cells #[.int .i64 d.thread, .int .i64 d.node, .int .u8 d.kind, .int .i64 d.thing, .int .i64 d.word, .int .i64 d.put] 55)) R g { L with pv := pv' } R' g' L' u a b (k + 1) mk u14 u15 fs ss) := Lib.hid (SpAt.below ⟨hT, hf, hs, HH.out.ne, HH.out.api, Nat.le_succ_of_le HH.out.pr, Nat.le_succ_of_le HH.out.fl, Nat.le_succ_of_le HH.out.sl⟩ (Below_alloc' _ _))
            clear hT hf hs
            go_wp2
            go_roundw
            case rel => exact ⟨k + 1, pv', _, _, _, by go_num, by have := HLEN.out.1; omega, HF⟩
            case measure => have := HLEN.out.1; simp [intOf]; omega
        · have n2 : (t == (b : Int)) = false := by simp [tb]
          have HF := Lib.hid HH.out.succ
          clear ta tb HST
          go_wp2
          go_roundw
          case rel => exact ⟨k + 1, pv, _, _, _, by go_num, by have := HLEN.out.1; omega, HF⟩
          case measure => have := HLEN.out.1; simp [intOf]; omega
    · obtain rfl : k = l.length := by omega
      have ngk : ¬ ((l.length : Int) < l.length) := by omega
      obtain ⟨fA, fc, rfl⟩ := HH.out.f.ints'
      obtain ⟨sA, sc, rfl⟩ := HH.out.s.ints'
      obtain ⟨mb, r1, r2, r3, r4, r5⟩ := HH.out.api.runs
      have HR1 := Lib.hid (run_calls HH.out.two.b HK.out.2.2.1 HK.out.1 HK.out.2.1 (by have := HH.out.sl; have h0 : (startM u).prints.length = 0 := rfl; omega) HH.out.two.r2 HH.out.s.ints (fun q hq => (HH.out.s.sep q hq).2.2.1))
      rw [r1] at HR1
      have HRR := Lib.hid (And.intro r2 (And.intro r3 (And.intro r4 r5)))
      have hprb : mb.prints.length ≤ ss.length := by
        have := (runF_situ HK.out.1 HK.out.2.1 ss HK.out.2.2.1).2.1
        rw [r1] at this
        have this : mb.prints.length ≤ (startM u).prints.length + ss.length := this
        have h0 : (startM u).prints.length = 0 := rfl
        omega
      have HPB := Lib.hid hprb
      clear r1 r2 r3 r4 r5 hk hlt hprb
      go_wp2_with fail
      refine HR1.out.mono ?_
      rintro e w5 ⟨rfl, hm5⟩
      obtain ⟨pv5, q1, q2, q3⟩ := HH.out.two.swap.made hm5
      have hf5 : RowS w w5 R' g' { L' with pv := pv5 } R g { L with pv := pv } (.slice fA fs.length fc) fs := RowS.made ⟨HH.out.f.own, fun q hq => ⟨(HH.out.f.sep q hq).2.2.1, (HH.out.f.sep q hq).2.2.2, (HH.out.f.sep q hq).1, (HH.out.f.sep q hq).2.1⟩⟩ q2 q3
      have HR2 := Lib.hid (run_calls q1.a HRR.out.2.1 HK.out.1 HK.out.2.1 (by have := HPB.out; have := HH.out.fl; have := HH.out.sl; omega) q1.r1 hf5.ints (fun q hq => (hf5.sep q hq).1))
      rw [HRR.out.1] at HR2
      have H5 := Lib.hid (And.intro q1 hf5)
      clear q1 q2 q3 hf5 hm5 HR1
      go_wp2_with fail
      refine HR2.out.mono ?_
      rintro e w6 ⟨rfl, hm6⟩
      obtain ⟨pv6, q1, q2, q3⟩ := H5.out.1.made hm6
      have HK1 := Lib.hid (key_calls q1.a HH.out.api.situ HH.out.api.pri HK.out.1 HK.out.2.2.2.2 (by have := HH.out.pr; omega))
      have H6 := Lib.hid q1
      obtain ⟨S, hS⟩ : ∃ S : ByteArray, ⟨(keyL mk).toArray⟩ = S := ⟨_, rfl⟩
      rw [hS] at HK1
      have HS := Lib.hid hS
      clear q1 q2 q3 hm6 HR2 hS
      go_wp2_with fail
      refine HK1.out.mono ?_
      rintro e w7 ⟨rfl, hb7⟩
      have h7 := H6.out.below hb7
      have HK2 := Lib.hid (key_calls h7.b HH.out.api.situ HH.out.api.pri HK.out.1 HK.out.2.2.2.2 (by have := HH.out.pr; omega))
      rw [HS.out] at HK2
      have H7 := Lib.hid h7.bel
      clear hb7 h7 HK1
      go_wp2_with fail
      refine HK2.out.mono ?_
      rintro e w8 ⟨rfl, hb8⟩
      have HF := Lib.hid (H7.out.trans (hb8.mono H7.out.size))
      clear hb8
      go_wp2
      go_ret
      exact ⟨rfl, HF.out⟩
theorem sharingApart_calls (w : World) (cs : List Value) (u : Unit_) (A : Option Addr) (c : Nat) (l : List Int) (a b : Int) (hu : UnitV (cmap w) cs u) (hok : UOk u) (hso : SOk u) (hv : Ints (cmap w) (.slice A l.length c) l) (_hi : ∀ x ∈ l, i64 x) (hl : l.length ≤ 1048576) :
    Calls Try.prog 10 #[.agg cs.toArray, .slice A l.length c, .int .i64 a, .int .i64 b] w fun e w' => e = .returned (.bool true) ∧ Below w.heap.size w w' := by
  by_cases hc : checkF u = none
  · cases hap : (apartR u a b).1 with
    | false => exact sapart_no u cs _ a b w hu hok hc hap
    | true =>
      obtain ⟨h2, x, y, g1, g2, rfl, rfl, hab, hg1, hg2, hG⟩ := apartR_two hc hap
      exact sapart_good u cs A c l x y g1 g2 w hu hok hso hv hl hc hap h2 hab hg1 hg2 hG
  · exact sapart_bad u cs _ a b w hu hok hc
end Go.Proofs.Ytkkmkjjbffpgnaa
namespace Go.Proofs.Ytkkmkjjbffpgnaa
open Go Go.RowKit Go.ChangeShapes Go.WideShapes Go.ChangeAt
namespace sApart
set_option maxRecDepth 100000 in
theorem contract (H : Type) (enc : TypeId × Value → H) (W : World) (base : Nat) (args : Array Value) (ds gs : List (DataW H)) (before : List MemPlace)
    (hval : ∀ (j : Nat) t v, Try.f10.params[j]? = some t → args[j]? = some v → Value.okWide Try.prog W .any base t v)
    (hW : DataW.Whole enc Try.prog Try.f10.params.toList Rows.sharingApartSpec.vars false W args.toList ds gs before) (hk : Rows.uptoSmall H (ds ++ gs) = true) :
    Calls Try.prog 10 args W fun e W' => ∃ v, e = .returned v ∧ Rows.sharingApartSpec.post enc Try.prog Try.f10 false true false false W args v W' := by
  have hW' := hW
  obtain ⟨p, q, hA0, hV, rfl, hfz, hnd⟩ := hW
  have hA : DataW.TrodAll enc Try.prog W 0 (fun _ => true) true Try.f10.params.toList args.toList ds p := hA0
  have hA2 := hA
  rw [Try.params10] at hA hval
  obtain ⟨v0, vs0, d0, ds0, p0, q0, hargs, rfl, hp, h0, r0⟩ := trodAll_cons hA
  obtain ⟨v1, vs1, d1, ds1, p1, q1, rfl, rfl, hp1, h1, r1⟩ := trodAll_cons r0
  obtain ⟨v2, vs2, d2, ds2, p2, q2, rfl, rfl, hp2, h2, r2⟩ := trodAll_cons r1
  obtain ⟨v3, vs3, d3, ds3, p3, q3, rfl, rfl, hp3, h3, r3⟩ := trodAll_cons r2
  obtain ⟨rfl, rfl, hp9⟩ := trodAll_nil r3
  obtain rfl : args = #[v0, v1, v2, v3] := by cases args; simp_all
  obtain ⟨rfl, rfl⟩ := trodVars_none hV
  have hbulk := bulk_small hk
  obtain ⟨cs0, u0, rfl, hu0, hok0, hso0⟩ := open_unit_s (hval 0 25 v0 rfl rfl) h0
  obtain ⟨A1, c1, l1, rfl, hv1, hi1, hl1⟩ := open_ints_s (hval 1 30 v1 rfl rfl) h1
  have hl1 : l1.length ≤ 1048576 := Nat.le_trans hl1 (Nat.le_trans (bulk_part (by simp)) hbulk)
  obtain ⟨n2, rfl⟩ := okWide_int Try.underlying3 (hval 2 3 v2 rfl rfl)
  obtain ⟨n3, rfl⟩ := okWide_int Try.underlying3 (hval 3 3 v3 rfl rfl)
  have hlt := fun x hx => hW'.lt x hx
  simp only [List.append_nil] at hW' hlt
  refine (sharingApart_calls W cs0 u0 A1 c1 l1 n2 n3 hu0 hok0 hso0 hv1 hi1 hl1).mono fun e W' ⟨he, hb⟩ => ?_
  subst he
  exact ⟨_, rfl, post_below (pa := p) (pv := []) hW' (fun _ _ _ => trodAll_cons_mk (shut_bool Try.underlying4 _) trodAll_mk0)
    (fun sp hsp => trodAll_stays (by intro t ht; rw [Try.params10] at ht; exact all_again _ (by kernel_rfl) t ht) hA2 (fun x hx => hb.same (hlt x hx)) (fun x hx => hsp x hx)) (fun _ _ => rfl) (by simp) hb (ok_one (by kernel_rfl) rfl (okWide_bool_mk Try.underlying4 _))⟩
theorem laid_met (os : Os) : laidMet Try.prog Rows.sharingApartUptoRow.laid ((laidWorld os).forCall (fun _ _ => 0) ⟨#[], #[.agg #[.slice none 0 0, .slice none 0 0, .slice none 0 0], .slice none 0 0, .int .i64 0, .int .i64 0], []⟩).memory :=
  ⟨[], rfl, List.nodup_nil, fun _ _ h => by cases h⟩
theorem reads (os : Os) {H : Type} (enc : TypeId × Value → H) : ∃ places, DataW.whole enc Try.prog ((laidWorld os).forCall (fun _ _ => 0) ⟨#[], #[.agg #[.slice none 0 0, .slice none 0 0, .slice none 0 0], .slice none 0 0, .int .i64 0, .int .i64 0], []⟩).memory Try.f10.params.toList Rows.sharingApartSpec.vars false
    (#[.agg #[.slice none 0 0, .slice none 0 0, .slice none 0 0], .slice none 0 0, .int .i64 0, .int .i64 0] : Array Value).toList 8 = some ([.agg [.nil, .nil, .nil], .nil, .lit (.int .i64 0), .lit (.int .i64 0)], [], places) :=
  ⟨[], by kernel_rfl⟩
set_option maxRecDepth 100000 in
theorem lifted (os : Os) (started : os.Started) (H : Type) (enc : TypeId × Value → H) (F : Stop.Interp) :
    ReturnsInHanded {} Try.checked os 10 .any ((Rows.OpenSpec.upto Rows.sharingApartSpec).preRow enc Try.prog Try.f10 Rows.sharingApartUptoRow.domain false Rows.sharingApartUptoRow.laid) (((Rows.OpenSpec.upto Rows.sharingApartSpec).at F).post enc Try.prog Try.f10 false true false false) := by
  obtain ⟨places, hx⟩ := reads os enc
  refine returnsInHanded_of_row (C := Try.checked) (s := Rows.OpenSpec.upto Rows.sharingApartSpec) own_knob started (by kernel_rfl) Try.func10
    (witness_row_at (enc := enc) (C := Try.checked) false (laidWorld os) #[.agg #[.slice none 0 0, .slice none 0 0, .slice none 0 0], .slice none 0 0, .int .i64 0, .int .i64 0] rfl (by kernel_rfl) (by kernel_rfl) (by kernel_rfl)
      (OpenSpec.preRow_of_cond 8 hx (by kernel_rfl) (fun k hk => by injection hk with hk; subst hk; kernel_rfl) (by kernel_rfl) (laid_met os))) ?_
  intro W base args ds gs before hval hW _ hk _ _ _ _
  exact contract H enc W base args ds gs before hval hW (hk _ rfl)
theorem said : Rows.SharingApartUptoSaid :=
  OpenClaim.holds_of_cond 10 Try.f10 rfl rfl rfl rfl rfl rfl rfl ⟨rfl, rfl, rfl, rfl, rfl⟩ rfl rfl rfl rfl rfl (by kernel_rfl) Try.func10 (by kernel_rfl)
    (of_decide_eq_true (by kernel_rfl)) (by unfold Func.isWrapper; first | (rw [if_pos (by decide +kernel)]; kernel_rfl) | (rw [if_neg (by decide +kernel)]; exact ⟨rfl, rfl⟩))
    (fun os started H enc _ F => by rw [OpenClaim.pre_eq_preRow]; exact lifted os started H enc F)
end sApart
/-- THE STATEMENT. -/
theorem sharingApart_upto : Rows.SharingApartUptoSaid := sApart.said
#print axioms sharingApart_upto
end Go.Proofs.Ytkkmkjjbffpgnaa
