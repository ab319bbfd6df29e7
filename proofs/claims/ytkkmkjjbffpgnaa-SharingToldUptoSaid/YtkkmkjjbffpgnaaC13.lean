/- SharingTold: whatever the schedule, a thread reads and writes what Touches says; an owned variable is touched by its owner alone. Proved where the arguments are of bulk at most 1048576. -/
import Derived.Test.YtkkmkjjbffpgnaaP76
import Derived.Test.YtkkmkjjbffpgnaaP75
import Derived.Test.YtkkmkjjbffpgnaaP59
import Derived.Test.YtkkmkjjbffpgnaaP78
import Derived.Test.YtkkmkjjbffpgnaaP52
import Derived.Test.YtkkmkjjbffpgnaaP74
/- The walk of the law SharingTold. -/
namespace Go.Proofs.Ytkkmkjjbffpgnaa
open Go Go.RowKit
set_option maxHeartbeats 1000000 in
theorem has9_calls {A : Option Addr} {c : Nat} {l : List Int} (t : Int) (w : World) (hv : Ints (cmap w) (.slice A l.length c) l) :
    Calls Try.prog 37 #[.slice A l.length c, .int .i64 t] w fun e w' => e = .returned (.bool (decide (t ∈ l))) ∧ w' = w := by
  have hlen := hv.len.2.2
  obtain ⟨r, hr⟩ : ∃ r, decide (t ∈ l) = r := ⟨_, rfl⟩
  have HR := Lib.hid hr
  have HV := Lib.hid hv
  rw [hr]
  clear hr hv
  go_enter Try.func37, Try.ntmps37
  go_wp2
  go_loop [9, 6] (fun i _ => ∃ k : Nat, i = .int .i64 k ∧ k ≤ l.length ∧ Hid (t ∉ l.take k)) (fun i _ => l.length - (intOf i).toNat)
  case atStart => exact ⟨0, rfl, by omega, Lib.hid (by simp)⟩
  case round =>
    obtain ⟨k, rfl, hk, HN⟩ := hrel
    by_cases hlt : k < l.length
    · obtain ⟨x, hx⟩ : ∃ x, l[k]? = some x := ⟨_, List.getElem?_eq_getElem hlt⟩
      obtain ⟨b, o, rfl, hc⟩ := HV.out.at_ hx
      rw [Nat.mul_one] at hc
      have hcx : w.cell? ⟨b, o + k, none⟩ = some (.int .i64 x) := hc
      have HX := Lib.hid hx
      have i0 : (0 : Int) ≤ k := by omega
      have i1 : (k : Int) < l.length := by omega
      clear hx hc
      by_cases hxt : x = t
      · have ex : (x == t) = true := by simp [hxt]
        have hfin : r = true := by
          rw [← HR.out, decide_eq_true_eq, ← hxt]
          exact List.mem_of_getElem? HX.out
        have HF := Lib.hid hfin
        clear hfin hxt
        go_wp2
        go_ret
        exact ⟨ret_bool HF.out.symm, rfl⟩
      · have ex : (x == t) = false := by simp [hxt]
        have hnx : t ∉ l.take (k + 1) := by
          rw [List.take_add_one, HX.out]
          simp only [Option.toList_some, List.mem_append, List.mem_singleton]
          rintro (e | e)
          · exact HN.out e
          · exact hxt e.symm
        have HNX := Lib.hid hnx
        clear hnx hxt
        go_wp2
        go_round
        case rel => exact ⟨k + 1, by go_num, by omega, HNX⟩
        case measure => simp [intOf]; omega
    · obtain rfl : k = l.length := by omega
      have hfin : r = false := by
        rw [← HR.out, decide_eq_false_iff_not]
        have := HN.out
        rwa [List.take_length] at this
      have HF := Lib.hid hfin
      have ng : ¬ ((l.length : Int) < l.length) := by omega
      clear hfin hk hlt
      go_wp2
      go_ret
      exact ⟨ret_bool HF.out.symm, rfl⟩
theorem tou_good (u : Unit_) (cs : List Value) (w : World) (hu : UnitV (cmap w) cs u) (hok : UOk u) (hc : checkF u = none) :
    Calls Try.prog 11 #[.agg cs.toArray] w fun e w' => ∃ A c, e = .returned (.tuple #[.slice A u.shared.length c, .int .i64 0]) ∧ Sl (Cells touV) 2 (part w' w.heap.size w'.heap.size) (.slice A u.shared.length c) ((List.range u.shared.length).map (touF u)) ∧ Below w.heap.size w w' := by
  refine (tou_calls u cs w hu hok).mono ?_
  rintro e w' (⟨-, v, rfl, h1, h2⟩ | ⟨h, -⟩)
  · obtain ⟨A, c, rfl, -⟩ := id h1
    have hl : ((List.range u.shared.length).map (touF u)).length = u.shared.length := by simp
    rw [hl] at h1 ⊢
    exact ⟨A, c, rfl, h1, h2⟩
  · exact absurd hc h
theorem owners_good (u : Unit_) (cs : List Value) (w : World) (hu : UnitV (cmap w) cs u) (hok : UOk u) (hc : checkF u = none) :
    Calls Try.prog 13 #[.agg cs.toArray] w fun e w' => ∃ A c, e = .returned (.tuple #[.slice A u.shared.length c, .int .i64 0]) ∧ Ints (part w' w.heap.size w'.heap.size) (.slice A u.shared.length c) (ownRef u) ∧ Below w.heap.size w w' := by
  refine (owners_calls u cs w hu hok).mono ?_
  rintro e w' (⟨-, v, rfl, h1, h2⟩ | ⟨h, -⟩)
  · rw [← ownRef_is (checkF_none hc)] at h1
    obtain ⟨A, c, rfl, -⟩ := id h1
    have hl : (ownRef u).length = u.shared.length := by simp [ownRef]
    rw [hl] at h1 ⊢
    exact ⟨A, c, rfl, h1, h2⟩
  · exact absurd hc h
theorem tou_bad (u : Unit_) (cs : List Value) (w : World) (hu : UnitV (cmap w) cs u) (hok : UOk u) (hc : checkF u ≠ none) :
    Calls Try.prog 11 #[.agg cs.toArray] w fun e w' => e = .returned (.tuple #[.slice none 0 0, .int .i64 60]) ∧ Below w.heap.size w w' := by
  refine (tou_calls u cs w hu hok).mono ?_
  rintro e w' (⟨h, -⟩ | ⟨-, h1, h2⟩)
  · exact absurd h hc
  · exact ⟨h1, h2⟩
theorem owners_bad (u : Unit_) (cs : List Value) (w : World) (hu : UnitV (cmap w) cs u) (hok : UOk u) (hc : checkF u ≠ none) :
    Calls Try.prog 13 #[.agg cs.toArray] w fun e w' => e = .returned (.tuple #[.slice none 0 0, .int .i64 60]) ∧ Below w.heap.size w w' := by
  refine (owners_calls u cs w hu hok).mono ?_
  rintro e w' (⟨h, -⟩ | ⟨-, h1, h2⟩)
  · exact absurd h hc
  · exact ⟨h1, h2⟩
set_option maxRecDepth 100000 in
set_option maxHeartbeats 1000000 in
theorem told_bad (u : Unit_) (cs : List Value) (v : Value) (w : World) (hu : UnitV (cmap w) cs u) (hok : UOk u) (hc : checkF u ≠ none) :
    Calls Try.prog 9 #[.agg cs.toArray, v] w fun e w' => e = .returned (.bool true) ∧ Below w.heap.size w w' := by
  have hu0 := hu
  obtain ⟨su, lu, gu, rfl, -, -, -⟩ := hu0
  have HU := Lib.hid (And.intro hu (And.intro hok hc))
  have HL : ∀ wr, Blk wr w.heap.size 25 [su, lu, gu] → Hid (∀ j v, ([su, lu, gu] : List Value)[j]? = some v → wr.cell? ⟨w.heap.size, 0 + j, none⟩ = some v) := fun wr h => Lib.hid fun j v hj => by rw [Nat.zero_add, h.cell]; exact hj
  have HLL := Lib.hid HL
  have hB0 := Below_alloc' w (.cells #[su, lu, gu] 25)
  have hx0 := Blk.new w 25 [su, lu, gu]
  have HLD := HL _ hx0
  clear hu hok hc HL
  go_enter Try.func9, Try.ntmps9
  go_wp2_with (first
    | (refine wpList_load_at rfl 25 _ rfl w.heap.size 0 rfl _ _ HLD.out Try.underlying25 rfl (by kernel_rfl) ?_))
  refine (new_bad u _ _ (HU.out.1.mono (cmap_below hB0)) HU.out.2.1 HU.out.2.2).mono ?_
  rintro e w1 ⟨rfl, hb1⟩
  have hB1 := hB0.trans (hb1.mono hB0.size)
  have hx1 := hx0.below hb1 hx0.lt
  have HLD1 := HLL.out _ hx1
  clear hb1 hx0 HLD
  go_wp2_with (first
    | (refine wpList_load_at rfl 25 _ rfl w.heap.size 0 rfl _ _ HLD1.out Try.underlying25 rfl (by kernel_rfl) ?_))
  refine (tou_bad u _ _ (HU.out.1.mono (cmap_below hB1)) HU.out.2.1 HU.out.2.2).mono ?_
  rintro e w2 ⟨rfl, hb2⟩
  have hB2 := hB1.trans (hb2.mono hB1.size)
  have hx2 := hx1.below hb2 hx1.lt
  have HLD2 := HLL.out _ hx2
  clear hb2 hx1 HLD1
  go_wp2_with (first
    | (refine wpList_load_at rfl 25 _ rfl w.heap.size 0 rfl _ _ HLD2.out Try.underlying25 rfl (by kernel_rfl) ?_))
  refine (owners_bad u _ _ (HU.out.1.mono (cmap_below hB2)) HU.out.2.1 HU.out.2.2).mono ?_
  rintro e w3 ⟨rfl, hb3⟩
  have hB3 := hB2.trans (hb3.mono hB2.size)
  clear hb3 hx2 HLD2
  go_wp2_with fail
  refine (lives9_calls _).mono ?_
  rintro e w4 ⟨rfl, hb4⟩
  have hB4 := hB3.trans (hb4.mono hB3.size)
  have HF := Lib.hid hB4
  clear hb4 hB0 hB1 hB2 hB3 hB4
  go_wp2
  go_ret
  exact ⟨rfl, HF.out⟩
/-- After k threads of the schedule. -/
structure ToldAt (w w4 wr : World) (R : Nat → Prop) (g : Nat) (L : Lay) (u : Unit_) (Z : Nat → Prop) (k : Nat) (m : Mach) : Prop where
  at_ : MAz w wr R g L u Z m
  situ : Situ u m
  pr : m.prints.length ≤ k
  kz : (on w4 Z).le (on wr Z)
theorem ToldAt.below {w w4 wr wx : World} {R Z : Nat → Prop} {g : Nat} {L : Lay} {u : Unit_} {k : Nat} {m : Mach} (h : ToldAt w w4 wr R g L u Z k m) (hx : Below wr.heap.size wr wx) : ToldAt w w4 wx R g L u Z k m := ⟨h.at_.below hx, h.situ, h.pr, h.kz.trans ((FrW.of_below (fun _ => False) hx).on fun _ _ => id)⟩
set_option maxRecDepth 100000 in
set_option maxHeartbeats 4000000 in
theorem told_good (u : Unit_) (cs : List Value) (A : Option Addr) (c : Nat) (l : List Int) (w : World) (hu : UnitV (cmap w) cs u) (hok : UOk u) (hso : SOk u) (hv : Ints (cmap w) (.slice A l.length c) l) (hl : l.length ≤ 1048576) (hc : checkF u = none) :
    Calls Try.prog 9 #[.agg cs.toArray, .slice A l.length c] w fun e w' => e = .returned (.bool true) ∧ Below w.heap.size w w' := by
  have hru := checkF_none hc
  have hst := start_situ hc hso
  have hu0 := hu
  obtain ⟨su, lu, gu, rfl, hsh, -, -⟩ := hu0
  obtain ⟨sA, sc, rfl, -, -, -⟩ := id hsh
  have nS := hru.shared
  have HU := Lib.hid (And.intro hu (And.intro hok hc))
  have HK := Lib.hid (And.intro hru (And.intro hok (And.intro hst hv)))
  have HL : ∀ wr, Blk wr w.heap.size 25 [.slice sA u.shared.length sc, lu, gu] → Hid (∀ j v, ([.slice sA u.shared.length sc, lu, gu] : List Value)[j]? = some v → wr.cell? ⟨w.heap.size, 0 + j, none⟩ = some v) := fun wr h => Lib.hid fun j v hj => by rw [Nat.zero_add, h.cell]; exact hj
  have HLL := Lib.hid HL
  have hB0 := Below_alloc' w (.cells #[.slice sA u.shared.length sc, lu, gu] 25)
  have hx0 := Blk.new w 25 [.slice sA u.shared.length sc, lu, gu]
  have HLD := HL _ hx0
  clear hu hok hc HL hru hst hso hv hsh
  go_enter Try.func9, Try.ntmps9
  go_wp2_with (first
    | (refine wpList_load_at rfl 25 _ rfl w.heap.size 0 rfl _ _ HLD.out Try.underlying25 rfl (by kernel_rfl) ?_))
  refine (new_good u _ _ (HU.out.1.mono (cmap_below hB0)) HU.out.2.1 HU.out.2.2).mono ?_
  rintro e w1 ⟨g, L, R, rfl, hM, hR, hmu, hb1⟩
  have hS1 := fun wr (h : Below w1.heap.size w1 wr) => MAz.start hB0 hM hR hmu hb1 h
  have hbel1 : Below w.heap.size w w1 := hB0.trans (hb1.mono hB0.size)
  have hx1 := hx0.below hb1 hx0.lt
  have HLD1 := HLL.out _ hx1
  have HA := Lib.hid (And.intro hS1 hbel1)
  clear hb1 hx0 HLD hM hR hmu hS1 hbel1
  go_wp2_with (first
    | (refine wpList_load_at rfl 25 _ rfl w.heap.size 0 rfl _ _ HLD1.out Try.underlying25 rfl (by kernel_rfl) ?_))
  refine (tou_good u _ _ (HU.out.1.mono (cmap_below HA.out.2)) HU.out.2.1 HU.out.2.2).mono ?_
  rintro e w2 ⟨tA, tc, rfl, htou, hb2⟩
  have hx2 := hx1.below hb2 hx1.lt
  have HLD2 := HLL.out _ hx2
  have HT2 := Lib.hid (And.intro htou (And.intro hb2 (HA.out.2.trans (hb2.mono HA.out.2.size))))
  clear hb2 hx1 HLD1 htou
  go_wp2_with (first
    | (refine wpList_load_at rfl 25 _ rfl w.heap.size 0 rfl _ _ HLD2.out Try.underlying25 rfl (by kernel_rfl) ?_))
  refine (owners_good u _ _ (HU.out.1.mono (cmap_below HT2.out.2.2)) HU.out.2.1 HU.out.2.2).mono ?_
  rintro e w3 ⟨oA, oc, rfl, hown, hb3⟩
  have hx3 := hx2.below hb3 hx2.lt
  have HO3 := Lib.hid (And.intro hown hb3)
  clear hb3 hx2 HLD2 hown
  go_wp2_with fail
  refine (lives9_calls _).mono ?_
  rintro e w4 ⟨rfl, hb4⟩
  have hx4 := hx3.below hb4 hx3.lt
  have u0 : w4.cell? ⟨w.heap.size, 0, none⟩ = some (.slice sA u.shared.length sc) := hx4.cell 0
  have h12 := HT2.out.2.1
  have h23 := HO3.out.2
  have h14 : Below w1.heap.size w1 w4 := (h12.trans (h23.mono h12.size)).trans (hb4.mono (Nat.le_trans h12.size h23.size))
  have h24 : Below w2.heap.size w2 w4 := h23.trans (hb4.mono h23.size)
  have hT0 : ToldAt w w4 w4 R g L u (fun q => w1.heap.size ≤ q ∧ q < w4.heap.size) 0 (startM u) := ⟨HA.out.1 w4 h14, HK.out.2.2.1, by simp [startM], CM.le.refl _⟩
  have HT := Lib.hid hT0
  have k1 : Sl (Cells touV) 2 (on w4 (fun q => w1.heap.size ≤ q ∧ q < w4.heap.size)) (.slice tA u.shared.length tc) ((List.range u.shared.length).map (touF u)) :=
    HT2.out.1.mono (fun b o v h => by
      obtain ⟨q1, q2, q3⟩ := part_at h
      exact on_mk (cmap_below h24 _ _ _ q1) ⟨q2, Nat.lt_of_lt_of_le q3 h24.size⟩)
  have k2 : Ints (on w4 (fun q => w1.heap.size ≤ q ∧ q < w4.heap.size)) (.slice oA u.shared.length oc) (ownRef u) :=
    HO3.out.1.mono (fun b o v h => by
      obtain ⟨q1, q2, q3⟩ := part_at h
      exact on_mk (cmap_below hb4 _ _ _ q1) ⟨Nat.le_trans h12.size q2, Nat.lt_of_lt_of_le q3 hb4.size⟩)
  obtain ⟨Z, hZ⟩ : ∃ Z : Nat → Prop, (fun q => w1.heap.size ≤ q ∧ q < w4.heap.size) = Z := ⟨_, rfl⟩
  rw [hZ] at HT k1 k2
  have HT4 := Lib.hid (And.intro k1 k2)
  clear hb4 hx3 hx4 HT2 HO3 HA hT0 HLL hB0 h12 h23 h14 h24 k1 k2 hZ
  have hself : ((u.shared.length : Int) != (u.shared.length : Int)) = false := by simp
  go_wp2
  go_loopw [78, 12, 13, 14, 15, 16] (fun i _ _ _ _ _ wr => ∃ (k : Nat) (mk : Mach), i = .int .i64 k ∧ k ≤ l.length ∧ Hid (ToldAt w w4 wr R g L u Z k mk)) (fun i _ _ _ _ _ _ => l.length - (intOf i).toNat)
  case atStart => exact ⟨0, _, rfl, by omega, HT⟩
  case round =>
    clear HT u0 hself
    obtain ⟨k, mk, rfl, hk, HH⟩ := hrel
    by_cases hlt : k < l.length
    · obtain ⟨t, ht⟩ : ∃ t, l[k]? = some t := ⟨_, List.getElem?_eq_getElem hlt⟩
      obtain ⟨sb, so, rfl, hsc⟩ := (HK.out.2.2.2.mono (cmap_below HH.out.at_.bel)).at_ ht
      rw [Nat.mul_one] at hsc
      have hcs : wr.cell? ⟨sb, so + k, none⟩ = some (.int .i64 t) := hsc
      obtain ⟨pv, hM, hmu⟩ := HH.out.at_.ex
      have i0 : (0 : Int) ≤ k := by omega
      have i1 : (k : Int) < l.length := by omega
      have hstep := step_calls t hM HH.out.situ.ok HH.out.situ.mi HK.out.1 HK.out.2.1 (by have := HH.out.pr; omega) HH.out.at_.rl
      have hss := HH.out.situ.step HK.out.1 HK.out.2.1 t
      have hpp := step_prints HH.out.situ.ok t
      have htd := @told_step u HK.out.1 mk HH.out.situ t
      obtain ⟨d, hdd⟩ : ∃ d, stepD u mk t = d := ⟨_, rfl⟩
      obtain ⟨mn, hmn⟩ : ∃ mn, stepM u mk t = mn := ⟨_, rfl⟩
      obtain ⟨r, hr⟩ : ∃ r, barF u mk t = r := ⟨_, rfl⟩
      rw [hdd, hmn, hr] at hstep
      rw [hmn] at hss hpp
      rw [hdd, hr] at htd
      have hnext : ∀ w6, MadeP wr w6 R g { L with pv := pv } u mn → ToldAt w w4 w6 R g L u Z (k + 1) mn := fun w6 hm => by
        obtain ⟨q1, q2⟩ := HH.out.at_.made hmu hm
        exact ⟨q1, hss, by have := HH.out.pr; omega, HH.out.kz.trans q2⟩
      have HST := Lib.hid hstep
      have HNX := Lib.hid hnext
      have HTD := Lib.hid htd
      clear hsc hM hmu hstep hss hpp htd hdd hmn hr hnext ht HH
      by_cases h00 : r = 0
      · have e0 : (r != 0) = false := by simp [h00]
        by_cases k2 : d.kind = 2
        · have kk := k2
          obtain ⟨ht0, q, hq1, hq2, hq3, hq4⟩ := HTD.out h00 (by omega)
          obtain ⟨o, ho1, ho2⟩ := own_told hq2 ht0 (.inl (hq3 (by omega)))
          obtain ⟨R1, hR1⟩ : ∃ R1, (touF u q).1 = R1 := ⟨_, rfl⟩
          obtain ⟨R2, hR2⟩ : ∃ R2, (touF u q).2 = R2 := ⟨_, rfl⟩
          have hel : ((List.range u.shared.length).map (touF u))[q]? = some (touF u q) := by rw [List.getElem?_map, List.getElem?_range hq2]; rfl
          obtain ⟨tb, tof, rfl, tcs, ⟨ta, tbv, rfl, hta, htb⟩, htc⟩ := HT4.out.1.at_ hel
          rw [hR1] at hta hq3
          rw [hR2] at htb hq4
          obtain ⟨raA, rac, rfl, -⟩ := id hta
          obtain ⟨rbA, rbc, rfl, -⟩ := id htb
          obtain ⟨ob, oo, rfl, hoc⟩ := HT4.out.2.at_ ho1
          rw [Nat.mul_one] at hoc
          have j0 : (0 : Int) ≤ q := by omega
          have j1 : (q : Int) < u.shared.length := by omega
          have HQ := Lib.hid (And.intro hta (And.intro htb (And.intro htc (And.intro hoc (And.intro hq3 (And.intro hq4 hq1))))))
          have hm1 : decide (t ∈ R1) = true := decide_eq_true (hq3 (by omega))
          have hm2 : True := trivial
          have HM1 := Lib.hid hm1
          have HM2 := Lib.hid hm2
          have KK := Lib.hid kk
          clear hel hR1 hR2 hta htb htc hoc hq3 hq4 ho1 h00 kk hm1 hm2 k2
          by_cases hot : o = t
          · have eo : (o != t) = false := by simp [hot]
            clear hot ho2
            go_wp2_with fail
            refine HST.out.mono ?_
            rintro e w6 ⟨rfl, hm⟩
            have hfin := (HNX.out _ hm).below (Below_alloc' w6 (.cells #[.int .i64 d.thread, .int .i64 d.node, .int .u8 2, .int .i64 q, .int .i64 d.word, .int .i64 d.put] 55))
            have hle := hfin.kz
            have p1 : (w6.alloc (.cells #[.int .i64 d.thread, .int .i64 d.node, .int .u8 2, .int .i64 q, .int .i64 d.word, .int .i64 d.put] 55)).cell? ⟨tb, tof + q * 2, none⟩ = some (.slice raA R1.length rac) := (on_at (hle _ _ _ (HQ.out.2.2.1 0 _ rfl))).1
            have p2 : (w6.alloc (.cells #[.int .i64 d.thread, .int .i64 d.node, .int .u8 2, .int .i64 q, .int .i64 d.word, .int .i64 d.put] 55)).cell? ⟨tb, tof + q * 2 + 1, none⟩ = some (.slice rbA R2.length rbc) := (on_at (hle _ _ _ (HQ.out.2.2.1 1 _ rfl))).1
            have p3 : (w6.alloc (.cells #[.int .i64 d.thread, .int .i64 d.node, .int .u8 2, .int .i64 q, .int .i64 d.word, .int .i64 d.put] 55)).cell? ⟨ob, oo + q, none⟩ = some (.int .i64 o) := (on_at (hle _ _ _ HQ.out.2.2.2.1)).1
            have hh1 := has9_calls t (w6.alloc (.cells #[.int .i64 d.thread, .int .i64 d.node, .int .u8 2, .int .i64 q, .int .i64 d.word, .int .i64 d.put] 55)) (HQ.out.1.mono (hle.trans (on_le _ _)))
            have hh2 := has9_calls t (w6.alloc (.cells #[.int .i64 d.thread, .int .i64 d.node, .int .u8 2, .int .i64 q, .int .i64 d.word, .int .i64 d.put] 55)) (HQ.out.2.1.mono (hle.trans (on_le _ _)))
            have HH1 := Lib.hid hh1
            have HH2 := Lib.hid hh2
            have HFIN := Lib.hid hfin
            have HQ1 := Lib.hid hq1
            clear hfin hm hle hh1 hh2
            rw [stepD_cells, hq1, KK.out]
            clear hq1
            go_wp2_with fail
            refine HH1.out.mono ?_
            rintro e wz ⟨rfl, rfl⟩
            rw [HM1.out]
            go_wp2_with fail
            go_roundw
            case rel => exact ⟨k + 1, _, by go_num, by omega, HFIN⟩
            case measure => simp [intOf]; omega
          · have hom : o = -2 := by rcases ho2 with e | e; exact absurd e hot; exact e
            have eo : (o != t) = true := by simp [hot]
            have eo2 : (o != -2) = false := by simp [hom]
            clear hot ho2 hom
            go_wp2_with fail
            refine HST.out.mono ?_
            rintro e w6 ⟨rfl, hm⟩
            have hfin := (HNX.out _ hm).below (Below_alloc' w6 (.cells #[.int .i64 d.thread, .int .i64 d.node, .int .u8 2, .int .i64 q, .int .i64 d.word, .int .i64 d.put] 55))
            have hle := hfin.kz
            have p1 : (w6.alloc (.cells #[.int .i64 d.thread, .int .i64 d.node, .int .u8 2, .int .i64 q, .int .i64 d.word, .int .i64 d.put] 55)).cell? ⟨tb, tof + q * 2, none⟩ = some (.slice raA R1.length rac) := (on_at (hle _ _ _ (HQ.out.2.2.1 0 _ rfl))).1
            have p2 : (w6.alloc (.cells #[.int .i64 d.thread, .int .i64 d.node, .int .u8 2, .int .i64 q, .int .i64 d.word, .int .i64 d.put] 55)).cell? ⟨tb, tof + q * 2 + 1, none⟩ = some (.slice rbA R2.length rbc) := (on_at (hle _ _ _ (HQ.out.2.2.1 1 _ rfl))).1
            have p3 : (w6.alloc (.cells #[.int .i64 d.thread, .int .i64 d.node, .int .u8 2, .int .i64 q, .int .i64 d.word, .int .i64 d.put] 55)).cell? ⟨ob, oo + q, none⟩ = some (.int .i64 o) := (on_at (hle _ _ _ HQ.out.2.2.2.1)).1
            have hh1 := has9_calls t (w6.alloc (.cells #[.int .i64 d.thread, .int .i64 d.node, .int .u8 2, .int .i64 q, .int .i64 d.word, .int .i64 d.put] 55)) (HQ.out.1.mono (hle.trans (on_le _ _)))
            have hh2 := has9_calls t (w6.alloc (.cells #[.int .i64 d.thread, .int .i64 d.node, .int .u8 2, .int .i64 q, .int .i64 d.word, .int .i64 d.put] 55)) (HQ.out.2.1.mono (hle.trans (on_le _ _)))
            have HH1 := Lib.hid hh1
            have HH2 := Lib.hid hh2
            have HFIN := Lib.hid hfin
            have HQ1 := Lib.hid hq1
            clear hfin hm hle hh1 hh2
            rw [stepD_cells, hq1, KK.out]
            clear hq1
            go_wp2_with fail
            refine HH1.out.mono ?_
            rintro e wz ⟨rfl, rfl⟩
            rw [HM1.out]
            go_wp2_with fail
            go_roundw
            case rel => exact ⟨k + 1, _, by go_num, by omega, HFIN⟩
            case measure => simp [intOf]; omega
        · by_cases k3 : d.kind = 3
          · have kk := k3
            obtain ⟨ht0, q, hq1, hq2, hq3, hq4⟩ := HTD.out h00 (by omega)
            obtain ⟨o, ho1, ho2⟩ := own_told hq2 ht0 (.inr (hq4 (by omega)))
            obtain ⟨R1, hR1⟩ : ∃ R1, (touF u q).1 = R1 := ⟨_, rfl⟩
            obtain ⟨R2, hR2⟩ : ∃ R2, (touF u q).2 = R2 := ⟨_, rfl⟩
            have hel : ((List.range u.shared.length).map (touF u))[q]? = some (touF u q) := by rw [List.getElem?_map, List.getElem?_range hq2]; rfl
            obtain ⟨tb, tof, rfl, tcs, ⟨ta, tbv, rfl, hta, htb⟩, htc⟩ := HT4.out.1.at_ hel
            rw [hR1] at hta hq3
            rw [hR2] at htb hq4
            obtain ⟨raA, rac, rfl, -⟩ := id hta
            obtain ⟨rbA, rbc, rfl, -⟩ := id htb
            obtain ⟨ob, oo, rfl, hoc⟩ := HT4.out.2.at_ ho1
            rw [Nat.mul_one] at hoc
            have j0 : (0 : Int) ≤ q := by omega
            have j1 : (q : Int) < u.shared.length := by omega
            have HQ := Lib.hid (And.intro hta (And.intro htb (And.intro htc (And.intro hoc (And.intro hq3 (And.intro hq4 hq1))))))
            have hm1 : True := trivial
            have hm2 : decide (t ∈ R2) = true := decide_eq_true (hq4 (by omega))
            have HM1 := Lib.hid hm1
            have HM2 := Lib.hid hm2
            have KK := Lib.hid kk
            clear hel hR1 hR2 hta htb htc hoc hq3 hq4 ho1 h00 kk hm1 hm2 k2 k3
            by_cases hot : o = t
            · have eo : (o != t) = false := by simp [hot]
              clear hot ho2
              go_wp2_with fail
              refine HST.out.mono ?_
              rintro e w6 ⟨rfl, hm⟩
              have hfin := (HNX.out _ hm).below (Below_alloc' w6 (.cells #[.int .i64 d.thread, .int .i64 d.node, .int .u8 3, .int .i64 q, .int .i64 d.word, .int .i64 d.put] 55))
              have hle := hfin.kz
              have p1 : (w6.alloc (.cells #[.int .i64 d.thread, .int .i64 d.node, .int .u8 3, .int .i64 q, .int .i64 d.word, .int .i64 d.put] 55)).cell? ⟨tb, tof + q * 2, none⟩ = some (.slice raA R1.length rac) := (on_at (hle _ _ _ (HQ.out.2.2.1 0 _ rfl))).1
              have p2 : (w6.alloc (.cells #[.int .i64 d.thread, .int .i64 d.node, .int .u8 3, .int .i64 q, .int .i64 d.word, .int .i64 d.put] 55)).cell? ⟨tb, tof + q * 2 + 1, none⟩ = some (.slice rbA R2.length rbc) := (on_at (hle _ _ _ (HQ.out.2.2.1 1 _ rfl))).1
              have p3 : (w6.alloc (.cells #[.int .i64 d.thread, .int .i64 d.node, .int .u8 3, .int .i64 q, .int .i64 d.word, .int .i64 d.put] 55)).cell? ⟨ob, oo + q, none⟩ = some (.int .i64 o) := (on_at (hle _ _ _ HQ.out.2.2.2.1)).1
              have hh1 := has9_calls t (w6.alloc (.cells #[.int .i64 d.thread, .int .i64 d.node, .int .u8 3, .int .i64 q, .int .i64 d.word, .int .i64 d.put] 55)) (HQ.out.1.mono (hle.trans (on_le _ _)))
              have hh2 := has9_calls t (w6.alloc (.cells #[.int .i64 d.thread, .int .i64 d.node, .int .u8 3, .int .i64 q, .int .i64 d.word, .int .i64 d.put] 55)) (HQ.out.2.1.mono (hle.trans (on_le _ _)))
              have HH1 := Lib.hid hh1
              have HH2 := Lib.hid hh2
              have HFIN := Lib.hid hfin
              have HQ1 := Lib.hid hq1
              clear hfin hm hle hh1 hh2
              rw [stepD_cells, hq1, KK.out]
              clear hq1
              go_wp2_with fail
              refine HH2.out.mono ?_
              rintro e wz ⟨rfl, rfl⟩
              rw [HM2.out]
              go_wp2_with fail
              go_roundw
              case rel => exact ⟨k + 1, _, by go_num, by omega, HFIN⟩
              case measure => simp [intOf]; omega
            · have hom : o = -2 := by rcases ho2 with e | e; exact absurd e hot; exact e
              have eo : (o != t) = true := by simp [hot]
              have eo2 : (o != -2) = false := by simp [hom]
              clear hot ho2 hom
              go_wp2_with fail
              refine HST.out.mono ?_
              rintro e w6 ⟨rfl, hm⟩
              have hfin := (HNX.out _ hm).below (Below_alloc' w6 (.cells #[.int .i64 d.thread, .int .i64 d.node, .int .u8 3, .int .i64 q, .int .i64 d.word, .int .i64 d.put] 55))
              have hle := hfin.kz
              have p1 : (w6.alloc (.cells #[.int .i64 d.thread, .int .i64 d.node, .int .u8 3, .int .i64 q, .int .i64 d.word, .int .i64 d.put] 55)).cell? ⟨tb, tof + q * 2, none⟩ = some (.slice raA R1.length rac) := (on_at (hle _ _ _ (HQ.out.2.2.1 0 _ rfl))).1
              have p2 : (w6.alloc (.cells #[.int .i64 d.thread, .int .i64 d.node, .int .u8 3, .int .i64 q, .int .i64 d.word, .int .i64 d.put] 55)).cell? ⟨tb, tof + q * 2 + 1, none⟩ = some (.slice rbA R2.length rbc) := (on_at (hle _ _ _ (HQ.out.2.2.1 1 _ rfl))).1
              have p3 : (w6.alloc (.cells #[.int .i64 d.thread, .int .i64 d.node, .int .u8 3, .int .i64 q, .int .i64 d.word, .int .i64 d.put] 55)).cell? ⟨ob, oo + q, none⟩ = some (.int .i64 o) := (on_at (hle _ _ _ HQ.out.2.2.2.1)).1
              have hh1 := has9_calls t (w6.alloc (.cells #[.int .i64 d.thread, .int .i64 d.node, .int .u8 3, .int .i64 q, .int .i64 d.word, .int .i64 d.put] 55)) (HQ.out.1.mono (hle.trans (on_le _ _)))
              have hh2 := has9_calls t (w6.alloc (.cells #[.int .i64 d.thread, .int .i64 d.node, .int .u8 3, .int .i64 q, .int .i64 d.word, .int .i64 d.put] 55)) (HQ.out.2.1.mono (hle.trans (on_le _ _)))
              have HH1 := Lib.hid hh1
              have HH2 := Lib.hid hh2
              have HFIN := Lib.hid hfin
              have HQ1 := Lib.hid hq1
              clear hfin hm hle hh1 hh2
              rw [stepD_cells, hq1, KK.out]
              clear hq1
              go_wp2_with fail
              refine HH2.out.mono ?_
              rintro e wz ⟨rfl, rfl⟩
              rw [HM2.out]
              go_wp2_with fail
              go_roundw
              case rel => exact ⟨k + 1, _, by go_num, by omega, HFIN⟩
              case measure => simp [intOf]; omega
          · by_cases k4 : d.kind = 4
            · have kk := k4
              obtain ⟨ht0, q, hq1, hq2, hq3, hq4⟩ := HTD.out h00 (by omega)
              obtain ⟨o, ho1, ho2⟩ := own_told hq2 ht0 (.inl (hq3 (by omega)))
              obtain ⟨R1, hR1⟩ : ∃ R1, (touF u q).1 = R1 := ⟨_, rfl⟩
              obtain ⟨R2, hR2⟩ : ∃ R2, (touF u q).2 = R2 := ⟨_, rfl⟩
              have hel : ((List.range u.shared.length).map (touF u))[q]? = some (touF u q) := by rw [List.getElem?_map, List.getElem?_range hq2]; rfl
              obtain ⟨tb, tof, rfl, tcs, ⟨ta, tbv, rfl, hta, htb⟩, htc⟩ := HT4.out.1.at_ hel
              rw [hR1] at hta hq3
              rw [hR2] at htb hq4
              obtain ⟨raA, rac, rfl, -⟩ := id hta
              obtain ⟨rbA, rbc, rfl, -⟩ := id htb
              obtain ⟨ob, oo, rfl, hoc⟩ := HT4.out.2.at_ ho1
              rw [Nat.mul_one] at hoc
              have j0 : (0 : Int) ≤ q := by omega
              have j1 : (q : Int) < u.shared.length := by omega
              have HQ := Lib.hid (And.intro hta (And.intro htb (And.intro htc (And.intro hoc (And.intro hq3 (And.intro hq4 hq1))))))
              have hm1 : decide (t ∈ R1) = true := decide_eq_true (hq3 (by omega))
              have hm2 : decide (t ∈ R2) = true := decide_eq_true (hq4 (by omega))
              have HM1 := Lib.hid hm1
              have HM2 := Lib.hid hm2
              have KK := Lib.hid kk
              clear hel hR1 hR2 hta htb htc hoc hq3 hq4 ho1 h00 kk hm1 hm2 k2 k3 k4
              by_cases hot : o = t
              · have eo : (o != t) = false := by simp [hot]
                clear hot ho2
                go_wp2_with fail
                refine HST.out.mono ?_
                rintro e w6 ⟨rfl, hm⟩
                have hfin := (HNX.out _ hm).below (Below_alloc' w6 (.cells #[.int .i64 d.thread, .int .i64 d.node, .int .u8 4, .int .i64 q, .int .i64 d.word, .int .i64 d.put] 55))
                have hle := hfin.kz
                have p1 : (w6.alloc (.cells #[.int .i64 d.thread, .int .i64 d.node, .int .u8 4, .int .i64 q, .int .i64 d.word, .int .i64 d.put] 55)).cell? ⟨tb, tof + q * 2, none⟩ = some (.slice raA R1.length rac) := (on_at (hle _ _ _ (HQ.out.2.2.1 0 _ rfl))).1
                have p2 : (w6.alloc (.cells #[.int .i64 d.thread, .int .i64 d.node, .int .u8 4, .int .i64 q, .int .i64 d.word, .int .i64 d.put] 55)).cell? ⟨tb, tof + q * 2 + 1, none⟩ = some (.slice rbA R2.length rbc) := (on_at (hle _ _ _ (HQ.out.2.2.1 1 _ rfl))).1
                have p3 : (w6.alloc (.cells #[.int .i64 d.thread, .int .i64 d.node, .int .u8 4, .int .i64 q, .int .i64 d.word, .int .i64 d.put] 55)).cell? ⟨ob, oo + q, none⟩ = some (.int .i64 o) := (on_at (hle _ _ _ HQ.out.2.2.2.1)).1
                have hh1 := has9_calls t (w6.alloc (.cells #[.int .i64 d.thread, .int .i64 d.node, .int .u8 4, .int .i64 q, .int .i64 d.word, .int .i64 d.put] 55)) (HQ.out.1.mono (hle.trans (on_le _ _)))
                have hh2 := has9_calls t (w6.alloc (.cells #[.int .i64 d.thread, .int .i64 d.node, .int .u8 4, .int .i64 q, .int .i64 d.word, .int .i64 d.put] 55)) (HQ.out.2.1.mono (hle.trans (on_le _ _)))
                have HH1 := Lib.hid hh1
                have HH2 := Lib.hid hh2
                have HFIN := Lib.hid hfin
                have HQ1 := Lib.hid hq1
                clear hfin hm hle hh1 hh2
                rw [stepD_cells, hq1, KK.out]
                clear hq1
                go_wp2_with fail
                refine HH1.out.mono ?_
                rintro e wz ⟨rfl, rfl⟩
                rw [HM1.out]
                go_wp2_with fail
                refine HH2.out.mono ?_
                rintro e wz ⟨rfl, rfl⟩
                rw [HM2.out]
                go_wp2_with fail
                go_roundw
                case rel => exact ⟨k + 1, _, by go_num, by omega, HFIN⟩
                case measure => simp [intOf]; omega
              · have hom : o = -2 := by rcases ho2 with e | e; exact absurd e hot; exact e
                have eo : (o != t) = true := by simp [hot]
                have eo2 : (o != -2) = false := by simp [hom]
                clear hot ho2 hom
                go_wp2_with fail
                refine HST.out.mono ?_
                rintro e w6 ⟨rfl, hm⟩
                have hfin := (HNX.out _ hm).below (Below_alloc' w6 (.cells #[.int .i64 d.thread, .int .i64 d.node, .int .u8 4, .int .i64 q, .int .i64 d.word, .int .i64 d.put] 55))
                have hle := hfin.kz
                have p1 : (w6.alloc (.cells #[.int .i64 d.thread, .int .i64 d.node, .int .u8 4, .int .i64 q, .int .i64 d.word, .int .i64 d.put] 55)).cell? ⟨tb, tof + q * 2, none⟩ = some (.slice raA R1.length rac) := (on_at (hle _ _ _ (HQ.out.2.2.1 0 _ rfl))).1
                have p2 : (w6.alloc (.cells #[.int .i64 d.thread, .int .i64 d.node, .int .u8 4, .int .i64 q, .int .i64 d.word, .int .i64 d.put] 55)).cell? ⟨tb, tof + q * 2 + 1, none⟩ = some (.slice rbA R2.length rbc) := (on_at (hle _ _ _ (HQ.out.2.2.1 1 _ rfl))).1
                have p3 : (w6.alloc (.cells #[.int .i64 d.thread, .int .i64 d.node, .int .u8 4, .int .i64 q, .int .i64 d.word, .int .i64 d.put] 55)).cell? ⟨ob, oo + q, none⟩ = some (.int .i64 o) := (on_at (hle _ _ _ HQ.out.2.2.2.1)).1
                have hh1 := has9_calls t (w6.alloc (.cells #[.int .i64 d.thread, .int .i64 d.node, .int .u8 4, .int .i64 q, .int .i64 d.word, .int .i64 d.put] 55)) (HQ.out.1.mono (hle.trans (on_le _ _)))
                have hh2 := has9_calls t (w6.alloc (.cells #[.int .i64 d.thread, .int .i64 d.node, .int .u8 4, .int .i64 q, .int .i64 d.word, .int .i64 d.put] 55)) (HQ.out.2.1.mono (hle.trans (on_le _ _)))
                have HH1 := Lib.hid hh1
                have HH2 := Lib.hid hh2
                have HFIN := Lib.hid hfin
                have HQ1 := Lib.hid hq1
                clear hfin hm hle hh1 hh2
                rw [stepD_cells, hq1, KK.out]
                clear hq1
                go_wp2_with fail
                refine HH1.out.mono ?_
                rintro e wz ⟨rfl, rfl⟩
                rw [HM1.out]
                go_wp2_with fail
                refine HH2.out.mono ?_
                rintro e wz ⟨rfl, rfl⟩
                rw [HM2.out]
                go_wp2_with fail
                go_roundw
                case rel => exact ⟨k + 1, _, by go_num, by omega, HFIN⟩
                case measure => simp [intOf]; omega
            · have e2 : (d.kind == 2) = false := by simp [k2]
              have e3 : (d.kind == 3) = false := by simp [k3]
              have e4 : (d.kind == 4) = false := by simp [k4]
              clear k2 k3 k4 h00
              go_wp2_with fail
              refine HST.out.mono ?_
              rintro e w6 ⟨rfl, hm⟩
              have hfin := (HNX.out _ hm).below (Below_alloc' w6 (.cells #[.int .i64 d.thread, .int .i64 d.node, .int .u8 d.kind, .int .i64 d.thing, .int .i64 d.word, .int .i64 d.put] 55))
              have HFIN := Lib.hid hfin
              clear hfin hm
              rw [stepD_cells]
              go_wp2
              go_roundw
              case rel => exact ⟨k + 1, _, by go_num, by omega, HFIN⟩
              case measure => simp [intOf]; omega
      · have e0 : (r != 0) = true := by simp [h00]
        clear h00
        go_wp2_with fail
        refine HST.out.mono ?_
        rintro e w6 ⟨rfl, hm⟩
        have hfin := (HNX.out _ hm).below (Below_alloc' w6 (.cells #[.int .i64 d.thread, .int .i64 d.node, .int .u8 d.kind, .int .i64 d.thing, .int .i64 d.word, .int .i64 d.put] 55))
        have HFIN := Lib.hid hfin
        clear hfin hm
        rw [stepD_cells]
        go_wp2
        go_roundw
        case rel => exact ⟨k + 1, _, by go_num, by omega, HFIN⟩
        case measure => simp [intOf]; omega
    · have ngk : ¬ ((l.length : Int) < l.length) := by omega
      obtain rfl : k = l.length := by omega
      have hB := HH.out.at_.bel
      clear hk hlt
      go_wp2
      go_ret
      exact ⟨rfl, hB⟩
theorem sharingTold_calls (w : World) (cs : List Value) (u : Unit_) (A : Option Addr) (c : Nat) (l : List Int) (hu : UnitV (cmap w) cs u) (hok : UOk u) (hso : SOk u) (hv : Ints (cmap w) (.slice A l.length c) l) (_hi : ∀ x ∈ l, i64 x) (hl : l.length ≤ 1048576) :
    Calls Try.prog 9 #[.agg cs.toArray, .slice A l.length c] w fun e w' => e = .returned (.bool true) ∧ Below w.heap.size w w' := by
  cases hc : checkF u with
  | none => exact told_good u cs A c l w hu hok hso hv hl hc
  | some p => exact told_bad u cs _ w hu hok (by rw [hc]; simp)
end Go.Proofs.Ytkkmkjjbffpgnaa
namespace Go.Proofs.Ytkkmkjjbffpgnaa
open Go Go.RowKit Go.ChangeShapes Go.WideShapes Go.ChangeAt
namespace STold
set_option maxRecDepth 100000 in
theorem contract (H : Type) (enc : TypeId × Value → H) (W : World) (base : Nat) (args : Array Value) (ds gs : List (DataW H)) (before : List MemPlace)
    (hval : ∀ (j : Nat) t v, Try.f9.params[j]? = some t → args[j]? = some v → Value.okWide Try.prog W .any base t v)
    (hW : DataW.Whole enc Try.prog Try.f9.params.toList Rows.sharingToldSpec.vars false W args.toList ds gs before) (hk : Rows.uptoSmall H (ds ++ gs) = true) :
    Calls Try.prog 9 args W fun e W' => ∃ v, e = .returned v ∧ Rows.sharingToldSpec.post enc Try.prog Try.f9 false true false false W args v W' := by
  have hW' := hW
  obtain ⟨p, q, hA0, hV, rfl, hfz, hnd⟩ := hW
  have hA : DataW.TrodAll enc Try.prog W 0 (fun _ => true) true Try.f9.params.toList args.toList ds p := hA0
  have hA2 := hA
  rw [Try.params9] at hA hval
  obtain ⟨v0, vs0, d0, ds0, p0, q0, hargs, rfl, hp, h0, r0⟩ := trodAll_cons hA
  obtain ⟨v1, vs1, d1, ds1, p1, q1, rfl, rfl, hp1, h1, r1⟩ := trodAll_cons r0
  obtain ⟨rfl, rfl, hp9⟩ := trodAll_nil r1
  obtain rfl : args = #[v0, v1] := by cases args; simp_all
  obtain ⟨rfl, rfl⟩ := trodVars_none hV
  have hbulk := bulk_small hk
  obtain ⟨cs0, u0, rfl, hu0, hok0, hso0⟩ := open_unit_s (hval 0 25 v0 rfl rfl) h0
  obtain ⟨A1, c1, l1, rfl, hv1, hi1, hl1⟩ := open_ints_s (hval 1 30 v1 rfl rfl) h1
  have hl1 : l1.length ≤ 1048576 := Nat.le_trans hl1 (Nat.le_trans (bulk_part (by simp)) hbulk)
  have hlt := fun x hx => hW'.lt x hx
  simp only [List.append_nil] at hW' hlt
  refine (sharingTold_calls W cs0 u0 A1 c1 l1 hu0 hok0 hso0 hv1 hi1 hl1).mono fun e W' ⟨he, hb⟩ => ?_
  subst he
  exact ⟨_, rfl, post_below (pa := p) (pv := []) hW' (fun _ _ _ => trodAll_cons_mk (shut_bool Try.underlying4 _) trodAll_mk0)
    (fun sp hsp => trodAll_stays (by intro t ht; rw [Try.params9] at ht; exact all_again _ (by kernel_rfl) t ht) hA2 (fun x hx => hb.same (hlt x hx)) (fun x hx => hsp x hx)) (fun _ _ => rfl) (by simp) hb (ok_one (by kernel_rfl) rfl (okWide_bool_mk Try.underlying4 _))⟩
theorem laid_met (os : Os) : laidMet Try.prog Rows.sharingToldUptoRow.laid ((laidWorld os).forCall (fun _ _ => 0) ⟨#[], #[.agg #[.slice none 0 0, .slice none 0 0, .slice none 0 0], .slice none 0 0], []⟩).memory :=
  ⟨[], rfl, List.nodup_nil, fun _ _ h => by cases h⟩
theorem reads (os : Os) {H : Type} (enc : TypeId × Value → H) : ∃ places, DataW.whole enc Try.prog ((laidWorld os).forCall (fun _ _ => 0) ⟨#[], #[.agg #[.slice none 0 0, .slice none 0 0, .slice none 0 0], .slice none 0 0], []⟩).memory Try.f9.params.toList Rows.sharingToldSpec.vars false
    (#[.agg #[.slice none 0 0, .slice none 0 0, .slice none 0 0], .slice none 0 0] : Array Value).toList 8 = some ([.agg [.nil, .nil, .nil], .nil], [], places) :=
  ⟨[], by kernel_rfl⟩
set_option maxRecDepth 100000 in
theorem lifted (os : Os) (started : os.Started) (H : Type) (enc : TypeId × Value → H) (F : Stop.Interp) :
    ReturnsInHanded {} Try.checked os 9 .any ((Rows.OpenSpec.upto Rows.sharingToldSpec).preRow enc Try.prog Try.f9 Rows.sharingToldUptoRow.domain false Rows.sharingToldUptoRow.laid) (((Rows.OpenSpec.upto Rows.sharingToldSpec).at F).post enc Try.prog Try.f9 false true false false) := by
  obtain ⟨places, hx⟩ := reads os enc
  refine returnsInHanded_of_row (C := Try.checked) (s := Rows.OpenSpec.upto Rows.sharingToldSpec) own_knob started (by kernel_rfl) Try.func9
    (witness_row_at (enc := enc) (C := Try.checked) false (laidWorld os) #[.agg #[.slice none 0 0, .slice none 0 0, .slice none 0 0], .slice none 0 0] rfl (by kernel_rfl) (by kernel_rfl) (by kernel_rfl)
      (OpenSpec.preRow_of_cond 8 hx (by kernel_rfl) (fun k hk => by injection hk with hk; subst hk; kernel_rfl) (by kernel_rfl) (laid_met os))) ?_
  intro W base args ds gs before hval hW _ hk _ _ _ _
  exact contract H enc W base args ds gs before hval hW (hk _ rfl)
theorem said : Rows.SharingToldUptoSaid :=
  OpenClaim.holds_of_cond 9 Try.f9 rfl rfl rfl rfl rfl rfl rfl ⟨rfl, rfl, rfl, rfl, rfl⟩ rfl rfl rfl rfl rfl (by kernel_rfl) Try.func9 (by kernel_rfl)
    (of_decide_eq_true (by kernel_rfl)) (by unfold Func.isWrapper; first | (rw [if_pos (by decide +kernel)]; kernel_rfl) | (rw [if_neg (by decide +kernel)]; exact ⟨rfl, rfl⟩))
    (fun os started H enc _ F => by rw [OpenClaim.pre_eq_preRow]; exact lifted os started H enc F)
end STold
/-- THE STATEMENT. -/
theorem sharingTold_upto : Rows.SharingToldUptoSaid := STold.said
#print axioms sharingTold_upto
end Go.Proofs.Ytkkmkjjbffpgnaa
