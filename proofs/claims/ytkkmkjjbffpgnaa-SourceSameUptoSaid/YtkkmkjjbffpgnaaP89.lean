import Derived.Test.YtkkmkjjbffpgnaaP88
import Derived.Test.YtkkmkjjbffpgnaaP73
/- Advance, whatever it is asked; what it leaves beside another machine; three machines side by side. -/
namespace Go.Proofs.Ytkkmkjjbffpgnaa
open Go Go.RowKit
set_option maxRecDepth 100000 in
set_option maxHeartbeats 2000000 in
theorem adv_end {w : World} {R : Nat → Prop} {g : Nat} {L : Lay} {u : Unit_} {m : Mach} (h : MachB w R g L u m) (hs : Situ u m) (hu : RightU u) (t most : Int) (vA : Option Addr) (vc : Nat) (cl : List Cls) (hk : advOk u cl t most) (hb7 : barF u m t = 70) :
    Calls Try.prog 34 #[.pointer (some ⟨g, 0, none⟩), .int .i64 t, .slice vA cl.length vc, .int .i64 most] w fun e w' => e = .returned (.tuple #[.int .i64 0, .int .i64 70]) ∧ Below w.heap.size w w' := by
  obtain ⟨⟨h1a, h1b⟩, h2, h3, h4⟩ := hk
  obtain ⟨sA, sc, hsv⟩ := unit_sv h
  have c0 : ∀ q, (w.drewN q).cell? ⟨g, 0, none⟩ = some (.slice sA u.shared.length sc) := fun q => by
    show w.cell? ⟨g, 0, none⟩ = _
    rw [h.cell 0, ← hsv]; rfl
  have HT := Lib.hid (there_calls t h)
  have d1 : decide (0 ≤ t ∧ t < (m.at_.length : Int)) = true := decide_eq_true (by rw [hs.ok.at_]; exact ⟨h1a, h1b⟩)
  rw [d1] at HT
  have n2 : ((cl.length : Int) != (u.shared.length : Int)) = false := by simp [h2]
  have n3 : decide (most < 0) = false := decide_eq_false (by omega)
  have n4 : decide (most > 1048576) = false := decide_eq_false (by omega)
  have hbr := fun q => bar_calls t (h.drewN q) hs.ok hu
  rw [hb7] at hbr
  have HBR := Lib.hid hbr
  have HB := Lib.hid (Below_drewN w)
  clear h hs hu h1a h1b h2 h3 h4 hsv d1 hb7 hbr
  go_enter Try.func34, Try.ntmps34
  go_wp2_with fail
  refine HT.out.mono ?_
  rintro e w1 ⟨rfl, q1, rfl⟩
  have c0q := c0 q1
  go_wp2_with fail
  refine (HBR.out q1).mono ?_
  rintro e w2 ⟨rfl, hb2⟩
  have HF := Lib.hid ((HB.out q1).trans hb2)
  clear hb2 c0q c0
  go_wp2
  go_ret2
  exact ⟨rfl, HF.out⟩
theorem adv_calls {w : World} {R : Nat → Prop} {g : Nat} {L : Lay} {u : Unit_} {m : Mach} (h : MachB w R g L u m) (hR : ∀ q, R q → q < w.heap.size) (hs : Situ u m) (hu : RightU u) (huo : UOk u) (hz : SizeU u) (hpr : m.prints.length ≤ 4294967296) (t most : Int) (vA : Option Addr) (vc : Nat) (cl : List Cls) (hcl : Clss (cmap w) (.slice vA cl.length vc) cl) :
    Calls Try.prog 34 #[.pointer (some ⟨g, 0, none⟩), .int .i64 t, .slice vA cl.length vc, .int .i64 most] w fun e w' => e = .returned (.tuple #[.int .i64 ((advR u cl t most m).2.1 : Nat), .int .i64 (advR u cl t most m).2.2]) ∧ AdvP w w' R g L u (advR u cl t most m).1 := by
  by_cases hk : advOk u cl t most
  · by_cases hb7 : barF u m t = 70
    · have e : advR u cl t most m = (m, 0, 70) := by unfold advR; rw [if_neg (by simp [hk]), if_pos hb7]
      rw [e]
      exact (adv_end h hs hu t most vA vc cl hk hb7).mono fun e w' ⟨h1, h2⟩ => ⟨h1, AdvP.same h h2⟩
    · obtain ⟨ta, rfl⟩ := Int.eq_ofNat_of_zero_le hk.1.1
      obtain ⟨M, rfl⟩ := Int.eq_ofNat_of_zero_le hk.2.2.1
      have e : advR u cl (ta : Int) (M : Int) m = ((advF u cl (ta : Int) M 0 m).1.getD m, (advF u cl (ta : Int) M 0 m).2) := by unfold advR; rw [if_neg (by simp [hk]), if_neg hb7, Int.toNat_natCast]
      rw [e]
      exact adv_go h hR hs hu huo hz hpr ta M vA vc cl hcl hk hb7
  · have e : advR u cl t most m = (m, 0, 2) := by unfold advR; rw [if_pos hk]
    rw [e]
    exact (adv_not h hs.ok t most vA vc cl hcl.len.2.2 hk).mono fun e w' ⟨h1, h2⟩ => ⟨h1, AdvP.same h h2⟩
section
variable {w wr wx : World} {R1 R2 R3 : Nat → Prop} {g1 g2 g3 : Nat} {L1 L2 L3 : Lay} {u : Unit_} {m1 m2 m3 m' : Mach}
theorem TwoM.adv (h : TwoM w wr R1 g1 L1 R2 g2 L2 u m1 m2) (hp : AdvP wr wx R1 g1 L1 u m') : ∃ R1' L1', TwoM w wx R1' g1 L1' R2 g2 L2 u m' m2 := by
  obtain ⟨R', L', k1, k2, k3⟩ := hp.ex
  have hg : ∀ q, q = g1 → L1.mut g1 q := fun q e => .inl e
  refine ⟨R', L', k1, h.b.fr hp.fr (fun q k e => (h.ab q (hg q e)).2.1 k) (fun q k e => (h.ab q (hg q e)).2.2 k), fun q hq => ?_, fun q hq => ⟨(h.ba q hq).1, fun e => ?_⟩, fun q hq => ?_, fun q hq => Nat.lt_of_lt_of_le (h.r2 q hq) hp.fr.size, h.bel.trans (hp.fr.grow _ h.bel.size fun q e => (h.ab q (hg q e)).1)⟩
  · rcases k2 q hq with e | e
    · exact h.ab q e
    · exact ⟨Nat.le_trans h.bel.size e, fun k => by have := h.b.lt k; omega, fun k => by have := h.r2 q k; omega⟩
  · rcases k3 q e with k | k
    · exact (h.ba q hq).2 k
    · have := h.b.lt hq; omega
  · rcases k3 q hq with k | k
    · exact Nat.lt_of_lt_of_le (h.r1 q k) hp.fr.size
    · exact k.2
theorem TwoM.made_at (h : TwoM w wr R1 g1 L1 R2 g2 L2 u m1 m2) {pv : Value} (k1 : MachB wx R1 g1 { L1 with pv := pv } u m') (k2 : ∀ q, ({ L1 with pv := pv } : Lay).mut g1 q → L1.mut g1 q ∨ wr.heap.size ≤ q) (hf : FrW (fun q => L1.mut g1 q) wr wx) : TwoM w wx R1 g1 { L1 with pv := pv } R2 g2 L2 u m' m2 := by
  have hbl : ∀ {q}, L2.mut g2 q → q < wr.heap.size := fun hq => h.b.lt hq
  refine ⟨k1, h.b.fr hf (fun q k e => (h.ab q e).2.1 k) (fun q k e => (h.ab q e).2.2 k), fun q hq => ?_, fun q hq => ⟨(h.ba q hq).1, (h.ba q hq).2⟩, fun q hq => Nat.lt_of_lt_of_le (h.r1 q hq) hf.size, fun q hq => Nat.lt_of_lt_of_le (h.r2 q hq) hf.size, h.bel.trans (hf.grow _ h.bel.size fun q hq => (h.ab q hq).1)⟩
  rcases k2 q hq with e | e
  · exact h.ab q e
  · exact ⟨Nat.le_trans h.bel.size e, fun k => by have := hbl k; omega, fun k => by have := h.r2 q k; omega⟩
structure TriM (w wr : World) (R1 : Nat → Prop) (g1 : Nat) (L1 : Lay) (R2 : Nat → Prop) (g2 : Nat) (L2 : Lay) (R3 : Nat → Prop) (g3 : Nat) (L3 : Lay) (u : Unit_) (m1 m2 m3 : Mach) : Prop where
  ab : TwoM w wr R1 g1 L1 R2 g2 L2 u m1 m2
  ac : TwoM w wr R1 g1 L1 R3 g3 L3 u m1 m3
  bc : TwoM w wr R2 g2 L2 R3 g3 L3 u m2 m3
theorem TriM.below (h : TriM w wr R1 g1 L1 R2 g2 L2 R3 g3 L3 u m1 m2 m3) (hx : Below wr.heap.size wr wx) : TriM w wx R1 g1 L1 R2 g2 L2 R3 g3 L3 u m1 m2 m3 := ⟨h.ab.below hx, h.ac.below hx, h.bc.below hx⟩
/-- The second one goes on. -/
theorem TriM.made2 (h : TriM w wr R1 g1 L1 R2 g2 L2 R3 g3 L3 u m1 m2 m3) (hm : MadeP wr wx R2 g2 L2 u m') : ∃ pv, TriM w wx R1 g1 L1 R2 g2 { L2 with pv := pv } R3 g3 L3 u m1 m' m3 := by
  obtain ⟨pv, k1, k2⟩ := hm.ex
  exact ⟨pv, (h.ab.swap.made_at k1 k2 hm.fr).swap, h.ac.fr hm.fr (fun q hq => (h.ab.ba q hq).1) (fun q hq => ⟨fun e => (h.ab.ab q e).2.1 hq, (h.ab.ba q hq).2, (h.bc.ab q hq).2.1, (h.bc.ab q hq).2.2⟩), h.bc.made_at k1 k2 hm.fr⟩
/-- The third one goes on. -/
theorem TriM.made3 (h : TriM w wr R1 g1 L1 R2 g2 L2 R3 g3 L3 u m1 m2 m3) (hm : MadeP wr wx R3 g3 L3 u m') : ∃ pv, TriM w wx R1 g1 L1 R2 g2 L2 R3 g3 { L3 with pv := pv } u m1 m2 m' := by
  obtain ⟨pv, k1, k2⟩ := hm.ex
  exact ⟨pv, h.ab.fr hm.fr (fun q hq => (h.ac.ba q hq).1) (fun q hq => ⟨fun e => (h.ac.ab q e).2.1 hq, (h.ac.ba q hq).2, fun e => (h.bc.ab q e).2.1 hq, (h.bc.ba q hq).2⟩), (h.ac.swap.made_at k1 k2 hm.fr).swap, (h.bc.swap.made_at k1 k2 hm.fr).swap⟩
/-- A second copy beside a machine and its first. -/
theorem TwoM.third (h : TwoM w wr R1 g1 L1 R2 g2 L2 u m1 m2) (hM' : MachB wx R3 g3 L3 u m1) (hR' : ∀ q, R3 q → R1 q ∨ (wr.heap.size ≤ q ∧ q < wx.heap.size)) (hmu' : ∀ q, L3.mut g3 q → wr.heap.size ≤ q) (hx : Below wr.heap.size wr wx) : TriM w wx R1 g1 L1 R2 g2 L2 R3 g3 L3 u m1 m2 m1 := by
  refine ⟨h.below hx, TwoM.start h.a (fun q hq => (h.ab q hq).1) h.r1 h.bel hM' hR' hmu' hx, h.b.below hx, hM', fun q hq => ⟨(h.ba q hq).1, fun e => ?_, fun e => ?_⟩, fun q hq => ⟨Nat.le_trans h.bel.size (hmu' q hq), fun e => ?_⟩, fun q hq => Nat.lt_of_lt_of_le (h.r2 q hq) hx.size, fun q hq => ?_, h.bel.trans (hx.mono h.bel.size)⟩
  · have := h.b.lt hq; have := hmu' q e; omega
  · rcases hR' q e with k | k
    · exact (h.ba q hq).2 k
    · have := h.b.lt hq; omega
  · have := h.r2 q e; have := hmu' q hq; omega
  · rcases hR' q hq with k | k
    · exact Nat.lt_of_lt_of_le (h.r1 q k) hx.size
    · exact k.2
theorem cmap_on {w wr : World} (hb : Below w.heap.size w wr) : (cmap w).le (on wr fun q => q < w.heap.size) := fun b o v hv => on_mk (cmap_below hb b o v hv) (World.block_lt_of_cell? w ⟨b, o, none⟩ hv)
theorem stepsF_succ (u : Unit_) (t : Int) : ∀ (n : Nat) (m : Mach), stepsF u t (n + 1) m = stepM u (stepsF u t n m) t
  | 0, _ => rfl
  | n + 1, m => stepsF_succ u t n (stepM u m t)
theorem canF_at {u : Unit_} {t : Int} : ∀ (n : Nat) (m : Mach), canF u t n m → ∀ i < n, barF u (stepsF u t i m) t = 0
  | 0, _, _, i, hi => by omega
  | n + 1, m, h, 0, _ => h.1
  | n + 1, m, h, i + 1, hi => canF_at n (stepM u m t) h.2 i (by omega)
theorem stepsF_situ {u : Unit_} (hu : RightU u) (huo : UOk u) (t : Int) : ∀ (n : Nat) {m : Mach}, Situ u m → PrI m → Situ u (stepsF u t n m) ∧ PrI (stepsF u t n m) ∧ (stepsF u t n m).prints.length ≤ m.prints.length + n
  | 0, m, hs, hp => ⟨hs, hp, Nat.le_refl _⟩
  | n + 1, m, hs, hp => by
    obtain ⟨k1, k2, k3⟩ := stepsF_situ hu huo t n (hs.step hu huo t) (hp.step hu huo hs t)
    refine ⟨k1, k2, ?_⟩
    have := step_prints hs.ok t
    have k3 : (stepsF u t (n + 1) m).prints.length ≤ (stepM u m t).prints.length + n := k3
    omega
end
end Go.Proofs.Ytkkmkjjbffpgnaa
/- The walk of the law SourceSame. -/
namespace Go.Proofs.Ytkkmkjjbffpgnaa
open Go Go.RowKit
theorem advR_out {u : Unit_} {cl : List Cls} {t most : Int} {m m' : Mach} {n : Nat} {e : Int} (h : advR u cl t most m = (m', n, e)) : (e ≠ 0 ∧ n = 0 ∧ m' = m) ∨ (e = 0 ∧ 1 ≤ n ∧ (n : Int) ≤ most ∧ n ≤ 1048576 ∧ m' = stepsF u t n m ∧ canF u t n m) := by
  unfold advR at h
  by_cases hk : advOk u cl t most
  · rw [if_neg (by simp [hk])] at h
    by_cases h7 : barF u m t = 70
    · rw [if_pos h7] at h
      simp only [Prod.mk.injEq] at h
      obtain ⟨rfl, rfl, rfl⟩ := h
      exact .inl ⟨by decide, rfl, rfl⟩
    · rw [if_neg h7] at h
      obtain ⟨⟨o, n', e'⟩, hX⟩ : ∃ X, advF u cl t most.toNat 0 m = X := ⟨_, rfl⟩
      rw [hX] at h
      simp only [Prod.mk.injEq] at h
      obtain ⟨h1, rfl, rfl⟩ := h
      cases o with
      | none =>
        obtain ⟨k1, k2⟩ := advF_none _ _ _ _ _ hX
        exact .inl ⟨k2, k1, h1.symm⟩
      | some q =>
        obtain ⟨k1, k, k2, k3, k4, k5, k6⟩ := advF_steps _ _ _ _ _ _ hX
        have h1 : q = m' := h1
        have hq : k ≠ 0 := fun e => h7 (k6 e)
        have := hk.2.2.1
        have := hk.2.2.2
        have hnk : n' = k := by omega
        subst hnk
        exact .inr ⟨k1, by omega, by omega, by omega, by rw [← h1]; exact k4, k5⟩
  · rw [if_pos hk] at h
    simp only [Prod.mk.injEq] at h
    obtain ⟨rfl, rfl, rfl⟩ := h
    exact .inl ⟨by decide, rfl, rfl⟩
set_option maxRecDepth 100000 in
set_option maxHeartbeats 1000000 in
theorem ssame_bad (u : Unit_) (cs : List Value) (v1 v2 v3 : Value) (t most : Int) (w : World) (hu : UnitV (cmap w) cs u) (hok : UOk u) (hc : checkF u ≠ none) :
    Calls Try.prog 7 #[.agg cs.toArray, v1, v2, v3, .int .i64 t, .int .i64 most] w fun e w' => e = .returned (.bool true) ∧ Below w.heap.size w w' := by
  have hu0 := hu
  obtain ⟨su, lu, gu, rfl, -, -, -⟩ := hu0
  have HU := Lib.hid (And.intro hu (And.intro hok hc))
  have HL : ∀ wr, Blk wr w.heap.size 25 [su, lu, gu] → Hid (∀ j v, ([su, lu, gu] : List Value)[j]? = some v → wr.cell? ⟨w.heap.size, 0 + j, none⟩ = some v) := fun wr h => Lib.hid fun j v hj => by rw [Nat.zero_add, h.cell]; exact hj
  have hB0 := Below_alloc' w (.cells #[su, lu, gu] 25)
  have hx0 := Blk.new w 25 [su, lu, gu]
  have HLD := HL _ hx0
  clear hu hok hc HL
  go_enter Try.func7, Try.ntmps7
  go_wp2_with (first
    | (refine wpList_load_at rfl 25 _ rfl w.heap.size 0 rfl _ _ HLD.out Try.underlying25 rfl (by kernel_rfl) ?_))
  refine (new_bad u _ _ (HU.out.1.mono (cmap_below hB0)) HU.out.2.1 HU.out.2.2).mono ?_
  rintro e w2 ⟨rfl, hb2⟩
  have hB2 := hB0.trans (hb2.mono hB0.size)
  clear hb2 HLD hx0
  go_wp2_with fail
  refine (lives7_calls _).mono ?_
  rintro e w4 ⟨rfl, hb4⟩
  have hB4 := hB2.trans (hb4.mono hB2.size)
  have HF := Lib.hid hB4
  clear hb4 hB0 hB2 hB4
  go_wp2
  go_ret
  exact ⟨rfl, HF.out⟩
set_option maxRecDepth 100000 in
set_option maxHeartbeats 16000000 in
theorem ssame_good (u : Unit_) (cs : List Value) (A B : Option Addr) (c d : Nat) (l l2 : List Int) (vA : Option Addr) (vc : Nat) (cl : List Cls) (t most : Int) (w : World) (hu : UnitV (cmap w) cs u) (hok : UOk u) (hso : SOk u) (hv : Ints (cmap w) (.slice A l.length c) l) (hl : l.length ≤ 1048576) (hv2 : Ints (cmap w) (.slice B l2.length d) l2) (hl2 : l2.length ≤ 1048576) (hcl : Clss (cmap w) (.slice vA cl.length vc) cl) (hc : checkF u = none) :
    Calls Try.prog 7 #[.agg cs.toArray, .slice A l.length c, .slice B l2.length d, .slice vA cl.length vc, .int .i64 t, .int .i64 most] w fun e w' => e = .returned (.bool true) ∧ Below w.heap.size w w' := by
  have hru := checkF_none hc
  have hz := checkF_sizes hc
  have hst := start_situ hc hso
  have hu0 := hu
  obtain ⟨su, lu, gu, rfl, -, -, -⟩ := hu0
  have HU := Lib.hid (And.intro hu (And.intro hok hc))
  have HK := Lib.hid (And.intro hru (And.intro hok (And.intro hz hcl)))
  have HV := Lib.hid (And.intro hv (And.intro hv2 hst))
  have HL : ∀ wr, Blk wr w.heap.size 25 [su, lu, gu] → Hid (∀ j v, ([su, lu, gu] : List Value)[j]? = some v → wr.cell? ⟨w.heap.size, 0 + j, none⟩ = some v) := fun wr h => Lib.hid fun j v hj => by rw [Nat.zero_add, h.cell]; exact hj
  have hB0 := Below_alloc' w (.cells #[su, lu, gu] 25)
  have hx0 := Blk.new w 25 [su, lu, gu]
  have HLD := HL _ hx0
  clear hu hok hc HL hru hst hv hv2 hz hso hcl
  go_enter Try.func7, Try.ntmps7
  go_wp2_with (first
    | (refine wpList_load_at rfl 25 _ rfl w.heap.size 0 rfl _ _ HLD.out Try.underlying25 rfl (by kernel_rfl) ?_))
  refine (new_good u _ _ (HU.out.1.mono (cmap_below hB0)) HU.out.2.1 HU.out.2.2).mono ?_
  rintro e w2 ⟨g, L, R, rfl, hM, hR, hmu, hb2⟩
  have HB2 := Lib.hid (And.intro hM (And.intro hR (And.intro hmu (And.intro hb2 hB0))))
  clear hb2 HLD hM hR hmu hB0 hx0
  go_wp2_with fail
  refine (lives7_calls _).mono ?_
  rintro e w3 ⟨rfl, hb3⟩
  have hM3 := HB2.out.1.below hb3
  have hR3 : ∀ q, R q → q < w3.heap.size := fun q hq => Nat.lt_of_lt_of_le (HB2.out.2.1 q hq).2 hb3.size
  have hB3 : Below w.heap.size w w3 := (HB2.out.2.2.2.2.trans (HB2.out.2.2.2.1.mono HB2.out.2.2.2.2.size)).trans (hb3.mono (Nat.le_trans HB2.out.2.2.2.2.size HB2.out.2.2.2.1.size))
  have hmu3 : ∀ q, L.mut g q → w.heap.size ≤ q := fun q hq => Nat.le_trans HB2.out.2.2.2.2.size (HB2.out.2.2.1 q hq)
  have hp0 : (startM u).prints.length = 0 := rfl
  have HRN := Lib.hid (run_calls hM3 HV.out.2.2 HK.out.1 HK.out.2.1 (by omega) hR3 (HV.out.1.mono (cmap_on hB3)) (fun q hq e => by have := hmu3 q e; omega))
  obtain ⟨⟨m1, n1, e1⟩, hX⟩ : ∃ X, runF u (startM u) l = X := ⟨_, rfl⟩
  have hsi := runF_situ HK.out.1 HK.out.2.1 l HV.out.2.2
  have hpi := runF_pri HK.out.1 HK.out.2.1 l HV.out.2.2 (PrI.start u)
  rw [hX] at HRN hsi hpi
  have hs1 : Situ u m1 := hsi.1
  have hp1 : PrI m1 := hpi
  have hpl : m1.prints.length ≤ 1048576 := by
    have h1 : m1.prints.length ≤ (startM u).prints.length + n1 := hsi.2.1
    have h2 : n1 ≤ l.length := hsi.2.2
    omega
  have HS1 := Lib.hid (And.intro hs1 (And.intro hp1 hpl))
  have H3 := Lib.hid (And.intro hM3 (And.intro hR3 (And.intro hB3 hmu3)))
  clear hb3 hM3 hR3 hB3 hmu3 HB2 hsi hpi hs1 hp1 hpl hX hp0
  go_wp2_with fail
  refine HRN.out.mono ?_
  rintro e w4 ⟨rfl, hm4⟩
  obtain ⟨pv, k1, k2⟩ := hm4.ex
  have hM4 : MachB w4 R g { L with pv := pv } u m1 := k1
  have hR4 : ∀ q, R q → q < w4.heap.size := fun q hq => Nat.lt_of_lt_of_le (H3.out.2.1 q hq) hm4.fr.size
  have hB4 : Below w.heap.size w w4 := H3.out.2.2.1.trans (hm4.fr.grow _ H3.out.2.2.1.size H3.out.2.2.2)
  have hmu4 : ∀ q, ({ L with pv := pv } : Lay).mut g q → w.heap.size ≤ q := fun q hq => by
    rcases k2 q hq with e | e
    · exact H3.out.2.2.2 q e
    · exact Nat.le_trans H3.out.2.2.1.size e
  obtain ⟨L1, hL1⟩ : ∃ L1 : Lay, ({ L with pv := pv } : Lay) = L1 := ⟨_, rfl⟩
  rw [hL1] at hM4 hmu4
  obtain ⟨S, hS⟩ : ∃ S : ByteArray, ⟨(keyL m1).toArray⟩ = S := ⟨_, rfl⟩
  have hkey := fun (wr : World) (R : Nat → Prop) (g : Nat) (L : Lay) (h : MachB wr R g L u m1) => key_calls h HS1.out.1 HS1.out.2.1 HK.out.1 HK.out.2.2.1 (by have := HS1.out.2.2; omega)
  rw [hS] at hkey
  have HKEY := Lib.hid hkey
  have HC4 := Lib.hid (hkey _ _ _ _ hM4)
  have H4 := Lib.hid (And.intro hM4 (And.intro hR4 (And.intro hB4 hmu4)))
  clear hm4 k1 k2 hM4 hR4 hB4 hmu4 hL1 H3 hkey hS HRN
  go_wp2_with fail
  refine HC4.out.mono ?_
  rintro e w5 ⟨rfl, hb5⟩
  have hM5 := H4.out.1.below hb5
  have hR5 : ∀ q, R q → q < w5.heap.size := fun q hq => Nat.lt_of_lt_of_le (H4.out.2.1 q hq) hb5.size
  have hB5 := H4.out.2.2.1.trans (hb5.mono H4.out.2.2.1.size)
  have hcpy := fun (wr : World) (R : Nat → Prop) (g : Nat) (L : Lay) (h : MachB wr R g L u m1) (hR : ∀ q, R q → q < wr.heap.size) => copyS_calls h hR HS1.out.1.ok HK.out.1 HK.out.2.2.1 (by have := HS1.out.2.2; omega)
  have HCPY := Lib.hid hcpy
  have HC5 := Lib.hid (hcpy _ _ _ _ hM5 hR5)
  have H5 := Lib.hid (And.intro hM5 (And.intro hR5 (And.intro hB5 H4.out.2.2.2)))
  clear hb5 hM5 hR5 hB5 hcpy H4 HC4
  go_wp2_with fail
  refine HC5.out.mono ?_
  rintro e w6 ⟨g2, L2, R2, rfl, hM6, hR6, hmu6, hb6⟩
  have hT6 := TwoM.start H5.out.1 H5.out.2.2.2 H5.out.2.1 H5.out.2.2.1 hM6 hR6 hmu6 hb6
  have HC6 := Lib.hid (HCPY.out _ _ _ _ hT6.a hT6.r1)
  have H6 := Lib.hid hT6
  clear hM6 hR6 hmu6 hb6 hT6 H5 HC5
  go_wp2_with fail
  refine HC6.out.mono ?_
  rintro e w7 ⟨g3, L3, R3, rfl, hM7, hR7, hmu7, hb7⟩
  have hT7 := H6.out.third hM7 hR7 hmu7 hb7
  have HC7 := Lib.hid (HKEY.out _ _ _ _ hT7.ab.b)
  have H7 := Lib.hid hT7
  clear hM7 hR7 hmu7 hb7 hT7 H6 HC6
  go_wp2_with fail
  refine HC7.out.mono ?_
  rintro e w8 ⟨rfl, hb8⟩
  have hT8 := H7.out.below hb8
  obtain ⟨⟨m2, n2, e2⟩, hX2⟩ : ∃ X, runF u m1 l2 = X := ⟨_, rfl⟩
  have hrun := fun (wr : World) (R : Nat → Prop) (g : Nat) (L : Lay) (h : MachB wr R g L u m1) (hR : ∀ q, R q → q < wr.heap.size) (hB : Below w.heap.size w wr) (hm : ∀ q, L.mut g q → w.heap.size ≤ q) => run_calls h HS1.out.1 HK.out.1 HK.out.2.1 (by have := HS1.out.2.2; omega) hR (HV.out.2.1.mono (cmap_on hB)) (fun q hq e => by have := hm q e; omega)
  have hsi := runF_situ HK.out.1 HK.out.2.1 l2 HS1.out.1
  have hpi := runF_pri HK.out.1 HK.out.2.1 l2 HS1.out.1 HS1.out.2.1
  rw [hX2] at hrun hsi hpi
  have hs2 : Situ u m2 := hsi.1
  have hp2 : PrI m2 := hpi
  have hpl2 : m2.prints.length ≤ 2097152 := by
    have h1 : m2.prints.length ≤ m1.prints.length + n2 := hsi.2.1
    have h2 : n2 ≤ l2.length := hsi.2.2
    have := HS1.out.2.2
    omega
  have HS2 := Lib.hid (And.intro hs2 (And.intro hp2 hpl2))
  have HRUN := Lib.hid hrun
  have HC8 := Lib.hid (hrun _ _ _ _ hT8.ab.b hT8.ab.r2 hT8.ab.bel (fun q hq => (hT8.ab.ba q hq).1))
  have H8 := Lib.hid hT8
  clear hb8 hT8 hsi hpi hs2 hp2 hpl2 hX2 hrun H7 HC7
  go_wp2_with fail
  refine HC8.out.mono ?_
  rintro e w9 ⟨rfl, hm9⟩
  obtain ⟨pv9, hT9⟩ := H8.out.made2 hm9
  have HC9 := Lib.hid (HRUN.out _ _ _ _ hT9.ac.b hT9.ac.r2 hT9.ac.bel (fun q hq => (hT9.ac.ba q hq).1))
  have H9 := Lib.hid hT9
  clear hm9 hT9 H8 HC8
  go_wp2_with fail
  refine HC9.out.mono ?_
  rintro e w10 ⟨rfl, hm10⟩
  obtain ⟨pv10, hT10⟩ := H9.out.made3 hm10
  obtain ⟨S2, hS2⟩ : ∃ S : ByteArray, ⟨(keyL m2).toArray⟩ = S := ⟨_, rfl⟩
  have hkey2 := fun (wr : World) (R : Nat → Prop) (g : Nat) (L : Lay) (h : MachB wr R g L u m2) => key_calls h HS2.out.1 HS2.out.2.1 HK.out.1 HK.out.2.2.1 (by have := HS2.out.2.2; omega)
  rw [hS2] at hkey2
  have HKEY2 := Lib.hid hkey2
  have HC10 := Lib.hid (hkey2 _ _ _ _ hT10.ab.b)
  have H10 := Lib.hid hT10
  clear hm10 hT10 hS2 hkey2 H9 HC9
  go_wp2_with fail
  refine HC10.out.mono ?_
  rintro e w11 ⟨rfl, hb11⟩
  have H11 := Lib.hid (H10.out.below hb11)
  clear hb11 H10 HC10
  go_wp2_with fail
  refine (HKEY2.out _ _ _ _ H11.out.ac.b).mono ?_
  rintro e w12 ⟨rfl, hb12⟩
  have H12 := Lib.hid (H11.out.below hb12)
  clear hb12 H11
  go_wp2_with fail
  refine (HKEY.out _ _ _ _ H12.out.ab.a).mono ?_
  rintro e w13 ⟨rfl, hb13⟩
  have h13 := H12.out.ab.below hb13
  have H13 := Lib.hid h13
  clear hb13 h13 H12 HKEY2 HRUN
  by_cases h4 : most > 4000
  · have hd4 : decide (most > 4000) = true := decide_eq_true h4
    have HC13 := Lib.hid (HCPY.out _ _ _ _ H13.out.a H13.out.r1)
    obtain ⟨⟨m9, n9, e9⟩, hA⟩ : ∃ X, advR u cl t (4000 : Int) m1 = X := ⟨_, rfl⟩
    have HA9 := Lib.hid hA
    clear h4 hA
    go_wp2_with fail
    refine HC13.out.mono ?_
    rintro e w14 ⟨g4, L4, R4, rfl, hM14, hR14, hmu14, hb14⟩
    have hT14 := TwoM.start H13.out.a (fun q hq => (H13.out.ab q hq).1) H13.out.r1 H13.out.bel hM14 hR14 hmu14 hb14
    have hadv := adv_calls hT14.a hT14.r1 HS1.out.1 HK.out.1 HK.out.2.1 HK.out.2.2.1 (by have := HS1.out.2.2; omega) t (4000 : Int) vA vc cl (HK.out.2.2.2.mono (cmap_below hT14.bel))
    rw [HA9.out] at hadv
    have HADV := Lib.hid hadv
    have H14 := Lib.hid hT14
    clear hM14 hR14 hmu14 hb14 hT14 hadv HC13 H13
    go_wp2_with fail
    refine HADV.out.mono ?_
    rintro e w15 ⟨rfl, hp⟩
    obtain ⟨R9, L9, hT15⟩ := H14.out.adv hp
    have H15 := Lib.hid hT15
    clear hp hT15 H14 HADV
    rcases advR_out HA9.out with ⟨he, rfl, rfl⟩ | ⟨rfl, hn1, hn2, hn3, rfl, hcan⟩
    · have ne9 : (e9 != 0) = true := by simp [he]
      have HC15 := Lib.hid (HKEY.out _ _ _ _ H15.out.a)
      have HBW := Lib.hid H15.out.bel
      clear he
      go_wp2_with fail
      refine HC15.out.mono ?_
      rintro e w16 ⟨rfl, hb16⟩
      have HF := Lib.hid (HBW.out.trans (hb16.mono HBW.out.size))
      clear hb16
      go_wp2
      go_ret
      exact ⟨rfl, HF.out⟩
    · have HN := Lib.hid (And.intro hn1 (And.intro hn2 (And.intro hn3 hcan)))
      have HT : Hid (TwoM w w15 R9 g L9 R4 g4 L4 u (stepsF u t n9 m1) (stepsF u t 0 m1)) := H15
      clear hn1 hn2 hcan H15
      go_wp2
      go_loopw [23, 24, 25] (fun i _ _ wr => ∃ (k : Nat) (pv : Value), i = .int .i64 k ∧ k ≤ n9 ∧ Hid (TwoM w wr R9 g L9 R4 g4 { L4 with pv := pv } u (stepsF u t n9 m1) (stepsF u t k m1))) (fun i _ _ _ => n9 - (intOf i).toNat)
      case atStart => exact ⟨0, L4.pv, rfl, by omega, HT⟩
      case round =>
        clear HT
        obtain ⟨k, pv, rfl, hk, HH⟩ := hrel
        by_cases hlt : k < n9
        · have i1 : (k : Int) < n9 := by omega
          have hsk := stepsF_situ HK.out.1 HK.out.2.1 t k HS1.out.1 HS1.out.2.1
          have hbk := canF_at n9 m1 HN.out.2.2.2 k hlt
          have hstep := step_calls t HH.out.b hsk.1.ok hsk.1.mi HK.out.1 HK.out.2.1 (by have h1 := hsk.2.2; have h2 := HS1.out.2.2; have h3 := HN.out.2.2.1; omega) HH.out.r2
          rw [hbk, ← stepsF_succ] at hstep
          obtain ⟨d, hd⟩ : ∃ d, stepD u (stepsF u t k m1) t = d := ⟨_, rfl⟩
          rw [hd, stepD_cells] at hstep
          have HST := Lib.hid hstep
          have HLT := Lib.hid (And.intro hlt HN.out.2.2.1)
          clear hsk hbk hstep hd hlt hk
          go_wp2_with fail
          refine HST.out.mono ?_
          rintro e w16 ⟨rfl, hm16⟩
          obtain ⟨pv2, k1, -, -⟩ := HH.out.swap.made hm16
          have HF := Lib.hid (k1.swap.below (Below_alloc' w16 (.cells #[.int .i64 d.thread, .int .i64 d.node, .int .u8 d.kind, .int .i64 d.thing, .int .i64 d.word, .int .i64 d.put] 55)))
          clear hm16 k1
          go_wp2
          go_roundw
          case rel => exact ⟨k + 1, pv2, by have := HLT.out.2; have := HLT.out.1; go_num, by have := HLT.out.1; omega, HF⟩
          case measure => have := HLT.out.1; simp [intOf]; omega
        · obtain rfl : k = n9 := by omega
          have nk : ¬ ((k : Int) < k) := by omega
          have d1 : decide ((k : Int) ≥ 1) = true := decide_eq_true (by have := HN.out.1; omega)
          have d2 : decide ((k : Int) ≤ (4000 : Int)) = true := decide_eq_true HN.out.2.1
          have hsk := stepsF_situ HK.out.1 HK.out.2.1 t k HS1.out.1 HS1.out.2.1
          obtain ⟨S3, hS3⟩ : ∃ S : ByteArray, ⟨(keyL (stepsF u t k m1)).toArray⟩ = S := ⟨_, rfl⟩
          have hkey3 := fun (wr : World) (R : Nat → Prop) (g : Nat) (L : Lay) (h : MachB wr R g L u (stepsF u t k m1)) => key_calls h hsk.1 hsk.2.1 HK.out.1 HK.out.2.2.1 (by have h1 := hsk.2.2; have h2 := HS1.out.2.2; have h3 := HN.out.2.2.1; omega)
          rw [hS3] at hkey3
          have HKEY3 := Lib.hid hkey3
          have HC16 := Lib.hid (hkey3 _ _ _ _ HH.out.b)
          clear hsk hkey3 hS3 hk hlt
          go_wp2_with fail
          refine HC16.out.mono ?_
          rintro e w16 ⟨rfl, hb16⟩
          have H16 := Lib.hid (HH.out.below hb16)
          clear hb16 HC16 HH
          go_wp2_with fail
          refine (HKEY3.out _ _ _ _ H16.out.a).mono ?_
          rintro e w17 ⟨rfl, hb17⟩
          have HF := Lib.hid (H16.out.bel.trans (hb17.mono H16.out.bel.size))
          clear hb17
          go_wp2
          go_ret
          exact ⟨rfl, HF.out⟩
  · have hd4 : decide (most > 4000) = false := decide_eq_false h4
    have HC13 := Lib.hid (HCPY.out _ _ _ _ H13.out.a H13.out.r1)
    obtain ⟨⟨m9, n9, e9⟩, hA⟩ : ∃ X, advR u cl t most m1 = X := ⟨_, rfl⟩
    have HA9 := Lib.hid hA
    clear h4 hA
    go_wp2_with fail
    refine HC13.out.mono ?_
    rintro e w14 ⟨g4, L4, R4, rfl, hM14, hR14, hmu14, hb14⟩
    have hT14 := TwoM.start H13.out.a (fun q hq => (H13.out.ab q hq).1) H13.out.r1 H13.out.bel hM14 hR14 hmu14 hb14
    have hadv := adv_calls hT14.a hT14.r1 HS1.out.1 HK.out.1 HK.out.2.1 HK.out.2.2.1 (by have := HS1.out.2.2; omega) t most vA vc cl (HK.out.2.2.2.mono (cmap_below hT14.bel))
    rw [HA9.out] at hadv
    have HADV := Lib.hid hadv
    have H14 := Lib.hid hT14
    clear hM14 hR14 hmu14 hb14 hT14 hadv HC13 H13
    go_wp2_with fail
    refine HADV.out.mono ?_
    rintro e w15 ⟨rfl, hp⟩
    obtain ⟨R9, L9, hT15⟩ := H14.out.adv hp
    have H15 := Lib.hid hT15
    clear hp hT15 H14 HADV
    rcases advR_out HA9.out with ⟨he, rfl, rfl⟩ | ⟨rfl, hn1, hn2, hn3, rfl, hcan⟩
    · have ne9 : (e9 != 0) = true := by simp [he]
      have HC15 := Lib.hid (HKEY.out _ _ _ _ H15.out.a)
      have HBW := Lib.hid H15.out.bel
      clear he
      go_wp2_with fail
      refine HC15.out.mono ?_
      rintro e w16 ⟨rfl, hb16⟩
      have HF := Lib.hid (HBW.out.trans (hb16.mono HBW.out.size))
      clear hb16
      go_wp2
      go_ret
      exact ⟨rfl, HF.out⟩
    · have HN := Lib.hid (And.intro hn1 (And.intro hn2 (And.intro hn3 hcan)))
      have HT : Hid (TwoM w w15 R9 g L9 R4 g4 L4 u (stepsF u t n9 m1) (stepsF u t 0 m1)) := H15
      clear hn1 hn2 hcan H15
      go_wp2
      go_loopw [23, 24, 25] (fun i _ _ wr => ∃ (k : Nat) (pv : Value), i = .int .i64 k ∧ k ≤ n9 ∧ Hid (TwoM w wr R9 g L9 R4 g4 { L4 with pv := pv } u (stepsF u t n9 m1) (stepsF u t k m1))) (fun i _ _ _ => n9 - (intOf i).toNat)
      case atStart => exact ⟨0, L4.pv, rfl, by omega, HT⟩
      case round =>
        clear HT
        obtain ⟨k, pv, rfl, hk, HH⟩ := hrel
        by_cases hlt : k < n9
        · have i1 : (k : Int) < n9 := by omega
          have hsk := stepsF_situ HK.out.1 HK.out.2.1 t k HS1.out.1 HS1.out.2.1
          have hbk := canF_at n9 m1 HN.out.2.2.2 k hlt
          have hstep := step_calls t HH.out.b hsk.1.ok hsk.1.mi HK.out.1 HK.out.2.1 (by have h1 := hsk.2.2; have h2 := HS1.out.2.2; have h3 := HN.out.2.2.1; omega) HH.out.r2
          rw [hbk, ← stepsF_succ] at hstep
          obtain ⟨d, hd⟩ : ∃ d, stepD u (stepsF u t k m1) t = d := ⟨_, rfl⟩
          rw [hd, stepD_cells] at hstep
          have HST := Lib.hid hstep
          have HLT := Lib.hid (And.intro hlt HN.out.2.2.1)
          clear hsk hbk hstep hd hlt hk
          go_wp2_with fail
          refine HST.out.mono ?_
          rintro e w16 ⟨rfl, hm16⟩
          obtain ⟨pv2, k1, -, -⟩ := HH.out.swap.made hm16
          have HF := Lib.hid (k1.swap.below (Below_alloc' w16 (.cells #[.int .i64 d.thread, .int .i64 d.node, .int .u8 d.kind, .int .i64 d.thing, .int .i64 d.word, .int .i64 d.put] 55)))
          clear hm16 k1
          go_wp2
          go_roundw
          case rel => exact ⟨k + 1, pv2, by have := HLT.out.2; have := HLT.out.1; go_num, by have := HLT.out.1; omega, HF⟩
          case measure => have := HLT.out.1; simp [intOf]; omega
        · obtain rfl : k = n9 := by omega
          have nk : ¬ ((k : Int) < k) := by omega
          have d1 : decide ((k : Int) ≥ 1) = true := decide_eq_true (by have := HN.out.1; omega)
          have d2 : decide ((k : Int) ≤ most) = true := decide_eq_true HN.out.2.1
          have hsk := stepsF_situ HK.out.1 HK.out.2.1 t k HS1.out.1 HS1.out.2.1
          obtain ⟨S3, hS3⟩ : ∃ S : ByteArray, ⟨(keyL (stepsF u t k m1)).toArray⟩ = S := ⟨_, rfl⟩
          have hkey3 := fun (wr : World) (R : Nat → Prop) (g : Nat) (L : Lay) (h : MachB wr R g L u (stepsF u t k m1)) => key_calls h hsk.1 hsk.2.1 HK.out.1 HK.out.2.2.1 (by have h1 := hsk.2.2; have h2 := HS1.out.2.2; have h3 := HN.out.2.2.1; omega)
          rw [hS3] at hkey3
          have HKEY3 := Lib.hid hkey3
          have HC16 := Lib.hid (hkey3 _ _ _ _ HH.out.b)
          clear hsk hkey3 hS3 hk hlt
          go_wp2_with fail
          refine HC16.out.mono ?_
          rintro e w16 ⟨rfl, hb16⟩
          have H16 := Lib.hid (HH.out.below hb16)
          clear hb16 HC16 HH
          go_wp2_with fail
          refine (HKEY3.out _ _ _ _ H16.out.a).mono ?_
          rintro e w17 ⟨rfl, hb17⟩
          have HF := Lib.hid (H16.out.bel.trans (hb17.mono H16.out.bel.size))
          clear hb17
          go_wp2
          go_ret
          exact ⟨rfl, HF.out⟩
end Go.Proofs.Ytkkmkjjbffpgnaa
/- SourceSame: the two cases joined. -/
namespace Go.Proofs.Ytkkmkjjbffpgnaa
open Go Go.RowKit
theorem sourceSame_calls (w : World) (cs : List Value) (u : Unit_) (A : Option Addr) (c : Nat) (l : List Int) (B : Option Addr) (d : Nat) (l2 : List Int) (vA : Option Addr) (vc : Nat) (cl : List Cls) (t most : Int) (hu : UnitV (cmap w) cs u) (hok : UOk u) (hso : SOk u) (hv : Ints (cmap w) (.slice A l.length c) l) (_hi : ∀ x ∈ l, i64 x) (hl : l.length ≤ 1048576) (hv2 : Ints (cmap w) (.slice B l2.length d) l2) (_hi2 : ∀ x ∈ l2, i64 x) (hl2 : l2.length ≤ 1048576) (hcl : Clss (cmap w) (.slice vA cl.length vc) cl) :
    Calls Try.prog 7 #[.agg cs.toArray, .slice A l.length c, .slice B l2.length d, .slice vA cl.length vc, .int .i64 t, .int .i64 most] w fun e w' => e = .returned (.bool true) ∧ Below w.heap.size w w' := by
  by_cases hc : checkF u = none
  · exact ssame_good u cs A B c d l l2 vA vc cl t most w hu hok hso hv hl hv2 hl2 hcl hc
  · exact ssame_bad u cs _ _ _ t most w hu hok hc
end Go.Proofs.Ytkkmkjjbffpgnaa
