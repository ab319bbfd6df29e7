import Derived.Test.YtmkpjiahkepigaaGreatP88
/- Advance, whatever it is asked; what it leaves beside another machine; three machines side by side. -/
namespace Go.Proofs.YtmkpjiahkepigaaGreat
open Go Go.RowKit
set_option maxRecDepth 100000 in
set_option maxHeartbeats 2000000 in
theorem adv_end {w : World} {R : Nat → Prop} {g : Nat} {L : Lay} {u : Unit_} {m : Mach} (h : MachB w R g L u m) (hs : Situ u m) (hu : RightU u) (t most : Int) (vA : Option Addr) (vc : Nat) (cl : List Cls) (hk : advOk u cl t most) (hb7 : barF u m t = 70) :
    Calls Tryz.prog 17 #[.pointer (some ⟨g, 0, none⟩), .int .i64 t, .slice vA cl.length vc, .int .i64 most] w fun e w' => e = .returned (.tuple #[.int .i64 0, .int .i64 70]) ∧ Below w.heap.size w w' := by
  obtain ⟨⟨h1a, h1b⟩, h2, h3, h4⟩ := hk
  obtain ⟨sA, sc, hsv⟩ := unit_sv h
  have c0 : ∀ q, (w.drewN q).cell? ⟨g, 0, none⟩ = some (.slice sA u.shared.length sc) := fun q => by
    show w.cell? ⟨g, 0, none⟩ = _
    rw [h.cell 0, ← hsv]; rfl
  have HT := Lib.hid (there_calls t h)
  have d1 : decide (0 ≤ t ∧ t < (m.at_.length : Int)) = true := decide_eq_true (by rw [hs.ok.at_]; exact ⟨h1a, h1b⟩)
  rw [d1] at HT
  have n2 : ((cl.length : Int) != (u.shared.length : Int)) = false := by simp [h2]
  have n3 : decide (most < 0) = false := decide_eq_false (by omega)
  have n4 : decide (most > 1048576) = false := decide_eq_false (by omega)
  have hbr := fun q => bar_calls t (h.drewN q) hs.ok hu
  rw [hb7] at hbr
  have HBR := Lib.hid hbr
  have HB := Lib.hid (Below_drewN w)
  clear h hs hu h1a h1b h2 h3 h4 hsv d1 hb7 hbr
  go_enter Tryz.func17, Tryz.ntmps17
  go_wp2_with fail
  refine HT.out.mono ?_
  rintro e w1 ⟨rfl, q1, rfl⟩
  have c0q := c0 q1
  go_wp2_with fail
  refine (HBR.out q1).mono ?_
  rintro e w2 ⟨rfl, hb2⟩
  have HF := Lib.hid ((HB.out q1).trans hb2)
  clear hb2 c0q c0
  go_wp2
  go_ret2
  exact ⟨rfl, HF.out⟩
theorem adv_calls {w : World} {R : Nat → Prop} {g : Nat} {L : Lay} {u : Unit_} {m : Mach} (h : MachB w R g L u m) (hR : ∀ q, R q → q < w.heap.size) (hs : Situ u m) (hu : RightU u) (huo : UOk u) (hz : SizeU u) (hpr : m.prints.length ≤ 4294967296) (t most : Int) (vA : Option Addr) (vc : Nat) (cl : List Cls) (hcl : Clss (cmap w) (.slice vA cl.length vc) cl) :
    Calls Tryz.prog 17 #[.pointer (some ⟨g, 0, none⟩), .int .i64 t, .slice vA cl.length vc, .int .i64 most] w fun e w' => e = .returned (.tuple #[.int .i64 ((advR u cl t most m).2.1 : Nat), .int .i64 (advR u cl t most m).2.2]) ∧ AdvP w w' R g L u (advR u cl t most m).1 := by
  by_cases hk : advOk u cl t most
  · by_cases hb7 : barF u m t = 70
    · have e : advR u cl t most m = (m, 0, 70) := by unfold advR; rw [if_neg (by simp [hk]), if_pos hb7]
      rw [e]
      exact (adv_end h hs hu t most vA vc cl hk hb7).mono fun e w' ⟨h1, h2⟩ => ⟨h1, AdvP.same h h2⟩
    · obtain ⟨ta, rfl⟩ := Int.eq_ofNat_of_zero_le hk.1.1
      obtain ⟨M, rfl⟩ := Int.eq_ofNat_of_zero_le hk.2.2.1
      have e : advR u cl (ta : Int) (M : Int) m = ((advF u cl (ta : Int) M 0 m).1.getD m, (advF u cl (ta : Int) M 0 m).2) := by unfold advR; rw [if_neg (by simp [hk]), if_neg hb7, Int.toNat_natCast]
      rw [e]
      exact adv_go h hR hs hu huo hz hpr ta M vA vc cl hcl hk hb7
  · have e : advR u cl t most m = (m, 0, 2) := by unfold advR; rw [if_pos hk]
    rw [e]
    exact (adv_not h hs.ok t most vA vc cl hcl.len.2.2 hk).mono fun e w' ⟨h1, h2⟩ => ⟨h1, AdvP.same h h2⟩
section
variable {w wr wx : World} {R1 R2 R3 : Nat → Prop} {g1 g2 g3 : Nat} {L1 L2 L3 : Lay} {u : Unit_} {m1 m2 m3 m' : Mach}
theorem TwoM.adv (h : TwoM w wr R1 g1 L1 R2 g2 L2 u m1 m2) (hp : AdvP wr wx R1 g1 L1 u m') : ∃ R1' L1', TwoM w wx R1' g1 L1' R2 g2 L2 u m' m2 := by
  obtain ⟨R', L', k1, k2, k3⟩ := hp.ex
  have hg : ∀ q, q = g1 → L1.mut g1 q := fun q e => .inl e
  refine ⟨R', L', k1, h.b.fr hp.fr (fun q k e => (h.ab q (hg q e)).2.1 k) (fun q k e => (h.ab q (hg q e)).2.2 k), fun q hq => ?_, fun q hq => ⟨(h.ba q hq).1, fun e => ?_⟩, fun q hq => ?_, fun q hq => Nat.lt_of_lt_of_le (h.r2 q hq) hp.fr.size, h.bel.trans (hp.fr.grow _ h.bel.size fun q e => (h.ab q (hg q e)).1)⟩
  · rcases k2 q hq with e | e
    · exact h.ab q e
    · exact ⟨Nat.le_trans h.bel.size e, fun k => by have := h.b.lt k; omega, fun k => by have := h.r2 q k; omega⟩
  · rcases k3 q e with k | k
    · exact (h.ba q hq).2 k
    · have := h.b.lt hq; omega
  · rcases k3 q hq with k | k
    · exact Nat.lt_of_lt_of_le (h.r1 q k) hp.fr.size
    · exact k.2
structure TriM (w wr : World) (R1 : Nat → Prop) (g1 : Nat) (L1 : Lay) (R2 : Nat → Prop) (g2 : Nat) (L2 : Lay) (R3 : Nat → Prop) (g3 : Nat) (L3 : Lay) (u : Unit_) (m1 m2 m3 : Mach) : Prop where
  ab : TwoM w wr R1 g1 L1 R2 g2 L2 u m1 m2
  ac : TwoM w wr R1 g1 L1 R3 g3 L3 u m1 m3
  bc : TwoM w wr R2 g2 L2 R3 g3 L3 u m2 m3
theorem TriM.below (h : TriM w wr R1 g1 L1 R2 g2 L2 R3 g3 L3 u m1 m2 m3) (hx : Below wr.heap.size wr wx) : TriM w wx R1 g1 L1 R2 g2 L2 R3 g3 L3 u m1 m2 m3 := ⟨h.ab.below hx, h.ac.below hx, h.bc.below hx⟩
end
end Go.Proofs.YtmkpjiahkepigaaGreat
