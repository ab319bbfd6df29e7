import Derived.Test.YtmkpjiahkepigaaGreatP100
import Derived.Test.YtmkpjiahkepigaaGreatP101
import Derived.Test.YtmkpjiahkepigaaGreatP89
/- What SourceRuns keeps: the machine, whose rows may change by an Advance, and the reference's beside it. -/
namespace Go.Proofs.YtmkpjiahkepigaaGreat
open Go Go.RowKit
theorem advF_keep {u : Unit_} (hu : RightU u) (huo : UOk u) {cl : List Cls} {t : Int} : ∀ (left done : Nat) (m m' : Mach), Situ u m → PrI m → (advF u cl t left done m).1 = some m' → Situ u m' ∧ PrI m' ∧ m'.prints.length ≤ m.prints.length + 1
  | left, done, m, m', hs, hp, h => by
    by_cases h7 : barF u m t = 70
    · rw [advF_end left done h7] at h
      injection h with h
      subst h
      exact ⟨hs, hp, by omega⟩
    · by_cases h0 : barF u m t = 0
      · cases left with
        | zero => rw [advF_many done h0] at h; cases h
        | succ left =>
          cases hv : visAt u cl m t with
          | true =>
            rw [advF_vis left done h0 hv] at h
            injection h with h
            subst h
            exact ⟨hs.step hu huo t, hp.step hu huo hs t, stepM_pr u m t⟩
          | false =>
            rw [advF_go left done h0 hv] at h
            obtain ⟨k1, k2, k3⟩ := advF_keep hu huo left (done + 1) _ m' (hs.step hu huo t) (hp.step hu huo hs t) h
            exact ⟨k1, k2, by have := quiet_pr hv; omega⟩
      · rw [advF_bar left done h7 h0] at h; cases h
theorem advR_keep {u : Unit_} (hu : RightU u) (huo : UOk u) (cl : List Cls) (t most : Int) {m : Mach} (hs : Situ u m) (hp : PrI m) : Situ u (advR u cl t most m).1 ∧ PrI (advR u cl t most m).1 ∧ (advR u cl t most m).1.prints.length ≤ m.prints.length + 1 := by
  unfold advR
  split
  · exact ⟨hs, hp, Nat.le_succ _⟩
  · split
    · exact ⟨hs, hp, Nat.le_succ _⟩
    · show Situ u ((advF u cl t most.toNat 0 m).1.getD m) ∧ PrI ((advF u cl t most.toNat 0 m).1.getD m) ∧ ((advF u cl t most.toNat 0 m).1.getD m).prints.length ≤ _
      cases h : (advF u cl t most.toNat 0 m).1 with
      | none => exact ⟨hs, hp, by rw [Option.getD_none]; omega⟩
      | some m' => exact advF_keep hu huo _ _ _ _ hs hp h
/-- Both machines, and the law's own block. -/
structure SuAt (w wr : World) (R : Nat → Prop) (g : Nat) (L : Lay) (u : Unit_) (k7 : Nat) (Z : Nat → Prop) (cs : List Value) (m : Mach) (N : Nat) : Prop where
  a : MAz w wr R g L u Z m
  ref : RefV (on wr Z) cs u m
  b7 : Blk wr k7 35 cs
  nz : ¬ Z k7
  ge : w.heap.size ≤ k7
  rk : ∀ q, R q → q ≠ k7
  situ : Situ u m
  pri : PrI m
  pr : m.prints.length ≤ N
section
variable {w wr wx w1 : World} {R Z : Nat → Prop} {g : Nat} {L : Lay} {u : Unit_} {k7 : Nat} {cs cs' : List Value} {m m' : Mach} {N : Nat}
theorem SuAt.below (h : SuAt w wr R g L u k7 Z cs m N) (hx : Below wr.heap.size wr wx) : SuAt w wx R g L u k7 Z cs m N :=
  ⟨h.a.below hx, h.ref.mono (on_keep (fun b _ hlt => hx.block b hlt) fun _ hb => hb), h.b7.below hx h.b7.lt, h.nz, h.ge, h.rk, h.situ, h.pri, h.pr⟩
/-- What was made meanwhile. -/
def zg (Z : Nat → Prop) (a b : Nat) : Nat → Prop := fun q => Z q ∨ (a ≤ q ∧ q < b)
theorem zg_not (h : SuAt w wr R g L u k7 Z cs m N) (b : Nat) : ¬ zg Z wr.heap.size b k7 := fun e => by
  rcases e with e | e
  · exact h.nz e
  · have := h.b7.lt; omega
/-- The reference's answer, made anew. -/
theorem zg_ref (hb : Below w1.heap.size w1 wx) (hr : RefV (on w1 (fun b => Z b ∨ wr.heap.size ≤ b)) cs' u m') : RefV (on wx (zg Z wr.heap.size wx.heap.size)) cs' u m' := hr.mono (by
  intro b o v hv
  obtain ⟨h1, h2⟩ := on_at hv
  have hlt := World.block_lt_of_cell? w1 ⟨b, o, none⟩ h1
  have hlt2 : b < w1.heap.size := hlt
  refine on_mk ((hb.cell (p := ⟨b, o, none⟩) hlt2).trans h1) ?_
  rcases h2 with e | e
  · exact .inl e
  · exact .inr ⟨e, Nat.lt_of_lt_of_le hlt2 hb.size⟩)
/-- The machine has advanced: its rows are others now. -/
theorem MAz.adv (h : MAz w wr R g L u Z m) {pv : Value} (k2 : ∀ q, ({ L with pv := pv } : Lay).mut g q → w.heap.size ≤ q ∧ ¬ Z q) (hp : AdvP wr wx R g { L with pv := pv } u m') : ∃ R' L', MAz w wx R' g L' u Z m' ∧ (∀ q, R' q → R q ∨ wr.heap.size ≤ q) := by
  obtain ⟨R', L', q1, q2, q3⟩ := hp.ex
  refine ⟨R', L', ⟨⟨L'.pv, q1, fun q hq => ?_⟩, fun q hq => ?_, h.bel.trans (hp.fr.grow w.heap.size h.bel.size fun q hq => by subst hq; exact (k2 q (.inl rfl)).1), fun q hq => Nat.lt_of_lt_of_le (h.zl q hq) hp.fr.size⟩, fun q hq => ?_⟩
  · rcases q2 q hq with e | e
    · exact k2 q e
    · exact ⟨Nat.le_trans h.bel.size e, fun k => by have := h.zl q k; omega⟩
  · rcases q3 q hq with e | e
    · exact Nat.lt_of_lt_of_le (h.rl q e) hp.fr.size
    · exact e.2
  · rcases q3 q hq with e | e
    · exact .inl e
    · exact .inr e.1
end
end Go.Proofs.YtmkpjiahkepigaaGreat
/- The walk of the law SourceRuns. -/
namespace Go.Proofs.YtmkpjiahkepigaaGreat
open Go Go.RowKit
def slU3 : List Nat := [39, 40, 41, 42, 43, 44, 45, 46, 47, 48, 49, 50, 51, 52, 53, 54]
set_option maxRecDepth 100000 in
set_option maxHeartbeats 4000000 in
theorem runs_bad (u : Unit_) (cs : List Value) (v1 v2 : Value) (vA : Option Addr) (vc : Nat) (cl : List Cls) (most : Int) (n : Node) (w : World) (hu : UnitV (cmap w) cs u) (hok : UOk u) (hcl : Clss (cmap w) (.slice vA cl.length vc) cl) (hc : checkF u ≠ none) :
    Calls Tryz.prog 4 #[.agg cs.toArray, v1, v2, .slice vA cl.length vc, .int .i64 most, .agg n.cells.toArray] w fun e w' => e = .returned (.bool true) ∧ Below w.heap.size w w' := by
  have hu0 := hu
  obtain ⟨su, lu, gu, rfl, -, -, -⟩ := hu0
  have HU := Lib.hid (And.intro hu (And.intro hok hc))
  have hB0 : Below w.heap.size w ((w.alloc (.cells #[su, lu, gu] 25)).alloc (.cells n.cells.toArray 53)) := (Below_alloc' w _).alloc (by simp) _
  have hx0 : Blk ((w.alloc (.cells #[su, lu, gu] 25)).alloc (.cells n.cells.toArray 53)) w.heap.size 25 [su, lu, gu] := (Blk.new w _ _).alloc _
  have hn0 : Blk ((w.alloc (.cells #[su, lu, gu] 25)).alloc (.cells n.cells.toArray 53)) (w.heap.size + 1) 53 n.cells := Blk.of (heap_new (w.alloc _) _ _ (by simp)) rfl
  obtain ⟨vb, hvb⟩ : ∃ b, visB cl n = b := ⟨_, rfl⟩
  have HVB := Lib.hid hvb
  have HLD : Hid (∀ j v, ([su, lu, gu] : List Value)[j]? = some v → ((w.alloc (.cells #[su, lu, gu] 25)).alloc (.cells n.cells.toArray 53)).cell? ⟨w.heap.size, 0 + j, none⟩ = some v) := Lib.hid fun j v hj => by rw [Nat.zero_add, (hx0).cell]; exact hj
  have HCL := Lib.hid hcl
  clear hu hok hc hvb hcl
  go_enter Tryz.func4, Tryz.ntmps4
  go_wp2_with (first
    | (refine wpList_load_at rfl 25 _ rfl w.heap.size 0 rfl _ _ HLD.out Tryz.underlying25 rfl (by kernel_rfl) ?_))
  refine (new_bad u _ _ (HU.out.1.mono (cmap_below hB0)) HU.out.2.1 HU.out.2.2).mono ?_
  rintro e w2 ⟨rfl, hb2⟩
  have hB2 := hB0.trans (hb2.mono hB0.size)
  have hx2 := hx0.below hb2 hx0.lt
  have hn2 := hn0.below hb2 hn0.lt
  have HLD2 : Hid (∀ j v, ([su, lu, gu] : List Value)[j]? = some v → w2.cell? ⟨w.heap.size, 0 + j, none⟩ = some v) := Lib.hid fun j v hj => by rw [Nat.zero_add, (hx2).cell]; exact hj
  clear hb2 HLD hx0 hn0
  go_wp2_with (first
    | (refine wpList_load_at rfl 25 _ rfl w.heap.size 0 rfl _ _ HLD2.out Tryz.underlying25 rfl (by kernel_rfl) ?_))
  refine (r7new_bad u _ _ (HU.out.1.mono (cmap_below hB2)) HU.out.2.1 HU.out.2.2).mono ?_
  rintro e w3 ⟨rfl, hb3⟩
  have hB3 := hB2.trans (hb3.mono hB2.size)
  have hn3 := hn2.below hb3 hn2.lt
  have HB3 := Lib.hid (And.intro hB3 hn3)
  clear hb3 HLD2 hx2 hn2 hn3 hB0 hB2 hB3
  go_wp2_with (first
    | (refine stop_store 35 rfl ?_))
  refine Stop.intro ?_
  refine wpList_plain rfl fun K hK => wp_store_row 35 _ _ rfl w3.heap.size nil8.toArray rfl rfl 35 _ (heap_new w3 _ _ rfl) (by kernel_rfl) rfl (by simp [nil8, Value.oneCell']) (hK _ _ ?_)
  simp only [put_none]
  obtain ⟨x4, hx4⟩ : ∃ x4, w3.alloc (.cells nil8.toArray 35) = x4 := ⟨_, rfl⟩
  rw [World.setRow_alloc_new, hx4]
  have hb4 : Below w3.heap.size w3 x4 := by rw [← hx4]; exact Below_alloc' w3 _
  have HND := Lib.hid (HB3.out.2.below hb4 HB3.out.2.lt)
  have HCV := Lib.hid (And.intro HCL.out (HB3.out.1.trans (hb4.mono HB3.out.1.size)))
  clear hx4 HB3 hb4 HCL
  go_upto_region 3 with fail
  refine wp_act0 fun a0 ha0 => ?_
  have t3 : a0.eval (.tmp 3) = .slice vA cl.length vc := by rw [ha0]; rfl
  have t11 : a0.eval (.tmp 11) = .pointer (some ⟨w.heap.size + 1, 0, none⟩) := by rw [ha0]; rfl
  have t14 : a0.eval (.tmp 14) = .int .i64 60 := by rw [ha0]; rfl
  have t16 : a0.eval (.tmp 16) = .int .i64 60 := by rw [ha0]; rfl
  have hsz : a0.tmps.size = 126 := by rw [ha0]; rfl
  have HA0 := Lib.hid ha0; clear ha0
  refine wp_region_val [(39, .is (.bool true)), (40, .is (.bool false)), (41, .is (.bool false)), (42, .is (.int .i64 60)), (43, .is (.int .i64 60)), (44, .is (.bool false)), (45, .is (.bool false)), (46, .is (.bool false)), (47, .is (.slice vA cl.length vc)), (48, .is (.agg n.cells.toArray)), (49, .is (.bool vb)), (50, .is (.slice vA cl.length vc)), (51, .is (.agg n.cells.toArray)), (52, .is (.bool vb)), (53, .is (.bool false)), (54, .is (.bool false))] (by kernel_rfl) (by kernel_rfl) ?steps ?done
  case steps =>
    refine ⟨?_, ?_, ?_, ?_, ?_, ?_, ?_, ?_, ?_, ?_, ?_, ?_, ?_, ?_, ?_, ?_, trivial⟩
    · -- 0
      refine JV.step (slots := slU3) rfl (by decide) (by rw [hsz]; decide) (39, .is (.bool true)) rfl rfl rfl ?_
      intro D a wx K hD hp h hK
      have hfr : Fr slU3 a0 a := h.fr
      refine step_wp rfl ?_
      refine wp_call_on hK Tryz.func8 (by kernel_rfl) (by kernel_rfl) rfl #[] (by simp only [List.map_toArray, List.map_nil]) ?_
      refine (lives7_calls wx).mono ?_
      rintro e w' ⟨rfl, hb⟩
      exact ⟨_, rfl, hb, rfl⟩
    · -- 1
      refine JV.step (slots := slU3) rfl (by decide) (by rw [hsz]; decide) (40, .is (.bool false)) rfl rfl rfl ?_
      intro D a wx K hD hp h hK
      have hfr : Fr slU3 a0 a := h.fr
      refine step_wp rfl ?_
      have q0 : a.eval (.tmp 39) = .bool true := h.val 0 _ rfl (hp 0 (by decide))
      refine wp_val_on hK (by clear hfr; generalize a.eval = ρ at *; go_simp)
    · -- 2
      refine JV.step (slots := slU3) rfl (by decide) (by rw [hsz]; decide) (41, .is (.bool false)) rfl rfl rfl ?_
      intro D a wx K hD hp h hK
      have hfr : Fr slU3 a0 a := h.fr
      refine step_wp rfl ?_
      have q0 : a.eval (.tmp 40) = .bool false := h.val 1 _ rfl (hp 1 (by decide))
      refine wp_move_on hK rfl ?_
      exact q0
    · -- 3
      refine JV.step (slots := slU3) rfl (by decide) (by rw [hsz]; decide) (42, .is (.int .i64 60)) rfl rfl rfl ?_
      intro D a wx K hD hp h hK
      have hfr : Fr slU3 a0 a := h.fr
      refine step_wp_g rfl rfl (show a.eval (.tmp 41) = .bool false from h.val 2 _ rfl (hp 2 (by decide))) ?_
      refine wp_move_on hK rfl ?_
      exact (hfr.eval (j := 14) (by decide)).trans t14
    · -- 4
      refine JV.step (slots := slU3) rfl (by decide) (by rw [hsz]; decide) (43, .is (.int .i64 60)) rfl rfl rfl ?_
      intro D a wx K hD hp h hK
      have hfr : Fr slU3 a0 a := h.fr
      refine step_wp_g rfl rfl (show a.eval (.tmp 41) = .bool false from h.val 2 _ rfl (hp 2 (by decide))) ?_
      refine wp_move_on hK rfl ?_
      exact (hfr.eval (j := 16) (by decide)).trans t16
    · -- 5
      refine JV.step (slots := slU3) rfl (by decide) (by rw [hsz]; decide) (44, .is (.bool false)) rfl rfl rfl ?_
      intro D a wx K hD hp h hK
      have hfr : Fr slU3 a0 a := h.fr
      refine step_wp_g rfl rfl (show a.eval (.tmp 41) = .bool false from h.val 2 _ rfl (hp 2 (by decide))) ?_
      have q0 : a.eval (.tmp 42) = .int .i64 60 := h.val 3 _ rfl (hp 3 (by decide))
      have q1 : a.eval (.tmp 43) = .int .i64 60 := h.val 4 _ rfl (hp 4 (by decide))
      refine wp_val_on hK (by clear hfr; generalize a.eval = ρ at *; go_simp)
    · -- 6
      refine JV.step (slots := slU3) rfl (by decide) (by rw [hsz]; decide) (45, .is (.bool false)) rfl rfl rfl ?_
      intro D a wx K hD hp h hK
      have hfr : Fr slU3 a0 a := h.fr
      refine step_wp rfl ?_
      have q0 : a.eval (.tmp 41) = .bool false := h.val 2 _ rfl (hp 2 (by decide))
      have q1 : a.eval (.tmp 44) = .bool false := h.val 5 _ rfl (hp 5 (by decide))
      have c0 : a.eval (.const (.bool true)) = .bool true := rfl
      refine wp_val_on hK (by clear hfr; generalize a.eval = ρ at *; go_simp)
    · -- 7
      refine JV.step (slots := slU3) rfl (by decide) (by rw [hsz]; decide) (46, .is (.bool false)) rfl rfl rfl ?_
      intro D a wx K hD hp h hK
      have hfr : Fr slU3 a0 a := h.fr
      refine step_wp rfl ?_
      have q0 : a.eval (.tmp 45) = .bool false := h.val 6 _ rfl (hp 6 (by decide))
      refine wp_move_on hK rfl ?_
      exact q0
    · -- 8
      refine JV.step (slots := slU3) rfl (by decide) (by rw [hsz]; decide) (47, .is (.slice vA cl.length vc)) rfl rfl rfl ?_
      intro D a wx K hD hp h hK
      have hfr : Fr slU3 a0 a := h.fr
      refine step_wp_g rfl rfl (show a.eval (.tmp 46) = .bool false from h.val 7 _ rfl (hp 7 (by decide))) ?_
      refine wp_move_on hK rfl ?_
      exact (hfr.eval (j := 3) (by decide)).trans t3
    · -- 9
      refine JV.step (slots := slU3) rfl (by decide) (by rw [hsz]; decide) (48, .is (.agg n.cells.toArray)) rfl rfl rfl ?_
      intro D a wx K hD hp h hK
      have hfr : Fr slU3 a0 a := h.fr
      refine step_wp_g rfl rfl (show a.eval (.tmp 46) = .bool false from h.val 7 _ rfl (hp 7 (by decide))) ?_
      refine wp_load_on hK 53 _ rfl (w.heap.size + 1) 0 ((hfr.eval (j := 11) (by decide)).trans t11) _ (fun j v hj => by rw [Nat.zero_add, (HND.out.below h.below HND.out.lt).cell]; exact hj) Tryz.underlying53 rfl (by kernel_rfl)
    · -- 10
      refine JV.step (slots := slU3) rfl (by decide) (by rw [hsz]; decide) (49, .is (.bool vb)) rfl rfl rfl ?_
      intro D a wx K hD hp h hK
      have hfr : Fr slU3 a0 a := h.fr
      refine step_wp_g rfl rfl (show a.eval (.tmp 46) = .bool false from h.val 7 _ rfl (hp 7 (by decide))) ?_
      have q0 : a.eval (.tmp 47) = .slice vA cl.length vc := h.val 8 _ rfl (hp 8 (by decide))
      have q1 : a.eval (.tmp 48) = .agg n.cells.toArray := h.val 9 _ rfl (hp 9 (by decide))
      refine wp_call_on hK Tryz.func12 (by kernel_rfl) (by kernel_rfl) rfl #[.slice vA cl.length vc, .agg n.cells.toArray] (by simp only [List.map_toArray, List.map_cons, List.map_nil, q0, q1]) ?_
      refine (visible_calls cl _ n wx (HCV.out.1.mono (cmap_below (HCV.out.2.trans (h.below.mono HCV.out.2.size))))).mono ?_
      rintro e w' ⟨rfl, hb⟩
      exact ⟨_, rfl, hb, congrArg Value.bool HVB.out⟩
    · -- 11
      refine JV.step (slots := slU3) rfl (by decide) (by rw [hsz]; decide) (50, .is (.slice vA cl.length vc)) rfl rfl rfl ?_
      intro D a wx K hD hp h hK
      have hfr : Fr slU3 a0 a := h.fr
      refine step_wp_g rfl rfl (show a.eval (.tmp 46) = .bool false from h.val 7 _ rfl (hp 7 (by decide))) ?_
      refine wp_move_on hK rfl ?_
      exact (hfr.eval (j := 3) (by decide)).trans t3
    · -- 12
      refine JV.step (slots := slU3) rfl (by decide) (by rw [hsz]; decide) (51, .is (.agg n.cells.toArray)) rfl rfl rfl ?_
      intro D a wx K hD hp h hK
      have hfr : Fr slU3 a0 a := h.fr
      refine step_wp_g rfl rfl (show a.eval (.tmp 46) = .bool false from h.val 7 _ rfl (hp 7 (by decide))) ?_
      refine wp_load_on hK 53 _ rfl (w.heap.size + 1) 0 ((hfr.eval (j := 11) (by decide)).trans t11) _ (fun j v hj => by rw [Nat.zero_add, (HND.out.below h.below HND.out.lt).cell]; exact hj) Tryz.underlying53 rfl (by kernel_rfl)
    · -- 13
      refine JV.step (slots := slU3) rfl (by decide) (by rw [hsz]; decide) (52, .is (.bool vb)) rfl rfl rfl ?_
      intro D a wx K hD hp h hK
      have hfr : Fr slU3 a0 a := h.fr
      refine step_wp_g rfl rfl (show a.eval (.tmp 46) = .bool false from h.val 7 _ rfl (hp 7 (by decide))) ?_
      have q0 : a.eval (.tmp 50) = .slice vA cl.length vc := h.val 11 _ rfl (hp 11 (by decide))
      have q1 : a.eval (.tmp 51) = .agg n.cells.toArray := h.val 12 _ rfl (hp 12 (by decide))
      refine wp_call_on hK Tryz.func13 (by kernel_rfl) (by kernel_rfl) rfl #[.slice vA cl.length vc, .agg n.cells.toArray] (by simp only [List.map_toArray, List.map_cons, List.map_nil, q0, q1]) ?_
      refine (r7vis_calls cl _ n wx (HCV.out.1.mono (cmap_below (HCV.out.2.trans (h.below.mono HCV.out.2.size))))).mono ?_
      rintro e w' ⟨rfl, hb⟩
      exact ⟨_, rfl, hb, congrArg Value.bool HVB.out⟩
    · -- 14
      refine JV.step (slots := slU3) rfl (by decide) (by rw [hsz]; decide) (53, .is (.bool false)) rfl rfl rfl ?_
      intro D a wx K hD hp h hK
      have hfr : Fr slU3 a0 a := h.fr
      refine step_wp_g rfl rfl (show a.eval (.tmp 46) = .bool false from h.val 7 _ rfl (hp 7 (by decide))) ?_
      have q0 : a.eval (.tmp 49) = .bool vb := h.val 10 _ rfl (hp 10 (by decide))
      have q1 : a.eval (.tmp 52) = .bool vb := h.val 13 _ rfl (hp 13 (by decide))
      have z0 : (vb != vb) = false := by simp
      refine wp_val_on hK (by clear hfr; generalize a.eval = ρ at *; go_simp)
    · -- 15
      refine JV.step (slots := slU3) rfl (by decide) (by rw [hsz]; decide) (54, .is (.bool false)) rfl rfl rfl ?_
      intro D a wx K hD hp h hK
      have hfr : Fr slU3 a0 a := h.fr
      refine step_wp rfl ?_
      have q0 : a.eval (.tmp 46) = .bool false := h.val 7 _ rfl (hp 7 (by decide))
      have q1 : a.eval (.tmp 53) = .bool false := h.val 14 _ rfl (hp 14 (by decide))
      have c0 : a.eval (.const (.bool true)) = .bool true := rfl
      refine wp_val_on hK (by clear hfr; generalize a.eval = ρ at *; go_simp)
  case done =>
    intro D a wz hall h
    have hd : ∀ i, i < 16 → D i = true := hall
    have hfin := Fr.all (slots := slU3) h.fr (by rw [hsz]; decide)
    simp only [putAll, slU3] at hfin
    rw [(show a.eval (.tmp 39) = .bool true from h.val 0 _ rfl (hd 0 (by decide))), (show a.eval (.tmp 40) = .bool false from h.val 1 _ rfl (hd 1 (by decide))), (show a.eval (.tmp 41) = .bool false from h.val 2 _ rfl (hd 2 (by decide))), (show a.eval (.tmp 42) = .int .i64 60 from h.val 3 _ rfl (hd 3 (by decide))), (show a.eval (.tmp 43) = .int .i64 60 from h.val 4 _ rfl (hd 4 (by decide))), (show a.eval (.tmp 44) = .bool false from h.val 5 _ rfl (hd 5 (by decide))), (show a.eval (.tmp 45) = .bool false from h.val 6 _ rfl (hd 6 (by decide))), (show a.eval (.tmp 46) = .bool false from h.val 7 _ rfl (hd 7 (by decide))), (show a.eval (.tmp 47) = .slice vA cl.length vc from h.val 8 _ rfl (hd 8 (by decide))), (show a.eval (.tmp 48) = .agg n.cells.toArray from h.val 9 _ rfl (hd 9 (by decide))), (show a.eval (.tmp 49) = .bool vb from h.val 10 _ rfl (hd 10 (by decide))), (show a.eval (.tmp 50) = .slice vA cl.length vc from h.val 11 _ rfl (hd 11 (by decide))), (show a.eval (.tmp 51) = .agg n.cells.toArray from h.val 12 _ rfl (hd 12 (by decide))), (show a.eval (.tmp 52) = .bool vb from h.val 13 _ rfl (hd 13 (by decide))), (show a.eval (.tmp 53) = .bool false from h.val 14 _ rfl (hd 14 (by decide))), (show a.eval (.tmp 54) = .bool false from h.val 15 _ rfl (hd 15 (by decide)))] at hfin
    have HBZ := Lib.hid h.below
    rw [hfin, HA0.out]
    clear hfin HA0 h hall hd t3 t11 t14 t16 hsz
    simp only [Act.put, List.setIfInBounds_toArray, List.set_cons_zero, List.set_cons_succ]
    go_wp2
    go_ret
    exact ⟨rfl, HCV.out.2.trans (HBZ.out.mono HCV.out.2.size)⟩
set_option maxRecDepth 100000 in
set_option maxHeartbeats 16000000 in
theorem runs_good (u : Unit_) (cs : List Value) (A : Option Addr) (c : Nat) (l : List Int) (A2 : Option Addr) (c2 : Nat) (l2 : List Int) (vA : Option Addr) (vc : Nat) (cl : List Cls) (most : Int) (n : Node) (w : World) (hu : UnitV (cmap w) cs u) (hok : UOk u) (hso : SOk u) (hv : Ints (cmap w) (.slice A l.length c) l) (hl : l.length ≤ 1048576) (hv2 : Ints (cmap w) (.slice A2 l2.length c2) l2) (hl2 : l2.length ≤ 1048576) (hcl : Clss (cmap w) (.slice vA cl.length vc) cl) (hc : checkF u = none) :
    Calls Tryz.prog 4 #[.agg cs.toArray, .slice A l.length c, .slice A2 l2.length c2, .slice vA cl.length vc, .int .i64 most, .agg n.cells.toArray] w fun e w' => e = .returned (.bool true) ∧ Below w.heap.size w w' := by
  have hru := checkF_none hc
  have hz := checkF_sizes hc
  have hst := start_situ hc hso
  have hu0 := hu
  obtain ⟨su, lu, gu, rfl, -, -, -⟩ := hu0
  have HU := Lib.hid (And.intro hu (And.intro hok hc))
  have hB0 : Below w.heap.size w ((w.alloc (.cells #[su, lu, gu] 25)).alloc (.cells n.cells.toArray 53)) := (Below_alloc' w _).alloc (by simp) _
  have hx0 : Blk ((w.alloc (.cells #[su, lu, gu] 25)).alloc (.cells n.cells.toArray 53)) w.heap.size 25 [su, lu, gu] := (Blk.new w _ _).alloc _
  have hn0 : Blk ((w.alloc (.cells #[su, lu, gu] 25)).alloc (.cells n.cells.toArray 53)) (w.heap.size + 1) 53 n.cells := Blk.of (heap_new (w.alloc _) _ _ (by simp)) rfl
  obtain ⟨vb, hvb⟩ : ∃ b, visB cl n = b := ⟨_, rfl⟩
  have HVB := Lib.hid hvb
  have HLD : Hid (∀ j v, ([su, lu, gu] : List Value)[j]? = some v → ((w.alloc (.cells #[su, lu, gu] 25)).alloc (.cells n.cells.toArray 53)).cell? ⟨w.heap.size, 0 + j, none⟩ = some v) := Lib.hid fun j v hj => by rw [Nat.zero_add, (hx0).cell]; exact hj
  have HK := Lib.hid (And.intro hru (And.intro hok (And.intro hz hst)))
  have HV := Lib.hid (And.intro hv (And.intro hv2 hcl))
  clear hu hok hc hru hz hst hv hv2 hcl hso hvb
  go_enter Tryz.func4, Tryz.ntmps4
  go_wp2_with (first
    | (refine wpList_load_at rfl 25 _ rfl w.heap.size 0 rfl _ _ HLD.out Tryz.underlying25 rfl (by kernel_rfl) ?_))
  refine (new_good u _ _ (HU.out.1.mono (cmap_below hB0)) HU.out.2.1 HU.out.2.2).mono ?_
  rintro e w2 ⟨g, L, R, rfl, hM, hR, hmu, hb2⟩
  have hB2 := hB0.trans (hb2.mono hB0.size)
  have hx2 := hx0.below hb2 hx0.lt
  have hn2 := hn0.below hb2 hn0.lt
  have HLD2 : Hid (∀ j v, ([su, lu, gu] : List Value)[j]? = some v → w2.cell? ⟨w.heap.size, 0 + j, none⟩ = some v) := Lib.hid fun j v hj => by rw [Nat.zero_add, (hx2).cell]; exact hj
  have HM := Lib.hid (And.intro hM (And.intro hR (And.intro (show ∀ q, L.mut g q → w.heap.size ≤ q from fun q hq => Nat.le_trans hB0.size (hmu q hq)) (And.intro hB2 hn2))))
  clear hM hR hmu hb2 HLD hx0 hx2 hn0 hn2 hB0 hB2
  go_wp2_with (first
    | (refine wpList_load_at rfl 25 _ rfl w.heap.size 0 rfl _ _ HLD2.out Tryz.underlying25 rfl (by kernel_rfl) ?_))
  refine (r7new_good u _ _ (fun q => q < w.heap.size) (HU.out.1.mono (on_low HM.out.2.2.2.1)) HU.out.2.1 HU.out.2.2).mono ?_
  rintro e w3 ⟨cs0, rfl, hr3, hb3⟩
  obtain ⟨su0, lu0, gu0, va0, vo0, vm0, vh0, vp0, rfl, -⟩ := id hr3
  have ONE0 := ref_oneA hr3
  have HR3 := Lib.hid (And.intro hr3 hb3)
  clear hr3 hb3 HLD2
  go_wp2_with (first
    | (refine stop_store 35 rfl ?_))
  refine Stop.intro ?_
  refine wpList_plain rfl fun K hK => wp_store_row 35 _ _ rfl w3.heap.size ([su0, lu0, gu0, va0, vo0, vm0, vh0, vp0] : List Value).toArray rfl rfl 35 _ (heap_new w3 _ _ rfl) (by kernel_rfl) rfl ONE0 (hK _ _ ?_)
  simp only [put_none]
  obtain ⟨k7, hk7⟩ : ∃ k7, w3.heap.size = k7 := ⟨_, rfl⟩
  obtain ⟨x4, hx4⟩ : ∃ x4, w3.alloc (.cells ([su0, lu0, gu0, va0, vo0, vm0, vh0, vp0] : List Value).toArray 35) = x4 := ⟨_, rfl⟩
  have h4 : Below w3.heap.size w3 x4 := by rw [← hx4]; exact Below_alloc' w3 _
  have hk4 : Blk x4 k7 35 [su0, lu0, gu0, va0, vo0, vm0, vh0, vp0] := by rw [← hx4, ← hk7]; exact Blk.new w3 _ _
  have hA4 : SuAt w x4 R g L u k7 (fun q => q < w.heap.size ∨ (w2.heap.size ≤ q ∧ q < w3.heap.size)) [su0, lu0, gu0, va0, vo0, vm0, vh0, vp0] (startM u) 0 := by
    have hb3 := HR3.out.2
    have hb24 : Below w2.heap.size w2 x4 := hb3.trans (h4.mono hb3.size)
    have hw2 := HM.out.2.2.2.1.size
    have hs3 := hb3.size
    have hs4 := h4.size
    refine ⟨⟨⟨L.pv, HM.out.1.below hb24, fun q hq => ⟨HM.out.2.2.1 q hq, fun e => ?_⟩⟩, fun q hq => ?_, HM.out.2.2.2.1.trans (hb24.mono hw2), fun q hq => ?_⟩, ?_, hk4, fun e => ?_, by omega, fun q hq => ?_, HK.out.2.2.2, PrI.start u, by simp [startM]⟩
    · have h1 := HM.out.1.lt hq
      have h2 := HM.out.2.2.1 q hq
      rcases e with e | e <;> omega
    · have := (HM.out.2.1 q hq).2; omega
    · rcases hq with e | e <;> omega
    · refine HR3.out.1.mono ?_
      intro b o v hv
      obtain ⟨h1, h2⟩ := on_at hv
      have hlt := World.block_lt_of_cell? w3 ⟨b, o, none⟩ h1
      have hlt2 : b < w3.heap.size := hlt
      refine on_mk ((h4.cell (p := ⟨b, o, none⟩) hlt2).trans h1) ?_
      rcases h2 with e | e
      · exact .inl e
      · exact .inr ⟨e, hlt2⟩
    · have e : k7 < w.heap.size ∨ (w2.heap.size ≤ k7 ∧ k7 < w3.heap.size) := e
      omega
    · have := (HM.out.2.1 q hq).2; omega
  have hn4 : Blk x4 (w.heap.size + 1) 53 n.cells := (HM.out.2.2.2.2.below HR3.out.2 HM.out.2.2.2.2.lt).below h4 (HM.out.2.2.2.2.below HR3.out.2 HM.out.2.2.2.2.lt).lt
  have HA4 := Lib.hid hA4
  have HND := Lib.hid hn4
  have HCV := Lib.hid (And.intro HV.out.2.2 hA4.a.bel)
  have HZL : Hid (∀ q, q < w.heap.size → (fun q => q < w.heap.size ∨ (w2.heap.size ≤ q ∧ q < w3.heap.size)) q) := Lib.hid fun q hq => .inl hq
  obtain ⟨Z0, hZ0⟩ : ∃ Z0 : Nat → Prop, (fun q => q < w.heap.size ∨ (w2.heap.size ≤ q ∧ q < w3.heap.size)) = Z0 := ⟨_, rfl⟩
  rw [hZ0] at HA4 HZL
  rw [World.setRow_alloc_new, hx4, hk7]
  clear hx4 hk7 h4 hk4 hA4 HR3 HM ONE0 hZ0 hn4
  go_upto_region 3 with fail
  refine wp_act0 fun a0 ha0 => ?_
  have t3 : a0.eval (.tmp 3) = .slice vA cl.length vc := by rw [ha0]; rfl
  have t11 : a0.eval (.tmp 11) = .pointer (some ⟨w.heap.size + 1, 0, none⟩) := by rw [ha0]; rfl
  have t14 : a0.eval (.tmp 14) = .int .i64 0 := by rw [ha0]; rfl
  have t16 : a0.eval (.tmp 16) = .int .i64 0 := by rw [ha0]; rfl
  have hsz : a0.tmps.size = 126 := by rw [ha0]; rfl
  have HA0 := Lib.hid ha0; clear ha0
  refine wp_region_val [(39, .is (.bool true)), (40, .is (.bool false)), (41, .is (.bool false)), (42, .is (.int .i64 0)), (43, .is (.int .i64 0)), (44, .is (.bool false)), (45, .is (.bool false)), (46, .is (.bool false)), (47, .is (.slice vA cl.length vc)), (48, .is (.agg n.cells.toArray)), (49, .is (.bool vb)), (50, .is (.slice vA cl.length vc)), (51, .is (.agg n.cells.toArray)), (52, .is (.bool vb)), (53, .is (.bool false)), (54, .is (.bool false))] (by kernel_rfl) (by kernel_rfl) ?steps ?done
  case steps =>
    refine ⟨?_, ?_, ?_, ?_, ?_, ?_, ?_, ?_, ?_, ?_, ?_, ?_, ?_, ?_, ?_, ?_, trivial⟩
    · -- 0
      refine JV.step (slots := slU3) rfl (by decide) (by rw [hsz]; decide) (39, .is (.bool true)) rfl rfl rfl ?_
      intro D a wx K hD hp h hK
      have hfr : Fr slU3 a0 a := h.fr
      refine step_wp rfl ?_
      refine wp_call_on hK Tryz.func8 (by kernel_rfl) (by kernel_rfl) rfl #[] (by simp only [List.map_toArray, List.map_nil]) ?_
      refine (lives7_calls wx).mono ?_
      rintro e w' ⟨rfl, hb⟩
      exact ⟨_, rfl, hb, rfl⟩
    · -- 1
      refine JV.step (slots := slU3) rfl (by decide) (by rw [hsz]; decide) (40, .is (.bool false)) rfl rfl rfl ?_
      intro D a wx K hD hp h hK
      have hfr : Fr slU3 a0 a := h.fr
      refine step_wp rfl ?_
      have q0 : a.eval (.tmp 39) = .bool true := h.val 0 _ rfl (hp 0 (by decide))
      refine wp_val_on hK (by clear hfr; generalize a.eval = ρ at *; go_simp)
    · -- 2
      refine JV.step (slots := slU3) rfl (by decide) (by rw [hsz]; decide) (41, .is (.bool false)) rfl rfl rfl ?_
      intro D a wx K hD hp h hK
      have hfr : Fr slU3 a0 a := h.fr
      refine step_wp rfl ?_
      have q0 : a.eval (.tmp 40) = .bool false := h.val 1 _ rfl (hp 1 (by decide))
      refine wp_move_on hK rfl ?_
      exact q0
    · -- 3
      refine JV.step (slots := slU3) rfl (by decide) (by rw [hsz]; decide) (42, .is (.int .i64 0)) rfl rfl rfl ?_
      intro D a wx K hD hp h hK
      have hfr : Fr slU3 a0 a := h.fr
      refine step_wp_g rfl rfl (show a.eval (.tmp 41) = .bool false from h.val 2 _ rfl (hp 2 (by decide))) ?_
      refine wp_move_on hK rfl ?_
      exact (hfr.eval (j := 14) (by decide)).trans t14
    · -- 4
      refine JV.step (slots := slU3) rfl (by decide) (by rw [hsz]; decide) (43, .is (.int .i64 0)) rfl rfl rfl ?_
      intro D a wx K hD hp h hK
      have hfr : Fr slU3 a0 a := h.fr
      refine step_wp_g rfl rfl (show a.eval (.tmp 41) = .bool false from h.val 2 _ rfl (hp 2 (by decide))) ?_
      refine wp_move_on hK rfl ?_
      exact (hfr.eval (j := 16) (by decide)).trans t16
    · -- 5
      refine JV.step (slots := slU3) rfl (by decide) (by rw [hsz]; decide) (44, .is (.bool false)) rfl rfl rfl ?_
      intro D a wx K hD hp h hK
      have hfr : Fr slU3 a0 a := h.fr
      refine step_wp_g rfl rfl (show a.eval (.tmp 41) = .bool false from h.val 2 _ rfl (hp 2 (by decide))) ?_
      have q0 : a.eval (.tmp 42) = .int .i64 0 := h.val 3 _ rfl (hp 3 (by decide))
      have q1 : a.eval (.tmp 43) = .int .i64 0 := h.val 4 _ rfl (hp 4 (by decide))
      refine wp_val_on hK (by clear hfr; generalize a.eval = ρ at *; go_simp)
    · -- 6
      refine JV.step (slots := slU3) rfl (by decide) (by rw [hsz]; decide) (45, .is (.bool false)) rfl rfl rfl ?_
      intro D a wx K hD hp h hK
      have hfr : Fr slU3 a0 a := h.fr
      refine step_wp rfl ?_
      have q0 : a.eval (.tmp 41) = .bool false := h.val 2 _ rfl (hp 2 (by decide))
      have q1 : a.eval (.tmp 44) = .bool false := h.val 5 _ rfl (hp 5 (by decide))
      have c0 : a.eval (.const (.bool true)) = .bool true := rfl
      refine wp_val_on hK (by clear hfr; generalize a.eval = ρ at *; go_simp)
    · -- 7
      refine JV.step (slots := slU3) rfl (by decide) (by rw [hsz]; decide) (46, .is (.bool false)) rfl rfl rfl ?_
      intro D a wx K hD hp h hK
      have hfr : Fr slU3 a0 a := h.fr
      refine step_wp rfl ?_
      have q0 : a.eval (.tmp 45) = .bool false := h.val 6 _ rfl (hp 6 (by decide))
      refine wp_move_on hK rfl ?_
      exact q0
    · -- 8
      refine JV.step (slots := slU3) rfl (by decide) (by rw [hsz]; decide) (47, .is (.slice vA cl.length vc)) rfl rfl rfl ?_
      intro D a wx K hD hp h hK
      have hfr : Fr slU3 a0 a := h.fr
      refine step_wp_g rfl rfl (show a.eval (.tmp 46) = .bool false from h.val 7 _ rfl (hp 7 (by decide))) ?_
      refine wp_move_on hK rfl ?_
      exact (hfr.eval (j := 3) (by decide)).trans t3
    · -- 9
      refine JV.step (slots := slU3) rfl (by decide) (by rw [hsz]; decide) (48, .is (.agg n.cells.toArray)) rfl rfl rfl ?_
      intro D a wx K hD hp h hK
      have hfr : Fr slU3 a0 a := h.fr
      refine step_wp_g rfl rfl (show a.eval (.tmp 46) = .bool false from h.val 7 _ rfl (hp 7 (by decide))) ?_
      refine wp_load_on hK 53 _ rfl (w.heap.size + 1) 0 ((hfr.eval (j := 11) (by decide)).trans t11) _ (fun j v hj => by rw [Nat.zero_add, (HND.out.below h.below HND.out.lt).cell]; exact hj) Tryz.underlying53 rfl (by kernel_rfl)
    · -- 10
      refine JV.step (slots := slU3) rfl (by decide) (by rw [hsz]; decide) (49, .is (.bool vb)) rfl rfl rfl ?_
      intro D a wx K hD hp h hK
      have hfr : Fr slU3 a0 a := h.fr
      refine step_wp_g rfl rfl (show a.eval (.tmp 46) = .bool false from h.val 7 _ rfl (hp 7 (by decide))) ?_
      have q0 : a.eval (.tmp 47) = .slice vA cl.length vc := h.val 8 _ rfl (hp 8 (by decide))
      have q1 : a.eval (.tmp 48) = .agg n.cells.toArray := h.val 9 _ rfl (hp 9 (by decide))
      refine wp_call_on hK Tryz.func12 (by kernel_rfl) (by kernel_rfl) rfl #[.slice vA cl.length vc, .agg n.cells.toArray] (by simp only [List.map_toArray, List.map_cons, List.map_nil, q0, q1]) ?_
      refine (visible_calls cl _ n wx (HCV.out.1.mono (cmap_below (HCV.out.2.trans (h.below.mono HCV.out.2.size))))).mono ?_
      rintro e w' ⟨rfl, hb⟩
      exact ⟨_, rfl, hb, congrArg Value.bool HVB.out⟩
    · -- 11
      refine JV.step (slots := slU3) rfl (by decide) (by rw [hsz]; decide) (50, .is (.slice vA cl.length vc)) rfl rfl rfl ?_
      intro D a wx K hD hp h hK
      have hfr : Fr slU3 a0 a := h.fr
      refine step_wp_g rfl rfl (show a.eval (.tmp 46) = .bool false from h.val 7 _ rfl (hp 7 (by decide))) ?_
      refine wp_move_on hK rfl ?_
      exact (hfr.eval (j := 3) (by decide)).trans t3
    · -- 12
      refine JV.step (slots := slU3) rfl (by decide) (by rw [hsz]; decide) (51, .is (.agg n.cells.toArray)) rfl rfl rfl ?_
      intro D a wx K hD hp h hK
      have hfr : Fr slU3 a0 a := h.fr
      refine step_wp_g rfl rfl (show a.eval (.tmp 46) = .bool false from h.val 7 _ rfl (hp 7 (by decide))) ?_
      refine wp_load_on hK 53 _ rfl (w.heap.size + 1) 0 ((hfr.eval (j := 11) (by decide)).trans t11) _ (fun j v hj => by rw [Nat.zero_add, (HND.out.below h.below HND.out.lt).cell]; exact hj) Tryz.underlying53 rfl (by kernel_rfl)
    · -- 13
      refine JV.step (slots := slU3) rfl (by decide) (by rw [hsz]; decide) (52, .is (.bool vb)) rfl rfl rfl ?_
      intro D a wx K hD hp h hK
      have hfr : Fr slU3 a0 a := h.fr
      refine step_wp_g rfl rfl (show a.eval (.tmp 46) = .bool false from h.val 7 _ rfl (hp 7 (by decide))) ?_
      have q0 : a.eval (.tmp 50) = .slice vA cl.length vc := h.val 11 _ rfl (hp 11 (by decide))
      have q1 : a.eval (.tmp 51) = .agg n.cells.toArray := h.val 12 _ rfl (hp 12 (by decide))
      refine wp_call_on hK Tryz.func13 (by kernel_rfl) (by kernel_rfl) rfl #[.slice vA cl.length vc, .agg n.cells.toArray] (by simp only [List.map_toArray, List.map_cons, List.map_nil, q0, q1]) ?_
      refine (r7vis_calls cl _ n wx (HCV.out.1.mono (cmap_below (HCV.out.2.trans (h.below.mono HCV.out.2.size))))).mono ?_
      rintro e w' ⟨rfl, hb⟩
      exact ⟨_, rfl, hb, congrArg Value.bool HVB.out⟩
    · -- 14
      refine JV.step (slots := slU3) rfl (by decide) (by rw [hsz]; decide) (53, .is (.bool false)) rfl rfl rfl ?_
      intro D a wx K hD hp h hK
      have hfr : Fr slU3 a0 a := h.fr
      refine step_wp_g rfl rfl (show a.eval (.tmp 46) = .bool false from h.val 7 _ rfl (hp 7 (by decide))) ?_
      have q0 : a.eval (.tmp 49) = .bool vb := h.val 10 _ rfl (hp 10 (by decide))
      have q1 : a.eval (.tmp 52) = .bool vb := h.val 13 _ rfl (hp 13 (by decide))
      have z0 : (vb != vb) = false := by simp
      refine wp_val_on hK (by clear hfr; generalize a.eval = ρ at *; go_simp)
    · -- 15
      refine JV.step (slots := slU3) rfl (by decide) (by rw [hsz]; decide) (54, .is (.bool false)) rfl rfl rfl ?_
      intro D a wx K hD hp h hK
      have hfr : Fr slU3 a0 a := h.fr
      refine step_wp rfl ?_
      have q0 : a.eval (.tmp 46) = .bool false := h.val 7 _ rfl (hp 7 (by decide))
      have q1 : a.eval (.tmp 53) = .bool false := h.val 14 _ rfl (hp 14 (by decide))
      have c0 : a.eval (.const (.bool true)) = .bool true := rfl
      refine wp_val_on hK (by clear hfr; generalize a.eval = ρ at *; go_simp)
  case done =>
    intro D a wz hall h
    have hd : ∀ i, i < 16 → D i = true := hall
    have hfin := Fr.all (slots := slU3) h.fr (by rw [hsz]; decide)
    simp only [putAll, slU3] at hfin
    rw [(show a.eval (.tmp 39) = .bool true from h.val 0 _ rfl (hd 0 (by decide))), (show a.eval (.tmp 40) = .bool false from h.val 1 _ rfl (hd 1 (by decide))), (show a.eval (.tmp 41) = .bool false from h.val 2 _ rfl (hd 2 (by decide))), (show a.eval (.tmp 42) = .int .i64 0 from h.val 3 _ rfl (hd 3 (by decide))), (show a.eval (.tmp 43) = .int .i64 0 from h.val 4 _ rfl (hd 4 (by decide))), (show a.eval (.tmp 44) = .bool false from h.val 5 _ rfl (hd 5 (by decide))), (show a.eval (.tmp 45) = .bool false from h.val 6 _ rfl (hd 6 (by decide))), (show a.eval (.tmp 46) = .bool false from h.val 7 _ rfl (hd 7 (by decide))), (show a.eval (.tmp 47) = .slice vA cl.length vc from h.val 8 _ rfl (hd 8 (by decide))), (show a.eval (.tmp 48) = .agg n.cells.toArray from h.val 9 _ rfl (hd 9 (by decide))), (show a.eval (.tmp 49) = .bool vb from h.val 10 _ rfl (hd 10 (by decide))), (show a.eval (.tmp 50) = .slice vA cl.length vc from h.val 11 _ rfl (hd 11 (by decide))), (show a.eval (.tmp 51) = .agg n.cells.toArray from h.val 12 _ rfl (hd 12 (by decide))), (show a.eval (.tmp 52) = .bool vb from h.val 13 _ rfl (hd 13 (by decide))), (show a.eval (.tmp 53) = .bool false from h.val 14 _ rfl (hd 14 (by decide))), (show a.eval (.tmp 54) = .bool false from h.val 15 _ rfl (hd 15 (by decide)))] at hfin
    have HBZ := Lib.hid h.below
    rw [hfin, HA0.out]
    clear hfin HA0 h hall hd t3 t11 t14 t16 hsz
    simp only [Act.put, List.setIfInBounds_toArray, List.set_cons_zero, List.set_cons_succ]
    have hA5 := HA4.out.below HBZ.out
    have HA5 := Lib.hid hA5
    have HLM : Hid (∀ j v, ([su0, lu0, gu0, va0, vo0, vm0, vh0, vp0] : List Value)[j]? = some v → wz.cell? ⟨k7, 0 + j, none⟩ = some v) := Lib.hid fun j v hj => by rw [Nat.zero_add, (hA5.b7).cell]; exact hj
    have HRUN := Lib.hid (r7run_calls _ u (startM u) A c l wz Z0 hA5.ref HK.out.1 HK.out.2.2.1 HK.out.2.1 hA5.situ (HV.out.1.mono (cmap_below hA5.a.bel)) (by have := hA5.pr; omega))
    obtain ⟨X, hX⟩ : ∃ X, runF u (startM u) l = X := ⟨_, rfl⟩
    have hsr := runF_situ HK.out.1 HK.out.2.1 l hA5.situ
    have hpri := runF_pri HK.out.1 HK.out.2.1 l hA5.situ hA5.pri
    rw [hX] at HRUN hsr hpri
    obtain ⟨X1, X2, X3⟩ := X
    dsimp only at HRUN hsr hpri
    have HX := Lib.hid hX
    have HSR := Lib.hid (And.intro hsr.1 (And.intro hpri (show X1.prints.length ≤ 1048576 by have h1 := hsr.2.1; have h2 := hsr.2.2; have h3 := hA5.pr; omega)))
    clear hA5 hX hsr hpri HA4 HND HCV HBZ
    go_wp2_with (first
      | (refine wpList_load_at rfl 35 _ rfl k7 0 rfl _ _ HLM.out Tryz.underlying35 rfl (by kernel_rfl) ?_))
    refine HRUN.out.mono ?_
    rintro e w6 ⟨cs2, rfl, hr6, hb6⟩
    obtain ⟨su2, lu2, gu2, va2, vo2, vm2, vh2, vp2, rfl, -⟩ := id hr6
    have ONE2 := ref_oneA hr6
    have HR6 := Lib.hid (And.intro hr6 hb6)
    clear hr6 hb6 HLM HRUN
    go_wp2_with (first
      | (refine stop_store 35 rfl ?_))
    refine Stop.intro ?_
    refine wpList_plain rfl fun K hK => wp_store_row 35 _ _ rfl w6.heap.size ([su2, lu2, gu2, va2, vo2, vm2, vh2, vp2] : List Value).toArray rfl rfl 35 _ (heap_new w6 _ _ rfl) (by kernel_rfl) rfl ONE2 (hK _ _ ?_)
    simp only [put_none]
    obtain ⟨k17, hk17⟩ : ∃ k, w6.heap.size = k := ⟨_, rfl⟩
    obtain ⟨x7, hx7⟩ : ∃ x, w6.alloc (.cells ([su2, lu2, gu2, va2, vo2, vm2, vh2, vp2] : List Value).toArray 35) = x := ⟨_, rfl⟩
    have h7 : Below w6.heap.size w6 x7 := by rw [← hx7]; exact Below_alloc' w6 _
    have hk177 : Blk x7 k17 35 [su2, lu2, gu2, va2, vo2, vm2, vh2, vp2] := by rw [← hx7, ← hk17]; exact Blk.new w6 _ _
    rw [World.setRow_alloc_new, hx7, hk17]
    have hb57 := HR6.out.2.trans (h7.mono HR6.out.2.size)
    have ha7 := HA5.out.a.grow hb57
    have hr7 := zg_ref h7 HR6.out.1
    have hz7 := zg_not HA5.out x7.heap.size
    have h77 := HA5.out.b7.below hb57 HA5.out.b7.lt
    have hzl7 : ∀ q, q < w.heap.size → zg Z0 wz.heap.size x7.heap.size q := fun q hq => .inl (HZL.out q hq)
    obtain ⟨Z1, hZ1⟩ : ∃ Z1 : Nat → Prop, zg Z0 wz.heap.size x7.heap.size = Z1 := ⟨_, rfl⟩
    have ha7 : MAz w x7 R g L u (zg Z0 wz.heap.size x7.heap.size) (startM u) := ha7
    rw [hZ1] at ha7 hr7 hz7 hzl7
    obtain ⟨pv, k1, k2⟩ := ha7.ex
    have hrn := run_calls (Q := fun q => q < w.heap.size) k1 HA5.out.situ HK.out.1 HK.out.2.1 (by have := HA5.out.pr; omega) ha7.rl ((HV.out.1.mono (on_low ha7.bel))) (fun q hq e => (k2 q e).2 (hzl7 q hq))
    rw [HX.out] at hrn
    dsimp only at hrn
    have HRN := Lib.hid hrn
    have HX7 := Lib.hid (And.intro ha7 (And.intro hr7 (And.intro hz7 (And.intro h77 (And.intro hk177 (And.intro k1 (And.intro k2 hzl7)))))))
    have HGE := Lib.hid (And.intro HA5.out.ge HA5.out.rk)
    clear h7 hk177 hb57 ha7 hr7 hz7 h77 hzl7 hZ1 k1 k2 hrn hx7 hk17 HR6 HA5 HX HZL
    go_wp2_with fail
    refine HRN.out.mono ?_
    rintro e w8 ⟨rfl, hmade⟩
    have hmd := HX7.out.1.made HX7.out.2.2.2.2.2.2.1 hmade
    have h78 := HX7.out.2.2.2.1.fr hmade.fr (HX7.out.2.2.2.2.2.1.notmut HX7.out.2.2.2.1 (by decide) (by decide) (by decide) (by decide))
    have h178 := HX7.out.2.2.2.2.1.fr hmade.fr (HX7.out.2.2.2.2.2.1.notmut HX7.out.2.2.2.2.1 (by decide) (by decide) (by decide) (by decide))
    have hr8 := HX7.out.2.1.mono hmd.2
    have HL17 : Hid (∀ j v, ([su2, lu2, gu2, va2, vo2, vm2, vh2, vp2] : List Value)[j]? = some v → w8.cell? ⟨k17, 0 + j, none⟩ = some v) := Lib.hid fun j v hj => by rw [Nat.zero_add, (h178).cell]; exact hj
    have p0 : w8.cell? ⟨k17, 0, none⟩ = some su2 := HL17.out 0 _ rfl
    have p1 : w8.cell? ⟨k17, 1, none⟩ = some lu2 := HL17.out 1 _ rfl
    have p2 : w8.cell? ⟨k17, 2, none⟩ = some gu2 := HL17.out 2 _ rfl
    have p3 : w8.cell? ⟨k17, 3, none⟩ = some va2 := HL17.out 3 _ rfl
    have p4 : w8.cell? ⟨k17, 4, none⟩ = some vo2 := HL17.out 4 _ rfl
    have p5 : w8.cell? ⟨k17, 5, none⟩ = some vm2 := HL17.out 5 _ rfl
    have p6 : w8.cell? ⟨k17, 6, none⟩ = some vh2 := HL17.out 6 _ rfl
    have p7 : w8.cell? ⟨k17, 7, none⟩ = some vp2 := HL17.out 7 _ rfl
    obtain ⟨pv2, k3, k4⟩ := hmd.1.ex
    have HSM := Lib.hid (same7_calls _ u _ w8 R g _ k3 (hr8.mono (on_le _ _)) HK.out.1 HK.out.2.2.1 HSR.out.1 HSR.out.2.1 (by have := HSR.out.2.2; omega))
    have HX8 := Lib.hid (And.intro hmd.1 (And.intro hr8 (And.intro h78 (And.intro h178 (And.intro HX7.out.2.2.1 HX7.out.2.2.2.2.2.2.2)))))
    have hxx : ((X2 : Int) != (X2 : Int)) = false := by simp
    have hyy : (X3 != X3) = false := by simp
    clear hmade hmd h78 h178 hr8 k3 k4 HX7 HRN
    go_wp2_with fail
    refine HSM.out.mono ?_
    rintro e w9 ⟨rfl, hb9⟩
    have ha9 := HX8.out.1.below hb9
    have h79 := HX8.out.2.2.1.below hb9 HX8.out.2.2.1.lt
    have h179 := HX8.out.2.2.2.1.below hb9 HX8.out.2.2.2.1.lt
    have hr9 := HX8.out.2.1.mono (on_keep (S' := Z1) (fun b _ hlt => hb9.block b hlt) fun _ hb => hb)
    have HL9 : Hid (∀ j v, ([su2, lu2, gu2, va2, vo2, vm2, vh2, vp2] : List Value)[j]? = some v → w9.cell? ⟨k17, 0 + j, none⟩ = some v) := Lib.hid fun j v hj => by rw [Nat.zero_add, (h179).cell]; exact hj
    have HX9 := Lib.hid (And.intro ha9 (And.intro hr9 (And.intro h79 HX8.out.2.2.2.2)))
    clear hb9 ha9 h79 h179 hr9 HX8 HSM HL17 p0 p1 p2 p3 p4 p5 p6 p7
    go_wp2_with (first
      | (refine wpList_load_at rfl 35 _ rfl k17 0 rfl _ _ HL9.out Tryz.underlying35 rfl (by kernel_rfl) ?_)
      | (refine stop_store 35 rfl ?_))
    refine Stop.intro ?_
    refine wpList_plain rfl fun K hK => wp_store_row 35 _ _ rfl k7 ([su2, lu2, gu2, va2, vo2, vm2, vh2, vp2] : List Value).toArray rfl rfl 35 _ HX9.out.2.2.1 (by kernel_rfl) rfl ONE2 (hK _ _ ?_)
    simp only [put_none]
    have hA10 : SuAt w (w9.setRow k7 ([su2, lu2, gu2, va2, vo2, vm2, vh2, vp2] : List Value).toArray) R g L u k7 Z1 [su2, lu2, gu2, va2, vo2, vm2, vh2, vp2] X1 1048576 :=
      ⟨HX9.out.1.row HX9.out.2.2.1 (by decide) (by decide) (by decide) (by decide) HGE.out.2 HGE.out.1 _, HX9.out.2.1.mono (on_keep (fun b hb _ => heap_setRow_ne (fun e => by subst e; exact HX9.out.2.2.2.1 hb) _) fun _ hb => hb), Blk.setRow (cs' := [su2, lu2, gu2, va2, vo2, vm2, vh2, vp2]) HX9.out.2.2.1, HX9.out.2.2.2.1, HGE.out.1, HGE.out.2, HSR.out.1, HSR.out.2.1, HSR.out.2.2⟩
    have HA10 := Lib.hid hA10
    clear hA10 HX9 HL9 hxx hyy HGE HSR
    go_wp2
    go_loopw [89, 23, 24, 25, 26, 27, 28] (fun i _ _ _ _ _ _ wr => ∃ (k : Nat) (mk : Mach) (cs' : List Value) (Z R : Nat → Prop) (L : Lay), i = .int .i64 k ∧ k ≤ l2.length ∧ Hid (SuAt w wr R g L u k7 Z cs' mk (1048576 + k))) (fun i _ _ _ _ _ _ _ => l2.length - (intOf i).toNat)
    case atStart => exact ⟨0, _, _, _, _, _, rfl, by omega, HA10⟩
    case round =>
      clear HA10
      obtain ⟨k, mk, csk, Z, R, L, rfl, hk, HH⟩ := hrel
      obtain ⟨su1, lu1, gu1, va1, vo1, vm1, vh1, vp1, rfl, -⟩ := id HH.out.ref
      by_cases hlt : k < l2.length
      · obtain ⟨t, ht⟩ : ∃ t, l2[k]? = some t := ⟨_, List.getElem?_eq_getElem hlt⟩
        obtain ⟨sb, so, rfl, hsc⟩ := (HV.out.2.1.mono (cmap_below HH.out.a.bel)).at_ ht
        rw [Nat.mul_one] at hsc
        have hcs : wr.cell? ⟨sb, so + k, none⟩ = some (.int .i64 t) := hsc
        have i0 : (0 : Int) ≤ k := by omega
        have i1 : (k : Int) < l2.length := by omega
        have HLM : Hid (∀ j v, ([su1, lu1, gu1, va1, vo1, vm1, vh1, vp1] : List Value)[j]? = some v → wr.cell? ⟨k7, 0 + j, none⟩ = some v) := Lib.hid fun j v hj => by rw [Nat.zero_add, (HH.out.b7).cell]; exact hj
        have HAV := Lib.hid (r7adv_calls _ u mk t most vA vc cl wr Z HH.out.ref HK.out.1 HK.out.2.2.1 HK.out.2.1 HH.out.situ (HV.out.2.2.mono (cmap_below HH.out.a.bel)) (by have := HH.out.pr; omega))
        have hkp := advR_keep HK.out.1 HK.out.2.1 cl t most HH.out.situ HH.out.pri
        obtain ⟨Y, hY⟩ : ∃ Y, advR u cl t most mk = Y := ⟨_, rfl⟩
        rw [hY] at HAV hkp
        obtain ⟨Y1, Y2, Y3⟩ := Y
        dsimp only at HAV hkp
        have HY := Lib.hid (And.intro hY hkp)
        clear hsc ht hY hkp
        go_wp2_with (first
          | (refine wpList_load_at rfl 35 _ rfl k7 0 rfl _ _ HLM.out Tryz.underlying35 rfl (by kernel_rfl) ?_))
        refine HAV.out.mono ?_
        rintro e w6 ⟨cs2, rfl, hr6, hb6⟩
        obtain ⟨su2, lu2, gu2, va2, vo2, vm2, vh2, vp2, rfl, -⟩ := id hr6
        have ONE2 := ref_oneA hr6
        have HR6 := Lib.hid (And.intro hr6 hb6)
        clear hr6 hb6 HLM HAV hcs
        go_wp2_with (first
          | (refine stop_store 35 rfl ?_))
        refine Stop.intro ?_
        refine wpList_plain rfl fun K hK => wp_store_row 35 _ _ rfl w6.heap.size ([su2, lu2, gu2, va2, vo2, vm2, vh2, vp2] : List Value).toArray rfl rfl 35 _ (heap_new w6 _ _ rfl) (by kernel_rfl) rfl ONE2 (hK _ _ ?_)
        simp only [put_none]
        obtain ⟨x7, hx7⟩ : ∃ x, w6.alloc (.cells ([su2, lu2, gu2, va2, vo2, vm2, vh2, vp2] : List Value).toArray 35) = x := ⟨_, rfl⟩
        have h7 : Below w6.heap.size w6 x7 := by rw [← hx7]; exact Below_alloc' w6 _
        have hk24 : Blk x7 w6.heap.size 35 [su2, lu2, gu2, va2, vo2, vm2, vh2, vp2] := by rw [← hx7]; exact Blk.new w6 _ _
        rw [World.setRow_alloc_new, hx7]
        have hb57 := HR6.out.2.trans (h7.mono HR6.out.2.size)
        have ha7 : MAz w x7 R g L u (zg Z wr.heap.size x7.heap.size) mk := HH.out.a.grow hb57
        have hr7 := zg_ref h7 HR6.out.1
        have hz7 := zg_not HH.out x7.heap.size
        have h77 := HH.out.b7.below hb57 HH.out.b7.lt
        have HL24 : Hid (∀ j v, ([su2, lu2, gu2, va2, vo2, vm2, vh2, vp2] : List Value)[j]? = some v → x7.cell? ⟨w6.heap.size, 0 + j, none⟩ = some v) := Lib.hid fun j v hj => by rw [Nat.zero_add, (hk24).cell]; exact hj
        have HX7 := Lib.hid (And.intro ha7 (And.intro hr7 (And.intro hz7 h77)))
        clear h7 hk24 hb57 ha7 hr7 hz7 h77 hx7 HR6
        go_wp2_with (first
          | (refine wpList_load_at rfl 35 _ rfl w6.heap.size 0 rfl _ _ HL24.out Tryz.underlying35 rfl (by kernel_rfl) ?_)
          | (refine stop_store 35 rfl ?_))
        refine Stop.intro ?_
        refine wpList_plain rfl fun K hK => wp_store_row 35 _ _ rfl k7 ([su2, lu2, gu2, va2, vo2, vm2, vh2, vp2] : List Value).toArray rfl rfl 35 _ HX7.out.2.2.2 (by kernel_rfl) rfl ONE2 (hK _ _ ?_)
        simp only [put_none]
        have ha8 := HX7.out.1.row HX7.out.2.2.2 (by decide) (by decide) (by decide) (by decide) HH.out.rk HH.out.ge ([su2, lu2, gu2, va2, vo2, vm2, vh2, vp2] : List Value).toArray
        have hr8 : RefV (on (x7.setRow k7 ([su2, lu2, gu2, va2, vo2, vm2, vh2, vp2] : List Value).toArray) (zg Z wr.heap.size x7.heap.size)) [su2, lu2, gu2, va2, vo2, vm2, vh2, vp2] u Y1 := HX7.out.2.1.mono (on_keep (fun b hb _ => heap_setRow_ne (fun e => by subst e; exact HX7.out.2.2.1 hb) _) fun _ hb => hb)
        have h78 : Blk (x7.setRow k7 ([su2, lu2, gu2, va2, vo2, vm2, vh2, vp2] : List Value).toArray) k7 35 [su2, lu2, gu2, va2, vo2, vm2, vh2, vp2] := Blk.setRow (cs' := [su2, lu2, gu2, va2, vo2, vm2, vh2, vp2]) HX7.out.2.2.2
        obtain ⟨x8, hx8⟩ : ∃ x, x7.setRow k7 ([su2, lu2, gu2, va2, vo2, vm2, vh2, vp2] : List Value).toArray = x := ⟨_, rfl⟩
        obtain ⟨Z1, hZ1⟩ : ∃ Z1 : Nat → Prop, zg Z wr.heap.size x7.heap.size = Z1 := ⟨_, rfl⟩
        have hz8 := HX7.out.2.2.1
        rw [hZ1] at hz8
        rw [hx8, hZ1] at ha8 hr8
        rw [hx8] at h78 ⊢
        obtain ⟨pv, k1, k2⟩ := ha8.ex
        have hav := adv_calls k1 ha8.rl HH.out.situ HK.out.1 HK.out.2.1 HK.out.2.2.1 (by have := HH.out.pr; omega) t most vA vc cl (HV.out.2.2.mono (cmap_below ha8.bel))
        rw [HY.out.1] at hav
        dsimp only at hav
        have HAV := Lib.hid hav
        have HX8 := Lib.hid (And.intro ha8 (And.intro hr8 (And.intro h78 (And.intro k1 (And.intro k2 hz8)))))
        clear hx8 hZ1 ha8 hr8 h78 k1 k2 hav HX7 HL24 hz8
        go_wp2_with fail
        refine HAV.out.mono ?_
        rintro e w9 ⟨rfl, hadv⟩
        obtain ⟨R', L', ha9, hR9⟩ := HX8.out.1.adv HX8.out.2.2.2.2.1 hadv
        have hng : ¬ k7 = g := fun e => HX8.out.2.2.2.1.notmut HX8.out.2.2.1 (by decide) (by decide) (by decide) (by decide) (.inl e)
        have h79 := HX8.out.2.2.1.fr hadv.fr hng
        have hr9 := HX8.out.2.1.mono (hadv.fr.on (R := Z1) fun b hb e => by subst e; exact (HX8.out.2.2.2.2.1 _ (.inl rfl)).2 hb)
        have hrk9 : ∀ q, R' q → q ≠ k7 := fun q hq e => by
          rcases hR9 q hq with k | k
          · exact HH.out.rk q k e
          · have := HX8.out.2.2.1.lt; omega
        have hA9 : SuAt w w9 R' g L' u k7 Z1 [su2, lu2, gu2, va2, vo2, vm2, vh2, vp2] Y1 (1048576 + (k + 1)) := ⟨ha9, hr9, h79, HX8.out.2.2.2.2.2, HH.out.ge, hrk9, HY.out.2.1, HY.out.2.2.1, by have h1 := HY.out.2.2.2; have h2 := HH.out.pr; omega⟩
        have HL9 : Hid (∀ j v, ([su2, lu2, gu2, va2, vo2, vm2, vh2, vp2] : List Value)[j]? = some v → w9.cell? ⟨k7, 0 + j, none⟩ = some v) := Lib.hid fun j v hj => by rw [Nat.zero_add, (h79).cell]; exact hj
        have p0 : w9.cell? ⟨k7, 0, none⟩ = some su2 := HL9.out 0 _ rfl
        have p1 : w9.cell? ⟨k7, 1, none⟩ = some lu2 := HL9.out 1 _ rfl
        have p2 : w9.cell? ⟨k7, 2, none⟩ = some gu2 := HL9.out 2 _ rfl
        have p3 : w9.cell? ⟨k7, 3, none⟩ = some va2 := HL9.out 3 _ rfl
        have p4 : w9.cell? ⟨k7, 4, none⟩ = some vo2 := HL9.out 4 _ rfl
        have p5 : w9.cell? ⟨k7, 5, none⟩ = some vm2 := HL9.out 5 _ rfl
        have p6 : w9.cell? ⟨k7, 6, none⟩ = some vh2 := HL9.out 6 _ rfl
        have p7 : w9.cell? ⟨k7, 7, none⟩ = some vp2 := HL9.out 7 _ rfl
        obtain ⟨pv2, k3, k4⟩ := ha9.ex
        have HSM := Lib.hid (same7_calls _ u _ w9 R' g _ k3 (hr9.mono (on_le _ _)) HK.out.1 HK.out.2.2.1 HY.out.2.1 HY.out.2.2.1 (by have := hA9.pr; omega))
        have HA9 := Lib.hid hA9
        have hxx : ((Y2 : Int) != (Y2 : Int)) = false := by simp
        have hyy : (Y3 != Y3) = false := by simp
        clear hadv ha9 hR9 hng h79 hr9 hrk9 hA9 k3 k4 HX8 HAV HL9
        go_wp2_with fail
        refine HSM.out.mono ?_
        rintro e w10 ⟨rfl, hb10⟩
        have HA10 := Lib.hid (HA9.out.below hb10)
        clear hb10 HA9 HSM p0 p1 p2 p3 p4 p5 p6 p7
        go_wp2
        go_roundw
        case rel => exact ⟨k + 1, _, _, _, _, _, by go_num, by omega, HA10⟩
        case measure => simp [intOf]; omega
      · obtain rfl : k = l2.length := by omega
        have ng : ¬ ((l2.length : Int) < l2.length) := by omega
        have HF := Lib.hid HH.out.a.bel
        clear hk hlt
        go_wp2
        go_ret
        exact ⟨rfl, HF.out⟩
theorem sourceRuns_calls (w : World) (cs : List Value) (u : Unit_) (A : Option Addr) (c : Nat) (l : List Int) (A2 : Option Addr) (c2 : Nat) (l2 : List Int) (vA : Option Addr) (vc : Nat) (cl : List Cls) (most : Int) (n : Node) (hu : UnitV (cmap w) cs u) (hok : UOk u) (hso : SOk u) (hv : Ints (cmap w) (.slice A l.length c) l) (_hi : ∀ x ∈ l, i64 x) (hl : l.length ≤ 1048576) (hv2 : Ints (cmap w) (.slice A2 l2.length c2) l2) (_hi2 : ∀ x ∈ l2, i64 x) (hl2 : l2.length ≤ 1048576) (hcl : Clss (cmap w) (.slice vA cl.length vc) cl) :
    Calls Tryz.prog 4 #[.agg cs.toArray, .slice A l.length c, .slice A2 l2.length c2, .slice vA cl.length vc, .int .i64 most, .agg n.cells.toArray] w fun e w' => e = .returned (.bool true) ∧ Below w.heap.size w w' := by
  cases hc : checkF u with
  | none => exact runs_good u cs A c l A2 c2 l2 vA vc cl most n w hu hok hso hv hl hv2 hl2 hcl hc
  | some p => exact runs_bad u cs _ _ vA vc cl most n w hu hok hcl (by rw [hc]; simp)
end Go.Proofs.YtmkpjiahkepigaaGreat
