import Derived.Test.YtmkpjiahkepigaaGreatP70
/- What a step keeps: words stay words; how much is printed; runs. -/
namespace Go.Proofs.YtmkpjiahkepigaaGreat
open Go
theorem divF_i64 {a b : Int} (_ha : i64 a) : i64 (divF a b) := by
  unfold divF
  split
  · exact i64_zero
  · split
    · exact wrap_i64 _
    · exact wrap_i64 _
theorem doF_i64 (k a b : Int) (ha : i64 a) : i64 (doF k a b) := by
  have hb : ∀ op, i64 (bits op .i64 a b) := fun op => ⟨bits_lo_i64 op a b, bits_hi_i64 op a b⟩
  have hw : ∀ x, i64 (IntKind.i64.wrap x) := fun x => by
    simp only [IntKind.wrap, IntKind.bits, IntKind.signed]
    unfold i64
    simp
    split <;> omega
  have hf : i64 (a.fdiv (2 ^ shN b)) := by
    obtain ⟨h1, h2⟩ := ha
    have hp : (0 : Int) < 2 ^ shN b := by
      have := Int.pow_pos (n := 2) (m := shN b) (by omega)
      exact this
    rw [Int.fdiv_eq_ediv_of_nonneg _ (by omega)]
    constructor
    · refine Int.le_trans ?_ (Int.ediv_le_ediv hp h1)
      rw [Int.le_ediv_iff_mul_le hp]
      have : (1 : Int) ≤ 2 ^ shN b := by omega
      omega
    · exact Int.le_trans (Int.ediv_le_ediv hp h2) (Int.ediv_le_self _ (by omega))
  have hi : ∀ (p : Prop) [Decidable p] (x y : Int), i64 x → i64 y → i64 (if p then x else y) := fun p _ x y h1 h2 => by split; exact h1; exact h2
  unfold doF
  refine hi _ _ _ (wrap_i64 _) (hi _ _ _ (wrap_i64 _) (hi _ _ _ (wrap_i64 _) (hi _ _ _ (divF_i64 ha) (hi _ _ _ (hi _ _ _ ha (wrap_i64 _)) (hi _ _ _ (hb _) (hi _ _ _ (hb _) (hi _ _ _ (hb _) (hi _ _ _ (hw _) (hi _ _ _ hf ?_)))))))))
  exact hi _ _ _ (b2w_i64 _) (hi _ _ _ (b2w_i64 _) (hi _ _ _ (b2w_i64 _) (hi _ _ _ (b2w_i64 _) (hi _ _ _ (b2w_i64 _) (b2w_i64 _)))))
theorem oneF_i64 (k a : Int) : i64 (oneF k a) := by
  unfold oneF
  split
  · exact wrap_i64 _
  · exact b2w_i64 _
theorem setV_i64 {m : Mach} (h : MachI m) (t : Nat) {n : Node} (hn : n.ok) : i64 (setV m t n) := by
  unfold setV
  split
  · exact doF_i64 _ _ _ (h.val t hn.a)
  · split
    · exact h.val t hn.a
    · exact oneF_i64 _ _
theorem mem_set {α : Type} {l : List α} {i : Nat} {x y : α} (h : y ∈ l.set i x) : y ∈ l ∨ y = x := List.mem_or_eq_of_mem_set h
theorem MachI.setSlot {m : Mach} (h : MachI m) (t : Nat) (j x : Int) (hx : i64 x) : MachI (m.setSlot t j x) := by
  refine ⟨fun l hl y hy => ?_, h.mem⟩
  rcases mem_set hl with e | e
  · exact h.slot l e y hy
  · subst e
    rcases mem_set hy with e | e
    · cases hq : m.slots[t]? with
      | none => rw [hq] at e; cases e
      | some l0 => rw [hq] at e; exact h.slot l0 (List.mem_of_getElem? hq) y e
    · subst e; exact hx
theorem MachI.setVar {m : Mach} (h : MachI m) (i x : Int) (hx : i64 x) : MachI (m.setVar i x) := by
  refine ⟨h.slot, fun y hy => ?_⟩
  rcases mem_set hy with e | e
  · exact h.mem y e
  · subst e; exact hx
theorem MachI.act {m : Mach} (h : MachI m) (t : Nat) {n : Node} (hn : n.ok) : MachI (actM m t n) := by
  unfold actM
  split
  · exact h.setSlot _ _ _ (setV_i64 h t hn)
  · split
    · exact h.setSlot _ _ _ (h.var _)
    · split
      · exact h.setVar _ _ (h.val t hn.a)
      · split
        · exact (h.setSlot _ _ _ (h.var _)).setVar _ _ (h.val t hn.a)
        · split
          · exact ⟨h.slot, h.mem⟩
          · split
            · exact ⟨h.slot, h.mem⟩
            · split
              · exact ⟨h.slot, h.mem⟩
              · exact h
theorem act_prints (m : Mach) (t : Nat) (n : Node) : (actM m t n).prints.length ≤ m.prints.length + 1 := by
  unfold actM
  repeat' split
  all_goals simp [Mach.setSlot, Mach.setVar, Mach.setHolder]
/-- A situation in which all is as it should be. -/
structure Situ (u : Unit_) (m : Mach) : Prop where
  come : Come_ u m
  mi : MachI m
theorem Situ.ok {u : Unit_} {m : Mach} (h : Situ u m) : MachOk u m := h.come.ok
theorem Situ.step {u : Unit_} (hu : RightU u) (huo : UOk u) {m : Mach} (h : Situ u m) (t : Int) : Situ u (stepM u m t) := by
  refine ⟨h.come.step hu t, ?_⟩
  by_cases hb0 : barF u m t = 0
  · obtain ⟨t, rfl, ht⟩ := bar_out h.ok (by rw [hb0]; decide)
    obtain ⟨g, i, n, hs⟩ := stands_at h.ok ht
    rw [hs.bar h.ok] at hb0
    rw [hs.step h.ok hb0]
    have := h.mi.act t (huo g (List.mem_of_getElem? hs.gr) n (List.mem_of_getElem? hs.nd))
    exact ⟨this.slot, this.mem⟩
  · rw [(step_not hb0).1]; exact h.mi
theorem step_prints {u : Unit_} {m : Mach} (hok : MachOk u m) (t : Int) : (stepM u m t).prints.length ≤ m.prints.length + 1 := by
  by_cases hb0 : barF u m t = 0
  · obtain ⟨t, rfl, ht⟩ := bar_out hok (by rw [hb0]; decide)
    obtain ⟨g, i, n, hs⟩ := stands_at hok ht
    rw [hs.bar hok] at hb0
    rw [hs.step hok hb0]
    exact act_prints m t n
  · rw [(step_not hb0).1]; omega
/-- A unit's words are words. -/
def SOk (u : Unit_) : Prop := ∀ d ∈ u.shared, i64 d.word
theorem start_situ {u : Unit_} (hc : checkF u = none) (hs : SOk u) : Situ u (startM u) := by
  refine ⟨startM_come (checkF_none hc) (checkF_sizes hc), ⟨fun l hl x hx => ?_, fun x hx => ?_⟩⟩
  · obtain ⟨g, _, rfl⟩ := List.mem_map.1 hl
    rw [(List.mem_replicate.1 hx).2]; exact i64_zero
  · obtain ⟨d, hd, rfl⟩ := List.mem_map.1 hx
    exact hs d hd
/-- What a list of threads does, how many of them could, and why the next one couldn't. -/
def runF (u : Unit_) : Mach → List Int → Mach × Nat × Int
  | m, [] => (m, 0, 0)
  | m, t :: ts => if barF u m t ≠ 0 then (m, 0, barF u m t) else ((runF u (stepM u m t) ts).1, (runF u (stepM u m t) ts).2.1 + 1, (runF u (stepM u m t) ts).2.2)
theorem runF_stop {u : Unit_} {m : Mach} {t : Int} (ts : List Int) (h : barF u m t ≠ 0) : runF u m (t :: ts) = (m, 0, barF u m t) := by
  unfold runF; rw [if_pos h]
theorem runF_go {u : Unit_} {m : Mach} {t : Int} (ts : List Int) (h : barF u m t = 0) : runF u m (t :: ts) = ((runF u (stepM u m t) ts).1, (runF u (stepM u m t) ts).2.1 + 1, (runF u (stepM u m t) ts).2.2) := by
  rw [runF, if_neg (by simp [h])]
theorem runF_situ {u : Unit_} (hu : RightU u) (huo : UOk u) : ∀ (l : List Int) {m : Mach}, Situ u m → Situ u (runF u m l).1 ∧ (runF u m l).1.prints.length ≤ m.prints.length + (runF u m l).2.1 ∧ (runF u m l).2.1 ≤ l.length
  | [], m, h => ⟨h, by simp [runF], by simp [runF]⟩
  | t :: ts, m, h => by
    by_cases hb : barF u m t = 0
    · rw [runF_go ts hb]
      obtain ⟨h1, h2, h3⟩ := runF_situ hu huo ts (h.step hu huo t)
      have := step_prints h.ok t
      exact ⟨h1, by dsimp only; omega, by simp; omega⟩
    · rw [runF_stop ts hb]
      exact ⟨h, by simp, by simp⟩
end Go.Proofs.YtmkpjiahkepigaaGreat
/- The walk of Run. -/
namespace Go.Proofs.YtmkpjiahkepigaaGreat
open Go Go.RowKit
section
variable {w : World} {R Q : Nat → Prop} {g : Nat} {L : Lay} {u : Unit_} {m : Mach}
/-- After k of a list's threads, all of which could. -/
structure RunAt (w wr : World) (R : Nat → Prop) (g : Nat) (L : Lay) (u : Unit_) (m : Mach) (l : List Int) (k : Nat) (mk : Mach) : Prop where
  made : MadeP w wr R g L u mk
  situ : Situ u mk
  prints : mk.prints.length ≤ m.prints.length + k
  r1 : (runF u m l).1 = (runF u mk (l.drop k)).1
  r2 : (runF u m l).2.1 = (runF u mk (l.drop k)).2.1 + k
  r3 : (runF u m l).2.2 = (runF u mk (l.drop k)).2.2
set_option maxHeartbeats 2000000 in
theorem run_calls {A : Option Addr} {c : Nat} {l : List Int} (h : MachB w R g L u m) (hs : Situ u m) (hu : RightU u) (huo : UOk u) (hpr : (m.prints.length + l.length) * 16 ≤ 140737488355328) (hRl : ∀ q, R q → q < w.heap.size)
    (hv : Ints (on w Q) (.slice A l.length c) l) (hQ : ∀ q, Q q → ¬ L.mut g q) :
    Calls Tryz.prog 15 #[.pointer (some ⟨g, 0, none⟩), .slice A l.length c] w fun e w' => e = .returned (.tuple #[.int .i64 (runF u m l).2.1, .int .i64 (runF u m l).2.2]) ∧ MadeP w w' R g L u (runF u m l).1 := by
  have hstart : RunAt w w R g L u m l 0 m := ⟨MadeP.refl h, hs, by omega, rfl, rfl, rfl⟩
  have hlen := hv.len.2.2
  obtain ⟨X, hX⟩ : ∃ X, runF u m l = X := ⟨_, rfl⟩
  obtain ⟨X1, X2, X3⟩ := X
  have HS := Lib.hid hstart
  have HM := Lib.hid (And.intro h (And.intro hu (And.intro huo (And.intro hpr (And.intro hRl (And.intro hv (And.intro hQ hX)))))))
  rw [hX]
  clear h hs hu huo hpr hRl hv hQ hstart hX
  dsimp only
  go_enter Tryz.func15, Tryz.ntmps15
  go_wp2
  go_loopw [14, 6, 7, 8, 9] (fun i _ _ _ _ wr => ∃ (k : Nat) (mk : Mach), i = .int .i64 k ∧ k ≤ l.length ∧ Hid (RunAt w wr R g L u m l k mk)) (fun i _ _ _ _ _ => l.length - (intOf i).toNat)
  case atStart => exact ⟨0, m, rfl, by omega, HS⟩
  case round =>
    clear HS
    obtain ⟨k, mk, rfl, hk, HR⟩ := hrel
    by_cases hlt : k < l.length
    · obtain ⟨t, ht⟩ : ∃ t, l[k]? = some t := ⟨_, List.getElem?_eq_getElem hlt⟩
      have hvr := HM.out.2.2.2.2.2.1.mono (HR.out.made.fr.on HM.out.2.2.2.2.2.2.1)
      obtain ⟨sb, so, rfl, hc⟩ := hvr.at_ ht
      rw [Nat.mul_one] at hc
      have hc1 : wr.cell? ⟨sb, so + k, none⟩ = some (.int .i64 t) := (on_at hc).1
      have hd : l.drop k = t :: l.drop (k + 1) := by
        obtain ⟨h1, h2⟩ := List.getElem?_eq_some_iff.1 ht
        rw [List.drop_eq_getElem_cons h1, h2]
      obtain ⟨pv, hMk, hmu⟩ := HR.out.made.ex
      have hstep := step_calls t hMk HR.out.situ.ok HR.out.situ.mi HM.out.2.1 HM.out.2.2.1 (by have := HR.out.prints; have := HM.out.2.2.2.1; omega) (fun q hq => Nat.lt_of_lt_of_le (HM.out.2.2.2.2.1 q hq) HR.out.made.fr.size)
      have HST := Lib.hid (And.intro hstep (And.intro hmu (And.intro hd hlt)))
      have i0 : (0 : Int) ≤ k := by omega
      have i1 : (k : Int) < l.length := by omega
      clear hvr hc hd hMk hmu hstep ht
      obtain ⟨d, hdd⟩ : ∃ d, stepD u mk t = d := ⟨_, rfl⟩
      obtain ⟨r, hr⟩ : ∃ r, barF u mk t = r := ⟨_, rfl⟩
      rw [hdd, hr] at HST
      have HBR := Lib.hid hr
      clear hdd hr
      by_cases hb : r = 0
      · have e0 : (r != 0) = false := by simp [hb]
        have HB0 := Lib.hid hb; clear hb
        go_wp2_with fail
        refine HST.out.1.mono ?_
        rintro e w2 ⟨rfl, hm2⟩
        have hn2 := (HR.out.made.andThen HST.out.2.1 hm2).below (Below_alloc' w2 (.cells #[.int .i64 d.thread, .int .i64 d.node, .int .u8 d.kind, .int .i64 d.thing, .int .i64 d.word, .int .i64 d.put] 41))
        have hnext : RunAt w (w2.alloc (.cells #[.int .i64 d.thread, .int .i64 d.node, .int .u8 d.kind, .int .i64 d.thing, .int .i64 d.word, .int .i64 d.put] 41)) R g L u m l (k + 1) (stepM u mk t) := by
          have hb0 : barF u mk t = 0 := HBR.out.trans HB0.out
          have hq := runF_go (l.drop (k + 1)) hb0
          rw [← HST.out.2.2.1] at hq
          refine ⟨hn2, HR.out.situ.step HM.out.2.1 HM.out.2.2.1 t, ?_, ?_, ?_, ?_⟩
          · have := step_prints HR.out.situ.ok t; have := HR.out.prints; omega
          · rw [HR.out.r1, hq]
          · rw [HR.out.r2, hq]; dsimp only; omega
          · rw [HR.out.r3, hq]
        have HNX := Lib.hid hnext
        clear hn2 hnext hm2
        rw [stepD_cells]
        go_wp2
        go_roundw
        case rel => exact ⟨k + 1, _, by go_num, by omega, HNX⟩
        case measure => simp [intOf]; omega
      · have e0 : (r != 0) = true := by simp [hb]
        have HB0 := Lib.hid hb; clear hb
        go_wp2_with fail
        refine HST.out.1.mono ?_
        rintro e w2 ⟨rfl, hm2⟩
        have hn2 := (HR.out.made.andThen HST.out.2.1 hm2).below (Below_alloc' w2 (.cells #[.int .i64 d.thread, .int .i64 d.node, .int .u8 d.kind, .int .i64 d.thing, .int .i64 d.word, .int .i64 d.put] 41))
        have hfin : X1 = mk ∧ X2 = k ∧ X3 = r := by
          have hq := runF_stop (u := u) (m := mk) (l.drop (k + 1)) (t := t) (by rw [HBR.out]; exact HB0.out)
          rw [← HST.out.2.2.1] at hq
          have h1 := HR.out.r1
          have h2 := HR.out.r2
          have h3 := HR.out.r3
          rw [HM.out.2.2.2.2.2.2.2, hq] at h1 h2 h3
          dsimp only at h1 h2 h3
          exact ⟨h1, by omega, by rw [h3, HBR.out]⟩
        have hst : stepM u mk t = mk := (step_not (by rw [HBR.out]; exact HB0.out)).1
        rw [hst] at hn2
        have HF := Lib.hid (And.intro hn2 hfin)
        clear hn2 hfin hst hm2
        rw [stepD_cells]
        go_wp2
        go_ret2
        obtain ⟨q1, q2, q3, q4⟩ := HF.out
        subst q2 q3 q4
        exact ⟨rfl, q1⟩
    · obtain rfl : k = l.length := by omega
      have hfin : X1 = mk ∧ X2 = l.length ∧ X3 = 0 := by
        have h1 := HR.out.r1
        have h2 := HR.out.r2
        have h3 := HR.out.r3
        rw [HM.out.2.2.2.2.2.2.2, List.drop_length] at h1 h2 h3
        simp only [runF] at h1 h2 h3
        exact ⟨h1, by omega, h3⟩
      have HF := Lib.hid (And.intro HR.out.made hfin)
      clear hfin hlt hk
      have ng : ¬ ((l.length : Int) < l.length) := by omega
      go_wp2
      go_ret2
      obtain ⟨q1, q2, q3, q4⟩ := HF.out
      subst q2 q3 q4
      exact ⟨rfl, q1⟩
theorem run_nil {v : Value} (w : World) : Calls Tryz.prog 15 #[.pointer none, v] w fun e w' => e = .returned (.tuple #[.int .i64 0, .int .i64 1]) ∧ w' = w := by
  go_enter Tryz.func15, Tryz.ntmps15
  go_wp2
  go_ret2
  exact ⟨rfl, rfl⟩
end
end Go.Proofs.YtmkpjiahkepigaaGreat
/- Who holds what: the plain law of SourceHolds. -/
namespace Go.Proofs.YtmkpjiahkepigaaGreat
open Go
end Go.Proofs.YtmkpjiahkepigaaGreat
