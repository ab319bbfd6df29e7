import Derived.Test.YtkkmkjjbffpgnaaDoorP70
/- What a step keeps: words stay words; how much is printed; runs. -/
namespace Go.Proofs.YtkkmkjjbffpgnaaDoor
open Go
theorem i64_one : i64 1 := by unfold i64; omega
theorem divF_i64 {a b : Int} (ha : i64 a) : i64 (divF a b) := by
  unfold divF
  split
  · exact i64_zero
  · split
    · exact wrap_i64 _
    · exact wrap_i64 _
theorem doF_i64 (k a b : Int) (ha : i64 a) : i64 (doF k a b) := by
  have hb : ∀ op, i64 (bits op .i64 a b) := fun op => ⟨bits_lo_i64 op a b, bits_hi_i64 op a b⟩
  have hw : ∀ x, i64 (IntKind.i64.wrap x) := fun x => by
    simp only [IntKind.wrap, IntKind.bits, IntKind.signed]
    unfold i64
    simp
    split <;> omega
  have hf : i64 (a.fdiv (2 ^ shN b)) := by
    obtain ⟨h1, h2⟩ := ha
    have hp : (0 : Int) < 2 ^ shN b := by
      have := Int.pow_pos (n := 2) (m := shN b) (by omega)
      exact this
    rw [Int.fdiv_eq_ediv_of_nonneg _ (by omega)]
    constructor
    · refine Int.le_trans ?_ (Int.ediv_le_ediv hp h1)
      rw [Int.le_ediv_iff_mul_le hp]
      have : (1 : Int) ≤ 2 ^ shN b := by omega
      omega
    · exact Int.le_trans (Int.ediv_le_ediv hp h2) (Int.ediv_le_self _ (by omega))
  have hi : ∀ (p : Prop) [Decidable p] (x y : Int), i64 x → i64 y → i64 (if p then x else y) := fun p _ x y h1 h2 => by split; exact h1; exact h2
  unfold doF
  refine hi _ _ _ (wrap_i64 _) (hi _ _ _ (wrap_i64 _) (hi _ _ _ (wrap_i64 _) (hi _ _ _ (divF_i64 ha) (hi _ _ _ (hi _ _ _ ha (wrap_i64 _)) (hi _ _ _ (hb _) (hi _ _ _ (hb _) (hi _ _ _ (hb _) (hi _ _ _ (hw _) (hi _ _ _ hf ?_)))))))))
  exact hi _ _ _ (b2w_i64 _) (hi _ _ _ (b2w_i64 _) (hi _ _ _ (b2w_i64 _) (hi _ _ _ (b2w_i64 _) (hi _ _ _ (b2w_i64 _) (b2w_i64 _)))))
theorem oneF_i64 (k a : Int) : i64 (oneF k a) := by
  unfold oneF
  split
  · exact wrap_i64 _
  · exact b2w_i64 _
theorem setV_i64 {m : Mach} (h : MachI m) (t : Nat) {n : Node} (hn : n.ok) : i64 (setV m t n) := by
  unfold setV
  split
  · exact doF_i64 _ _ _ (h.val t hn.a)
  · split
    · exact h.val t hn.a
    · exact oneF_i64 _ _
theorem mem_set {α : Type} {l : List α} {i : Nat} {x y : α} (h : y ∈ l.set i x) : y ∈ l ∨ y = x := List.mem_or_eq_of_mem_set h
theorem MachI.setSlot {m : Mach} (h : MachI m) (t : Nat) (j x : Int) (hx : i64 x) : MachI (m.setSlot t j x) := by
  refine ⟨fun l hl y hy => ?_, h.mem⟩
  rcases mem_set hl with e | e
  · exact h.slot l e y hy
  · subst e
    rcases mem_set hy with e | e
    · cases hq : m.slots[t]? with
      | none => rw [hq] at e; cases e
      | some l0 => rw [hq] at e; exact h.slot l0 (List.mem_of_getElem? hq) y e
    · subst e; exact hx
theorem MachI.setVar {m : Mach} (h : MachI m) (i x : Int) (hx : i64 x) : MachI (m.setVar i x) := by
  refine ⟨h.slot, fun y hy => ?_⟩
  rcases mem_set hy with e | e
  · exact h.mem y e
  · subst e; exact hx
theorem MachI.act {m : Mach} (h : MachI m) (t : Nat) {n : Node} (hn : n.ok) : MachI (actM m t n) := by
  unfold actM
  split
  · exact h.setSlot _ _ _ (setV_i64 h t hn)
  · split
    · exact h.setSlot _ _ _ (h.var _)
    · split
      · exact h.setVar _ _ (h.val t hn.a)
      · split
        · exact (h.setSlot _ _ _ (h.var _)).setVar _ _ (h.val t hn.a)
        · split
          · exact ⟨h.slot, h.mem⟩
          · split
            · exact ⟨h.slot, h.mem⟩
            · split
              · exact ⟨h.slot, h.mem⟩
              · exact h
theorem act_prints (m : Mach) (t : Nat) (n : Node) : (actM m t n).prints.length ≤ m.prints.length + 1 := by
  unfold actM
  repeat' split
  all_goals simp [Mach.setSlot, Mach.setVar, Mach.setHolder]
/-- A situation in which all is as it should be. -/
structure Situ (u : Unit_) (m : Mach) : Prop where
  come : Come_ u m
  mi : MachI m
theorem Situ.ok {u : Unit_} {m : Mach} (h : Situ u m) : MachOk u m := h.come.ok
theorem Situ.step {u : Unit_} (hu : RightU u) (huo : UOk u) {m : Mach} (h : Situ u m) (t : Int) : Situ u (stepM u m t) := by
  refine ⟨h.come.step hu t, ?_⟩
  by_cases hb0 : barF u m t = 0
  · obtain ⟨t, rfl, ht⟩ := bar_out h.ok (by rw [hb0]; decide)
    obtain ⟨g, i, n, hs⟩ := stands_at h.ok ht
    rw [hs.bar h.ok] at hb0
    rw [hs.step h.ok hb0]
    have := h.mi.act t (huo g (List.mem_of_getElem? hs.gr) n (List.mem_of_getElem? hs.nd))
    exact ⟨this.slot, this.mem⟩
  · rw [(step_not hb0).1]; exact h.mi
theorem step_prints {u : Unit_} {m : Mach} (hok : MachOk u m) (t : Int) : (stepM u m t).prints.length ≤ m.prints.length + 1 := by
  by_cases hb0 : barF u m t = 0
  · obtain ⟨t, rfl, ht⟩ := bar_out hok (by rw [hb0]; decide)
    obtain ⟨g, i, n, hs⟩ := stands_at hok ht
    rw [hs.bar hok] at hb0
    rw [hs.step hok hb0]
    exact act_prints m t n
  · rw [(step_not hb0).1]; omega
/-- A unit's words are words. -/
def SOk (u : Unit_) : Prop := ∀ d ∈ u.shared, i64 d.word
theorem start_situ {u : Unit_} (hc : checkF u = none) (hs : SOk u) : Situ u (startM u) := by
  refine ⟨startM_come (checkF_none hc) (checkF_sizes hc), ⟨fun l hl x hx => ?_, fun x hx => ?_⟩⟩
  · obtain ⟨g, _, rfl⟩ := List.mem_map.1 hl
    rw [(List.mem_replicate.1 hx).2]; exact i64_zero
  · obtain ⟨d, hd, rfl⟩ := List.mem_map.1 hx
    exact hs d hd
/-- What a list of threads does, how many of them could, and why the next one couldn't. -/
def runF (u : Unit_) : Mach → List Int → Mach × Nat × Int
  | m, [] => (m, 0, 0)
  | m, t :: ts => if barF u m t ≠ 0 then (m, 0, barF u m t) else ((runF u (stepM u m t) ts).1, (runF u (stepM u m t) ts).2.1 + 1, (runF u (stepM u m t) ts).2.2)
theorem runF_stop {u : Unit_} {m : Mach} {t : Int} (ts : List Int) (h : barF u m t ≠ 0) : runF u m (t :: ts) = (m, 0, barF u m t) := by
  unfold runF; rw [if_pos h]
theorem runF_go {u : Unit_} {m : Mach} {t : Int} (ts : List Int) (h : barF u m t = 0) : runF u m (t :: ts) = ((runF u (stepM u m t) ts).1, (runF u (stepM u m t) ts).2.1 + 1, (runF u (stepM u m t) ts).2.2) := by
  rw [runF, if_neg (by simp [h])]
theorem runF_situ {u : Unit_} (hu : RightU u) (huo : UOk u) : ∀ (l : List Int) {m : Mach}, Situ u m → Situ u (runF u m l).1 ∧ (runF u m l).1.prints.length ≤ m.prints.length + (runF u m l).2.1 ∧ (runF u m l).2.1 ≤ l.length
  | [], m, h => ⟨h, by simp [runF], by simp [runF]⟩
  | t :: ts, m, h => by
    by_cases hb : barF u m t = 0
    · rw [runF_go ts hb]
      obtain ⟨h1, h2, h3⟩ := runF_situ hu huo ts (h.step hu huo t)
      have := step_prints h.ok t
      exact ⟨h1, by dsimp only; omega, by simp; omega⟩
    · rw [runF_stop ts hb]
      exact ⟨h, by simp, by simp⟩
end Go.Proofs.YtkkmkjjbffpgnaaDoor
/- The walk of Run. -/
namespace Go.Proofs.YtkkmkjjbffpgnaaDoor
open Go Go.RowKit
section
variable {w : World} {R Q : Nat → Prop} {g : Nat} {L : Lay} {u : Unit_} {m : Mach}
/-- After k of a list's threads, all of which could. -/
structure RunAt (w wr : World) (R : Nat → Prop) (g : Nat) (L : Lay) (u : Unit_) (m : Mach) (l : List Int) (k : Nat) (mk : Mach) : Prop where
  made : MadeP w wr R g L u mk
  situ : Situ u mk
  prints : mk.prints.length ≤ m.prints.length + k
  r1 : (runF u m l).1 = (runF u mk (l.drop k)).1
  r2 : (runF u m l).2.1 = (runF u mk (l.drop k)).2.1 + k
  r3 : (runF u m l).2.2 = (runF u mk (l.drop k)).2.2
end
end Go.Proofs.YtkkmkjjbffpgnaaDoor
/- Who holds what: the plain law of SourceHolds. -/
namespace Go.Proofs.YtkkmkjjbffpgnaaDoor
open Go
theorem wait_iff {u : Unit_} {m : Mach} (hok : MachOk u m) (t : Int) : t ∈ blockedF u m ↔ barF u m t = 71 := by
  unfold blockedF waitL
  simp only [List.mem_map, List.mem_filter, List.mem_range, beq_iff_eq]
  constructor
  · rintro ⟨k, ⟨_, h⟩, rfl⟩; exact h
  · intro h
    obtain ⟨k, rfl, hk⟩ := bar_out hok (by rw [h]; decide)
    exact ⟨k, ⟨by rw [hok.at_]; exact hk, h⟩, rfl⟩
/-- What a step does to the holders. -/
theorem holds_step {u : Unit_} (hu : RightU u) {m : Mach} (hs : Situ u m) {t : Int} (hb0 : barF u m t = 0) :
    ((stepD u m t).kind = 5 → ∃ k : Nat, (stepD u m t).thing = k ∧ k < u.locks.length ∧ (∃ x, m.holders[k]? = some x ∧ x < 0) ∧ (stepM u m t).holders = m.holders.set k t) ∧
    ((stepD u m t).kind = 6 → ∃ k : Nat, (stepD u m t).thing = k ∧ k < u.locks.length ∧ m.holders[k]? = some t ∧ (stepM u m t).holders = m.holders.set k (-1)) ∧
    ((stepD u m t).kind ≠ 5 → (stepD u m t).kind ≠ 6 → (stepM u m t).holders = m.holders) := by
  obtain ⟨t, rfl, ht⟩ := bar_out hs.ok (by rw [hb0]; decide)
  obtain ⟨g, i, n, hst⟩ := stands_at hs.ok ht
  have hbn := hb0
  rw [hst.bar hs.ok] at hbn
  rw [hst.step hs.ok hbn, hst.did hs.ok hbn]
  have hg := hu.graphs g (List.mem_of_getElem? hst.gr)
  have hnF := ndF (hg.nodes n (List.mem_of_getElem? hst.nd))
  have hkd : ∀ d : Did, (actD m t n d).kind = d.kind := fun d => by
    unfold actD
    repeat' split
    all_goals rfl
  rw [hkd]
  dsimp only
  rw [actM_holders]
  refine ⟨fun h5 => ?_, fun h6 => ?_, fun h5 h6 => by rw [if_neg h5, if_neg h6]⟩
  · have hth := hnF.lock (.inl h5)
    obtain ⟨k, hk⟩ := Int.eq_ofNat_of_zero_le hth.1
    have hkl : k < m.holders.length := by rw [hs.ok.holders]; omega
    refine ⟨k, ?_, by omega, ⟨_, List.getElem?_eq_getElem hkl, ?_⟩, by rw [if_pos h5, hk, Int.toNat_natCast]⟩
    · rw [← hk]; unfold actD; simp [h5]
    · unfold barN at hbn
      rw [if_neg (by omega)] at hbn
      by_cases hq : n.kind = 5 ∧ 0 ≤ (m.holders[n.thing.toNat]?).getD 0
      · rw [if_pos hq] at hbn; cases hbn
      · have : ¬ 0 ≤ (m.holders[n.thing.toNat]?).getD 0 := fun e => hq ⟨h5, e⟩
        rw [hk, Int.toNat_natCast, List.getElem?_eq_getElem hkl] at this
        simpa using this
  · have hth := hnF.lock (.inr h6)
    obtain ⟨k, hk⟩ := Int.eq_ofNat_of_zero_le hth.1
    have hh := hs.come.unlock hu hst h6
    rw [hk, Int.toNat_natCast] at hh
    refine ⟨k, ?_, by omega, hh, by rw [if_neg (by omega), if_pos h6, hk, Int.toNat_natCast]⟩
    rw [← hk]; unfold actD; simp [h6]
/-- Where all have ended no lock is held. -/
theorem ended_free {u : Unit_} (hu : RightU u) {m : Mach} (hs : Situ u m) (he : endedF u m = true) {l : Nat} {h : Int} (hl : m.holders[l]? = some h) : h < 0 := by
  have := hs.come.ended hu (fun t g i n hst => ?_) hl
  · omega
  · unfold endedF at he
    rw [List.all_eq_true] at he
    have h1 := he t (List.mem_range.2 (List.getElem?_eq_some_iff.1 hst.pc).1)
    rw [beq_iff_eq, hst.bar hs.ok] at h1
    unfold barN at h1
    by_cases h9 : n.kind = 9
    · exact h9
    · rw [if_neg h9] at h1
      split at h1 <;> cases h1
end Go.Proofs.YtkkmkjjbffpgnaaDoor
