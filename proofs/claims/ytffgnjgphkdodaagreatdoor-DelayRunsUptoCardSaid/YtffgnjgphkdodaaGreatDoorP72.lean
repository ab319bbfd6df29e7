import Derived.Test.YtffgnjgphkdodaaGreatDoorP70
/- What a step keeps: words stay words; how much is printed; runs. -/
namespace Go.Proofs.YtffgnjgphkdodaaGreatDoor
open Go
theorem divF_i64 {a b : Int} (_ha : i64 a) : i64 (divF a b) := by
  unfold divF
  split
  · exact i64_zero
  · split
    · exact wrap_i64 _
    · exact wrap_i64 _
theorem doF_i64 (k a b : Int) (ha : i64 a) : i64 (doF k a b) := by
  have hb : ∀ op, i64 (bits op .i64 a b) := fun op => ⟨bits_lo_i64 op a b, bits_hi_i64 op a b⟩
  have hw : ∀ x, i64 (IntKind.i64.wrap x) := fun x => by
    simp only [IntKind.wrap, IntKind.bits, IntKind.signed]
    unfold i64
    simp
    split <;> omega
  have hf : i64 (a.fdiv (2 ^ shN b)) := by
    obtain ⟨h1, h2⟩ := ha
    have hp : (0 : Int) < 2 ^ shN b := by
      have := Int.pow_pos (n := 2) (m := shN b) (by omega)
      exact this
    rw [Int.fdiv_eq_ediv_of_nonneg _ (by omega)]
    constructor
    · refine Int.le_trans ?_ (Int.ediv_le_ediv hp h1)
      rw [Int.le_ediv_iff_mul_le hp]
      have : (1 : Int) ≤ 2 ^ shN b := by omega
      omega
    · exact Int.le_trans (Int.ediv_le_ediv hp h2) (Int.ediv_le_self _ (by omega))
  have hi : ∀ (p : Prop) [Decidable p] (x y : Int), i64 x → i64 y → i64 (if p then x else y) := fun p _ x y h1 h2 => by split; exact h1; exact h2
  unfold doF
  refine hi _ _ _ (wrap_i64 _) (hi _ _ _ (wrap_i64 _) (hi _ _ _ (wrap_i64 _) (hi _ _ _ (divF_i64 ha) (hi _ _ _ (hi _ _ _ ha (wrap_i64 _)) (hi _ _ _ (hb _) (hi _ _ _ (hb _) (hi _ _ _ (hb _) (hi _ _ _ (hw _) (hi _ _ _ hf ?_)))))))))
  exact hi _ _ _ (b2w_i64 _) (hi _ _ _ (b2w_i64 _) (hi _ _ _ (b2w_i64 _) (hi _ _ _ (b2w_i64 _) (hi _ _ _ (b2w_i64 _) (b2w_i64 _)))))
theorem oneF_i64 (k a : Int) : i64 (oneF k a) := by
  unfold oneF
  split
  · exact wrap_i64 _
  · exact b2w_i64 _
theorem setV_i64 {m : Mach} (h : MachI m) (t : Nat) {n : Node} (hn : n.ok) : i64 (setV m t n) := by
  unfold setV
  split
  · exact doF_i64 _ _ _ (h.val t hn.a)
  · split
    · exact h.val t hn.a
    · exact oneF_i64 _ _
theorem mem_set {α : Type} {l : List α} {i : Nat} {x y : α} (h : y ∈ l.set i x) : y ∈ l ∨ y = x := List.mem_or_eq_of_mem_set h
theorem MachI.setSlot {m : Mach} (h : MachI m) (t : Nat) (j x : Int) (hx : i64 x) : MachI (m.setSlot t j x) := by
  refine ⟨fun l hl y hy => ?_, h.mem⟩
  rcases mem_set hl with e | e
  · exact h.slot l e y hy
  · subst e
    rcases mem_set hy with e | e
    · cases hq : m.slots[t]? with
      | none => rw [hq] at e; cases e
      | some l0 => rw [hq] at e; exact h.slot l0 (List.mem_of_getElem? hq) y e
    · subst e; exact hx
theorem MachI.setVar {m : Mach} (h : MachI m) (i x : Int) (hx : i64 x) : MachI (m.setVar i x) := by
  refine ⟨h.slot, fun y hy => ?_⟩
  rcases mem_set hy with e | e
  · exact h.mem y e
  · subst e; exact hx
theorem MachI.act {m : Mach} (h : MachI m) (t : Nat) {n : Node} (hn : n.ok) : MachI (actM m t n) := by
  unfold actM
  split
  · exact h.setSlot _ _ _ (setV_i64 h t hn)
  · split
    · exact h.setSlot _ _ _ (h.var _)
    · split
      · exact h.setVar _ _ (h.val t hn.a)
      · split
        · exact (h.setSlot _ _ _ (h.var _)).setVar _ _ (h.val t hn.a)
        · split
          · exact ⟨h.slot, h.mem⟩
          · split
            · exact ⟨h.slot, h.mem⟩
            · split
              · exact ⟨h.slot, h.mem⟩
              · exact h
theorem act_prints (m : Mach) (t : Nat) (n : Node) : (actM m t n).prints.length ≤ m.prints.length + 1 := by
  unfold actM
  repeat' split
  all_goals simp [Mach.setSlot, Mach.setVar, Mach.setHolder]
/-- A situation in which all is as it should be. -/
structure Situ (u : Unit_) (m : Mach) : Prop where
  come : Come_ u m
  mi : MachI m
theorem Situ.ok {u : Unit_} {m : Mach} (h : Situ u m) : MachOk u m := h.come.ok
theorem Situ.step {u : Unit_} (hu : RightU u) (huo : UOk u) {m : Mach} (h : Situ u m) (t : Int) : Situ u (stepM u m t) := by
  refine ⟨h.come.step hu t, ?_⟩
  by_cases hb0 : barF u m t = 0
  · obtain ⟨t, rfl, ht⟩ := bar_out h.ok (by rw [hb0]; decide)
    obtain ⟨g, i, n, hs⟩ := stands_at h.ok ht
    rw [hs.bar h.ok] at hb0
    rw [hs.step h.ok hb0]
    have := h.mi.act t (huo g (List.mem_of_getElem? hs.gr) n (List.mem_of_getElem? hs.nd))
    exact ⟨this.slot, this.mem⟩
  · rw [(step_not hb0).1]; exact h.mi
theorem step_prints {u : Unit_} {m : Mach} (hok : MachOk u m) (t : Int) : (stepM u m t).prints.length ≤ m.prints.length + 1 := by
  by_cases hb0 : barF u m t = 0
  · obtain ⟨t, rfl, ht⟩ := bar_out hok (by rw [hb0]; decide)
    obtain ⟨g, i, n, hs⟩ := stands_at hok ht
    rw [hs.bar hok] at hb0
    rw [hs.step hok hb0]
    exact act_prints m t n
  · rw [(step_not hb0).1]; omega
/-- A unit's words are words. -/
def SOk (u : Unit_) : Prop := ∀ d ∈ u.shared, i64 d.word
theorem start_situ {u : Unit_} (hc : checkF u = none) (hs : SOk u) : Situ u (startM u) := by
  refine ⟨startM_come (checkF_none hc) (checkF_sizes hc), ⟨fun l hl x hx => ?_, fun x hx => ?_⟩⟩
  · obtain ⟨g, _, rfl⟩ := List.mem_map.1 hl
    rw [(List.mem_replicate.1 hx).2]; exact i64_zero
  · obtain ⟨d, hd, rfl⟩ := List.mem_map.1 hx
    exact hs d hd
end Go.Proofs.YtffgnjgphkdodaaGreatDoor
/- The walk of Run. -/
namespace Go.Proofs.YtffgnjgphkdodaaGreatDoor
open Go Go.RowKit
section
variable {w : World} {R Q : Nat → Prop} {g : Nat} {L : Lay} {u : Unit_} {m : Mach}
end
end Go.Proofs.YtffgnjgphkdodaaGreatDoor
/- Who holds what: the plain law of SourceHolds. -/
namespace Go.Proofs.YtffgnjgphkdodaaGreatDoor
open Go
end Go.Proofs.YtffgnjgphkdodaaGreatDoor
