import Derived.Test.YtkkmkjjbffpgnaaDoorP72
import Derived.Test.YtkkmkjjbffpgnaaDoorP70
import Derived.Test.YtkkmkjjbffpgnaaDoorP79
/- What a thread that can step holds, and what the class of what it touches lets it: the plain law of LocksetIndeed. -/
namespace Go.Proofs.YtkkmkjjbffpgnaaDoor
open Go
theorem range_cut {n : Nat} (hn : n ≤ 16) {p : Nat → Bool} (h : ∀ k, n ≤ k → k < 16 → p k = false) : (List.range 16).filter p = (List.range n).filter p := by
  obtain ⟨d, hd⟩ : ∃ d, 16 = n + d := ⟨16 - n, by omega⟩
  have e : ((List.range d).map fun x => n + x).filter p = [] := List.filter_eq_nil_iff.2 fun k hk => by
    obtain ⟨j, hj, rfl⟩ := List.mem_map.1 hk
    have := List.mem_range.1 hj
    rw [h (n + j) (by omega) (by omega)]
    simp
  rw [hd, List.range_add, List.filter_append, e, List.append_nil]
theorem holder_at {m : Mach} {k : Nat} {x : Int} (h : m.holders[k]? = some x) : m.holder (k : Int) = x := by
  have := (List.getElem?_eq_some_iff.1 h).1
  unfold Mach.holder
  rw [if_pos (by omega), Int.toNat_natCast, h]; rfl
/-- The locks that a thread holds, rising, are those that are held where it stands. -/
theorem own_rising {u : Unit_} (hu : RightU u) {m : Mach} (hs : Situ u m) {t : Nat} {g : Graph} {i : Nat} {n : Node} (h : Stands u m t g i n) :
    ((List.range u.locks.length).filter fun k : Nat => decide (m.holder (k : Int) = (t : Int))).map Int.ofNat = risingL (heldAt g i) := by
  unfold risingL up
  rw [range_cut (n := u.locks.length) hu.locks fun k h1 _ => ?_]
  · congr 1
    refine List.filter_congr fun k hk => ?_
    have hk := List.mem_range.1 hk
    have hh := hs.come.held t g i h.gr h.pc k hk
    have hlen : m.holders.length = u.locks.length := hs.ok.holders
    obtain ⟨x, hx⟩ : ∃ x, m.holders[k]? = some x := ⟨_, List.getElem?_eq_getElem (by omega)⟩
    rw [holder_at hx]
    unfold isIn
    rw [hx] at hh
    rw [Bool.eq_iff_iff, decide_eq_true_eq, decide_eq_true_eq, hh]
    exact ⟨fun e => by rw [e], fun e => by injection e⟩
  · unfold isIn
    rw [decide_eq_false_iff_not]
    intro hc
    have := heldAt_mem (hu.graphs g (List.mem_of_getElem? h.gr)) i hc
    omega
/-- What it touches, it may. -/
theorem class_lets {u : Unit_} (hu : RightU u) {m : Mach} (hs : Situ u m) {t : Nat} {g : Graph} {i : Nat} {n : Node} (h : Stands u m t g i n) (ht : touchB n = true) :
    ((classF u n.thing).kind = 1 ∧ (classF u n.thing).thread = t) ∨ ((classF u n.thing).kind = 2 ∧ m.holder (classF u n.thing).lock = t) ∨ (classF u n.thing).kind = 3 := by
  have hin := hits_in u.graphs 0 t g i n h.gr h.nd (hs.come.reach t g i h.gr h.pc)
  rw [Nat.zero_add] at hin
  have hT : (⟨t, i, n, heldAt g i⟩ : Hit) ∈ touchU u n.thing := List.mem_filter.2 ⟨hin, by unfold Hit.on; rw [ht]; simp⟩
  have hG : ∀ x ∈ guardsF u n.thing, m.holder x = t := by
    intro x hx
    unfold guardsF at hx
    split at hx
    · cases hx
    · obtain ⟨k, hk, rfl⟩ := List.mem_map.1 hx
      obtain ⟨h1, h2⟩ := List.mem_filter.1 hk
      have hk := List.mem_range.1 h1
      have h3 := List.all_eq_true.1 h2 _ hT
      unfold isIn at h3
      rw [decide_eq_true_eq] at h3
      exact holder_at ((hs.come.held t g i h.gr h.pc k hk).1 h3)
  unfold classF clsOf
  generalize touchU u n.thing = T at hT
  generalize guardsF u n.thing = G at hG
  cases T with
  | nil => cases hT
  | cons a T =>
    simp only
    split
    · rename_i hall
      have := List.all_eq_true.1 hall _ hT
      rw [decide_eq_true_eq] at this
      exact .inl ⟨rfl, by simp only at this ⊢; omega⟩
    · cases G with
      | nil => exact .inr (.inr rfl)
      | cons x G => exact .inr (.inl ⟨rfl, hG x (by simp)⟩)
end Go.Proofs.YtkkmkjjbffpgnaaDoor
