import Derived.Test.YtkkmkjjbffpgnaaDoorP72
import Derived.Test.YtkkmkjjbffpgnaaDoorP46
/- What two threads can do at one time is a race: the plain law of SharingAtOnce. -/
namespace Go.Proofs.YtkkmkjjbffpgnaaDoor
open Go
theorem hitsOf_in {t : Nat} {g : Graph} : ∀ (ns : List Node) (i j : Nat) (n : Node), ns[j]? = some n → ReachC g (-1) (i + j) → ⟨t, i + j, n, heldAt g (i + j)⟩ ∈ hitsOf t g i ns
  | [], _, _, _, h, _ => by simp at h
  | m :: ns, i, 0, n, h, hr => by
    simp at h
    subst h
    rw [Nat.add_zero] at hr ⊢
    rw [hitsOf_yes hr]
    exact List.mem_cons_self ..
  | m :: ns, i, j + 1, n, h, hr => by
    have h' : ns[j]? = some n := by simpa using h
    have hr' : ReachC g (-1) (i + 1 + j) := by rw [show i + 1 + j = i + (j + 1) by omega]; exact hr
    have := hitsOf_in (t := t) ns (i + 1) j n h' hr'
    rw [show i + 1 + j = i + (j + 1) by omega] at this
    by_cases h0 : ReachC g (-1) i
    · rw [hitsOf_yes h0]; exact List.mem_cons_of_mem _ this
    · rw [hitsOf_no h0]; exact this
theorem hits_in : ∀ (gs : List Graph) (t j : Nat) (g : Graph) (i : Nat) (n : Node), gs[j]? = some g → g.nodes[i]? = some n → ReachC g (-1) i → ⟨t + j, i, n, heldAt g i⟩ ∈ hits t gs
  | [], _, _, _, _, _, h, _, _ => by simp at h
  | g0 :: gs, t, 0, g, i, n, h, hn, hr => by
    simp at h
    subst h
    simp only [hits, List.mem_append]
    left
    have := hitsOf_in (t := t) g0.nodes 0 i n hn (by rw [Nat.zero_add]; exact hr)
    rwa [Nat.zero_add] at this
  | g0 :: gs, t, j + 1, g, i, n, h, hn, hr => by
    simp only [hits, List.mem_append]
    right
    have := hits_in gs (t + 1) j g i n (by simpa using h) hn hr
    rwa [show t + 1 + j = t + (j + 1) by omega] at this
theorem once_race {u : Unit_} (hu : RightU u) {m : Mach} (hs : Situ u m) {a b : Nat} (hab : a < b) {g1 g2 : Graph} {i j : Nat} {n1 n2 : Node} (h1 : Stands u m a g1 i n1) (h2 : Stands u m b g2 j n2)
    (ht1 : touchB n1 = true) (ht2 : touchB n2 = true) (hth : n1.thing = n2.thing) (hw : wrB n1 = true ∨ wrB n2 = true) : (a, i, b, j) ∈ rquads u := by
  unfold rquads
  rw [List.mem_flatMap]
  have m1 := hits_in u.graphs 0 a g1 i n1 h1.gr h1.nd (hs.come.reach a g1 i h1.gr h1.pc)
  have m2 := hits_in u.graphs 0 b g2 j n2 h2.gr h2.nd (hs.come.reach b g2 j h2.gr h2.pc)
  rw [Nat.zero_add] at m1 m2
  refine ⟨_, m1, ?_⟩
  unfold prs
  rw [List.mem_map]
  refine ⟨_, List.mem_filter.2 ⟨m2, ?_⟩, rfl⟩
  rw [Bool.and_eq_true, decide_eq_true_eq]
  refine ⟨hab, ?_⟩
  unfold rrB
  simp only [Bool.and_eq_true, decide_eq_true_eq, Bool.or_eq_true, Bool.not_eq_true']
  refine ⟨⟨ht1, ht2⟩, hth, hw, ?_⟩
  cases hq : comB (heldAt g1 i) (heldAt g2 j) with
  | false => rfl
  | true =>
    exfalso
    unfold comB at hq
    rw [List.any_eq_true] at hq
    obtain ⟨x, hx1, hx2⟩ := hq
    rw [List.any_eq_true] at hx2
    obtain ⟨y, hy1, hy2⟩ := hx2
    rw [decide_eq_true_eq] at hy2
    subst hy2
    have hin := heldAt_mem (hu.graphs g1 (List.mem_of_getElem? h1.gr)) i hx1
    obtain ⟨l, rfl⟩ := Int.eq_ofNat_of_zero_le hin.1
    have hl : l < u.locks.length := by have := hin.2; omega
    have e1 := (hs.come.held a g1 i h1.gr h1.pc l hl).1 hx1
    have e2 := (hs.come.held b g2 j h2.gr h2.pc l hl).1 hy1
    rw [e1] at e2
    injection e2 with e2
    omega
end Go.Proofs.YtkkmkjjbffpgnaaDoor
