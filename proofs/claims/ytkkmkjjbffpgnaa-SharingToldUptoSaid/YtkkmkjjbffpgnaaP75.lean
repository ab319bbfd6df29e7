import Derived.Test.YtkkmkjjbffpgnaaP72
import Derived.Test.YtkkmkjjbffpgnaaP78
/- What a step touches was told: the plain law of SharingTold. -/
namespace Go.Proofs.Ytkkmkjjbffpgnaa
open Go
theorem joins_keep {t : Int} : ∀ (l : List Int) (o : Int), (o = t ∨ o = -2) → 0 ≤ t → l.foldl joinI o = t ∨ l.foldl joinI o = -2
  | [], _, h, _ => h
  | x :: l, o, h, ht => by
    rw [List.foldl_cons]
    refine joins_keep l _ ?_ ht
    unfold joinI
    rcases h with rfl | rfl
    · rw [if_neg (by omega)]
      split
      · exact .inl ‹o = x›.symm
      · exact .inr rfl
    · rw [if_neg (by omega)]
      split
      · right; symm; assumption
      · exact .inr rfl
theorem joins_mem {t : Int} (ht : 0 ≤ t) : ∀ (l : List Int) (o : Int), t ∈ l → l.foldl joinI o = t ∨ l.foldl joinI o = -2
  | x :: l, o, h => by
    rw [List.foldl_cons]
    by_cases hx : x = t
    · subst hx
      refine joins_keep l _ ?_ ht
      unfold joinI
      split
      · exact .inl rfl
      · split
        · exact .inl rfl
        · exact .inr rfl
    · rcases List.mem_cons.1 h with e | e
      · exact absurd e.symm hx
      · exact joins_mem ht l _ e
theorem own_told {u : Unit_} {x : Nat} (hx : x < u.shared.length) {t : Int} (ht : 0 ≤ t) (h : t ∈ (touF u x).1 ∨ t ∈ (touF u x).2) : ∃ o, (ownRef u)[x]? = some o ∧ (o = t ∨ o = -2) := by
  refine ⟨_, by unfold ownRef; rw [List.getElem?_map, List.getElem?_range hx]; rfl, ?_⟩
  rcases h with h | h
  · exact joins_keep _ _ (joins_mem ht _ _ h) ht
  · exact joins_mem ht _ _ h
theorem thr_told {u : Unit_} {p : Node → Bool} {t : Nat} {g : Graph} {i : Nat} {n : Node} (hg : u.graphs[t]? = some g) (hn : g.nodes[i]? = some n) (hr : ReachC g (-1) i) (hp : p n = true) : (t : Int) ∈ natI (thrTo u p n.thing u.graphs.length) := by
  unfold natI thrTo
  rw [List.mem_map]
  refine ⟨t, List.mem_filter.2 ⟨List.mem_range.2 (List.getElem?_eq_some_iff.1 hg).1, ?_⟩, rfl⟩
  rw [hg]
  simp only [Option.map_some, Option.getD_some]
  exact anyN_yes hn hr (by unfold atP; rw [hp]; simp)
/-- What a step touches. -/
theorem told_step {u : Unit_} (hu : RightU u) {m : Mach} (hs : Situ u m) {t : Int} (hb0 : barF u m t = 0) :
    ((stepD u m t).kind = 2 ∨ (stepD u m t).kind = 3 ∨ (stepD u m t).kind = 4 → 0 ≤ t ∧ ∃ k : Nat, (stepD u m t).thing = k ∧ k < u.shared.length ∧
      ((stepD u m t).kind ≠ 3 → t ∈ (touF u k).1) ∧ ((stepD u m t).kind ≠ 2 → t ∈ (touF u k).2)) := by
  obtain ⟨t, rfl, ht⟩ := bar_out hs.ok (by rw [hb0]; decide)
  obtain ⟨g, i, n, hst⟩ := stands_at hs.ok ht
  rw [hst.bar hs.ok] at hb0
  rw [hst.did hs.ok hb0]
  have hg := hu.graphs g (List.mem_of_getElem? hst.gr)
  have hnF := ndF (hg.nodes n (List.mem_of_getElem? hst.nd))
  have hr := hs.come.reach t g i hst.gr hst.pc
  have hkd : ∀ d : Did, (actD m t n d).kind = d.kind := fun d => by
    unfold actD
    repeat' split
    all_goals rfl
  rw [hkd]
  dsimp only
  intro hk
  obtain ⟨h0, h1⟩ := hnF.var hk
  obtain ⟨k, hkk⟩ := Int.eq_ofNat_of_zero_le h0
  refine ⟨by omega, k, ?_, by omega, fun h => ?_, fun h => ?_⟩
  · rw [← hkk]
    unfold actD
    rcases hk with h | h | h <;> simp [h]
  · have := thr_told (p := rdB) hst.gr hst.nd hr (by unfold rdB; rw [decide_eq_true_eq]; omega)
    unfold touF
    rwa [hkk] at this
  · have := thr_told (p := wrB) hst.gr hst.nd hr (by unfold wrB; rw [decide_eq_true_eq]; omega)
    unfold touF
    rwa [hkk] at this
end Go.Proofs.Ytkkmkjjbffpgnaa
