import Derived.Test.YtkkmkjjbffpgnaaP54
/- The plain law of the owners: joined by threads, or by touches, an owner is the same. -/
namespace Go.Proofs.Ytkkmkjjbffpgnaa
open Go Go.RowKit
theorem join_two : ∀ (L : List Int), (∀ x ∈ L, 0 ≤ x) → L.foldl joinI (-2) = -2
  | [], _ => rfl
  | a :: l, h => by
    have ha : 0 ≤ a := h a List.mem_cons_self
    have e : joinI (-2) a = -2 := by
      unfold joinI
      rw [if_neg (by omega), if_neg (by omega)]
    rw [List.foldl_cons, e]
    exact join_two l fun x hx => h x (List.mem_cons_of_mem _ hx)
theorem join_at : ∀ (L : List Int) (t : Int), 0 ≤ t → (∀ x ∈ L, 0 ≤ x) → ((∀ x ∈ L, x = t) → L.foldl joinI t = t) ∧ ((∃ x ∈ L, x ≠ t) → L.foldl joinI t = -2)
  | [], t, _, _ => ⟨fun _ => rfl, fun ⟨x, hx, _⟩ => by cases hx⟩
  | a :: l, t, ht, h => by
    have hl : ∀ x ∈ l, 0 ≤ x := fun x hx => h x (List.mem_cons_of_mem _ hx)
    rw [List.foldl_cons]
    by_cases e : a = t
    · subst e
      have ej : joinI a a = a := by
        unfold joinI
        rw [if_neg (by omega), if_pos rfl]
      rw [ej]
      obtain ⟨h1, h2⟩ := join_at l a ht hl
      refine ⟨fun hx => h1 fun x hm => hx x (List.mem_cons_of_mem _ hm), ?_⟩
      rintro ⟨x, hm, hne⟩
      rcases List.mem_cons.1 hm with rfl | hm
      · exact absurd rfl hne
      · exact h2 ⟨x, hm, hne⟩
    · have ej : joinI t a = -2 := by
        unfold joinI
        rw [if_neg (by omega), if_neg (fun q => e q.symm)]
      rw [ej]
      exact ⟨fun hx => absurd (hx a List.mem_cons_self) e, fun _ => join_two l hl⟩
theorem join_same {L M : List Int} (hL : ∀ x ∈ L, 0 ≤ x) (hm : ∀ x, x ∈ L ↔ x ∈ M) : L.foldl joinI (-1) = M.foldl joinI (-1) := by
  have hM : ∀ x ∈ M, 0 ≤ x := fun x hx => hL x ((hm x).2 hx)
  have e1 : ∀ a : Int, joinI (-1) a = a := fun a => by unfold joinI; rw [if_pos rfl]
  cases L with
  | nil =>
    cases M with
    | nil => rfl
    | cons b m => exact absurd ((hm b).2 List.mem_cons_self) (by simp)
  | cons a l =>
    cases M with
    | nil => exact absurd ((hm a).1 List.mem_cons_self) (by simp)
    | cons b m =>
      rw [List.foldl_cons, List.foldl_cons, e1, e1]
      have ha := hL a List.mem_cons_self
      have hb := hM b List.mem_cons_self
      obtain ⟨h1, h2⟩ := join_at l a ha fun x hx => hL x (List.mem_cons_of_mem _ hx)
      obtain ⟨h3, h4⟩ := join_at m b hb fun x hx => hM x (List.mem_cons_of_mem _ hx)
      by_cases hall : ∀ x ∈ l, x = a
      · have hba : b = a := by
          rcases List.mem_cons.1 ((hm b).2 List.mem_cons_self) with h | h
          · exact h
          · exact hall b h
        subst hba
        rw [h1 hall]
        refine (h3 fun x hx => ?_).symm
        rcases List.mem_cons.1 ((hm x).2 (List.mem_cons_of_mem _ hx)) with h | h
        · exact h
        · exact hall x h
      · have hex : ∃ x ∈ l, x ≠ a := Classical.byContradiction fun hn => hall fun x hx => Classical.byContradiction fun hne => hn ⟨x, hx, hne⟩
        rw [h2 hex]
        obtain ⟨x, hx, hne⟩ := hex
        refine (h4 ?_).symm
        by_cases hab : a = b
        · rcases List.mem_cons.1 ((hm x).1 (List.mem_cons_of_mem _ hx)) with h | h
          · exact absurd (h.trans hab.symm) hne
          · exact ⟨x, h, fun q => hne (q.trans hab.symm)⟩
        · rcases List.mem_cons.1 ((hm a).1 List.mem_cons_self) with h | h
          · exact absurd h hab
          · exact ⟨a, h, hab⟩
theorem thr_mem {u : Unit_} {p : Node → Bool} (hru : RightU u) (hp : ∀ n, p n = true → touchB n = true) (x y : Int) :
    y ∈ natI (thrTo u p x u.graphs.length) ↔ ∃ h ∈ TT u, p h.n = true ∧ h.n.thing = x ∧ (h.t : Int) = y := by
  unfold natI thrTo
  rw [List.mem_map]
  constructor
  · rintro ⟨t, ht, rfl⟩
    obtain ⟨h1, h2⟩ := List.mem_filter.1 ht
    have htl : t < u.graphs.length := by simpa using h1
    have hg : u.graphs[t]? = some u.graphs[t] := List.getElem?_eq_getElem htl
    rw [hg] at h2
    have h3 : anyN u.graphs[t] (atP p x) = true := h2
    rw [← cntT_any hp hg x, decide_eq_true_iff] at h3
    unfold cntT at h3
    obtain ⟨h, hm⟩ := List.length_pos_iff_exists_mem.1 h3
    obtain ⟨h4, h5⟩ := List.mem_filter.1 hm
    unfold atK at h5
    simp only [Bool.and_eq_true, decide_eq_true_eq] at h5
    exact ⟨h, h4, h5.1, h5.2.2, h5.2.1⟩
  · rintro ⟨h, h1, h2, h3, h4⟩
    obtain ⟨_, -, -, htl⟩ := tt_thing hru ⟨h, h1⟩
    have htl : h.t < u.graphs.length := htl
    have hg : u.graphs[h.t]? = some u.graphs[h.t] := List.getElem?_eq_getElem htl
    refine ⟨h.t, List.mem_filter.2 ⟨by simpa using htl, ?_⟩, h4⟩
    rw [hg]
    show anyN u.graphs[h.t] (atP p x) = true
    rw [← cntT_any hp hg x, decide_eq_true_iff]
    unfold cntT
    refine List.length_pos_iff_exists_mem.2 ⟨h, List.mem_filter.2 ⟨h1, ?_⟩⟩
    unfold atK
    simp [h2, h3]
theorem own_joins {u : Unit_} (hru : RightU u) (x : Nat) : (touF u x).2.foldl joinI ((touF u x).1.foldl joinI (-1)) = ownFold (TT u) (x : Int) := by
  have hf : ownFold (TT u) (x : Int) = (((TT u).filter (fun h => decide (h.n.thing = (x : Int)))).map fun h => (h.t : Int)).foldl joinI (-1) := by
    unfold ownFold
    rw [List.foldl_map]
    congr 1
    funext o h
    unfold ownStep joinI
    by_cases h1 : o = -1
    · rw [if_pos h1, if_pos h1]
    · rw [if_neg h1, if_neg h1]
      by_cases h2 : o = (h.t : Int)
      · rw [if_pos h2, if_pos h2, h2]
      · rw [if_neg h2, if_neg h2]
  rw [hf, ← List.foldl_append]
  have hr : ∀ n, rdB n = true → touchB n = true := fun n h => by rw [touch_rw, h]; rfl
  have hw : ∀ n, wrB n = true → touchB n = true := fun n h => by rw [touch_rw, h]; simp
  refine join_same ?_ ?_
  · intro y hy
    unfold touF at hy
    rcases List.mem_append.1 hy with h | h
    · obtain ⟨_, _, _, _, rfl⟩ := (thr_mem hru hr _ _).1 h
      omega
    · obtain ⟨_, _, _, _, rfl⟩ := (thr_mem hru hw _ _).1 h
      omega
  · intro y
    unfold touF
    rw [List.mem_append, thr_mem hru hr, thr_mem hru hw, List.mem_map]
    constructor
    · rintro (⟨h, h1, h2, h3, h4⟩ | ⟨h, h1, h2, h3, h4⟩)
      · exact ⟨h, List.mem_filter.2 ⟨h1, by simpa using h3⟩, h4⟩
      · exact ⟨h, List.mem_filter.2 ⟨h1, by simpa using h3⟩, h4⟩
    · rintro ⟨h, h1, h4⟩
      obtain ⟨h2, h3⟩ := List.mem_filter.1 h1
      have h3 : h.n.thing = (x : Int) := by simpa using h3
      have ht : touchB h.n = true := by
        unfold TT at h2
        exact (List.mem_filter.1 h2).2
      rw [touch_rw, Bool.or_eq_true] at ht
      rcases ht with ht | ht
      · exact .inl ⟨h, h2, ht, h3, h4⟩
      · exact .inr ⟨h, h2, ht, h3, h4⟩
/-- Of each variable, joined by threads. -/
noncomputable def ownRef (u : Unit_) : List Int := (List.range u.shared.length).map fun x : Nat => (touF u x).2.foldl joinI ((touF u x).1.foldl joinI (-1))
theorem ownRef_is {u : Unit_} (hru : RightU u) : ownRef u = ownList u.shared.length (TT u) := by
  unfold ownRef ownList
  exact List.map_congr_left fun x _ => own_joins hru x
end Go.Proofs.Ytkkmkjjbffpgnaa
