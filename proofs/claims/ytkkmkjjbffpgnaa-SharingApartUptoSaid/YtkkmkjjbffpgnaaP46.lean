import Derived.Test.YtkkmkjjbffpgnaaP28
import Derived.Test.YtkkmkjjbffpgnaaP08
/- The plain law of SharingRaces: the document's own pairs are those that sharing hands out, in their order. -/
namespace Go.Proofs.Ytkkmkjjbffpgnaa
open Go
def comB (a b : List Int) : Bool := a.any fun x => b.any fun y => decide (x = y)
def rrB (a b : Hit) : Bool := (touchB a.n && touchB b.n) && (decide (a.n.thing = b.n.thing) && ((wrB a.n || wrB b.n) && !comB a.l b.l))
noncomputable def rpairs (u : Unit_) : List (Hit × Hit) := (hitsU u).flatMap fun a => ((hitsU u).filter fun b => decide (a.t < b.t) && rrB a b).map fun b => (a, b)
theorem com_mask {a b : List Int} (ha : ∀ k ∈ a, 0 ≤ k) (hb : ∀ k ∈ b, 0 ≤ k) : (!comB a b) = decide (hMask a &&& hMask b = 0) := by
  rw [Bool.eq_iff_iff, Bool.not_eq_true', decide_eq_true_eq]
  unfold comB
  constructor
  · intro h
    refine Nat.eq_of_testBit_eq fun k => ?_
    rw [Nat.testBit_and, hMask_bit _ ha, hMask_bit _ hb, Nat.zero_testBit, Bool.and_eq_false_iff]
    by_cases hk : isIn a k = true
    · right
      unfold isIn at hk ⊢
      rw [decide_eq_true_eq] at hk
      rw [decide_eq_false_iff_not]
      intro hk2
      rw [List.any_eq_false] at h
      have h1 := h _ hk
      simp only [Bool.not_eq_true, List.any_eq_false, decide_eq_true_eq] at h1
      exact h1 _ hk2 rfl
    · left
      simpa using hk
  · intro h
    rw [List.any_eq_false]
    intro x hx hany
    rw [List.any_eq_true] at hany
    obtain ⟨y, hy, e⟩ := hany
    rw [decide_eq_true_eq] at e
    subst e
    obtain ⟨n, rfl⟩ := Int.eq_ofNat_of_zero_le (ha x hx)
    have := Nat.testBit_and (hMask a) (hMask b) n
    rw [h, hMask_bit _ ha, hMask_bit _ hb, Nat.zero_testBit] at this
    unfold isIn at this
    simp at this
    exact this hx hy
theorem flat_filter {α β : Type} (p : α → Bool) (f : α → List β) : ∀ l : List α, (l.filter p).flatMap f = l.flatMap fun a => if p a = true then f a else []
  | [] => rfl
  | a :: l => by
    by_cases h : p a = true
    · rw [List.filter_cons_of_pos h, List.flatMap_cons, List.flatMap_cons, flat_filter p f l, if_pos h]
    · rw [List.filter_cons_of_neg h, List.flatMap_cons, flat_filter p f l, if_neg h, List.nil_append]
theorem flat_congr {α β : Type} {f g : α → List β} : ∀ {l : List α}, (∀ a ∈ l, f a = g a) → l.flatMap f = l.flatMap g
  | [], _ => rfl
  | a :: l, h => by rw [List.flatMap_cons, List.flatMap_cons, h a (by simp), flat_congr (fun b hb => h b (by simp [hb]))]
theorem raceA_pairs {u : Unit_} (hu : RightU u) : (raceA u).map (fun p => (p.1.1, p.2.1)) = rpairs u := by
  have hl : ∀ h ∈ hitsU u, ∀ k ∈ h.l, 0 ≤ k := fun h hm k hk => ((hit_held hu hm).1 k hk).1
  have key : ∀ T : List Hit, T = (TTa u).map (·.1) → (raceA u).map (fun p => (p.1.1, p.2.1)) = T.flatMap fun a => (T.filter fun b => raceB a b).map fun b => (a, b) := by
    intro T hv
    unfold raceA flatR
    rw [List.map_flatMap, hv, List.flatMap_map]
    refine flat_congr fun a _ => ?_
    unfold innerR
    rw [List.map_map, List.filter_map, List.map_map]
    rfl
  rw [key (TT u) (TTa_val u).symm]
  unfold rpairs TT
  rw [flat_filter]
  refine flat_congr fun a ha => ?_
  by_cases hta : touchB a.n = true
  · rw [if_pos hta, List.filter_filter]
    congr 1
    refine List.filter_congr fun b hb => ?_
    unfold rrB raceB
    rw [com_mask (hl a ha) (hl b hb), hta]
    cases touchB b.n <;> cases decide (a.n.thing = b.n.thing) <;> cases decide (a.t < b.t) <;> simp
  · rw [if_neg hta]
    symm
    rw [List.map_eq_nil_iff, List.filter_eq_nil_iff]
    intro b _ h
    unfold rrB at h
    simp [hta] at h
end Go.Proofs.Ytkkmkjjbffpgnaa
/- The plain law of the reference's Races: what is still to come, wherever its loops stand. -/
namespace Go.Proofs.Ytkkmkjjbffpgnaa
open Go
abbrev Quad := Nat × Nat × Nat × Nat
def qcells (q : Quad) : List Value := [.int .i64 q.1, .int .i64 q.2.1, .int .i64 q.2.2.1, .int .i64 q.2.2.2]
abbrev quadV : CM → List Value → Quad → Prop := fun _ cs q => cs = qcells q
def qd (a b : Hit) : Quad := (a.t, a.i, b.t, b.i)
def rrN (a b : Node) (la lb : List Int) : Bool := (touchB a && touchB b) && (decide (a.thing = b.thing) && ((wrB a || wrB b) && !comB la lb))
theorem rrB_eq (a b : Hit) : rrB a b = rrN a.n b.n a.l b.l := rfl
noncomputable def prs (u : Unit_) (x : Hit) : List Quad := ((hitsU u).filter fun b => decide (x.t < b.t) && rrB x b).map (qd x)
noncomputable def rquads (u : Unit_) : List Quad := (hitsU u).flatMap (prs u)
theorem rquads_pairs (u : Unit_) : (rpairs u).map (fun p => qd p.1 p.2) = rquads u := by
  unfold rpairs rquads prs
  rw [List.map_flatMap]
  congr 1
  funext a
  rw [List.map_map]
  rfl
theorem hits_append : ∀ (l1 l2 : List Graph) (t : Nat), hits t (l1 ++ l2) = hits t l1 ++ hits (t + l1.length) l2
  | [], _, _ => by simp [hits]
  | g :: l1, l2, t => by
    rw [List.cons_append]
    simp only [hits]
    rw [hits_append l1 l2 (t + 1), List.append_assoc, List.length_cons]
    congr 3
    omega
theorem hits_t {l : List Graph} {t : Nat} {h : Hit} (hm : h ∈ hits t l) : t ≤ h.t ∧ h.t < t + l.length := by
  obtain ⟨j, g, e, hg, _⟩ := hits_mem _ _ h hm
  have := (List.getElem?_eq_some_iff.1 hg).1
  omega
theorem hits_late (u : Unit_) (t : Nat) (q : Hit → Bool) : (hitsU u).filter (fun b => decide (t < b.t) && q b) = (hits (t + 1) (u.graphs.drop (t + 1))).filter q := by
  have e : hitsU u = hits 0 (u.graphs.take (t + 1)) ++ hits (0 + (u.graphs.take (t + 1)).length) (u.graphs.drop (t + 1)) := by
    rw [← hits_append, List.take_append_drop]; rfl
  rw [e, List.filter_append]
  have e1 : (hits 0 (u.graphs.take (t + 1))).filter (fun b => decide (t < b.t) && q b) = [] := by
    rw [List.filter_eq_nil_iff]
    intro b hb
    have := hits_t hb
    have h2 : (u.graphs.take (t + 1)).length ≤ t + 1 := List.length_take_le _ _
    have : ¬ t < b.t := by omega
    simp [this]
  rw [e1, List.nil_append]
  by_cases hlt : t + 1 ≤ u.graphs.length
  · have e2 : (u.graphs.take (t + 1)).length = t + 1 := by simp; omega
    rw [e2, Nat.zero_add]
    refine List.filter_congr fun b hb => ?_
    have := (hits_t hb).1
    have : t < b.t := by omega
    simp [this]
  · rw [List.drop_eq_nil_of_le (by omega)]
    rfl
noncomputable def qrest1 (u : Unit_) (a : Nat) : List Quad := (hits a (u.graphs.drop a)).flatMap (prs u)
noncomputable def qrest2 (u : Unit_) (a : Nat) (g : Graph) (i : Nat) : List Quad := (hitsOf a g i (g.nodes.drop i)).flatMap (prs u) ++ qrest1 u (a + 1)
noncomputable def qrest3 (u : Unit_) (x : Hit) (g : Graph) (b : Nat) : List Quad := ((hits b (u.graphs.drop b)).filter (rrB x)).map (qd x) ++ qrest2 u x.t g (x.i + 1)
noncomputable def qrest4 (u : Unit_) (x : Hit) (g : Graph) (b : Nat) (gb : Graph) (j : Nat) : List Quad := ((hitsOf b gb j (gb.nodes.drop j)).filter (rrB x)).map (qd x) ++ qrest3 u x g (b + 1)
theorem qrest1_zero (u : Unit_) : qrest1 u 0 = rquads u := by unfold qrest1 rquads hitsU; rw [List.drop_zero]
theorem qrest1_at {u : Unit_} {a : Nat} {g : Graph} (h : u.graphs[a]? = some g) : qrest1 u a = qrest2 u a g 0 := by
  obtain ⟨h1, h2⟩ := List.getElem?_eq_some_iff.1 h
  unfold qrest1 qrest2
  rw [List.drop_eq_getElem_cons h1, h2, List.drop_zero]
  simp only [hits, List.flatMap_append]
  rfl
theorem qrest1_end {u : Unit_} {a : Nat} (h : u.graphs.length ≤ a) : qrest1 u a = [] := by
  unfold qrest1
  rw [List.drop_eq_nil_of_le h]
  rfl
theorem qrest2_end {u : Unit_} {a : Nat} {g : Graph} {i : Nat} (h : g.nodes.length ≤ i) : qrest2 u a g i = qrest1 u (a + 1) := by
  unfold qrest2
  rw [List.drop_eq_nil_of_le h]
  rfl
theorem qrest2_no {u : Unit_} {a : Nat} {g : Graph} {i : Nat} {n : Node} (hn : g.nodes[i]? = some n) (hr : ¬ ReachC g (-1) i) : qrest2 u a g i = qrest2 u a g (i + 1) := by
  obtain ⟨h1, h2⟩ := List.getElem?_eq_some_iff.1 hn
  unfold qrest2
  rw [List.drop_eq_getElem_cons h1, h2, hitsOf_no hr]
theorem qrest2_yes {u : Unit_} {a : Nat} {g : Graph} {i : Nat} {n : Node} (hn : g.nodes[i]? = some n) (hr : ReachC g (-1) i) : qrest2 u a g i = qrest3 u ⟨a, i, n, heldAt g i⟩ g (a + 1) := by
  obtain ⟨h1, h2⟩ := List.getElem?_eq_some_iff.1 hn
  unfold qrest3 qrest2
  rw [List.drop_eq_getElem_cons h1, h2, hitsOf_yes hr, List.flatMap_cons, List.append_assoc]
  congr 1
  unfold prs
  rw [hits_late u a]
theorem qrest3_end {u : Unit_} {x : Hit} {g : Graph} {b : Nat} (h : u.graphs.length ≤ b) : qrest3 u x g b = qrest2 u x.t g (x.i + 1) := by
  unfold qrest3
  rw [List.drop_eq_nil_of_le h]
  rfl
theorem qrest3_at {u : Unit_} {x : Hit} {g gb : Graph} {b : Nat} (h : u.graphs[b]? = some gb) : qrest3 u x g b = qrest4 u x g b gb 0 := by
  obtain ⟨h1, h2⟩ := List.getElem?_eq_some_iff.1 h
  unfold qrest4 qrest3
  rw [List.drop_eq_getElem_cons h1, h2, List.drop_zero]
  simp only [hits, List.filter_append, List.map_append, List.append_assoc]
theorem qrest4_end {u : Unit_} {x : Hit} {g gb : Graph} {b j : Nat} (h : gb.nodes.length ≤ j) : qrest4 u x g b gb j = qrest3 u x g (b + 1) := by
  unfold qrest4
  rw [List.drop_eq_nil_of_le h]
  rfl
theorem qrest4_no {u : Unit_} {x : Hit} {g gb : Graph} {b j : Nat} {m : Node} (hn : gb.nodes[j]? = some m) (h : ¬ ReachC gb (-1) j ∨ rrB x ⟨b, j, m, heldAt gb j⟩ = false) : qrest4 u x g b gb j = qrest4 u x g b gb (j + 1) := by
  obtain ⟨h1, h2⟩ := List.getElem?_eq_some_iff.1 hn
  unfold qrest4
  rw [List.drop_eq_getElem_cons h1, h2]
  by_cases hr : ReachC gb (-1) j
  · rw [hitsOf_yes hr]
    rcases h with h | h
    · exact absurd hr h
    · rw [List.filter_cons_of_neg (by simpa using h)]
  · rw [hitsOf_no hr]
theorem qrest4_yes {u : Unit_} {x : Hit} {g gb : Graph} {b j : Nat} {m : Node} (hn : gb.nodes[j]? = some m) (hr : ReachC gb (-1) j) (h : rrB x ⟨b, j, m, heldAt gb j⟩ = true) : qrest4 u x g b gb j = qd x ⟨b, j, m, heldAt gb j⟩ :: qrest4 u x g b gb (j + 1) := by
  obtain ⟨h1, h2⟩ := List.getElem?_eq_some_iff.1 hn
  unfold qrest4
  rw [List.drop_eq_getElem_cons h1, h2, hitsOf_yes hr, List.filter_cons_of_pos (by simpa using h)]
  rfl
open Classical in
noncomputable def reachL (g : Graph) : List Bool := (List.range g.nodes.length).map fun i => decide (ReachC g (-1) i)
open Classical in
theorem reachL_eq {g : Graph} {l : List Bool} (hl : l.length = g.nodes.length) (hb : ∀ i : Nat, l[i]? = some true ↔ ReachC g (-1) i) : l = reachL g := by
  refine List.ext_getElem? fun i => ?_
  unfold reachL
  rw [List.getElem?_map]
  by_cases hi : i < g.nodes.length
  · rw [List.getElem?_range hi, List.getElem?_eq_getElem (by omega)]
    simp only [Option.map_some, Option.some.injEq]
    have := hb i
    rw [List.getElem?_eq_getElem (by omega)] at this
    simp only [Option.some.injEq] at this
    rw [Bool.eq_iff_iff, this, decide_eq_true_iff]
  · rw [List.getElem?_eq_none (by omega), List.getElem?_eq_none (by simp; omega)]
    rfl
open Classical in
theorem reachL_at {g : Graph} {i : Nat} (hi : i < g.nodes.length) : (reachL g)[i]? = some (decide (ReachC g (-1) i)) := by
  unfold reachL
  rw [List.getElem?_map, List.getElem?_range hi]
  rfl
theorem reachL_len (g : Graph) : (reachL g).length = g.nodes.length := by unfold reachL; simp
end Go.Proofs.Ytkkmkjjbffpgnaa
