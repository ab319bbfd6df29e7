import Derived.Test.YtmkpjiahkepigaaGreatP09
/- The plain law of layer 9: the touches of a unit, in their order. -/
namespace Go.Proofs.YtmkpjiahkepigaaGreat
open Go
def rdB (n : Node) : Bool := decide (n.kind = 2 ∨ n.kind = 4)
def wrB (n : Node) : Bool := decide (n.kind = 3 ∨ n.kind = 4)
theorem touch_rw (n : Node) : touchB n = (rdB n || wrB n) := by
  unfold touchB rdB wrB
  rw [Bool.eq_iff_iff]
  simp
  omega
/-- The touches of a unit. -/
noncomputable def TT (u : Unit_) : List Hit := (hitsU u).filter (fun h => touchB h.n)
def tchCells (h : Hit) : List Value := [.int .i64 h.t, .int .i64 h.i, .int .i64 h.n.thing, .bool (rdB h.n), .bool (wrB h.n), .int .u32 (hMask h.l : Nat)]
/-- A touch of the unit. -/
abbrev Tch (u : Unit_) := { h : Hit // h ∈ TT u }
noncomputable def TTa (u : Unit_) : List (Tch u) := (TT u).attach
theorem TTa_val (u : Unit_) : (TTa u).map (·.1) = TT u := by unfold TTa; simp
theorem TTa_length (u : Unit_) : (TTa u).length = (TT u).length := by unfold TTa; simp
noncomputable def trest1 (u : Unit_) (t : Nat) : List Hit := (hits t (u.graphs.drop t)).filter (fun h => touchB h.n)
noncomputable def trest2 (u : Unit_) (t : Nat) (g : Graph) (i : Nat) : List Hit := (hitsOf t g i (g.nodes.drop i)).filter (fun h => touchB h.n) ++ trest1 u (t + 1)
theorem trest1_zero (u : Unit_) : trest1 u 0 = TT u := by unfold trest1 TT hitsU; rw [List.drop_zero]
theorem trest1_at {u : Unit_} {t : Nat} {g : Graph} (h : u.graphs[t]? = some g) : trest1 u t = trest2 u t g 0 := by
  obtain ⟨h1, h2⟩ := List.getElem?_eq_some_iff.1 h
  unfold trest1 trest2
  rw [List.drop_eq_getElem_cons h1, h2, List.drop_zero]
  simp only [hits, List.filter_append]
  rfl
theorem trest1_end {u : Unit_} {t : Nat} (h : u.graphs.length ≤ t) : trest1 u t = [] := by
  unfold trest1
  rw [List.drop_eq_nil_of_le h]
  rfl
theorem trest2_end {u : Unit_} {t : Nat} {g : Graph} {i : Nat} (h : g.nodes.length ≤ i) : trest2 u t g i = trest1 u (t + 1) := by
  unfold trest2
  rw [List.drop_eq_nil_of_le h]
  rfl
theorem trest2_yes {u : Unit_} {t : Nat} {g : Graph} {i : Nat} {n : Node} (hn : g.nodes[i]? = some n) (hr : ReachC g (-1) i) (ht : touchB n = true) : trest2 u t g i = ⟨t, i, n, heldAt g i⟩ :: trest2 u t g (i + 1) := by
  obtain ⟨h1, h2⟩ := List.getElem?_eq_some_iff.1 hn
  unfold trest2
  rw [List.drop_eq_getElem_cons h1, h2, hitsOf_yes hr, List.filter_cons_of_pos (by simpa using ht)]
  rfl
theorem trest2_no {u : Unit_} {t : Nat} {g : Graph} {i : Nat} {n : Node} (hn : g.nodes[i]? = some n) (h : ¬ ReachC g (-1) i ∨ touchB n = false) : trest2 u t g i = trest2 u t g (i + 1) := by
  obtain ⟨h1, h2⟩ := List.getElem?_eq_some_iff.1 hn
  unfold trest2
  rw [List.drop_eq_getElem_cons h1, h2]
  by_cases hr : ReachC g (-1) i
  · rw [hitsOf_yes hr]
    rcases h with h | h
    · exact absurd hr h
    · rw [List.filter_cons_of_neg (by simpa using h)]
  · rw [hitsOf_no hr]
theorem map_split {α β : Type} {f : α → β} {l : List α} {xs : List β} {y : β} {ys : List β} (h : l.map f = xs ++ y :: ys) : ∃ p x q, l = p ++ x :: q ∧ p.map f = xs ∧ f x = y ∧ q.map f = ys := by
  obtain ⟨p, q0, h1, h2, h3⟩ := List.map_eq_append_iff.1 h
  obtain ⟨x, q, h4, h5, h6⟩ := List.map_eq_cons_iff.1 h3
  exact ⟨p, x, q, by rw [h1, h4], h2, h5, h6⟩
/-- What has come, what is to come. -/
def Come (u : Unit_) (pre : List (Tch u)) (rest : List Hit) : Prop := ∃ q, TTa u = pre ++ q ∧ q.map (·.1) = rest
theorem Come.start (u : Unit_) : Come u [] (TT u) := ⟨_, rfl, TTa_val u⟩
theorem Come.next {u : Unit_} {pre : List (Tch u)} {h : Hit} {rest : List Hit} (hc : Come u pre (h :: rest)) : ∃ x : Tch u, x.1 = h ∧ pre.length < (TTa u).length ∧ Come u (pre ++ [x]) rest := by
  obtain ⟨q, h1, h2⟩ := hc
  obtain ⟨x, q', rfl, h4, h5⟩ := List.map_eq_cons_iff.1 h2
  exact ⟨x, h4, by rw [h1]; simp, q', by rw [h1]; simp, h5⟩
theorem Come.end_ {u : Unit_} {pre : List (Tch u)} (hc : Come u pre []) : pre = TTa u := by
  obtain ⟨q, h1, h2⟩ := hc
  rw [List.map_eq_nil_iff] at h2
  rw [h1, h2, List.append_nil]
theorem Come.pre {u : Unit_} {pre : List (Tch u)} {rest : List Hit} (hc : Come u pre rest) : pre <+: TTa u := by
  obtain ⟨q, h1, _⟩ := hc
  exact ⟨q, h1.symm⟩
end Go.Proofs.YtmkpjiahkepigaaGreat
