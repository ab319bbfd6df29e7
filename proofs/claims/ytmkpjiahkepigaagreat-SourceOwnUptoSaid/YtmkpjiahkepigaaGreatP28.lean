import Derived.Test.YtmkpjiahkepigaaGreatP09
/- The plain law of layer 9: the touches of a unit, in their order. -/
namespace Go.Proofs.YtmkpjiahkepigaaGreat
open Go
def rdB (n : Node) : Bool := decide (n.kind = 2 ∨ n.kind = 4)
def wrB (n : Node) : Bool := decide (n.kind = 3 ∨ n.kind = 4)
/-- The touches of a unit. -/
noncomputable def TT (u : Unit_) : List Hit := (hitsU u).filter (fun h => touchB h.n)
/-- A touch of the unit. -/
abbrev Tch (u : Unit_) := { h : Hit // h ∈ TT u }
noncomputable def TTa (u : Unit_) : List (Tch u) := (TT u).attach
theorem TTa_val (u : Unit_) : (TTa u).map (·.1) = TT u := by unfold TTa; simp
/-- What has come, what is to come. -/
def Come (u : Unit_) (pre : List (Tch u)) (rest : List Hit) : Prop := ∃ q, TTa u = pre ++ q ∧ q.map (·.1) = rest
theorem Come.start (u : Unit_) : Come u [] (TT u) := ⟨_, rfl, TTa_val u⟩
theorem Come.next {u : Unit_} {pre : List (Tch u)} {h : Hit} {rest : List Hit} (hc : Come u pre (h :: rest)) : ∃ x : Tch u, x.1 = h ∧ pre.length < (TTa u).length ∧ Come u (pre ++ [x]) rest := by
  obtain ⟨q, h1, h2⟩ := hc
  obtain ⟨x, q', rfl, h4, h5⟩ := List.map_eq_cons_iff.1 h2
  exact ⟨x, h4, by rw [h1]; simp, q', by rw [h1]; simp, h5⟩
theorem Come.pre {u : Unit_} {pre : List (Tch u)} {rest : List Hit} (hc : Come u pre rest) : pre <+: TTa u := by
  obtain ⟨q, h1, _⟩ := hc
  exact ⟨q, h1.symm⟩
end Go.Proofs.YtmkpjiahkepigaaGreat
