import Derived.Test.YtkkmkjjbffpgnaaP09
import Derived.Test.YtkkmkjjbffpgnaaP05
import Derived.Deep.RegionHeld3
import Derived.StillTailTactics
import Derived.Test.YtkkmkjjbffpgnaaP08
import Derived.RangeFuncNested
import Derived.RangeFuncBound
import Derived.RangeFuncCalls
import Derived.RangeFuncLeaves
import Derived.Shelf.Abstract
import Derived.Shelf.RegionOpen
import Derived.OwnWalkIn
import Derived.TacticsInMore
import Derived.LoopNIn
import Derived.LoopIn
/- Laws of single operations inside a fence: a struct loaded from anywhere, an append of one element. -/
namespace Go.Proofs.Ytkkmkjjbffpgnaa
open Go Go.RowKit Go.Shelf
section
variable {F : Fence} {n : Nat} {P : Program}
theorem wpListIn_load_at {ops : Array Oper} {rest : List Oper} {o : Oper} {a : Act} {w : World} {Q : Exit → Act → World → Prop} (hgd : o.guard = none) (ty : TypeId) (x : Operand) (ho : o.op = .load ty x)
    (b f : Nat) (hx : a.eval x = .pointer (some ⟨b, f, none⟩)) (cs : List Value) (d : TypeDesc) (hc : ∀ j v, cs[j]? = some v → w.cell? ⟨b, f + j, none⟩ = some v)
    (hu : P.underlying ty = some d) (hd : isRowType d = true) (hi : (P.info? ty).map (·.size) = some cs.length)
    (h : wpListIn F n P ops Q rest (a.put o.dst (.agg cs.toArray)) w) : wpListIn F n P ops Q (o :: rest) a w := by
  refine wpListIn_plain hgd fun K hK => ?_
  unfold Oper.wpIn
  refine ⟨?_, ?_⟩
  · simp [Oper.about, ho]
  · rw [Oper.semAt_plain F _ _ (by rw [ho]; intro c hc'; cases hc')]
    unfold execOp
    simp only [ho, hx, Instr.loadAt, Instr.sureAddr, Sem.run_bind, Sem.run_pure, Result.andThen_ok, run_loadVar_at w b f ty cs d hc hu hd hi]
    exact hK _ _ h
end
end Go.Proofs.Ytkkmkjjbffpgnaa
/- The plain law of layer 9: the touches of a unit, in their order. -/
namespace Go.Proofs.Ytkkmkjjbffpgnaa
open Go
def rdB (n : Node) : Bool := decide (n.kind = 2 ∨ n.kind = 4)
def wrB (n : Node) : Bool := decide (n.kind = 3 ∨ n.kind = 4)
theorem touch_rw (n : Node) : touchB n = (rdB n || wrB n) := by
  unfold touchB rdB wrB
  rw [Bool.eq_iff_iff]
  simp
  omega
/-- The touches of a unit. -/
noncomputable def TT (u : Unit_) : List Hit := (hitsU u).filter (fun h => touchB h.n)
def tchCells (h : Hit) : List Value := [.int .i64 h.t, .int .i64 h.i, .int .i64 h.n.thing, .bool (rdB h.n), .bool (wrB h.n), .int .u32 (hMask h.l : Nat)]
/-- A touch of the unit. -/
abbrev Tch (u : Unit_) := { h : Hit // h ∈ TT u }
noncomputable def TTa (u : Unit_) : List (Tch u) := (TT u).attach
theorem TTa_val (u : Unit_) : (TTa u).map (·.1) = TT u := by unfold TTa; simp
theorem TTa_length (u : Unit_) : (TTa u).length = (TT u).length := by unfold TTa; simp
noncomputable def trest1 (u : Unit_) (t : Nat) : List Hit := (hits t (u.graphs.drop t)).filter (fun h => touchB h.n)
noncomputable def trest2 (u : Unit_) (t : Nat) (g : Graph) (i : Nat) : List Hit := (hitsOf t g i (g.nodes.drop i)).filter (fun h => touchB h.n) ++ trest1 u (t + 1)
theorem trest1_zero (u : Unit_) : trest1 u 0 = TT u := by unfold trest1 TT hitsU; rw [List.drop_zero]
theorem trest1_at {u : Unit_} {t : Nat} {g : Graph} (h : u.graphs[t]? = some g) : trest1 u t = trest2 u t g 0 := by
  obtain ⟨h1, h2⟩ := List.getElem?_eq_some_iff.1 h
  unfold trest1 trest2
  rw [List.drop_eq_getElem_cons h1, h2, List.drop_zero]
  simp only [hits, List.filter_append]
  rfl
theorem trest1_end {u : Unit_} {t : Nat} (h : u.graphs.length ≤ t) : trest1 u t = [] := by
  unfold trest1
  rw [List.drop_eq_nil_of_le h]
  rfl
theorem trest2_end {u : Unit_} {t : Nat} {g : Graph} {i : Nat} (h : g.nodes.length ≤ i) : trest2 u t g i = trest1 u (t + 1) := by
  unfold trest2
  rw [List.drop_eq_nil_of_le h]
  rfl
theorem trest2_yes {u : Unit_} {t : Nat} {g : Graph} {i : Nat} {n : Node} (hn : g.nodes[i]? = some n) (hr : ReachC g (-1) i) (ht : touchB n = true) : trest2 u t g i = ⟨t, i, n, heldAt g i⟩ :: trest2 u t g (i + 1) := by
  obtain ⟨h1, h2⟩ := List.getElem?_eq_some_iff.1 hn
  unfold trest2
  rw [List.drop_eq_getElem_cons h1, h2, hitsOf_yes hr, List.filter_cons_of_pos (by simpa using ht)]
  rfl
theorem trest2_no {u : Unit_} {t : Nat} {g : Graph} {i : Nat} {n : Node} (hn : g.nodes[i]? = some n) (h : ¬ ReachC g (-1) i ∨ touchB n = false) : trest2 u t g i = trest2 u t g (i + 1) := by
  obtain ⟨h1, h2⟩ := List.getElem?_eq_some_iff.1 hn
  unfold trest2
  rw [List.drop_eq_getElem_cons h1, h2]
  by_cases hr : ReachC g (-1) i
  · rw [hitsOf_yes hr]
    rcases h with h | h
    · exact absurd hr h
    · rw [List.filter_cons_of_neg (by simpa using h)]
  · rw [hitsOf_no hr]
theorem map_split {α β : Type} {f : α → β} {l : List α} {xs : List β} {y : β} {ys : List β} (h : l.map f = xs ++ y :: ys) : ∃ p x q, l = p ++ x :: q ∧ p.map f = xs ∧ f x = y ∧ q.map f = ys := by
  obtain ⟨p, q0, h1, h2, h3⟩ := List.map_eq_append_iff.1 h
  obtain ⟨x, q, h4, h5, h6⟩ := List.map_eq_cons_iff.1 h3
  exact ⟨p, x, q, by rw [h1, h4], h2, h5, h6⟩
/-- What has come, what is to come. -/
def Come (u : Unit_) (pre : List (Tch u)) (rest : List Hit) : Prop := ∃ q, TTa u = pre ++ q ∧ q.map (·.1) = rest
theorem Come.start (u : Unit_) : Come u [] (TT u) := ⟨_, rfl, TTa_val u⟩
theorem Come.next {u : Unit_} {pre : List (Tch u)} {h : Hit} {rest : List Hit} (hc : Come u pre (h :: rest)) : ∃ x : Tch u, x.1 = h ∧ pre.length < (TTa u).length ∧ Come u (pre ++ [x]) rest := by
  obtain ⟨q, h1, h2⟩ := hc
  obtain ⟨x, q', rfl, h4, h5⟩ := List.map_eq_cons_iff.1 h2
  exact ⟨x, h4, by rw [h1]; simp, q', by rw [h1]; simp, h5⟩
theorem Come.end_ {u : Unit_} {pre : List (Tch u)} (hc : Come u pre []) : pre = TTa u := by
  obtain ⟨q, h1, h2⟩ := hc
  rw [List.map_eq_nil_iff] at h2
  rw [h1, h2, List.append_nil]
theorem Come.pre {u : Unit_} {pre : List (Tch u)} {rest : List Hit} (hc : Come u pre rest) : pre <+: TTa u := by
  obtain ⟨q, h1, _⟩ := hc
  exact ⟨q, h1.symm⟩
end Go.Proofs.Ytkkmkjjbffpgnaa
/- The plain law of races: the pairs of touches that may be done at one time. -/
namespace Go.Proofs.Ytkkmkjjbffpgnaa
open Go
def raceB (a b : Hit) : Bool := decide (a.n.thing = b.n.thing) && (decide (a.t < b.t) && ((wrB a.n || wrB b.n) && decide (hMask a.l &&& hMask b.l = 0)))
abbrev Rc (u : Unit_) := Tch u × Tch u
def innerR {u : Unit_} (a : Tch u) (l : List (Tch u)) : List (Rc u) := (l.filter (fun b => raceB a.1 b.1)).map (fun b => (a, b))
noncomputable def flatR {u : Unit_} (l : List (Tch u)) : List (Rc u) := l.flatMap (fun a => innerR a (TTa u))
noncomputable def raceA (u : Unit_) : List (Rc u) := flatR (TTa u)
theorem innerR_nil {u : Unit_} (a : Tch u) : innerR a [] = [] := rfl
theorem innerR_snoc {u : Unit_} (a b : Tch u) (l : List (Tch u)) : innerR a (l ++ [b]) = if raceB a.1 b.1 = true then innerR a l ++ [(a, b)] else innerR a l := by
  unfold innerR
  rw [List.filter_append, List.map_append]
  by_cases h : raceB a.1 b.1 = true
  · simp [h]
  · simp [h]
theorem innerR_length {u : Unit_} (a : Tch u) (l : List (Tch u)) : (innerR a l).length ≤ l.length := by
  unfold innerR
  rw [List.length_map]
  exact List.length_filter_le _ _
theorem innerR_prefix {u : Unit_} (a : Tch u) {l m : List (Tch u)} (h : l <+: m) : innerR a l <+: innerR a m := by
  obtain ⟨q, rfl⟩ := h
  unfold innerR
  rw [List.filter_append, List.map_append]
  exact List.prefix_append _ _
theorem flatR_nil {u : Unit_} : flatR ([] : List (Tch u)) = [] := rfl
theorem flatR_snoc {u : Unit_} (l : List (Tch u)) (a : Tch u) : flatR (l ++ [a]) = flatR l ++ innerR a (TTa u) := by simp [flatR]
theorem flatR_length {u : Unit_} (l : List (Tch u)) : (flatR l).length ≤ l.length * (TTa u).length := by
  induction l with
  | nil => simp [flatR]
  | cons a l ih =>
    have h := innerR_length a (TTa u)
    unfold flatR at *
    rw [List.flatMap_cons, List.length_append, List.length_cons, Nat.succ_mul]
    omega
theorem flatR_prefix {u : Unit_} {l m : List (Tch u)} (h : l <+: m) : flatR l <+: flatR m := by
  obtain ⟨q, rfl⟩ := h
  unfold flatR
  rw [List.flatMap_append]
  exact List.prefix_append _ _
theorem count_lt {m a b : Nat} (ha : a < m) (hb : b < m) : a * m + b < m * m := by
  have h1 : (a + 1) * m ≤ m * m := Nat.mul_le_mul_right m ha
  rw [Nat.succ_mul] at h1
  omega
end Go.Proofs.Ytkkmkjjbffpgnaa
