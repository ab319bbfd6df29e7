import Derived.Test.YtkkmkjjbffpgnaaP86
import Derived.Test.YtkkmkjjbffpgnaaP40
import Derived.Test.YtkkmkjjbffpgnaaP09
/- What a node touches, as the law SourceAside reckons it; two that touch unlike things. -/
namespace Go.Proofs.Ytkkmkjjbffpgnaa
open Go Go.RowKit
def touchI (n : Node) : Int := if n.kind = 2 ∨ n.kind = 3 ∨ n.kind = 4 then n.thing + 1 else if n.kind = 5 ∨ n.kind = 6 then -n.thing - 1 else 0
set_option maxRecDepth 100000 in
set_option maxHeartbeats 2000000 in
theorem touches7_calls (n : Node) (w : World) (h0 : 0 ≤ n.thing) (h1 : n.thing ≤ 1000000) :
    Calls Try.prog 31 #[.agg n.cells.toArray] w fun e w' => e = .returned (.int .i64 (touchI n)) ∧ Below w.heap.size w w' := by
  obtain ⟨r, hr⟩ : ∃ r, touchI n = r := ⟨_, rfl⟩
  rw [hr]
  unfold touchI at hr
  obtain ⟨nk, nop, nsl, nth, ⟨a1, a2, a3⟩, ⟨b1, b2, b3⟩, nn, ne_, no⟩ := n
  simp only at hr h0 h1
  unfold Node.cells
  have hB := Lib.hid (Below_alloc' w (.cells #[.int .u8 nk, .int .u8 nop, .int .i64 nsl, .int .i64 nth, .bool a1, .int .i64 a2, .int .i64 a3, .bool b1, .int .i64 b2, .int .i64 b3, .int .i64 nn, .int .i64 ne_, .int .i64 no] 67))
  by_cases hk : nk = 2 ∨ nk = 3 ∨ nk = 4
  · rw [if_pos hk] at hr
    subst hr
    rcases hk with rfl | rfl | rfl
    all_goals (
      go_enter Try.func31, Try.ntmps31
      go_wp2
      go_ret
      refine ⟨?_, hB.out⟩
      first | rfl | go_num)
  · rw [if_neg hk] at hr
    by_cases h5 : nk = 5 ∨ nk = 6
    · rw [if_pos h5] at hr
      subst hr
      rcases h5 with rfl | rfl
      all_goals (
        go_enter Try.func31, Try.ntmps31
        go_wp2
        go_ret
        refine ⟨?_, hB.out⟩
        first | rfl | go_num)
    · rw [if_neg h5] at hr
      subst hr
      have q2 : (nk == 2) = false := by simp; omega
      have q3 : (nk == 3) = false := by simp; omega
      have q4 : (nk == 4) = false := by simp; omega
      have q5 : (nk == 5) = false := by simp; omega
      have q6 : (nk == 6) = false := by simp; omega
      go_enter Try.func31, Try.ntmps31
      go_wp2
      go_ret
      exact ⟨rfl, hB.out⟩
theorem thing_in {u : Unit_} (hu : RightU u) {m : Mach} {a : Nat} {g : Graph} {i : Nat} {x : Node} (h : Stands u m a g i x) : 0 ≤ x.thing ∧ x.thing ≤ 1000000 := by
  have n1 := ndF ((hu.graphs g (List.mem_of_getElem? h.gr)).nodes x (List.mem_of_getElem? h.nd))
  have := hu.shared
  have := hu.locks
  by_cases h2 : x.kind = 2 ∨ x.kind = 3 ∨ x.kind = 4
  · have := n1.var h2; omega
  · by_cases h5 : x.kind = 5 ∨ x.kind = 6
    · have := n1.lock h5; omega
    · have := n1.kind
      have := n1.thing0 (by omega)
      omega
/-- Two that touch unlike things, of which one at most prints, are nothing to one another. -/
theorem aside_off {u : Unit_} (hu : RightU u) {m : Mach} {a b : Nat} {g1 g2 : Graph} {i j : Nat} {x y : Node} (h1 : Stands u m a g1 i x) (h2 : Stands u m b g2 j y) (ht : ¬ (touchI x = touchI y ∧ touchI x ≠ 0)) (hp : ¬ (x.kind = 7 ∧ y.kind = 7)) : Off x y := by
  have t1 := thing_in hu h1
  have t2 := thing_in hu h2
  have tch : ∀ {n : Node}, touchB n = true → n.kind = 2 ∨ n.kind = 3 ∨ n.kind = 4 := fun {n} h => by unfold touchB at h; simpa using h
  have wtch : ∀ {n : Node}, wrB n = true → n.kind = 2 ∨ n.kind = 3 ∨ n.kind = 4 := fun {n} h => by unfold wrB at h; have := of_decide_eq_true h; omega
  have tv : ∀ {n : Node}, (n.kind = 2 ∨ n.kind = 3 ∨ n.kind = 4) → touchI n = n.thing + 1 := fun {n} h => by unfold touchI; rw [if_pos h]
  have tl : ∀ {n : Node}, (n.kind = 5 ∨ n.kind = 6) → touchI n = -n.thing - 1 := fun {n} h => by unfold touchI; rw [if_neg (by omega), if_pos h]
  refine ⟨fun w1 w2 e => ht ?_, fun w2 w1 e => ht ?_, fun k1 k2 e => ht ?_, hp⟩
  · rw [tv (wtch w1), tv (tch w2)]; omega
  · rw [tv (wtch w2), tv (tch w1)]; omega
  · rw [tl k1, tl k2]; omega
def gv (g : Bool) (v : Value) : Value := if g then v else undef
theorem gv_true {g : Bool} {v : Value} (h : g = true) : gv g v = v := by subst h; rfl
theorem gv_false {g : Bool} {v : Value} (h : ¬ g = true) : gv g v = undef := by unfold gv; rw [if_neg h]
theorem unwanted_g {ops : Array Oper} {o : Oper} {a : Act} {j d : Nat} {b : Bool} (hg : o.guard = some (j, b)) (hd : (ops[j]?).bind (·.dst) = some d) (hv : a.eval (.tmp d) ≠ .bool b) : ¬ Region.wanted o (yielded ops a.tmps) = true := by
  intro hw
  apply hv
  unfold Region.wanted at hw
  rw [hg] at hw
  simp only [yielded, hd, Option.bind_some] at hw
  simp only [Act.eval]
  rw [Array.getD_eq_getD_getElem?]
  cases h : a.tmps[d]? with
  | none => rw [h] at hw; simp at hw
  | some v =>
    rw [h] at hw
    cases v <;> simp at hw ⊢
    exact hw
theorem step_no_g {P : Program} {ops : Array Oper} {Q : Exit → Act → World → Prop} {o : Oper} {a : Act} {w : World} {K : Act → World → Prop} {E : Prop} {j d : Nat} {b : Bool} (hg : o.guard = some (j, b)) (hd : (ops[j]?).bind (·.dst) = some d) (hv : a.eval (.tmp d) ≠ .bool b) (h : E) : if Region.wanted o (yielded ops a.tmps) = true then o.wp P a w K Q else E := by
  rw [if_neg (unwanted_g hg hd hv)]
  exact h
theorem g1_no {v : Value} {p : Bool} (h : v = .bool p) (hG : ¬ p = true) : v ≠ .bool true := by subst h; intro e; injection e with e; exact hG e
theorem g1_yes {v : Value} {p : Bool} (h : v = .bool p) (hG : p = true) : v = .bool true := by subst h hG; rfl
theorem g2_no {v : Value} {p : Bool} (h : v = .bool p) (hG : ¬ (!p) = true) : v ≠ .bool false := by subst h; intro e; injection e with e; exact hG (by rw [e]; rfl)
theorem g2_yes {v : Value} {p : Bool} (h : v = .bool p) (hG : (!p) = true) : v = .bool false := by subst h; rw [Bool.not_eq_true'] at hG; rw [hG]
theorem g3_no {v : Value} {p q : Bool} (h : v = gv p (.bool q)) (hG : ¬ (p && q) = true) : v ≠ .bool true := by
  subst h
  cases p with
  | false => intro e; cases e
  | true => intro e; injection e with e; exact hG (by rw [e]; rfl)
theorem g3_yes {v : Value} {p q : Bool} (h : v = gv p (.bool q)) (hG : (p && q) = true) : v = .bool true := by
  subst h
  cases p with
  | false => cases hG
  | true => cases q with
    | false => cases hG
    | true => rfl
/-- What is known of a machine, and of the unit's own block, while nothing but what is new is written. -/
structure AsAt (w wr : World) (R : Nat → Prop) (g : Nat) (L : Lay) (u : Unit_) (m : Mach) (gv : Value) : Prop where
  a : MachB wr R g L u m
  r : ∀ q, R q → q < wr.heap.size
  bel : Below w.heap.size w wr
  mu : ∀ q, L.mut g q → w.heap.size ≤ q
  e2 : wr.cell? ⟨w.heap.size, 2, none⟩ = some gv
theorem AsAt.below {w wr wx : World} {R : Nat → Prop} {g : Nat} {L : Lay} {u : Unit_} {m : Mach} {gv : Value} (h : AsAt w wr R g L u m gv) (hx : Below wr.heap.size wr wx) : AsAt w wx R g L u m gv :=
  ⟨h.a.below hx, fun q hq => Nat.lt_of_lt_of_le (h.r q hq) hx.size, h.bel.trans (hx.mono h.bel.size), h.mu, (hx.cell (World.block_lt_of_cell? wr ⟨w.heap.size, 2, none⟩ h.e2)).trans h.e2⟩
end Go.Proofs.Ytkkmkjjbffpgnaa
