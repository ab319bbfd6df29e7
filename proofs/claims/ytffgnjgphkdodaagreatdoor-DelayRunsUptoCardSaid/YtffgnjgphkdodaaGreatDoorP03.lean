import Derived.Test.YtffgnjgphkdodaaGreatDoorP02
/- The walks that tell whether a node is right: cfg.right with its parts and closures, and the reference's node. -/
namespace Go.Proofs.YtffgnjgphkdodaaGreatDoor
open Go Go.RowKit
def numOk (n : Int) (used : Bool) (most : Int) : Bool := if used then decide (0 ≤ n ∧ n < most) else decide (n = 0)
def Val.cells (v : Val) : List Value := [.bool v.isSlot, .int .i64 v.slot, .int .i64 v.word]
def valOk (v : Val) (used : Bool) (slots : Int) : Bool :=
  if used then (if v.isSlot then decide (0 ≤ v.slot ∧ v.slot < slots ∧ v.word = 0) else decide (v.slot = 0)) else decide (v.isSlot = false ∧ v.slot = 0 ∧ v.word = 0)
def uSlot (k : Int) : Bool := decide (k = 1 ∨ k = 2 ∨ k = 4)
def uThing (k : Int) : Bool := decide (2 ≤ k ∧ k ≤ 6)
def uA (k : Int) : Bool := decide (k = 1 ∨ k = 3 ∨ k = 4 ∨ k = 7 ∨ k = 8)
def uNext (k : Int) : Bool := decide (1 ≤ k ∧ k ≤ 8)
def nodeHead (n : Node) : Bool := decide (1 ≤ n.kind ∧ n.kind ≤ 9 ∧ 0 ≤ n.origin ∧ n.origin < 4096)
def nodeOk (shared locks : Nat) (slots : Int) (nodes : Nat) (n : Node) : Bool :=
  nodeHead n && (numOk n.op (decide (n.kind = 1)) 19 && (numOk n.slot (uSlot n.kind) slots &&
    (numOk n.thing (uThing n.kind) (if n.kind = 5 ∨ n.kind = 6 then locks else shared) && (valOk n.a (uA n.kind) slots && (valOk n.b (decide (n.kind = 1) && twoB n.op) slots &&
    (numOk n.next (uNext n.kind) nodes && numOk n.els (decide (n.kind = 8)) nodes))))))
set_option maxHeartbeats 400000 in
theorem number_calls (n m : Int) (u : Bool) (w : World) : Calls Tryz.prog 152 #[.int .i64 n, .bool u, .int .i64 m] w fun e w' => e = .returned (.bool (numOk n u m)) ∧ w = w' := by
  cases u <;> (go_enter Tryz.func152, Tryz.ntmps152; go_wp2)
  all_goals (go_ret; refine ⟨ret_bool (Bool.eq_iff_iff.2 ?_), rfl⟩; simp [numOk]; try omega)
set_option maxHeartbeats 400000 in
theorem value_calls (v : Val) (m : Int) (u : Bool) (w : World) : Calls Tryz.prog 153 #[.agg v.cells.toArray, .bool u, .int .i64 m] w fun e w' => e = .returned (.bool (valOk v u m)) ∧ Below w.heap.size w w' := by
  obtain ⟨s, n, x⟩ := v
  unfold Val.cells
  cases u <;> cases s <;> (go_enter Tryz.func153, Tryz.ntmps153; go_wp2)
  all_goals (go_ret; refine ⟨ret_bool (Bool.eq_iff_iff.2 ?_), Below_alloc' _ _⟩; simp [valOk]; try omega)
theorem results4 {fn : Func} {t u v x : Tmp} (h : fn.results = #[.tmp t, .tmp u, .tmp v, .tmp x]) (tmps : Array Value) (P : Program) (w : World) :
    (results fn tmps).run P w = .ok (.tuple #[tmps.getD t undef, tmps.getD u undef, tmps.getD v undef, tmps.getD x undef]) w := by simp [results, h]
theorem ret_bool4 {a b c d a' b' c' d' : Bool} (h1 : a = a') (h2 : b = b') (h3 : c = c') (h4 : d = d') : Ending.returned (.tuple #[.bool a, .bool b, .bool c, .bool d]) = .returned (.tuple #[.bool a', .bool b', .bool c', .bool d']) := by rw [h1, h2, h3, h4]
set_option maxHeartbeats 400000 in
theorem uses_calls (k : Int) (w : World) : Calls Tryz.prog 150 #[.int .u8 k] w fun e w' => e = .returned (.tuple #[.bool (uSlot k), .bool (uThing k), .bool (uA k), .bool (uNext k)]) ∧ w = w' := by
  go_enter Tryz.func150, Tryz.ntmps150
  go_wp2
  all_goals (
    refine bodyPost_ret (results4 rfl _ _ _) rfl ?_
    refine ⟨ret_bool4 ?_ ?_ ?_ ?_, rfl⟩ <;> (rw [Bool.eq_iff_iff]; simp [uSlot, uThing, uA, uNext]; simp only [beq_iff_eq, beq_eq_false_iff_ne, ne_eq] at *; try omega))
set_option maxRecDepth 100000 in
set_option maxHeartbeats 1000000 in
theorem node_calls (u : Unit_) (g : Graph) (n : Node) (m : CM) (cu cg : List Value) (hu : UnitV m cu u) (hg : GraphV m cg g) (hn : 0 ≤ n.kind) (ho : 0 ≤ n.op) (w : World) :
    Calls Tryz.prog 100 #[.agg cu.toArray, .agg cg.toArray, .agg n.cells.toArray] w fun e w' => e = .returned (.bool (nodeOk u.shared.length u.locks.length g.slots g.nodes.length n)) ∧ Below w.heap.size w w' := by
  obtain ⟨sv, lv, gv, rfl, ⟨sA, sc, rfl, -, -, -⟩, ⟨lA, lc, rfl, -, -, -⟩, -⟩ := hu
  obtain ⟨nv, rfl, nA, nc, rfl, -, -, -⟩ := hg
  obtain ⟨kind, op, slot, thing, ⟨a1, a2, a3⟩, ⟨b1, b2, b3⟩, next, els, origin⟩ := n
  unfold Node.cells
  dsimp only at hn ho ⊢
  generalize u.shared.length = S
  generalize u.locks.length = L
  generalize g.nodes.length = N
  by_cases hk : 1 ≤ kind ∧ kind ≤ 9 ∧ 0 ≤ origin ∧ origin < 4096
  · have hh : nodeHead ⟨kind, op, slot, thing, ⟨a1, a2, a3⟩, ⟨b1, b2, b3⟩, next, els, origin⟩ = true := decide_eq_true hk
    obtain ⟨hk1, hk2, hk3, hk4⟩ := hk
    have HH := Lib.hid hh; clear hh
    by_cases e1 : kind = 1
    · subst e1
      have F0 : Hid (numOk op true 19 = decide (op < 19)) := by
        show _ = _
        simp [numOk, ho]
      go_enter Tryz.func100, Tryz.ntmps100
      go_wp2_with (first
      | (go_at_call 150; refine (uses_calls _ _).mono ?_; rintro e w' ⟨rfl, rfl⟩)
      | (go_at_call 151; refine (two2_calls _ _).mono ?_; rintro e w' ⟨rfl, rfl⟩)
      | (go_at_call 152; refine (number_calls _ _ _ _).mono ?_; rintro e w' ⟨rfl, rfl⟩)
      | (go_at_call 153; refine (value_calls ⟨_, _, _⟩ _ _ _).mono ?_; rintro e w1 ⟨rfl, hb⟩; obtain ⟨hc1, hf1⟩ := bcell hb; have hB : Below w.heap.size w w1 := (by first | exact hB.trans (hb.mono hB.size) | exact (Below3 _ _ _ _).trans (hb.mono (by simp; omega))); have hz : w.heap.size + 2 < w1.heap.size := (by have := hb.size; (try simp at this); omega); have hz1 : w.heap.size + 1 < w1.heap.size := (by omega); have hz0 : w.heap.size < w1.heap.size := (by omega)))
      all_goals (
        go_ret
        refine ⟨ret_bool ?_, ?_⟩
        · have hh := HH.out
          have f0 := F0.out
          simp_all [nodeOk]
          try (intros; omega)
        · first | exact hB | exact Below3 _ _ _ _)
    by_cases e5 : kind = 5 ∨ kind = 6
    · have F0 : Hid (numOk op false 19 = !(op != 0)) := by
        show _ = _
        rw [Bool.eq_iff_iff]; simp [numOk]
      have f1 : (kind == 1) = false := by simp; omega
      have f2 : (kind != 1) = true := by simp; omega
      have f3 : ((kind == 5) || (kind == 6)) = true := by simpa using e5
      go_enter Tryz.func100, Tryz.ntmps100
      go_wp2_with (first
      | (go_at_call 150; refine (uses_calls _ _).mono ?_; rintro e w' ⟨rfl, rfl⟩)
      | (go_at_call 151; refine (two2_calls _ _).mono ?_; rintro e w' ⟨rfl, rfl⟩)
      | (go_at_call 152; refine (number_calls _ _ _ _).mono ?_; rintro e w' ⟨rfl, rfl⟩)
      | (go_at_call 153; refine (value_calls ⟨_, _, _⟩ _ _ _).mono ?_; rintro e w1 ⟨rfl, hb⟩; obtain ⟨hc1, hf1⟩ := bcell hb; have hB : Below w.heap.size w w1 := (by first | exact hB.trans (hb.mono hB.size) | exact (Below3 _ _ _ _).trans (hb.mono (by simp; omega))); have hz : w.heap.size + 2 < w1.heap.size := (by have := hb.size; (try simp at this); omega); have hz1 : w.heap.size + 1 < w1.heap.size := (by omega); have hz0 : w.heap.size < w1.heap.size := (by omega)))
      all_goals (
        go_ret
        refine ⟨ret_bool ?_, ?_⟩
        · have hh := HH.out
          have f0 := F0.out
          simp_all [nodeOk]
        · first | exact hB | exact Below3 _ _ _ _)
    have F0 : Hid (numOk op false 19 = !(op != 0)) := by
      show _ = _
      rw [Bool.eq_iff_iff]; simp [numOk]
    have f1 : (kind == 1) = false := by simp; omega
    have f2 : (kind != 1) = true := by simp; omega
    have f4 : (kind == 5) = false := by simp; omega
    have f5 : (kind == 6) = false := by simp; omega
    go_enter Tryz.func100, Tryz.ntmps100
    go_wp2_with (first
    | (go_at_call 150; refine (uses_calls _ _).mono ?_; rintro e w' ⟨rfl, rfl⟩)
    | (go_at_call 151; refine (two2_calls _ _).mono ?_; rintro e w' ⟨rfl, rfl⟩)
    | (go_at_call 152; refine (number_calls _ _ _ _).mono ?_; rintro e w' ⟨rfl, rfl⟩)
    | (go_at_call 153; refine (value_calls ⟨_, _, _⟩ _ _ _).mono ?_; rintro e w1 ⟨rfl, hb⟩; obtain ⟨hc1, hf1⟩ := bcell hb; have hB : Below w.heap.size w w1 := (by first | exact hB.trans (hb.mono hB.size) | exact (Below3 _ _ _ _).trans (hb.mono (by simp; omega))); have hz : w.heap.size + 2 < w1.heap.size := (by have := hb.size; (try simp at this); omega); have hz1 : w.heap.size + 1 < w1.heap.size := (by omega); have hz0 : w.heap.size < w1.heap.size := (by omega)))
    all_goals (
      go_ret
      refine ⟨ret_bool ?_, ?_⟩
      · have hh := HH.out
        have f0 := F0.out
        have e8 : (kind == 8) = decide (kind = 8) := by rw [Bool.eq_iff_iff]; simp
        simp_all [nodeOk]
      · first | exact hB | exact Below3 _ _ _ _)
  · have hf2 : nodeOk S L g.slots N ⟨kind, op, slot, thing, ⟨a1, a2, a3⟩, ⟨b1, b2, b3⟩, next, els, origin⟩ = false := by
      have : nodeHead ⟨kind, op, slot, thing, ⟨a1, a2, a3⟩, ⟨b1, b2, b3⟩, next, els, origin⟩ = false := decide_eq_false hk
      rw [nodeOk, this]; rfl
    have HF := Lib.hid hf2; clear hf2
    go_enter Tryz.func100, Tryz.ntmps100
    go_wp2_with fail
    all_goals first | (exfalso; omega) | skip
    all_goals (go_ret; exact ⟨ret_bool HF.out.symm, Below3 _ _ _ _⟩)
end Go.Proofs.YtffgnjgphkdodaaGreatDoor
