import Derived.Test.YtffgnjgphkdodaaGreatDoorP02
import Derived.Orders
import Derived.Deep.RegionHeld3
import Derived.Test.YtffgnjgphkdodaaGreatDoorP01
namespace Go.Proofs.YtffgnjgphkdodaaGreatDoor
open Go Go.RowKit
def numOk (n : Int) (used : Bool) (most : Int) : Bool := if used then decide (0 ≤ n ∧ n < most) else decide (n = 0)
def Val.cells (v : Val) : List Value := [.bool v.isSlot, .int .i64 v.slot, .int .i64 v.word]
def valOk (v : Val) (used : Bool) (slots : Int) : Bool :=
 if used then (if v.isSlot then decide (0 ≤ v.slot ∧ v.slot < slots ∧ v.word = 0) else decide (v.slot = 0)) else decide (v.isSlot = false ∧ v.slot = 0 ∧ v.word = 0)
def uSlot (k : Int) : Bool := decide (k = 1 ∨ k = 2 ∨ k = 4)
def uThing (k : Int) : Bool := decide (2 ≤ k ∧ k ≤ 6)
def uA (k : Int) : Bool := decide (k = 1 ∨ k = 3 ∨ k = 4 ∨ k = 7 ∨ k = 8)
def uNext (k : Int) : Bool := decide (1 ≤ k ∧ k ≤ 8)
def nodeHead (n : Node) : Bool := decide (1 ≤ n.kind ∧ n.kind ≤ 9 ∧ 0 ≤ n.origin ∧ n.origin < 4096)
def nodeOk (shared locks : Nat) (slots : Int) (nodes : Nat) (n : Node) : Bool :=
 nodeHead n && (numOk n.op (decide (n.kind = 1)) 19 && (numOk n.slot (uSlot n.kind) slots &&
  (numOk n.thing (uThing n.kind) (if n.kind = 5 ∨ n.kind = 6 then locks else shared) && (valOk n.a (uA n.kind) slots && (valOk n.b (decide (n.kind = 1) && twoB n.op) slots &&
  (numOk n.next (uNext n.kind) nodes && numOk n.els (decide (n.kind = 8)) nodes))))))
set_option maxHeartbeats 400000 in
theorem number_calls (n m : Int) (u : Bool) (w : World) : Calls Tryz.prog 152 #[.int .i64 n, .bool u, .int .i64 m] w fun e w' => e = .returned (.bool (numOk n u m)) ∧ w = w' := by
 cases u <;> (go_enter Tryz.func152, Tryz.ntmps152; go_wp2)
 all_goals (go_ret; refine ⟨ret_bool (Bool.eq_iff_iff.2 ?_), rfl⟩; simp [numOk]; try omega)
set_option maxHeartbeats 400000 in
theorem value_calls (v : Val) (m : Int) (u : Bool) (w : World) : Calls Tryz.prog 153 #[.agg v.cells.toArray, .bool u, .int .i64 m] w fun e w' => e = .returned (.bool (valOk v u m)) ∧ Below w.heap.size w w' := by
 obtain ⟨s, n, x⟩ := v
 unfold Val.cells
 cases u <;> cases s <;> (go_enter Tryz.func153, Tryz.ntmps153; go_wp2)
 all_goals (go_ret; refine ⟨ret_bool (Bool.eq_iff_iff.2 ?_), Below_alloc' _ _⟩; simp [valOk]; try omega)
theorem results4 {fn : Func} {t u v x : Tmp} (h : fn.results = #[.tmp t, .tmp u, .tmp v, .tmp x]) (tmps : Array Value) (P : Program) (w : World) :
  (results fn tmps).run P w = .ok (.tuple #[tmps.getD t undef, tmps.getD u undef, tmps.getD v undef, tmps.getD x undef]) w := by simp [results, h]
theorem ret_bool4 {a b c d a' b' c' d' : Bool} (h1 : a = a') (h2 : b = b') (h3 : c = c') (h4 : d = d') : Ending.returned (.tuple #[.bool a, .bool b, .bool c, .bool d]) = .returned (.tuple #[.bool a', .bool b', .bool c', .bool d']) := by rw [h1, h2, h3, h4]
set_option maxHeartbeats 400000 in
theorem uses_calls (k : Int) (w : World) : Calls Tryz.prog 150 #[.int .u8 k] w fun e w' => e = .returned (.tuple #[.bool (uSlot k), .bool (uThing k), .bool (uA k), .bool (uNext k)]) ∧ w = w' := by
 go_enter Tryz.func150, Tryz.ntmps150
 go_wp2
 all_goals (
  refine bodyPost_ret (results4 rfl _ _ _) rfl ?_
  refine ⟨ret_bool4 ?_ ?_ ?_ ?_, rfl⟩ <;> (rw [Bool.eq_iff_iff]; simp [uSlot, uThing, uA, uNext]; simp only [beq_iff_eq, beq_eq_false_iff_ne, ne_eq] at *; try omega))
set_option maxRecDepth 100000 in
set_option maxHeartbeats 1000000 in
theorem node_calls (u : Unit_) (g : Graph) (n : Node) (m : CM) (cu cg : List Value) (hu : UnitV m cu u) (hg : GraphV m cg g) (hn : 0 ≤ n.kind) (ho : 0 ≤ n.op) (w : World) :
  Calls Tryz.prog 100 #[.agg cu.toArray, .agg cg.toArray, .agg n.cells.toArray] w fun e w' => e = .returned (.bool (nodeOk u.shared.length u.locks.length g.slots g.nodes.length n)) ∧ Below w.heap.size w w' := by
 obtain ⟨sv, lv, gv, rfl, ⟨sA, sc, rfl, -, -, -⟩, ⟨lA, lc, rfl, -, -, -⟩, -⟩ := hu
 obtain ⟨nv, rfl, nA, nc, rfl, -, -, -⟩ := hg
 obtain ⟨kind, op, slot, thing, ⟨a1, a2, a3⟩, ⟨b1, b2, b3⟩, next, els, origin⟩ := n
 unfold Node.cells
 dsimp only at hn ho ⊢
 generalize u.shared.length = S
 generalize u.locks.length = L
 generalize g.nodes.length = N
 by_cases hk : 1 ≤ kind ∧ kind ≤ 9 ∧ 0 ≤ origin ∧ origin < 4096
 ·have hh : nodeHead ⟨kind, op, slot, thing, ⟨a1, a2, a3⟩, ⟨b1, b2, b3⟩, next, els, origin⟩ = true := decide_eq_true hk
  obtain ⟨hk1, hk2, hk3, hk4⟩ := hk
  have HH := Lib.hid hh; clear hh
  by_cases e1 : kind = 1
  ·subst e1
   have F0 : Hid (numOk op true 19 = decide (op < 19)) := by
    show _ = _
    simp [numOk, ho]
   go_enter Tryz.func100, Tryz.ntmps100
   go_wp2_with (first
   | (go_at_call 150; refine (uses_calls _ _).mono ?_; rintro e w' ⟨rfl, rfl⟩)
   | (go_at_call 151; refine (two2_calls _ _).mono ?_; rintro e w' ⟨rfl, rfl⟩)
   | (go_at_call 152; refine (number_calls _ _ _ _).mono ?_; rintro e w' ⟨rfl, rfl⟩)
   | (go_at_call 153; refine (value_calls ⟨_, _, _⟩ _ _ _).mono ?_; rintro e w1 ⟨rfl, hb⟩; obtain ⟨hc1, hf1⟩ := bcell hb; have hB : Below w.heap.size w w1 := (by first | exact hB.trans (hb.mono hB.size) | exact (Below3 _ _ _ _).trans (hb.mono (by simp; omega))); have hz : w.heap.size + 2 < w1.heap.size := (by have := hb.size; (try simp at this); omega); have hz1 : w.heap.size + 1 < w1.heap.size := (by omega); have hz0 : w.heap.size < w1.heap.size := (by omega)))
   all_goals (
    go_ret
    refine ⟨ret_bool ?_, ?_⟩
    ·have hh := HH.out
     have f0 := F0.out
     simp_all [nodeOk]
     try (intros; omega)
    ·first | exact hB | exact Below3 _ _ _ _)
  by_cases e5 : kind = 5 ∨ kind = 6
  ·have F0 : Hid (numOk op false 19 = !(op != 0)) := by
    show _ = _
    rw [Bool.eq_iff_iff]; simp [numOk]
   have f1 : (kind == 1) = false := by simp; omega
   have f2 : (kind != 1) = true := by simp; omega
   have f3 : ((kind == 5) || (kind == 6)) = true := by simpa using e5
   go_enter Tryz.func100, Tryz.ntmps100
   go_wp2_with (first
   | (go_at_call 150; refine (uses_calls _ _).mono ?_; rintro e w' ⟨rfl, rfl⟩)
   | (go_at_call 151; refine (two2_calls _ _).mono ?_; rintro e w' ⟨rfl, rfl⟩)
   | (go_at_call 152; refine (number_calls _ _ _ _).mono ?_; rintro e w' ⟨rfl, rfl⟩)
   | (go_at_call 153; refine (value_calls ⟨_, _, _⟩ _ _ _).mono ?_; rintro e w1 ⟨rfl, hb⟩; obtain ⟨hc1, hf1⟩ := bcell hb; have hB : Below w.heap.size w w1 := (by first | exact hB.trans (hb.mono hB.size) | exact (Below3 _ _ _ _).trans (hb.mono (by simp; omega))); have hz : w.heap.size + 2 < w1.heap.size := (by have := hb.size; (try simp at this); omega); have hz1 : w.heap.size + 1 < w1.heap.size := (by omega); have hz0 : w.heap.size < w1.heap.size := (by omega)))
   all_goals (
    go_ret
    refine ⟨ret_bool ?_, ?_⟩
    ·have hh := HH.out
     have f0 := F0.out
     simp_all [nodeOk]
    ·first | exact hB | exact Below3 _ _ _ _)
  have F0 : Hid (numOk op false 19 = !(op != 0)) := by
   show _ = _
   rw [Bool.eq_iff_iff]; simp [numOk]
  have f1 : (kind == 1) = false := by simp; omega
  have f2 : (kind != 1) = true := by simp; omega
  have f4 : (kind == 5) = false := by simp; omega
  have f5 : (kind == 6) = false := by simp; omega
  go_enter Tryz.func100, Tryz.ntmps100
  go_wp2_with (first
  | (go_at_call 150; refine (uses_calls _ _).mono ?_; rintro e w' ⟨rfl, rfl⟩)
  | (go_at_call 151; refine (two2_calls _ _).mono ?_; rintro e w' ⟨rfl, rfl⟩)
  | (go_at_call 152; refine (number_calls _ _ _ _).mono ?_; rintro e w' ⟨rfl, rfl⟩)
  | (go_at_call 153; refine (value_calls ⟨_, _, _⟩ _ _ _).mono ?_; rintro e w1 ⟨rfl, hb⟩; obtain ⟨hc1, hf1⟩ := bcell hb; have hB : Below w.heap.size w w1 := (by first | exact hB.trans (hb.mono hB.size) | exact (Below3 _ _ _ _).trans (hb.mono (by simp; omega))); have hz : w.heap.size + 2 < w1.heap.size := (by have := hb.size; (try simp at this); omega); have hz1 : w.heap.size + 1 < w1.heap.size := (by omega); have hz0 : w.heap.size < w1.heap.size := (by omega)))
  all_goals (
   go_ret
   refine ⟨ret_bool ?_, ?_⟩
   ·have hh := HH.out
    have f0 := F0.out
    have e8 : (kind == 8) = decide (kind = 8) := by rw [Bool.eq_iff_iff]; simp
    simp_all [nodeOk]
   ·first | exact hB | exact Below3 _ _ _ _)
 ·have hf2 : nodeOk S L g.slots N ⟨kind, op, slot, thing, ⟨a1, a2, a3⟩, ⟨b1, b2, b3⟩, next, els, origin⟩ = false := by
   have : nodeHead ⟨kind, op, slot, thing, ⟨a1, a2, a3⟩, ⟨b1, b2, b3⟩, next, els, origin⟩ = false := decide_eq_false hk
   rw [nodeOk, this]; rfl
  have HF := Lib.hid hf2; clear hf2
  go_enter Tryz.func100, Tryz.ntmps100
  go_wp2_with fail
  all_goals first | (exfalso; omega) | skip
  all_goals (go_ret; exact ⟨ret_bool HF.out.symm, Below3 _ _ _ _⟩)
end Go.Proofs.YtffgnjgphkdodaaGreatDoor
namespace Go.Proofs.YtffgnjgphkdodaaGreatDoor
open Go Go.RowKit
def predsOf (o : Oper) : List Nat := ((o.after.toList.filter fun e => Region.binds .any e).map (·.on))
def upD (D : Nat → Bool) (i : Nat) : Nat → Bool := fun j => if j = i then true else D j
theorem upD_same (D : Nat → Bool) (i : Nat) : upD D i i = true := by simp [upD]
theorem upD_ne (D : Nat → Bool) {i j : Nat} (h : j ≠ i) : upD D i j = D j := by simp [upD, h]
def StepJ (P : Program) (ops : Array Oper) (Q : Exit → Act → World → Prop) (J : (Nat → Bool) → Act → World → Prop) (i : Nat) (o : Oper) : Prop :=
 ∀ (D : Nat → Bool) (a : Act) (w : World) (K : Act → World → Prop), D i = false → (∀ j ∈ predsOf o, D j = true) → J D a w → (∀ a' w', J (upD D i) a' w' → K a' w') →
  if Region.wanted o (yielded ops a.tmps) = true then o.wp P a w K Q else K (a.put o.dst undef) w
theorem filter_lt {α : Type} {p q : α → Bool} (h : ∀ x, q x = true → p x = true) : ∀ l : List α, (∃ x ∈ l, p x = true ∧ q x = false) → (l.filter q).length < (l.filter p).length
 | [], ⟨_, h, _⟩ => by cases h
 | y :: l, ⟨x, hx, h1, h2⟩ => by
  have le : ∀ l : List α, (l.filter q).length ≤ (l.filter p).length := fun l => by
   induction l with
   | nil => simp
   | cons z l ih =>
    simp only [List.filter_cons]
    cases hq : q z
    ·cases hp : p z <;> simp <;> omega
    ·rw [h z hq]; simp; omega
  rcases List.mem_cons.1 hx with rfl | hx
  ·rw [List.filter_cons_of_pos h1, List.filter_cons_of_neg (by simp [h2])]
   have := le l
   simp; omega
  ·have ih := filter_lt h l ⟨x, hx, h1, h2⟩
   simp only [List.filter_cons]
   cases hq : q y
   ·cases hp : p y <;> simp <;> omega
   ·rw [h y hq]; simp; omega
def unlisted (ops : Array Oper) (listed : Array Bool) : Nat := ((List.range ops.size).filter fun i => !listed.getD i true).length
theorem ready_all {ops : Array Oper} {listed : Array Bool} (hs : listed.size = ops.size) (hback : ops.toList.zipIdx.all (fun x => (predsOf x.1).all fun j => decide (j < x.2)) = true) (hr : Region.ready .any ops listed = []) : ∀ i, i < ops.size → listed.getD i false = true := by
 intro i
 induction i using Nat.strongRecOn with
 | ind i ih =>
  intro hi
  cases hl : listed.getD i false with
  | true => rfl
  | false =>
   exfalso
   have hmem : i ∈ Region.ready .any ops listed := by
    rw [mem_ready]
    refine ⟨?_, ops[i], by simp [hi], ?_⟩
    ·simp only [Array.getD] at hl ⊢
     rw [dif_pos (by omega)] at hl ⊢
     exact hl
    ·intro e he hb
     have hp : e.on ∈ predsOf ops[i] := by
      unfold predsOf
      exact List.mem_map.2 ⟨e, List.mem_filter.2 ⟨by simpa using he, hb⟩, rfl⟩
     rw [List.all_eq_true] at hback
     have h2 := hback (ops[i], i) (by rw [List.mem_zipIdx_iff_getElem?]; simp [hi])
     rw [List.all_eq_true] at h2
     exact ih _ (of_decide_eq_true (h2 _ hp)) (by have := of_decide_eq_true (h2 _ hp); omega)
   rw [hr] at hmem
   cases hmem
theorem wp_region_inv {P : Program} {id : Nat} {ops : Array Oper} {Q : Exit → Act → World → Prop} {a : Act} {w : World} (J : (Nat → Bool) → Act → World → Prop) (hm : P.follows .mixedOrders = true)
  (hback : ops.toList.zipIdx.all (fun x => (predsOf x.1).all fun j => decide (j < x.2)) = true)
  (h0 : J (fun _ => false) a w.drew)
  (hstep : ∀ i o, ops[i]? = some o → StepJ P ops Q J i o)
  (hend : ∀ D a w, (∀ i, i < ops.size → D i = true) → J D a w → Q .normal a w) : (Code.region id ops true).wp P Q a w := by
 refine wp_region_any hm ?_
 have key : ∀ (fuel : Nat) (listed : Array Bool) (a : Act) (w : World), listed.size = ops.size → unlisted ops listed ≤ fuel → J (fun j => listed.getD j false) a w → wpAny P .any ops Q fuel listed a w := by
  intro fuel
  induction fuel with
  | zero =>
   intro listed a w hs hu hJ
   have hr : Region.ready .any ops listed = [] := by
    rw [List.eq_nil_iff_forall_not_mem]
    intro i hi
    rw [mem_ready] at hi
    obtain ⟨h1, o, h2, _⟩ := hi
    have hlt : i < ops.size := (Array.getElem?_eq_some_iff.1 h2).1
    have hm : i ∈ (List.range ops.size).filter fun i => !listed.getD i true := List.mem_filter.2 ⟨List.mem_range.2 hlt, by simp [h1]⟩
    unfold unlisted at hu
    rw [List.eq_nil_of_length_eq_zero (Nat.le_zero.1 hu)] at hm
    cases hm
   exact ⟨hr, hend _ _ _ (ready_all hs hback hr) hJ⟩
  | succ fuel ih =>
   intro listed a w hs hu hJ
   refine ⟨fun hr => hend _ _ _ (ready_all hs hback hr) hJ, fun i hi => ?_⟩
   rw [mem_ready] at hi
   obtain ⟨h1, o, h2, h3⟩ := hi
   have hlt : i < ops.size := (Array.getElem?_eq_some_iff.1 h2).1
   have hD : listed.getD i false = false := by
    simp only [Array.getD] at h1 ⊢
    rw [dif_pos (by omega)] at h1 ⊢
    exact h1
   have hst := hstep i o h2 (fun j => listed.getD j false) a w (wpAny P .any ops Q fuel (listed.setIfInBounds i true)) hD (fun j hj => by
    unfold predsOf at hj
    obtain ⟨e, he, rfl⟩ := List.mem_map.1 hj
    obtain ⟨he1, he2⟩ := List.mem_filter.1 he
    exact h3 e (by simpa using he1) he2) hJ (fun a' w' hJ' => ih _ a' w' (by simpa using hs) (by
     have : unlisted ops (listed.setIfInBounds i true) < unlisted ops listed := by
      unfold unlisted
      refine filter_lt (fun x hx => ?_) _ ⟨i, List.mem_range.2 hlt, by simp [h1], ?_⟩
      ·by_cases e : i = x
       ·subst e
        simp [Array.getD, hs, hlt] at hx
       ·rw [getD_set_ne _ e] at hx; exact hx
      ·simp [Array.getD, hs, hlt]
     omega) (by
     have e : (fun j => (listed.setIfInBounds i true).getD j false) = upD (fun j => listed.getD j false) i := by
      funext j
      unfold upD
      by_cases e : i = j
      ·subst e
       simp [Array.getD, hs, hlt]
      ·rw [if_neg (fun h => e h.symm), getD_set_ne _ e]
     rw [e]
     exact hJ'))
   unfold wpOp
   simp only [h2]
   split
   ·rename_i hw
    rw [if_pos hw] at hst
    exact .inl hst
   ·rename_i hw
    rw [if_neg hw] at hst
    exact hst
 refine key ops.size _ a _ (by simp) ?_ ?_
 ·unfold unlisted
  exact Nat.le_trans (List.length_filter_le _ _) (by simp)
 ·have e : (fun j => (Array.replicate ops.size false).getD j false) = fun _ => false := by
   funext j
   simp only [Array.getD]
   split
   ·simp
   ·rfl
  rw [e]
  exact h0
def StepsJ (P : Program) (ops : Array Oper) (Q : Exit → Act → World → Prop) (J : (Nat → Bool) → Act → World → Prop) : Nat → List Oper → Prop
 | _, [] => True
 | i, o :: os => StepJ P ops Q J i o ∧ StepsJ P ops Q J (i + 1) os
theorem steps_at {P : Program} {ops : Array Oper} {Q : Exit → Act → World → Prop} {J : (Nat → Bool) → Act → World → Prop} : ∀ (os : List Oper) (i : Nat), StepsJ P ops Q J i os → ∀ j o, os[j]? = some o → StepJ P ops Q J (i + j) o
 | [], _, _, j, o, h => by simp at h
 | o :: os, i, hs, 0, o', h => by simp at h; subst h; exact hs.1
 | o :: os, i, hs, j + 1, o', h => by
  have := steps_at os (i + 1) hs.2 j o' (by simpa using h)
  rwa [Nat.add_right_comm, Nat.add_assoc] at this
theorem steps_all {P : Program} {ops : Array Oper} {Q : Exit → Act → World → Prop} {J : (Nat → Bool) → Act → World → Prop} (h : StepsJ P ops Q J 0 ops.toList) : ∀ i o, ops[i]? = some o → StepJ P ops Q J i o := fun i o ho => by
 have := steps_at ops.toList 0 h i o (by simpa using ho)
 rwa [Nat.zero_add] at this
structure Fr (slots : List Nat) (a0 a : Act) : Prop where
 defers : a.defers = a0.defers
 size : a.tmps.size = a0.tmps.size
 same : ∀ j, j ∉ slots → a.tmps[j]? = a0.tmps[j]?
theorem Fr.refl (slots : List Nat) (a : Act) : Fr slots a a := ⟨rfl, rfl, fun _ _ => rfl⟩
theorem Fr.put {slots : List Nat} {a0 a : Act} (h : Fr slots a0 a) {d : Nat} (hd : d ∈ slots) (v : Value) : Fr slots a0 (a.put (some d) v) := by
 refine ⟨h.defers, ?_, fun j hj => ?_⟩
 ·simp [Act.put, h.size]
 ·have : d ≠ j := fun e => hj (e ▸ hd)
  simp only [Act.put]
  rw [Array.getElem?_setIfInBounds_ne this]
  exact h.same j hj
theorem Fr.put_none {slots : List Nat} {a0 a : Act} (h : Fr slots a0 a) (v : Value) : Fr slots a0 (a.put none v) := h
theorem eval_tmp {a a' : Act} {j : Nat} (h : a.tmps[j]? = a'.tmps[j]?) : a.eval (.tmp j) = a'.eval (.tmp j) := by
 simp only [Act.eval]
 rw [Array.getD_eq_getD_getElem?, Array.getD_eq_getD_getElem?, h]
theorem Fr.eval {slots : List Nat} {a0 a : Act} (h : Fr slots a0 a) {j : Nat} (hj : j ∉ slots) : a.eval (.tmp j) = a0.eval (.tmp j) := eval_tmp (h.same j hj)
theorem eval_put_ne {a : Act} {d j : Nat} {v : Value} (h : j ≠ d) : (a.put (some d) v).eval (.tmp j) = a.eval (.tmp j) := eval_tmp (by simp only [Act.put]; exact Array.getElem?_setIfInBounds_ne (fun e => h e.symm))
theorem Fr.eval_put {slots : List Nat} {a0 a : Act} (h : Fr slots a0 a) {d : Nat} (hd : d < a0.tmps.size) (v : Value) : (a.put (some d) v).eval (.tmp d) = v := by
 have : d < a.tmps.size := by rw [h.size]; exact hd
 simp [Act.put, Act.eval, this]
theorem Fr.shut {slots : List Nat} {a0 a : Act} {d : Nat} (h : Fr (d :: slots) a0 a) (hd : d < a0.tmps.size) : Fr slots (a0.put (some d) (a.eval (.tmp d))) a := by
 refine ⟨h.defers, by simp [Act.put, h.size], fun j hj => ?_⟩
 simp only [Act.put]
 by_cases e : d = j
 ·subst e
  have : d < a.tmps.size := by rw [h.size]; exact hd
  rw [Array.getElem?_setIfInBounds_self_of_lt hd]
  simp [Act.eval, this]
 ·rw [Array.getElem?_setIfInBounds_ne e]
  exact h.same j (by simp only [List.mem_cons, not_or]; exact ⟨fun h => e h.symm, hj⟩)
theorem Fr.done {a0 a : Act} (h : Fr [] a0 a) : a = a0 := by
 cases a; cases a0
 have h1 := h.defers
 have h2 : _ = _ := Array.ext_getElem? fun j => h.same j (by simp)
 simp only at h1 h2
 rw [h1, h2]
theorem step_wp {P : Program} {ops : Array Oper} {Q : Exit → Act → World → Prop} {o : Oper} {a : Act} {w : World} {K : Act → World → Prop} {E : Prop} (hg : o.guard = none) (h : o.wp P a w K Q) : if Region.wanted o (yielded ops a.tmps) = true then o.wp P a w K Q else E := by
 rw [if_pos (by simp [Region.wanted, hg])]
 exact h
theorem wp_move_at {P : Program} {Q : Exit → Act → World → Prop} {o : Oper} {a : Act} {w : World} {K : Act → World → Prop} {x : Operand} (ho : o.op = .move x) (h : K (a.put o.dst (a.eval x)) w) : o.wp P a w K Q := by
 unfold Oper.wp execOp
 simp only [ho, Sem.run_pure, Oper.upon]
 exact h
theorem wp_call_at {P : Program} {Q : Exit → Act → World → Prop} {o : Oper} {a : Act} {w : World} {K : Act → World → Prop} {f : FuncId} {args : Array Operand} {ts : Array TypeId} {fn : Func} (hf : P.funcs[f]? = some fn) (hn : (fn.name == "runtime.NumGoroutine") = false) (hb : fn.body.isNone = false)
  (ho : o.op = .call { callee := .value (.func f), args := args, argTypes := ts }) (vs : Array Value) (hv : args.map a.eval = vs)
  (h : Calls P f vs w fun e w' => ∃ v, e = .returned v ∧ K (a.put o.dst v) w') : o.wp P a w K Q := by
 subst hv
 have hr : (execOp a.eval o).run P w = .ok (.enter f (args.map a.eval)) w := by
  unfold execOp
  simp only [ho, resolve, Act.eval, Sem.run_bind, Deferred.ofValue]
  simp only [Sem.run_pure, Result.andThen_ok, invoke, callFunc, Sem.run_bind, program, Sem.run, hf, hn, hb]
  simp
 unfold Oper.wp
 rw [hr]
 simp only [Oper.upon]
 refine h.mono ?_
 rintro e w' ⟨v, rfl, hk⟩
 exact hk
theorem wp_val_at {P : Program} {Q : Exit → Act → World → Prop} {o : Oper} {a : Act} {w : World} {K : Act → World → Prop} (v : Value) (hr : (execOp a.eval o).run P w = .ok (.value v) w) (h : K (a.put o.dst v) w) : o.wp P a w K Q := by
 unfold Oper.wp
 rw [hr]
 exact h
theorem wp_act0 {P : Program} {c : Code} {Q : Exit → Act → World → Prop} {a : Act} {w : World} (h : ∀ a0 : Act, a0 = a → c.wp P Q a0 w) : c.wp P Q a w := h a rfl
theorem Blk.setRow {w : World} {g : Nat} {t : TypeId} {cs cs' : List Value} (h : Blk w g t cs) : Blk (w.setRow g cs'.toArray) g t cs' := setRow_heap w g _ _ t _ h
theorem heap_setRow_ne {w : World} {g b : Nat} (h : b ≠ g) (cs : Array Value) : (w.setRow g cs).heap[b]? = w.heap[b]? := setRow_other w g b cs h
theorem below_row {B : Nat} {w w' : World} (h : Below B w w') {g : Nat} (hg : B ≤ g) (cs : Array Value) : Below B w (w'.setRow g cs) :=
 ⟨h.os, h.tape, h.output, by simp [World.setRow]; exact h.size, fun k hk => (heap_setRow_ne (by omega) cs).trans (h.block k hk)⟩
theorem put_none (a : Act) (v : Value) : a.put none v = a := rfl
theorem upD_mono {D : Nat → Bool} {i j : Nat} (h : D j = true) : upD D i j = true := by unfold upD; split <;> simp_all
end Go.Proofs.YtffgnjgphkdodaaGreatDoor
namespace Go.Proofs.YtffgnjgphkdodaaGreatDoor
open Go Go.RowKit
def partsOf (k op : Int) : Int :=
 if k = 1 then (if twoB op then 59 else 43) else if k = 2 then 38 else if k = 3 then 44 else if k = 4 then 46 else if k = 5 then 36 else if k = 6 then 36 else if k = 7 then 40 else if k = 8 then 104 else 0
def hasBit (p h : Int) : Bool := !(bits .and .u8 p h == 0)
theorem kinds {k : Int} (h1 : 1 ≤ k) (h9 : k ≤ 9) : k = 1 ∨ k = 2 ∨ k = 3 ∨ k = 4 ∨ k = 5 ∨ k = 6 ∨ k = 7 ∨ k = 8 ∨ k = 9 := by omega
theorem partsOf_other {k : Int} (h : k ≠ 1) (op : Int) : partsOf k op = partsOf k 0 := by simp [partsOf, h]
theorem partsOf_bits {k : Int} (h1 : 1 ≤ k) (h9 : k ≤ 9) (op : Int) :
  hasBit (partsOf k op) 1 = decide (k = 1) ∧ hasBit (partsOf k op) 2 = uSlot k ∧ hasBit (partsOf k op) 4 = uThing k ∧ hasBit (partsOf k op) 32 = uNext k ∧ hasBit (partsOf k op) 64 = decide (k = 8) ∧
  hasBit (partsOf k op) 8 = uA k ∧ hasBit (partsOf k op) 16 = (decide (k = 1) && twoB op) := by
 rcases kinds h1 h9 with rfl | rfl | rfl | rfl | rfl | rfl | rfl | rfl | rfl
 ·unfold partsOf
  cases twoB op <;> decide
 all_goals (rw [partsOf_other (by decide)]; refine ⟨by decide, by decide, by decide, by decide, by decide, by decide, ?_⟩; simp; decide)
set_option maxHeartbeats 1000000 in
theorem parts_calls (n : Node) (h1 : 1 ≤ n.kind) (h9 : n.kind ≤ 9) (w : World) :
  Calls Tryz.prog 144 #[.agg n.cells.toArray] w fun e w' => e = .returned (.int .u8 (partsOf n.kind n.op)) ∧ Below w.heap.size w w' := by
 obtain ⟨kind, op, slot, thing, ⟨a1, a2, a3⟩, ⟨b1, b2, b3⟩, next, els, origin⟩ := n
 unfold Node.cells
 dsimp only at h1 h9 ⊢
 rcases kinds h1 h9 with rfl | rfl | rfl | rfl | rfl | rfl | rfl | rfl | rfl
 ·go_enter Tryz.func144, Tryz.ntmps144
  go_wp2_with (go_at_call 163; refine (two_calls _ _).mono ?_; rintro e w' ⟨rfl, rfl⟩)
  all_goals (
   go_ret
   refine ⟨?_, ((Below.refl _ _).alloc (Nat.le_refl _) _).alloc (by simp) _⟩
   simp_all [partsOf]
   try decide)
 all_goals (
  go_enter Tryz.func144, Tryz.ntmps144
  go_wp2
  go_ret
  exact ⟨rfl, ((Below.refl _ _).alloc (Nat.le_refl _) _).alloc (by simp) _⟩)
set_option maxHeartbeats 400000 in
theorem within_calls (k most p h : Int) (a : Addr) (w : World) (hc : w.cell? a = some (.int .u8 p)) :
  Calls Tryz.prog 145 #[.int .i64 k, .int .u8 h, .int .i64 most, .pointer (some a)] w fun e w' => e = .returned (.bool (numOk k (hasBit p h) most)) ∧ w = w' := by
 cases hb : hasBit p h
 ·have hz : (bits .and .u8 p h == 0) = true := by simpa [hasBit] using hb
  have hz2 : (bits .and .u8 p h != 0) = false := by rw [bne, hz]; rfl
  clear hb
  go_enter Tryz.func145, Tryz.ntmps145
  go_wp2
  all_goals (go_ret; refine ⟨ret_bool (Bool.eq_iff_iff.2 ?_), rfl⟩; simp_all [numOk]; try omega)
 ·have hz : (bits .and .u8 p h == 0) = false := by simpa [hasBit] using hb
  have hz2 : (bits .and .u8 p h != 0) = true := by rw [bne, hz]; rfl
  clear hb
  go_enter Tryz.func145, Tryz.ntmps145
  go_wp2
  all_goals (go_ret; refine ⟨ret_bool (Bool.eq_iff_iff.2 ?_), rfl⟩; simp_all [numOk]; try omega)
set_option maxHeartbeats 400000 in
theorem rvalue_calls (v : Val) (p h slots : Int) (a : Addr) (b : Nat) (w : World) (hc : w.cell? a = some (.int .u8 p)) (hg : w.cell? ⟨b, 2, none⟩ = some (.int .i64 slots)) :
  Calls Tryz.prog 146 #[.agg v.cells.toArray, .int .u8 h, .pointer (some a), .pointer (some ⟨b, 0, none⟩)] w fun e w' => e = .returned (.bool (valOk v (hasBit p h) slots)) ∧ Below w.heap.size w w' := by
 obtain ⟨s, n, x⟩ := v
 unfold Val.cells
 have hal := fun (o : Obj) => World.cell?_alloc_lt w o a (World.block_lt_of_cell? w a hc)
 have hbl := World.block_lt_of_cell? w ⟨b, 2, none⟩ hg
 dsimp only at hbl
 cases hb : hasBit p h
 ·have hz : (bits .and .u8 p h == 0) = true := by simpa [hasBit] using hb
  clear hb
  cases s <;> (
   go_enter Tryz.func146, Tryz.ntmps146
   go_wp2)
  all_goals (go_ret; refine ⟨ret_bool (Bool.eq_iff_iff.2 ?_), Below_alloc' _ _⟩; simp_all [valOk]; try omega)
 ·have hz : (bits .and .u8 p h == 0) = false := by simpa [hasBit] using hb
  clear hb
  cases s <;> (
   go_enter Tryz.func146, Tryz.ntmps146
   go_wp2)
  all_goals (go_ret; refine ⟨ret_bool (Bool.eq_iff_iff.2 ?_), Below_alloc' _ _⟩; simp_all [valOk]; try omega)
end Go.Proofs.YtffgnjgphkdodaaGreatDoor
namespace Go.Proofs.YtffgnjgphkdodaaGreatDoor
open Go Go.RowKit
set_option maxRecDepth 100000 in
set_option maxHeartbeats 2000000 in
theorem right_lock
  (kind op slot thing : Int) (a1 : Bool) (a2 a3 : Int) (b1 : Bool) (b2 b3 next els origin : Int) (sA lA nA : Option Addr) (sc lc nc S L N : Nat) (gv : Value) (gn : ByteArray) (gl gs : Int) (w : World) (ho1 : 0 ≤ op) (ho2 : op ≤ 255) (hk1 : 1 ≤ kind) (hk2 : kind ≤ 9) (hk3 : 0 ≤ origin) (hk4 : origin < 4096) (e5 : kind = 5 ∨ kind = 6) :
  Calls Tryz.prog 97 #[.agg #[.slice sA S sc, .slice lA L lc, gv], .agg #[.string gn, .int .i64 gl, .int .i64 gs, .slice nA N nc],
   .agg #[.int .u8 kind, .int .u8 op, .int .i64 slot, .int .i64 thing, .bool a1, .int .i64 a2, .int .i64 a3, .bool b1, .int .i64 b2, .int .i64 b3, .int .i64 next, .int .i64 els, .int .i64 origin]] w
   fun e w' => e = .returned (.bool (nodeOk S L gs N ⟨kind, op, slot, thing, ⟨a1, a2, a3⟩, ⟨b1, b2, b3⟩, next, els, origin⟩)) ∧ Below w.heap.size w w' := by
 have hh : nodeHead ⟨kind, op, slot, thing, ⟨a1, a2, a3⟩, ⟨b1, b2, b3⟩, next, els, origin⟩ = true := decide_eq_true ⟨hk1, hk2, hk3, hk4⟩
 have HH := Lib.hid hh; clear hh
 obtain ⟨p1, p2, p3, p4, p5, p6, p7⟩ := partsOf_bits hk1 hk2 op
 obtain ⟨P, hP⟩ : ∃ P, partsOf kind op = P := ⟨_, rfl⟩
 rw [hP] at p1 p2 p3 p4 p5 p6 p7
 have k0 : (kind == 0) = false := by simp; omega
 have f3 : ((kind == 5) || (kind == 6)) = true := by simpa using e5
 go_enter Tryz.func97, Tryz.ntmps97
 go_wp2_with (first
  | (go_at_call 144; refine (parts_calls ⟨kind, op, slot, thing, ⟨a1, a2, a3⟩, ⟨b1, b2, b3⟩, next, els, origin⟩ hk1 hk2 _).mono ?_; rintro e w1 ⟨rfl, hb⟩; obtain ⟨hc1, hf1⟩ := bcell hb; have hB : Below w.heap.size w w1 := (Below3 _ _ _ _).trans (hb.mono (by simp; omega)); have hz : w.heap.size + 2 < w1.heap.size := (by have := hb.size; (try simp at this); omega); have hz1 : w.heap.size + 1 < w1.heap.size := (by omega); have hz0 : w.heap.size < w1.heap.size := (by omega))
  | (go_at_call 145; refine (within_calls _ _ P _ _ _ (by go_simp)).mono ?_; rintro e w' ⟨rfl, rfl⟩)
  | (go_at_call 146; refine (rvalue_calls ⟨_, _, _⟩ P _ gs _ _ _ (by go_simp) (by go_simp)).mono ?_; rintro e w2 ⟨rfl, hb2⟩; obtain ⟨hc2, hf2⟩ := bcell hb2; have hB : Below w.heap.size w w2 := (by first | exact hB.trans (hb2.mono hB.size) | exact (hB.alloc hB.size _).trans (hb2.mono (hB.alloc hB.size _).size)); have hy3 : w1.heap.size < w2.heap.size := (by have := hb2.size; (try simp at this); omega); have hy : w.heap.size + 2 < w2.heap.size := (by omega); have hy1 : w.heap.size + 1 < w2.heap.size := (by omega); have hy0 : w.heap.size < w2.heap.size := (by omega)))
 all_goals (
  go_ret
  refine ⟨ret_bool ?_, by first | exact hB | exact hB.alloc hB.size _⟩
  have hh := HH.out
  simp only [nodeOk, hh]
  clear hh HH
  simp_all
  try (cases numOk slot _ _ <;> cases numOk thing _ _ <;> simp_all))
set_option maxRecDepth 100000 in
set_option maxHeartbeats 2000000 in
theorem right_plain
  (kind op slot thing : Int) (a1 : Bool) (a2 a3 : Int) (b1 : Bool) (b2 b3 next els origin : Int) (sA lA nA : Option Addr) (sc lc nc S L N : Nat) (gv : Value) (gn : ByteArray) (gl gs : Int) (w : World) (ho1 : 0 ≤ op) (ho2 : op ≤ 255) (hk1 : 1 ≤ kind) (hk2 : kind ≤ 9) (hk3 : 0 ≤ origin) (hk4 : origin < 4096) (e5 : ¬ kind = 5) (e6 : ¬ kind = 6) :
  Calls Tryz.prog 97 #[.agg #[.slice sA S sc, .slice lA L lc, gv], .agg #[.string gn, .int .i64 gl, .int .i64 gs, .slice nA N nc],
   .agg #[.int .u8 kind, .int .u8 op, .int .i64 slot, .int .i64 thing, .bool a1, .int .i64 a2, .int .i64 a3, .bool b1, .int .i64 b2, .int .i64 b3, .int .i64 next, .int .i64 els, .int .i64 origin]] w
   fun e w' => e = .returned (.bool (nodeOk S L gs N ⟨kind, op, slot, thing, ⟨a1, a2, a3⟩, ⟨b1, b2, b3⟩, next, els, origin⟩)) ∧ Below w.heap.size w w' := by
 have hh : nodeHead ⟨kind, op, slot, thing, ⟨a1, a2, a3⟩, ⟨b1, b2, b3⟩, next, els, origin⟩ = true := decide_eq_true ⟨hk1, hk2, hk3, hk4⟩
 have HH := Lib.hid hh; clear hh
 obtain ⟨p1, p2, p3, p4, p5, p6, p7⟩ := partsOf_bits hk1 hk2 op
 obtain ⟨P, hP⟩ : ∃ P, partsOf kind op = P := ⟨_, rfl⟩
 rw [hP] at p1 p2 p3 p4 p5 p6 p7
 have k0 : (kind == 0) = false := by simp; omega
 have f4 : (kind == 5) = false := by simp; omega
 have f5 : (kind == 6) = false := by simp; omega
 go_enter Tryz.func97, Tryz.ntmps97
 go_wp2_with (first
  | (go_at_call 144; refine (parts_calls ⟨kind, op, slot, thing, ⟨a1, a2, a3⟩, ⟨b1, b2, b3⟩, next, els, origin⟩ hk1 hk2 _).mono ?_; rintro e w1 ⟨rfl, hb⟩; obtain ⟨hc1, hf1⟩ := bcell hb; have hB : Below w.heap.size w w1 := (Below3 _ _ _ _).trans (hb.mono (by simp; omega)); have hz : w.heap.size + 2 < w1.heap.size := (by have := hb.size; (try simp at this); omega); have hz1 : w.heap.size + 1 < w1.heap.size := (by omega); have hz0 : w.heap.size < w1.heap.size := (by omega))
  | (go_at_call 145; refine (within_calls _ _ P _ _ _ (by go_simp)).mono ?_; rintro e w' ⟨rfl, rfl⟩)
  | (go_at_call 146; refine (rvalue_calls ⟨_, _, _⟩ P _ gs _ _ _ (by go_simp) (by go_simp)).mono ?_; rintro e w2 ⟨rfl, hb2⟩; obtain ⟨hc2, hf2⟩ := bcell hb2; have hB : Below w.heap.size w w2 := (by first | exact hB.trans (hb2.mono hB.size) | exact (hB.alloc hB.size _).trans (hb2.mono (hB.alloc hB.size _).size)); have hy3 : w1.heap.size < w2.heap.size := (by have := hb2.size; (try simp at this); omega); have hy : w.heap.size + 2 < w2.heap.size := (by omega); have hy1 : w.heap.size + 1 < w2.heap.size := (by omega); have hy0 : w.heap.size < w2.heap.size := (by omega)))
 all_goals (
  go_ret
  refine ⟨ret_bool ?_, by first | exact hB | exact hB.alloc hB.size _⟩
  have hh := HH.out
  have e8 : (kind == 8) = decide (kind = 8) := by rw [Bool.eq_iff_iff]; simp
  simp only [nodeOk, hh]
  clear hh HH
  simp_all
  try (cases numOk slot _ _ <;> cases numOk thing _ _ <;> simp_all))
set_option maxHeartbeats 1000000 in
theorem right_bad
  (kind op slot thing : Int) (a1 : Bool) (a2 a3 : Int) (b1 : Bool) (b2 b3 next els origin : Int) (sA lA nA : Option Addr) (sc lc nc S L N : Nat) (gv : Value) (gn : ByteArray) (gl gs : Int) (w : World) (_ho1 : 0 ≤ op) (_ho2 : op ≤ 255) (hn : 0 ≤ kind) (hk : ¬ (1 ≤ kind ∧ kind ≤ 9 ∧ 0 ≤ origin ∧ origin < 4096)) :
  Calls Tryz.prog 97 #[.agg #[.slice sA S sc, .slice lA L lc, gv], .agg #[.string gn, .int .i64 gl, .int .i64 gs, .slice nA N nc],
   .agg #[.int .u8 kind, .int .u8 op, .int .i64 slot, .int .i64 thing, .bool a1, .int .i64 a2, .int .i64 a3, .bool b1, .int .i64 b2, .int .i64 b3, .int .i64 next, .int .i64 els, .int .i64 origin]] w
   fun e w' => e = .returned (.bool (nodeOk S L gs N ⟨kind, op, slot, thing, ⟨a1, a2, a3⟩, ⟨b1, b2, b3⟩, next, els, origin⟩)) ∧ Below w.heap.size w w' := by
 have hf2 : nodeOk S L gs N ⟨kind, op, slot, thing, ⟨a1, a2, a3⟩, ⟨b1, b2, b3⟩, next, els, origin⟩ = false := by
  have : nodeHead ⟨kind, op, slot, thing, ⟨a1, a2, a3⟩, ⟨b1, b2, b3⟩, next, els, origin⟩ = false := decide_eq_false hk
  rw [nodeOk, this]; rfl
 have HF := Lib.hid hf2; clear hf2
 go_enter Tryz.func97, Tryz.ntmps97
 go_wp2_with fail
 all_goals first | (exfalso; simp only [beq_iff_eq] at *; omega) | skip
 all_goals (go_ret; exact ⟨ret_bool HF.out.symm, Below3 _ _ _ _⟩)
theorem right_calls (u : Unit_) (g : Graph) (n : Node) (m : CM) (cu cg : List Value) (hu : UnitV m cu u) (hg : GraphV m cg g) (hn : 0 ≤ n.kind) (ho : 0 ≤ n.op ∧ n.op ≤ 255) (w : World) :
  Calls Tryz.prog 97 #[.agg cu.toArray, .agg cg.toArray, .agg n.cells.toArray] w fun e w' => e = .returned (.bool (nodeOk u.shared.length u.locks.length g.slots g.nodes.length n)) ∧ Below w.heap.size w w' := by
 obtain ⟨sv, lv, gv, rfl, ⟨sA, sc, rfl, -, -, -⟩, ⟨lA, lc, rfl, -, -, -⟩, -⟩ := hu
 obtain ⟨nv, rfl, nA, nc, rfl, -, -, -⟩ := hg
 obtain ⟨kind, op, slot, thing, ⟨a1, a2, a3⟩, ⟨b1, b2, b3⟩, next, els, origin⟩ := n
 by_cases hk : 1 ≤ kind ∧ kind ≤ 9 ∧ 0 ≤ origin ∧ origin < 4096
 ·obtain ⟨hk1, hk2, hk3, hk4⟩ := hk
  by_cases e5 : kind = 5 ∨ kind = 6
  ·exact right_lock _ _ _ _ _ _ _ _ _ _ _ _ _ _ _ _ _ _ _ _ _ _ _ _ _ _ _ ho.1 ho.2 hk1 hk2 hk3 hk4 e5
  ·exact right_plain _ _ _ _ _ _ _ _ _ _ _ _ _ _ _ _ _ _ _ _ _ _ _ _ _ _ _ ho.1 ho.2 hk1 hk2 hk3 hk4 (fun e => e5 (.inl e)) (fun e => e5 (.inr e))
 ·exact right_bad _ _ _ _ _ _ _ _ _ _ _ _ _ _ _ _ _ _ _ _ _ _ _ _ _ _ _ ho.1 ho.2 hn hk
end Go.Proofs.YtffgnjgphkdodaaGreatDoor
