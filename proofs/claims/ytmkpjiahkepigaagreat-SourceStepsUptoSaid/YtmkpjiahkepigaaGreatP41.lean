import Derived.Test.YtmkpjiahkepigaaGreatP28
import Derived.Test.YtmkpjiahkepigaaGreatP02
import Derived.Laws.IdiomRangeMap
import Derived.Maps.RangeRun
/- The plain law of layer 9: has a thread a reached node of a kind. -/
namespace Go.Proofs.YtmkpjiahkepigaaGreat
open Go
open Classical
/-- Is there a reached node of which p holds? -/
noncomputable def anyN (g : Graph) (p : Node → Bool) : Bool := decide (∃ i n, g.nodes[i]? = some n ∧ ReachC g (-1) i ∧ p n = true)
theorem anyN_yes {g : Graph} {p : Node → Bool} {i : Nat} {n : Node} (h1 : g.nodes[i]? = some n) (h2 : ReachC g (-1) i) (h3 : p n = true) : anyN g p = true := by
  unfold anyN; exact decide_eq_true ⟨i, n, h1, h2, h3⟩
theorem anyN_no {g : Graph} {p : Node → Bool} (h : ∀ i n, g.nodes[i]? = some n → ReachC g (-1) i → p n = false) : anyN g p = false := by
  unfold anyN
  refine decide_eq_false ?_
  rintro ⟨i, n, h1, h2, h3⟩
  rw [h i n h1 h2] at h3
  cases h3
theorem anyN_iff {g : Graph} {p : Node → Bool} : anyN g p = true ↔ ∃ i n, g.nodes[i]? = some n ∧ ReachC g (-1) i ∧ p n = true := by
  unfold anyN; exact decide_eq_true_iff
/-- None so far. -/
def noneN (g : Graph) (p : Node → Bool) (k : Nat) : Prop := ∀ i n, i < k → g.nodes[i]? = some n → ReachC g (-1) i → p n = false
theorem noneN_zero (g : Graph) (p : Node → Bool) : noneN g p 0 := fun i n h => by omega
theorem noneN_succ {g : Graph} {p : Node → Bool} {k : Nat} {n : Node} (h : noneN g p k) (hn : g.nodes[k]? = some n) (hk : ¬ ReachC g (-1) k ∨ p n = false) : noneN g p (k + 1) := by
  intro i m hi hm hr
  by_cases e : i = k
  · subst e
    rw [hn] at hm
    injection hm with hm
    subst hm
    rcases hk with hk | hk
    · exact absurd hr hk
    · exact hk
  · exact h i m (by omega) hm hr
theorem noneN_end {g : Graph} {p : Node → Bool} {k : Nat} (h : noneN g p k) (hk : g.nodes.length ≤ k) : anyN g p = false :=
  anyN_no fun i n hn hr => h i n (by have := (List.getElem?_eq_some_iff.1 hn).1; omega) hn hr
theorem bool_of_reach {g : Graph} {l : List Bool} (hl : l.length = g.nodes.length) (hb : ∀ i, l[i]? = some true ↔ ReachC g (-1) i) {k : Nat} (hk : k < g.nodes.length) : ∃ b, l[k]? = some b ∧ (b = true ↔ ReachC g (-1) k) := by
  refine ⟨l[k]'(by omega), List.getElem?_eq_getElem _, ?_⟩
  rw [← hb k, List.getElem?_eq_getElem (by omega)]
  simp
def tchP (v : Int) (wr : Bool) (n : Node) : Bool := decide (n.thing = v) && (if wr = true then wrB n else rdB n)
def doesP (k v : Int) (n : Node) : Bool := decide (n.kind = k) && (decide (v < 0) || decide (n.thing = v))
/-- How many of the first k nodes are reached, and such. -/
noncomputable def cntN (g : Graph) (q : Node → Bool) : Nat → Nat
  | 0 => 0
  | k + 1 => cntN g q k + (if ∃ n, g.nodes[k]? = some n ∧ ReachC g (-1) k ∧ q n = true then 1 else 0)
theorem cntN_le (g : Graph) (q : Node → Bool) : ∀ k, cntN g q k ≤ k
  | 0 => Nat.le_refl _
  | k + 1 => by
    have := cntN_le g q k
    unfold cntN
    split <;> omega
theorem cntN_yes {g : Graph} {q : Node → Bool} {k : Nat} {n : Node} (hn : g.nodes[k]? = some n) (hr : ReachC g (-1) k) (hq : q n = true) : cntN g q (k + 1) = cntN g q k + 1 := by
  rw [cntN, if_pos ⟨n, hn, hr, hq⟩]
theorem cntN_no {g : Graph} {q : Node → Bool} {k : Nat} {n : Node} (hn : g.nodes[k]? = some n) (h : ¬ ReachC g (-1) k ∨ q n = false) : cntN g q (k + 1) = cntN g q k := by
  rw [cntN, if_neg, Nat.add_zero]
  rintro ⟨m, hm, hr, hq⟩
  rw [hn] at hm
  injection hm with hm
  subst hm
  rcases h with h | h
  · exact h hr
  · rw [h] at hq; cases hq
theorem cntN_pos {g : Graph} {q : Node → Bool} : ∀ k, 0 < cntN g q k ↔ ∃ i n, i < k ∧ g.nodes[i]? = some n ∧ ReachC g (-1) i ∧ q n = true
  | 0 => by
    constructor
    · intro h; exact absurd h (Nat.lt_irrefl _)
    · rintro ⟨i, _, h, _⟩; omega
  | k + 1 => by
    have ih := cntN_pos (g := g) (q := q) k
    rw [cntN]
    constructor
    · intro h
      by_cases hc : ∃ n, g.nodes[k]? = some n ∧ ReachC g (-1) k ∧ q n = true
      · obtain ⟨n, h1, h2, h3⟩ := hc
        exact ⟨k, n, by omega, h1, h2, h3⟩
      · rw [if_neg hc, Nat.add_zero] at h
        obtain ⟨i, n, h1, h2⟩ := ih.1 h
        exact ⟨i, n, by omega, h2⟩
    · rintro ⟨i, n, h1, h2, h3, h4⟩
      by_cases e : i = k
      · subst e
        rw [if_pos ⟨n, h2, h3, h4⟩]
        omega
      · have := ih.2 ⟨i, n, by omega, h2, h3, h4⟩
        omega
theorem cntN_any {g : Graph} {q : Node → Bool} {k : Nat} (hk : g.nodes.length ≤ k) : decide (0 < cntN g q k) = anyN g q := by
  rw [Bool.eq_iff_iff, decide_eq_true_iff, anyN_iff, cntN_pos]
  constructor
  · rintro ⟨i, n, _, h⟩; exact ⟨i, n, h⟩
  · rintro ⟨i, n, h1, h⟩; exact ⟨i, n, by have := (List.getElem?_eq_some_iff.1 h1).1; omega, h1, h⟩
/-- What a map of counts answers. -/
def cntV (c : Nat) : Option Value := if c = 0 then none else some (.int .i64 c)
theorem cntV_get (c : Nat) : (cntV c).getD (.int .i64 0) = .int .i64 c := by
  unfold cntV
  split
  · rename_i h; subst h; rfl
  · rfl
def atP (p : Node → Bool) (x : Int) (n : Node) : Bool := p n && decide (n.thing = x)
noncomputable def cntF (g : Graph) (p : Node → Bool) (k : Nat) (x : Int) : Option Value := cntV (cntN g (atP p x) k)
theorem cntF_zero (g : Graph) (p : Node → Bool) : cntF g p 0 = fun _ => none := by
  funext x
  rfl
theorem cntF_yes {g : Graph} {p : Node → Bool} {k : Nat} {n : Node} (hn : g.nodes[k]? = some n) (hr : ReachC g (-1) k) (hp : p n = true) : cntF g p (k + 1) = fun x => if x = n.thing then some (.int .i64 ((cntN g (atP p n.thing) k : Nat) + 1)) else cntF g p k x := by
  funext x
  by_cases e : x = n.thing
  · subst e
    rw [if_pos rfl]
    unfold cntF cntV
    rw [cntN_yes hn hr (by simp [atP, hp]), if_neg (by omega)]
    rfl
  · rw [if_neg e]
    unfold cntF
    rw [cntN_no hn (.inr (by simp only [atP, Bool.and_eq_false_iff, decide_eq_false_iff_not]; exact .inr (fun h => e h.symm)))]
theorem cntF_no {g : Graph} {p : Node → Bool} {k : Nat} {n : Node} (hn : g.nodes[k]? = some n) (h : ¬ ReachC g (-1) k ∨ p n = false) : cntF g p (k + 1) = cntF g p k := by
  funext x
  unfold cntF
  rw [cntN_no hn]
  rcases h with h | h
  · exact .inl h
  · exact .inr (by simp [atP, h])
def lkB (n : Node) : Bool := decide (n.kind = 5)
def prB (n : Node) : Bool := decide (n.kind = 7)
end Go.Proofs.YtmkpjiahkepigaaGreat
/- The walk of sharing.meet: have two maps of counts a key in common. -/
namespace Go.Proofs.YtmkpjiahkepigaaGreat
open Go Go.RowKit
abbrev iv : Int → Value := fun n => Value.int .i64 n
theorem seek_has {κ : Type} [DecidableEq κ] {dec : Value → Option κ} {k : κ} {es : List MapEntry} {e : MapEntry} (he : e ∈ es) (hd : dec e.key = some k) : ∃ i v, seek dec k es 0 = some (i, v) := by
  cases h : seek dec k es 0 with
  | none => exact (seek_none_at k es 0 h e he hd).elim
  | some x => exact ⟨x.1, x.2, rfl⟩
theorem cntV_some {c : Nat} : cntV c ≠ none ↔ 0 < c := by
  unfold cntV
  split <;> simp <;> omega
theorem seek_cnt {es : Array MapEntry} {c : Int → Nat} (hF : ∀ k, (seek decInt k es.toList 0).map (·.2) = cntV (c k)) {e : MapEntry} (he : e ∈ es.toList) {x : Int} (hk : e.key = .int .i64 x) : 0 < c x := by
  obtain ⟨i, v, h⟩ := seek_has (dec := decInt) (k := x) he (by rw [hk]; rfl)
  have h2 := hF x
  rw [h] at h2
  rw [← cntV_some, ← h2]
  simp
theorem cnt_seek {es : Array MapEntry} {c : Int → Nat} (hF : ∀ k, (seek decInt k es.toList 0).map (·.2) = cntV (c k)) (hks : ∀ e ∈ es.toList, ∃ k' : Int, e.key = iv k') {x : Int} (hc : 0 < c x) : ∃ e ∈ es.toList, e.key = .int .i64 x := by
  have h2 := hF x
  cases h : seek decInt x es.toList 0 with
  | none =>
    rw [h] at h2
    have := cntV_some.2 hc
    rw [← h2] at this
    simp at this
  | some y =>
    obtain ⟨i, v⟩ := y
    obtain ⟨_, e, he, hd⟩ := seek_at x es.toList 0 i v h
    have hm := List.mem_of_getElem? he
    refine ⟨e, hm, ?_⟩
    obtain ⟨k', hk⟩ := hks e hm
    rw [hk] at hd
    have : k' = x := by simpa [decInt] using hd
    rw [hk, this]
theorem setBlock_new (w : World) (o o' : Obj) : ChangeMaps.setBlock (w.alloc o) w.heap.size o' = w.alloc o' := by
  have hp : ∀ (h : Array Obj) (x y : Obj), (h.push x).setIfInBounds h.size y = h.push y := by
    intro h x y
    apply Array.toList_inj.1
    simp
  unfold ChangeMaps.setBlock World.alloc
  simp [hp]
/-- The step of a range over a map, the iterator's block being the last one. -/
theorem run_next_t {P : Program} (w : World) (ty : TypeId) (bm since c0 : Nat) (seen : Array Nat) (es : Array MapEntry) (clock : Nat) (hb : w.heap[bm]? = some (.map es clock)) (hold : ∀ x ∈ es.toList, x.born < since) (hsc : since ≤ c0) :
    ((leftOf es seen).size = 0 ∧ (Instr.next (.pointer (some ⟨w.heap.size, 0, none⟩)) false ty).run P (w.alloc (.mapIter (some bm) since seen c0)) = .ok (.tuple #[.bool false]) (w.alloc (.mapIter (some bm) since seen c0))) ∨
    ∃ e ∈ (leftOf es seen).toList, ∃ w1 : World, w1.Alike w ∧ w1.tape = w.tape ∧ (Instr.next (.pointer (some ⟨w.heap.size, 0, none⟩)) false ty).run P (w.alloc (.mapIter (some bm) since seen c0)) = .ok (.tuple #[.bool true, e.key, e.val]) (w1.alloc (.mapIter (some bm) since (seen.push e.born) clock)) := by
  have hlt := lt_of_block hb
  rcases run_next_at (P := P) (w.alloc (.mapIter (some bm) since seen c0)) ty w.heap.size bm since c0 seen es clock (heap_alloc_new w _) (by rw [heap_alloc_old w _ hlt, hb]) hold hsc with h | ⟨e, he, w1, hw, hr⟩
  · exact .inl h
  · refine .inr ⟨e, he, ?_⟩
    rcases hw with rfl | rfl
    · exact ⟨w, ⟨rfl, rfl, rfl⟩, rfl, by rw [hr, setBlock_new]⟩
    · exact ⟨w.drew, ⟨rfl, rfl, rfl⟩, rfl, by rw [hr]; exact congrArg _ (setBlock_new w.drew _ _)⟩
theorem below_iter {w w1 : World} (h : w1.Alike w) (ht : w1.tape = w.tape) (o : Obj) : Below w.heap.size w (w1.alloc o) :=
  Below.trans (b := w1) ⟨h.2.1, ht, h.2.2, by rw [h.1]; exact Nat.le_refl _, fun k _ => by rw [h.1]⟩ (Below.alloc (Below.refl _ _) (by rw [h.1]; exact Nat.le_refl _) o)
end Go.Proofs.YtmkpjiahkepigaaGreat
