import Derived.Test.YtkkmkjjbffpgnaaP28
import Derived.Test.YtkkmkjjbffpgnaaP08
import Derived.Test.YtkkmkjjbffpgnaaP43
import Derived.Test.YtkkmkjjbffpgnaaP09
/- The plain law of SharingRaces: the document's own pairs are those that sharing hands out, in their order. -/
namespace Go.Proofs.Ytkkmkjjbffpgnaa
open Go
def comB (a b : List Int) : Bool := a.any fun x => b.any fun y => decide (x = y)
def rrB (a b : Hit) : Bool := (touchB a.n && touchB b.n) && (decide (a.n.thing = b.n.thing) && ((wrB a.n || wrB b.n) && !comB a.l b.l))
noncomputable def rpairs (u : Unit_) : List (Hit × Hit) := (hitsU u).flatMap fun a => ((hitsU u).filter fun b => decide (a.t < b.t) && rrB a b).map fun b => (a, b)
theorem com_mask {a b : List Int} (ha : ∀ k ∈ a, 0 ≤ k) (hb : ∀ k ∈ b, 0 ≤ k) : (!comB a b) = decide (hMask a &&& hMask b = 0) := by
  rw [Bool.eq_iff_iff, Bool.not_eq_true', decide_eq_true_eq]
  unfold comB
  constructor
  · intro h
    refine Nat.eq_of_testBit_eq fun k => ?_
    rw [Nat.testBit_and, hMask_bit _ ha, hMask_bit _ hb, Nat.zero_testBit, Bool.and_eq_false_iff]
    by_cases hk : isIn a k = true
    · right
      unfold isIn at hk ⊢
      rw [decide_eq_true_eq] at hk
      rw [decide_eq_false_iff_not]
      intro hk2
      rw [List.any_eq_false] at h
      have h1 := h _ hk
      simp only [Bool.not_eq_true, List.any_eq_false, decide_eq_true_eq] at h1
      exact h1 _ hk2 rfl
    · left
      simpa using hk
  · intro h
    rw [List.any_eq_false]
    intro x hx hany
    rw [List.any_eq_true] at hany
    obtain ⟨y, hy, e⟩ := hany
    rw [decide_eq_true_eq] at e
    subst e
    obtain ⟨n, rfl⟩ := Int.eq_ofNat_of_zero_le (ha x hx)
    have := Nat.testBit_and (hMask a) (hMask b) n
    rw [h, hMask_bit _ ha, hMask_bit _ hb, Nat.zero_testBit] at this
    unfold isIn at this
    simp at this
    exact this hx hy
theorem flat_filter {α β : Type} (p : α → Bool) (f : α → List β) : ∀ l : List α, (l.filter p).flatMap f = l.flatMap fun a => if p a = true then f a else []
  | [] => rfl
  | a :: l => by
    by_cases h : p a = true
    · rw [List.filter_cons_of_pos h, List.flatMap_cons, List.flatMap_cons, flat_filter p f l, if_pos h]
    · rw [List.filter_cons_of_neg h, List.flatMap_cons, flat_filter p f l, if_neg h, List.nil_append]
theorem flat_congr {α β : Type} {f g : α → List β} : ∀ {l : List α}, (∀ a ∈ l, f a = g a) → l.flatMap f = l.flatMap g
  | [], _ => rfl
  | a :: l, h => by rw [List.flatMap_cons, List.flatMap_cons, h a (by simp), flat_congr (fun b hb => h b (by simp [hb]))]
theorem raceA_pairs {u : Unit_} (hu : RightU u) : (raceA u).map (fun p => (p.1.1, p.2.1)) = rpairs u := by
  have hl : ∀ h ∈ hitsU u, ∀ k ∈ h.l, 0 ≤ k := fun h hm k hk => ((hit_held hu hm).1 k hk).1
  have key : ∀ T : List Hit, T = (TTa u).map (·.1) → (raceA u).map (fun p => (p.1.1, p.2.1)) = T.flatMap fun a => (T.filter fun b => raceB a b).map fun b => (a, b) := by
    intro T hv
    unfold raceA flatR
    rw [List.map_flatMap, hv, List.flatMap_map]
    refine flat_congr fun a _ => ?_
    unfold innerR
    rw [List.map_map, List.filter_map, List.map_map]
    rfl
  rw [key (TT u) (TTa_val u).symm]
  unfold rpairs TT
  rw [flat_filter]
  refine flat_congr fun a ha => ?_
  by_cases hta : touchB a.n = true
  · rw [if_pos hta, List.filter_filter]
    congr 1
    refine List.filter_congr fun b hb => ?_
    unfold rrB raceB
    rw [com_mask (hl a ha) (hl b hb), hta]
    cases touchB b.n <;> cases decide (a.n.thing = b.n.thing) <;> cases decide (a.t < b.t) <;> simp
  · rw [if_neg hta]
    symm
    rw [List.map_eq_nil_iff, List.filter_eq_nil_iff]
    intro b _ h
    unfold rrB at h
    simp [hta] at h
end Go.Proofs.Ytkkmkjjbffpgnaa
/- The plain law of the reference's Races: what is still to come, wherever its loops stand. -/
namespace Go.Proofs.Ytkkmkjjbffpgnaa
open Go
abbrev Quad := Nat × Nat × Nat × Nat
def qcells (q : Quad) : List Value := [.int .i64 q.1, .int .i64 q.2.1, .int .i64 q.2.2.1, .int .i64 q.2.2.2]
abbrev quadV : CM → List Value → Quad → Prop := fun _ cs q => cs = qcells q
def qd (a b : Hit) : Quad := (a.t, a.i, b.t, b.i)
def rrN (a b : Node) (la lb : List Int) : Bool := (touchB a && touchB b) && (decide (a.thing = b.thing) && ((wrB a || wrB b) && !comB la lb))
theorem rrB_eq (a b : Hit) : rrB a b = rrN a.n b.n a.l b.l := rfl
noncomputable def prs (u : Unit_) (x : Hit) : List Quad := ((hitsU u).filter fun b => decide (x.t < b.t) && rrB x b).map (qd x)
noncomputable def rquads (u : Unit_) : List Quad := (hitsU u).flatMap (prs u)
theorem rquads_pairs (u : Unit_) : (rpairs u).map (fun p => qd p.1 p.2) = rquads u := by
  unfold rpairs rquads prs
  rw [List.map_flatMap]
  congr 1
  funext a
  rw [List.map_map]
  rfl
theorem hits_append : ∀ (l1 l2 : List Graph) (t : Nat), hits t (l1 ++ l2) = hits t l1 ++ hits (t + l1.length) l2
  | [], _, _ => by simp [hits]
  | g :: l1, l2, t => by
    rw [List.cons_append]
    simp only [hits]
    rw [hits_append l1 l2 (t + 1), List.append_assoc, List.length_cons]
    congr 3
    omega
theorem hits_t {l : List Graph} {t : Nat} {h : Hit} (hm : h ∈ hits t l) : t ≤ h.t ∧ h.t < t + l.length := by
  obtain ⟨j, g, e, hg, _⟩ := hits_mem _ _ h hm
  have := (List.getElem?_eq_some_iff.1 hg).1
  omega
theorem hits_late (u : Unit_) (t : Nat) (q : Hit → Bool) : (hitsU u).filter (fun b => decide (t < b.t) && q b) = (hits (t + 1) (u.graphs.drop (t + 1))).filter q := by
  have e : hitsU u = hits 0 (u.graphs.take (t + 1)) ++ hits (0 + (u.graphs.take (t + 1)).length) (u.graphs.drop (t + 1)) := by
    rw [← hits_append, List.take_append_drop]; rfl
  rw [e, List.filter_append]
  have e1 : (hits 0 (u.graphs.take (t + 1))).filter (fun b => decide (t < b.t) && q b) = [] := by
    rw [List.filter_eq_nil_iff]
    intro b hb
    have := hits_t hb
    have h2 : (u.graphs.take (t + 1)).length ≤ t + 1 := List.length_take_le _ _
    have : ¬ t < b.t := by omega
    simp [this]
  rw [e1, List.nil_append]
  by_cases hlt : t + 1 ≤ u.graphs.length
  · have e2 : (u.graphs.take (t + 1)).length = t + 1 := by simp; omega
    rw [e2, Nat.zero_add]
    refine List.filter_congr fun b hb => ?_
    have := (hits_t hb).1
    have : t < b.t := by omega
    simp [this]
  · rw [List.drop_eq_nil_of_le (by omega)]
    rfl
noncomputable def qrest1 (u : Unit_) (a : Nat) : List Quad := (hits a (u.graphs.drop a)).flatMap (prs u)
noncomputable def qrest2 (u : Unit_) (a : Nat) (g : Graph) (i : Nat) : List Quad := (hitsOf a g i (g.nodes.drop i)).flatMap (prs u) ++ qrest1 u (a + 1)
noncomputable def qrest3 (u : Unit_) (x : Hit) (g : Graph) (b : Nat) : List Quad := ((hits b (u.graphs.drop b)).filter (rrB x)).map (qd x) ++ qrest2 u x.t g (x.i + 1)
noncomputable def qrest4 (u : Unit_) (x : Hit) (g : Graph) (b : Nat) (gb : Graph) (j : Nat) : List Quad := ((hitsOf b gb j (gb.nodes.drop j)).filter (rrB x)).map (qd x) ++ qrest3 u x g (b + 1)
theorem qrest1_zero (u : Unit_) : qrest1 u 0 = rquads u := by unfold qrest1 rquads hitsU; rw [List.drop_zero]
theorem qrest1_at {u : Unit_} {a : Nat} {g : Graph} (h : u.graphs[a]? = some g) : qrest1 u a = qrest2 u a g 0 := by
  obtain ⟨h1, h2⟩ := List.getElem?_eq_some_iff.1 h
  unfold qrest1 qrest2
  rw [List.drop_eq_getElem_cons h1, h2, List.drop_zero]
  simp only [hits, List.flatMap_append]
  rfl
theorem qrest1_end {u : Unit_} {a : Nat} (h : u.graphs.length ≤ a) : qrest1 u a = [] := by
  unfold qrest1
  rw [List.drop_eq_nil_of_le h]
  rfl
theorem qrest2_end {u : Unit_} {a : Nat} {g : Graph} {i : Nat} (h : g.nodes.length ≤ i) : qrest2 u a g i = qrest1 u (a + 1) := by
  unfold qrest2
  rw [List.drop_eq_nil_of_le h]
  rfl
theorem qrest2_no {u : Unit_} {a : Nat} {g : Graph} {i : Nat} {n : Node} (hn : g.nodes[i]? = some n) (hr : ¬ ReachC g (-1) i) : qrest2 u a g i = qrest2 u a g (i + 1) := by
  obtain ⟨h1, h2⟩ := List.getElem?_eq_some_iff.1 hn
  unfold qrest2
  rw [List.drop_eq_getElem_cons h1, h2, hitsOf_no hr]
theorem qrest2_yes {u : Unit_} {a : Nat} {g : Graph} {i : Nat} {n : Node} (hn : g.nodes[i]? = some n) (hr : ReachC g (-1) i) : qrest2 u a g i = qrest3 u ⟨a, i, n, heldAt g i⟩ g (a + 1) := by
  obtain ⟨h1, h2⟩ := List.getElem?_eq_some_iff.1 hn
  unfold qrest3 qrest2
  rw [List.drop_eq_getElem_cons h1, h2, hitsOf_yes hr, List.flatMap_cons, List.append_assoc]
  congr 1
  unfold prs
  rw [hits_late u a]
theorem qrest3_end {u : Unit_} {x : Hit} {g : Graph} {b : Nat} (h : u.graphs.length ≤ b) : qrest3 u x g b = qrest2 u x.t g (x.i + 1) := by
  unfold qrest3
  rw [List.drop_eq_nil_of_le h]
  rfl
theorem qrest3_at {u : Unit_} {x : Hit} {g gb : Graph} {b : Nat} (h : u.graphs[b]? = some gb) : qrest3 u x g b = qrest4 u x g b gb 0 := by
  obtain ⟨h1, h2⟩ := List.getElem?_eq_some_iff.1 h
  unfold qrest4 qrest3
  rw [List.drop_eq_getElem_cons h1, h2, List.drop_zero]
  simp only [hits, List.filter_append, List.map_append, List.append_assoc]
theorem qrest4_end {u : Unit_} {x : Hit} {g gb : Graph} {b j : Nat} (h : gb.nodes.length ≤ j) : qrest4 u x g b gb j = qrest3 u x g (b + 1) := by
  unfold qrest4
  rw [List.drop_eq_nil_of_le h]
  rfl
theorem qrest4_no {u : Unit_} {x : Hit} {g gb : Graph} {b j : Nat} {m : Node} (hn : gb.nodes[j]? = some m) (h : ¬ ReachC gb (-1) j ∨ rrB x ⟨b, j, m, heldAt gb j⟩ = false) : qrest4 u x g b gb j = qrest4 u x g b gb (j + 1) := by
  obtain ⟨h1, h2⟩ := List.getElem?_eq_some_iff.1 hn
  unfold qrest4
  rw [List.drop_eq_getElem_cons h1, h2]
  by_cases hr : ReachC gb (-1) j
  · rw [hitsOf_yes hr]
    rcases h with h | h
    · exact absurd hr h
    · rw [List.filter_cons_of_neg (by simpa using h)]
  · rw [hitsOf_no hr]
theorem qrest4_yes {u : Unit_} {x : Hit} {g gb : Graph} {b j : Nat} {m : Node} (hn : gb.nodes[j]? = some m) (hr : ReachC gb (-1) j) (h : rrB x ⟨b, j, m, heldAt gb j⟩ = true) : qrest4 u x g b gb j = qd x ⟨b, j, m, heldAt gb j⟩ :: qrest4 u x g b gb (j + 1) := by
  obtain ⟨h1, h2⟩ := List.getElem?_eq_some_iff.1 hn
  unfold qrest4
  rw [List.drop_eq_getElem_cons h1, h2, hitsOf_yes hr, List.filter_cons_of_pos (by simpa using h)]
  rfl
open Classical in
noncomputable def reachL (g : Graph) : List Bool := (List.range g.nodes.length).map fun i => decide (ReachC g (-1) i)
open Classical in
theorem reachL_eq {g : Graph} {l : List Bool} (hl : l.length = g.nodes.length) (hb : ∀ i : Nat, l[i]? = some true ↔ ReachC g (-1) i) : l = reachL g := by
  refine List.ext_getElem? fun i => ?_
  unfold reachL
  rw [List.getElem?_map]
  by_cases hi : i < g.nodes.length
  · rw [List.getElem?_range hi, List.getElem?_eq_getElem (by omega)]
    simp only [Option.map_some, Option.some.injEq]
    have := hb i
    rw [List.getElem?_eq_getElem (by omega)] at this
    simp only [Option.some.injEq] at this
    rw [Bool.eq_iff_iff, this, decide_eq_true_iff]
  · rw [List.getElem?_eq_none (by omega), List.getElem?_eq_none (by simp; omega)]
    rfl
open Classical in
theorem reachL_at {g : Graph} {i : Nat} (hi : i < g.nodes.length) : (reachL g)[i]? = some (decide (ReachC g (-1) i)) := by
  unfold reachL
  rw [List.getElem?_map, List.getElem?_range hi]
  rfl
theorem reachL_len (g : Graph) : (reachL g).length = g.nodes.length := by unfold reachL; simp
end Go.Proofs.Ytkkmkjjbffpgnaa
/- The walks of the reference's common and race. -/
namespace Go.Proofs.Ytkkmkjjbffpgnaa
open Go Go.RowKit
theorem comB_no {a b : List Int} (h : ∀ x ∈ a, ∀ y ∈ b, x ≠ y) : comB a b = false := by
  unfold comB
  rw [List.any_eq_false]
  intro x hx
  simp only [Bool.not_eq_true, List.any_eq_false, decide_eq_true_eq]
  exact fun y hy => h x hx y hy
theorem comB_yes {a b : List Int} {x : Int} (hx : x ∈ a) (hy : x ∈ b) : comB a b = true := by
  unfold comB
  rw [List.any_eq_true]
  refine ⟨x, hx, ?_⟩
  rw [List.any_eq_true]
  exact ⟨x, hy, by simp⟩
def NoCom (a b : List Int) (i : Nat) : Prop := ∀ x ∈ a.take i, ∀ y ∈ b, x ≠ y
def NoComJ (x : Int) (b : List Int) (j : Nat) : Prop := ∀ y ∈ b.take j, x ≠ y
set_option maxHeartbeats 1000000 in
theorem common_calls (va vb : Value) (a b : List Int) (w : World) (h1 : Ints (cmap w) va a) (h2 : Ints (cmap w) vb b) :
    Calls Try.prog 112 #[va, vb] w fun e w' => e = .returned (.bool (comB a b)) ∧ w = w' := by
  obtain ⟨A1, c1, rfl, -⟩ := id h1
  obtain ⟨A2, c2, rfl, -⟩ := id h2
  have b1 := h1.len.2.2
  have b2 := h2.len.2.2
  obtain ⟨r, hr⟩ : ∃ r, comB a b = r := ⟨_, rfl⟩
  rw [hr]
  have HR := Lib.hid hr; clear hr
  go_enter Try.func112, Try.ntmps112
  go_wp2
  go_loop [11] (fun v => ∃ i : Nat, v = .int .i64 i ∧ i ≤ a.length ∧ NoCom a b i) (fun v => a.length - (intOf v).toNat)
  case atStart => exact ⟨0, rfl, by omega, fun x hx => by simp at hx⟩
  case round =>
    obtain ⟨i, rfl, hi, hno⟩ := hrel
    have HN := Lib.hid hno; clear hno
    by_cases hlt : i < a.length
    · obtain ⟨x, hx⟩ : ∃ x, a[i]? = some x := ⟨_, List.getElem?_eq_getElem hlt⟩
      obtain ⟨pb, po, rfl, g⟩ := h1.at_ hx
      rw [Nat.mul_one] at g
      have g' : w.cell? ⟨pb, po + i, none⟩ = some (.int .i64 x) := g
      clear g
      have HX := Lib.hid hx; clear hx
      have i0 : (0 : Int) ≤ i := by omega
      have i1 : (i : Int) < a.length := by omega
      go_wp2
      go_loop [17] (fun v => ∃ j : Nat, v = .int .i64 j ∧ j ≤ b.length ∧ NoComJ x b j) (fun v => b.length - (intOf v).toNat)
      case atStart => exact ⟨0, rfl, by omega, fun y hy => by simp at hy⟩
      case round =>
        obtain ⟨j, rfl, hj, hnj⟩ := hrel
        have HJ := Lib.hid hnj; clear hnj
        by_cases hjl : j < b.length
        · obtain ⟨y, hy⟩ : ∃ y, b[j]? = some y := ⟨_, List.getElem?_eq_getElem hjl⟩
          obtain ⟨qb, qo, rfl, q⟩ := h2.at_ hy
          rw [Nat.mul_one] at q
          have q' : w.cell? ⟨qb, qo + j, none⟩ = some (.int .i64 y) := q
          clear q
          have HY := Lib.hid hy; clear hy
          have j0 : (0 : Int) ≤ j := by omega
          have j1 : (j : Int) < b.length := by omega
          by_cases he : x = y
          · subst he
            have e1 : (x == x) = true := by simp
            have hrr : r = true := by rw [← HR.out]; exact comB_yes (List.mem_of_getElem? HX.out) (List.mem_of_getElem? HY.out)
            have HRR := Lib.hid hrr; clear hrr
            go_wp2
            go_ret
            exact ⟨ret_bool HRR.out.symm, rfl⟩
          · have e1 : (x == y) = false := by simpa using he
            have HE : Hid (¬ x = y) := Lib.hid he
            clear he
            go_wp2
            go_round
            case rel => exact ⟨j + 1, by go_num, by omega, fun z hz => by
              rw [List.take_succ_eq_append_getElem hjl, (List.getElem?_eq_some_iff.1 HY.out).2, List.mem_append, List.mem_singleton] at hz
              rcases hz with hz | rfl
              · exact HJ.out z hz
              · exact HE.out⟩
            case measure => simp [intOf]; omega
        · have HJ2 : Hid (∀ y ∈ b, x ≠ y) := Lib.hid (by have := HJ.out; unfold NoComJ at this; rwa [List.take_of_length_le (by omega)] at this)
          go_wp2
          go_round
          case rel => exact ⟨i + 1, by go_num, by omega, fun z hz => by
            rw [List.take_succ_eq_append_getElem hlt, (List.getElem?_eq_some_iff.1 HX.out).2, List.mem_append, List.mem_singleton] at hz
            rcases hz with hz | rfl
            · exact HN.out z hz
            · exact HJ2.out⟩
          case measure => simp [intOf]; omega
    · have hrr : r = false := by
        rw [← HR.out]
        have := HN.out
        unfold NoCom at this
        rw [List.take_of_length_le (by omega)] at this
        exact comB_no this
      have HRR := Lib.hid hrr; clear hrr
      go_wp2
      go_ret
      exact ⟨ret_bool HRR.out.symm, rfl⟩
theorem race_F1 {a b : Node} {la lb : List Int} (h1 : rdB a = false) (h2 : wrB a = false) : rrN a b la lb = false := by unfold rrN; rw [touch_rw a, h1, h2]; rfl
theorem race_F2 {a b : Node} {la lb : List Int} (h1 : rdB b = false) (h2 : wrB b = false) : rrN a b la lb = false := by unfold rrN; rw [touch_rw b, h1, h2]; simp
theorem race_F3 {a b : Node} {la lb : List Int} (h : a.thing ≠ b.thing) : rrN a b la lb = false := by unfold rrN; simp [h]
theorem race_F4 {a b : Node} {la lb : List Int} (h1 : wrB a = false) (h2 : wrB b = false) : rrN a b la lb = false := by unfold rrN; simp [h1, h2]
theorem race_T {a b : Node} {la lb : List Int} (h1 : touchB a = true) (h2 : touchB b = true) (h3 : a.thing = b.thing) (h4 : wrB a = true ∨ wrB b = true) : rrN a b la lb = !comB la lb := by
  unfold rrN
  rcases h4 with h4 | h4 <;> simp [h1, h2, h3, h4]
set_option maxRecDepth 100000 in
set_option maxHeartbeats 4000000 in
theorem race9_calls (x y : Node) (va vb : Value) (la lb : List Int) (w : World) (h1 : Ints (cmap w) va la) (h2 : Ints (cmap w) vb lb) :
    Calls Try.prog 80 #[.agg x.cells.toArray, .agg y.cells.toArray, va, vb] w fun e w' => e = .returned (.bool (rrN x y la lb)) ∧ Below w.heap.size w w' := by
  obtain ⟨r, hr⟩ : ∃ r, rrN x y la lb = r := ⟨_, rfl⟩
  rw [hr]
  have HR := Lib.hid hr; clear hr
  have bx0 : Blk ((w.alloc (.cells x.cells.toArray 67)).alloc (.cells y.cells.toArray 67)) w.heap.size 67 x.cells := (Blk.new w _ _).alloc _
  have by0 : Blk ((w.alloc (.cells x.cells.toArray 67)).alloc (.cells y.cells.toArray 67)) (w.heap.size + 1) 67 y.cells := Blk.of (heap_new (w.alloc _) _ _ (by simp)) rfl
  have hw0 : Below w.heap.size w ((w.alloc (.cells x.cells.toArray 67)).alloc (.cells y.cells.toArray 67)) := (Below_alloc' _ _).alloc (by simp) _
  have HCZ : Hid (∀ j v, x.cells[j]? = some v → ((w.alloc (.cells x.cells.toArray 67)).alloc (.cells y.cells.toArray 67)).cell? ⟨w.heap.size, 0 + j, none⟩ = some v) := Lib.hid fun j v hj => by rw [Nat.zero_add, bx0.cell]; exact hj
  obtain ⟨w0, hwq⟩ : ∃ w0, (w.alloc (.cells x.cells.toArray 67)).alloc (.cells y.cells.toArray 67) = w0 := ⟨_, rfl⟩
  rw [hwq] at bx0 by0 hw0
  have HWQ := Lib.hid hwq; clear hwq
  have cl : ∀ (n : Node) b (W : World), Blk W b 67 n.cells → ∀ j v, n.cells[j]? = some v → W.cell? ⟨b, 0 + j, none⟩ = some v := fun n b W h j v hj => by rw [Nat.zero_add, h.cell]; exact hj
  have CL := Lib.hid cl; clear cl
  obtain ⟨xr, hxr⟩ : ∃ q, rdB x = q := ⟨_, rfl⟩
  obtain ⟨xw, hxw⟩ : ∃ q, wrB x = q := ⟨_, rfl⟩
  obtain ⟨yr, hyr⟩ : ∃ q, rdB y = q := ⟨_, rfl⟩
  obtain ⟨yw, hyw⟩ : ∃ q, wrB y = q := ⟨_, rfl⟩
  have HXR := Lib.hid hxr; have HXW := Lib.hid hxw; have HYR := Lib.hid hyr; have HYW := Lib.hid hyw
  clear hxr hxw hyr hyw
  have HC0 := Lib.hid (CL.out x _ _ bx0)
  have HD0 := Lib.hid (CL.out y _ _ by0)
  have hun : x.cells.length = 13 := rfl
  clear hun
  go_enter Try.func80, Try.ntmps80
  cases xr
  · go_wp2_with (first | (refine wpList_load_at rfl 67 _ rfl w.heap.size 0 rfl x.cells _ HCZ.out Try.underlying67 rfl (by kernel_rfl) ?_))
    refine (reads9_calls x _).mono ?_
    rintro e w1 ⟨rfl, hb1⟩
    rw [HXR.out]
    rw [HWQ.out] at hb1
    have bx1 := bx0.below hb1 bx0.lt
    have by1 := by0.below hb1 by0.lt
    have hw1 := hw0.trans (hb1.mono hw0.size)
    have HC1 := Lib.hid (CL.out x _ _ bx1)
    have HD1 := Lib.hid (CL.out y _ _ by1)
    cases xw
    · go_wp2_with (first | (refine wpList_load_at_g (by rfl) 67 _ rfl w.heap.size 0 rfl x.cells _ HC1.out Try.underlying67 rfl (by kernel_rfl) ?_))
      refine (writes9_calls x _).mono ?_
      rintro e w2 ⟨rfl, hb2⟩
      rw [HXW.out]
      have bx2 := bx1.below hb2 bx1.lt
      have by2 := by1.below hb2 by1.lt
      have hw2 := hw1.trans (hb2.mono hw1.size)
      have HC2 := Lib.hid (CL.out x _ _ bx2)
      have HD2 := Lib.hid (CL.out y _ _ by2)
      go_wp2_with fail
      go_ret
      have hrr : r = false := by rw [← HR.out]; exact race_F1 HXR.out HXW.out
      subst hrr
      exact ⟨rfl, hw2⟩
    · go_wp2_with (first | (refine wpList_load_at_g (by rfl) 67 _ rfl w.heap.size 0 rfl x.cells _ HC1.out Try.underlying67 rfl (by kernel_rfl) ?_))
      refine (writes9_calls x _).mono ?_
      rintro e w2 ⟨rfl, hb2⟩
      rw [HXW.out]
      have bx2 := bx1.below hb2 bx1.lt
      have by2 := by1.below hb2 by1.lt
      have hw2 := hw1.trans (hb2.mono hw1.size)
      have HC2 := Lib.hid (CL.out x _ _ bx2)
      have HD2 := Lib.hid (CL.out y _ _ by2)
      cases yr
      · go_wp2_with (first | (refine wpList_load_at_g (by rfl) 67 _ rfl (w.heap.size + 1) 0 rfl y.cells _ HD2.out Try.underlying67 rfl (by kernel_rfl) ?_))
        refine (reads9_calls y _).mono ?_
        rintro e w3 ⟨rfl, hb3⟩
        rw [HYR.out]
        have bx3 := bx2.below hb3 bx2.lt
        have by3 := by2.below hb3 by2.lt
        have hw3 := hw2.trans (hb3.mono hw2.size)
        have HC3 := Lib.hid (CL.out x _ _ bx3)
        have HD3 := Lib.hid (CL.out y _ _ by3)
        cases yw
        · go_wp2_with (first | (refine wpList_load_at_g (by rfl) 67 _ rfl (w.heap.size + 1) 0 rfl y.cells _ HD3.out Try.underlying67 rfl (by kernel_rfl) ?_))
          refine (writes9_calls y _).mono ?_
          rintro e w4 ⟨rfl, hb4⟩
          rw [HYW.out]
          have bx4 := bx3.below hb4 bx3.lt
          have by4 := by3.below hb4 by3.lt
          have hw4 := hw3.trans (hb4.mono hw3.size)
          have HC4 := Lib.hid (CL.out x _ _ bx4)
          have HD4 := Lib.hid (CL.out y _ _ by4)
          go_wp2_with fail
          go_ret
          have hrr : r = false := by rw [← HR.out]; exact race_F2 HYR.out HYW.out
          subst hrr
          exact ⟨rfl, hw4⟩
        · go_wp2_with (first | (refine wpList_load_at_g (by rfl) 67 _ rfl (w.heap.size + 1) 0 rfl y.cells _ HD3.out Try.underlying67 rfl (by kernel_rfl) ?_))
          refine (writes9_calls y _).mono ?_
          rintro e w4 ⟨rfl, hb4⟩
          rw [HYW.out]
          have bx4 := bx3.below hb4 bx3.lt
          have by4 := by3.below hb4 by3.lt
          have hw4 := hw3.trans (hb4.mono hw3.size)
          have HC4 := Lib.hid (CL.out x _ _ bx4)
          have HD4 := Lib.hid (CL.out y _ _ by4)
          by_cases hth : x.thing = y.thing
          · have tx : w4.cell? ⟨w.heap.size, 3, none⟩ = some (.int .i64 x.thing) := bx4.cell 3
            have ty : w4.cell? ⟨w.heap.size + 1, 3, none⟩ = some (.int .i64 y.thing) := by4.cell 3
            have e3 : (x.thing != y.thing) = false := by simp [hth]
            have HT := Lib.hid hth; clear hth
            go_wp2_with (first | (refine wpList_load_at_g (by rfl) 67 _ rfl w.heap.size 0 rfl x.cells _ HC4.out Try.underlying67 rfl (by kernel_rfl) ?_))
            refine (writes9_calls x _).mono ?_
            rintro e w5 ⟨rfl, hb5⟩
            rw [HXW.out]
            have bx5 := bx4.below hb5 bx4.lt
            have by5 := by4.below hb5 by4.lt
            have hw5 := hw4.trans (hb5.mono hw4.size)
            have HC5 := Lib.hid (CL.out x _ _ bx5)
            have HD5 := Lib.hid (CL.out y _ _ by5)
            go_wp2_with fail
            refine (common_calls va vb la lb _ (h1.mono (cmap_below hw5)) (h2.mono (cmap_below hw5))).mono ?_
            rintro e w9 ⟨rfl, rfl⟩
            have hrr : r = !comB la lb := by rw [← HR.out]; exact race_T (by rw [touch_rw, HXR.out, HXW.out]; rfl) (by rw [touch_rw, HYR.out, HYW.out]; rfl) HT.out (by rw [HXW.out, HYW.out]; simp)
            subst hrr
            go_wp2_with fail
            go_ret
            exact ⟨rfl, hw5⟩
          · have tx : w4.cell? ⟨w.heap.size, 3, none⟩ = some (.int .i64 x.thing) := bx4.cell 3
            have ty : w4.cell? ⟨w.heap.size + 1, 3, none⟩ = some (.int .i64 y.thing) := by4.cell 3
            have e3 : (x.thing != y.thing) = true := by simpa using hth
            have HT : Hid (x.thing ≠ y.thing) := Lib.hid hth
            clear hth
            go_wp2_with fail
            go_ret
            have hrr : r = false := by rw [← HR.out]; exact race_F3 HT.out
            subst hrr
            exact ⟨rfl, hw4⟩
      · go_wp2_with (first | (refine wpList_load_at_g (by rfl) 67 _ rfl (w.heap.size + 1) 0 rfl y.cells _ HD2.out Try.underlying67 rfl (by kernel_rfl) ?_))
        refine (reads9_calls y _).mono ?_
        rintro e w3 ⟨rfl, hb3⟩
        rw [HYR.out]
        have bx3 := bx2.below hb3 bx2.lt
        have by3 := by2.below hb3 by2.lt
        have hw3 := hw2.trans (hb3.mono hw2.size)
        have HC3 := Lib.hid (CL.out x _ _ bx3)
        have HD3 := Lib.hid (CL.out y _ _ by3)
        by_cases hth : x.thing = y.thing
        · have tx : w3.cell? ⟨w.heap.size, 3, none⟩ = some (.int .i64 x.thing) := bx3.cell 3
          have ty : w3.cell? ⟨w.heap.size + 1, 3, none⟩ = some (.int .i64 y.thing) := by3.cell 3
          have e3 : (x.thing != y.thing) = false := by simp [hth]
          have HT := Lib.hid hth; clear hth
          go_wp2_with (first | (refine wpList_load_at_g (by rfl) 67 _ rfl w.heap.size 0 rfl x.cells _ HC3.out Try.underlying67 rfl (by kernel_rfl) ?_))
          refine (writes9_calls x _).mono ?_
          rintro e w4 ⟨rfl, hb4⟩
          rw [HXW.out]
          have bx4 := bx3.below hb4 bx3.lt
          have by4 := by3.below hb4 by3.lt
          have hw4 := hw3.trans (hb4.mono hw3.size)
          have HC4 := Lib.hid (CL.out x _ _ bx4)
          have HD4 := Lib.hid (CL.out y _ _ by4)
          go_wp2_with fail
          refine (common_calls va vb la lb _ (h1.mono (cmap_below hw4)) (h2.mono (cmap_below hw4))).mono ?_
          rintro e w9 ⟨rfl, rfl⟩
          have hrr : r = !comB la lb := by rw [← HR.out]; exact race_T (by rw [touch_rw, HXR.out, HXW.out]; rfl) (by rw [touch_rw, HYR.out, HYW.out]; rfl) HT.out (by rw [HXW.out, HYW.out]; simp)
          subst hrr
          go_wp2_with fail
          go_ret
          exact ⟨rfl, hw4⟩
        · have tx : w3.cell? ⟨w.heap.size, 3, none⟩ = some (.int .i64 x.thing) := bx3.cell 3
          have ty : w3.cell? ⟨w.heap.size + 1, 3, none⟩ = some (.int .i64 y.thing) := by3.cell 3
          have e3 : (x.thing != y.thing) = true := by simpa using hth
          have HT : Hid (x.thing ≠ y.thing) := Lib.hid hth
          clear hth
          go_wp2_with fail
          go_ret
          have hrr : r = false := by rw [← HR.out]; exact race_F3 HT.out
          subst hrr
          exact ⟨rfl, hw3⟩
  · go_wp2_with (first | (refine wpList_load_at rfl 67 _ rfl w.heap.size 0 rfl x.cells _ HCZ.out Try.underlying67 rfl (by kernel_rfl) ?_))
    refine (reads9_calls x _).mono ?_
    rintro e w1 ⟨rfl, hb1⟩
    rw [HXR.out]
    rw [HWQ.out] at hb1
    have bx1 := bx0.below hb1 bx0.lt
    have by1 := by0.below hb1 by0.lt
    have hw1 := hw0.trans (hb1.mono hw0.size)
    have HC1 := Lib.hid (CL.out x _ _ bx1)
    have HD1 := Lib.hid (CL.out y _ _ by1)
    cases yr
    · go_wp2_with (first | (refine wpList_load_at_g (by rfl) 67 _ rfl (w.heap.size + 1) 0 rfl y.cells _ HD1.out Try.underlying67 rfl (by kernel_rfl) ?_))
      refine (reads9_calls y _).mono ?_
      rintro e w2 ⟨rfl, hb2⟩
      rw [HYR.out]
      have bx2 := bx1.below hb2 bx1.lt
      have by2 := by1.below hb2 by1.lt
      have hw2 := hw1.trans (hb2.mono hw1.size)
      have HC2 := Lib.hid (CL.out x _ _ bx2)
      have HD2 := Lib.hid (CL.out y _ _ by2)
      cases yw
      · go_wp2_with (first | (refine wpList_load_at_g (by rfl) 67 _ rfl (w.heap.size + 1) 0 rfl y.cells _ HD2.out Try.underlying67 rfl (by kernel_rfl) ?_))
        refine (writes9_calls y _).mono ?_
        rintro e w3 ⟨rfl, hb3⟩
        rw [HYW.out]
        have bx3 := bx2.below hb3 bx2.lt
        have by3 := by2.below hb3 by2.lt
        have hw3 := hw2.trans (hb3.mono hw2.size)
        have HC3 := Lib.hid (CL.out x _ _ bx3)
        have HD3 := Lib.hid (CL.out y _ _ by3)
        go_wp2_with fail
        go_ret
        have hrr : r = false := by rw [← HR.out]; exact race_F2 HYR.out HYW.out
        subst hrr
        exact ⟨rfl, hw3⟩
      · go_wp2_with (first | (refine wpList_load_at_g (by rfl) 67 _ rfl (w.heap.size + 1) 0 rfl y.cells _ HD2.out Try.underlying67 rfl (by kernel_rfl) ?_))
        refine (writes9_calls y _).mono ?_
        rintro e w3 ⟨rfl, hb3⟩
        rw [HYW.out]
        have bx3 := bx2.below hb3 bx2.lt
        have by3 := by2.below hb3 by2.lt
        have hw3 := hw2.trans (hb3.mono hw2.size)
        have HC3 := Lib.hid (CL.out x _ _ bx3)
        have HD3 := Lib.hid (CL.out y _ _ by3)
        by_cases hth : x.thing = y.thing
        · have tx : w3.cell? ⟨w.heap.size, 3, none⟩ = some (.int .i64 x.thing) := bx3.cell 3
          have ty : w3.cell? ⟨w.heap.size + 1, 3, none⟩ = some (.int .i64 y.thing) := by3.cell 3
          have e3 : (x.thing != y.thing) = false := by simp [hth]
          have HT := Lib.hid hth; clear hth
          cases xw
          · go_wp2_with (first | (refine wpList_load_at_g (by rfl) 67 _ rfl w.heap.size 0 rfl x.cells _ HC3.out Try.underlying67 rfl (by kernel_rfl) ?_))
            refine (writes9_calls x _).mono ?_
            rintro e w4 ⟨rfl, hb4⟩
            rw [HXW.out]
            have bx4 := bx3.below hb4 bx3.lt
            have by4 := by3.below hb4 by3.lt
            have hw4 := hw3.trans (hb4.mono hw3.size)
            have HC4 := Lib.hid (CL.out x _ _ bx4)
            have HD4 := Lib.hid (CL.out y _ _ by4)
            go_wp2_with (first | (refine wpList_load_at_g (by rfl) 67 _ rfl (w.heap.size + 1) 0 rfl y.cells _ HD4.out Try.underlying67 rfl (by kernel_rfl) ?_))
            refine (writes9_calls y _).mono ?_
            rintro e w5 ⟨rfl, hb5⟩
            rw [HYW.out]
            have bx5 := bx4.below hb5 bx4.lt
            have by5 := by4.below hb5 by4.lt
            have hw5 := hw4.trans (hb5.mono hw4.size)
            have HC5 := Lib.hid (CL.out x _ _ bx5)
            have HD5 := Lib.hid (CL.out y _ _ by5)
            go_wp2_with fail
            refine (common_calls va vb la lb _ (h1.mono (cmap_below hw5)) (h2.mono (cmap_below hw5))).mono ?_
            rintro e w9 ⟨rfl, rfl⟩
            have hrr : r = !comB la lb := by rw [← HR.out]; exact race_T (by rw [touch_rw, HXR.out, HXW.out]; rfl) (by rw [touch_rw, HYR.out, HYW.out]; rfl) HT.out (by rw [HXW.out, HYW.out]; simp)
            subst hrr
            go_wp2_with fail
            go_ret
            exact ⟨rfl, hw5⟩
          · go_wp2_with (first | (refine wpList_load_at_g (by rfl) 67 _ rfl w.heap.size 0 rfl x.cells _ HC3.out Try.underlying67 rfl (by kernel_rfl) ?_))
            refine (writes9_calls x _).mono ?_
            rintro e w4 ⟨rfl, hb4⟩
            rw [HXW.out]
            have bx4 := bx3.below hb4 bx3.lt
            have by4 := by3.below hb4 by3.lt
            have hw4 := hw3.trans (hb4.mono hw3.size)
            have HC4 := Lib.hid (CL.out x _ _ bx4)
            have HD4 := Lib.hid (CL.out y _ _ by4)
            go_wp2_with fail
            refine (common_calls va vb la lb _ (h1.mono (cmap_below hw4)) (h2.mono (cmap_below hw4))).mono ?_
            rintro e w9 ⟨rfl, rfl⟩
            have hrr : r = !comB la lb := by rw [← HR.out]; exact race_T (by rw [touch_rw, HXR.out, HXW.out]; rfl) (by rw [touch_rw, HYR.out, HYW.out]; rfl) HT.out (by rw [HXW.out, HYW.out]; simp)
            subst hrr
            go_wp2_with fail
            go_ret
            exact ⟨rfl, hw4⟩
        · have tx : w3.cell? ⟨w.heap.size, 3, none⟩ = some (.int .i64 x.thing) := bx3.cell 3
          have ty : w3.cell? ⟨w.heap.size + 1, 3, none⟩ = some (.int .i64 y.thing) := by3.cell 3
          have e3 : (x.thing != y.thing) = true := by simpa using hth
          have HT : Hid (x.thing ≠ y.thing) := Lib.hid hth
          clear hth
          go_wp2_with fail
          go_ret
          have hrr : r = false := by rw [← HR.out]; exact race_F3 HT.out
          subst hrr
          exact ⟨rfl, hw3⟩
    · go_wp2_with (first | (refine wpList_load_at_g (by rfl) 67 _ rfl (w.heap.size + 1) 0 rfl y.cells _ HD1.out Try.underlying67 rfl (by kernel_rfl) ?_))
      refine (reads9_calls y _).mono ?_
      rintro e w2 ⟨rfl, hb2⟩
      rw [HYR.out]
      have bx2 := bx1.below hb2 bx1.lt
      have by2 := by1.below hb2 by1.lt
      have hw2 := hw1.trans (hb2.mono hw1.size)
      have HC2 := Lib.hid (CL.out x _ _ bx2)
      have HD2 := Lib.hid (CL.out y _ _ by2)
      by_cases hth : x.thing = y.thing
      · have tx : w2.cell? ⟨w.heap.size, 3, none⟩ = some (.int .i64 x.thing) := bx2.cell 3
        have ty : w2.cell? ⟨w.heap.size + 1, 3, none⟩ = some (.int .i64 y.thing) := by2.cell 3
        have e3 : (x.thing != y.thing) = false := by simp [hth]
        have HT := Lib.hid hth; clear hth
        cases xw
        · go_wp2_with (first | (refine wpList_load_at_g (by rfl) 67 _ rfl w.heap.size 0 rfl x.cells _ HC2.out Try.underlying67 rfl (by kernel_rfl) ?_))
          refine (writes9_calls x _).mono ?_
          rintro e w3 ⟨rfl, hb3⟩
          rw [HXW.out]
          have bx3 := bx2.below hb3 bx2.lt
          have by3 := by2.below hb3 by2.lt
          have hw3 := hw2.trans (hb3.mono hw2.size)
          have HC3 := Lib.hid (CL.out x _ _ bx3)
          have HD3 := Lib.hid (CL.out y _ _ by3)
          cases yw
          · go_wp2_with (first | (refine wpList_load_at_g (by rfl) 67 _ rfl (w.heap.size + 1) 0 rfl y.cells _ HD3.out Try.underlying67 rfl (by kernel_rfl) ?_))
            refine (writes9_calls y _).mono ?_
            rintro e w4 ⟨rfl, hb4⟩
            rw [HYW.out]
            have bx4 := bx3.below hb4 bx3.lt
            have by4 := by3.below hb4 by3.lt
            have hw4 := hw3.trans (hb4.mono hw3.size)
            have HC4 := Lib.hid (CL.out x _ _ bx4)
            have HD4 := Lib.hid (CL.out y _ _ by4)
            go_wp2_with fail
            go_ret
            have hrr : r = false := by rw [← HR.out]; exact race_F4 HXW.out HYW.out
            subst hrr
            exact ⟨rfl, hw4⟩
          · go_wp2_with (first | (refine wpList_load_at_g (by rfl) 67 _ rfl (w.heap.size + 1) 0 rfl y.cells _ HD3.out Try.underlying67 rfl (by kernel_rfl) ?_))
            refine (writes9_calls y _).mono ?_
            rintro e w4 ⟨rfl, hb4⟩
            rw [HYW.out]
            have bx4 := bx3.below hb4 bx3.lt
            have by4 := by3.below hb4 by3.lt
            have hw4 := hw3.trans (hb4.mono hw3.size)
            have HC4 := Lib.hid (CL.out x _ _ bx4)
            have HD4 := Lib.hid (CL.out y _ _ by4)
            go_wp2_with fail
            refine (common_calls va vb la lb _ (h1.mono (cmap_below hw4)) (h2.mono (cmap_below hw4))).mono ?_
            rintro e w9 ⟨rfl, rfl⟩
            have hrr : r = !comB la lb := by rw [← HR.out]; exact race_T (by rw [touch_rw, HXR.out, HXW.out]; rfl) (by rw [touch_rw, HYR.out, HYW.out]; rfl) HT.out (by rw [HXW.out, HYW.out]; simp)
            subst hrr
            go_wp2_with fail
            go_ret
            exact ⟨rfl, hw4⟩
        · go_wp2_with (first | (refine wpList_load_at_g (by rfl) 67 _ rfl w.heap.size 0 rfl x.cells _ HC2.out Try.underlying67 rfl (by kernel_rfl) ?_))
          refine (writes9_calls x _).mono ?_
          rintro e w3 ⟨rfl, hb3⟩
          rw [HXW.out]
          have bx3 := bx2.below hb3 bx2.lt
          have by3 := by2.below hb3 by2.lt
          have hw3 := hw2.trans (hb3.mono hw2.size)
          have HC3 := Lib.hid (CL.out x _ _ bx3)
          have HD3 := Lib.hid (CL.out y _ _ by3)
          go_wp2_with fail
          refine (common_calls va vb la lb _ (h1.mono (cmap_below hw3)) (h2.mono (cmap_below hw3))).mono ?_
          rintro e w9 ⟨rfl, rfl⟩
          have hrr : r = !comB la lb := by rw [← HR.out]; exact race_T (by rw [touch_rw, HXR.out, HXW.out]; rfl) (by rw [touch_rw, HYR.out, HYW.out]; rfl) HT.out (by rw [HXW.out, HYW.out]; simp)
          subst hrr
          go_wp2_with fail
          go_ret
          exact ⟨rfl, hw3⟩
      · have tx : w2.cell? ⟨w.heap.size, 3, none⟩ = some (.int .i64 x.thing) := bx2.cell 3
        have ty : w2.cell? ⟨w.heap.size + 1, 3, none⟩ = some (.int .i64 y.thing) := by2.cell 3
        have e3 : (x.thing != y.thing) = true := by simpa using hth
        have HT : Hid (x.thing ≠ y.thing) := Lib.hid hth
        clear hth
        go_wp2_with fail
        go_ret
        have hrr : r = false := by rw [← HR.out]; exact race_F3 HT.out
        subst hrr
        exact ⟨rfl, hw2⟩
end Go.Proofs.Ytkkmkjjbffpgnaa
