import Derived.Test.YtkkmkjjbffpgnaaP30
import Derived.Test.YtkkmkjjbffpgnaaP48
import Derived.Test.YtkkmkjjbffpgnaaP01
import Derived.Test.YtkkmkjjbffpgnaaP09
import Derived.Test.YtkkmkjjbffpgnaaP02
import Derived.Test.YtkkmkjjbffpgnaaP51
/- The walk of the reference's joined. -/
namespace Go.Proofs.Ytkkmkjjbffpgnaa
open Go Go.RowKit
/-- What joined answers. -/
def joinI (o t : Int) : Int := if o = -1 then t else if o = t then t else -2
set_option maxHeartbeats 400000 in
theorem joined_calls (o t : Int) (w : World) :
    Calls Try.prog 43 #[.int .i64 o, .int .i64 t] w fun e w' => e = .returned (.int .i64 (joinI o t)) ∧ ∃ n, w' = w.drewN n := by
  go_enter Try.func43, Try.ntmps43
  by_cases h1 : o = -1
  · have hx : (o == (-1 : Int)) = true := by simp [h1]
    have hj : joinI o t = t := by unfold joinI; rw [if_pos h1]
    rw [hj]
    have H1 := Lib.hid h1; clear h1 hj
    go_wp2
    go_ret
    exact ⟨rfl, 0, rfl⟩
  · have hx : (o == (-1 : Int)) = false := by simp [h1]
    by_cases h2 : o = t
    · have hy : (o == t) = true := by simp [h2]
      have hj : joinI o t = t := by unfold joinI; rw [if_neg h1, if_pos h2]
      rw [hj]
      have H1 := Lib.hid h1; clear h1 hj
      have H2 := Lib.hid h2; clear h2
      go_wp2
      go_ret
      exact ⟨rfl, 0, rfl⟩
    · have hy : (o == t) = false := by simp [h2]
      have hj : joinI o t = -2 := by unfold joinI; rw [if_neg h1, if_neg h2]
      rw [hj]
      have H1 := Lib.hid h1; clear h1 hj
      have H2 := Lib.hid h2; clear h2
      go_wp2
      go_ret
      exact ⟨rfl, 0, rfl⟩
end Go.Proofs.Ytkkmkjjbffpgnaa
/- The plain law of the owners: joined by threads, or by touches, an owner is the same. -/
namespace Go.Proofs.Ytkkmkjjbffpgnaa
open Go Go.RowKit
theorem join_two : ∀ (L : List Int), (∀ x ∈ L, 0 ≤ x) → L.foldl joinI (-2) = -2
  | [], _ => rfl
  | a :: l, h => by
    have ha : 0 ≤ a := h a List.mem_cons_self
    have e : joinI (-2) a = -2 := by
      unfold joinI
      rw [if_neg (by omega), if_neg (by omega)]
    rw [List.foldl_cons, e]
    exact join_two l fun x hx => h x (List.mem_cons_of_mem _ hx)
theorem join_at : ∀ (L : List Int) (t : Int), 0 ≤ t → (∀ x ∈ L, 0 ≤ x) → ((∀ x ∈ L, x = t) → L.foldl joinI t = t) ∧ ((∃ x ∈ L, x ≠ t) → L.foldl joinI t = -2)
  | [], t, _, _ => ⟨fun _ => rfl, fun ⟨x, hx, _⟩ => by cases hx⟩
  | a :: l, t, ht, h => by
    have hl : ∀ x ∈ l, 0 ≤ x := fun x hx => h x (List.mem_cons_of_mem _ hx)
    rw [List.foldl_cons]
    by_cases e : a = t
    · subst e
      have ej : joinI a a = a := by
        unfold joinI
        rw [if_neg (by omega), if_pos rfl]
      rw [ej]
      obtain ⟨h1, h2⟩ := join_at l a ht hl
      refine ⟨fun hx => h1 fun x hm => hx x (List.mem_cons_of_mem _ hm), ?_⟩
      rintro ⟨x, hm, hne⟩
      rcases List.mem_cons.1 hm with rfl | hm
      · exact absurd rfl hne
      · exact h2 ⟨x, hm, hne⟩
    · have ej : joinI t a = -2 := by
        unfold joinI
        rw [if_neg (by omega), if_neg (fun q => e q.symm)]
      rw [ej]
      exact ⟨fun hx => absurd (hx a List.mem_cons_self) e, fun _ => join_two l hl⟩
theorem join_same {L M : List Int} (hL : ∀ x ∈ L, 0 ≤ x) (hm : ∀ x, x ∈ L ↔ x ∈ M) : L.foldl joinI (-1) = M.foldl joinI (-1) := by
  have hM : ∀ x ∈ M, 0 ≤ x := fun x hx => hL x ((hm x).2 hx)
  have e1 : ∀ a : Int, joinI (-1) a = a := fun a => by unfold joinI; rw [if_pos rfl]
  cases L with
  | nil =>
    cases M with
    | nil => rfl
    | cons b m => exact absurd ((hm b).2 List.mem_cons_self) (by simp)
  | cons a l =>
    cases M with
    | nil => exact absurd ((hm a).1 List.mem_cons_self) (by simp)
    | cons b m =>
      rw [List.foldl_cons, List.foldl_cons, e1, e1]
      have ha := hL a List.mem_cons_self
      have hb := hM b List.mem_cons_self
      obtain ⟨h1, h2⟩ := join_at l a ha fun x hx => hL x (List.mem_cons_of_mem _ hx)
      obtain ⟨h3, h4⟩ := join_at m b hb fun x hx => hM x (List.mem_cons_of_mem _ hx)
      by_cases hall : ∀ x ∈ l, x = a
      · have hba : b = a := by
          rcases List.mem_cons.1 ((hm b).2 List.mem_cons_self) with h | h
          · exact h
          · exact hall b h
        subst hba
        rw [h1 hall]
        refine (h3 fun x hx => ?_).symm
        rcases List.mem_cons.1 ((hm x).2 (List.mem_cons_of_mem _ hx)) with h | h
        · exact h
        · exact hall x h
      · have hex : ∃ x ∈ l, x ≠ a := Classical.byContradiction fun hn => hall fun x hx => Classical.byContradiction fun hne => hn ⟨x, hx, hne⟩
        rw [h2 hex]
        obtain ⟨x, hx, hne⟩ := hex
        refine (h4 ?_).symm
        by_cases hab : a = b
        · rcases List.mem_cons.1 ((hm x).1 (List.mem_cons_of_mem _ hx)) with h | h
          · exact absurd (h.trans hab.symm) hne
          · exact ⟨x, h, fun q => hne (q.trans hab.symm)⟩
        · rcases List.mem_cons.1 ((hm a).1 List.mem_cons_self) with h | h
          · exact absurd h hab
          · exact ⟨a, h, hab⟩
theorem thr_mem {u : Unit_} {p : Node → Bool} (hru : RightU u) (hp : ∀ n, p n = true → touchB n = true) (x y : Int) :
    y ∈ natI (thrTo u p x u.graphs.length) ↔ ∃ h ∈ TT u, p h.n = true ∧ h.n.thing = x ∧ (h.t : Int) = y := by
  unfold natI thrTo
  rw [List.mem_map]
  constructor
  · rintro ⟨t, ht, rfl⟩
    obtain ⟨h1, h2⟩ := List.mem_filter.1 ht
    have htl : t < u.graphs.length := by simpa using h1
    have hg : u.graphs[t]? = some u.graphs[t] := List.getElem?_eq_getElem htl
    rw [hg] at h2
    have h3 : anyN u.graphs[t] (atP p x) = true := h2
    rw [← cntT_any hp hg x, decide_eq_true_iff] at h3
    unfold cntT at h3
    obtain ⟨h, hm⟩ := List.length_pos_iff_exists_mem.1 h3
    obtain ⟨h4, h5⟩ := List.mem_filter.1 hm
    unfold atK at h5
    simp only [Bool.and_eq_true, decide_eq_true_eq] at h5
    exact ⟨h, h4, h5.1, h5.2.2, h5.2.1⟩
  · rintro ⟨h, h1, h2, h3, h4⟩
    obtain ⟨_, -, -, htl⟩ := tt_thing hru ⟨h, h1⟩
    have htl : h.t < u.graphs.length := htl
    have hg : u.graphs[h.t]? = some u.graphs[h.t] := List.getElem?_eq_getElem htl
    refine ⟨h.t, List.mem_filter.2 ⟨by simpa using htl, ?_⟩, h4⟩
    rw [hg]
    show anyN u.graphs[h.t] (atP p x) = true
    rw [← cntT_any hp hg x, decide_eq_true_iff]
    unfold cntT
    refine List.length_pos_iff_exists_mem.2 ⟨h, List.mem_filter.2 ⟨h1, ?_⟩⟩
    unfold atK
    simp [h2, h3]
theorem own_joins {u : Unit_} (hru : RightU u) (x : Nat) : (touF u x).2.foldl joinI ((touF u x).1.foldl joinI (-1)) = ownFold (TT u) (x : Int) := by
  have hf : ownFold (TT u) (x : Int) = (((TT u).filter (fun h => decide (h.n.thing = (x : Int)))).map fun h => (h.t : Int)).foldl joinI (-1) := by
    unfold ownFold
    rw [List.foldl_map]
    congr 1
    funext o h
    unfold ownStep joinI
    by_cases h1 : o = -1
    · rw [if_pos h1, if_pos h1]
    · rw [if_neg h1, if_neg h1]
      by_cases h2 : o = (h.t : Int)
      · rw [if_pos h2, if_pos h2, h2]
      · rw [if_neg h2, if_neg h2]
  rw [hf, ← List.foldl_append]
  have hr : ∀ n, rdB n = true → touchB n = true := fun n h => by rw [touch_rw, h]; rfl
  have hw : ∀ n, wrB n = true → touchB n = true := fun n h => by rw [touch_rw, h]; simp
  refine join_same ?_ ?_
  · intro y hy
    unfold touF at hy
    rcases List.mem_append.1 hy with h | h
    · obtain ⟨_, _, _, _, rfl⟩ := (thr_mem hru hr _ _).1 h
      omega
    · obtain ⟨_, _, _, _, rfl⟩ := (thr_mem hru hw _ _).1 h
      omega
  · intro y
    unfold touF
    rw [List.mem_append, thr_mem hru hr, thr_mem hru hw, List.mem_map]
    constructor
    · rintro (⟨h, h1, h2, h3, h4⟩ | ⟨h, h1, h2, h3, h4⟩)
      · exact ⟨h, List.mem_filter.2 ⟨h1, by simpa using h3⟩, h4⟩
      · exact ⟨h, List.mem_filter.2 ⟨h1, by simpa using h3⟩, h4⟩
    · rintro ⟨h, h1, h4⟩
      obtain ⟨h2, h3⟩ := List.mem_filter.1 h1
      have h3 : h.n.thing = (x : Int) := by simpa using h3
      have ht : touchB h.n = true := by
        unfold TT at h2
        exact (List.mem_filter.1 h2).2
      rw [touch_rw, Bool.or_eq_true] at ht
      rcases ht with ht | ht
      · exact .inl ⟨h, h2, ht, h3, h4⟩
      · exact .inr ⟨h, h2, ht, h3, h4⟩
/-- Of each variable, joined by threads. -/
noncomputable def ownRef (u : Unit_) : List Int := (List.range u.shared.length).map fun x : Nat => (touF u x).2.foldl joinI ((touF u x).1.foldl joinI (-1))
theorem ownRef_is {u : Unit_} (hru : RightU u) : ownRef u = ownList u.shared.length (TT u) := by
  unfold ownRef ownList
  exact List.map_congr_left fun x _ => own_joins hru x
end Go.Proofs.Ytkkmkjjbffpgnaa
/- The row of a variable that the reference's Touches gathers. -/
namespace Go.Proofs.Ytkkmkjjbffpgnaa
open Go Go.RowKit
/-- A local Touch in block xb, its rows of the call's own behind it. -/
structure RtI (TT IT : TypeId) (xb : Nat) (la lb : List Int) (a b : Value) (w0 wr : World) : Prop where
  blk : Blk wr xb TT [a, b]
  ra : wr.ownsRow (xb + 1) IT 1 a la.length (ints la)
  rb : wr.ownsRow (xb + 1) IT 1 b lb.length (ints lb)
  ne : ∀ q, a.ownBlock = some q → b.ownBlock ≠ some q
  bel : Below xb w0 wr
section
variable {TT IT : TypeId} {xb : Nat} {la lb : List Int} {a b : Value} {w0 wr wx : World}
theorem RtI.begin (w : World) (IT : TypeId) : RtI TT IT w.heap.size [] [] (.slice none 0 0) (.slice none 0 0) w (w.alloc (.cells #[.slice none 0 0, .slice none 0 0] TT)) :=
  ⟨Blk.new w TT [.slice none 0 0, .slice none 0 0], World.ownsRow_nil _ _ _ _, World.ownsRow_nil _ _ _ _, fun q h => by simp [Value.ownBlock] at h, Below_alloc' _ _⟩
theorem RtI.lt (h : RtI TT IT xb la lb a b w0 wr) : xb < wr.heap.size := h.blk.lt
theorem RtI.grown {row : Option Nat} (h : RtI TT IT xb la lb a b w0 wr) (hg : wr.grownBy wx row) (ha : a.ownBlock = none ∨ a.ownBlock ≠ row) (hb : b.ownBlock = none ∨ b.ownBlock ≠ row) (hx : some xb ≠ row) (hr : ∀ q, row = some q → xb ≤ q) (hn : xb ≤ wr.heap.size) : RtI TT IT xb la lb a b w0 wx :=
  ⟨h.blk.grown hg hx, h.ra.kept hg ha, h.rb.kept hg hb, h.ne, h.bel.grown hg hn hr⟩
theorem RtI.keep (h : RtI TT IT xb la lb a b w0 wr) (hb : Below wr.heap.size wr wx) : RtI TT IT xb la lb a b w0 wx := by
  have hg : wr.grownBy wx none := ⟨hb.os, hb.tape, hb.output, hb.size, fun k hk _ => hb.block k hk⟩
  refine h.grown hg ?_ ?_ (by simp) (fun q h => by cases h) (Nat.le_of_lt h.lt)
  · cases hv : a.ownBlock with
    | none => exact .inl rfl
    | some x => exact .inr (by simp)
  · cases hv : b.ownBlock with
    | none => exact .inl rfl
    | some x => exact .inr (by simp)
theorem RtI.noA (h : RtI TT IT xb la lb a b w0 wr) : a.ownBlock ≠ some xb := fun e => by have := own_lt h.ra xb e; omega
theorem RtI.noB (h : RtI TT IT xb la lb a b w0 wr) : b.ownBlock ≠ some xb := fun e => by have := own_lt h.rb xb e; omega
theorem RtI.pushA (h : RtI TT IT xb la lb a b w0 wr) {t : Int} {a' : Value} {w4 : World} (ho : w4.ownsRow (xb + 1) IT 1 a' (la.length + 1) (ints la ++ [.int .i64 t])) (hg : wr.grownBy w4 a.ownBlock) (hob : a'.ownBlock = a.ownBlock ∨ a'.ownBlock = some wr.heap.size) :
    RtI TT IT xb (la ++ [t]) lb a' b w0 (w4.setCell ⟨xb, 0, none⟩ a') := by
  have hlt := h.lt
  have hb4 : w4.ownsRow (xb + 1) IT 1 b lb.length (ints lb) := h.rb.kept hg (by
    cases hv : b.ownBlock with
    | none => exact .inl rfl
    | some q => exact .inr fun e => h.ne q e.symm hv)
  have hx4 : Blk w4 xb TT [a, b] := h.blk.grown hg (fun e => h.noA e.symm)
  have hn4 : a'.ownBlock ≠ some xb := by
    rcases hob with k | k
    · rw [k]; exact h.noA
    · rw [k]; intro e; injection e with e; omega
  have hbel : Below xb w0 w4 := h.bel.grown hg (Nat.le_of_lt hlt) (fun q e => by have := own_lt h.ra q e; omega)
  refine ⟨hx4.set_ 0 a', ?_, ownsRow_setCell_other (a := ⟨xb, 0, none⟩) hb4 (by exact h.noB) a', fun q e hq => ?_, ?_⟩
  · have := ownsRow_setCell_other (a := ⟨xb, 0, none⟩) ho (by exact hn4) a'
    simpa [ints] using this
  · rcases hob with k | k
    · exact h.ne q (k ▸ e) hq
    · rw [k] at e
      injection e with e
      have := (h.rb.lt q hq).2
      omega
  · exact hbel.grown (row := some xb) ⟨rfl, rfl, rfl, by simp [World.setCell], fun k _ hne => Below.heap_setCell _ _ _ _ (fun e => hne (by rw [e]))⟩ (Nat.le_of_lt hx4.lt) (fun q e => by injection e with e; omega)
theorem RtI.pushB (h : RtI TT IT xb la lb a b w0 wr) {t : Int} {b' : Value} {w4 : World} (ho : w4.ownsRow (xb + 1) IT 1 b' (lb.length + 1) (ints lb ++ [.int .i64 t])) (hg : wr.grownBy w4 b.ownBlock) (hob : b'.ownBlock = b.ownBlock ∨ b'.ownBlock = some wr.heap.size) :
    RtI TT IT xb la (lb ++ [t]) a b' w0 (w4.setCell ⟨xb, 1, none⟩ b') := by
  have hlt := h.lt
  have ha4 : w4.ownsRow (xb + 1) IT 1 a la.length (ints la) := h.ra.kept hg (by
    cases hv : a.ownBlock with
    | none => exact .inl rfl
    | some q => exact .inr fun e => h.ne q hv e.symm)
  have hx4 : Blk w4 xb TT [a, b] := h.blk.grown hg (fun e => h.noB e.symm)
  have hn4 : b'.ownBlock ≠ some xb := by
    rcases hob with k | k
    · rw [k]; exact h.noB
    · rw [k]; intro e; injection e with e; omega
  have hbel : Below xb w0 w4 := h.bel.grown hg (Nat.le_of_lt hlt) (fun q e => by have := own_lt h.rb q e; omega)
  refine ⟨hx4.set_ 1 b', ownsRow_setCell_other (a := ⟨xb, 1, none⟩) ha4 (by exact h.noA) b', ?_, fun q e hq => ?_, ?_⟩
  · have := ownsRow_setCell_other (a := ⟨xb, 1, none⟩) ho (by exact hn4) b'
    simpa [ints] using this
  · rcases hob with k | k
    · exact h.ne q e (k ▸ hq)
    · rw [k] at hq
      injection hq with hq
      have := (h.ra.lt q e).2
      omega
  · exact hbel.grown (row := some xb) ⟨rfl, rfl, rfl, by simp [World.setCell], fun k _ hne => Below.heap_setCell _ _ _ _ (fun e => hne (by rw [e]))⟩ (Nat.le_of_lt hx4.lt) (fun q e => by injection e with e; omega)
end
end Go.Proofs.Ytkkmkjjbffpgnaa
/- The walk of the law's own touches: two rows that read alike. -/
namespace Go.Proofs.Ytkkmkjjbffpgnaa
open Go Go.RowKit
set_option maxRecDepth 100000 in
set_option maxHeartbeats 1000000 in
theorem touches_calls (v1 v2 : Value) (L : List Tou) (w : World) (h1 : Sl (Cells touV) 2 (cmap w) v1 L) (h2 : Sl (Cells touV) 2 (cmap w) v2 L) :
    Calls Try.prog 16 #[v1, v2] w fun e w' => e = .returned (.bool true) ∧ ∃ n, w' = w.drewN n := by
  obtain ⟨A1, c1, rfl, -⟩ := id h1
  obtain ⟨A2, c2, rfl, -⟩ := id h2
  have b1 := h1.len.2.2
  have hb : ((L.length : Int) != (L.length : Int)) = false := by simp
  go_enter Try.func16, Try.ntmps16
  go_wp2
  go_loopw [13] (fun v wr => ∃ (k n : Nat), v = .int .i64 k ∧ k ≤ L.length ∧ wr = w.drewN n) (fun v _ => L.length - (intOf v).toNat)
  case atStart => exact ⟨0, 0, rfl, by omega, rfl⟩
  case round =>
    obtain ⟨k, n, rfl, hk, hw⟩ := hrel
    have m1 : Sl (Cells touV) 2 (cmap wr) (.slice A1 L.length c1) L := by rw [hw]; exact h1
    have m2 : Sl (Cells touV) 2 (cmap wr) (.slice A2 L.length c2) L := by rw [hw]; exact h2
    have HW := Lib.hid hw; clear hw
    by_cases hlt : k < L.length
    · obtain ⟨l, hl⟩ : ∃ l, L[k]? = some l := ⟨_, List.getElem?_eq_getElem hlt⟩
      obtain ⟨bb1, o1, rfl, _, ⟨x1, y1, rfl, gx1, gy1⟩, q1⟩ := m1.at_ hl
      obtain ⟨bb2, o2, rfl, _, ⟨x2, y2, rfl, gx2, gy2⟩, q2⟩ := m2.at_ hl
      have p1 : wr.cell? ⟨bb1, o1 + k * 2, none⟩ = some x1 := q1 0 x1 rfl
      have p2 : wr.cell? ⟨bb2, o2 + k * 2, none⟩ = some x2 := q2 0 x2 rfl
      have r1 : wr.cell? ⟨bb1, o1 + k * 2 + 1, none⟩ = some y1 := q1 1 y1 rfl
      have r2 : wr.cell? ⟨bb2, o2 + k * 2 + 1, none⟩ = some y2 := q2 1 y2 rfl
      obtain ⟨_, _, rfl, -⟩ := id gx1
      obtain ⟨_, _, rfl, -⟩ := id gx2
      obtain ⟨_, _, rfl, -⟩ := id gy1
      obtain ⟨_, _, rfl, -⟩ := id gy2
      clear q1 q2
      have HL := Lib.hid hl; clear hl
      have hk0 : (0 : Int) ≤ k := by omega
      have hkl : (k : Int) < L.length := by omega
      go_wp2
      go_quiet (first
        | (go_at_call 17; refine Calls.quiet_of ((ints7_calls _ _ l.1 l.1 _ (by exact gx1) (by exact gx2)).mono fun e w' ⟨h1, h2⟩ => ⟨by rw [h1, decide_eq_true rfl], h2⟩))
        | (go_at_call 17; refine Calls.quiet_of ((ints7_calls _ _ l.2 l.2 _ (by exact gy1) (by exact gy2)).mono fun e w' ⟨h1, h2⟩ => ⟨by rw [h1, decide_eq_true rfl], h2⟩)))
      go_wp2
      go_roundw
      case rel => exact ⟨k + 1, _, by go_num, by omega, by rw [HW.out]; exact World.drewN_drewN _ _ _⟩
      case measure => simp [intOf]; omega
    · go_wp2
      go_ret
      exact ⟨rfl, _, HW.out⟩
end Go.Proofs.Ytkkmkjjbffpgnaa
