import Derived.Test.YtkkmkjjbffpgnaaP30
import Derived.Test.YtkkmkjjbffpgnaaP48
import Derived.Test.YtkkmkjjbffpgnaaP01
import Derived.Test.YtkkmkjjbffpgnaaP09
import Derived.Test.YtkkmkjjbffpgnaaP02
import Derived.Test.YtkkmkjjbffpgnaaP51
/- The walk of the reference's joined. -/
namespace Go.Proofs.Ytkkmkjjbffpgnaa
open Go Go.RowKit
/-- What joined answers. -/
def joinI (o t : Int) : Int := if o = -1 then t else if o = t then t else -2
set_option maxHeartbeats 400000 in
theorem joined_calls (o t : Int) (w : World) :
    Calls Try.prog 43 #[.int .i64 o, .int .i64 t] w fun e w' => e = .returned (.int .i64 (joinI o t)) ∧ ∃ n, w' = w.drewN n := by
  go_enter Try.func43, Try.ntmps43
  by_cases h1 : o = -1
  · have hx : (o == (-1 : Int)) = true := by simp [h1]
    have hj : joinI o t = t := by unfold joinI; rw [if_pos h1]
    rw [hj]
    have H1 := Lib.hid h1; clear h1 hj
    go_wp2
    go_ret
    exact ⟨rfl, 0, rfl⟩
  · have hx : (o == (-1 : Int)) = false := by simp [h1]
    by_cases h2 : o = t
    · have hy : (o == t) = true := by simp [h2]
      have hj : joinI o t = t := by unfold joinI; rw [if_neg h1, if_pos h2]
      rw [hj]
      have H1 := Lib.hid h1; clear h1 hj
      have H2 := Lib.hid h2; clear h2
      go_wp2
      go_ret
      exact ⟨rfl, 0, rfl⟩
    · have hy : (o == t) = false := by simp [h2]
      have hj : joinI o t = -2 := by unfold joinI; rw [if_neg h1, if_neg h2]
      rw [hj]
      have H1 := Lib.hid h1; clear h1 hj
      have H2 := Lib.hid h2; clear h2
      go_wp2
      go_ret
      exact ⟨rfl, 0, rfl⟩
end Go.Proofs.Ytkkmkjjbffpgnaa
/- The row of a variable that the reference's Touches gathers. -/
namespace Go.Proofs.Ytkkmkjjbffpgnaa
open Go Go.RowKit
/-- A local Touch in block xb, its rows of the call's own behind it. -/
structure RtI (TT IT : TypeId) (xb : Nat) (la lb : List Int) (a b : Value) (w0 wr : World) : Prop where
  blk : Blk wr xb TT [a, b]
  ra : wr.ownsRow (xb + 1) IT 1 a la.length (ints la)
  rb : wr.ownsRow (xb + 1) IT 1 b lb.length (ints lb)
  ne : ∀ q, a.ownBlock = some q → b.ownBlock ≠ some q
  bel : Below xb w0 wr
section
variable {TT IT : TypeId} {xb : Nat} {la lb : List Int} {a b : Value} {w0 wr wx : World}
theorem RtI.begin (w : World) (IT : TypeId) : RtI TT IT w.heap.size [] [] (.slice none 0 0) (.slice none 0 0) w (w.alloc (.cells #[.slice none 0 0, .slice none 0 0] TT)) :=
  ⟨Blk.new w TT [.slice none 0 0, .slice none 0 0], World.ownsRow_nil _ _ _ _, World.ownsRow_nil _ _ _ _, fun q h => by simp [Value.ownBlock] at h, Below_alloc' _ _⟩
theorem RtI.lt (h : RtI TT IT xb la lb a b w0 wr) : xb < wr.heap.size := h.blk.lt
theorem RtI.grown {row : Option Nat} (h : RtI TT IT xb la lb a b w0 wr) (hg : wr.grownBy wx row) (ha : a.ownBlock = none ∨ a.ownBlock ≠ row) (hb : b.ownBlock = none ∨ b.ownBlock ≠ row) (hx : some xb ≠ row) (hr : ∀ q, row = some q → xb ≤ q) (hn : xb ≤ wr.heap.size) : RtI TT IT xb la lb a b w0 wx :=
  ⟨h.blk.grown hg hx, h.ra.kept hg ha, h.rb.kept hg hb, h.ne, h.bel.grown hg hn hr⟩
theorem RtI.keep (h : RtI TT IT xb la lb a b w0 wr) (hb : Below wr.heap.size wr wx) : RtI TT IT xb la lb a b w0 wx := by
  have hg : wr.grownBy wx none := ⟨hb.os, hb.tape, hb.output, hb.size, fun k hk _ => hb.block k hk⟩
  refine h.grown hg ?_ ?_ (by simp) (fun q h => by cases h) (Nat.le_of_lt h.lt)
  · cases hv : a.ownBlock with
    | none => exact .inl rfl
    | some x => exact .inr (by simp)
  · cases hv : b.ownBlock with
    | none => exact .inl rfl
    | some x => exact .inr (by simp)
theorem RtI.noA (h : RtI TT IT xb la lb a b w0 wr) : a.ownBlock ≠ some xb := fun e => by have := own_lt h.ra xb e; omega
theorem RtI.noB (h : RtI TT IT xb la lb a b w0 wr) : b.ownBlock ≠ some xb := fun e => by have := own_lt h.rb xb e; omega
theorem RtI.pushA (h : RtI TT IT xb la lb a b w0 wr) {t : Int} {a' : Value} {w4 : World} (ho : w4.ownsRow (xb + 1) IT 1 a' (la.length + 1) (ints la ++ [.int .i64 t])) (hg : wr.grownBy w4 a.ownBlock) (hob : a'.ownBlock = a.ownBlock ∨ a'.ownBlock = some wr.heap.size) :
    RtI TT IT xb (la ++ [t]) lb a' b w0 (w4.setCell ⟨xb, 0, none⟩ a') := by
  have hlt := h.lt
  have hb4 : w4.ownsRow (xb + 1) IT 1 b lb.length (ints lb) := h.rb.kept hg (by
    cases hv : b.ownBlock with
    | none => exact .inl rfl
    | some q => exact .inr fun e => h.ne q e.symm hv)
  have hx4 : Blk w4 xb TT [a, b] := h.blk.grown hg (fun e => h.noA e.symm)
  have hn4 : a'.ownBlock ≠ some xb := by
    rcases hob with k | k
    · rw [k]; exact h.noA
    · rw [k]; intro e; injection e with e; omega
  have hbel : Below xb w0 w4 := h.bel.grown hg (Nat.le_of_lt hlt) (fun q e => by have := own_lt h.ra q e; omega)
  refine ⟨hx4.set_ 0 a', ?_, ownsRow_setCell_other (a := ⟨xb, 0, none⟩) hb4 (by exact h.noB) a', fun q e hq => ?_, ?_⟩
  · have := ownsRow_setCell_other (a := ⟨xb, 0, none⟩) ho (by exact hn4) a'
    simpa [ints] using this
  · rcases hob with k | k
    · exact h.ne q (k ▸ e) hq
    · rw [k] at e
      injection e with e
      have := (h.rb.lt q hq).2
      omega
  · exact hbel.grown (row := some xb) ⟨rfl, rfl, rfl, by simp [World.setCell], fun k _ hne => Below.heap_setCell _ _ _ _ (fun e => hne (by rw [e]))⟩ (Nat.le_of_lt hx4.lt) (fun q e => by injection e with e; omega)
theorem RtI.pushB (h : RtI TT IT xb la lb a b w0 wr) {t : Int} {b' : Value} {w4 : World} (ho : w4.ownsRow (xb + 1) IT 1 b' (lb.length + 1) (ints lb ++ [.int .i64 t])) (hg : wr.grownBy w4 b.ownBlock) (hob : b'.ownBlock = b.ownBlock ∨ b'.ownBlock = some wr.heap.size) :
    RtI TT IT xb la (lb ++ [t]) a b' w0 (w4.setCell ⟨xb, 1, none⟩ b') := by
  have hlt := h.lt
  have ha4 : w4.ownsRow (xb + 1) IT 1 a la.length (ints la) := h.ra.kept hg (by
    cases hv : a.ownBlock with
    | none => exact .inl rfl
    | some q => exact .inr fun e => h.ne q hv e.symm)
  have hx4 : Blk w4 xb TT [a, b] := h.blk.grown hg (fun e => h.noB e.symm)
  have hn4 : b'.ownBlock ≠ some xb := by
    rcases hob with k | k
    · rw [k]; exact h.noB
    · rw [k]; intro e; injection e with e; omega
  have hbel : Below xb w0 w4 := h.bel.grown hg (Nat.le_of_lt hlt) (fun q e => by have := own_lt h.rb q e; omega)
  refine ⟨hx4.set_ 1 b', ownsRow_setCell_other (a := ⟨xb, 1, none⟩) ha4 (by exact h.noA) b', ?_, fun q e hq => ?_, ?_⟩
  · have := ownsRow_setCell_other (a := ⟨xb, 1, none⟩) ho (by exact hn4) b'
    simpa [ints] using this
  · rcases hob with k | k
    · exact h.ne q e (k ▸ hq)
    · rw [k] at hq
      injection hq with hq
      have := (h.ra.lt q e).2
      omega
  · exact hbel.grown (row := some xb) ⟨rfl, rfl, rfl, by simp [World.setCell], fun k _ hne => Below.heap_setCell _ _ _ _ (fun e => hne (by rw [e]))⟩ (Nat.le_of_lt hx4.lt) (fun q e => by injection e with e; omega)
end
end Go.Proofs.Ytkkmkjjbffpgnaa
/- The walk of the law's own touches: two rows that read alike. -/
namespace Go.Proofs.Ytkkmkjjbffpgnaa
open Go Go.RowKit
set_option maxRecDepth 100000 in
set_option maxHeartbeats 1000000 in
theorem touches_calls (v1 v2 : Value) (L : List Tou) (w : World) (h1 : Sl (Cells touV) 2 (cmap w) v1 L) (h2 : Sl (Cells touV) 2 (cmap w) v2 L) :
    Calls Try.prog 16 #[v1, v2] w fun e w' => e = .returned (.bool true) ∧ ∃ n, w' = w.drewN n := by
  obtain ⟨A1, c1, rfl, -⟩ := id h1
  obtain ⟨A2, c2, rfl, -⟩ := id h2
  have b1 := h1.len.2.2
  have hb : ((L.length : Int) != (L.length : Int)) = false := by simp
  go_enter Try.func16, Try.ntmps16
  go_wp2
  go_loopw [13] (fun v wr => ∃ (k n : Nat), v = .int .i64 k ∧ k ≤ L.length ∧ wr = w.drewN n) (fun v _ => L.length - (intOf v).toNat)
  case atStart => exact ⟨0, 0, rfl, by omega, rfl⟩
  case round =>
    obtain ⟨k, n, rfl, hk, hw⟩ := hrel
    have m1 : Sl (Cells touV) 2 (cmap wr) (.slice A1 L.length c1) L := by rw [hw]; exact h1
    have m2 : Sl (Cells touV) 2 (cmap wr) (.slice A2 L.length c2) L := by rw [hw]; exact h2
    have HW := Lib.hid hw; clear hw
    by_cases hlt : k < L.length
    · obtain ⟨l, hl⟩ : ∃ l, L[k]? = some l := ⟨_, List.getElem?_eq_getElem hlt⟩
      obtain ⟨bb1, o1, rfl, _, ⟨x1, y1, rfl, gx1, gy1⟩, q1⟩ := m1.at_ hl
      obtain ⟨bb2, o2, rfl, _, ⟨x2, y2, rfl, gx2, gy2⟩, q2⟩ := m2.at_ hl
      have p1 : wr.cell? ⟨bb1, o1 + k * 2, none⟩ = some x1 := q1 0 x1 rfl
      have p2 : wr.cell? ⟨bb2, o2 + k * 2, none⟩ = some x2 := q2 0 x2 rfl
      have r1 : wr.cell? ⟨bb1, o1 + k * 2 + 1, none⟩ = some y1 := q1 1 y1 rfl
      have r2 : wr.cell? ⟨bb2, o2 + k * 2 + 1, none⟩ = some y2 := q2 1 y2 rfl
      obtain ⟨_, _, rfl, -⟩ := id gx1
      obtain ⟨_, _, rfl, -⟩ := id gx2
      obtain ⟨_, _, rfl, -⟩ := id gy1
      obtain ⟨_, _, rfl, -⟩ := id gy2
      clear q1 q2
      have HL := Lib.hid hl; clear hl
      have hk0 : (0 : Int) ≤ k := by omega
      have hkl : (k : Int) < L.length := by omega
      go_wp2
      go_quiet (first
        | (go_at_call 17; refine Calls.quiet_of ((ints7_calls _ _ l.1 l.1 _ (by exact gx1) (by exact gx2)).mono fun e w' ⟨h1, h2⟩ => ⟨by rw [h1, decide_eq_true rfl], h2⟩))
        | (go_at_call 17; refine Calls.quiet_of ((ints7_calls _ _ l.2 l.2 _ (by exact gy1) (by exact gy2)).mono fun e w' ⟨h1, h2⟩ => ⟨by rw [h1, decide_eq_true rfl], h2⟩)))
      go_wp2
      go_roundw
      case rel => exact ⟨k + 1, _, by go_num, by omega, by rw [HW.out]; exact World.drewN_drewN _ _ _⟩
      case measure => simp [intOf]; omega
    · go_wp2
      go_ret
      exact ⟨rfl, _, HW.out⟩
end Go.Proofs.Ytkkmkjjbffpgnaa
