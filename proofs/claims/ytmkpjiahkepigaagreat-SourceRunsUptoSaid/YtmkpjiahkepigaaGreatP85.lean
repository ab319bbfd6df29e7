import Derived.Test.YtmkpjiahkepigaaGreatP84
import Derived.Test.YtmkpjiahkepigaaGreatP71
import Derived.StillTailTactics
/- The walk of (*source.Machine).Copy. -/
namespace Go.Proofs.YtmkpjiahkepigaaGreat
open Go Go.RowKit
attribute [local simp] upD eval_put_ne put_none
theorem stop_copy {P : Program} {ops : Array Oper} {rest : List Oper} {o : Oper} {a : Act} {w : World} {Q : Exit → Act → World → Prop} {args : Array Operand} {ts : Array TypeId} (_ho : o.op = .call { callee := .builtin .copy, args := args, argTypes := ts }) (h : Stop (wpList P ops Q (o :: rest) a w)) : wpList P ops Q (o :: rest) a w := h.out
/-- Four blocks that have just been made. -/
structure Four (W0 w : World) (n1 n2 n3 n4 X1 X2 X3 X4 : Nat) : Prop where
  l1 : W0.heap.size ≤ X1
  l2 : W0.heap.size ≤ X2
  l3 : W0.heap.size ≤ X3
  l4 : W0.heap.size ≤ X4
  r1 : RawB w X1 3 (n1 * 1)
  r2 : RawB w X2 2 (n2 * 1)
  r3 : RawB w X3 3 (n3 * 1)
  r4 : RawB w X4 77 (n4 * 2)
  ne : X1 ≠ X3
theorem Four.below {W0 w w' : World} {n1 n2 n3 n4 X1 X2 X3 X4 : Nat} (h : Four W0 w n1 n2 n3 n4 X1 X2 X3 X4) (hb : Below w.heap.size w w') : Four W0 w' n1 n2 n3 n4 X1 X2 X3 X4 :=
  ⟨h.l1, h.l2, h.l3, h.l4, h.r1.below hb, h.r2.below hb, h.r3.below hb, h.r4.below hb, h.ne⟩
/-- What holds while a region's operations come up, D being those that have. -/
structure CpJ (W0 : World) (g : Nat) (sv lv gv : Value) (aA mA hA pA : Option Addr) (n1 n2 n3 n4 ac mc hc pc : Nat) (a0 : Act) (D : Nat → Bool) (a : Act) (w : World) : Prop where
  fr : Fr [3, 9, 10, 11, 12, 13, 14, 15, 16, 17, 18, 19, 20, 21, 22, 23, 24, 25, 26, 27, 28, 29, 30, 31, 32, 33, 34, 35, 36, 37, 38] a0 a
  below : Below W0.heap.size W0 w
  s0 : D 0 = true → a.eval (.tmp 9) = .pointer (some ⟨g, 0, none⟩)
  s1 : D 1 = true → a.eval (.tmp 10) = .pointer (some ⟨g, 0, none⟩)
  s2 : D 2 = true → a.eval (.tmp 11) = .pointer (some ⟨g, 0, none⟩)
  s3 : D 3 = true → a.eval (.tmp 12) = .agg #[sv, lv, gv]
  s4 : D 4 = true → a.eval (.tmp 13) = .pointer (some ⟨g, 0, none⟩)
  s5 : D 5 = true → a.eval (.tmp 14) = .pointer (some ⟨g, 0, none⟩)
  s6 : D 6 = true → a.eval (.tmp 15) = .pointer (some ⟨g, 3, none⟩)
  s7 : D 7 = true → a.eval (.tmp 16) = .slice aA n1 ac
  s8 : D 8 = true → a.eval (.tmp 17) = .int .i64 (n1 : Int)
  s9 : D 9 = true → ∃ X, a.eval (.tmp 18) = .slice (some ⟨X, 0, none⟩) n1 n1 ∧ W0.heap.size ≤ X ∧ RawB w X 3 (n1 * 1)
  s10 : D 10 = true → a.eval (.tmp 19) = .pointer (some ⟨g, 0, none⟩)
  s11 : D 11 = true → a.eval (.tmp 20) = .pointer (some ⟨g, 0, none⟩)
  s12 : D 12 = true → a.eval (.tmp 21) = .pointer (some ⟨g, 5, none⟩)
  s13 : D 13 = true → a.eval (.tmp 22) = .slice mA n2 mc
  s14 : D 14 = true → a.eval (.tmp 23) = .int .i64 (n2 : Int)
  s15 : D 15 = true → ∃ X, a.eval (.tmp 24) = .slice (some ⟨X, 0, none⟩) n2 n2 ∧ W0.heap.size ≤ X ∧ RawB w X 2 (n2 * 1)
  s16 : D 16 = true → a.eval (.tmp 25) = .pointer (some ⟨g, 0, none⟩)
  s17 : D 17 = true → a.eval (.tmp 26) = .pointer (some ⟨g, 0, none⟩)
  s18 : D 18 = true → a.eval (.tmp 27) = .pointer (some ⟨g, 6, none⟩)
  s19 : D 19 = true → a.eval (.tmp 28) = .slice hA n3 hc
  s20 : D 20 = true → a.eval (.tmp 29) = .int .i64 (n3 : Int)
  s21 : D 21 = true → ∃ X, a.eval (.tmp 30) = .slice (some ⟨X, 0, none⟩) n3 n3 ∧ W0.heap.size ≤ X ∧ RawB w X 3 (n3 * 1)
  s22 : D 22 = true → a.eval (.tmp 31) = .pointer (some ⟨g, 0, none⟩)
  s23 : D 23 = true → a.eval (.tmp 32) = .pointer (some ⟨g, 0, none⟩)
  s24 : D 24 = true → a.eval (.tmp 33) = .pointer (some ⟨g, 7, none⟩)
  s25 : D 25 = true → a.eval (.tmp 34) = .slice pA n4 pc
  s26 : D 26 = true → a.eval (.tmp 35) = .int .i64 (n4 : Int)
  s27 : D 27 = true → ∃ X, a.eval (.tmp 36) = .slice (some ⟨X, 0, none⟩) n4 n4 ∧ W0.heap.size ≤ X ∧ RawB w X 77 (n4 * 2)
  s28 : D 28 = true → ∃ X1 X2 X3 X4, a.eval (.tmp 37) = .agg #[sv, lv, gv, .slice (some ⟨X1, 0, none⟩) n1 n1, .slice none 0 0, .slice (some ⟨X2, 0, none⟩) n2 n2, .slice (some ⟨X3, 0, none⟩) n3 n3, .slice (some ⟨X4, 0, none⟩) n4 n4] ∧ Four W0 w n1 n2 n3 n4 X1 X2 X3 X4
  s29 : D 29 = true → ∃ X X1 X2 X3 X4, a.eval (.tmp 38) = .pointer (some ⟨X, 0, none⟩) ∧ W0.heap.size ≤ X ∧ Blk w X 81 [sv, lv, gv, .slice (some ⟨X1, 0, none⟩) n1 n1, .slice none 0 0, .slice (some ⟨X2, 0, none⟩) n2 n2, .slice (some ⟨X3, 0, none⟩) n3 n3, .slice (some ⟨X4, 0, none⟩) n4 n4] ∧ Four W0 w n1 n2 n3 n4 X1 X2 X3 X4
  s30 : D 30 = true → ∃ X X1 X2 X3 X4, a.eval (.tmp 3) = .pointer (some ⟨X, 0, none⟩) ∧ W0.heap.size ≤ X ∧ Blk w X 81 [sv, lv, gv, .slice (some ⟨X1, 0, none⟩) n1 n1, .slice none 0 0, .slice (some ⟨X2, 0, none⟩) n2 n2, .slice (some ⟨X3, 0, none⟩) n3 n3, .slice (some ⟨X4, 0, none⟩) n4 n4] ∧ Four W0 w n1 n2 n3 n4 X1 X2 X3 X4
  ne9_21 : D 9 = true → D 21 = true → ∀ X Y, (∃ n c, a.eval (.tmp 18) = .slice (some ⟨X, 0, none⟩) n c) → (∃ n c, a.eval (.tmp 30) = .slice (some ⟨Y, 0, none⟩) n c) → X ≠ Y
theorem CpJ.keep {W0 : World} {g : Nat} {sv lv gv : Value} {aA mA hA pA : Option Addr} {n1 n2 n3 n4 ac mc hc pc : Nat} {a0 : Act} {D : Nat → Bool} {a : Act} {w w' : World} (h : CpJ W0 g sv lv gv aA mA hA pA n1 n2 n3 n4 ac mc hc pc a0 D a w) (hb : Below w.heap.size w w') : CpJ W0 g sv lv gv aA mA hA pA n1 n2 n3 n4 ac mc hc pc a0 D a w' where
  fr := h.fr
  below := h.below.trans (hb.mono h.below.size)
  s0 := h.s0
  s1 := h.s1
  s2 := h.s2
  s3 := h.s3
  s4 := h.s4
  s5 := h.s5
  s6 := h.s6
  s7 := h.s7
  s8 := h.s8
  s9 := fun hd => by obtain ⟨X, e, e1, e2⟩ := h.s9 hd; exact ⟨X, e, e1, e2.below hb⟩
  s10 := h.s10
  s11 := h.s11
  s12 := h.s12
  s13 := h.s13
  s14 := h.s14
  s15 := fun hd => by obtain ⟨X, e, e1, e2⟩ := h.s15 hd; exact ⟨X, e, e1, e2.below hb⟩
  s16 := h.s16
  s17 := h.s17
  s18 := h.s18
  s19 := h.s19
  s20 := h.s20
  s21 := fun hd => by obtain ⟨X, e, e1, e2⟩ := h.s21 hd; exact ⟨X, e, e1, e2.below hb⟩
  s22 := h.s22
  s23 := h.s23
  s24 := h.s24
  s25 := h.s25
  s26 := h.s26
  s27 := fun hd => by obtain ⟨X, e, e1, e2⟩ := h.s27 hd; exact ⟨X, e, e1, e2.below hb⟩
  s28 := fun hd => by obtain ⟨X1, X2, X3, X4, e, k⟩ := h.s28 hd; exact ⟨X1, X2, X3, X4, e, k.below hb⟩
  s29 := fun hd => by obtain ⟨X, X1, X2, X3, X4, e, e1, e2, k⟩ := h.s29 hd; exact ⟨X, X1, X2, X3, X4, e, e1, e2.below hb e2.lt, k.below hb⟩
  s30 := fun hd => by obtain ⟨X, X1, X2, X3, X4, e, e1, e2, k⟩ := h.s30 hd; exact ⟨X, X1, X2, X3, X4, e, e1, e2.below hb e2.lt, k.below hb⟩
  ne9_21 := h.ne9_21
theorem own_full {w : World} {base X n size : Nat} {T : TypeId} {cs : List Value} (h : Blk w X T cs) (hb : base ≤ X) (hl : cs.length = n * size) (hn : n ≤ maxLen) : w.ownsRow base T size (.slice (some ⟨X, 0, none⟩) n n) n cs :=
  ⟨hl, .inr ⟨X, n, cs.toArray, rfl, hb, h, Nat.le_refl _, hn, by simpa using hl, by rw [List.take_of_length_le (by simp [hl])]⟩⟩
/-- The copy while its four rows are being filled. -/
structure CpS (w wc : World) (X X1 X2 X3 X4 : Nat) (agg : List Value) (P1 P2 P3 P4 : Array Value → Prop) : Prop where
  bel : Below w.heap.size w wc
  blk : Blk wc X 81 agg
  lx : w.heap.size ≤ X
  l1 : w.heap.size ≤ X1
  l2 : w.heap.size ≤ X2
  l3 : w.heap.size ≤ X3
  l4 : w.heap.size ≤ X4
  r1 : ∃ arr, wc.heap[X1]? = some (.cells arr 3 (0, 0)) ∧ P1 arr
  r2 : ∃ arr, wc.heap[X2]? = some (.cells arr 2 (0, 0)) ∧ P2 arr
  r3 : ∃ arr, wc.heap[X3]? = some (.cells arr 3 (0, 0)) ∧ P3 arr
  r4 : ∃ arr, wc.heap[X4]? = some (.cells arr 77 (0, 0)) ∧ P4 arr
  ne : X1 ≠ X3
section
variable {w wc : World} {X X1 X2 X3 X4 : Nat} {agg : List Value} {P1 P2 P3 P4 : Array Value → Prop}
theorem CpS.fill1 (h : CpS w wc X X1 X2 X3 X4 agg P1 P2 P3 P4) (cs : List Value) : CpS w ((World.drew wc).setRow X1 cs.toArray) X X1 X2 X3 X4 agg (fun a => a = cs.toArray) P2 P3 P4 := by
  obtain ⟨a1, k1, -⟩ := h.r1
  obtain ⟨a2, k2, q2⟩ := h.r2
  obtain ⟨a3, k3, q3⟩ := h.r3
  obtain ⟨a4, k4, q4⟩ := h.r4
  exact ⟨below_row h.bel.drew h.l1 _, (heap_setRow_ne (row_types h.blk k1 (by decide)) _).trans h.blk, h.lx, h.l1, h.l2, h.l3, h.l4, ⟨_, setRow_heap _ _ _ _ _ _ k1, rfl⟩,
    ⟨a2, (heap_setRow_ne (row_types k2 k1 (by decide)) _).trans k2, q2⟩, ⟨a3, (heap_setRow_ne (fun e => h.ne e.symm) _).trans k3, q3⟩, ⟨a4, (heap_setRow_ne (row_types k4 k1 (by decide)) _).trans k4, q4⟩, h.ne⟩
theorem CpS.fill2 (h : CpS w wc X X1 X2 X3 X4 agg P1 P2 P3 P4) (cs : List Value) : CpS w ((World.drew wc).setRow X2 cs.toArray) X X1 X2 X3 X4 agg P1 (fun a => a = cs.toArray) P3 P4 := by
  obtain ⟨a1, k1, q1⟩ := h.r1
  obtain ⟨a2, k2, -⟩ := h.r2
  obtain ⟨a3, k3, q3⟩ := h.r3
  obtain ⟨a4, k4, q4⟩ := h.r4
  exact ⟨below_row h.bel.drew h.l2 _, (heap_setRow_ne (row_types h.blk k2 (by decide)) _).trans h.blk, h.lx, h.l1, h.l2, h.l3, h.l4, ⟨a1, (heap_setRow_ne (row_types k1 k2 (by decide)) _).trans k1, q1⟩, ⟨_, setRow_heap _ _ _ _ _ _ k2, rfl⟩,
    ⟨a3, (heap_setRow_ne (row_types k3 k2 (by decide)) _).trans k3, q3⟩, ⟨a4, (heap_setRow_ne (row_types k4 k2 (by decide)) _).trans k4, q4⟩, h.ne⟩
theorem CpS.fill3 (h : CpS w wc X X1 X2 X3 X4 agg P1 P2 P3 P4) (cs : List Value) : CpS w ((World.drew wc).setRow X3 cs.toArray) X X1 X2 X3 X4 agg P1 P2 (fun a => a = cs.toArray) P4 := by
  obtain ⟨a1, k1, q1⟩ := h.r1
  obtain ⟨a2, k2, q2⟩ := h.r2
  obtain ⟨a3, k3, -⟩ := h.r3
  obtain ⟨a4, k4, q4⟩ := h.r4
  exact ⟨below_row h.bel.drew h.l3 _, (heap_setRow_ne (row_types h.blk k3 (by decide)) _).trans h.blk, h.lx, h.l1, h.l2, h.l3, h.l4, ⟨a1, (heap_setRow_ne h.ne _).trans k1, q1⟩, ⟨a2, (heap_setRow_ne (row_types k2 k3 (by decide)) _).trans k2, q2⟩, ⟨_, setRow_heap _ _ _ _ _ _ k3, rfl⟩,
    ⟨a4, (heap_setRow_ne (row_types k4 k3 (by decide)) _).trans k4, q4⟩, h.ne⟩
theorem CpS.fill4 (h : CpS w wc X X1 X2 X3 X4 agg P1 P2 P3 P4) (cs : List Value) : CpS w ((World.drew wc).setRow X4 cs.toArray) X X1 X2 X3 X4 agg P1 P2 P3 (fun a => a = cs.toArray) := by
  obtain ⟨a1, k1, q1⟩ := h.r1
  obtain ⟨a2, k2, q2⟩ := h.r2
  obtain ⟨a3, k3, q3⟩ := h.r3
  obtain ⟨a4, k4, -⟩ := h.r4
  exact ⟨below_row h.bel.drew h.l4 _, (heap_setRow_ne (row_types h.blk k4 (by decide)) _).trans h.blk, h.lx, h.l1, h.l2, h.l3, h.l4, ⟨a1, (heap_setRow_ne (row_types k1 k4 (by decide)) _).trans k1, q1⟩, ⟨a2, (heap_setRow_ne (row_types k2 k4 (by decide)) _).trans k2, q2⟩,
    ⟨a3, (heap_setRow_ne (row_types k3 k4 (by decide)) _).trans k3, q3⟩, ⟨_, setRow_heap _ _ _ _ _ _ k4, rfl⟩, h.ne⟩
theorem raw_drew {w : World} {Y k : Nat} {T : TypeId} (h : ∃ arr : Array Value, w.heap[Y]? = some (.cells arr T (0, 0)) ∧ arr.size = k) : RawB (World.drew w) Y T k := h
end
set_option maxRecDepth 100000 in
set_option maxHeartbeats 16000000 in
theorem copy_calls {w : World} {R : Nat → Prop} {g : Nat} {L : Lay} {u : Unit_} {m : Mach} (h : MachB w R g L u m) (hR : ∀ q, R q → q < w.heap.size) (hat : m.at_.length ≤ 4294967296) (hme : m.mem.length ≤ 4294967296) (hho : m.holders.length ≤ 4294967296) (hpr : m.prints.length ≤ 4294967296) (hsn : m.slots.length ≤ 4294967296) (hsl : ∀ l ∈ m.slots, l.length ≤ 4160) :
    Calls Tryz.prog 18 #[.pointer (some ⟨g, 0, none⟩)] w fun e w' => ∃ g' L' R', e = .returned (.pointer (some ⟨g', 0, none⟩)) ∧ MachB w' R' g' L' u m ∧ (∀ q, R' q → R q ∨ (w.heap.size ≤ q ∧ q < w'.heap.size)) ∧ (∀ q, L'.mut g' q → w.heap.size ≤ q) ∧ Below w.heap.size w w' := by
  have hD := h.keyD fun l hl => by have := hsl l hl; unfold maxLen; omega
  obtain ⟨sv, hsv⟩ : ∃ x, L.sv = x := ⟨_, rfl⟩
  obtain ⟨lv, hlv⟩ : ∃ x, L.lv = x := ⟨_, rfl⟩
  obtain ⟨gv, hgv⟩ : ∃ x, L.gv = x := ⟨_, rfl⟩
  obtain ⟨aA, ac, hav⟩ := h.avf
  obtain ⟨mA, mc, hmv⟩ := h.mvf
  obtain ⟨hA, hc, hhv⟩ := h.hvf
  obtain ⟨pA, pc, hpv⟩ := h.pvf
  obtain ⟨oA, oc, hov, -⟩ := id hD.slots
  rw [hav, hmv, hhv, hpv, hov] at hD
  have lg := h.blk.lt
  have hun := h.unit
  rw [hsv, hlv, hgv] at hun
  have HUC : Hid (∀ j v, ([sv, lv, gv] : List Value)[j]? = some v → w.cell? ⟨g, 0 + j, none⟩ = some v) := Lib.hid fun j v hj => by
    rw [Nat.zero_add, h.blk.cell]
    match j, hj with
    | 0, hj => injection hj with hj; subst hj; rw [← hsv]; rfl
    | 1, hj => injection hj with hj; subst hj; rw [← hlv]; rfl
    | 2, hj => injection hj with hj; subst hj; rw [← hgv]; rfl
  have C3 := Lib.hid hD.c3
  have C4 := Lib.hid hD.c4
  have C5 := Lib.hid hD.c5
  have C6 := Lib.hid hD.c6
  have C7 := Lib.hid hD.c7
  have HD := Lib.hid hD
  have HUN := Lib.hid (And.intro hun (And.intro hR hsl))
  clear h hD hun hR hsl hsv hlv hgv hav hmv hhv hpv hov
  obtain ⟨n1, hn1⟩ : ∃ n, m.at_.length = n := ⟨_, rfl⟩
  obtain ⟨n2, hn2⟩ : ∃ n, m.mem.length = n := ⟨_, rfl⟩
  obtain ⟨n3, hn3⟩ : ∃ n, m.holders.length = n := ⟨_, rfl⟩
  obtain ⟨n4, hn4⟩ : ∃ n, m.prints.length = n := ⟨_, rfl⟩
  rw [hn1, hn2, hn3, hn4] at HD
  rw [hn1] at C3 hat
  rw [hn2] at C5 hme
  rw [hn3] at C6 hho
  rw [hn4] at C7 hpr
  have HNN := Lib.hid (And.intro hn1 (And.intro hn2 (And.intro hn3 hn4)))
  clear hn1 hn2 hn3 hn4
  go_enter Tryz.func18, Tryz.ntmps18
  go_upto_region 3 with fail
  refine wp_act0 fun a0 ha0 => ?_
  have t0 : a0.eval (.tmp 0) = .pointer (some ⟨g, 0, none⟩) := by rw [ha0]; rfl
  have hsz : a0.tmps.size = 102 := by rw [ha0]; rfl
  have HA0 := Lib.hid ha0; clear ha0
  refine wp_region_inv (CpJ w g sv lv gv aA mA hA pA n1 n2 n3 n4 ac mc hc pc a0) (by kernel_rfl) (by kernel_rfl) ?start ?steps ?done
  case start =>
    refine { fr := Fr.refl _ _, below := (Below.refl _ w).drew, s0 := ?_, s1 := ?_, s2 := ?_, s3 := ?_, s4 := ?_, s5 := ?_, s6 := ?_, s7 := ?_, s8 := ?_, s9 := ?_, s10 := ?_, s11 := ?_, s12 := ?_, s13 := ?_, s14 := ?_, s15 := ?_, s16 := ?_, s17 := ?_, s18 := ?_, s19 := ?_, s20 := ?_, s21 := ?_, s22 := ?_, s23 := ?_, s24 := ?_, s25 := ?_, s26 := ?_, s27 := ?_, s28 := ?_, s29 := ?_, s30 := ?_, ne9_21 := ?_ } <;> (intro hd; cases hd)
  case steps =>
    refine steps_all ?_
    refine ⟨?_, ?_, ?_, ?_, ?_, ?_, ?_, ?_, ?_, ?_, ?_, ?_, ?_, ?_, ?_, ?_, ?_, ?_, ?_, ?_, ?_, ?_, ?_, ?_, ?_, ?_, ?_, ?_, ?_, ?_, ?_, trivial⟩
    · -- 0
      intro D a wx K hD hp h hK
      refine step_wp rfl ?_
      refine wp_move_at rfl ?_
      rw [h.fr.eval (j := 0) (by decide), t0]
      refine hK _ _ {
        fr := h.fr.put (by decide) _
        below := h.below
        s0 := fun _ => h.fr.eval_put (by rw [hsz]; decide) _
        s1 := by simpa using h.s1
        s2 := by simpa using h.s2
        s3 := by simpa using h.s3
        s4 := by simpa using h.s4
        s5 := by simpa using h.s5
        s6 := by simpa using h.s6
        s7 := by simpa using h.s7
        s8 := by simpa using h.s8
        s9 := by simpa using h.s9
        s10 := by simpa using h.s10
        s11 := by simpa using h.s11
        s12 := by simpa using h.s12
        s13 := by simpa using h.s13
        s14 := by simpa using h.s14
        s15 := by simpa using h.s15
        s16 := by simpa using h.s16
        s17 := by simpa using h.s17
        s18 := by simpa using h.s18
        s19 := by simpa using h.s19
        s20 := by simpa using h.s20
        s21 := by simpa using h.s21
        s22 := by simpa using h.s22
        s23 := by simpa using h.s23
        s24 := by simpa using h.s24
        s25 := by simpa using h.s25
        s26 := by simpa using h.s26
        s27 := by simpa using h.s27
        s28 := by simpa using h.s28
        s29 := by simpa using h.s29
        s30 := by simpa using h.s30
        ne9_21 := by simpa using h.ne9_21 }
    · -- 1
      intro D a wx K hD hp h hK
      refine step_wp rfl ?_
      have q0 := h.s0 (hp 0 (by decide))
      refine wp_val_at (.pointer (some ⟨g, 0, none⟩)) (by generalize a.eval = ρ at *; go_simp) ?_
      refine hK _ _ {
        fr := h.fr.put (by decide) _
        below := h.below
        s1 := fun _ => h.fr.eval_put (by rw [hsz]; decide) _
        s0 := by simpa using h.s0
        s2 := by simpa using h.s2
        s3 := by simpa using h.s3
        s4 := by simpa using h.s4
        s5 := by simpa using h.s5
        s6 := by simpa using h.s6
        s7 := by simpa using h.s7
        s8 := by simpa using h.s8
        s9 := by simpa using h.s9
        s10 := by simpa using h.s10
        s11 := by simpa using h.s11
        s12 := by simpa using h.s12
        s13 := by simpa using h.s13
        s14 := by simpa using h.s14
        s15 := by simpa using h.s15
        s16 := by simpa using h.s16
        s17 := by simpa using h.s17
        s18 := by simpa using h.s18
        s19 := by simpa using h.s19
        s20 := by simpa using h.s20
        s21 := by simpa using h.s21
        s22 := by simpa using h.s22
        s23 := by simpa using h.s23
        s24 := by simpa using h.s24
        s25 := by simpa using h.s25
        s26 := by simpa using h.s26
        s27 := by simpa using h.s27
        s28 := by simpa using h.s28
        s29 := by simpa using h.s29
        s30 := by simpa using h.s30
        ne9_21 := by simpa using h.ne9_21 }
    · -- 2
      intro D a wx K hD hp h hK
      refine step_wp rfl ?_
      have q1 := h.s1 (hp 1 (by decide))
      refine wp_val_at (.pointer (some ⟨g, 0, none⟩)) (by generalize a.eval = ρ at *; go_simp) ?_
      refine hK _ _ {
        fr := h.fr.put (by decide) _
        below := h.below
        s2 := fun _ => h.fr.eval_put (by rw [hsz]; decide) _
        s0 := by simpa using h.s0
        s1 := by simpa using h.s1
        s3 := by simpa using h.s3
        s4 := by simpa using h.s4
        s5 := by simpa using h.s5
        s6 := by simpa using h.s6
        s7 := by simpa using h.s7
        s8 := by simpa using h.s8
        s9 := by simpa using h.s9
        s10 := by simpa using h.s10
        s11 := by simpa using h.s11
        s12 := by simpa using h.s12
        s13 := by simpa using h.s13
        s14 := by simpa using h.s14
        s15 := by simpa using h.s15
        s16 := by simpa using h.s16
        s17 := by simpa using h.s17
        s18 := by simpa using h.s18
        s19 := by simpa using h.s19
        s20 := by simpa using h.s20
        s21 := by simpa using h.s21
        s22 := by simpa using h.s22
        s23 := by simpa using h.s23
        s24 := by simpa using h.s24
        s25 := by simpa using h.s25
        s26 := by simpa using h.s26
        s27 := by simpa using h.s27
        s28 := by simpa using h.s28
        s29 := by simpa using h.s29
        s30 := by simpa using h.s30
        ne9_21 := by simpa using h.ne9_21 }
    · -- 3
      intro D a wx K hD hp h hK
      refine step_wp rfl ?_
      refine wp_load_at 25 _ rfl g 0 (h.s2 (hp 2 (by decide))) [sv, lv, gv] _ (fun j' v hj => (h.below.cell (p := ⟨g, 0 + j', none⟩) lg).trans (HUC.out j' v hj)) Tryz.underlying25 rfl (by kernel_rfl) ?_
      refine hK _ _ {
        fr := h.fr.put (by decide) _
        below := h.below
        s3 := fun _ => h.fr.eval_put (by rw [hsz]; decide) _
        s0 := by simpa using h.s0
        s1 := by simpa using h.s1
        s2 := by simpa using h.s2
        s4 := by simpa using h.s4
        s5 := by simpa using h.s5
        s6 := by simpa using h.s6
        s7 := by simpa using h.s7
        s8 := by simpa using h.s8
        s9 := by simpa using h.s9
        s10 := by simpa using h.s10
        s11 := by simpa using h.s11
        s12 := by simpa using h.s12
        s13 := by simpa using h.s13
        s14 := by simpa using h.s14
        s15 := by simpa using h.s15
        s16 := by simpa using h.s16
        s17 := by simpa using h.s17
        s18 := by simpa using h.s18
        s19 := by simpa using h.s19
        s20 := by simpa using h.s20
        s21 := by simpa using h.s21
        s22 := by simpa using h.s22
        s23 := by simpa using h.s23
        s24 := by simpa using h.s24
        s25 := by simpa using h.s25
        s26 := by simpa using h.s26
        s27 := by simpa using h.s27
        s28 := by simpa using h.s28
        s29 := by simpa using h.s29
        s30 := by simpa using h.s30
        ne9_21 := by simpa using h.ne9_21 }
    · -- 4
      intro D a wx K hD hp h hK
      refine step_wp rfl ?_
      refine wp_move_at rfl ?_
      rw [h.fr.eval (j := 0) (by decide), t0]
      refine hK _ _ {
        fr := h.fr.put (by decide) _
        below := h.below
        s4 := fun _ => h.fr.eval_put (by rw [hsz]; decide) _
        s0 := by simpa using h.s0
        s1 := by simpa using h.s1
        s2 := by simpa using h.s2
        s3 := by simpa using h.s3
        s5 := by simpa using h.s5
        s6 := by simpa using h.s6
        s7 := by simpa using h.s7
        s8 := by simpa using h.s8
        s9 := by simpa using h.s9
        s10 := by simpa using h.s10
        s11 := by simpa using h.s11
        s12 := by simpa using h.s12
        s13 := by simpa using h.s13
        s14 := by simpa using h.s14
        s15 := by simpa using h.s15
        s16 := by simpa using h.s16
        s17 := by simpa using h.s17
        s18 := by simpa using h.s18
        s19 := by simpa using h.s19
        s20 := by simpa using h.s20
        s21 := by simpa using h.s21
        s22 := by simpa using h.s22
        s23 := by simpa using h.s23
        s24 := by simpa using h.s24
        s25 := by simpa using h.s25
        s26 := by simpa using h.s26
        s27 := by simpa using h.s27
        s28 := by simpa using h.s28
        s29 := by simpa using h.s29
        s30 := by simpa using h.s30
        ne9_21 := by simpa using h.ne9_21 }
    · -- 5
      intro D a wx K hD hp h hK
      refine step_wp rfl ?_
      have q4 := h.s4 (hp 4 (by decide))
      refine wp_val_at (.pointer (some ⟨g, 0, none⟩)) (by generalize a.eval = ρ at *; go_simp) ?_
      refine hK _ _ {
        fr := h.fr.put (by decide) _
        below := h.below
        s5 := fun _ => h.fr.eval_put (by rw [hsz]; decide) _
        s0 := by simpa using h.s0
        s1 := by simpa using h.s1
        s2 := by simpa using h.s2
        s3 := by simpa using h.s3
        s4 := by simpa using h.s4
        s6 := by simpa using h.s6
        s7 := by simpa using h.s7
        s8 := by simpa using h.s8
        s9 := by simpa using h.s9
        s10 := by simpa using h.s10
        s11 := by simpa using h.s11
        s12 := by simpa using h.s12
        s13 := by simpa using h.s13
        s14 := by simpa using h.s14
        s15 := by simpa using h.s15
        s16 := by simpa using h.s16
        s17 := by simpa using h.s17
        s18 := by simpa using h.s18
        s19 := by simpa using h.s19
        s20 := by simpa using h.s20
        s21 := by simpa using h.s21
        s22 := by simpa using h.s22
        s23 := by simpa using h.s23
        s24 := by simpa using h.s24
        s25 := by simpa using h.s25
        s26 := by simpa using h.s26
        s27 := by simpa using h.s27
        s28 := by simpa using h.s28
        s29 := by simpa using h.s29
        s30 := by simpa using h.s30
        ne9_21 := by simpa using h.ne9_21 }
    · -- 6
      intro D a wx K hD hp h hK
      refine step_wp rfl ?_
      have q5 := h.s5 (hp 5 (by decide))
      refine wp_val_at (.pointer (some ⟨g, 3, none⟩)) (by generalize a.eval = ρ at *; go_simp) ?_
      refine hK _ _ {
        fr := h.fr.put (by decide) _
        below := h.below
        s6 := fun _ => h.fr.eval_put (by rw [hsz]; decide) _
        s0 := by simpa using h.s0
        s1 := by simpa using h.s1
        s2 := by simpa using h.s2
        s3 := by simpa using h.s3
        s4 := by simpa using h.s4
        s5 := by simpa using h.s5
        s7 := by simpa using h.s7
        s8 := by simpa using h.s8
        s9 := by simpa using h.s9
        s10 := by simpa using h.s10
        s11 := by simpa using h.s11
        s12 := by simpa using h.s12
        s13 := by simpa using h.s13
        s14 := by simpa using h.s14
        s15 := by simpa using h.s15
        s16 := by simpa using h.s16
        s17 := by simpa using h.s17
        s18 := by simpa using h.s18
        s19 := by simpa using h.s19
        s20 := by simpa using h.s20
        s21 := by simpa using h.s21
        s22 := by simpa using h.s22
        s23 := by simpa using h.s23
        s24 := by simpa using h.s24
        s25 := by simpa using h.s25
        s26 := by simpa using h.s26
        s27 := by simpa using h.s27
        s28 := by simpa using h.s28
        s29 := by simpa using h.s29
        s30 := by simpa using h.s30
        ne9_21 := by simpa using h.ne9_21 }
    · -- 7
      intro D a wx K hD hp h hK
      refine step_wp rfl ?_
      have q6 := h.s6 (hp 6 (by decide))
      have z0 := (h.below.cell (p := ⟨g, 3, none⟩) lg).trans C3.out
      refine wp_val_at (.slice aA n1 ac) (by generalize a.eval = ρ at *; go_simp) ?_
      refine hK _ _ {
        fr := h.fr.put (by decide) _
        below := h.below
        s7 := fun _ => h.fr.eval_put (by rw [hsz]; decide) _
        s0 := by simpa using h.s0
        s1 := by simpa using h.s1
        s2 := by simpa using h.s2
        s3 := by simpa using h.s3
        s4 := by simpa using h.s4
        s5 := by simpa using h.s5
        s6 := by simpa using h.s6
        s8 := by simpa using h.s8
        s9 := by simpa using h.s9
        s10 := by simpa using h.s10
        s11 := by simpa using h.s11
        s12 := by simpa using h.s12
        s13 := by simpa using h.s13
        s14 := by simpa using h.s14
        s15 := by simpa using h.s15
        s16 := by simpa using h.s16
        s17 := by simpa using h.s17
        s18 := by simpa using h.s18
        s19 := by simpa using h.s19
        s20 := by simpa using h.s20
        s21 := by simpa using h.s21
        s22 := by simpa using h.s22
        s23 := by simpa using h.s23
        s24 := by simpa using h.s24
        s25 := by simpa using h.s25
        s26 := by simpa using h.s26
        s27 := by simpa using h.s27
        s28 := by simpa using h.s28
        s29 := by simpa using h.s29
        s30 := by simpa using h.s30
        ne9_21 := by simpa using h.ne9_21 }
    · -- 8
      intro D a wx K hD hp h hK
      refine step_wp rfl ?_
      have q7 := h.s7 (hp 7 (by decide))
      refine wp_val_at (.int .i64 (n1 : Int)) (by generalize a.eval = ρ at *; go_simp) ?_
      refine hK _ _ {
        fr := h.fr.put (by decide) _
        below := h.below
        s8 := fun _ => h.fr.eval_put (by rw [hsz]; decide) _
        s0 := by simpa using h.s0
        s1 := by simpa using h.s1
        s2 := by simpa using h.s2
        s3 := by simpa using h.s3
        s4 := by simpa using h.s4
        s5 := by simpa using h.s5
        s6 := by simpa using h.s6
        s7 := by simpa using h.s7
        s9 := by simpa using h.s9
        s10 := by simpa using h.s10
        s11 := by simpa using h.s11
        s12 := by simpa using h.s12
        s13 := by simpa using h.s13
        s14 := by simpa using h.s14
        s15 := by simpa using h.s15
        s16 := by simpa using h.s16
        s17 := by simpa using h.s17
        s18 := by simpa using h.s18
        s19 := by simpa using h.s19
        s20 := by simpa using h.s20
        s21 := by simpa using h.s21
        s22 := by simpa using h.s22
        s23 := by simpa using h.s23
        s24 := by simpa using h.s24
        s25 := by simpa using h.s25
        s26 := by simpa using h.s26
        s27 := by simpa using h.s27
        s28 := by simpa using h.s28
        s29 := by simpa using h.s29
        s30 := by simpa using h.s30
        ne9_21 := by simpa using h.ne9_21 }
    · -- 9
      intro D a wx K hD hp h hK
      refine step_wp rfl ?_
      have HK := Lib.hid hK; clear hK
      have H := Lib.hid h; clear h
      refine wp_make_at sl_int (.tmp 17) (.tmp 17) rfl n1 (H.out.s8 (hp 8 (by decide))) (H.out.s8 (hp 8 (by decide))) (by omega) (by omega) ?_
      intro arr harr
      have h := H.out.keep (Below_alloc' wx (.cells arr 3))
      have hwz := H.out.below.size
      refine HK.out _ _ ?_
      exact {
        fr := h.fr.put (by decide) _
        below := h.below
        s9 := fun _ => ⟨wx.heap.size, h.fr.eval_put (by rw [hsz]; decide) _, hwz, ⟨arr, heap_alloc_new wx _, harr⟩⟩
        s0 := by simpa using h.s0
        s1 := by simpa using h.s1
        s2 := by simpa using h.s2
        s3 := by simpa using h.s3
        s4 := by simpa using h.s4
        s5 := by simpa using h.s5
        s6 := by simpa using h.s6
        s7 := by simpa using h.s7
        s8 := by simpa using h.s8
        s10 := by simpa using h.s10
        s11 := by simpa using h.s11
        s12 := by simpa using h.s12
        s13 := by simpa using h.s13
        s14 := by simpa using h.s14
        s15 := by simpa using h.s15
        s16 := by simpa using h.s16
        s17 := by simpa using h.s17
        s18 := by simpa using h.s18
        s19 := by simpa using h.s19
        s20 := by simpa using h.s20
        s21 := by simpa using h.s21
        s22 := by simpa using h.s22
        s23 := by simpa using h.s23
        s24 := by simpa using h.s24
        s25 := by simpa using h.s25
        s26 := by simpa using h.s26
        s27 := by simpa using h.s27
        s28 := by simpa using h.s28
        s29 := by simpa using h.s29
        s30 := by simpa using h.s30
        ne9_21 := fun h6 h7 X Y k1 k2 => by
          rw [upD_ne _ (by decide)] at h7
          obtain ⟨Z, e, -, e2⟩ := H.out.s21 h7
          have hz := e2.lt
          obtain ⟨_, _, k1⟩ := k1
          obtain ⟨_, _, k2⟩ := k2
          rw [h.fr.eval_put (by rw [hsz]; decide)] at k1
          rw [eval_put_ne (by decide), e] at k2
          injection k1 with k1 _ _
          injection k2 with k2 _ _
          injection k1 with k1
          injection k2 with k2
          injection k1 with k1 _ _
          injection k2 with k2 _ _
          omega }
    · -- 10
      intro D a wx K hD hp h hK
      refine step_wp rfl ?_
      refine wp_move_at rfl ?_
      rw [h.fr.eval (j := 0) (by decide), t0]
      refine hK _ _ {
        fr := h.fr.put (by decide) _
        below := h.below
        s10 := fun _ => h.fr.eval_put (by rw [hsz]; decide) _
        s0 := by simpa using h.s0
        s1 := by simpa using h.s1
        s2 := by simpa using h.s2
        s3 := by simpa using h.s3
        s4 := by simpa using h.s4
        s5 := by simpa using h.s5
        s6 := by simpa using h.s6
        s7 := by simpa using h.s7
        s8 := by simpa using h.s8
        s9 := by simpa using h.s9
        s11 := by simpa using h.s11
        s12 := by simpa using h.s12
        s13 := by simpa using h.s13
        s14 := by simpa using h.s14
        s15 := by simpa using h.s15
        s16 := by simpa using h.s16
        s17 := by simpa using h.s17
        s18 := by simpa using h.s18
        s19 := by simpa using h.s19
        s20 := by simpa using h.s20
        s21 := by simpa using h.s21
        s22 := by simpa using h.s22
        s23 := by simpa using h.s23
        s24 := by simpa using h.s24
        s25 := by simpa using h.s25
        s26 := by simpa using h.s26
        s27 := by simpa using h.s27
        s28 := by simpa using h.s28
        s29 := by simpa using h.s29
        s30 := by simpa using h.s30
        ne9_21 := by simpa using h.ne9_21 }
    · -- 11
      intro D a wx K hD hp h hK
      refine step_wp rfl ?_
      have q10 := h.s10 (hp 10 (by decide))
      refine wp_val_at (.pointer (some ⟨g, 0, none⟩)) (by generalize a.eval = ρ at *; go_simp) ?_
      refine hK _ _ {
        fr := h.fr.put (by decide) _
        below := h.below
        s11 := fun _ => h.fr.eval_put (by rw [hsz]; decide) _
        s0 := by simpa using h.s0
        s1 := by simpa using h.s1
        s2 := by simpa using h.s2
        s3 := by simpa using h.s3
        s4 := by simpa using h.s4
        s5 := by simpa using h.s5
        s6 := by simpa using h.s6
        s7 := by simpa using h.s7
        s8 := by simpa using h.s8
        s9 := by simpa using h.s9
        s10 := by simpa using h.s10
        s12 := by simpa using h.s12
        s13 := by simpa using h.s13
        s14 := by simpa using h.s14
        s15 := by simpa using h.s15
        s16 := by simpa using h.s16
        s17 := by simpa using h.s17
        s18 := by simpa using h.s18
        s19 := by simpa using h.s19
        s20 := by simpa using h.s20
        s21 := by simpa using h.s21
        s22 := by simpa using h.s22
        s23 := by simpa using h.s23
        s24 := by simpa using h.s24
        s25 := by simpa using h.s25
        s26 := by simpa using h.s26
        s27 := by simpa using h.s27
        s28 := by simpa using h.s28
        s29 := by simpa using h.s29
        s30 := by simpa using h.s30
        ne9_21 := by simpa using h.ne9_21 }
    · -- 12
      intro D a wx K hD hp h hK
      refine step_wp rfl ?_
      have q11 := h.s11 (hp 11 (by decide))
      refine wp_val_at (.pointer (some ⟨g, 5, none⟩)) (by generalize a.eval = ρ at *; go_simp) ?_
      refine hK _ _ {
        fr := h.fr.put (by decide) _
        below := h.below
        s12 := fun _ => h.fr.eval_put (by rw [hsz]; decide) _
        s0 := by simpa using h.s0
        s1 := by simpa using h.s1
        s2 := by simpa using h.s2
        s3 := by simpa using h.s3
        s4 := by simpa using h.s4
        s5 := by simpa using h.s5
        s6 := by simpa using h.s6
        s7 := by simpa using h.s7
        s8 := by simpa using h.s8
        s9 := by simpa using h.s9
        s10 := by simpa using h.s10
        s11 := by simpa using h.s11
        s13 := by simpa using h.s13
        s14 := by simpa using h.s14
        s15 := by simpa using h.s15
        s16 := by simpa using h.s16
        s17 := by simpa using h.s17
        s18 := by simpa using h.s18
        s19 := by simpa using h.s19
        s20 := by simpa using h.s20
        s21 := by simpa using h.s21
        s22 := by simpa using h.s22
        s23 := by simpa using h.s23
        s24 := by simpa using h.s24
        s25 := by simpa using h.s25
        s26 := by simpa using h.s26
        s27 := by simpa using h.s27
        s28 := by simpa using h.s28
        s29 := by simpa using h.s29
        s30 := by simpa using h.s30
        ne9_21 := by simpa using h.ne9_21 }
    · -- 13
      intro D a wx K hD hp h hK
      refine step_wp rfl ?_
      have q12 := h.s12 (hp 12 (by decide))
      have z0 := (h.below.cell (p := ⟨g, 5, none⟩) lg).trans C5.out
      refine wp_val_at (.slice mA n2 mc) (by generalize a.eval = ρ at *; go_simp) ?_
      refine hK _ _ {
        fr := h.fr.put (by decide) _
        below := h.below
        s13 := fun _ => h.fr.eval_put (by rw [hsz]; decide) _
        s0 := by simpa using h.s0
        s1 := by simpa using h.s1
        s2 := by simpa using h.s2
        s3 := by simpa using h.s3
        s4 := by simpa using h.s4
        s5 := by simpa using h.s5
        s6 := by simpa using h.s6
        s7 := by simpa using h.s7
        s8 := by simpa using h.s8
        s9 := by simpa using h.s9
        s10 := by simpa using h.s10
        s11 := by simpa using h.s11
        s12 := by simpa using h.s12
        s14 := by simpa using h.s14
        s15 := by simpa using h.s15
        s16 := by simpa using h.s16
        s17 := by simpa using h.s17
        s18 := by simpa using h.s18
        s19 := by simpa using h.s19
        s20 := by simpa using h.s20
        s21 := by simpa using h.s21
        s22 := by simpa using h.s22
        s23 := by simpa using h.s23
        s24 := by simpa using h.s24
        s25 := by simpa using h.s25
        s26 := by simpa using h.s26
        s27 := by simpa using h.s27
        s28 := by simpa using h.s28
        s29 := by simpa using h.s29
        s30 := by simpa using h.s30
        ne9_21 := by simpa using h.ne9_21 }
    · -- 14
      intro D a wx K hD hp h hK
      refine step_wp rfl ?_
      have q13 := h.s13 (hp 13 (by decide))
      refine wp_val_at (.int .i64 (n2 : Int)) (by generalize a.eval = ρ at *; go_simp) ?_
      refine hK _ _ {
        fr := h.fr.put (by decide) _
        below := h.below
        s14 := fun _ => h.fr.eval_put (by rw [hsz]; decide) _
        s0 := by simpa using h.s0
        s1 := by simpa using h.s1
        s2 := by simpa using h.s2
        s3 := by simpa using h.s3
        s4 := by simpa using h.s4
        s5 := by simpa using h.s5
        s6 := by simpa using h.s6
        s7 := by simpa using h.s7
        s8 := by simpa using h.s8
        s9 := by simpa using h.s9
        s10 := by simpa using h.s10
        s11 := by simpa using h.s11
        s12 := by simpa using h.s12
        s13 := by simpa using h.s13
        s15 := by simpa using h.s15
        s16 := by simpa using h.s16
        s17 := by simpa using h.s17
        s18 := by simpa using h.s18
        s19 := by simpa using h.s19
        s20 := by simpa using h.s20
        s21 := by simpa using h.s21
        s22 := by simpa using h.s22
        s23 := by simpa using h.s23
        s24 := by simpa using h.s24
        s25 := by simpa using h.s25
        s26 := by simpa using h.s26
        s27 := by simpa using h.s27
        s28 := by simpa using h.s28
        s29 := by simpa using h.s29
        s30 := by simpa using h.s30
        ne9_21 := by simpa using h.ne9_21 }
    · -- 15
      intro D a wx K hD hp h hK
      refine step_wp rfl ?_
      have HK := Lib.hid hK; clear hK
      have H := Lib.hid h; clear h
      refine wp_make_at sl_i64 (.tmp 23) (.tmp 23) rfl n2 (H.out.s14 (hp 14 (by decide))) (H.out.s14 (hp 14 (by decide))) (by omega) (by omega) ?_
      intro arr harr
      have h := H.out.keep (Below_alloc' wx (.cells arr 2))
      have hwz := H.out.below.size
      refine HK.out _ _ ?_
      exact {
        fr := h.fr.put (by decide) _
        below := h.below
        s15 := fun _ => ⟨wx.heap.size, h.fr.eval_put (by rw [hsz]; decide) _, hwz, ⟨arr, heap_alloc_new wx _, harr⟩⟩
        s0 := by simpa using h.s0
        s1 := by simpa using h.s1
        s2 := by simpa using h.s2
        s3 := by simpa using h.s3
        s4 := by simpa using h.s4
        s5 := by simpa using h.s5
        s6 := by simpa using h.s6
        s7 := by simpa using h.s7
        s8 := by simpa using h.s8
        s9 := by simpa using h.s9
        s10 := by simpa using h.s10
        s11 := by simpa using h.s11
        s12 := by simpa using h.s12
        s13 := by simpa using h.s13
        s14 := by simpa using h.s14
        s16 := by simpa using h.s16
        s17 := by simpa using h.s17
        s18 := by simpa using h.s18
        s19 := by simpa using h.s19
        s20 := by simpa using h.s20
        s21 := by simpa using h.s21
        s22 := by simpa using h.s22
        s23 := by simpa using h.s23
        s24 := by simpa using h.s24
        s25 := by simpa using h.s25
        s26 := by simpa using h.s26
        s27 := by simpa using h.s27
        s28 := by simpa using h.s28
        s29 := by simpa using h.s29
        s30 := by simpa using h.s30
        ne9_21 := by simpa using h.ne9_21 }
    · -- 16
      intro D a wx K hD hp h hK
      refine step_wp rfl ?_
      refine wp_move_at rfl ?_
      rw [h.fr.eval (j := 0) (by decide), t0]
      refine hK _ _ {
        fr := h.fr.put (by decide) _
        below := h.below
        s16 := fun _ => h.fr.eval_put (by rw [hsz]; decide) _
        s0 := by simpa using h.s0
        s1 := by simpa using h.s1
        s2 := by simpa using h.s2
        s3 := by simpa using h.s3
        s4 := by simpa using h.s4
        s5 := by simpa using h.s5
        s6 := by simpa using h.s6
        s7 := by simpa using h.s7
        s8 := by simpa using h.s8
        s9 := by simpa using h.s9
        s10 := by simpa using h.s10
        s11 := by simpa using h.s11
        s12 := by simpa using h.s12
        s13 := by simpa using h.s13
        s14 := by simpa using h.s14
        s15 := by simpa using h.s15
        s17 := by simpa using h.s17
        s18 := by simpa using h.s18
        s19 := by simpa using h.s19
        s20 := by simpa using h.s20
        s21 := by simpa using h.s21
        s22 := by simpa using h.s22
        s23 := by simpa using h.s23
        s24 := by simpa using h.s24
        s25 := by simpa using h.s25
        s26 := by simpa using h.s26
        s27 := by simpa using h.s27
        s28 := by simpa using h.s28
        s29 := by simpa using h.s29
        s30 := by simpa using h.s30
        ne9_21 := by simpa using h.ne9_21 }
    · -- 17
      intro D a wx K hD hp h hK
      refine step_wp rfl ?_
      have q16 := h.s16 (hp 16 (by decide))
      refine wp_val_at (.pointer (some ⟨g, 0, none⟩)) (by generalize a.eval = ρ at *; go_simp) ?_
      refine hK _ _ {
        fr := h.fr.put (by decide) _
        below := h.below
        s17 := fun _ => h.fr.eval_put (by rw [hsz]; decide) _
        s0 := by simpa using h.s0
        s1 := by simpa using h.s1
        s2 := by simpa using h.s2
        s3 := by simpa using h.s3
        s4 := by simpa using h.s4
        s5 := by simpa using h.s5
        s6 := by simpa using h.s6
        s7 := by simpa using h.s7
        s8 := by simpa using h.s8
        s9 := by simpa using h.s9
        s10 := by simpa using h.s10
        s11 := by simpa using h.s11
        s12 := by simpa using h.s12
        s13 := by simpa using h.s13
        s14 := by simpa using h.s14
        s15 := by simpa using h.s15
        s16 := by simpa using h.s16
        s18 := by simpa using h.s18
        s19 := by simpa using h.s19
        s20 := by simpa using h.s20
        s21 := by simpa using h.s21
        s22 := by simpa using h.s22
        s23 := by simpa using h.s23
        s24 := by simpa using h.s24
        s25 := by simpa using h.s25
        s26 := by simpa using h.s26
        s27 := by simpa using h.s27
        s28 := by simpa using h.s28
        s29 := by simpa using h.s29
        s30 := by simpa using h.s30
        ne9_21 := by simpa using h.ne9_21 }
    · -- 18
      intro D a wx K hD hp h hK
      refine step_wp rfl ?_
      have q17 := h.s17 (hp 17 (by decide))
      refine wp_val_at (.pointer (some ⟨g, 6, none⟩)) (by generalize a.eval = ρ at *; go_simp) ?_
      refine hK _ _ {
        fr := h.fr.put (by decide) _
        below := h.below
        s18 := fun _ => h.fr.eval_put (by rw [hsz]; decide) _
        s0 := by simpa using h.s0
        s1 := by simpa using h.s1
        s2 := by simpa using h.s2
        s3 := by simpa using h.s3
        s4 := by simpa using h.s4
        s5 := by simpa using h.s5
        s6 := by simpa using h.s6
        s7 := by simpa using h.s7
        s8 := by simpa using h.s8
        s9 := by simpa using h.s9
        s10 := by simpa using h.s10
        s11 := by simpa using h.s11
        s12 := by simpa using h.s12
        s13 := by simpa using h.s13
        s14 := by simpa using h.s14
        s15 := by simpa using h.s15
        s16 := by simpa using h.s16
        s17 := by simpa using h.s17
        s19 := by simpa using h.s19
        s20 := by simpa using h.s20
        s21 := by simpa using h.s21
        s22 := by simpa using h.s22
        s23 := by simpa using h.s23
        s24 := by simpa using h.s24
        s25 := by simpa using h.s25
        s26 := by simpa using h.s26
        s27 := by simpa using h.s27
        s28 := by simpa using h.s28
        s29 := by simpa using h.s29
        s30 := by simpa using h.s30
        ne9_21 := by simpa using h.ne9_21 }
    · -- 19
      intro D a wx K hD hp h hK
      refine step_wp rfl ?_
      have q18 := h.s18 (hp 18 (by decide))
      have z0 := (h.below.cell (p := ⟨g, 6, none⟩) lg).trans C6.out
      refine wp_val_at (.slice hA n3 hc) (by generalize a.eval = ρ at *; go_simp) ?_
      refine hK _ _ {
        fr := h.fr.put (by decide) _
        below := h.below
        s19 := fun _ => h.fr.eval_put (by rw [hsz]; decide) _
        s0 := by simpa using h.s0
        s1 := by simpa using h.s1
        s2 := by simpa using h.s2
        s3 := by simpa using h.s3
        s4 := by simpa using h.s4
        s5 := by simpa using h.s5
        s6 := by simpa using h.s6
        s7 := by simpa using h.s7
        s8 := by simpa using h.s8
        s9 := by simpa using h.s9
        s10 := by simpa using h.s10
        s11 := by simpa using h.s11
        s12 := by simpa using h.s12
        s13 := by simpa using h.s13
        s14 := by simpa using h.s14
        s15 := by simpa using h.s15
        s16 := by simpa using h.s16
        s17 := by simpa using h.s17
        s18 := by simpa using h.s18
        s20 := by simpa using h.s20
        s21 := by simpa using h.s21
        s22 := by simpa using h.s22
        s23 := by simpa using h.s23
        s24 := by simpa using h.s24
        s25 := by simpa using h.s25
        s26 := by simpa using h.s26
        s27 := by simpa using h.s27
        s28 := by simpa using h.s28
        s29 := by simpa using h.s29
        s30 := by simpa using h.s30
        ne9_21 := by simpa using h.ne9_21 }
    · -- 20
      intro D a wx K hD hp h hK
      refine step_wp rfl ?_
      have q19 := h.s19 (hp 19 (by decide))
      refine wp_val_at (.int .i64 (n3 : Int)) (by generalize a.eval = ρ at *; go_simp) ?_
      refine hK _ _ {
        fr := h.fr.put (by decide) _
        below := h.below
        s20 := fun _ => h.fr.eval_put (by rw [hsz]; decide) _
        s0 := by simpa using h.s0
        s1 := by simpa using h.s1
        s2 := by simpa using h.s2
        s3 := by simpa using h.s3
        s4 := by simpa using h.s4
        s5 := by simpa using h.s5
        s6 := by simpa using h.s6
        s7 := by simpa using h.s7
        s8 := by simpa using h.s8
        s9 := by simpa using h.s9
        s10 := by simpa using h.s10
        s11 := by simpa using h.s11
        s12 := by simpa using h.s12
        s13 := by simpa using h.s13
        s14 := by simpa using h.s14
        s15 := by simpa using h.s15
        s16 := by simpa using h.s16
        s17 := by simpa using h.s17
        s18 := by simpa using h.s18
        s19 := by simpa using h.s19
        s21 := by simpa using h.s21
        s22 := by simpa using h.s22
        s23 := by simpa using h.s23
        s24 := by simpa using h.s24
        s25 := by simpa using h.s25
        s26 := by simpa using h.s26
        s27 := by simpa using h.s27
        s28 := by simpa using h.s28
        s29 := by simpa using h.s29
        s30 := by simpa using h.s30
        ne9_21 := by simpa using h.ne9_21 }
    · -- 21
      intro D a wx K hD hp h hK
      refine step_wp rfl ?_
      have HK := Lib.hid hK; clear hK
      have H := Lib.hid h; clear h
      refine wp_make_at sl_int (.tmp 29) (.tmp 29) rfl n3 (H.out.s20 (hp 20 (by decide))) (H.out.s20 (hp 20 (by decide))) (by omega) (by omega) ?_
      intro arr harr
      have h := H.out.keep (Below_alloc' wx (.cells arr 3))
      have hwz := H.out.below.size
      refine HK.out _ _ ?_
      exact {
        fr := h.fr.put (by decide) _
        below := h.below
        s21 := fun _ => ⟨wx.heap.size, h.fr.eval_put (by rw [hsz]; decide) _, hwz, ⟨arr, heap_alloc_new wx _, harr⟩⟩
        s0 := by simpa using h.s0
        s1 := by simpa using h.s1
        s2 := by simpa using h.s2
        s3 := by simpa using h.s3
        s4 := by simpa using h.s4
        s5 := by simpa using h.s5
        s6 := by simpa using h.s6
        s7 := by simpa using h.s7
        s8 := by simpa using h.s8
        s9 := by simpa using h.s9
        s10 := by simpa using h.s10
        s11 := by simpa using h.s11
        s12 := by simpa using h.s12
        s13 := by simpa using h.s13
        s14 := by simpa using h.s14
        s15 := by simpa using h.s15
        s16 := by simpa using h.s16
        s17 := by simpa using h.s17
        s18 := by simpa using h.s18
        s19 := by simpa using h.s19
        s20 := by simpa using h.s20
        s22 := by simpa using h.s22
        s23 := by simpa using h.s23
        s24 := by simpa using h.s24
        s25 := by simpa using h.s25
        s26 := by simpa using h.s26
        s27 := by simpa using h.s27
        s28 := by simpa using h.s28
        s29 := by simpa using h.s29
        s30 := by simpa using h.s30
        ne9_21 := fun h6 h7 X Y k1 k2 => by
          rw [upD_ne _ (by decide)] at h6
          obtain ⟨Z, e, -, e2⟩ := H.out.s9 h6
          have hz := e2.lt
          obtain ⟨_, _, k1⟩ := k1
          obtain ⟨_, _, k2⟩ := k2
          rw [h.fr.eval_put (by rw [hsz]; decide)] at k2
          rw [eval_put_ne (by decide), e] at k1
          injection k1 with k1 _ _
          injection k2 with k2 _ _
          injection k1 with k1
          injection k2 with k2
          injection k1 with k1 _ _
          injection k2 with k2 _ _
          omega }
    · -- 22
      intro D a wx K hD hp h hK
      refine step_wp rfl ?_
      refine wp_move_at rfl ?_
      rw [h.fr.eval (j := 0) (by decide), t0]
      refine hK _ _ {
        fr := h.fr.put (by decide) _
        below := h.below
        s22 := fun _ => h.fr.eval_put (by rw [hsz]; decide) _
        s0 := by simpa using h.s0
        s1 := by simpa using h.s1
        s2 := by simpa using h.s2
        s3 := by simpa using h.s3
        s4 := by simpa using h.s4
        s5 := by simpa using h.s5
        s6 := by simpa using h.s6
        s7 := by simpa using h.s7
        s8 := by simpa using h.s8
        s9 := by simpa using h.s9
        s10 := by simpa using h.s10
        s11 := by simpa using h.s11
        s12 := by simpa using h.s12
        s13 := by simpa using h.s13
        s14 := by simpa using h.s14
        s15 := by simpa using h.s15
        s16 := by simpa using h.s16
        s17 := by simpa using h.s17
        s18 := by simpa using h.s18
        s19 := by simpa using h.s19
        s20 := by simpa using h.s20
        s21 := by simpa using h.s21
        s23 := by simpa using h.s23
        s24 := by simpa using h.s24
        s25 := by simpa using h.s25
        s26 := by simpa using h.s26
        s27 := by simpa using h.s27
        s28 := by simpa using h.s28
        s29 := by simpa using h.s29
        s30 := by simpa using h.s30
        ne9_21 := by simpa using h.ne9_21 }
    · -- 23
      intro D a wx K hD hp h hK
      refine step_wp rfl ?_
      have q22 := h.s22 (hp 22 (by decide))
      refine wp_val_at (.pointer (some ⟨g, 0, none⟩)) (by generalize a.eval = ρ at *; go_simp) ?_
      refine hK _ _ {
        fr := h.fr.put (by decide) _
        below := h.below
        s23 := fun _ => h.fr.eval_put (by rw [hsz]; decide) _
        s0 := by simpa using h.s0
        s1 := by simpa using h.s1
        s2 := by simpa using h.s2
        s3 := by simpa using h.s3
        s4 := by simpa using h.s4
        s5 := by simpa using h.s5
        s6 := by simpa using h.s6
        s7 := by simpa using h.s7
        s8 := by simpa using h.s8
        s9 := by simpa using h.s9
        s10 := by simpa using h.s10
        s11 := by simpa using h.s11
        s12 := by simpa using h.s12
        s13 := by simpa using h.s13
        s14 := by simpa using h.s14
        s15 := by simpa using h.s15
        s16 := by simpa using h.s16
        s17 := by simpa using h.s17
        s18 := by simpa using h.s18
        s19 := by simpa using h.s19
        s20 := by simpa using h.s20
        s21 := by simpa using h.s21
        s22 := by simpa using h.s22
        s24 := by simpa using h.s24
        s25 := by simpa using h.s25
        s26 := by simpa using h.s26
        s27 := by simpa using h.s27
        s28 := by simpa using h.s28
        s29 := by simpa using h.s29
        s30 := by simpa using h.s30
        ne9_21 := by simpa using h.ne9_21 }
    · -- 24
      intro D a wx K hD hp h hK
      refine step_wp rfl ?_
      have q23 := h.s23 (hp 23 (by decide))
      refine wp_val_at (.pointer (some ⟨g, 7, none⟩)) (by generalize a.eval = ρ at *; go_simp) ?_
      refine hK _ _ {
        fr := h.fr.put (by decide) _
        below := h.below
        s24 := fun _ => h.fr.eval_put (by rw [hsz]; decide) _
        s0 := by simpa using h.s0
        s1 := by simpa using h.s1
        s2 := by simpa using h.s2
        s3 := by simpa using h.s3
        s4 := by simpa using h.s4
        s5 := by simpa using h.s5
        s6 := by simpa using h.s6
        s7 := by simpa using h.s7
        s8 := by simpa using h.s8
        s9 := by simpa using h.s9
        s10 := by simpa using h.s10
        s11 := by simpa using h.s11
        s12 := by simpa using h.s12
        s13 := by simpa using h.s13
        s14 := by simpa using h.s14
        s15 := by simpa using h.s15
        s16 := by simpa using h.s16
        s17 := by simpa using h.s17
        s18 := by simpa using h.s18
        s19 := by simpa using h.s19
        s20 := by simpa using h.s20
        s21 := by simpa using h.s21
        s22 := by simpa using h.s22
        s23 := by simpa using h.s23
        s25 := by simpa using h.s25
        s26 := by simpa using h.s26
        s27 := by simpa using h.s27
        s28 := by simpa using h.s28
        s29 := by simpa using h.s29
        s30 := by simpa using h.s30
        ne9_21 := by simpa using h.ne9_21 }
    · -- 25
      intro D a wx K hD hp h hK
      refine step_wp rfl ?_
      have q24 := h.s24 (hp 24 (by decide))
      have z0 := (h.below.cell (p := ⟨g, 7, none⟩) lg).trans C7.out
      refine wp_val_at (.slice pA n4 pc) (by generalize a.eval = ρ at *; go_simp) ?_
      refine hK _ _ {
        fr := h.fr.put (by decide) _
        below := h.below
        s25 := fun _ => h.fr.eval_put (by rw [hsz]; decide) _
        s0 := by simpa using h.s0
        s1 := by simpa using h.s1
        s2 := by simpa using h.s2
        s3 := by simpa using h.s3
        s4 := by simpa using h.s4
        s5 := by simpa using h.s5
        s6 := by simpa using h.s6
        s7 := by simpa using h.s7
        s8 := by simpa using h.s8
        s9 := by simpa using h.s9
        s10 := by simpa using h.s10
        s11 := by simpa using h.s11
        s12 := by simpa using h.s12
        s13 := by simpa using h.s13
        s14 := by simpa using h.s14
        s15 := by simpa using h.s15
        s16 := by simpa using h.s16
        s17 := by simpa using h.s17
        s18 := by simpa using h.s18
        s19 := by simpa using h.s19
        s20 := by simpa using h.s20
        s21 := by simpa using h.s21
        s22 := by simpa using h.s22
        s23 := by simpa using h.s23
        s24 := by simpa using h.s24
        s26 := by simpa using h.s26
        s27 := by simpa using h.s27
        s28 := by simpa using h.s28
        s29 := by simpa using h.s29
        s30 := by simpa using h.s30
        ne9_21 := by simpa using h.ne9_21 }
    · -- 26
      intro D a wx K hD hp h hK
      refine step_wp rfl ?_
      have q25 := h.s25 (hp 25 (by decide))
      refine wp_val_at (.int .i64 (n4 : Int)) (by generalize a.eval = ρ at *; go_simp) ?_
      refine hK _ _ {
        fr := h.fr.put (by decide) _
        below := h.below
        s26 := fun _ => h.fr.eval_put (by rw [hsz]; decide) _
        s0 := by simpa using h.s0
        s1 := by simpa using h.s1
        s2 := by simpa using h.s2
        s3 := by simpa using h.s3
        s4 := by simpa using h.s4
        s5 := by simpa using h.s5
        s6 := by simpa using h.s6
        s7 := by simpa using h.s7
        s8 := by simpa using h.s8
        s9 := by simpa using h.s9
        s10 := by simpa using h.s10
        s11 := by simpa using h.s11
        s12 := by simpa using h.s12
        s13 := by simpa using h.s13
        s14 := by simpa using h.s14
        s15 := by simpa using h.s15
        s16 := by simpa using h.s16
        s17 := by simpa using h.s17
        s18 := by simpa using h.s18
        s19 := by simpa using h.s19
        s20 := by simpa using h.s20
        s21 := by simpa using h.s21
        s22 := by simpa using h.s22
        s23 := by simpa using h.s23
        s24 := by simpa using h.s24
        s25 := by simpa using h.s25
        s27 := by simpa using h.s27
        s28 := by simpa using h.s28
        s29 := by simpa using h.s29
        s30 := by simpa using h.s30
        ne9_21 := by simpa using h.ne9_21 }
    · -- 27
      intro D a wx K hD hp h hK
      refine step_wp rfl ?_
      have HK := Lib.hid hK; clear hK
      have H := Lib.hid h; clear h
      refine wp_make_at sl_print (.tmp 35) (.tmp 35) rfl n4 (H.out.s26 (hp 26 (by decide))) (H.out.s26 (hp 26 (by decide))) (by omega) (by omega) ?_
      intro arr harr
      have h := H.out.keep (Below_alloc' wx (.cells arr 77))
      have hwz := H.out.below.size
      refine HK.out _ _ ?_
      exact {
        fr := h.fr.put (by decide) _
        below := h.below
        s27 := fun _ => ⟨wx.heap.size, h.fr.eval_put (by rw [hsz]; decide) _, hwz, ⟨arr, heap_alloc_new wx _, harr⟩⟩
        s0 := by simpa using h.s0
        s1 := by simpa using h.s1
        s2 := by simpa using h.s2
        s3 := by simpa using h.s3
        s4 := by simpa using h.s4
        s5 := by simpa using h.s5
        s6 := by simpa using h.s6
        s7 := by simpa using h.s7
        s8 := by simpa using h.s8
        s9 := by simpa using h.s9
        s10 := by simpa using h.s10
        s11 := by simpa using h.s11
        s12 := by simpa using h.s12
        s13 := by simpa using h.s13
        s14 := by simpa using h.s14
        s15 := by simpa using h.s15
        s16 := by simpa using h.s16
        s17 := by simpa using h.s17
        s18 := by simpa using h.s18
        s19 := by simpa using h.s19
        s20 := by simpa using h.s20
        s21 := by simpa using h.s21
        s22 := by simpa using h.s22
        s23 := by simpa using h.s23
        s24 := by simpa using h.s24
        s25 := by simpa using h.s25
        s26 := by simpa using h.s26
        s28 := by simpa using h.s28
        s29 := by simpa using h.s29
        s30 := by simpa using h.s30
        ne9_21 := by simpa using h.ne9_21 }
    · -- 28
      intro D a wx K hD hp h hK
      refine step_wp rfl ?_
      have HK := Lib.hid hK; clear hK
      have H := Lib.hid h; clear h
      have h := H.out
      obtain ⟨X1, e1, a1, b1⟩ := h.s9 (hp 9 (by decide))
      obtain ⟨X2, e2, a2, b2⟩ := h.s15 (hp 15 (by decide))
      obtain ⟨X3, e3, a3, b3⟩ := h.s21 (hp 21 (by decide))
      obtain ⟨X4, e4, a4, b4⟩ := h.s27 (hp 27 (by decide))
      have ne13 : X1 ≠ X3 := fun q => h.ne9_21 (hp 9 (by decide)) (hp 21 (by decide)) X1 X3 ⟨_, _, e1⟩ ⟨_, _, e3⟩ q
      have e0 := h.s3 (hp 3 (by decide))
      refine wp_val_at (.agg #[sv, lv, gv, .slice (some ⟨X1, 0, none⟩) n1 n1, .slice none 0 0, .slice (some ⟨X2, 0, none⟩) n2 n2, .slice (some ⟨X3, 0, none⟩) n3 n3, .slice (some ⟨X4, 0, none⟩) n4 n4]) (by generalize a.eval = ρ at *; go_simp) ?_
      refine HK.out _ _ ?_
      exact {
        fr := h.fr.put (by decide) _
        below := h.below
        s28 := fun _ => ⟨X1, X2, X3, X4, h.fr.eval_put (by rw [hsz]; decide) _, a1, a2, a3, a4, b1, b2, b3, b4, ne13⟩
        s0 := by simpa using h.s0
        s1 := by simpa using h.s1
        s2 := by simpa using h.s2
        s3 := by simpa using h.s3
        s4 := by simpa using h.s4
        s5 := by simpa using h.s5
        s6 := by simpa using h.s6
        s7 := by simpa using h.s7
        s8 := by simpa using h.s8
        s9 := by simpa using h.s9
        s10 := by simpa using h.s10
        s11 := by simpa using h.s11
        s12 := by simpa using h.s12
        s13 := by simpa using h.s13
        s14 := by simpa using h.s14
        s15 := by simpa using h.s15
        s16 := by simpa using h.s16
        s17 := by simpa using h.s17
        s18 := by simpa using h.s18
        s19 := by simpa using h.s19
        s20 := by simpa using h.s20
        s21 := by simpa using h.s21
        s22 := by simpa using h.s22
        s23 := by simpa using h.s23
        s24 := by simpa using h.s24
        s25 := by simpa using h.s25
        s26 := by simpa using h.s26
        s27 := by simpa using h.s27
        s29 := by simpa using h.s29
        s30 := by simpa using h.s30
        ne9_21 := by simpa using h.ne9_21 }
    · -- 29
      intro D a wx K hD hp h hK
      refine step_wp rfl ?_
      have HK := Lib.hid hK; clear hK
      have H := Lib.hid h; clear h
      obtain ⟨X1, X2, X3, X4, e, f⟩ := H.out.s28 (hp 28 (by decide))
      refine wp_box_at rfl [sv, lv, gv, .slice (some ⟨X1, 0, none⟩) n1 n1, .slice none 0 0, .slice (some ⟨X2, 0, none⟩) n2 n2, .slice (some ⟨X3, 0, none⟩) n3 n3, .slice (some ⟨X4, 0, none⟩) n4 n4] e ?_
      have h := H.out.keep (Below_alloc' wx (.cells (List.toArray [sv, lv, gv, .slice (some ⟨X1, 0, none⟩) n1 n1, .slice none 0 0, .slice (some ⟨X2, 0, none⟩) n2 n2, .slice (some ⟨X3, 0, none⟩) n3 n3, .slice (some ⟨X4, 0, none⟩) n4 n4]) 81))
      have hwz := H.out.below.size
      refine HK.out _ _ ?_
      exact {
        fr := h.fr.put (by decide) _
        below := h.below
        s29 := fun _ => ⟨wx.heap.size, X1, X2, X3, X4, h.fr.eval_put (by rw [hsz]; decide) _, hwz, Blk.new wx _ _, f.below (Below_alloc' wx _)⟩
        s0 := by simpa using h.s0
        s1 := by simpa using h.s1
        s2 := by simpa using h.s2
        s3 := by simpa using h.s3
        s4 := by simpa using h.s4
        s5 := by simpa using h.s5
        s6 := by simpa using h.s6
        s7 := by simpa using h.s7
        s8 := by simpa using h.s8
        s9 := by simpa using h.s9
        s10 := by simpa using h.s10
        s11 := by simpa using h.s11
        s12 := by simpa using h.s12
        s13 := by simpa using h.s13
        s14 := by simpa using h.s14
        s15 := by simpa using h.s15
        s16 := by simpa using h.s16
        s17 := by simpa using h.s17
        s18 := by simpa using h.s18
        s19 := by simpa using h.s19
        s20 := by simpa using h.s20
        s21 := by simpa using h.s21
        s22 := by simpa using h.s22
        s23 := by simpa using h.s23
        s24 := by simpa using h.s24
        s25 := by simpa using h.s25
        s26 := by simpa using h.s26
        s27 := by simpa using h.s27
        s28 := by simpa using h.s28
        s30 := by simpa using h.s30
        ne9_21 := by simpa using h.ne9_21 }
    · -- 30
      intro D a wx K hD hp h hK
      refine step_wp rfl ?_
      have HK := Lib.hid hK; clear hK
      have H := Lib.hid h; clear h
      have h := H.out
      obtain ⟨X, X1, X2, X3, X4, e, e1, e2, f⟩ := h.s29 (hp 29 (by decide))
      refine wp_assign_at rfl ?_
      rw [e]
      refine HK.out _ _ ?_
      exact {
        fr := h.fr.put (by decide) _
        below := h.below
        s30 := fun _ => ⟨X, X1, X2, X3, X4, h.fr.eval_put (by rw [hsz]; decide) _, e1, e2, f⟩
        s0 := by simpa using h.s0
        s1 := by simpa using h.s1
        s2 := by simpa using h.s2
        s3 := by simpa using h.s3
        s4 := by simpa using h.s4
        s5 := by simpa using h.s5
        s6 := by simpa using h.s6
        s7 := by simpa using h.s7
        s8 := by simpa using h.s8
        s9 := by simpa using h.s9
        s10 := by simpa using h.s10
        s11 := by simpa using h.s11
        s12 := by simpa using h.s12
        s13 := by simpa using h.s13
        s14 := by simpa using h.s14
        s15 := by simpa using h.s15
        s16 := by simpa using h.s16
        s17 := by simpa using h.s17
        s18 := by simpa using h.s18
        s19 := by simpa using h.s19
        s20 := by simpa using h.s20
        s21 := by simpa using h.s21
        s22 := by simpa using h.s22
        s23 := by simpa using h.s23
        s24 := by simpa using h.s24
        s25 := by simpa using h.s25
        s26 := by simpa using h.s26
        s27 := by simpa using h.s27
        s28 := by simpa using h.s28
        s29 := by simpa using h.s29
        ne9_21 := by simpa using h.ne9_21 }
  case done =>
    intro D a wc hall h
    have hd : ∀ i, i < 31 → D i = true := hall
    obtain ⟨Y1, y1, -, -⟩ := h.s9 (hd 9 (by decide))
    obtain ⟨Y2, y2, -, -⟩ := h.s15 (hd 15 (by decide))
    obtain ⟨Y3, y3, -, -⟩ := h.s21 (hd 21 (by decide))
    obtain ⟨Y4, y4, -, -⟩ := h.s27 (hd 27 (by decide))
    obtain ⟨_, _, _, _, y5, -⟩ := h.s28 (hd 28 (by decide))
    obtain ⟨_, _, _, _, _, y6, -, -, -⟩ := h.s29 (hd 29 (by decide))
    obtain ⟨X, X1, X2, X3, X4, y7, hX, hBX, hF⟩ := h.s30 (hd 30 (by decide))
    have hfin := (((((((((((((((((((((((((((((((h.fr.shut (by rw [hsz]; decide)).shut (by simp [Act.put, hsz])).shut (by simp [Act.put, hsz])).shut (by simp [Act.put, hsz])).shut (by simp [Act.put, hsz])).shut (by simp [Act.put, hsz])).shut (by simp [Act.put, hsz])).shut (by simp [Act.put, hsz])).shut (by simp [Act.put, hsz])).shut (by simp [Act.put, hsz])).shut (by simp [Act.put, hsz])).shut (by simp [Act.put, hsz])).shut (by simp [Act.put, hsz])).shut (by simp [Act.put, hsz])).shut (by simp [Act.put, hsz])).shut (by simp [Act.put, hsz])).shut (by simp [Act.put, hsz])).shut (by simp [Act.put, hsz])).shut (by simp [Act.put, hsz])).shut (by simp [Act.put, hsz])).shut (by simp [Act.put, hsz])).shut (by simp [Act.put, hsz])).shut (by simp [Act.put, hsz])).shut (by simp [Act.put, hsz])).shut (by simp [Act.put, hsz])).shut (by simp [Act.put, hsz])).shut (by simp [Act.put, hsz])).shut (by simp [Act.put, hsz])).shut (by simp [Act.put, hsz])).shut (by simp [Act.put, hsz])).shut (by simp [Act.put, hsz])).done
    rw [h.s0 (hd 0 (by decide)), h.s1 (hd 1 (by decide)), h.s2 (hd 2 (by decide)), h.s3 (hd 3 (by decide)), h.s4 (hd 4 (by decide)), h.s5 (hd 5 (by decide)), h.s6 (hd 6 (by decide)), h.s7 (hd 7 (by decide)), h.s8 (hd 8 (by decide)), h.s10 (hd 10 (by decide)), h.s11 (hd 11 (by decide)), h.s12 (hd 12 (by decide)), h.s13 (hd 13 (by decide)), h.s14 (hd 14 (by decide)), h.s16 (hd 16 (by decide)), h.s17 (hd 17 (by decide)), h.s18 (hd 18 (by decide)), h.s19 (hd 19 (by decide)), h.s20 (hd 20 (by decide)), h.s22 (hd 22 (by decide)), h.s23 (hd 23 (by decide)), h.s24 (hd 24 (by decide)), h.s25 (hd 25 (by decide)), h.s26 (hd 26 (by decide)), y1, y2, y3, y4, y5, y6, y7] at hfin
    have HS : Hid (CpS w wc X X1 X2 X3 X4 [sv, lv, gv, .slice (some ⟨X1, 0, none⟩) n1 n1, .slice none 0 0, .slice (some ⟨X2, 0, none⟩) n2 n2, .slice (some ⟨X3, 0, none⟩) n3 n3, .slice (some ⟨X4, 0, none⟩) n4 n4] (fun a => a.size = n1 * 1) (fun a => a.size = n2 * 1) (fun a => a.size = n3 * 1) (fun a => a.size = n4 * 2)) := Lib.hid ⟨h.below, hBX, hX, hF.l1, hF.l2, hF.l3, hF.l4, hF.r1, hF.r2, hF.r3, hF.r4, hF.ne⟩
    rw [hfin, HA0.out]
    clear hfin HA0 h hall hd y1 y2 y3 y4 y5 y6 y7 hX hBX hF t0 hsz
    simp only [Act.put, List.setIfInBounds_toArray, List.set_cons_zero, List.set_cons_succ]
    have x3 : wc.cell? ⟨X, 3, none⟩ = some (.slice (some ⟨X1, 0, none⟩) n1 n1) := HS.out.blk.cell 3
    have g3 : wc.cell? ⟨g, 3, none⟩ = some (.slice aA n1 ac) := (HS.out.bel.cell (p := ⟨g, 3, none⟩) lg).trans C3.out
    go_upto_region 4 with fail
    go_still_tail 8, (by kernel_rfl)
    repeat still_step
    change wpList _ _ _ _ _ (World.drew wc)
    refine wpList_copyTo row_int sl_int rfl _ _ rfl X1 n1 aA ac n1 rfl rfl (m.at_.map fun n : Nat => (n : Int)) (by rw [List.length_map]; exact HNN.out.1.symm) (HD.out.at_.mono (cmap_below HS.out.bel.drew)) (raw_drew HS.out.r1) ?_
    have hS := HS.out.fill1 ((m.at_.map fun n : Nat => (n : Int)).map (fun n => [Value.int .i64 n])).flatten
    obtain ⟨wd, hwd⟩ : ∃ wd, (World.drew wc).setRow X1 ((m.at_.map fun n : Nat => (n : Int)).map (fun n => [Value.int .i64 n])).flatten.toArray = wd := ⟨_, rfl⟩
    rw [hwd] at hS ⊢
    have HSn := Lib.hid hS
    clear hS HS x3 g3 hwd wc
    obtain ⟨wc, hwc⟩ : ∃ wc : World, wc = wd := ⟨_, rfl⟩
    rw [← hwc] at HSn ⊢
    clear hwc wd
    have HS := HSn
    clear HSn
    have x5 : wc.cell? ⟨X, 5, none⟩ = some (.slice (some ⟨X2, 0, none⟩) n2 n2) := HS.out.blk.cell 5
    have g5 : wc.cell? ⟨g, 5, none⟩ = some (.slice mA n2 mc) := (HS.out.bel.cell (p := ⟨g, 5, none⟩) lg).trans C5.out
    go_upto_region 5 with fail
    go_still_tail 8, (by kernel_rfl)
    repeat still_step
    change wpList _ _ _ _ _ (World.drew wc)
    refine wpList_copyTo row_int sl_i64 rfl _ _ rfl X2 n2 mA mc n2 rfl rfl m.mem (HNN.out.2.1.symm) (HD.out.mem.mono (cmap_below HS.out.bel.drew)) (raw_drew HS.out.r2) ?_
    have hS := HS.out.fill2 (m.mem.map (fun n => [Value.int .i64 n])).flatten
    obtain ⟨wd, hwd⟩ : ∃ wd, (World.drew wc).setRow X2 (m.mem.map (fun n => [Value.int .i64 n])).flatten.toArray = wd := ⟨_, rfl⟩
    rw [hwd] at hS ⊢
    have HSn := Lib.hid hS
    clear hS HS x5 g5 hwd wc
    obtain ⟨wc, hwc⟩ : ∃ wc : World, wc = wd := ⟨_, rfl⟩
    rw [← hwc] at HSn ⊢
    clear hwc wd
    have HS := HSn
    clear HSn
    have x6 : wc.cell? ⟨X, 6, none⟩ = some (.slice (some ⟨X3, 0, none⟩) n3 n3) := HS.out.blk.cell 6
    have g6 : wc.cell? ⟨g, 6, none⟩ = some (.slice hA n3 hc) := (HS.out.bel.cell (p := ⟨g, 6, none⟩) lg).trans C6.out
    go_upto_region 6 with fail
    go_still_tail 8, (by kernel_rfl)
    repeat still_step
    change wpList _ _ _ _ _ (World.drew wc)
    refine wpList_copyTo row_int sl_int rfl _ _ rfl X3 n3 hA hc n3 rfl rfl m.holders (HNN.out.2.2.1.symm) (HD.out.hold.mono (cmap_below HS.out.bel.drew)) (raw_drew HS.out.r3) ?_
    have hS := HS.out.fill3 (m.holders.map (fun n => [Value.int .i64 n])).flatten
    obtain ⟨wd, hwd⟩ : ∃ wd, (World.drew wc).setRow X3 (m.holders.map (fun n => [Value.int .i64 n])).flatten.toArray = wd := ⟨_, rfl⟩
    rw [hwd] at hS ⊢
    have HSn := Lib.hid hS
    clear hS HS x6 g6 hwd wc
    obtain ⟨wc, hwc⟩ : ∃ wc : World, wc = wd := ⟨_, rfl⟩
    rw [← hwc] at HSn ⊢
    clear hwc wd
    have HS := HSn
    clear HSn
    have x7 : wc.cell? ⟨X, 7, none⟩ = some (.slice (some ⟨X4, 0, none⟩) n4 n4) := HS.out.blk.cell 7
    have g7 : wc.cell? ⟨g, 7, none⟩ = some (.slice pA n4 pc) := (HS.out.bel.cell (p := ⟨g, 7, none⟩) lg).trans C7.out
    go_upto_region 7 with fail
    go_still_tail 8, (by kernel_rfl)
    repeat still_step
    change wpList _ _ _ _ _ (World.drew wc)
    refine wpList_copyTo row_print sl_print rfl _ _ rfl X4 n4 pA pc n4 rfl rfl m.prints (HNN.out.2.2.2.symm) (HD.out.prints.mono (cmap_below HS.out.bel.drew)) (raw_drew HS.out.r4) ?_
    have hS := HS.out.fill4 (m.prints.map (fun p => [Value.int .i64 p.1, Value.int .i64 p.2])).flatten
    obtain ⟨wd, hwd⟩ : ∃ wd, (World.drew wc).setRow X4 (m.prints.map (fun p => [Value.int .i64 p.1, Value.int .i64 p.2])).flatten.toArray = wd := ⟨_, rfl⟩
    rw [hwd] at hS ⊢
    have HSn := Lib.hid hS
    clear hS HS x7 g7 hwd wc
    obtain ⟨wc, hwc⟩ : ∃ wc : World, wc = wd := ⟨_, rfl⟩
    rw [← hwc] at HSn ⊢
    clear hwc wd
    have HS := HSn
    clear HSn
    obtain ⟨e1, E1, rfl⟩ := HS.out.r1
    obtain ⟨e2, E2, rfl⟩ := HS.out.r2
    obtain ⟨e3, E3, rfl⟩ := HS.out.r3
    obtain ⟨e4, E4, rfl⟩ := HS.out.r4
    have hfa : ((m.at_.map fun n : Nat => (n : Int)).map (fun n => [Value.int .i64 n])).flatten = natsV m.at_ := by rw [← flat1, List.map_map]; rfl
    have hC0 : CpB w wc X ⟨sv, lv, gv, .slice (some ⟨X1, 0, none⟩) n1 n1, .slice none 0 0, .slice (some ⟨X2, 0, none⟩) n2 n2, .slice (some ⟨X3, 0, none⟩) n3 n3, .slice (some ⟨X4, 0, none⟩) n4 n4, []⟩ { m with slots := m.slots.take 0 } := {
      bel := HS.out.bel, ge := HS.out.lx, ov := Acc.nil _ _ _ _ _
      at_ := by
        show wc.ownsRow w.heap.size 3 1 _ m.at_.length (natsV m.at_)
        rw [hfa] at E1
        rw [HNN.out.1]
        exact own_full E1 HS.out.l1 (by simp [natsV, HNN.out.1]) (by unfold maxLen; omega)
      hold := by
        show wc.ownsRow w.heap.size 3 1 _ m.holders.length (i64sV m.holders)
        rw [← flat1] at E3
        rw [HNN.out.2.2.1]
        exact own_full E3 HS.out.l3 (by simp [i64sV, HNN.out.2.2.1]) (by unfold maxLen; omega)
      mem := by
        show wc.ownsRow w.heap.size 2 1 _ m.mem.length (i64sV m.mem)
        rw [← flat1] at E2
        rw [HNN.out.2.1]
        exact own_full E2 HS.out.l2 (by simp [i64sV, HNN.out.2.1]) (by unfold maxLen; omega)
      prints := by
        show wc.ownsRow w.heap.size 77 2 _ m.prints.length (printsV m.prints)
        rw [HNN.out.2.2.2]
        exact own_full E4 HS.out.l4 (by unfold printsV; rw [flat_length row_print, HNN.out.2.2.2]) (by unfold maxLen; omega)
      gll := rfl, slot := fun t k l h1 _ => by simp at h1
      glge := fun b hb => by cases hb
      nodup := List.nodup_nil, memgl := fun b _ hb => by cases hb
      athold := fun b hb hb' => by
        injection hb with hb
        injection hb' with hb'
        exact HS.out.ne (hb.trans hb'.symm) }
    have HC0 := Lib.hid (And.intro hC0 (And.intro HS.out.blk (And.intro (rfl : sv = sv) (And.intro (rfl : lv = lv) (rfl : gv = gv)))))
    have g4 : wc.cell? ⟨g, 4, none⟩ = some (.slice oA m.slots.length oc) := (HS.out.bel.cell (p := ⟨g, 4, none⟩) lg).trans C4.out
    clear hC0 hfa E1 E2 E3 E4
    go_wp2
    go_loopw [80, 5, 6] (fun v80 _ _ wr => ∃ (k : Nat) (L' : Lay), v80 = .int .i64 k ∧ k ≤ m.slots.length ∧ Hid (CpB w wr X L' { m with slots := m.slots.take k } ∧ Blk wr X 81 L'.cells ∧ L'.sv = sv ∧ L'.lv = lv ∧ L'.gv = gv)) (fun v80 _ _ _ => m.slots.length - (intOf v80).toNat)
    case atStart => exact ⟨0, ⟨sv, lv, gv, .slice (some ⟨X1, 0, none⟩) n1 n1, .slice none 0 0, .slice (some ⟨X2, 0, none⟩) n2 n2, .slice (some ⟨X3, 0, none⟩) n3 n3, .slice (some ⟨X4, 0, none⟩) n4 n4, []⟩, rfl, by omega, Lib.hid ⟨HC0.out.1, HC0.out.2.1, rfl, rfl, rfl⟩⟩
    case round =>
      clear HC0 g4
      obtain ⟨k, L', rfl, hk, HC⟩ := hrel
      by_cases hlt : k < m.slots.length
      · have k0 : (0 : Int) ≤ k := by omega
        have k1 : (k : Int) < m.slots.length := by omega
        obtain ⟨l, hl⟩ : ∃ l, m.slots[k]? = some l := ⟨_, List.getElem?_eq_getElem hlt⟩
        obtain ⟨ob, oo, rfl, lv1, hlc, hlv1⟩ := HD.out.slots.at_ hl
        obtain ⟨lA, lc, rfl, -⟩ := id hlv1
        rw [Nat.mul_one] at hlc
        have o1 : wr.cell? ⟨ob, oo + k, none⟩ = some (.slice lA l.length lc) := cmap_below HC.out.1.bel _ _ _ hlc
        have hll := HUN.out.2.2 l (List.mem_of_getElem? hl)
        have hmk := fun w => mk_run (P := Tryz.prog) sl_i64 rfl l.length (by omega) (by decide) w
        have HX := Lib.hid (And.intro hl (And.intro hlv1 (And.intro hll (And.intro hlt hk))))
        clear hl hlc hlv1 hll hk hlt
        go_wp2_with (refine stop_copy rfl ?_)
        refine Stop.intro ?_
        refine wpList_copyTo row_int sl_i64 rfl _ _ rfl wr.heap.size l.length lA lc l.length rfl rfl l rfl (HX.out.2.1.mono (cmap_below (HC.out.1.bel.trans ((Below_alloc' wr _).mono HC.out.1.bel.size)))) ⟨_, heap_alloc_new wr _, by simp⟩ ?_
        have hb : Below wr.heap.size wr ((wr.alloc (.cells (Array.replicate l.length (Value.int .i64 0)) 2)).setRow wr.heap.size (l.map fun n => [Value.int .i64 n]).flatten.toArray) := below_row (Below_alloc' wr _) (Nat.le_refl _) _
        have hkb : Blk ((wr.alloc (.cells (Array.replicate l.length (Value.int .i64 0)) 2)).setRow wr.heap.size (l.map fun n => [Value.int .i64 n]).flatten.toArray) wr.heap.size 2 (i64sV l) := by
          have := setRow_heap (wr.alloc (.cells (Array.replicate l.length (Value.int .i64 0)) 2)) wr.heap.size _ (l.map fun n => [Value.int .i64 n]).flatten.toArray 2 _ (heap_alloc_new wr _)
          rw [← flat1] at this ⊢
          exact this
        obtain ⟨y, hy⟩ : ∃ y, (wr.alloc (.cells (Array.replicate l.length (Value.int .i64 0)) 2)).setRow wr.heap.size (l.map fun n => [Value.int .i64 n]).flatten.toArray = y := ⟨_, rfl⟩
        rw [hy] at hb hkb ⊢
        have hCy := HC.out.1.below hb
        have hBy := HC.out.2.1.below hb HC.out.2.1.lt
        obtain ⟨kb, hkbe⟩ : ∃ kb, wr.heap.size = kb := ⟨_, rfl⟩
        have hlen0 : (L'.gl.zip ((m.slots.take k).map List.length)).length = k := by
          have h1 := HC.out.1.gll
          simp only at h1
          rw [List.length_zip, List.length_map, h1, List.length_take]
          have := HX.out.2.2.2.1
          omega
        obtain ⟨rows, r1, r2, r3, r4⟩ := HC.out.1.ov.rows
        have r1y := ownsRow_fr r1 (FrW.of_below (fun _ => False) hb) (fun _ _ => id)
        rw [show (L'.gl.zip (({ m with slots := m.slots.take k } : Mach).slots.map List.length)).length = k from hlen0] at r1y
        rw [hkbe] at hkb ⊢
        have HY := Lib.hid (And.intro hCy (And.intro hBy (And.intro hkb (And.intro hb (And.intro r1y (And.intro hkbe hlen0))))))
        have HR := Lib.hid (And.intro r2 (And.intro r3 r4))
        clear hy hb hkb hCy hBy r1 r2 r3 r4 r1y hmk o1 hkbe hlen0
        have x4 : y.cell? ⟨X, 4, none⟩ = some L'.ov := HY.out.2.1.cell 4
        go_wp2_with (refine stop_append rfl ?_)
        refine Stop.intro ?_
        refine app_one sl_i64s rfl _ _ rfl w.heap.size L'.ov k rows.flatten rfl (HY.out.2.2.2.2.1.alloc _) y.heap.size 0 1 [.slice (some ⟨kb, 0, none⟩) l.length l.length] rfl rfl (cell_new1 _ _ _ _ rfl) (by simp [Value.oneCell']) (by have := HX.out.2.2.2.1; omega) (by decide) (by have := HY.out.1.bel.size; simp; omega) ?_
        intro v7 w7 hown hg7 hob
        obtain ⟨nb3, cap3, rfl, -⟩ := own_form hown (by omega)
        have hX7 : Blk w7 X 81 L'.cells := (HY.out.2.1.alloc _).grown hg7 (fun e => acc_ne HY.out.1.ov HY.out.2.1 (by decide) e.symm)
        have x7 : w7.cell? ⟨X, 4, none⟩ = some L'.ov := hX7.cell 4
        have f7 : w7.frozen? ⟨X, 4, none⟩ = false := hX7.frozen 4
        have hap2 : Apd wr (y.alloc (.cells #[.slice (some ⟨kb, 0, none⟩) l.length l.length] 32)) w7 w.heap.size 32 1 L'.ov (L'.gl.zip (({ m with slots := m.slots.take k } : Mach).slots.map List.length)).length rows.flatten (slotV (kb, l.length)) nb3 cap3 := by
          rw [show (L'.gl.zip (({ m with slots := m.slots.take k } : Mach).slots.map List.length)).length = k from HY.out.2.2.2.2.2.2]
          refine ⟨HY.out.2.2.2.1.alloc HY.out.2.2.2.1.size _, hg7, hown, ?_⟩
          rcases hob with e | e
          · exact .inl e.symm
          · injection e with e; exact .inr e
        obtain ⟨hC6, hB6⟩ := HC.out.1.pushO HC.out.2.1 HR.out.1 HR.out.2.1 (fun i r x k1 k2 => HR.out.2.2 i r x k1 k2) (kb := kb) (l := l) (len := l.length) rfl hap2 (by rw [HY.out.2.2.2.2.2.1]; exact Nat.le_refl _) (HY.out.2.2.1.alloc _)
        rw [show (L'.gl.zip (({ m with slots := m.slots.take k } : Mach).slots.map List.length)).length = k from HY.out.2.2.2.2.2.2] at hC6 hB6
        have htk : m.slots.take k ++ [l] = m.slots.take (k + 1) := by rw [List.take_add_one, HX.out.1]; rfl
        rw [show ({ m with slots := m.slots.take k } : Mach).slots ++ [l] = m.slots.take (k + 1) from htk] at hC6
        have HFIN := Lib.hid (And.intro hC6 (And.intro hB6 HC.out.2.2))
        clear hC6 hB6 htk hap2 hown hg7 hob hX7 HY HR
        go_wp2
        go_roundw
        case rel => exact ⟨k + 1, _, by go_num, by have := HX.out.2.2.2.1; omega, HFIN⟩
        case measure => have := HX.out.2.2.2.1; simp [intOf]; omega
      · obtain rfl : k = m.slots.length := by omega
        have nk : ¬ ((m.slots.length : Int) < m.slots.length) := by omega
        have hC9 := HC.out.1
        rw [show ({ m with slots := m.slots.take m.slots.length } : Mach) = m by rw [List.take_length]] at hC9
        obtain ⟨R', q1, q2, q3⟩ := hC9.made HC.out.2.1 (by rw [HC.out.2.2.1, HC.out.2.2.2.1, HC.out.2.2.2.2]; exact HUN.out.1) HUN.out.2.1
        have HF := Lib.hid (And.intro q1 (And.intro q2 (And.intro q3 hC9.bel)))
        clear hk hlt hC9 q1 q2 q3 HC
        go_wp2
        go_ret
        exact ⟨X, rfl, L', R', HF.out⟩
end Go.Proofs.YtmkpjiahkepigaaGreat
