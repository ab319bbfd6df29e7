import Derived.Test.YtmkpjiahkepigaaGreatP09
import Derived.Test.YtmkpjiahkepigaaGreatP86
import Derived.Test.YtmkpjiahkepigaaGreatP87
/- Which actions others can tell. -/
namespace Go.Proofs.YtmkpjiahkepigaaGreat
open Go Go.RowKit
def visB (cl : List Cls) (n : Node) : Bool :=
  decide (n.kind = 5 ∨ n.kind = 6 ∨ n.kind = 7) || (decide (n.kind = 2 ∨ n.kind = 3 ∨ n.kind = 4) && (decide (0 ≤ n.thing ∧ n.thing < cl.length) && (match cl[n.thing.toNat]? with
    | some c => decide (c.kind = 3)
    | none => false)))
set_option maxRecDepth 100000 in
set_option maxHeartbeats 2000000 in
theorem visible_calls (cl : List Cls) (v : Value) (n : Node) (w : World) (hv : Clss (cmap w) v cl) :
    Calls Tryz.prog 12 #[v, .agg n.cells.toArray] w fun e w' => e = .returned (.bool (visB cl n)) ∧ Below w.heap.size w w' := by
  obtain ⟨vA, vc, rfl, -⟩ := id hv
  have HV := Lib.hid hv
  obtain ⟨r, hr⟩ : ∃ r, visB cl n = r := ⟨_, rfl⟩
  rw [hr]
  unfold visB at hr
  obtain ⟨nk, nop, nsl, nth, ⟨a1, a2, a3⟩, ⟨b1, b2, b3⟩, nn, ne_, no⟩ := n
  simp only at hr
  unfold Node.cells
  have hB := Lib.hid (Below_alloc' w (.cells #[.int .u8 nk, .int .u8 nop, .int .i64 nsl, .int .i64 nth, .bool a1, .int .i64 a2, .int .i64 a3, .bool b1, .int .i64 b2, .int .i64 b3, .int .i64 nn, .int .i64 ne_, .int .i64 no] 53))
  clear hv
  by_cases hk : nk = 5 ∨ nk = 6 ∨ nk = 7
  · have hr : true = r := by rw [← hr]; simp [hk]
    subst hr
    rcases hk with rfl | rfl | rfl
    all_goals (
      go_enter Tryz.func12, Tryz.ntmps12
      go_wp2
      go_ret
      exact ⟨rfl, hB.out⟩)
  · have hr : (decide (nk = 2 ∨ nk = 3 ∨ nk = 4) && (decide (0 ≤ nth ∧ nth < cl.length) && (match cl[nth.toNat]? with | some c => decide (c.kind = 3) | none => false))) = r := by rw [← hr]; simp [hk]
    have q5 : (nk == 5) = false := by simp; omega
    have q6 : (nk == 6) = false := by simp; omega
    have q7 : (nk == 7) = false := by simp; omega
    by_cases ht : nk = 2 ∨ nk = 3 ∨ nk = 4
    · have hr : (decide (0 ≤ nth ∧ nth < cl.length) && (match cl[nth.toNat]? with | some c => decide (c.kind = 3) | none => false)) = r := by rw [← hr]; simp [ht]
      by_cases h0 : 0 ≤ nth
      · obtain ⟨q, rfl⟩ := Int.eq_ofNat_of_zero_le h0
        by_cases hq : q < cl.length
        · obtain ⟨c, hcl⟩ : ∃ c, cl[q]? = some c := ⟨_, List.getElem?_eq_getElem hq⟩
          obtain ⟨cb, co, rfl, _, rfl, hcc⟩ := (HV.out.mono (cmap_below hB.out)).at_ hcl
          have c0 := hcc 0 _ rfl
          have i0 : decide ((q : Int) ≥ 0) = true := decide_eq_true (by omega)
          have i1 : decide ((q : Int) < cl.length) = true := decide_eq_true (by omega)
          have i2 : (q : Int) < cl.length := by omega
          have i3 : (0 : Int) ≤ q := by omega
          have hr : decide (c.kind = 3) = r := by
            rw [← hr, Int.toNat_natCast, hcl]
            have : decide ((0 : Int) ≤ (q : Int) ∧ (q : Int) < cl.length) = true := decide_eq_true ⟨i3, i2⟩
            rw [this]; rfl
          have HR := Lib.hid hr
          have c0' : (w.alloc (.cells #[.int .u8 nk, .int .u8 nop, .int .i64 nsl, .int .i64 (q : Int), .bool a1, .int .i64 a2, .int .i64 a3, .bool b1, .int .i64 b2, .int .i64 b3, .int .i64 nn, .int .i64 ne_, .int .i64 no] 53)).cell? ⟨cb, co + q * 3, none⟩ = some (.int .u8 c.kind) := c0
          clear hr hcc hcl c0 hk q5 q6 q7 h0 hq
          rcases ht with rfl | rfl | rfl
          all_goals (
            go_enter Tryz.func12, Tryz.ntmps12
            go_wp2
            go_ret
            exact ⟨by rw [← HR.out]; rfl, hB.out⟩)
        · have i0 : decide ((q : Int) ≥ 0) = true := decide_eq_true (by omega)
          have i1 : decide ((q : Int) < cl.length) = false := decide_eq_false (by omega)
          have i2 : ¬ ((q : Int) < cl.length) := by omega
          have i4 : decide (q < cl.length) = false := decide_eq_false hq
          have i3 : (0 : Int) ≤ q := by omega
          have hr : false = r := by
            rw [← hr]
            have : decide ((0 : Int) ≤ (q : Int) ∧ (q : Int) < cl.length) = false := decide_eq_false (by omega)
            rw [this]; rfl
          subst hr
          clear hk q5 q6 q7 h0 hq
          rcases ht with rfl | rfl | rfl
          all_goals (
            go_enter Tryz.func12, Tryz.ntmps12
            go_wp2
            go_ret
            exact ⟨rfl, hB.out⟩)
      · have i0 : decide (nth ≥ 0) = false := decide_eq_false (by omega)
        have hr : false = r := by
          rw [← hr]
          have : decide (0 ≤ nth ∧ nth < (cl.length : Int)) = false := decide_eq_false (by omega)
          rw [this]; rfl
        subst hr
        clear hk q5 q6 q7
        rcases ht with rfl | rfl | rfl
        all_goals (
          go_enter Tryz.func12, Tryz.ntmps12
          go_wp2
          go_ret
          exact ⟨rfl, hB.out⟩)
    · have hr : false = r := by rw [← hr]; simp [ht]
      subst hr
      have q2 : (nk == 2) = false := by simp; omega
      have q3 : (nk == 3) = false := by simp; omega
      have q4 : (nk == 4) = false := by simp; omega
      clear hk ht
      go_enter Tryz.func12, Tryz.ntmps12
      go_wp2
      go_ret
      exact ⟨rfl, hB.out⟩
end Go.Proofs.YtmkpjiahkepigaaGreat
/- What Advance does, in plain Lean. -/
namespace Go.Proofs.YtmkpjiahkepigaaGreat
open Go
def visAt (u : Unit_) (cl : List Cls) (m : Mach) (t : Int) : Bool := match nodeAt u m t.toNat with
  | some n => visB cl n
  | none => false
/-- A thread's quiet actions and its next visible one: 'left' steps may still be done, 'done' are. -/
def advF (u : Unit_) (cl : List Cls) (t : Int) : Nat → Nat → Mach → Option Mach × Nat × Int
  | 0, done, m => if barF u m t = 70 then (some m, done, 0) else if barF u m t ≠ 0 then (none, 0, barF u m t) else (none, 0, 3)
  | left + 1, done, m => if barF u m t = 70 then (some m, done, 0) else if barF u m t ≠ 0 then (none, 0, barF u m t) else if visAt u cl m t = true then (some (stepM u m t), done + 1, 0) else advF u cl t left (done + 1) (stepM u m t)
theorem advF_end {u : Unit_} {cl : List Cls} {t : Int} {m : Mach} (left done : Nat) (h : barF u m t = 70) : advF u cl t left done m = (some m, done, 0) := by cases left <;> (unfold advF; rw [if_pos h])
theorem advF_bar {u : Unit_} {cl : List Cls} {t : Int} {m : Mach} (left done : Nat) (h : barF u m t ≠ 70) (h0 : barF u m t ≠ 0) : advF u cl t left done m = (none, 0, barF u m t) := by cases left <;> (unfold advF; rw [if_neg h, if_pos h0])
theorem advF_many {u : Unit_} {cl : List Cls} {t : Int} {m : Mach} (done : Nat) (h : barF u m t = 0) : advF u cl t 0 done m = (none, 0, 3) := by unfold advF; rw [if_neg (by omega), if_neg (by omega)]
theorem advF_vis {u : Unit_} {cl : List Cls} {t : Int} {m : Mach} (left done : Nat) (h : barF u m t = 0) (hv : visAt u cl m t = true) : advF u cl t (left + 1) done m = (some (stepM u m t), done + 1, 0) := by unfold advF; rw [if_neg (by omega), if_neg (by omega), if_pos hv]
theorem advF_go {u : Unit_} {cl : List Cls} {t : Int} {m : Mach} (left done : Nat) (h : barF u m t = 0) (hv : visAt u cl m t = false) : advF u cl t (left + 1) done m = advF u cl t left (done + 1) (stepM u m t) := by rw [advF, if_neg (by omega), if_neg (by omega), if_neg (by simp [hv])]
/-- May Advance be asked so? -/
def advOk (u : Unit_) (cl : List Cls) (t most : Int) : Prop := (0 ≤ t ∧ t < u.graphs.length) ∧ cl.length = u.shared.length ∧ 0 ≤ most ∧ most ≤ 1048576
instance (u : Unit_) (cl : List Cls) (t most : Int) : Decidable (advOk u cl t most) := by unfold advOk; infer_instance
def advR (u : Unit_) (cl : List Cls) (t most : Int) (m : Mach) : Mach × Nat × Int :=
  if ¬ advOk u cl t most then (m, 0, 2)
  else if barF u m t = 70 then (m, 0, 70)
  else ((advF u cl t most.toNat 0 m).1.getD m, (advF u cl t most.toNat 0 m).2)
end Go.Proofs.YtmkpjiahkepigaaGreat
/- The walk of (*source.Machine).Advance. -/
namespace Go.Proofs.YtmkpjiahkepigaaGreat
open Go Go.RowKit
attribute [local simp] upD eval_put_ne put_none
section
variable {w wr wx : World} {R R' : Nat → Prop} {g g' : Nat} {L L' : Lay} {u : Unit_} {m mk m' : Mach} {k : Nat}
/-- A machine's parts under another block. -/
theorem MachB.moved (h : MachB wr R' g' L' u mk) {cs : List Value} (hg : Blk wr g 81 cs) (hR : ¬ R' g) (hm : ¬ L'.mut g' g) : MachB (wr.setRow g L'.cells.toArray) R' g L' u mk := by
  have hf : FrW (fun q => q = g) wr (wr.setRow g L'.cells.toArray) := ⟨rfl, rfl, rfl, by simp [World.setRow], fun q _ hq => heap_setRow_ne hq _⟩
  have h1 := h.fr hf (fun q hq e => hm (by rw [← e]; exact hq)) (fun q hq e => hR (by rw [← e]; exact hq))
  exact ⟨Blk.setRow hg, h1.unit, h1.at_, h1.mem, h1.hold, h1.prints, h1.outer, h1.gl, h1.slot, h1.nodup, h1.memgl, h1.athold, fun q hq => by
    rcases hq with e | e
    · rw [e]; exact hR
    · exact h.sep q (.inr e)⟩
/-- The copy that advances, behind k steps. -/
structure AdvAt (w wr : World) (R R' : Nat → Prop) (g' : Nat) (L' : Lay) (u : Unit_) (k : Nat) (m mk : Mach) : Prop where
  mb : MachB wr R' g' L' u mk
  mu : ∀ q, L'.mut g' q → w.heap.size ≤ q
  rr : ∀ q, R' q → R q ∨ (w.heap.size ≤ q ∧ q < wr.heap.size)
  bel : Below w.heap.size w wr
  situ : Situ u mk
  pr : mk.prints.length ≤ m.prints.length + k
theorem AdvAt.below (h : AdvAt w wr R R' g' L' u k m mk) (hx : Below wr.heap.size wr wx) : AdvAt w wx R R' g' L' u k m mk :=
  ⟨h.mb.below hx, h.mu, fun q hq => by rcases h.rr q hq with e | e; exact .inl e; exact .inr ⟨e.1, Nat.lt_of_lt_of_le e.2 hx.size⟩, h.bel.trans (hx.mono h.bel.size), h.situ, h.pr⟩
set_option maxHeartbeats 1000000 in
theorem adv_step (hu : RightU u) (huo : UOk u) (h : AdvAt w wr R R' g' L' u k m mk) (hR : ∀ q, R q → q < w.heap.size) (hpr : (m.prints.length + k + 1) * 16 ≤ 140737488355328) {t : Int} (hb : barF u mk t = 0) :
    Calls Tryz.prog 10 #[.pointer (some ⟨g', 0, none⟩), .int .i64 t] wr fun e w' => ∃ d : Did, e = .returned (.tuple #[.agg #[.int .i64 d.thread, .int .i64 d.node, .int .u8 d.kind, .int .i64 d.thing, .int .i64 d.word, .int .i64 d.put], .int .i64 0]) ∧ FrW (fun q => L'.mut g' q) wr w' ∧ ∃ pv, AdvAt w w' R R' g' { L' with pv := pv } u (k + 1) m (stepM u mk t) := by
  have hRl : ∀ q, R' q → q < wr.heap.size := fun q hq => by
    rcases h.rr q hq with e | e
    · exact Nat.lt_of_lt_of_le (hR q e) h.bel.size
    · exact e.2
  refine (step_calls t h.mb h.situ.ok h.situ.mi hu huo (by have := h.pr; omega) hRl).mono ?_
  rintro e w6 ⟨rfl, hm⟩
  obtain ⟨pv, k1, k2⟩ := hm.ex
  have hpp := step_prints h.situ.ok t
  have hpr2 : (stepM u mk t).prints.length ≤ m.prints.length + (k + 1) := by have := h.pr; omega
  refine ⟨stepD u mk t, by rw [stepD_cells, hb], hm.fr, pv, ⟨k1, fun q hq => ?_, fun q hq => ?_, h.bel.trans (hm.fr.grow _ h.bel.size h.mu), h.situ.step hu huo t, hpr2⟩⟩
  · rcases k2 q hq with e | e
    · exact h.mu q e
    · exact Nat.le_trans h.bel.size e
  · rcases h.rr q hq with e | e
    · exact .inl e
    · exact .inr ⟨e.1, Nat.lt_of_lt_of_le e.2 hm.fr.size⟩
end
/-- What Advance leaves of a machine. -/
structure AdvP (w w' : World) (R : Nat → Prop) (g : Nat) (L : Lay) (u : Unit_) (m' : Mach) : Prop where
  ex : ∃ R' L', MachB w' R' g L' u m' ∧ (∀ q, L'.mut g q → L.mut g q ∨ w.heap.size ≤ q) ∧ (∀ q, R' q → R q ∨ (w.heap.size ≤ q ∧ q < w'.heap.size))
  fr : FrW (fun q => q = g) w w'
theorem AdvP.same {w w' : World} {R : Nat → Prop} {g : Nat} {L : Lay} {u : Unit_} {m : Mach} (h : MachB w R g L u m) (hb : Below w.heap.size w w') : AdvP w w' R g L u m :=
  ⟨⟨R, L, h.below hb, fun _ h => .inl h, fun _ h => .inl h⟩, FrW.of_below _ hb⟩
/-- The copy has come to its end. -/
theorem AdvAt.fin {w wr : World} {R R' : Nat → Prop} {g g' : Nat} {L L' : Lay} {u : Unit_} {m0 m mk : Mach} {k : Nat} (h0 : MachB w R g L u m0) (h : AdvAt w wr R R' g' L' u k m mk) {cs : List Value} (hg : Blk wr g 81 cs) : AdvP w (wr.setRow g L'.cells.toArray) R g L u mk := by
  have hlt := h0.blk.lt
  have hgR : ¬ R' g := fun e => by
    rcases h.rr g e with e | e
    · exact h0.sep g (.inl rfl) e
    · omega
  have hgm : ¬ L'.mut g' g := fun e => by have := h.mu g e; omega
  refine ⟨⟨R', L', h.mb.moved hg hgR hgm, fun q hq => ?_, fun q hq => ?_⟩, ?_⟩
  · rcases hq with e | e
    · exact .inl (.inl e)
    · exact .inr (h.mu q (.inr e))
  · rcases h.rr q hq with e | e
    · exact .inl e
    · exact .inr ⟨e.1, by simpa [World.setRow] using e.2⟩
  · have hf : FrW (fun q => q = g) wr (wr.setRow g L'.cells.toArray) := ⟨rfl, rfl, rfl, by simp [World.setRow], fun q _ hq => heap_setRow_ne hq _⟩
    exact (FrW.of_below _ h.bel).trans hf
/-- What holds while a region's operations come up, D being those that have. -/
structure AdJ (W0 : World) (gm gb go N gc ta nb no nN nc ab aN ac ia : Nat) (n1 : Node) (a0 : Act) (D : Nat → Bool) (a : Act) (w : World) : Prop where
  fr : Fr [13, 52, 53, 54, 55, 56, 57, 58, 59, 60, 61, 62, 63, 64, 65, 66, 67, 68, 69] a0 a
  below : Below W0.heap.size W0 w
  s0 : D 0 = true → a.eval (.tmp 52) = .pointer (some ⟨gm, 0, none⟩)
  s1 : D 1 = true → a.eval (.tmp 53) = .pointer (some ⟨gm, 0, none⟩)
  s2 : D 2 = true → a.eval (.tmp 54) = .pointer (some ⟨gm, 0, none⟩)
  s3 : D 3 = true → a.eval (.tmp 55) = .pointer (some ⟨gm, 2, none⟩)
  s4 : D 4 = true → a.eval (.tmp 56) = .slice (some ⟨gb, go, none⟩) N gc
  s5 : D 5 = true → a.eval (.tmp 57) = .int .i64 (ta : Int)
  s6 : D 6 = true → a.eval (.tmp 58) = .pointer (some ⟨gb, go + ta * 4, none⟩)
  s7 : D 7 = true → a.eval (.tmp 59) = .pointer (some ⟨gb, go + ta * 4 + 3, none⟩)
  s8 : D 8 = true → a.eval (.tmp 60) = .slice (some ⟨nb, no, none⟩) nN nc
  s9 : D 9 = true → a.eval (.tmp 61) = .pointer (some ⟨gm, 0, none⟩)
  s10 : D 10 = true → a.eval (.tmp 62) = .pointer (some ⟨gm, 0, none⟩)
  s11 : D 11 = true → a.eval (.tmp 63) = .pointer (some ⟨gm, 3, none⟩)
  s12 : D 12 = true → a.eval (.tmp 64) = .slice (some ⟨ab, 0, none⟩) aN ac
  s13 : D 13 = true → a.eval (.tmp 65) = .int .i64 (ta : Int)
  s14 : D 14 = true → a.eval (.tmp 66) = .pointer (some ⟨ab, ta, none⟩)
  s15 : D 15 = true → a.eval (.tmp 67) = .int .i64 (ia : Int)
  s16 : D 16 = true → a.eval (.tmp 68) = .pointer (some ⟨nb, no + ia * 13, none⟩)
  s17 : D 17 = true → a.eval (.tmp 69) = .agg n1.cells.toArray
  s18 : D 18 = true → ∃ X cs, a.eval (.tmp 13) = .pointer (some ⟨X, 0, none⟩) ∧ W0.heap.size ≤ X ∧ Blk w X 53 cs ∧ cs.length = 13 ∧ (D 19 = true → a.eval (.tmp 69) = .agg cs.toArray)
  o19 : D 19 = true → D 17 = true ∧ D 18 = true
theorem AdJ.keep {W0 : World} {gm gb go N gc ta nb no nN nc ab aN ac ia : Nat} {n1 : Node} {a0 : Act} {D : Nat → Bool} {a : Act} {w w' : World} (h : AdJ W0 gm gb go N gc ta nb no nN nc ab aN ac ia n1 a0 D a w) (hb : Below w.heap.size w w') : AdJ W0 gm gb go N gc ta nb no nN nc ab aN ac ia n1 a0 D a w' where
  fr := h.fr
  below := h.below.trans (hb.mono h.below.size)
  s0 := h.s0
  s1 := h.s1
  s2 := h.s2
  s3 := h.s3
  s4 := h.s4
  s5 := h.s5
  s6 := h.s6
  s7 := h.s7
  s8 := h.s8
  s9 := h.s9
  s10 := h.s10
  s11 := h.s11
  s12 := h.s12
  s13 := h.s13
  s14 := h.s14
  s15 := h.s15
  s16 := h.s16
  s17 := h.s17
  s18 := fun hd => by obtain ⟨X, cs, e, e1, e2, e3⟩ := h.s18 hd; exact ⟨X, cs, e, e1, e2.below hb e2.lt, e3⟩
  o19 := h.o19
theorem lay_slices {w : World} {R : Nat → Prop} {g : Nat} {L : Lay} {u : Unit_} {m : Mach} (h : MachB w R g L u m) : ∃ (a1 a2 a3 a5 : Option Addr) (n1 n2 n3 n5 c1 c2 c3 c5 : Nat) (a4 a6 a7 a8 : Option Addr) (c4 c6 c7 c8 : Nat),
    L.cells = [.slice a1 n1 c1, .slice a2 n2 c2, .slice a3 n3 c3, .slice a4 m.at_.length c4, .slice a5 n5 c5, .slice a6 m.mem.length c6, .slice a7 m.holders.length c7, .slice a8 m.prints.length c8] := by
  obtain ⟨a4, c4, e4⟩ := h.avf
  obtain ⟨a6, c6, e6⟩ := h.mvf
  obtain ⟨a7, c7, e7⟩ := h.hvf
  obtain ⟨a8, c8, e8⟩ := h.pvf
  obtain ⟨a5, c5, e5, -⟩ := h.outer
  obtain ⟨_, _, _, e, ⟨a1, c1, e1, -⟩, ⟨a2, c2, e2, -⟩, ⟨a3, c3, e3, -⟩⟩ := h.unit
  injection e with f1 e
  injection e with f2 e
  injection e with f3 _
  rw [← f1] at e1
  rw [← f2] at e2
  rw [← f3] at e3
  exact ⟨a1, a2, a3, a5, _, _, _, _, c1, c2, c3, c5, a4, a6, a7, a8, c4, c6, c7, c8, by unfold Lay.cells; rw [e1, e2, e3, e4, e5, e6, e7, e8]⟩
theorem unit_sv {w : World} {R : Nat → Prop} {g : Nat} {L : Lay} {u : Unit_} {m : Mach} (h : MachB w R g L u m) : ∃ A c, L.sv = .slice A u.shared.length c := by
  obtain ⟨_, _, _, e, ⟨a1, c1, e1, -⟩, -, -⟩ := h.unit
  injection e with f1 _
  exact ⟨a1, c1, by rw [f1, e1]⟩
set_option maxRecDepth 100000 in
set_option maxHeartbeats 2000000 in
theorem adv_not {w : World} {R : Nat → Prop} {g : Nat} {L : Lay} {u : Unit_} {m : Mach} (h : MachB w R g L u m) (hok : MachOk u m) (t most : Int) (vA : Option Addr) (vc : Nat) (cl : List Cls) (_hlen : cl.length ≤ 9223372036854775807) (hn : ¬ advOk u cl t most) :
    Calls Tryz.prog 17 #[.pointer (some ⟨g, 0, none⟩), .int .i64 t, .slice vA cl.length vc, .int .i64 most] w fun e w' => e = .returned (.tuple #[.int .i64 0, .int .i64 2]) ∧ Below w.heap.size w w' := by
  obtain ⟨sA, sc, hsv⟩ := unit_sv h
  have c0 : ∀ q, (w.drewN q).cell? ⟨g, 0, none⟩ = some (.slice sA u.shared.length sc) := fun q => by
    show w.cell? ⟨g, 0, none⟩ = _
    rw [h.cell 0, ← hsv]; rfl
  have HT := Lib.hid (there_calls t h)
  have HB := Lib.hid (Below_drewN w)
  rw [hok.at_] at HT
  clear h hsv hok
  by_cases h1 : 0 ≤ t ∧ t < u.graphs.length
  · have d1 : decide (0 ≤ t ∧ t < (u.graphs.length : Int)) = true := decide_eq_true h1
    rw [d1] at HT
    by_cases h2 : cl.length = u.shared.length
    · have n2 : ((cl.length : Int) != (u.shared.length : Int)) = false := by simp [h2]
      by_cases h3 : most < 0
      · have n3 : decide (most < 0) = true := decide_eq_true h3
        clear hn h1 d1 h2 h3
        go_enter Tryz.func17, Tryz.ntmps17
        go_wp2_with fail
        refine HT.out.mono ?_
        rintro e w1 ⟨rfl, q, rfl⟩
        have c0q := c0 q
        go_wp2_with fail
        go_ret2
        exact ⟨rfl, HB.out q⟩
      · have n3 : decide (most < 0) = false := decide_eq_false h3
        have n4 : decide (most > 1048576) = true := decide_eq_true (by
          refine Classical.byContradiction fun h4 => hn ⟨h1, h2, by omega, by omega⟩)
        clear hn h1 d1 h2 h3
        go_enter Tryz.func17, Tryz.ntmps17
        go_wp2_with fail
        refine HT.out.mono ?_
        rintro e w1 ⟨rfl, q, rfl⟩
        have c0q := c0 q
        go_wp2_with fail
        go_ret2
        exact ⟨rfl, HB.out q⟩
    · have n2 : ((cl.length : Int) != (u.shared.length : Int)) = true := by simp; omega
      clear hn h1 d1 h2
      go_enter Tryz.func17, Tryz.ntmps17
      go_wp2_with fail
      refine HT.out.mono ?_
      rintro e w1 ⟨rfl, q, rfl⟩
      have c0q := c0 q
      go_wp2_with fail
      go_ret2
      exact ⟨rfl, HB.out q⟩
  · have d1 : decide (0 ≤ t ∧ t < (u.graphs.length : Int)) = false := decide_eq_false h1
    rw [d1] at HT
    clear hn h1 d1
    go_enter Tryz.func17, Tryz.ntmps17
    go_wp2_with fail
    refine HT.out.mono ?_
    rintro e w1 ⟨rfl, q, rfl⟩
    go_wp2_with fail
    go_ret2
    exact ⟨rfl, HB.out q⟩
theorem visAt_of {u : Unit_} {cl : List Cls} {m : Mach} {t : Nat} {gr : Graph} {i : Nat} {n : Node} (h : Stands u m t gr i n) : visAt u cl m (t : Int) = visB cl n := by
  unfold visAt
  rw [Int.toNat_natCast, h.nodeAt]
set_option maxRecDepth 100000 in
set_option maxHeartbeats 16000000 in
theorem adv_go {w : World} {R : Nat → Prop} {g : Nat} {L : Lay} {u : Unit_} {m : Mach} (h : MachB w R g L u m) (hR : ∀ q, R q → q < w.heap.size) (hs : Situ u m) (hu : RightU u) (huo : UOk u) (hz : SizeU u) (hpr : m.prints.length ≤ 4294967296) (t : Nat) (M : Nat) (vA : Option Addr) (vc : Nat) (cl : List Cls) (hcl : Clss (cmap w) (.slice vA cl.length vc) cl) (hk : advOk u cl t M) (hb7 : barF u m t ≠ 70) :
    Calls Tryz.prog 17 #[.pointer (some ⟨g, 0, none⟩), .int .i64 (t : Int), .slice vA cl.length vc, .int .i64 (M : Int)] w fun e w' => e = .returned (.tuple #[.int .i64 ((advF u cl t M 0 m).2.1 : Nat), .int .i64 (advF u cl t M 0 m).2.2]) ∧ AdvP w w' R g L u ((advF u cl t M 0 m).1.getD m) := by
  obtain ⟨X, hX⟩ : ∃ X, advF u cl t M 0 m = X := ⟨_, rfl⟩
  rw [hX]
  obtain ⟨⟨h1a, h1b⟩, h2, h3, h4⟩ := hk
  obtain ⟨sA, sc, hsv⟩ := unit_sv h
  have c0 : ∀ q, (w.drewN q).cell? ⟨g, 0, none⟩ = some (.slice sA u.shared.length sc) := fun q => by
    show w.cell? ⟨g, 0, none⟩ = _
    rw [h.cell 0, ← hsv]; rfl
  have HT := Lib.hid (there_calls (t : Int) h)
  have d1 : decide (0 ≤ (t : Int) ∧ (t : Int) < (m.at_.length : Int)) = true := decide_eq_true (by rw [hs.ok.at_]; exact ⟨h1a, h1b⟩)
  rw [d1] at HT
  have n2 : ((cl.length : Int) != (u.shared.length : Int)) = false := by simp [h2]
  have n3 : decide ((M : Int) < 0) = false := decide_eq_false (by omega)
  have n4 : decide ((M : Int) > 1048576) = false := decide_eq_false (by omega)
  have HBR := Lib.hid (fun q => bar_calls (t : Int) (h.drewN q) hs.ok hu)
  have n7 : (barF u m (t : Int) == 70) = false := by simp [hb7]
  have HM := Lib.hid (And.intro h (And.intro hR (And.intro hs (And.intro hu (And.intro huo (And.intro hz hpr))))))
  have HC := Lib.hid (And.intro hcl hX)
  have hMl : M ≤ 1048576 := by omega
  have hgl := h.blk.lt
  have htl : (t : Int) < u.graphs.length := h1b
  clear h hR hs hu huo hz hpr hcl hX h1a h1b h2 h3 h4 hsv d1 hb7
  go_enter Tryz.func17, Tryz.ntmps17
  go_wp2_with fail
  refine HT.out.mono ?_
  rintro e w1 ⟨rfl, q1, rfl⟩
  have c0q := c0 q1
  go_wp2_with fail
  refine (HBR.out q1).mono ?_
  rintro e w2 ⟨rfl, hb2⟩
  have hB2 : Below w.heap.size w w2 := (Below_drewN w q1).trans hb2
  have HCP := Lib.hid (copyS_calls (HM.out.1.below hB2) (fun q hq => Nat.lt_of_lt_of_le (HM.out.2.1 q hq) hB2.size) HM.out.2.2.1.ok HM.out.2.2.2.1 HM.out.2.2.2.2.2.1 HM.out.2.2.2.2.2.2)
  have HB2 := Lib.hid hB2
  clear hb2 hB2 c0q c0
  go_wp2_with fail
  refine HCP.out.mono ?_
  rintro e w3 ⟨g', L', R', rfl, hM3, hR3, hmu3, hb3⟩
  have HT0 : Hid (AdvAt w w3 R R' g' L' u 0 m m) := Lib.hid ⟨hM3, fun q hq => Nat.le_trans HB2.out.size (hmu3 q hq), fun q hq => by
    rcases hR3 q hq with e | e
    · exact .inl e
    · exact .inr ⟨Nat.le_trans HB2.out.size e.1, e.2⟩, HB2.out.trans (hb3.mono HB2.out.size), HM.out.2.2.1, Nat.le_add_right _ _⟩
  clear hM3 hR3 hmu3 hb3 HCP HB2 HT HBR
  go_wp2
  go_loopw [12, 13, 14] (fun v12 _ _ wr => ∃ (k : Nat) (pv : Value) (mk : Mach), v12 = .int .i64 k ∧ k ≤ M ∧ Hid (AdvAt w wr R R' g' { L' with pv := pv } u k m mk ∧ advF u cl t (M - k) k mk = X)) (fun v12 _ _ _ => M + 1 - (intOf v12).toNat)
  case atStart => exact ⟨0, L'.pv, m, rfl, by omega, Lib.hid ⟨HT0.out, HC.out.2⟩⟩
  case round =>
    clear HT0
    obtain ⟨k, pv, mk, rfl, hkM, HH⟩ := hrel
    obtain ⟨L2, hL2⟩ : ∃ L2 : Lay, ({ L' with pv := pv } : Lay) = L2 := ⟨_, rfl⟩
    have hgv2 : L2.pv = pv := by rw [← hL2]
    have hLL : ∀ x : Value, ({ L2 with pv := x } : Lay) = { L' with pv := x } := fun x => by rw [← hL2]
    have HLL := Lib.hid hLL
    rw [hL2] at HH
    clear hgv2 hLL hL2
    obtain ⟨gr, ia, n1, hst⟩ := stands_at HH.out.1.situ.ok (t := t) (by omega)
    obtain ⟨gb, go, gc, nb, no, nc, hgv, hnc, hnd, lb, ln⟩ := HH.out.1.mb.nodeAt hst
    obtain ⟨ab, ac, hav, ha1, -, la, -⟩ := HH.out.1.mb.atAt hst.pc
    have lg := HH.out.1.mb.blk.lt
    have E2 : Hid (wr.cell? ⟨g', 2, none⟩ = some (.slice (some ⟨gb, go, none⟩) u.graphs.length gc)) := Lib.hid (by rw [HH.out.1.mb.cell 2, ← hgv]; rfl)
    have E3 : Hid (wr.cell? ⟨g', 3, none⟩ = some (.slice (some ⟨ab, 0, none⟩) mk.at_.length ac)) := Lib.hid (by rw [HH.out.1.mb.cell 3, ← hav]; rfl)
    have EN := Lib.hid hnc
    have EA := Lib.hid ha1
    have HN1 := Lib.hid hnd
    have hat : (t : Int) < mk.at_.length := by rw [HH.out.1.situ.ok.at_]; exact htl
    have hia : (ia : Int) < gr.nodes.length := by have := (List.getElem?_eq_some_iff.1 hst.nd).1; omega
    have ht0 : (0 : Int) ≤ t := by omega
    have hi0 : (0 : Int) ≤ ia := by omega
    have HAO : Hid (n1.cells.toArray.all (·.oneCell') = true) := Lib.hid (by unfold Node.cells; simp [Value.oneCell'])
    have HAL : Hid (n1.cells.length = 13) := Lib.hid rfl
    have HST := Lib.hid hst
    clear hgv hnc hnd hav ha1 hst
    go_upto_region 11 with fail
    refine wp_act0 fun a0 ha0 => ?_
    have t11 : a0.eval (.tmp 11) = .pointer (some ⟨g', 0, none⟩) := by rw [ha0]; rfl
    have t1 : a0.eval (.tmp 1) = .int .i64 (t : Int) := by rw [ha0]; rfl
    have hsz : a0.tmps.size = 103 := by rw [ha0]; rfl
    have HA0 := Lib.hid ha0; clear ha0
    refine wp_region_inv (AdJ wr g' gb go u.graphs.length gc t nb no gr.nodes.length nc ab mk.at_.length ac ia n1 a0) (by kernel_rfl) (by kernel_rfl) ?start ?steps ?done
    case start =>
      refine { fr := Fr.refl _ _, below := (Below.refl _ wr).drew, s0 := ?_, s1 := ?_, s2 := ?_, s3 := ?_, s4 := ?_, s5 := ?_, s6 := ?_, s7 := ?_, s8 := ?_, s9 := ?_, s10 := ?_, s11 := ?_, s12 := ?_, s13 := ?_, s14 := ?_, s15 := ?_, s16 := ?_, s17 := ?_, s18 := ?_, o19 := ?_ } <;> (intro hd; cases hd)
    case steps =>
      refine steps_all ?_
      refine ⟨?_, ?_, ?_, ?_, ?_, ?_, ?_, ?_, ?_, ?_, ?_, ?_, ?_, ?_, ?_, ?_, ?_, ?_, ?_, ?_, trivial⟩
      · -- 0
        intro D a wx K hD hp h hK
        refine step_wp rfl ?_
        refine wp_move_at rfl ?_
        rw [h.fr.eval (j := 11) (by decide), t11]
        refine hK _ _ {
          fr := h.fr.put (by decide) _
          below := h.below
          s0 := fun _ => h.fr.eval_put (by rw [hsz]; decide) _
          s1 := by simpa using h.s1
          s2 := by simpa using h.s2
          s3 := by simpa using h.s3
          s4 := by simpa using h.s4
          s5 := by simpa using h.s5
          s6 := by simpa using h.s6
          s7 := by simpa using h.s7
          s8 := by simpa using h.s8
          s9 := by simpa using h.s9
          s10 := by simpa using h.s10
          s11 := by simpa using h.s11
          s12 := by simpa using h.s12
          s13 := by simpa using h.s13
          s14 := by simpa using h.s14
          s15 := by simpa using h.s15
          s16 := by simpa using h.s16
          s17 := by simpa using h.s17
          s18 := by simpa using h.s18
          o19 := fun hd => by rw [upD_ne _ (by decide)] at hd; exact ⟨upD_mono (h.o19 hd).1, upD_mono (h.o19 hd).2⟩ }
      · -- 1
        intro D a wx K hD hp h hK
        refine step_wp rfl ?_
        have q0 := h.s0 (hp 0 (by decide))
        refine wp_val_at (.pointer (some ⟨g', 0, none⟩)) (by generalize a.eval = ρ at *; go_simp) ?_
        refine hK _ _ {
          fr := h.fr.put (by decide) _
          below := h.below
          s1 := fun _ => h.fr.eval_put (by rw [hsz]; decide) _
          s0 := by simpa using h.s0
          s2 := by simpa using h.s2
          s3 := by simpa using h.s3
          s4 := by simpa using h.s4
          s5 := by simpa using h.s5
          s6 := by simpa using h.s6
          s7 := by simpa using h.s7
          s8 := by simpa using h.s8
          s9 := by simpa using h.s9
          s10 := by simpa using h.s10
          s11 := by simpa using h.s11
          s12 := by simpa using h.s12
          s13 := by simpa using h.s13
          s14 := by simpa using h.s14
          s15 := by simpa using h.s15
          s16 := by simpa using h.s16
          s17 := by simpa using h.s17
          s18 := by simpa using h.s18
          o19 := fun hd => by rw [upD_ne _ (by decide)] at hd; exact ⟨upD_mono (h.o19 hd).1, upD_mono (h.o19 hd).2⟩ }
      · -- 2
        intro D a wx K hD hp h hK
        refine step_wp rfl ?_
        have q1 := h.s1 (hp 1 (by decide))
        refine wp_val_at (.pointer (some ⟨g', 0, none⟩)) (by generalize a.eval = ρ at *; go_simp) ?_
        refine hK _ _ {
          fr := h.fr.put (by decide) _
          below := h.below
          s2 := fun _ => h.fr.eval_put (by rw [hsz]; decide) _
          s0 := by simpa using h.s0
          s1 := by simpa using h.s1
          s3 := by simpa using h.s3
          s4 := by simpa using h.s4
          s5 := by simpa using h.s5
          s6 := by simpa using h.s6
          s7 := by simpa using h.s7
          s8 := by simpa using h.s8
          s9 := by simpa using h.s9
          s10 := by simpa using h.s10
          s11 := by simpa using h.s11
          s12 := by simpa using h.s12
          s13 := by simpa using h.s13
          s14 := by simpa using h.s14
          s15 := by simpa using h.s15
          s16 := by simpa using h.s16
          s17 := by simpa using h.s17
          s18 := by simpa using h.s18
          o19 := fun hd => by rw [upD_ne _ (by decide)] at hd; exact ⟨upD_mono (h.o19 hd).1, upD_mono (h.o19 hd).2⟩ }
      · -- 3
        intro D a wx K hD hp h hK
        refine step_wp rfl ?_
        have q2 := h.s2 (hp 2 (by decide))
        refine wp_val_at (.pointer (some ⟨g', 2, none⟩)) (by generalize a.eval = ρ at *; go_simp) ?_
        refine hK _ _ {
          fr := h.fr.put (by decide) _
          below := h.below
          s3 := fun _ => h.fr.eval_put (by rw [hsz]; decide) _
          s0 := by simpa using h.s0
          s1 := by simpa using h.s1
          s2 := by simpa using h.s2
          s4 := by simpa using h.s4
          s5 := by simpa using h.s5
          s6 := by simpa using h.s6
          s7 := by simpa using h.s7
          s8 := by simpa using h.s8
          s9 := by simpa using h.s9
          s10 := by simpa using h.s10
          s11 := by simpa using h.s11
          s12 := by simpa using h.s12
          s13 := by simpa using h.s13
          s14 := by simpa using h.s14
          s15 := by simpa using h.s15
          s16 := by simpa using h.s16
          s17 := by simpa using h.s17
          s18 := by simpa using h.s18
          o19 := fun hd => by rw [upD_ne _ (by decide)] at hd; exact ⟨upD_mono (h.o19 hd).1, upD_mono (h.o19 hd).2⟩ }
      · -- 4
        intro D a wx K hD hp h hK
        refine step_wp rfl ?_
        have q3 := h.s3 (hp 3 (by decide))
        have z0 := (h.below.cell (p := ⟨g', 2, none⟩) lg).trans E2.out
        refine wp_val_at (.slice (some ⟨gb, go, none⟩) u.graphs.length gc) (by generalize a.eval = ρ at *; go_simp) ?_
        refine hK _ _ {
          fr := h.fr.put (by decide) _
          below := h.below
          s4 := fun _ => h.fr.eval_put (by rw [hsz]; decide) _
          s0 := by simpa using h.s0
          s1 := by simpa using h.s1
          s2 := by simpa using h.s2
          s3 := by simpa using h.s3
          s5 := by simpa using h.s5
          s6 := by simpa using h.s6
          s7 := by simpa using h.s7
          s8 := by simpa using h.s8
          s9 := by simpa using h.s9
          s10 := by simpa using h.s10
          s11 := by simpa using h.s11
          s12 := by simpa using h.s12
          s13 := by simpa using h.s13
          s14 := by simpa using h.s14
          s15 := by simpa using h.s15
          s16 := by simpa using h.s16
          s17 := by simpa using h.s17
          s18 := by simpa using h.s18
          o19 := fun hd => by rw [upD_ne _ (by decide)] at hd; exact ⟨upD_mono (h.o19 hd).1, upD_mono (h.o19 hd).2⟩ }
      · -- 5
        intro D a wx K hD hp h hK
        refine step_wp rfl ?_
        refine wp_move_at rfl ?_
        rw [h.fr.eval (j := 1) (by decide), t1]
        refine hK _ _ {
          fr := h.fr.put (by decide) _
          below := h.below
          s5 := fun _ => h.fr.eval_put (by rw [hsz]; decide) _
          s0 := by simpa using h.s0
          s1 := by simpa using h.s1
          s2 := by simpa using h.s2
          s3 := by simpa using h.s3
          s4 := by simpa using h.s4
          s6 := by simpa using h.s6
          s7 := by simpa using h.s7
          s8 := by simpa using h.s8
          s9 := by simpa using h.s9
          s10 := by simpa using h.s10
          s11 := by simpa using h.s11
          s12 := by simpa using h.s12
          s13 := by simpa using h.s13
          s14 := by simpa using h.s14
          s15 := by simpa using h.s15
          s16 := by simpa using h.s16
          s17 := by simpa using h.s17
          s18 := by simpa using h.s18
          o19 := fun hd => by rw [upD_ne _ (by decide)] at hd; exact ⟨upD_mono (h.o19 hd).1, upD_mono (h.o19 hd).2⟩ }
      · -- 6
        intro D a wx K hD hp h hK
        refine step_wp rfl ?_
        have q4 := h.s4 (hp 4 (by decide))
        have q5 := h.s5 (hp 5 (by decide))
        refine wp_val_at (.pointer (some ⟨gb, go + t * 4, none⟩)) (by generalize a.eval = ρ at *; go_simp) ?_
        refine hK _ _ {
          fr := h.fr.put (by decide) _
          below := h.below
          s6 := fun _ => h.fr.eval_put (by rw [hsz]; decide) _
          s0 := by simpa using h.s0
          s1 := by simpa using h.s1
          s2 := by simpa using h.s2
          s3 := by simpa using h.s3
          s4 := by simpa using h.s4
          s5 := by simpa using h.s5
          s7 := by simpa using h.s7
          s8 := by simpa using h.s8
          s9 := by simpa using h.s9
          s10 := by simpa using h.s10
          s11 := by simpa using h.s11
          s12 := by simpa using h.s12
          s13 := by simpa using h.s13
          s14 := by simpa using h.s14
          s15 := by simpa using h.s15
          s16 := by simpa using h.s16
          s17 := by simpa using h.s17
          s18 := by simpa using h.s18
          o19 := fun hd => by rw [upD_ne _ (by decide)] at hd; exact ⟨upD_mono (h.o19 hd).1, upD_mono (h.o19 hd).2⟩ }
      · -- 7
        intro D a wx K hD hp h hK
        refine step_wp rfl ?_
        have q6 := h.s6 (hp 6 (by decide))
        refine wp_val_at (.pointer (some ⟨gb, go + t * 4 + 3, none⟩)) (by generalize a.eval = ρ at *; go_simp) ?_
        refine hK _ _ {
          fr := h.fr.put (by decide) _
          below := h.below
          s7 := fun _ => h.fr.eval_put (by rw [hsz]; decide) _
          s0 := by simpa using h.s0
          s1 := by simpa using h.s1
          s2 := by simpa using h.s2
          s3 := by simpa using h.s3
          s4 := by simpa using h.s4
          s5 := by simpa using h.s5
          s6 := by simpa using h.s6
          s8 := by simpa using h.s8
          s9 := by simpa using h.s9
          s10 := by simpa using h.s10
          s11 := by simpa using h.s11
          s12 := by simpa using h.s12
          s13 := by simpa using h.s13
          s14 := by simpa using h.s14
          s15 := by simpa using h.s15
          s16 := by simpa using h.s16
          s17 := by simpa using h.s17
          s18 := by simpa using h.s18
          o19 := fun hd => by rw [upD_ne _ (by decide)] at hd; exact ⟨upD_mono (h.o19 hd).1, upD_mono (h.o19 hd).2⟩ }
      · -- 8
        intro D a wx K hD hp h hK
        refine step_wp rfl ?_
        have q7 := h.s7 (hp 7 (by decide))
        have z0 := (h.below.cell (p := ⟨gb, go + t * 4 + 3, none⟩) lb).trans EN.out
        refine wp_val_at (.slice (some ⟨nb, no, none⟩) gr.nodes.length nc) (by generalize a.eval = ρ at *; go_simp) ?_
        refine hK _ _ {
          fr := h.fr.put (by decide) _
          below := h.below
          s8 := fun _ => h.fr.eval_put (by rw [hsz]; decide) _
          s0 := by simpa using h.s0
          s1 := by simpa using h.s1
          s2 := by simpa using h.s2
          s3 := by simpa using h.s3
          s4 := by simpa using h.s4
          s5 := by simpa using h.s5
          s6 := by simpa using h.s6
          s7 := by simpa using h.s7
          s9 := by simpa using h.s9
          s10 := by simpa using h.s10
          s11 := by simpa using h.s11
          s12 := by simpa using h.s12
          s13 := by simpa using h.s13
          s14 := by simpa using h.s14
          s15 := by simpa using h.s15
          s16 := by simpa using h.s16
          s17 := by simpa using h.s17
          s18 := by simpa using h.s18
          o19 := fun hd => by rw [upD_ne _ (by decide)] at hd; exact ⟨upD_mono (h.o19 hd).1, upD_mono (h.o19 hd).2⟩ }
      · -- 9
        intro D a wx K hD hp h hK
        refine step_wp rfl ?_
        refine wp_move_at rfl ?_
        rw [h.fr.eval (j := 11) (by decide), t11]
        refine hK _ _ {
          fr := h.fr.put (by decide) _
          below := h.below
          s9 := fun _ => h.fr.eval_put (by rw [hsz]; decide) _
          s0 := by simpa using h.s0
          s1 := by simpa using h.s1
          s2 := by simpa using h.s2
          s3 := by simpa using h.s3
          s4 := by simpa using h.s4
          s5 := by simpa using h.s5
          s6 := by simpa using h.s6
          s7 := by simpa using h.s7
          s8 := by simpa using h.s8
          s10 := by simpa using h.s10
          s11 := by simpa using h.s11
          s12 := by simpa using h.s12
          s13 := by simpa using h.s13
          s14 := by simpa using h.s14
          s15 := by simpa using h.s15
          s16 := by simpa using h.s16
          s17 := by simpa using h.s17
          s18 := by simpa using h.s18
          o19 := fun hd => by rw [upD_ne _ (by decide)] at hd; exact ⟨upD_mono (h.o19 hd).1, upD_mono (h.o19 hd).2⟩ }
      · -- 10
        intro D a wx K hD hp h hK
        refine step_wp rfl ?_
        have q9 := h.s9 (hp 9 (by decide))
        refine wp_val_at (.pointer (some ⟨g', 0, none⟩)) (by generalize a.eval = ρ at *; go_simp) ?_
        refine hK _ _ {
          fr := h.fr.put (by decide) _
          below := h.below
          s10 := fun _ => h.fr.eval_put (by rw [hsz]; decide) _
          s0 := by simpa using h.s0
          s1 := by simpa using h.s1
          s2 := by simpa using h.s2
          s3 := by simpa using h.s3
          s4 := by simpa using h.s4
          s5 := by simpa using h.s5
          s6 := by simpa using h.s6
          s7 := by simpa using h.s7
          s8 := by simpa using h.s8
          s9 := by simpa using h.s9
          s11 := by simpa using h.s11
          s12 := by simpa using h.s12
          s13 := by simpa using h.s13
          s14 := by simpa using h.s14
          s15 := by simpa using h.s15
          s16 := by simpa using h.s16
          s17 := by simpa using h.s17
          s18 := by simpa using h.s18
          o19 := fun hd => by rw [upD_ne _ (by decide)] at hd; exact ⟨upD_mono (h.o19 hd).1, upD_mono (h.o19 hd).2⟩ }
      · -- 11
        intro D a wx K hD hp h hK
        refine step_wp rfl ?_
        have q10 := h.s10 (hp 10 (by decide))
        refine wp_val_at (.pointer (some ⟨g', 3, none⟩)) (by generalize a.eval = ρ at *; go_simp) ?_
        refine hK _ _ {
          fr := h.fr.put (by decide) _
          below := h.below
          s11 := fun _ => h.fr.eval_put (by rw [hsz]; decide) _
          s0 := by simpa using h.s0
          s1 := by simpa using h.s1
          s2 := by simpa using h.s2
          s3 := by simpa using h.s3
          s4 := by simpa using h.s4
          s5 := by simpa using h.s5
          s6 := by simpa using h.s6
          s7 := by simpa using h.s7
          s8 := by simpa using h.s8
          s9 := by simpa using h.s9
          s10 := by simpa using h.s10
          s12 := by simpa using h.s12
          s13 := by simpa using h.s13
          s14 := by simpa using h.s14
          s15 := by simpa using h.s15
          s16 := by simpa using h.s16
          s17 := by simpa using h.s17
          s18 := by simpa using h.s18
          o19 := fun hd => by rw [upD_ne _ (by decide)] at hd; exact ⟨upD_mono (h.o19 hd).1, upD_mono (h.o19 hd).2⟩ }
      · -- 12
        intro D a wx K hD hp h hK
        refine step_wp rfl ?_
        have q11 := h.s11 (hp 11 (by decide))
        have z0 := (h.below.cell (p := ⟨g', 3, none⟩) lg).trans E3.out
        refine wp_val_at (.slice (some ⟨ab, 0, none⟩) mk.at_.length ac) (by generalize a.eval = ρ at *; go_simp) ?_
        refine hK _ _ {
          fr := h.fr.put (by decide) _
          below := h.below
          s12 := fun _ => h.fr.eval_put (by rw [hsz]; decide) _
          s0 := by simpa using h.s0
          s1 := by simpa using h.s1
          s2 := by simpa using h.s2
          s3 := by simpa using h.s3
          s4 := by simpa using h.s4
          s5 := by simpa using h.s5
          s6 := by simpa using h.s6
          s7 := by simpa using h.s7
          s8 := by simpa using h.s8
          s9 := by simpa using h.s9
          s10 := by simpa using h.s10
          s11 := by simpa using h.s11
          s13 := by simpa using h.s13
          s14 := by simpa using h.s14
          s15 := by simpa using h.s15
          s16 := by simpa using h.s16
          s17 := by simpa using h.s17
          s18 := by simpa using h.s18
          o19 := fun hd => by rw [upD_ne _ (by decide)] at hd; exact ⟨upD_mono (h.o19 hd).1, upD_mono (h.o19 hd).2⟩ }
      · -- 13
        intro D a wx K hD hp h hK
        refine step_wp rfl ?_
        refine wp_move_at rfl ?_
        rw [h.fr.eval (j := 1) (by decide), t1]
        refine hK _ _ {
          fr := h.fr.put (by decide) _
          below := h.below
          s13 := fun _ => h.fr.eval_put (by rw [hsz]; decide) _
          s0 := by simpa using h.s0
          s1 := by simpa using h.s1
          s2 := by simpa using h.s2
          s3 := by simpa using h.s3
          s4 := by simpa using h.s4
          s5 := by simpa using h.s5
          s6 := by simpa using h.s6
          s7 := by simpa using h.s7
          s8 := by simpa using h.s8
          s9 := by simpa using h.s9
          s10 := by simpa using h.s10
          s11 := by simpa using h.s11
          s12 := by simpa using h.s12
          s14 := by simpa using h.s14
          s15 := by simpa using h.s15
          s16 := by simpa using h.s16
          s17 := by simpa using h.s17
          s18 := by simpa using h.s18
          o19 := fun hd => by rw [upD_ne _ (by decide)] at hd; exact ⟨upD_mono (h.o19 hd).1, upD_mono (h.o19 hd).2⟩ }
      · -- 14
        intro D a wx K hD hp h hK
        refine step_wp rfl ?_
        have q12 := h.s12 (hp 12 (by decide))
        have q13 := h.s13 (hp 13 (by decide))
        refine wp_val_at (.pointer (some ⟨ab, t, none⟩)) (by generalize a.eval = ρ at *; go_simp) ?_
        refine hK _ _ {
          fr := h.fr.put (by decide) _
          below := h.below
          s14 := fun _ => h.fr.eval_put (by rw [hsz]; decide) _
          s0 := by simpa using h.s0
          s1 := by simpa using h.s1
          s2 := by simpa using h.s2
          s3 := by simpa using h.s3
          s4 := by simpa using h.s4
          s5 := by simpa using h.s5
          s6 := by simpa using h.s6
          s7 := by simpa using h.s7
          s8 := by simpa using h.s8
          s9 := by simpa using h.s9
          s10 := by simpa using h.s10
          s11 := by simpa using h.s11
          s12 := by simpa using h.s12
          s13 := by simpa using h.s13
          s15 := by simpa using h.s15
          s16 := by simpa using h.s16
          s17 := by simpa using h.s17
          s18 := by simpa using h.s18
          o19 := fun hd => by rw [upD_ne _ (by decide)] at hd; exact ⟨upD_mono (h.o19 hd).1, upD_mono (h.o19 hd).2⟩ }
      · -- 15
        intro D a wx K hD hp h hK
        refine step_wp rfl ?_
        have q14 := h.s14 (hp 14 (by decide))
        have z0 := (h.below.cell (p := ⟨ab, t, none⟩) la).trans EA.out
        refine wp_val_at (.int .i64 (ia : Int)) (by generalize a.eval = ρ at *; go_simp) ?_
        refine hK _ _ {
          fr := h.fr.put (by decide) _
          below := h.below
          s15 := fun _ => h.fr.eval_put (by rw [hsz]; decide) _
          s0 := by simpa using h.s0
          s1 := by simpa using h.s1
          s2 := by simpa using h.s2
          s3 := by simpa using h.s3
          s4 := by simpa using h.s4
          s5 := by simpa using h.s5
          s6 := by simpa using h.s6
          s7 := by simpa using h.s7
          s8 := by simpa using h.s8
          s9 := by simpa using h.s9
          s10 := by simpa using h.s10
          s11 := by simpa using h.s11
          s12 := by simpa using h.s12
          s13 := by simpa using h.s13
          s14 := by simpa using h.s14
          s16 := by simpa using h.s16
          s17 := by simpa using h.s17
          s18 := by simpa using h.s18
          o19 := fun hd => by rw [upD_ne _ (by decide)] at hd; exact ⟨upD_mono (h.o19 hd).1, upD_mono (h.o19 hd).2⟩ }
      · -- 16
        intro D a wx K hD hp h hK
        refine step_wp rfl ?_
        have q8 := h.s8 (hp 8 (by decide))
        have q15 := h.s15 (hp 15 (by decide))
        refine wp_val_at (.pointer (some ⟨nb, no + ia * 13, none⟩)) (by generalize a.eval = ρ at *; go_simp) ?_
        refine hK _ _ {
          fr := h.fr.put (by decide) _
          below := h.below
          s16 := fun _ => h.fr.eval_put (by rw [hsz]; decide) _
          s0 := by simpa using h.s0
          s1 := by simpa using h.s1
          s2 := by simpa using h.s2
          s3 := by simpa using h.s3
          s4 := by simpa using h.s4
          s5 := by simpa using h.s5
          s6 := by simpa using h.s6
          s7 := by simpa using h.s7
          s8 := by simpa using h.s8
          s9 := by simpa using h.s9
          s10 := by simpa using h.s10
          s11 := by simpa using h.s11
          s12 := by simpa using h.s12
          s13 := by simpa using h.s13
          s14 := by simpa using h.s14
          s15 := by simpa using h.s15
          s17 := by simpa using h.s17
          s18 := by simpa using h.s18
          o19 := fun hd => by rw [upD_ne _ (by decide)] at hd; exact ⟨upD_mono (h.o19 hd).1, upD_mono (h.o19 hd).2⟩ }
      · -- 17
        intro D a wx K hD hp h hK
        refine step_wp rfl ?_
        refine wp_load_at 53 _ rfl nb (no + ia * 13) (h.s16 (hp 16 (by decide))) n1.cells _ (fun j' v hj => (h.below.cell (p := ⟨nb, no + ia * 13 + j', none⟩) ln).trans (HN1.out j' v hj)) Tryz.underlying53 rfl (by kernel_rfl) ?_
        refine hK _ _ {
          fr := h.fr.put (by decide) _
          below := h.below
          s17 := fun _ => h.fr.eval_put (by rw [hsz]; decide) _
          s18 := fun hd => by
            rw [upD_ne _ (by decide)] at hd
            obtain ⟨X, cs, e, e1, e2, e3, e4⟩ := h.s18 hd
            refine ⟨X, cs, by rw [eval_put_ne (by decide)]; exact e, e1, e2, e3, fun h8 => ?_⟩
            rw [upD_ne _ (by decide)] at h8
            have := (h.o19 h8).1
            rw [hD] at this
            cases this
          s0 := by simpa using h.s0
          s1 := by simpa using h.s1
          s2 := by simpa using h.s2
          s3 := by simpa using h.s3
          s4 := by simpa using h.s4
          s5 := by simpa using h.s5
          s6 := by simpa using h.s6
          s7 := by simpa using h.s7
          s8 := by simpa using h.s8
          s9 := by simpa using h.s9
          s10 := by simpa using h.s10
          s11 := by simpa using h.s11
          s12 := by simpa using h.s12
          s13 := by simpa using h.s13
          s14 := by simpa using h.s14
          s15 := by simpa using h.s15
          s16 := by simpa using h.s16
          o19 := fun hd => by rw [upD_ne _ (by decide)] at hd; exact ⟨upD_mono (h.o19 hd).1, upD_mono (h.o19 hd).2⟩ }
      · -- 18
        intro D a wx K hD hp h hK
        refine step_wp rfl ?_
        have HK := Lib.hid hK; clear hK
        have H := Lib.hid h; clear h
        refine wp_alloc_at rfl (.agg #[.int .u8 0, .int .u8 0, .int .i64 0, .int .i64 0, .bool false, .int .i64 0, .int .i64 0, .bool false, .int .i64 0, .int .i64 0, .int .i64 0, .int .i64 0, .int .i64 0]) [.int .u8 0, .int .u8 0, .int .i64 0, .int .i64 0, .bool false, .int .i64 0, .int .i64 0, .bool false, .int .i64 0, .int .i64 0, .int .i64 0, .int .i64 0, .int .i64 0] rfl (by kernel_rfl) ?_
        have h := H.out.keep (Below_alloc' wx (.cells (List.toArray [.int .u8 0, .int .u8 0, .int .i64 0, .int .i64 0, .bool false, .int .i64 0, .int .i64 0, .bool false, .int .i64 0, .int .i64 0, .int .i64 0, .int .i64 0, .int .i64 0]) 53))
        have hbz := Blk.new wx 53 [.int .u8 0, .int .u8 0, .int .i64 0, .int .i64 0, .bool false, .int .i64 0, .int .i64 0, .bool false, .int .i64 0, .int .i64 0, .int .i64 0, .int .i64 0, .int .i64 0]
        have hwz := H.out.below.size
        refine HK.out _ _ {
          fr := h.fr.put (by decide) _
          below := h.below
          s18 := fun _ => ⟨wx.heap.size, [.int .u8 0, .int .u8 0, .int .i64 0, .int .i64 0, .bool false, .int .i64 0, .int .i64 0, .bool false, .int .i64 0, .int .i64 0, .int .i64 0, .int .i64 0, .int .i64 0], h.fr.eval_put (by rw [hsz]; decide) _, hwz, hbz, rfl, fun h8 => by
            rw [upD_ne _ (by decide)] at h8
            have := (h.o19 h8).2
            rw [hD] at this
            cases this⟩
          s0 := by simpa using h.s0
          s1 := by simpa using h.s1
          s2 := by simpa using h.s2
          s3 := by simpa using h.s3
          s4 := by simpa using h.s4
          s5 := by simpa using h.s5
          s6 := by simpa using h.s6
          s7 := by simpa using h.s7
          s8 := by simpa using h.s8
          s9 := by simpa using h.s9
          s10 := by simpa using h.s10
          s11 := by simpa using h.s11
          s12 := by simpa using h.s12
          s13 := by simpa using h.s13
          s14 := by simpa using h.s14
          s15 := by simpa using h.s15
          s16 := by simpa using h.s16
          s17 := by simpa using h.s17
          o19 := fun hd => by rw [upD_ne _ (by decide)] at hd; exact ⟨upD_mono (h.o19 hd).1, upD_mono (h.o19 hd).2⟩ }
      · -- 19
        intro D a wx K hD hp h hK
        refine step_wp rfl ?_
        obtain ⟨X, cs, e, e1, e2, e3, -⟩ := h.s18 (hp 18 (by decide))
        have f1 := h.s17 (hp 17 (by decide))
        refine wp_store_row 53 _ _ rfl X _ e f1 53 cs.toArray e2 (by rw [List.size_toArray, HAL.out]; kernel_rfl) (by simp [e3, HAL.out]) (by exact HAO.out) ?_
        refine hK _ _ {
          fr := h.fr
          below := below_row h.below e1 _
          s18 := fun _ => ⟨X, _, e, e1, Blk.setRow (cs' := n1.cells) e2, HAL.out, fun _ => f1⟩
          s0 := by simpa using h.s0
          s1 := by simpa using h.s1
          s2 := by simpa using h.s2
          s3 := by simpa using h.s3
          s4 := by simpa using h.s4
          s5 := by simpa using h.s5
          s6 := by simpa using h.s6
          s7 := by simpa using h.s7
          s8 := by simpa using h.s8
          s9 := by simpa using h.s9
          s10 := by simpa using h.s10
          s11 := by simpa using h.s11
          s12 := by simpa using h.s12
          s13 := by simpa using h.s13
          s14 := by simpa using h.s14
          s15 := by simpa using h.s15
          s16 := by simpa using h.s16
          s17 := by simpa using h.s17
          o19 := fun _ => ⟨upD_mono (hp 17 (by decide)), upD_mono (hp 18 (by decide))⟩ }
    case done =>
      intro D a wc hall h
      have hd : ∀ i, i < 20 → D i = true := hall
      obtain ⟨Y, ds, v13, eX, bX, -, cX⟩ := h.s18 (hd 18 (by decide))
      have cX := (cX (hd 19 (by decide))).symm.trans (h.s17 (hd 17 (by decide)))
      injection cX with cX
      obtain rfl : n1.cells = ds := by simpa using (congrArg Array.toList cX).symm
      have hfin := (((((((((((((((((((h.fr.shut (by rw [hsz]; decide)).shut (by simp [Act.put, hsz])).shut (by simp [Act.put, hsz])).shut (by simp [Act.put, hsz])).shut (by simp [Act.put, hsz])).shut (by simp [Act.put, hsz])).shut (by simp [Act.put, hsz])).shut (by simp [Act.put, hsz])).shut (by simp [Act.put, hsz])).shut (by simp [Act.put, hsz])).shut (by simp [Act.put, hsz])).shut (by simp [Act.put, hsz])).shut (by simp [Act.put, hsz])).shut (by simp [Act.put, hsz])).shut (by simp [Act.put, hsz])).shut (by simp [Act.put, hsz])).shut (by simp [Act.put, hsz])).shut (by simp [Act.put, hsz])).shut (by simp [Act.put, hsz])).done
      rw [v13, h.s0 (hd 0 (by decide)), h.s1 (hd 1 (by decide)), h.s2 (hd 2 (by decide)), h.s3 (hd 3 (by decide)), h.s4 (hd 4 (by decide)), h.s5 (hd 5 (by decide)), h.s6 (hd 6 (by decide)), h.s7 (hd 7 (by decide)), h.s8 (hd 8 (by decide)), h.s9 (hd 9 (by decide)), h.s10 (hd 10 (by decide)), h.s11 (hd 11 (by decide)), h.s12 (hd 12 (by decide)), h.s13 (hd 13 (by decide)), h.s14 (hd 14 (by decide)), h.s15 (hd 15 (by decide)), h.s16 (hd 16 (by decide)), h.s17 (hd 17 (by decide))] at hfin
      have HB := Lib.hid (And.intro bX (HH.out.1.below h.below))
      have HYM : ¬ L2.mut g' Y := fun e => by have := HH.out.1.mb.lt e; omega
      rw [hfin, HA0.out]
      clear hfin HA0 h hall hd v13 cX eX t11 t1 hsz bX lg lb ln la E2 E3 EN EA
      simp only [Act.put, List.setIfInBounds_toArray, List.set_cons_zero, List.set_cons_succ]
      have HBR := Lib.hid (bar_calls (t : Int) HB.out.2.mb HB.out.2.situ.ok HM.out.2.2.2.1)
      obtain ⟨r, hr⟩ : ∃ r, barF u mk (t : Int) = r := ⟨_, rfl⟩
      rw [hr] at HBR
      have hYm : ¬ L2.mut g' Y := HYM
      go_wp2_with fail
      refine HBR.out.mono ?_
      rintro e w4 ⟨rfl, hb4⟩
      have HAT := Lib.hid (HB.out.2.below hb4)
      have HY := Lib.hid (And.intro (HB.out.1.below hb4 HB.out.1.lt) hYm)
      clear hb4 HBR HB hYm
      by_cases r7 : r = 70
      · have HXE := Lib.hid (HH.out.2.symm.trans (advF_end (M - k) k (by rw [hr]; exact r7)))
        subst r7
        clear hr
        obtain ⟨a1, a2, a3, a5, s1, s2, s3, s5, c1, c2, c3, c5, a4, a6, a7, a8, c4, c6, c7, c8, hcells⟩ := lay_slices HAT.out.mb
        have HLM : Hid (∀ j v, ([.slice a1 s1 c1, .slice a2 s2 c2, .slice a3 s3 c3, .slice a4 mk.at_.length c4, .slice a5 s5 c5, .slice a6 mk.mem.length c6, .slice a7 mk.holders.length c7, .slice a8 mk.prints.length c8] : List Value)[j]? = some v → w4.cell? ⟨g', 0 + j, none⟩ = some v) := Lib.hid fun j v hj => by rw [Nat.zero_add, HAT.out.mb.cell, hcells]; exact hj
        have hgB : Blk w4 g 81 L.cells := HM.out.1.blk.below HAT.out.bel hgl
        have hfn := HAT.out.fin HM.out.1 hgB
        rw [hcells] at hfn
        obtain ⟨cg, hcg⟩ : ∃ cg, L.cells = cg := ⟨_, rfl⟩
        have hcgl : cg.length = 8 := by rw [← hcg]; rfl
        rw [hcg] at hgB
        have HFN := Lib.hid (And.intro hfn (And.intro hgB hcgl))
        clear hcells hgB hfn hcg hcgl
        go_wp2_with (first
          | (refine wpList_load_at rfl 81 _ rfl g' 0 rfl _ _ HLM.out Tryz.underlying81 rfl (by kernel_rfl) ?_)
          | (refine stop_store 81 rfl ?_))
        refine Stop.intro ?_
        refine wpList_store_row rfl 81 _ _ rfl g #[.slice a1 s1 c1, .slice a2 s2 c2, .slice a3 s3 c3, .slice a4 mk.at_.length c4, .slice a5 s5 c5, .slice a6 mk.mem.length c6, .slice a7 mk.holders.length c7, .slice a8 mk.prints.length c8] rfl rfl 81 cg.toArray HFN.out.2.1 (by kernel_rfl) (by simp [HFN.out.2.2]) (by simp [Value.oneCell']) ?_
        have HF := Lib.hid HFN.out.1
        clear HFN HLM
        go_wp2
        go_ret2
        exact ⟨by rw [HXE.out]; rfl, by rw [HXE.out]; exact HF.out⟩
      · have n70 : (r == 70) = false := by simp [r7]
        by_cases r0 : r = 0
        · have hr0 := hr
          rw [r0] at hr0
          subst r0
          by_cases hk2 : k = M
          · have hXE : X = (none, 0, 3) := by rw [← HH.out.2, hk2, Nat.sub_self]; exact advF_many M hr0
            have HXE := Lib.hid hXE
            subst hk2
            have HBW := Lib.hid (AdvP.same HM.out.1 HAT.out.bel)
            clear hr hr0 hkM HH hXE
            go_wp2
            go_ret2
            exact ⟨by rw [HXE.out]; rfl, by rw [HXE.out]; exact HBW.out⟩
          · have nkm : ((k : Int) == (M : Int)) = false := by simp; omega
            have HS := Lib.hid (adv_step HM.out.2.2.2.1 HM.out.2.2.2.2.1 HAT.out HM.out.2.1 (by have := HM.out.2.2.2.2.2.2; omega) hr0)
            have hvis := visAt_of (cl := cl) HST.out
            have HK := Lib.hid (And.intro hk2 (And.intro hkM (And.intro hr0 hvis)))
            clear hr hr0 hk2 hkM hvis
            go_wp2_with fail
            refine HS.out.mono ?_
            rintro e w5 ⟨d, rfl, hfr, pv5, hA5⟩
            have hY5 := HY.out.1.fr hfr HY.out.2
            have HV := Lib.hid (visible_calls cl (.slice vA cl.length vc) n1 w5 (HC.out.1.mono (cmap_below hA5.bel)))
            obtain ⟨vb, hvb⟩ : ∃ vb, visB cl n1 = vb := ⟨_, rfl⟩
            rw [hvb] at HV
            have H5 := Lib.hid (And.intro hA5 (And.intro hY5 hvb))
            clear hfr hA5 hY5 hvb HS
            go_wp2_with (first
              | (refine wpList_load_at rfl 53 _ rfl Y 0 rfl n1.cells _ (fun j v hj => by rw [Nat.zero_add, H5.out.2.1.cell]; exact hj) Tryz.underlying53 rfl (by kernel_rfl) ?_))
            refine HV.out.mono ?_
            rintro e w6 ⟨rfl, hb6⟩
            have HAT6 := Lib.hid (H5.out.1.below hb6)
            clear hb6 HV
            obtain ⟨mn, hmn⟩ : ∃ mn, stepM u mk (t : Int) = mn := ⟨_, rfl⟩
            have hMk : M - k = (M - k - 1) + 1 := by have := HK.out.1; have := HK.out.2.1; omega
            cases vb with
            | true =>
              have hXE : X = (some (stepM u mk (t : Int)), k + 1, 0) := by rw [← HH.out.2, hMk]; exact advF_vis _ k HK.out.2.2.1 (by rw [HK.out.2.2.2]; exact H5.out.2.2)
              have HXE := Lib.hid hXE
              rw [hmn] at HXE HAT6
              clear hMk hmn HH hXE
              obtain ⟨a1, a2, a3, a5, s1, s2, s3, s5, c1, c2, c3, c5, a4, a6, a7, a8, c4, c6, c7, c8, hcells⟩ := lay_slices HAT6.out.mb
              have HLM : Hid (∀ j v, ([.slice a1 s1 c1, .slice a2 s2 c2, .slice a3 s3 c3, .slice a4 mn.at_.length c4, .slice a5 s5 c5, .slice a6 mn.mem.length c6, .slice a7 mn.holders.length c7, .slice a8 mn.prints.length c8] : List Value)[j]? = some v → w6.cell? ⟨g', 0 + j, none⟩ = some v) := Lib.hid fun j v hj => by rw [Nat.zero_add, HAT6.out.mb.cell, hcells]; exact hj
              have hgB : Blk w6 g 81 L.cells := HM.out.1.blk.below HAT6.out.bel hgl
              have hfn := HAT6.out.fin HM.out.1 hgB
              rw [hcells] at hfn
              obtain ⟨cg, hcg⟩ : ∃ cg, L.cells = cg := ⟨_, rfl⟩
              have hcgl : cg.length = 8 := by rw [← hcg]; rfl
              rw [hcg] at hgB
              have HFN := Lib.hid (And.intro hfn (And.intro hgB hcgl))
              clear hcells hgB hfn hcg hcgl
              go_wp2_with (first
                | (refine wpList_load_at rfl 81 _ rfl g' 0 rfl _ _ HLM.out Tryz.underlying81 rfl (by kernel_rfl) ?_)
                | (refine stop_store 81 rfl ?_))
              refine Stop.intro ?_
              refine wpList_store_row rfl 81 _ _ rfl g #[.slice a1 s1 c1, .slice a2 s2 c2, .slice a3 s3 c3, .slice a4 mn.at_.length c4, .slice a5 s5 c5, .slice a6 mn.mem.length c6, .slice a7 mn.holders.length c7, .slice a8 mn.prints.length c8] rfl rfl 81 cg.toArray HFN.out.2.1 (by kernel_rfl) (by simp [HFN.out.2.2]) (by simp [Value.oneCell']) ?_
              have HF := Lib.hid HFN.out.1
              clear HFN HLM
              go_wp2
              go_ret2
              have hwk : wrap64 ((k : Int) + 1) = ((k + 1 : Nat) : Int) := by have := HK.out.2.1; unfold wrap64; omega
              exact ⟨by rw [HXE.out]; show Ending.returned (.tuple #[.int .i64 (wrap64 ((k : Int) + 1)), .int .i64 0]) = _; rw [hwk], by rw [HXE.out]; exact HF.out⟩
            | false =>
              have hXE : X = advF u cl (t : Int) (M - k - 1) (k + 1) (stepM u mk (t : Int)) := by rw [← HH.out.2, hMk]; exact advF_go _ k HK.out.2.2.1 (by rw [HK.out.2.2.2]; exact H5.out.2.2)
              have HXE := Lib.hid hXE
              have hF : AdvAt w w6 R R' g' { L' with pv := pv5 } u (k + 1) m (stepM u mk (t : Int)) := by rw [← HLL.out pv5]; exact HAT6.out
              have hX2 : advF u cl (t : Int) (M - (k + 1)) (k + 1) (stepM u mk (t : Int)) = X := by rw [show M - (k + 1) = M - k - 1 by omega]; exact HXE.out.symm
              rw [hmn] at hF hX2
              have HF := Lib.hid (And.intro hF hX2)
              have hkk : k + 1 ≤ M := by have := HK.out.1; have := HK.out.2.1; omega
              clear hMk hF hX2 hmn HXE hXE HAT6 HH
              go_wp2
              go_roundw
              case rel => exact ⟨k + 1, pv5, mn, by go_num, hkk, HF⟩
              case measure => simp [intOf]; omega
        · have HXE := Lib.hid (HH.out.2.symm.trans (advF_bar (M - k) k (by rw [hr]; exact r7) (by rw [hr]; exact r0)))
          have HBW := Lib.hid (AdvP.same HM.out.1 HAT.out.bel)
          have n00 : (r != 0) = true := by simp [r0]
          rw [hr] at HXE
          clear r0 r7 hr hkM HH
          go_wp2
          go_ret2
          exact ⟨by rw [HXE.out]; rfl, by rw [HXE.out]; exact HBW.out⟩
end Go.Proofs.YtmkpjiahkepigaaGreat
