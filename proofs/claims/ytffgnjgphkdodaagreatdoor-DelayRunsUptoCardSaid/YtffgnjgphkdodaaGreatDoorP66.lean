import Derived.Test.YtffgnjgphkdodaaGreatDoorP64
import Derived.Test.YtffgnjgphkdodaaGreatDoorP65
import Derived.Test.YtffgnjgphkdodaaGreatDoorP63
/- What an action leaves in memory. -/
namespace Go.Proofs.YtffgnjgphkdodaaGreatDoor
open Go Go.RowKit
section
variable {w w' : World} {R : Nat → Prop} {g b : Nat} {L : Lay} {u : Unit_} {m : Mach} {t : Nat} {n : Node} {d : Did}
theorem MachB.notmut (h : MachB w R g L u m) {k : Nat} {cur : Array Value} {T : TypeId} (hk : w.heap[k]? = some (.cells cur T (0, 0))) (h1 : T ≠ 115) (h2 : T ≠ 3) (h3 : T ≠ 2) (h4 : T ≠ 232) : ¬ L.mut g k := by
  rintro (e | e | e | e | e | e)
  · exact h.ne_g hk h1 e
  · exact own_ne h.at_ hk (fun q => h2 q.symm) e
  · exact own_ne h.mem hk (fun q => h3 q.symm) e
  · exact own_ne h.hold hk (fun q => h2 q.symm) e
  · exact own_ne h.prints hk (fun q => h4 q.symm) e
  · obtain ⟨c, hc⟩ := h.glb e
    exact row_types hk hc h3 rfl
/-- A cell is written that is not the machine's. -/
theorem MachB.setOther (h : MachB w R g L u m) (hk : ¬ L.mut g b) (hR : ¬ R b) (i : Nat) (x : Value) : MachB (w.setCell ⟨b, i, none⟩ x) R g L u m :=
  h.fr (FrW.setCell (S := fun q => q = b) w rfl x) (fun _q hq e => hk (e ▸ hq)) (fun _q hq e => hR (e ▸ hq))
/-- What is known behind an action: w ahead of it, w' behind it; b: the block of what acts. -/
structure ActP (w w' : World) (b : Nat) (R : Nat → Prop) (g : Nat) (L : Lay) (u : Unit_) (m' : Mach) (cs : List Value) : Prop where
  ex : ∃ pv, MachB w' R g { L with pv := pv } u m' ∧ ∀ q, ({ L with pv := pv } : Lay).mut g q → L.mut g q ∨ w.heap.size ≤ q
  blk : Blk w' b 133 cs
  fr : FrW (fun q => q = b ∨ L.mut g q) w w'
theorem ActP.drewN {cs : List Value} {m' : Mach} (h : ActP w w' b R g L u m' cs) (q : Nat) : ActP w (w'.drewN q) b R g L u m' cs := by
  obtain ⟨pv, h1, h3⟩ := h.ex
  exact ⟨⟨pv, h1.drewN q, h3⟩, h.blk, h.fr.trans (FrW.of_below _ (Below_drewN w' q))⟩
theorem ActP.start (h : MachB w R g L u m) {cs : List Value} (hb : Blk w b 133 cs) : ActP w w b R g L u m cs := ⟨⟨L.pv, h, fun _ hq => .inl hq⟩, hb, FrW.refl _ _⟩
theorem ActP.below {cs : List Value} {m' : Mach} {w2 : World} (h : ActP w w' b R g L u m' cs) (hb : Below w'.heap.size w' w2) : ActP w w2 b R g L u m' cs := by
  obtain ⟨pv, h1, h3⟩ := h.ex
  exact ⟨⟨pv, h1.below hb, h3⟩, h.blk.below hb h.blk.lt, h.fr.trans (FrW.of_below _ hb)⟩
/-- A cell of the acting block is written. -/
theorem ActP.setB {cs : List Value} {m' : Mach} (h : ActP w w' b R g L u m' cs) (hR : ¬ R b) (i : Nat) (x : Value) : ActP w (w'.setCell ⟨b, i, none⟩ x) b R g L u m' (cs.set i x) := by
  obtain ⟨pv, h1, h3⟩ := h.ex
  exact ⟨⟨pv, h1.setOther (h1.notmut h.blk (by decide) (by decide) (by decide) (by decide)) hR i x, h3⟩, h.blk.set_ i x, h.fr.trans (FrW.setCell w' (.inl rfl) x)⟩
/-- One of the machine's cells is written; what it is behind that is said by k. -/
theorem ActP.setM {cs : List Value} {m' m'' : Mach} {k i : Nat} {x : Value} (h : ActP w w' b R g L u m' cs) (hk : L.mut g k) (hs : ∀ pv, MachB w' R g { L with pv := pv } u m' → MachB (w'.setCell ⟨k, i, none⟩ x) R g { L with pv := pv } u m'') (hbk : b ≠ k) : ActP w (w'.setCell ⟨k, i, none⟩ x) b R g L u m'' cs := by
  obtain ⟨pv, h1, h3⟩ := h.ex
  exact ⟨⟨pv, hs pv h1, h3⟩, h.blk.far hbk x, h.fr.trans (FrW.setCell w' (.inr hk) x)⟩
end
theorem act_word (g : Nat) (t : Int) (n : Node) (d : Did) (x : Int) : (actCells g t n d).set 19 (.int .i64 x) = actCells g t n { d with word := x } := rfl
/-- All words of a situation are words. -/
structure MachI (m : Mach) : Prop where
  slot : ∀ l ∈ m.slots, ∀ x ∈ l, i64 x
  mem : ∀ x ∈ m.mem, i64 x
theorem i64_zero : i64 0 := by unfold i64; omega
theorem MachI.val {m : Mach} (h : MachI m) (t : Nat) {v : Val} (hv : v.ok) : i64 (m.val t v) := by
  unfold Mach.val Mach.slot
  split
  · cases h1 : m.slots[t]? with
    | none => simp; exact i64_zero
    | some l =>
      simp only [Option.getD_some]
      cases h2 : l[v.slot.toNat]? with
      | none => exact i64_zero
      | some x => exact h.slot l (List.mem_of_getElem? h1) x (List.mem_of_getElem? h2)
  · exact hv.2
theorem MachI.var {m : Mach} (h : MachI m) (i : Int) : i64 (m.var i) := by
  unfold Mach.var
  cases h2 : m.mem[i.toNat]? with
  | none => exact i64_zero
  | some x => exact h.mem x (List.mem_of_getElem? h2)
/-- All that the walks of the actions take. -/
structure ActH (w : World) (b : Nat) (R : Nat → Prop) (g : Nat) (L : Lay) (u : Unit_) (m : Mach) (t : Nat) (gr : Graph) (i : Nat) (n : Node) (d : Did) : Prop where
  mc : MachB w R g L u m
  blk : Blk w b 133 (actCells g t n d)
  ok : MachOk u m
  st : Stands u m t gr i n
  nd : NdF u gr n
  rb : ¬ R b
  no : n.ok
  mi : MachI m
  rl : ∀ q, R q → q < w.heap.size
section
variable {w w' : World} {R : Nat → Prop} {g b : Nat} {L : Lay} {u : Unit_} {m : Mach} {t i : Nat} {gr : Graph} {n : Node} {d : Did}
theorem ActH.tl (h : ActH w b R g L u m t gr i n d) : t < m.slots.length := by rw [h.ok.slots]; exact (List.getElem?_eq_some_iff.1 h.st.gr).1
/-- The thread's slots. -/
theorem ActH.slots (h : ActH w b R g L u m t gr i n d) : ∃ l k, m.slots[t]? = some l ∧ L.gl[t]? = some k ∧ (l.length : Int) = gr.slots := by
  have htl := h.tl
  have hl : m.slots[t]? = some m.slots[t] := List.getElem?_eq_getElem htl
  have ht2 : t < L.gl.length := by rw [h.mc.gl]; exact h.tl
  exact ⟨_, _, hl, List.getElem?_eq_getElem ht2, h.ok.slot t gr _ h.st.gr hl⟩
theorem ActH.slotIn (h : ActH w b R g L u m t gr i n d) {v : Val} (hv : v.isSlot = true → 0 ≤ v.slot ∧ v.slot < gr.slots) : v.isSlot = true → 0 ≤ v.slot ∧ ∀ l, m.slots[t]? = some l → v.slot < l.length := fun e => by
  obtain ⟨h1, h2⟩ := hv e
  exact ⟨h1, fun l hl => by have := h.ok.slot t gr l h.st.gr hl; omega⟩
/-- The word of a value, at a world behind. -/
theorem ActH.word (h : ActH w b R g L u m t gr i n d) (v : Val) (hv : v.isSlot = true → 0 ≤ v.slot ∧ v.slot < gr.slots) {w1 : World} {L' : Lay} {d' : Did} (h1 : MachB w1 R g L' u m) (hb : Blk w1 b 133 (actCells g t n d')) :
    Calls Tryz.prog 162 #[.pointer (some ⟨b, 0, none⟩), .agg v.cells.toArray] w1 fun e w' => e = .returned (.int .i64 (m.val t v)) ∧ Below w1.heap.size w1 w' :=
  wordOf_calls v h1 hb h.tl (h.slotIn hv)
theorem act_a (hb : Blk w b 133 (actCells g t n d)) : ∀ j v, n.a.cells[j]? = some v → w.cell? ⟨b, 6 + j, none⟩ = some v := fun j v hj => by
  have hj' : j < 3 := (List.getElem?_eq_some_iff.1 hj).1
  rw [hb.cell]
  match j, hj', hj with
  | 0, _, hj => exact hj
  | 1, _, hj => exact hj
  | 2, _, hj => exact hj
/-- What gets leaves. -/
theorem ActP.gets {w1 : World} {L : Lay} {x : Int} {j k : Nat} {l : List Int} {m' : Mach} {d' : Did} (h : ActP w w1 b R g L u m' (actCells g t n d')) (hR : ¬ R b) (hgl : L.gl[t]? = some k) (hl : m'.slots[t]? = some l) (hk : L.mut g k) (hbk : b ≠ k) (q : Nat) :
    ActP w (((w1.setCell ⟨k, j, none⟩ (.int .i64 x)).setCell ⟨b, 19, none⟩ (.int .i64 x)).drewN q) b R g L u { m' with slots := m'.slots.set t (l.set j x) } (actCells g t n { d' with word := x }) := by
  have h2 := h.setM (m'' := { m' with slots := m'.slots.set t (l.set j x) }) (i := j) (x := .int .i64 x) hk (fun pv k1 => k1.setSlot (L := { L with pv := pv }) hgl hl x) hbk
  have h3 := (h2.setB hR 19 (.int .i64 x)).drewN q
  rwa [act_word] at h3
end
end Go.Proofs.YtffgnjgphkdodaaGreatDoor
/- A class of worlds for the actions' regions: calls that make memory, stores into the acting block. -/
namespace Go.Proofs.YtffgnjgphkdodaaGreatDoor
open Go Go.RowKit
section
variable {w w' : World} {R : Nat → Prop} {g b : Nat} {L : Lay} {u : Unit_} {m : Mach} {t : Nat} {n : Node} {d : Did}
/-- Whichever operations have come up: an action is at work, its block holds csF; operation i answers v. -/
def cAct (w : World) (b : Nat) (R : Nat → Prop) (g : Nat) (L : Lay) (u : Unit_) (m : Mach) (csF : (Nat → Bool) → List Value) (i : Nat) (v : Value) : WCls := fun D A x => ActP w x b R g L u m (csF D) ∧ (D i = true → A i = v)
variable {P : Program} {ops : Array Oper} {act : List Nat} {csF : (Nat → Bool) → List Value} {i : Nat} {v : Value}
theorem cAct_start (h : MachB w R g L u m) {cs : List Value} (hb : Blk w b 133 cs) (hc : csF (fun _ => false) = cs) (A : Nat → Value) : cAct w b R g L u m csF i v (fun _ => false) A w.drew :=
  ⟨by rw [hc]; exact (ActP.start h hb).drewN 1, fun h => by (cases h)⟩
theorem cAct_hq (hi : act.contains i = true) (hcs : ∀ D k, act.contains k = false → csF (upD D k) = csF D) : ∀ D A x k, act.contains k = false → cAct w b R g L u m csF i v D A x → cAct w b R g L u m csF i v (upD D k) A x := fun D A x k hk h => by
  unfold cAct at *
  rw [upD_act hk hi, hcs D k hk]
  exact h
theorem cAct_hA (hi : act.contains i = true) (hd : dstOf ops i ≠ none) : ∀ D A A' x, (∀ k, act.contains k = true → D k = true → dstOf ops k ≠ none → A k = A' k) → cAct w b R g L u m csF i v D A x → cAct w b R g L u m csF i v D A' x := fun D A A' x hA h => by
  refine ⟨h.1, fun hD => ?_⟩
  rw [← hA i hi hD hd]
  exact h.2 hD
theorem cAct_call {o : Oper} {a : Act} {f : FuncId} {args : Array Operand} {ts : Array TypeId} {fn : Func} (hf : P.funcs[f]? = some fn) (hn : (fn.name == "runtime.NumGoroutine") = false) (hb : fn.body.isNone = false)
    (ho : o.op = .call { callee := .value (.func f), args := args, argTypes := ts }) (va : Array Value) (hva : args.map a.eval = va) {D : Nat → Bool} {A : Nat → Value} {x : World} (hcs : csF (upD D i) = csF D) (h : cAct w b R g L u m csF i v D A x)
    (hc : ∀ pv, MachB x R g { L with pv := pv } u m → Blk x b 133 (csF D) → Calls P f va x fun e w' => e = .returned v ∧ Below x.heap.size x w') : actAtW P o a x (fun v' w' => cAct w b R g L u m csF i v (upD D i) (upV A i v') w') := by
  subst hva
  have hr : (execOp a.eval o).run P x = .ok (.enter f (args.map a.eval)) x := by
    unfold execOp
    simp only [ho, resolve, Act.eval, Sem.run_bind, Deferred.ofValue]
    simp only [Sem.run_pure, Result.andThen_ok, invoke, callFunc, Sem.run_bind, program, Sem.run, hf, hn, hb]
    simp
  unfold actAtW
  rw [hr]
  obtain ⟨pv, h1, -⟩ := h.1.ex
  refine (hc pv h1 h.1.blk).mono fun e w' ⟨he, hb'⟩ => ⟨v, he, ?_, fun _ => ?_⟩
  · rw [hcs]; exact h.1.below hb'
  · unfold upV; rw [if_pos rfl]
theorem cAct_store {o : Oper} {a : Act} {T : TypeId} {p y : Operand} {c : Nat} (z : Value) (ho : o.op = .store T p y) (hp : a.eval p = .pointer (some ⟨b, c, none⟩)) (hy : a.eval y = z) (hz : z.cells = #[z]) (h1 : z.oneCell' = true) (hi : (P.info? T).map (·.size) = some 1)
    {D : Nat → Bool} {A : Nat → Value} {x : World} {j : Nat} (hc : c < (csF D).length) (hset : (csF D).set c z = csF (upD D j)) (hji : i ≠ j) (hR : ¬ R b) (h : cAct w b R g L u m csF i v D A x) :
    actAtW P o a x (fun v' w' => cAct w b R g L u m csF i v (upD D j) (upV A j v') w') := by
  have hb := h.1.blk
  have hst := run_store_one (P := P) x b c T z (by rw [hb.cell c, List.getElem?_eq_getElem hc]; rfl) (hb.frozen c) hi hz h1
  unfold actAtW execOp
  simp only [ho, hp, hy, Instr.storeAt, Instr.sureAddr, Sem.run_bind, Sem.run_pure, Result.andThen_ok, hst, actUpon]
  refine ⟨by rw [← hset]; exact h.1.setB hR c z, fun hD => ?_⟩
  unfold upV
  rw [if_neg hji]
  rw [upD_ne _ hji] at hD
  exact h.2 hD
end
theorem act_3 {m : Mach} {t : Nat} {n : Node} (hk : n.kind = 3) (d : Did) : actM m t n = m.setVar n.thing (m.val t n.a) ∧ actD m t n d = { d with thing := n.thing, word := m.val t n.a } ∧ actN m t n = n.next := by
  unfold actM actD actN
  simp [hk]
end Go.Proofs.YtffgnjgphkdodaaGreatDoor
/- The walk of the action that stores. -/
namespace Go.Proofs.YtffgnjgphkdodaaGreatDoor
open Go Go.RowKit
attribute [local go_sem] readAtW readUpon
section
variable {w w' : World} {R : Nat → Prop} {g b : Nat} {L : Lay} {u : Unit_} {m : Mach} {t i : Nat} {gr : Graph} {n : Node} {d : Did}
/-- The acting block, when some of what is told stands. -/
def csStore (g : Nat) (t : Nat) (n : Node) (d : Did) (x : Int) (D : Nat → Bool) : List Value := actCells g t n { d with thing := if D 17 then n.thing else d.thing, word := if D 21 then x else d.word }
set_option maxRecDepth 100000 in
set_option maxHeartbeats 4000000 in
theorem store_acts (h : ActH w b R g L u m t gr i n d) (hk : n.kind = 3) :
    Calls Tryz.prog 113 #[.pointer (some ⟨b, 0, none⟩)] w fun e w' => e = .returned (.int .i64 (actN m t n)) ∧ ActP w w' b R g L u (actM m t n) (actCells g t n (actD m t n d)) := by
  obtain ⟨e1, e2, e3⟩ := act_3 (m := m) (t := t) hk d
  rw [e1, e2, e3]
  obtain ⟨x, hx⟩ : ∃ x, m.val t n.a = x := ⟨_, rfl⟩
  have hth := h.nd.var (.inr (.inl hk))
  obtain ⟨j, hj⟩ := Int.eq_ofNat_of_zero_le hth.1
  have hjl : j < m.mem.length := by rw [h.ok.mem]; omega
  have hword := fun w1 pv d' (h1 : MachB w1 R g { L with pv := pv } u m) (hb : Blk w1 b 133 (actCells g t n d')) => h.word n.a (h.nd.a (.inr (.inl hk))) h1 hb
  rw [hx] at hword ⊢
  have HW := Lib.hid hword
  have HH := Lib.hid (And.intro h (And.intro hx (And.intro hj hjl)))
  have c0 : ∀ D, csStore g t n d x D = actCells g t n { d with thing := if D 17 then n.thing else d.thing, word := if D 21 then x else d.word } := fun _ => rfl
  have C0 := Lib.hid c0
  clear h hk e1 e2 e3 hx hth hj hjl hword c0
  go_enter Tryz.func113, Tryz.ntmps113
  go_wp2
  have hB : ∀ y : XC (cAct w b R g L u m (csStore g t n d x) 13 (.int .i64 x)), ∃ d', Blk y.w b 133 (actCells g t n d') := fun y => ⟨_, by have := y.2.1.1.blk; rw [C0.out] at this; exact this⟩
  have f5 : ∀ y : XC (cAct w b R g L u m (csStore g t n d x) 13 (.int .i64 x)), y.w.cell? ⟨b, 5, none⟩ = some (.int .i64 n.thing) := fun y => by obtain ⟨d', hb⟩ := hB y; exact hb.cell 5
  have HA : Hid (∀ y : XC (cAct w b R g L u m (csStore g t n d x) 13 (.int .i64 x)), ∀ j v, n.a.cells[j]? = some v → y.w.cell? ⟨b, 6 + j, none⟩ = some v) := Lib.hid fun y => by obtain ⟨d', hb⟩ := hB y; exact act_a hb
  haveI hne : Nonempty (XC (cAct w b R g L u m (csStore g t n d x) 13 (.int .i64 x))) := XC.ne (cAct_start HH.out.1.mc HH.out.1.blk rfl)
  clear hB
  refine wp_region_mix (cAct w b R g L u m (csStore g t n d x) 13 (.int .i64 x)) [13, 17, 21] [0, 1, 2, 3, 4, 5, 6, 7, 8, 9, 10, 11, 12, 13, 14, 15, 16, 17, 18, 19, 20, 21] (by kernel_rfl) (by kernel_rfl) (by kernel_rfl) (cAct_start HH.out.1.mc HH.out.1.blk rfl)
    (cAct_hq rfl (fun D k hk => by unfold csStore; rw [upD_act hk rfl, upD_act hk rfl])) (cAct_hA rfl (by decide)) (dst_small (by rfl)) ?_
  iterate 12 (refine wpMix_read rfl rfl (fun K hK => ?_); go_simp; refine hK _ ?_; clear hK K)
  refine wpMix_load (some 15) rfl rfl rfl rfl 64 _ rfl b 6 rfl n.a.cells _ HA.out Tryz.underlying64 rfl (by kernel_rfl) ?_
  refine wpMix_act (some 16) rfl rfl rfl rfl (fun D A y hD hp hpre hC => cAct_call Tryz.func162 (by kernel_rfl) (by kernel_rfl) rfl #[.pointer (some ⟨b, 0, none⟩), .agg n.a.cells.toArray] (by simp only [List.map_toArray, List.map_cons, List.map_nil]; rfl) (by unfold csStore; rw [upD_ne _ (by decide), upD_ne _ (by decide)]) hC (fun pv k1 k2 => HW.out _ pv _ k1 k2)) (fun D A y hD hpre hC => ?_)
  rw [hC.2 hD]
  clear hpre hC hD y A D
  iterate 3 (refine wpMix_read rfl rfl (fun K hK => ?_); go_simp; refine hK _ ?_; clear hK K)
  refine wpMix_act0 rfl rfl rfl rfl (fun D A y hD hp hpre hC => cAct_store (.int .i64 n.thing) rfl rfl rfl rfl rfl (by kernel_rfl) (by unfold csStore actCells; simp [Node.cells, Did.cells]) (by unfold csStore; rw [upD_same, hD, upD_ne _ (by decide)]; rfl) (by decide) HH.out.1.rb hC) (fun D A y hD hpre hC => ?_)
  clear hpre hC hD y A D
  iterate 3 (refine wpMix_read rfl rfl (fun K hK => ?_); go_simp; refine hK _ ?_; clear hK K)
  refine wpMix_act0 rfl rfl rfl rfl (fun D A y hD hp hpre hC => cAct_store (.int .i64 x) rfl rfl rfl rfl rfl (by kernel_rfl) (by unfold csStore actCells; simp [Node.cells, Did.cells]) (by unfold csStore; rw [upD_same, hD, upD_ne _ (by decide)]; rfl) (by decide) HH.out.1.rb hC) (fun D A y hD hpre hC => ?_)
  clear hpre hC hD y A D
  refine wpMix_nil (fun D A y hD hAA hC => ?_)
  have hP : ActP w y b R g L u m (actCells g t n { d with thing := n.thing, word := x }) := by
    have := hC.1
    unfold csStore at this
    rw [hD 17 (by decide), hD 21 (by decide)] at this
    exact this
  clear hAA hC hD A D f5 HA hne HW C0
  obtain ⟨pv, hM, -⟩ := id hP.ex
  obtain ⟨x0, hx0⟩ : ∃ x0, m.mem[j]? = some x0 := ⟨_, List.getElem?_eq_getElem HH.out.2.2.2⟩
  obtain ⟨mb, mc, hmv, c1, c2, c3, hown⟩ := hM.memAt hx0
  have hbk := hP.blk
  have nk : b ≠ mb := fun e => by
    obtain ⟨cur, hc⟩ := own_in hM.mem hown
    exact row_types hbk hc (by decide) e
  have b0 : y.cell? ⟨b, 0, none⟩ = some (.pointer (some ⟨g, 0, none⟩)) := hbk.cell 0
  have b5 : y.cell? ⟨b, 5, none⟩ = some (.int .i64 j) := by rw [hbk.cell 5, ← HH.out.2.2.1]; rfl
  have b19 : y.cell? ⟨b, 19, none⟩ = some (.int .i64 x) := hbk.cell 19
  have b12 : y.cell? ⟨b, 12, none⟩ = some (.int .i64 n.next) := hbk.cell 12
  have g5 : y.cell? ⟨g, 5, none⟩ = some (.slice (some ⟨mb, 0, none⟩) m.mem.length mc) := by rw [hM.cell 5, ← hmv]; rfl
  have j0 : (0 : Int) ≤ j := by omega
  have j1 : (j : Int) < m.mem.length := by have := HH.out.2.2.2; omega
  have e12 : (y.setCell ⟨mb, j, none⟩ (.int .i64 x)).cell? ⟨b, 12, none⟩ = some (.int .i64 n.next) := (World.cell?_of_block (a := ⟨b, 12, none⟩) (heap_setCell_other y ⟨mb, j, none⟩ b _ nk)).trans b12
  have HF : Hid (∀ q, ActP w ((y.setCell ⟨mb, j, none⟩ (.int .i64 x)).drewN q) b R g L u (m.setVar n.thing x) (actCells g t n { d with thing := n.thing, word := x })) := Lib.hid fun q => by
    refine (hP.setM (k := mb) (i := j) (x := .int .i64 x) (m'' := m.setVar n.thing x) (.inr (.inr (.inl hown))) (fun pv k1 => ?_) nk).drewN q
    unfold Mach.setVar
    rw [HH.out.2.2.1, Int.toNat_natCast]
    exact k1.setVar (L := { L with pv := pv }) hmv x
  clear hM hP hbk hmv hown hx0
  go_wp2
  go_still_tail 18, (by kernel_rfl)
  go_wp2
  go_ret
  exact ⟨rfl, HF.out _⟩
end
end Go.Proofs.YtffgnjgphkdodaaGreatDoor
/- The walks of the actions that take a lock and give it back. -/
namespace Go.Proofs.YtffgnjgphkdodaaGreatDoor
open Go Go.RowKit
attribute [local go_sem] readAtW readUpon
section
variable {w w' : World} {R : Nat → Prop} {g b : Nat} {L : Lay} {u : Unit_} {m : Mach} {t i : Nat} {gr : Graph} {n : Node} {d : Did}
theorem act_5 {m : Mach} {t : Nat} {n : Node} (hk : n.kind = 5) (d : Did) : actM m t n = m.setHolder n.thing t ∧ actD m t n d = { d with thing := n.thing } ∧ actN m t n = n.next := by
  unfold actM actD actN
  simp [hk]
theorem act_6 {m : Mach} {t : Nat} {n : Node} (hk : n.kind = 6) (d : Did) : actM m t n = m.setHolder n.thing (-1) ∧ actD m t n d = { d with thing := n.thing } ∧ actN m t n = n.next := by
  unfold actM actD actN
  simp [hk]
set_option maxRecDepth 100000 in
set_option maxHeartbeats 4000000 in
theorem lock_acts (h : ActH w b R g L u m t gr i n d) (hk : n.kind = 5) :
    Calls Tryz.prog 115 #[.pointer (some ⟨b, 0, none⟩)] w fun e w' => e = .returned (.int .i64 (actN m t n)) ∧ ActP w w' b R g L u (actM m t n) (actCells g t n (actD m t n d)) := by
  obtain ⟨e1, e2, e3⟩ := act_5 (m := m) (t := t) hk d
  rw [e1, e2, e3]
  have hth := h.nd.lock (.inl hk)
  obtain ⟨j, hj⟩ := Int.eq_ofNat_of_zero_le hth.1
  have hjl : j < m.holders.length := by rw [h.ok.holders]; omega
  have HH := Lib.hid (And.intro h (And.intro hj hjl))
  have b5 : w.cell? ⟨b, 5, none⟩ = some (.int .i64 n.thing) := h.blk.cell 5
  have b18 : w.cell? ⟨b, 18, none⟩ = some (.int .i64 d.thing) := h.blk.cell 18
  have f18 : w.frozen? ⟨b, 18, none⟩ = false := h.blk.frozen 18
  have HP0 : Hid (ActP w (w.setCell ⟨b, 18, none⟩ (.int .i64 n.thing)) b R g L u m (actCells g t n { d with thing := n.thing })) := Lib.hid ((ActP.start h.mc h.blk).setB h.rb 18 (.int .i64 n.thing))
  clear h hk e1 e2 e3 hth hj hjl
  go_enter Tryz.func115, Tryz.ntmps115
  go_wp2
  obtain ⟨y, hy⟩ : ∃ y, w.setCell ⟨b, 18, none⟩ (.int .i64 n.thing) = y := ⟨_, rfl⟩
  have HP := HP0; clear HP0
  rw [hy] at HP
  rw [hy]
  clear hy b5 b18 f18
  have hP := HP.out
  obtain ⟨pv, hM, -⟩ := id hP.ex
  have hbk := hP.blk
  obtain ⟨x0, hx0⟩ : ∃ x0, m.holders[j]? = some x0 := ⟨_, List.getElem?_eq_getElem HH.out.2.2⟩
  obtain ⟨mb, mc, hmv, c1, c2, c3, hown⟩ := hM.holdAt hx0
  have nk : b ≠ mb := fun e => by
    obtain ⟨cur, hc⟩ := own_in hM.hold hown
    exact row_types hbk hc (by decide) e
  have b0 : y.cell? ⟨b, 0, none⟩ = some (.pointer (some ⟨g, 0, none⟩)) := hbk.cell 0
  have b1 : y.cell? ⟨b, 1, none⟩ = some (.int .i64 t) := hbk.cell 1
  have b5 : y.cell? ⟨b, 5, none⟩ = some (.int .i64 j) := by rw [hbk.cell 5, ← HH.out.2.1]; rfl
  have b12 : y.cell? ⟨b, 12, none⟩ = some (.int .i64 n.next) := hbk.cell 12
  have g6 : y.cell? ⟨g, 6, none⟩ = some (.slice (some ⟨mb, 0, none⟩) m.holders.length mc) := by rw [hM.cell 6, ← hmv]; rfl
  have j0 : (0 : Int) ≤ j := by omega
  have j1 : (j : Int) < m.holders.length := by have := HH.out.2.2; omega
  have e12 : (y.setCell ⟨mb, j, none⟩ (.int .i64 t)).cell? ⟨b, 12, none⟩ = some (.int .i64 n.next) := (World.cell?_of_block (a := ⟨b, 12, none⟩) (heap_setCell_other y ⟨mb, j, none⟩ b _ nk)).trans b12
  have HF : Hid (∀ q, ActP w ((y.setCell ⟨mb, j, none⟩ (.int .i64 t)).drewN q) b R g L u (m.setHolder n.thing t) (actCells g t n { d with thing := n.thing })) := Lib.hid fun q => by
    refine (hP.setM (k := mb) (i := j) (x := .int .i64 t) (m'' := m.setHolder n.thing t) (.inr (.inr (.inr (.inl hown)))) (fun pv k1 => ?_) nk).drewN q
    unfold Mach.setHolder
    rw [HH.out.2.1, Int.toNat_natCast]
    exact k1.setHolder (L := { L with pv := pv }) hmv t
  clear hM hP HP hbk hmv hown hx0
  go_still_tail 17, (by kernel_rfl)
  go_wp2
  go_ret
  exact ⟨rfl, HF.out _⟩
set_option maxRecDepth 100000 in
set_option maxHeartbeats 4000000 in
theorem unlock_acts (h : ActH w b R g L u m t gr i n d) (hk : n.kind = 6) :
    Calls Tryz.prog 116 #[.pointer (some ⟨b, 0, none⟩)] w fun e w' => e = .returned (.int .i64 (actN m t n)) ∧ ActP w w' b R g L u (actM m t n) (actCells g t n (actD m t n d)) := by
  obtain ⟨e1, e2, e3⟩ := act_6 (m := m) (t := t) hk d
  rw [e1, e2, e3]
  have hth := h.nd.lock (.inr hk)
  obtain ⟨j, hj⟩ := Int.eq_ofNat_of_zero_le hth.1
  have hjl : j < m.holders.length := by rw [h.ok.holders]; omega
  have HH := Lib.hid (And.intro h (And.intro hj hjl))
  have b5 : w.cell? ⟨b, 5, none⟩ = some (.int .i64 n.thing) := h.blk.cell 5
  have b18 : w.cell? ⟨b, 18, none⟩ = some (.int .i64 d.thing) := h.blk.cell 18
  have f18 : w.frozen? ⟨b, 18, none⟩ = false := h.blk.frozen 18
  have HP0 : Hid (ActP w (w.setCell ⟨b, 18, none⟩ (.int .i64 n.thing)) b R g L u m (actCells g t n { d with thing := n.thing })) := Lib.hid ((ActP.start h.mc h.blk).setB h.rb 18 (.int .i64 n.thing))
  clear h hk e1 e2 e3 hth hj hjl
  go_enter Tryz.func116, Tryz.ntmps116
  go_wp2
  obtain ⟨y, hy⟩ : ∃ y, w.setCell ⟨b, 18, none⟩ (.int .i64 n.thing) = y := ⟨_, rfl⟩
  have HP := HP0; clear HP0
  rw [hy] at HP
  rw [hy]
  clear hy b5 b18 f18
  have hP := HP.out
  obtain ⟨pv, hM, -⟩ := id hP.ex
  have hbk := hP.blk
  obtain ⟨x0, hx0⟩ : ∃ x0, m.holders[j]? = some x0 := ⟨_, List.getElem?_eq_getElem HH.out.2.2⟩
  obtain ⟨mb, mc, hmv, c1, c2, c3, hown⟩ := hM.holdAt hx0
  have nk : b ≠ mb := fun e => by
    obtain ⟨cur, hc⟩ := own_in hM.hold hown
    exact row_types hbk hc (by decide) e
  have b0 : y.cell? ⟨b, 0, none⟩ = some (.pointer (some ⟨g, 0, none⟩)) := hbk.cell 0
  have b1 : y.cell? ⟨b, 1, none⟩ = some (.int .i64 t) := hbk.cell 1
  have b5 : y.cell? ⟨b, 5, none⟩ = some (.int .i64 j) := by rw [hbk.cell 5, ← HH.out.2.1]; rfl
  have b12 : y.cell? ⟨b, 12, none⟩ = some (.int .i64 n.next) := hbk.cell 12
  have g6 : y.cell? ⟨g, 6, none⟩ = some (.slice (some ⟨mb, 0, none⟩) m.holders.length mc) := by rw [hM.cell 6, ← hmv]; rfl
  have j0 : (0 : Int) ≤ j := by omega
  have j1 : (j : Int) < m.holders.length := by have := HH.out.2.2; omega
  have e12 : (y.setCell ⟨mb, j, none⟩ (.int .i64 (-1))).cell? ⟨b, 12, none⟩ = some (.int .i64 n.next) := (World.cell?_of_block (a := ⟨b, 12, none⟩) (heap_setCell_other y ⟨mb, j, none⟩ b _ nk)).trans b12
  have HF : Hid (∀ q, ActP w ((y.setCell ⟨mb, j, none⟩ (.int .i64 (-1))).drewN q) b R g L u (m.setHolder n.thing (-1)) (actCells g t n { d with thing := n.thing })) := Lib.hid fun q => by
    refine (hP.setM (k := mb) (i := j) (x := .int .i64 (-1)) (m'' := m.setHolder n.thing (-1)) (.inr (.inr (.inr (.inl hown)))) (fun pv k1 => ?_) nk).drewN q
    unfold Mach.setHolder
    rw [HH.out.2.1, Int.toNat_natCast]
    exact k1.setHolder (L := { L with pv := pv }) hmv (-1)
  clear hM hP HP hbk hmv hown hx0
  go_still_tail 13, (by kernel_rfl)
  go_wp2
  go_ret
  exact ⟨rfl, HF.out _⟩
end
end Go.Proofs.YtffgnjgphkdodaaGreatDoor
