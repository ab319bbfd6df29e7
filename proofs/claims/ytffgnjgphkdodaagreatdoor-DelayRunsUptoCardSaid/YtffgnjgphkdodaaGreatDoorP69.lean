import Derived.Test.YtffgnjgphkdodaaGreatDoorP68
import Derived.Test.YtffgnjgphkdodaaGreatDoorP66
import Derived.Test.YtffgnjgphkdodaaGreatDoorP67
import Derived.Test.YtffgnjgphkdodaaGreatDoorP08
/- The table of the actions; what a step leaves. -/
namespace Go.Proofs.YtffgnjgphkdodaaGreatDoor
open Go Go.RowKit
def actsL : List Value := [.nilFunc, .func (.func 111) #[] #[], .func (.func 112) #[] #[], .func (.func 113) #[] #[], .func (.func 114) #[] #[], .func (.func 115) #[] #[], .func (.func 116) #[] #[], .func (.func 117) #[] #[], .func (.func 118) #[] #[], .nilFunc]
theorem actions_calls (w : World) : Calls Tryz.prog 73 #[] w fun e w' => e = .returned (.agg actsL.toArray) ∧ Below w.heap.size w w' := by
  go_enter Tryz.func73, Tryz.ntmps73
  go_wp2_with (first | (refine (stop_store 135 rfl ?_)))
  refine Stop.intro ?_
  refine wpList_store_rowTo rfl 135 _ _ rfl rfl w.heap.size actsL.toArray rfl rfl 135 _ (heap_alloc_new w _) (by kernel_rfl) rfl (by kernel_rfl) ?_
  rw [World.setRow_alloc_new]
  have hcell : ∀ j v, actsL[j]? = some v → (w.alloc (.cells actsL.toArray 135)).cell? ⟨w.heap.size, 0 + j, none⟩ = some v := cell_newl w actsL _ _ rfl
  have hload : (loadVar 135 ⟨w.heap.size, 0, none⟩).run Tryz.prog (w.alloc (.cells actsL.toArray 135)) = .ok (.agg actsL.toArray) (w.alloc (.cells actsL.toArray 135)) := run_loadVar_at _ _ _ _ actsL _ hcell Tryz.underlying135 rfl (by kernel_rfl)
  clear hcell
  go_wp2
  refine bodyPost_ret (v := .agg actsL.toArray) (by simp [results, Tryz.results73, asAddr, hload]) rfl ⟨rfl, Below_alloc' _ _⟩
/-- A call of a function value. -/
theorem act_callV {P : Program} {o : Oper} {a : Act} {x : World} {f : FuncId} {q : Operand} {args : Array Operand} {ts : Array TypeId} {fn : Func} {N : Value → World → Prop} (hf : P.funcs[f]? = some fn) (hn : (fn.name == "runtime.NumGoroutine") = false) (hb : fn.body.isNone = false)
    (ho : o.op = .call { callee := .value q, args := args, argTypes := ts }) (hq : a.eval q = .func (.func f) #[] #[]) (va : Array Value) (hva : args.map a.eval = va)
    (hc : Calls P f va x fun e w' => ∃ v, e = .returned v ∧ N v w') : actAtW P o a x N := by
  subst hva
  have hr : (execOp a.eval o).run P x = .ok (.enter f (args.map a.eval)) x := by
    unfold execOp
    simp only [ho, resolve, hq, Sem.run_bind, Deferred.ofValue]
    simp only [Sem.run_pure, Result.andThen_ok, invoke, callFunc, Sem.run_bind, program, Sem.run, hf, hn, hb]
    simp
  unfold actAtW
  rw [hr]
  exact hc
/-- What becomes of a machine by a call. -/
structure MadeP (w w' : World) (R : Nat → Prop) (g : Nat) (L : Lay) (u : Unit_) (m' : Mach) : Prop where
  ex : ∃ pv, MachB w' R g { L with pv := pv } u m' ∧ ∀ q, ({ L with pv := pv } : Lay).mut g q → L.mut g q ∨ w.heap.size ≤ q
  fr : FrW (fun q => L.mut g q) w w'
section
variable {w w' w1 y : World} {R : Nat → Prop} {g b : Nat} {L : Lay} {u : Unit_} {m m' m1 m2 : Mach}
theorem MadeP.refl (h : MachB w R g L u m) : MadeP w w R g L u m := ⟨⟨L.pv, h, fun _ hq => .inl hq⟩, FrW.refl _ _⟩
theorem MadeP.below (h : MadeP w w' R g L u m) (hb : Below w'.heap.size w' w1) : MadeP w w1 R g L u m := by
  obtain ⟨pv, h1, h2⟩ := h.ex
  exact ⟨⟨pv, h1.below hb, h2⟩, h.fr.trans (FrW.of_below _ hb)⟩
theorem MadeP.of_below (h : MachB w R g L u m) (hb : Below w.heap.size w w') : MadeP w w' R g L u m := (MadeP.refl h).below hb
theorem MadeP.andThen {pv : Value} (h : MadeP w y R g L u m1) (hm : ∀ q, ({ L with pv := pv } : Lay).mut g q → L.mut g q ∨ w.heap.size ≤ q) (k : MadeP y w' R g { L with pv := pv } u m2) : MadeP w w' R g L u m2 := by
  obtain ⟨pv', k1, k2⟩ := k.ex
  refine ⟨⟨pv', k1, fun q hq => ?_⟩, h.fr.andThen k.fr fun q hq e => ?_⟩
  · rcases k2 q hq with e | e
    · exact hm q e
    · exact .inr (Nat.le_trans h.fr.size e)
  · rcases hm q e with e2 | e2
    · exact e2
    · omega
theorem ActP.made {cs : List Value} (hB : Below w.heap.size w y) (h : ActP y w' b R g L u m' cs) (hb : w.heap.size ≤ b) : MadeP w w' R g L u m' := by
  obtain ⟨pv, h1, h2⟩ := h.ex
  refine ⟨⟨pv, h1, fun q hq => ?_⟩, (FrW.of_below (fun q => L.mut g q) hB).andThen h.fr fun q hq e => ?_⟩
  · rcases h2 q hq with e | e
    · exact .inl e
    · exact .inr (Nat.le_trans hB.size e)
  · rcases e with e | e
    · omega
    · exact e
end
end Go.Proofs.YtffgnjgphkdodaaGreatDoor
/- The walk of a step. -/
namespace Go.Proofs.YtffgnjgphkdodaaGreatDoor
open Go Go.RowKit
attribute [local go_sem] readAtW readUpon
/-- What a step's drawn region leaves, whichever operations have come up. -/
structure StC (y : World) (R : Nat → Prop) (g b : Nat) (L : Lay) (u : Unit_) (m m1 m2 : Mach) (cs cs1 : List Value) (v : Value) (D : Nat → Bool) (A : Nat → Value) (x : World) : Prop where
  o15 : D 15 = true → D 13 = true
  r5 : D 5 = true → A 5 = .agg actsL.toArray
  r13 : D 13 = true → A 13 = v
  a0 : D 13 = false → ActP y x b R g L u m cs
  a1 : D 13 = true → D 15 = false → ActP y x b R g L u m1 cs1
  a2 : D 15 = true → ActP y x b R g L u m2 cs1
section
variable {y : World} {R : Nat → Prop} {g b : Nat} {L : Lay} {u : Unit_} {m m1 m2 : Mach} {cs cs1 : List Value} {v : Value} {ops : Array Oper}
def cSt (y : World) (R : Nat → Prop) (g b : Nat) (L : Lay) (u : Unit_) (m m1 m2 : Mach) (cs cs1 : List Value) (v : Value) : WCls := fun D A x => StC y R g b L u m m1 m2 cs cs1 v D A x
theorem cSt_start (h : MachB y R g L u m) (hb : Blk y b 133 cs) (A : Nat → Value) : cSt y R g b L u m m1 m2 cs cs1 v (fun _ => false) A y.drew :=
  ⟨fun h => (by cases h), fun h => (by cases h), fun h => (by cases h), fun _ => (ActP.start h hb).drewN 1, fun h => (by cases h), fun h => (by cases h)⟩
theorem cSt_hq : ∀ D A x k, [5, 13, 15].contains k = false → cSt y R g b L u m m1 m2 cs cs1 v D A x → cSt y R g b L u m m1 m2 cs cs1 v (upD D k) A x := fun D A x k hk h => by
  have e5 : upD D k 5 = D 5 := upD_act hk rfl
  have e13 : upD D k 13 = D 13 := upD_act hk rfl
  have e15 : upD D k 15 = D 15 := upD_act hk rfl
  have h' : StC y R g b L u m m1 m2 cs cs1 v D A x := h
  show StC y R g b L u m m1 m2 cs cs1 v (upD D k) A x
  refine ⟨?_, ?_, ?_, ?_, ?_, ?_⟩
  · rw [e15, e13]; exact h'.o15
  · rw [e5]; exact h'.r5
  · rw [e13]; exact h'.r13
  · rw [e13]; exact h'.a0
  · rw [e13, e15]; exact h'.a1
  · rw [e15]; exact h'.a2
theorem cSt_hA (d1 : dstOf ops 5 ≠ none) (d2 : dstOf ops 13 ≠ none) : ∀ D A A' x, (∀ k, [5, 13, 15].contains k = true → D k = true → dstOf ops k ≠ none → A k = A' k) → cSt y R g b L u m m1 m2 cs cs1 v D A x → cSt y R g b L u m m1 m2 cs cs1 v D A' x := fun D A A' x hA h => by
  have h' : StC y R g b L u m m1 m2 cs cs1 v D A x := h
  exact ⟨h'.o15, fun hD => by rw [← hA 5 rfl hD d1]; exact h'.r5 hD, fun hD => by rw [← hA 13 rfl hD d2]; exact h'.r13 hD, h'.a0, h'.a1, h'.a2⟩
/-- In every such world: the machine's header, the acting block's first cells. -/
theorem StC.any {D : Nat → Bool} {A : Nat → Value} {x : World} (h : StC y R g b L u m m1 m2 cs cs1 v D A x) : ∃ mm cc, (cc = cs ∨ cc = cs1) ∧ ActP y x b R g L u mm cc := by
  cases h13 : D 13 with
  | false => exact ⟨_, _, .inl rfl, h.a0 h13⟩
  | true =>
    cases h15 : D 15 with
    | false => exact ⟨_, _, .inr rfl, h.a1 h13 h15⟩
    | true => exact ⟨_, _, .inr rfl, h.a2 h15⟩
theorem cSt_acts {o : Oper} {a : Act} {f : FuncId} {args : Array Operand} {ts : Array TypeId} {fn : Func} {P : Program} (hf : P.funcs[f]? = some fn) (hn : (fn.name == "runtime.NumGoroutine") = false) (hb : fn.body.isNone = false)
    (ho : o.op = .call { callee := .value (.func f), args := args, argTypes := ts }) (va : Array Value) (hva : args.map a.eval = va) (hc : ∀ x, Calls P f va x fun e w' => e = .returned (.agg actsL.toArray) ∧ Below x.heap.size x w')
    {D : Nat → Bool} {A : Nat → Value} {x : World} (h : cSt y R g b L u m m1 m2 cs cs1 v D A x) : actAtW P o a x (fun v' w' => cSt y R g b L u m m1 m2 cs cs1 v (upD D 5) (upV A 5 v') w') := by
  have h' : StC y R g b L u m m1 m2 cs cs1 v D A x := h
  refine act_callV (q := .func f) hf hn hb ho (by simp [Act.eval]) va hva ?_
  refine (hc x).mono fun e w' ⟨he, hb'⟩ => ⟨_, he, ?_⟩
  show StC y R g b L u m m1 m2 cs cs1 v (upD D 5) (upV A 5 _) w'
  refine ⟨?_, fun _ => by simp [upV], ?_, ?_, ?_, ?_⟩
  · rw [upD_ne _ (by decide), upD_ne _ (by decide)]; exact h'.o15
  · rw [upD_ne _ (by decide)]; intro hD; simp only [upV, if_neg (show ¬ (13 = 5) by decide)]; exact h'.r13 hD
  · rw [upD_ne _ (by decide)]; exact fun hD => (h'.a0 hD).below hb'
  · rw [upD_ne _ (by decide), upD_ne _ (by decide)]; exact fun hD hD2 => (h'.a1 hD hD2).below hb'
  · rw [upD_ne _ (by decide)]; exact fun hD => (h'.a2 hD).below hb'
theorem cSt_act {o : Oper} {a : Act} {f : FuncId} {q : Operand} {args : Array Operand} {ts : Array TypeId} {fn : Func} {P : Program} (hf : P.funcs[f]? = some fn) (hn : (fn.name == "runtime.NumGoroutine") = false) (hb : fn.body.isNone = false)
    (ho : o.op = .call { callee := .value q, args := args, argTypes := ts }) (hq : a.eval q = .func (.func f) #[] #[]) (va : Array Value) (hva : args.map a.eval = va)
    {D : Nat → Bool} {A : Nat → Value} {x : World} (hD : D 13 = false) (h : cSt y R g b L u m m1 m2 cs cs1 v D A x) (hc : ActP y x b R g L u m cs → Calls P f va x fun e w' => e = .returned v ∧ ActP y w' b R g L u m1 cs1) :
    actAtW P o a x (fun v' w' => cSt y R g b L u m m1 m2 cs cs1 v (upD D 13) (upV A 13 v') w') := by
  have h' : StC y R g b L u m m1 m2 cs cs1 v D A x := h
  have h15 : D 15 = false := by
    cases hq : D 15 with
    | false => rfl
    | true => rw [h'.o15 hq] at hD; cases hD
  refine act_callV hf hn hb ho hq va hva ?_
  refine (hc (h'.a0 hD)).mono fun e w' ⟨he, hb'⟩ => ⟨_, he, ?_⟩
  show StC y R g b L u m m1 m2 cs cs1 v (upD D 13) (upV A 13 _) w'
  refine ⟨fun _ => upD_same _ _, ?_, fun _ => by simp [upV], fun h => (by rw [upD_same] at h; cases h), fun _ _ => hb', ?_⟩
  · rw [upD_ne _ (by decide)]; intro hD; simp only [upV, if_neg (show ¬ (5 = 13) by decide)]; exact h'.r5 hD
  · rw [upD_ne _ (by decide), h15]; exact fun h => (by cases h)
theorem cSt_store {o : Oper} {a : Act} {T : TypeId} {p e : Operand} {k j : Nat} {z : Value} {P : Program} (ho : o.op = .store T p e) (hp : a.eval p = .pointer (some ⟨k, j, none⟩)) (he : a.eval e = z) (hz : z.cells = #[z]) (h1 : z.oneCell' = true) (hi : (P.info? T).map (·.size) = some 1)
    {D : Nat → Bool} {A : Nat → Value} {x : World} (hD : D 15 = false) (hD1 : D 13 = true) (h : cSt y R g b L u m m1 m2 cs cs1 v D A x) (hx : ActP y x b R g L u m1 cs1 → (x.cell? ⟨k, j, none⟩).isSome = true ∧ x.frozen? ⟨k, j, none⟩ = false ∧ ActP y (x.setCell ⟨k, j, none⟩ z) b R g L u m2 cs1) :
    actAtW P o a x (fun v' w' => cSt y R g b L u m m1 m2 cs cs1 v (upD D 15) (upV A 15 v') w') := by
  have h' : StC y R g b L u m m1 m2 cs cs1 v D A x := h
  obtain ⟨k1, k2, k3⟩ := hx (h'.a1 hD1 hD)
  have hst := run_store_one (P := P) x k j T z k1 k2 hi hz h1
  unfold actAtW execOp
  simp only [ho, hp, he, Instr.storeAt, Instr.sureAddr, Sem.run_bind, Sem.run_pure, Result.andThen_ok, hst, actUpon]
  show StC y R g b L u m m1 m2 cs cs1 v (upD D 15) (upV A 15 _) _
  refine ⟨fun _ => by rw [upD_ne _ (by decide)]; exact hD1, ?_, fun _ => ?_, fun h => (by rw [upD_ne _ (by decide), hD1] at h; cases h), fun _ h => (by rw [upD_same] at h; cases h), fun _ => k3⟩
  · rw [upD_ne _ (by decide)]; intro hD; simp only [upV, if_neg (show ¬ (5 = 15) by decide)]; exact h'.r5 hD
  · simp only [upV, if_neg (show ¬ (13 = 15) by decide)]; exact h'.r13 hD1
end
theorem FrW.setRow {S : Nat → Prop} (w : World) {r : Nat} (hr : S r) (cs : Array Value) : FrW S w (w.setRow r cs) := ⟨rfl, rfl, rfl, by simp [World.setRow], fun k _ hn => heap_setRow_ne (fun e => hn (by rw [e]; exact hr)) cs⟩
theorem MadeP.setRow {w z : World} {R : Nat → Prop} {g r : Nat} {L : Lay} {u : Unit_} {m : Mach} {T : TypeId} {cs : List Value} {cs' : Array Value} (h : MadeP w z R g L u m) (hb : Blk z r T cs) (h1 : T ≠ 115) (h2 : T ≠ 3) (h3 : T ≠ 2) (h4 : T ≠ 232) (hr : w.heap.size ≤ r) (hR : ¬ R r) : MadeP w (z.setRow r cs') R g L u m := by
  obtain ⟨pv, k1, k2⟩ := h.ex
  refine ⟨⟨pv, k1.fr (FrW.setRow (S := fun q => q = r) z rfl cs') (fun q hq e => ?_) (fun q hq e => hR (e ▸ hq)), k2⟩, h.fr.andThen (FrW.setRow (S := fun q => q = r) z rfl cs') fun q hq e => by omega⟩
  subst e
  exact k1.notmut hb h1 h2 h3 h4 hq
section
variable {w w' : World} {R : Nat → Prop} {g : Nat} {L : Lay} {u : Unit_} {m : Mach} {t i : Nat} {gr : Graph} {n : Node}
set_option maxRecDepth 100000 in
set_option maxHeartbeats 4000000 in
/-- A step of a thread that can. -/
theorem step_go (h : MachB w R g L u m) (hok : MachOk u m) (hu : RightU u) (hs : Stands u m t gr i n) (hb0 : barN m n = 0) (fn : Func) (F : Nat) (hf : Tryz.prog.funcs[F]? = some fn) (hn : (fn.name == "runtime.NumGoroutine") = false) (hbo : fn.body.isNone = false)
    (hix : ∀ w, (Instr.index 135 (.agg actsL.toArray) (.int .u8 n.kind)).run Tryz.prog w = .ok (.func (.func F) #[] #[]) w)
    (hact : ∀ (w1 : World) (b : Nat) (pv : Value), MachB w1 R g { L with pv := pv } u m → Blk w1 b 133 (actCells g t n ⟨t, i, n.kind, 0, 0, 0⟩) → ¬ R b → (∀ q, R q → q < w1.heap.size) → 
      Calls Tryz.prog F #[.pointer (some ⟨b, 0, none⟩)] w1 fun e w' => e = .returned (.int .i64 (actN m t n)) ∧ ActP w1 w' b R g { L with pv := pv } u (actM m t n) (actCells g t n (actD m t n ⟨t, i, n.kind, 0, 0, 0⟩)))
    (hRl : ∀ q, R q → q < w.heap.size) :
    Calls Tryz.prog 34 #[.pointer (some ⟨g, 0, none⟩), .int .i64 t] w fun e w' => e = .returned (.tuple #[.agg (actD m t n ⟨t, i, n.kind, 0, 0, 0⟩).cells.toArray, .int .i64 0]) ∧
      MadeP w w' R g L u { actM m t n with at_ := m.at_.set t (actN m t n).toNat } := by
  have hfol := (hu.graphs gr (List.mem_of_getElem? hs.gr)).whole.fol n (List.mem_of_getElem? hs.nd) _ (actN_fol (m := m) (t := t) (n := n) (fun e => by unfold barN at hb0; rw [if_pos e] at hb0; cases hb0))
  obtain ⟨kx, hkx⟩ := Int.eq_ofNat_of_zero_le hfol.1
  rw [hkx] at hact ⊢
  rw [Int.toNat_natCast]
  obtain ⟨d1, hd1⟩ : ∃ d1, actD m t n ⟨t, i, n.kind, 0, 0, 0⟩ = d1 := ⟨_, rfl⟩
  rw [hd1] at hact ⊢
  clear hd1 hkx hfol
  have hbar := fun w1 (h1 : MachB w1 R g L u m) => bar_calls (t : Int) h1 hok hu
  rw [hs.bar hok, hb0] at hbar
  have hin := hok.node t gr i hs.gr hs.pc
  obtain ⟨ab, ac, hav, a1, a2, a3, hao⟩ := h.atAt hs.pc
  obtain ⟨gb, go, gc, nb, no, nc, hgv, c3, hnc, l1, l2⟩ := h.nodeAt hs
  have g2 : w.cell? ⟨g, 2, none⟩ = some (.slice (some ⟨gb, go, none⟩) u.graphs.length gc) := by rw [h.cell 2, ← hgv]; rfl
  have g3 : w.cell? ⟨g, 3, none⟩ = some (.slice (some ⟨ab, 0, none⟩) m.at_.length ac) := by rw [h.cell 3, ← hav]; rfl
  have hgl := h.blk.lt
  have hkl := (List.getElem?_eq_some_iff.1 hs.gr).1
  have i0 : (0 : Int) ≤ t := by omega
  have i1 : (t : Int) < m.at_.length := by rw [hok.at_]; omega
  have i2 : (t : Int) < u.graphs.length := by omega
  have j0 : (0 : Int) ≤ i := by omega
  have j1 : (i : Int) < gr.nodes.length := by omega
  have HB := Lib.hid hbar
  have HM := Lib.hid (And.intro h (And.intro hok (And.intro hs (And.intro hao (And.intro hav hRl)))))
  have HL := Lib.hid hnc
  have HI := Lib.hid hix
  have HA := Lib.hid hact
  have HFN := Lib.hid (And.intro hf (And.intro hn hbo))
  clear h hok hu hs hb0 hf hn hbo hix hact hRl hbar hin hnc hav hgv hkl hao
  go_enter Tryz.func34, Tryz.ntmps34
  go_wp2_with fail
  refine (HB.out _ (HM.out.1.below (Below_alloc' _ _))).mono ?_
  rintro e w1 ⟨rfl, hb1⟩
  have hbw : Below w.heap.size w w1 := (Below_alloc' w _).trans (hb1.mono (by simp))
  have hr0 : Blk w1 w.heap.size 74 [.int .i64 0, .int .i64 0, .int .u8 0, .int .i64 0, .int .i64 0, .int .i64 0] := (Blk.new w _ _).below hb1 (by simp)
  have g2' := (hbw.cell (p := ⟨g, 2, none⟩) hgl).trans g2
  have g3' := (hbw.cell (p := ⟨g, 3, none⟩) hgl).trans g3
  have a1' := (hbw.cell (p := ⟨ab, t, none⟩) a3).trans a1
  have c3' := (hbw.cell (p := ⟨gb, go + t * 4 + 3, none⟩) l1).trans c3
  have HN : Hid (∀ j v, ([.int .u8 n.kind, .int .u8 n.op, .int .i64 n.slot, .int .i64 n.thing, .bool n.a.isSlot, .int .i64 n.a.slot, .int .i64 n.a.word, .bool n.b.isSlot, .int .i64 n.b.slot, .int .i64 n.b.word, .int .i64 n.next, .int .i64 n.els, .int .i64 n.origin] : List Value)[j]? = some v → w1.cell? ⟨nb, no + i * 13 + j, none⟩ = some v) := Lib.hid fun j v hv => (hbw.cell (p := ⟨nb, _, none⟩) l2).trans (HL.out j v hv)
  have HW := Lib.hid (And.intro hbw hr0)
  clear hbw hr0 hb1 g2 g3 a1 c3 HL
  go_wp2_with (first
    | (refine wpList_load_at rfl 66 _ rfl nb (no + i * 13) rfl _ _ HN.out Tryz.underlying66 rfl (by kernel_rfl) ?_)
    | (refine (stop_store 74 rfl ?_)))
  refine Stop.intro ?_
  have hb0 := Blk.new w1 133 (actCells g t n ⟨0, 0, 0, 0, 0, 0⟩)
  have HB0 := Lib.hid hb0; clear hb0
  refine wpList_store_mid rfl 74 _ _ rfl w1.heap.size 15 #[.int .i64 t, .int .i64 i, .int .u8 n.kind, .int .i64 0, .int .i64 0, .int .i64 0] rfl rfl (fun j hj => ⟨by
    refine (congrArg Option.isSome (HB0.out.cell (15 + j))).trans ?_
    rw [List.getElem?_eq_getElem (by have : j < 6 := hj; simp [actCells, Node.cells, Did.cells]; omega)]; rfl, HB0.out.frozen (15 + j)⟩) (by kernel_rfl) (by simp [Value.oneCell']) ?_
  have hyB : Blk ((w1.alloc (.cells (actCells g t n ⟨0, 0, 0, 0, 0, 0⟩).toArray 133)).setCells w1.heap.size 15 [.int .i64 t, .int .i64 i, .int .u8 n.kind, .int .i64 0, .int .i64 0, .int .i64 0]) w1.heap.size 133 (actCells g t n ⟨t, i, n.kind, 0, 0, 0⟩) := by
    simp only [World.setCells]
    exact (((((HB0.out.set_ 15 _).set_ 16 _).set_ 17 _).set_ 18 _).set_ 19 _).set_ 20 _
  have hyW : Below w1.heap.size w1 ((w1.alloc (.cells (actCells g t n ⟨0, 0, 0, 0, 0, 0⟩).toArray 133)).setCells w1.heap.size 15 [.int .i64 t, .int .i64 i, .int .u8 n.kind, .int .i64 0, .int .i64 0, .int .i64 0]) := by
    simp only [World.setCells]
    exact ((((((Below_alloc' w1 _).setCell (by simp) _).setCell (by simp) _).setCell (by simp) _).setCell (by simp) _).setCell (by simp) _).setCell (by simp) _
  obtain ⟨y, hy⟩ : ∃ y, (w1.alloc (.cells (actCells g t n ⟨0, 0, 0, 0, 0, 0⟩).toArray 133)).setCells w1.heap.size 15 [.int .i64 t, .int .i64 i, .int .u8 n.kind, .int .i64 0, .int .i64 0, .int .i64 0] = y := ⟨_, rfl⟩
  change wpList _ _ _ _ _ ((w1.alloc (.cells (actCells g t n ⟨0, 0, 0, 0, 0, 0⟩).toArray 133)).setCells w1.heap.size 15 [.int .i64 t, .int .i64 i, .int .u8 n.kind, .int .i64 0, .int .i64 0, .int .i64 0])
  rw [hy] at hyB hyW ⊢
  clear hy HB0 HN g2' c3' a1' g3' HB
  obtain ⟨b, hbb⟩ : ∃ b, w1.heap.size = b := ⟨_, rfl⟩
  have hyr := HW.out.2.below hyW HW.out.2.lt
  have hy0 := HW.out.1.trans (hyW.mono HW.out.1.size)
  have hyM := HM.out.1.below hy0
  have hbge : w.heap.size ≤ b := by rw [← hbb]; exact HW.out.1.size
  rw [hbb] at hyB ⊢
  have hnR : ¬ R b := fun e => by have := HM.out.2.2.2.2.2 b e; omega
  have hRy : ∀ q, R q → q < y.heap.size := fun q hq => Nat.lt_of_lt_of_le (HM.out.2.2.2.2.2 q hq) hy0.size
  have HY := Lib.hid (And.intro hyB (And.intro hyM (And.intro hyr (And.intro hy0 (And.intro hbge (And.intro hnR hRy))))))
  clear hyB hyW hyr hy0 hyM hbge hnR hRy hbb HW
  go_wp2
  have hfs : ∀ z : XC (cSt y R g b L u m (actM m t n) { actM m t n with at_ := m.at_.set t kx } (actCells g t n ⟨t, i, n.kind, 0, 0, 0⟩) (actCells g t n d1) (.int .i64 kx)), z.w.cell? ⟨g, 3, none⟩ = some (.slice (some ⟨ab, 0, none⟩) m.at_.length ac) ∧ z.w.cell? ⟨b, 2, none⟩ = some (.int .u8 n.kind) := fun z => by
    obtain ⟨mm, cc, hcc, hP⟩ := StC.any z.2.1
    obtain ⟨pv, hM, -⟩ := id hP.ex
    refine ⟨(hM.cell 3).trans (by rw [← HM.out.2.2.2.2.1]; rfl), (hP.blk.cell 2).trans ?_⟩
    rcases hcc with rfl | rfl <;> rfl
  have f3 := fun z => (hfs z).1
  have f2 := fun z => (hfs z).2
  clear hfs
  have hix := HI.out
  haveI hne : Nonempty (XC (cSt y R g b L u m (actM m t n) { actM m t n with at_ := m.at_.set t kx } (actCells g t n ⟨t, i, n.kind, 0, 0, 0⟩) (actCells g t n d1) (.int .i64 kx))) := XC.ne (cSt_start HY.out.2.1 HY.out.1)
  refine wp_region_mix (cSt y R g b L u m (actM m t n) { actM m t n with at_ := m.at_.set t kx } (actCells g t n ⟨t, i, n.kind, 0, 0, 0⟩) (actCells g t n d1) (.int .i64 kx)) [5, 13, 15] [0, 1, 2, 3, 4, 6, 7, 8, 9, 10, 12, 5, 11, 13, 14, 15] (by kernel_rfl) (by kernel_rfl) (by kernel_rfl) (cSt_start HY.out.2.1 HY.out.1) cSt_hq (cSt_hA (by decide) (by decide)) (dst_small (by rfl)) ?_
  iterate 11 (refine wpMix_read rfl rfl (fun K hK => ?_); go_simp; refine hK _ ?_; clear hK K)
  refine wpMix_act (some 55) rfl rfl rfl rfl (fun D A z hD hp hpre hC => cSt_acts Tryz.func73 (by kernel_rfl) (by kernel_rfl) rfl #[] (by simp only [List.map_toArray, List.map_nil]) actions_calls hC) (fun D A z hD hpre hC => ?_)
  rw [StC.r5 hC hD]
  clear hpre hC hD z A D
  refine wpMix_read rfl rfl (fun K hK => ?_); go_simp; refine hK _ ?_; clear hK K
  refine wpMix_act (some 63) rfl rfl rfl rfl (fun D A z hD hp hpre hC => cSt_act HFN.out.1 HFN.out.2.1 HFN.out.2.2 rfl rfl #[.pointer (some ⟨b, 0, none⟩)] (by simp only [List.map_toArray, List.map_cons, List.map_nil]; rfl) hD hC (fun hP => by
    obtain ⟨pv, hM, hmu⟩ := id hP.ex
    exact (HA.out z b pv hM hP.blk HY.out.2.2.2.2.2.1 (fun q hq => Nat.lt_of_lt_of_le (HY.out.2.2.2.2.2.2 q hq) hP.fr.size)).mono fun e w' ⟨k1, k2⟩ => ⟨k1, hP.andThen hmu k2⟩)) (fun D A z hD hpre hC => ?_)
  rw [StC.r13 hC hD]
  clear hpre hC hD z A D
  refine wpMix_read rfl rfl (fun K hK => ?_); go_simp; refine hK _ ?_; clear hK K
  refine wpMix_act0 rfl rfl rfl rfl (fun D A z hD hp hpre hC => cSt_store (k := ab) (j := t) (z := .int .i64 kx) rfl rfl rfl rfl rfl (by kernel_rfl) hD (hpre 13 (by simp)).1 hC (fun hP => by
    obtain ⟨pv, hM, hmu⟩ := id hP.ex
    have hat : (actM m t n).at_ = m.at_ := (actM_sizes HM.out.2.1 t n).1
    obtain ⟨ab2, ac2, q1, q2, q3, q4, q5⟩ := hM.atAt (t := t) (i := i) (by rw [hat]; exact HM.out.2.2.1.pc)
    obtain rfl : ab = ab2 := by
      have q6 : L.av.ownBlock = some ab2 := q5
      rw [HM.out.2.2.2.1] at q6; injection q6
    refine ⟨by rw [q2]; rfl, q3, hP.setM (k := ab) (i := t) (.inr (.inl HM.out.2.2.2.1)) (fun pv2 k1 => ?_) (fun e => ?_)⟩
    · have := k1.setAt (L := { L with pv := pv2 }) q1 (j := t) kx
      rwa [hat] at this
    · subst e
      exact own_ne hM.at_ hP.blk (by decide) q5)) (fun D A z hD hpre hC => ?_)
  clear hpre hC hD z A D
  refine wpMix_nil (fun D A z hD hAA hC => ?_)
  have hP : ActP y z b R g L u { actM m t n with at_ := m.at_.set t kx } (actCells g t n d1) := StC.a2 hC (hD 15 (by decide))
  clear hAA hC hD D A f3 f2 hne hix
  have hr0 := HY.out.2.2.1.fr hP.fr (fun e => by
    rcases e with e | e
    · exact row_types HY.out.2.2.1 HY.out.1 (by decide) e
    · exact HY.out.2.1.notmut HY.out.2.2.1 (by decide) (by decide) (by decide) (by decide) e)
  have HLD : Hid (∀ j v, ([.int .i64 d1.thread, .int .i64 d1.node, .int .u8 d1.kind, .int .i64 d1.thing, .int .i64 d1.word, .int .i64 d1.put] : List Value)[j]? = some v → z.cell? ⟨b, 15 + j, none⟩ = some v) := Lib.hid fun j v hj => by
    have hj6 : j < 6 := (List.getElem?_eq_some_iff.1 hj).1
    rw [hP.blk.cell]
    match j, hj6, hj with
    | 0, _, hj => exact hj
    | 1, _, hj => exact hj
    | 2, _, hj => exact hj
    | 3, _, hj => exact hj
    | 4, _, hj => exact hj
    | 5, _, hj => exact hj
  have HF := Lib.hid (And.intro (hP.made HY.out.2.2.2.1 HY.out.2.2.2.2.1) hr0)
  clear hP hr0
  go_wp2_with (first
    | (refine wpList_load_at rfl 74 _ rfl b 15 rfl _ _ HLD.out Tryz.underlying74 rfl (by kernel_rfl) ?_)
    | (refine (stop_store 74 rfl ?_)))
  refine Stop.intro ?_
  refine wpList_store_rowTo rfl 74 _ _ rfl rfl w.heap.size #[.int .i64 d1.thread, .int .i64 d1.node, .int .u8 d1.kind, .int .i64 d1.thing, .int .i64 d1.word, .int .i64 d1.put] rfl rfl 74 _ HF.out.2 (by kernel_rfl) rfl (by simp [Value.oneCell']) ?_
  have hrB := HF.out.2.setRow (cs' := [.int .i64 d1.thread, .int .i64 d1.node, .int .u8 d1.kind, .int .i64 d1.thing, .int .i64 d1.word, .int .i64 d1.put])
  have hload := run_loadVar_at (P := Tryz.prog) (z.setRow w.heap.size #[.int .i64 d1.thread, .int .i64 d1.node, .int .u8 d1.kind, .int .i64 d1.thing, .int .i64 d1.word, .int .i64 d1.put]) w.heap.size 0 74 [.int .i64 d1.thread, .int .i64 d1.node, .int .u8 d1.kind, .int .i64 d1.thing, .int .i64 d1.word, .int .i64 d1.put] _ (fun j v hv => by rw [Nat.zero_add, hrB.cell]; exact hv) Tryz.underlying74 rfl (by kernel_rfl)
  have HZ := Lib.hid hrB; clear hrB
  go_wp2
  refine bodyPost_ret (v := .tuple #[.agg #[.int .i64 d1.thread, .int .i64 d1.node, .int .u8 d1.kind, .int .i64 d1.thing, .int .i64 d1.word, .int .i64 d1.put], .int .i64 0]) (by simp [results, Tryz.results34, asAddr, hload]) rfl ⟨rfl, ?_⟩
  exact HF.out.1.setRow HF.out.2 (by decide) (by decide) (by decide) (by decide) (Nat.le_refl _) (fun e => Nat.lt_irrefl _ (HM.out.2.2.2.2.2 _ e))
end
end Go.Proofs.YtffgnjgphkdodaaGreatDoor
/- A step, of whatever thread; what a machine has stays words. -/
namespace Go.Proofs.YtffgnjgphkdodaaGreatDoor
open Go Go.RowKit
theorem wrap_i64 (x : Int) : i64 (wrap64 x) := by
  unfold i64 wrap64
  omega
theorem b2w_i64 (b : Bool) : i64 (b2w b) := by unfold i64 b2w; split <;> omega
section
variable {w w' : World} {R : Nat → Prop} {g : Nat} {L : Lay} {u : Unit_} {m : Mach}
set_option maxRecDepth 100000 in
set_option maxHeartbeats 1000000 in
theorem step_bar (t : Int) (h : MachB w R g L u m) (hok : MachOk u m) (hu : RightU u) (hb0 : barF u m t ≠ 0) :
    Calls Tryz.prog 34 #[.pointer (some ⟨g, 0, none⟩), .int .i64 t] w fun e w' => e = .returned (.tuple #[.agg (stepD u m t).cells.toArray, .int .i64 (barF u m t)]) ∧ MadeP w w' R g L u (stepM u m t) := by
  rw [(step_not hb0).1, (step_not hb0).2]
  obtain ⟨r, hr⟩ : ∃ r, barF u m t = r := ⟨_, rfl⟩
  have hbar := fun w1 (h1 : MachB w1 R g L u m) => bar_calls t h1 hok hu
  rw [hr] at hbar hb0 ⊢
  have e0 : (r != 0) = true := by simp [hb0]
  have HB := Lib.hid hbar
  have HM := Lib.hid h
  clear h hok hu hr hbar hb0
  go_enter Tryz.func34, Tryz.ntmps34
  go_wp2_with fail
  refine (HB.out _ (HM.out.below (Below_alloc' _ _))).mono ?_
  rintro e w1 ⟨rfl, hb1⟩
  have hbw : Below w.heap.size w w1 := (Below_alloc' w _).trans (hb1.mono (by simp))
  have hr0 : Blk w1 w.heap.size 74 [.int .i64 0, .int .i64 0, .int .u8 0, .int .i64 0, .int .i64 0, .int .i64 0] := (Blk.new w _ _).below hb1 (by simp)
  have HW := Lib.hid (And.intro hbw hr0)
  clear hbw hr0 hb1
  go_wp2_with (first
    | (refine (stop_store 74 rfl ?_)))
  refine Stop.intro ?_
  refine wpList_store_rowTo rfl 74 _ _ rfl rfl w.heap.size #[.int .i64 0, .int .i64 0, .int .u8 0, .int .i64 0, .int .i64 0, .int .i64 0] rfl rfl 74 _ HW.out.2 (by kernel_rfl) rfl (by simp [Value.oneCell']) ?_
  have hrB := HW.out.2.setRow (cs' := [.int .i64 0, .int .i64 0, .int .u8 0, .int .i64 0, .int .i64 0, .int .i64 0])
  have hload := run_loadVar_at (P := Tryz.prog) (w1.setRow w.heap.size #[.int .i64 0, .int .i64 0, .int .u8 0, .int .i64 0, .int .i64 0, .int .i64 0]) w.heap.size 0 74 [.int .i64 0, .int .i64 0, .int .u8 0, .int .i64 0, .int .i64 0, .int .i64 0] _ (fun j v hv => by rw [Nat.zero_add, hrB.cell]; exact hv) Tryz.underlying74 rfl (by kernel_rfl)
  have HZ := Lib.hid hrB; clear hrB
  go_wp2
  refine bodyPost_ret (v := .tuple #[.agg #[.int .i64 0, .int .i64 0, .int .u8 0, .int .i64 0, .int .i64 0, .int .i64 0], .int .i64 r]) (by simp [results, Tryz.results34, asAddr, hload]) rfl ⟨rfl, ?_⟩
  exact MadeP.of_below HM.out (below_row HW.out.1 (Nat.le_refl _) _)
theorem stepD_cells (d : Did) : d.cells = [.int .i64 d.thread, .int .i64 d.node, .int .u8 d.kind, .int .i64 d.thing, .int .i64 d.word, .int .i64 d.put] := rfl
set_option maxHeartbeats 1000000 in
theorem step_calls (t : Int) (h : MachB w R g L u m) (hok : MachOk u m) (hmi : MachI m) (hu : RightU u) (huo : UOk u) (hpr : (m.prints.length + 1) * 16 ≤ 140737488355328) (hRl : ∀ q, R q → q < w.heap.size) :
    Calls Tryz.prog 34 #[.pointer (some ⟨g, 0, none⟩), .int .i64 t] w fun e w' => e = .returned (.tuple #[.agg (stepD u m t).cells.toArray, .int .i64 (barF u m t)]) ∧ MadeP w w' R g L u (stepM u m t) := by
  by_cases hb0 : barF u m t = 0
  · obtain ⟨t, rfl, ht⟩ := bar_out hok (by rw [hb0]; decide)
    obtain ⟨gr, i, n, hs⟩ := stands_at hok ht
    rw [hb0]
    rw [hs.bar hok] at hb0
    rw [hs.step hok hb0, hs.did hok hb0]
    have hg := List.mem_of_getElem? hs.gr
    have hn := List.mem_of_getElem? hs.nd
    have hnd := ndF ((hu.graphs gr hg).nodes n hn)
    have hno := huo gr hg n hn
    have hk : n.kind = 1 ∨ n.kind = 2 ∨ n.kind = 3 ∨ n.kind = 4 ∨ n.kind = 5 ∨ n.kind = 6 ∨ n.kind = 7 ∨ n.kind = 8 := by
      have := hnd.kind
      have h9 : n.kind ≠ 9 := fun e => by unfold barN at hb0; rw [if_pos e] at hb0; cases hb0
      omega
    rcases hk with hk | hk | hk | hk | hk | hk | hk | hk
    · exact step_go h hok hu hs hb0 Tryz.f111 111 Tryz.func111 (by kernel_rfl) (by kernel_rfl) (fun w => by rw [hk]; kernel_rfl) (fun w1 b pv k1 k2 k3 k4 => set_acts ⟨k1, k2, hok, hs, hnd, k3, hno, hmi, k4⟩ hk) hRl
    · exact step_go h hok hu hs hb0 Tryz.f112 112 Tryz.func112 (by kernel_rfl) (by kernel_rfl) (fun w => by rw [hk]; kernel_rfl) (fun w1 b pv k1 k2 k3 k4 => load_acts ⟨k1, k2, hok, hs, hnd, k3, hno, hmi, k4⟩ hk) hRl
    · exact step_go h hok hu hs hb0 Tryz.f113 113 Tryz.func113 (by kernel_rfl) (by kernel_rfl) (fun w => by rw [hk]; kernel_rfl) (fun w1 b pv k1 k2 k3 k4 => store_acts ⟨k1, k2, hok, hs, hnd, k3, hno, hmi, k4⟩ hk) hRl
    · exact step_go h hok hu hs hb0 Tryz.f114 114 Tryz.func114 (by kernel_rfl) (by kernel_rfl) (fun w => by rw [hk]; kernel_rfl) (fun w1 b pv k1 k2 k3 k4 => swap_acts ⟨k1, k2, hok, hs, hnd, k3, hno, hmi, k4⟩ hk) hRl
    · exact step_go h hok hu hs hb0 Tryz.f115 115 Tryz.func115 (by kernel_rfl) (by kernel_rfl) (fun w => by rw [hk]; kernel_rfl) (fun w1 b pv k1 k2 k3 k4 => lock_acts ⟨k1, k2, hok, hs, hnd, k3, hno, hmi, k4⟩ hk) hRl
    · exact step_go h hok hu hs hb0 Tryz.f116 116 Tryz.func116 (by kernel_rfl) (by kernel_rfl) (fun w => by rw [hk]; kernel_rfl) (fun w1 b pv k1 k2 k3 k4 => unlock_acts ⟨k1, k2, hok, hs, hnd, k3, hno, hmi, k4⟩ hk) hRl
    · exact step_go h hok hu hs hb0 Tryz.f117 117 Tryz.func117 (by kernel_rfl) (by kernel_rfl) (fun w => by rw [hk]; kernel_rfl) (fun w1 b pv k1 k2 k3 k4 => print_acts ⟨k1, k2, hok, hs, hnd, k3, hno, hmi, k4⟩ hk hpr) hRl
    · exact step_go h hok hu hs hb0 Tryz.f118 118 Tryz.func118 (by kernel_rfl) (by kernel_rfl) (fun w => by rw [hk]; kernel_rfl) (fun w1 b pv k1 k2 k3 k4 => branch_acts ⟨k1, k2, hok, hs, hnd, k3, hno, hmi, k4⟩ hk) hRl
  · exact step_bar t h hok hu hb0
end
end Go.Proofs.YtffgnjgphkdodaaGreatDoor
