import Derived.Test.YtkkmkjjbffpgnaaP28
import Derived.Test.YtkkmkjjbffpgnaaP30
import Derived.Shelf.Spec.TrailingZeros
/- The iterator of races: races(u) hands out the pairs that may be done at one time, in their order. -/
namespace Go.Proofs.Ytkkmkjjbffpgnaa
open Go Go.RowKit Go.Shelf
attribute [local go_sem] Oper.semAt_some
def rcEnc (u : Unit_) (p : Rc u) : Array Value := #[.agg #[.int .i64 p.1.1.t, .int .i64 p.1.1.i, .int .i64 p.2.1.t, .int .i64 p.2.1.i]]
theorem wpListIn_load_on {F : Fence} {n : Nat} {P : Program} {ops : Array Oper} {rest : List Oper} {o : Oper} {a : Act} {w : World} {Q : Exit → Act → World → Prop} (hw : Region.wanted o (yielded ops a.tmps) = true) (ty : TypeId) (x : Operand) (ho : o.op = .load ty x)
    (b f : Nat) (hx : a.eval x = .pointer (some ⟨b, f, none⟩)) (cs : List Value) (d : TypeDesc) (hc : ∀ j v, cs[j]? = some v → w.cell? ⟨b, f + j, none⟩ = some v)
    (hu : P.underlying ty = some d) (hd : isRowType d = true) (hi : (P.info? ty).map (·.size) = some cs.length)
    (h : wpListIn F n P ops Q rest (a.put o.dst (.agg cs.toArray)) w) : wpListIn F n P ops Q (o :: rest) a w := by
  refine wpListIn_step fun K hK => ?_
  rw [if_pos hw]
  unfold Oper.wpIn
  refine ⟨?_, ?_⟩
  · simp [Oper.about, ho]
  · rw [Oper.semAt_plain F _ _ (by rw [ho]; intro c hc'; cases hc')]
    unfold execOp
    simp only [ho, hx, Instr.loadAt, Instr.sureAddr, Sem.run_bind, Sem.run_pure, Result.andThen_ok, run_loadVar_at w b f ty cs d hc hu hd hi]
    exact hK _ _ h
theorem roundIn_any {n m : Nat} {P : Program} {l : Nat} {f : FuncId} {tmps : Array Value} {assign body : Code} {w : World} {R : Ending → World → Prop} (h : RoundIn Fence.wide n P l f tmps assign body w R) : RoundIn Fence.wide m P l f tmps assign body w R :=
  ⟨trivial, fun c cs _ => h.2 c cs (room_wide _)⟩
theorem roundIn_any2 {n m a b : Nat} {P : Program} {l : Nat} {f : FuncId} {tmps : Array Value} {assign body : Code} {w : World} {R : Ending → World → Prop} (h : RoundIn Fence.wide n P l f tmps assign body w R) : RoundIn ((Fence.wide.inRound a).inRound b) m P l f tmps assign body w R :=
  ⟨trivial, fun c cs _ => h.2 c cs (room_wide _)⟩
theorem OwnFrom.mono {β : Type} {B B' : Nat} {I : β → World → Prop} (h : OwnFrom B I) (hB : B ≤ B') : OwnFrom B' I := fun s W W' row hs hg hr => h s W W' row hs hg (fun r e => ⟨Nat.le_trans hB (hr r e).1, (hr r e).2⟩)
theorem ownFrom_at {β γ : Type} {B : Nat} {I : β → World → Prop} (h : OwnFrom B I) (f : γ → β) : OwnFrom B (fun s W => I (f s) W) := fun s W W' row hs hg hr => h (f s) W W' row hs hg hr
theorem races_made (cs : List Value) (h3 : cs.length = 3) (w : World) :
    Calls Try.prog 46 #[.agg cs.toArray] w fun e w' => e = .returned (.func (.func 78) #[] #[.pointer (some ⟨w.heap.size, 0, none⟩)]) ∧ w' = w.alloc (.cells cs.toArray 25) := by
  obtain ⟨a, b, c, rfl⟩ : ∃ a b c, cs = [a, b, c] := by
    match cs, h3 with
    | [a, b, c], _ => exact ⟨a, b, c, rfl⟩
  go_enter Try.func46, Try.ntmps46
  go_wp2
  go_ret
  exact ⟨rfl, rfl⟩
theorem cOf_grown {bx : Option Nat} {W W' : World} {row : Option Nat} (hg : W.grownBy W' row) (hk : ∀ k, bx = some k → k < W.heap.size ∧ some k ≠ row) : cOf bx W' = cOf bx W := by
  unfold cOf
  cases bx with
  | none => rfl
  | some k =>
    dsimp only
    rw [World.cell?_of_block (hg.block k (hk k rfl).1 (hk k rfl).2)]
/-- What the rounds must keep for a call over an iterator within an iterator: some rows of its own, which the caller's slice does not own. -/
structure Held_ (n0 s0 : Nat) (bx : Option Nat) (W0 : World) (rows : List (Nat × TypeId × List Value)) (W : World) : Prop where
  low : Below n0 W0 W
  size : s0 ≤ W.heap.size
  cb : ∀ q, cOf bx W = some q → q < W.heap.size
  rows : ∀ r ∈ rows, Blk W r.1 r.2.1 r.2.2 ∧ cOf bx W ≠ some r.1
theorem Held_.ownFrom {β : Type} {n0 s0 : Nat} {bx : Option Nat} {W0 : World} {rows : List (Nat × TypeId × List Value)} (hn : n0 ≤ W0.heap.size) (hn2 : n0 ≤ s0) (hk : ∀ k, bx = some k → k < s0) : OwnFrom s0 (fun (_ : β) W => Held_ n0 s0 bx W0 rows W) := fun _ W W' row hs hg hr => by
  have hc : cOf bx W' = cOf bx W := cOf_grown hg (fun k e => ⟨by have := hk k e; have := hs.size; omega, fun e2 => by have := (hr k e2.symm).1; have := hk k e; omega⟩)
  refine ⟨hs.low.grown hg (Nat.le_trans hn hs.low.size) (fun k e => Nat.le_trans hn2 (hr k e).1), Nat.le_trans hs.size hg.size, fun q e => ?_, fun r hrr => ?_⟩
  · rw [hc] at e
    exact Nat.lt_of_lt_of_le (hs.cb q e) hg.size
  · obtain ⟨h1, h2⟩ := hs.rows r hrr
    refine ⟨h1.grown hg (fun e => ?_), by rw [hc]; exact h2⟩
    obtain ⟨o, ho, hco⟩ := (hr _ e.symm).2
    unfold Blk at h1
    rw [h1] at ho
    injection ho with ho
    subst ho
    cases hco
theorem Held_.keep {n0 s0 B : Nat} {bx : Option Nat} {W0 W W' : World} {rows : List (Nat × TypeId × List Value)} (h : Held_ n0 s0 bx W0 rows W) (hK : KeepI n0 B bx W W') (hB : ∀ r ∈ rows, B ≤ r.1) : Held_ n0 s0 bx W0 rows W' := by
  refine ⟨h.low.trans hK.low, Nat.le_trans h.size hK.size, hK.bound h.cb, fun r hr => ?_⟩
  obtain ⟨h1, h2⟩ := h.rows r hr
  refine ⟨hK.own r.1 _ _ _ (hB r hr) (fun e => h2 e.symm) h1, ?_⟩
  rcases hK.new with e | ⟨q, e, hq⟩
  · rw [e]; exact h2
  · rw [e]
    intro e2
    injection e2 with e2
    have := h1.lt
    omega
theorem KeepI.ownFrom {β : Type} {n0 B B' : Nat} {bx : Option Nat} {W0 : World} (hn : n0 ≤ W0.heap.size) (hB : W0.heap.size ≤ B') (hk : ∀ k, bx = some k → k < W0.heap.size) : OwnFrom B' (fun (_ : β) W => KeepI n0 B bx W0 W) := fun _ W W' row hs hg hr => by
  have hsz := hs.size
  have hc : cOf bx W' = cOf bx W := cOf_grown hg (fun k e => ⟨by have := hk k e; omega, fun e2 => by have := (hr k e2.symm).1; have := hk k e; omega⟩)
  refine hs.trans ⟨(Below.refl n0 W).grown hg (by omega) (fun k e => by have := (hr k e).1; omega), hg.size, fun b cur t fr _ _ hb => ?_, .inl hc, fun h q hq => ?_⟩
  · refine (hg.block b (lt_of_block hb) (fun e => ?_)).trans hb
    obtain ⟨o, ho, hco⟩ := (hr b e.symm).2
    rw [hb] at ho
    injection ho with ho
    subst ho
    cases hco
  · rw [hc] at hq
    exact Nat.lt_of_lt_of_le (h q hq) hg.size
/-- One more row, just made. -/
theorem Held_.made {n0 s0 : Nat} {bx : Option Nat} {W0 W : World} {rows : List (Nat × TypeId × List Value)} (h : Held_ n0 s0 bx W0 rows W) (hn2 : n0 ≤ s0) (hk : ∀ k, bx = some k → k < s0) (t : TypeId) (cs : List Value) : Held_ n0 s0 bx W0 ((W.heap.size, t, cs) :: rows) (W.alloc (.cells cs.toArray t)) := by
  have hb := Below_alloc' W (.cells cs.toArray t)
  have hs := h.size
  have hc : cOf bx (W.alloc (.cells cs.toArray t)) = cOf bx W := cOf_below hb (fun k e => by have := hk k e; omega)
  refine ⟨h.low.trans (hb.mono (by omega)), Nat.le_trans h.size hb.size, fun q e => by rw [hc] at e; exact Nat.lt_of_lt_of_le (h.cb q e) hb.size, fun r hr => ?_⟩
  rcases List.mem_cons.1 hr with e | e
  · subst e
    refine ⟨Blk.new _ _ _, ?_⟩
    rw [hc]
    intro e
    have := h.cb _ e
    omega
  · obtain ⟨h1, h2⟩ := h.rows r e
    exact ⟨h1.alloc _, by rw [hc]; exact h2⟩
theorem Held_.fewer {n0 s0 : Nat} {bx : Option Nat} {W0 W : World} {r : Nat × TypeId × List Value} {rows : List (Nat × TypeId × List Value)} (h : Held_ n0 s0 bx W0 (r :: rows) W) : Held_ n0 s0 bx W0 rows W := ⟨h.low, h.size, h.cb, fun x hx => h.rows x (List.mem_cons_of_mem _ hx)⟩
theorem Held_.below {n0 s0 : Nat} {bx : Option Nat} {W0 W W' : World} {rows : List (Nat × TypeId × List Value)} (h : Held_ n0 s0 bx W0 rows W) (hb : Below W.heap.size W W') (hn2 : n0 ≤ s0) (hk : ∀ k, bx = some k → k < s0) : Held_ n0 s0 bx W0 rows W' := by
  have hs := h.size
  have hc : cOf bx W' = cOf bx W := cOf_below hb (fun k e => by have := hk k e; omega)
  exact ⟨h.low.trans (hb.mono (by omega)), Nat.le_trans h.size hb.size, fun q e => by rw [hc] at e; exact Nat.lt_of_lt_of_le (h.cb q e) hb.size, fun r hr => by
    obtain ⟨h1, h2⟩ := h.rows r hr
    exact ⟨h1.below hb h1.lt, by rw [hc]; exact h2⟩⟩
theorem Held_.later {n0 s0 s1 : Nat} {bx : Option Nat} {W0 W : World} {rows : List (Nat × TypeId × List Value)} (h : Held_ n0 s0 bx W0 rows W) (hs : s1 ≤ W.heap.size) : Held_ n0 s1 bx W0 rows W := ⟨h.low, hs, h.cb, h.rows⟩
theorem tch_mask {u : Unit_} (hru : RightU u) (x : Tch u) : hMask x.1.l < 65536 := by
  have hm := x.2
  unfold TT at hm
  have h := (hit_held hru (List.mem_filter.1 hm).1).1
  have := hru.locks
  exact hMask_lt _ (fun k hk => by have := h k hk; omega)
set_option maxRecDepth 100000 in
set_option maxHeartbeats 8000000 in
theorem races1_in (u : Unit_) (hru : RightU u) (cs : List Value) (h3 : cs.length = 3) (l Bu n0 B : Nat) (bx : Option Nat) (J Jx : List (Rc u) → World → Prop) (W : World) (hJ : OwnFrom W.heap.size J) (hJx : OwnFrom W.heap.size Jx) (hn0 : n0 ≤ W.heap.size) (hB : B ≤ Bu) (hk : ∀ k, bx = some k → k < W.heap.size) (hcb : ∀ q, cOf bx W = some q → q < B)
    (hY : ∀ pre x W1, J pre W1 → pre.length < (TTa u).length * (TTa u).length → YieldAt Fence.wide 20 Try.prog l (rcEnc u x) W1 fun e W' =>
      (e = .returned (.bool true) ∧ J (pre ++ [x]) W' ∧ KeepI n0 B bx W1 W' ∧ KeepsFrom W.heap.size W1 W') ∨ (e = .returned (.bool false) ∧ Jx (pre ++ [x]) W' ∧ KeepsFrom W.heap.size W1 W'))
    (hbu : Blk W Bu 25 cs) (hu : UnitV (part W 0 n0) cs u) (h0 : J [] W) :
    CallsIn Fence.wide 21 Try.prog 78 #[.func (.yield l) #[] #[], .pointer (some ⟨Bu, 0, none⟩)] W fun e W' => (∃ v, e = .returned v) ∧
      ((∃ xs, xs = raceA u ∧ J xs W') ∨ (∃ pre, pre <+: raceA u ∧ Jx pre W')) := by
  obtain ⟨sv, lv, gv, rfl⟩ : ∃ a b c, cs = [a, b, c] := by
    match cs, h3 with
    | [a, b, c], _ => exact ⟨a, b, c, rfl⟩
  have hbw := hbu.lt
  have hun : ∀ wr : World, Blk wr Bu 25 [sv, lv, gv] → ∀ j v, ([sv, lv, gv] : List Value)[j]? = some v → wr.cell? ⟨Bu, 0 + j, none⟩ = some v := fun wr h j v hj => by rw [Nat.zero_add, h.cell]; exact hj
  have HUN := Lib.hid hun; clear hun
  have hb1 := hbu.alloc (.cells #[.func (.yield l) #[] #[]] 152)
  have HLD := Lib.hid (HUN.out _ hb1)
  refine callsIn_of_wp_marks Try.func78 rfl trivial ?_ rfl
  simp only [Try.ntmps78, List.size_toArray, List.length_cons, List.length_nil, Nat.reduceAdd, Nat.reduceSub, Array.replicate_succ, Array.replicate_zero, List.push_toArray, List.append_toArray, List.nil_append, List.cons_append]
  gi_wp2_with (first
    | (refine wpListIn_load_at rfl 25 _ rfl Bu 0 rfl _ _ HLD.out Try.underlying25 rfl (by kernel_rfl) ?_))
  refine ⟨trivial, ?_⟩
  refine (callsIn_wide.2 (touches_made [sv, lv, gv] rfl _)).mono ?_
  rintro e w2 ⟨rfl, rfl⟩
  gi_wp2
  have hk1 : ∀ k, bx = some k → k < W.heap.size + 1 := fun k e => by have := hk k e; omega
  have hH0 : Held_ n0 W.heap.size bx W [(Bu, 25, [sv, lv, gv])] W := ⟨Below.refl _ _, Nat.le_refl _, fun q e => by have := hcb q e; omega, fun r hr => by
    rw [List.mem_singleton] at hr
    subst hr
    exact ⟨hbu, fun e => by have := hcb _ e; omega⟩⟩
  have hH1 := hH0.made hn0 hk 152 [.func (.yield l) #[] #[]]
  have hH2 := (hH1.made hn0 hk 25 [sv, lv, gv]).fewer
  have hbt : Blk ((W.alloc (.cells [.func (.yield l) #[] #[]].toArray 152)).alloc (.cells [sv, lv, gv].toArray 25)) (W.heap.size + 1) 25 [sv, lv, gv] := Blk.of (heap_new _ _ _ (by simp)) rfl
  have hJ2 : J [] ((W.alloc (.cells [.func (.yield l) #[] #[]].toArray 152)).alloc (.cells [sv, lv, gv].toArray 25)) := hJ.alloc _ (hJ.alloc _ h0)
  have hS2 : ((W.alloc (.cells [.func (.yield l) #[] #[]].toArray 152)).alloc (.cells [sv, lv, gv].toArray 25)).heap.size = W.heap.size + 2 := by simp
  have hwl : ∃ wl, (W.alloc (.cells [.func (.yield l) #[] #[]].toArray 152)).alloc (.cells [sv, lv, gv].toArray 25) = wl := ⟨_, rfl⟩
  obtain ⟨wl, hwl⟩ := hwl
  rw [hwl] at hH2 hbt hJ2 hS2
  rw [show (W.alloc (.cells #[.func (.yield l) #[] #[]] 152)).alloc (.cells #[sv, lv, gv] 25) = wl from hwl]
  clear hwl HLD hb1
  have hn2 : n0 ≤ W.heap.size + 2 := by omega
  have hk2 : ∀ k, bx = some k → k < W.heap.size + 2 := fun k e => by have := hk k e; omega
  have hul : UnitV (part wl 0 n0) [sv, lv, gv] u := hu.mono (part_belowL hH2.low)
  refine wp_act fun a0 ha0 => ?_
  refine wpIn_rangeFunc_ownH rfl (by decide) (gf := 71) (lb := #[.pointer (some ⟨W.heap.size + 1, 0, none⟩)]) (by rw [ha0]; rfl) trivial (enters_of Try.func71 (by kernel_rfl) rfl)
    (touches_stops u hru [sv, lv, gv] 20 (W.heap.size + 1) n0 B bx (by decide) wl (by omega) (by omega) (fun k e => by have := hk k e; omega) hH2.cb hbt hul)
    (fun h k => KeepI.trans h k) (fun W' l o o' hl ho hc _ => KeepI.putObj W' l o o' (by omega) (fun k e => by have := hk k e; omega) ho hc) (Below.refl _ _) (fun _ => rfl)
    (fun pre W' => J (flatR pre) W' ∧ Held_ n0 (W.heap.size + 2) bx W [(W.heap.size, 152, [.func (.yield l) #[] #[]]), (Bu, 25, [sv, lv, gv])] W')
    (fun c pre W' => c = .ret ∧ ∃ pp, pp <+: flatR pre ∧ Jx pp W')
    (OwnFrom.and (ownFrom_at (OwnFrom.mono hJ (by omega)) flatR) (OwnFrom.mono (Held_.ownFrom hn0 hn2 hk2) (by omega)))
    (fun c s X Y row hs hg hr => ⟨hs.1, by obtain ⟨pp, h1, h2⟩ := hs.2; exact ⟨pp, h1, (OwnFrom.mono hJx (by omega)) pp X Y row h2 hg hr⟩⟩)
    ⟨hJ2, hH2.later (by omega)⟩
    (fun x a' W' => ∃ Bx, W.heap.size + 2 ≤ Bx ∧ Held_ n0 (W.heap.size + 2) bx W [(Bx, 90, tchCells x.1), (W.heap.size, 152, [.func (.yield l) #[] #[]]), (Bu, 25, [sv, lv, gv])] W' ∧ a' = { tmps := (a0.tmps.setIfInBounds 8 (.agg (tchCells x.1).toArray)).setIfInBounds 3 (.pointer (some ⟨Bx, 0, none⟩)), defers := [] })
    (fun x a' _ X Y row hs hg hr => by obtain ⟨Bx, h1, h2, h3⟩ := hs; exact ⟨Bx, h1, (OwnFrom.mono (Held_.ownFrom hn0 hn2 hk2) (by omega)) () X Y row h2 hg hr, h3⟩)
    ?assign ?body ?done ?stop
  case assign =>
    rintro l2 pre x W' K ⟨j1, j2⟩ hK
    subst ha0
    have hsz := j2.size
    have hsz2 : W.heap.size + 2 ≤ W'.heap.size := j2.size
    have hfin := hK { tmps := _, defers := [] } _ ((KeepsOthers.alloc W' (.cells (tchCells x.1).toArray 90)).from _) (KeepI.below (Below_alloc' W' (.cells (tchCells x.1).toArray 90)) (by omega) (fun k e => by have := hk k e; omega)) ⟨(OwnFrom.mono hJ (Nat.le_refl _)).alloc _ j1, j2.below (Below_alloc' _ _) hn2 hk2⟩ ⟨W'.heap.size, hsz2, j2.made hn2 hk2 _ _, rfl⟩
    unfold tchEnc
    unfold tchCells at hfin ⊢
    have HFIN := Lib.hid hfin; clear hfin hK
    gi_wp2
    exact HFIN.out
  case body =>
    rintro l2 pre x a' W' hl ⟨r, hr⟩ ⟨j1, j2⟩ ⟨Bx, hBx, j3, rfl⟩ hlt
    subst ha0
    have hsz := j3.size
    have hszx := (j3.rows _ (List.mem_cons_self ..)).1.lt
    have hbu1 := (j3.rows (Bu, 25, [sv, lv, gv]) (by simp)).1
    have HLD1 := Lib.hid (HUN.out _ hbu1)
    have hkw : ∀ k, bx = some k → k < W'.heap.size := fun k e => by have := hk k e; omega
    have hcw := j3.cb
    gi_wp2_with (first
      | (refine wpListIn_load_at rfl 25 _ rfl Bu 0 rfl _ _ HLD1.out Try.underlying25 rfl (by kernel_rfl) ?_))
    refine ⟨trivial, ?_⟩
    refine (CallsIn.inRound l2 (callsIn_wide.2 (touches_made [sv, lv, gv] rfl _))).mono ?_
    rintro e w2 ⟨rfl, rfl⟩
    gi_wp2
    have hH3 := (j3.made hn2 hk2 25 [sv, lv, gv]).fewer
    have hbt2 : Blk (W'.alloc (.cells [sv, lv, gv].toArray 25)) W'.heap.size 25 [sv, lv, gv] := Blk.new _ _ _
    have hJ3 : J (flatR pre) (W'.alloc (.cells [sv, lv, gv].toArray 25)) := hJ.alloc _ j1
    have hkeep : KeepI n0 B bx W' (W'.alloc (.cells [sv, lv, gv].toArray 25)) := KeepI.below (Below_alloc' _ _) (by omega) hkw
    have hkf : KeepsFrom wl.heap.size W' (W'.alloc (.cells [sv, lv, gv].toArray 25)) := (KeepsOthers.alloc _ _).from _
    have hr2 : (W'.alloc (.cells [sv, lv, gv].toArray 25)).heap[l2]? = some (.loop r) := (heap_alloc_old _ _ (Array.getElem?_eq_some_iff.1 hr).1).trans hr
    have hS3 : (W'.alloc (.cells [sv, lv, gv].toArray 25)).heap.size = W'.heap.size + 1 := by simp
    obtain ⟨wi, hwi⟩ : ∃ wi, W'.alloc (.cells [sv, lv, gv].toArray 25) = wi := ⟨_, rfl⟩
    rw [hwi] at hH3 hbt2 hJ3 hkeep hkf hr2 hS3
    rw [show W'.alloc (.cells #[sv, lv, gv] 25) = wi from hwi]
    clear hwi
    have hul2 : UnitV (part wi 0 n0) [sv, lv, gv] u := hu.mono (part_belowL hH3.low)
    obtain ⟨HH, hHH⟩ : ∃ HH : World → Prop, HH = Held_ n0 (W.heap.size + 2) bx W [(Bx, 90, tchCells x.1), (W.heap.size, 152, [.func (.yield l) #[] #[]]), (Bu, 25, [sv, lv, gv])] := ⟨_, rfl⟩
    have hHo : OwnFrom wi.heap.size (fun (_ : List (Tch u)) X => HH X) := by rw [hHH]; exact OwnFrom.mono (Held_.ownFrom hn0 hn2 hk2) (by omega)
    have hHi : HH wi := by rw [hHH]; exact hH3
    refine wp_act fun a1 ha1 => ?_
    refine wpIn_rangeFunc_ownN (l₀ := l2) (r₀ := r) rfl hr2 (by decide) (gf := 71) (lb := #[.pointer (some ⟨W'.heap.size, 0, none⟩)]) (by rw [ha1]; rfl) trivial (enters_of Try.func71 (by kernel_rfl) rfl)
      ((touches_stops u hru [sv, lv, gv] 18 W'.heap.size n0 B bx (by decide) wi (by omega) (by omega) (fun k e => by have := hkw k e; omega) hH3.cb hbt2 hul2).inRound l2)
      (fun h k => KeepI.trans h k) (fun W' l o o' hl ho hc _ => KeepI.putObj W' l o o' (by omega) (fun k e => by have := hk k e; omega) ho hc) (Below.refl _ _) (fun _ => rfl)
      (fun pre' X => (J (flatR pre ++ innerR x pre') X ∧ HH X) ∧ KeepI n0 B bx W' X ∧ KeepsFrom wl.heap.size W' X)
      (fun c pre' X => c = .ret ∧ (∃ pp, pp <+: flatR pre ++ innerR x pre' ∧ Jx pp X) ∧ KeepsFrom wl.heap.size W' X)
      (OwnFrom.and (OwnFrom.and (ownFrom_at (OwnFrom.mono hJ (by omega)) (fun pre' => flatR pre ++ innerR x pre')) hHo) (OwnFrom.and (KeepI.ownFrom (by omega) (by omega) hkw) (ownFrom_keepsFrom (by omega))))
      (fun c s X Y row hs hg hr => ⟨hs.1, by obtain ⟨pp, h1, h2⟩ := hs.2.1; exact ⟨pp, h1, (OwnFrom.mono hJx (by omega)) pp X Y row h2 hg hr⟩, (ownFrom_keepsFrom (β := Unit) (w₀ := W') (B' := wi.heap.size) (by omega)) () X Y row hs.2.2 hg hr⟩)
      ⟨⟨by rw [innerR_nil, List.append_nil]; exact hJ3, hHi⟩, hkeep, hkf⟩
      (fun y a'' X => ∃ By, Blk X By 90 (tchCells y.1) ∧ a'' = { tmps := (a1.tmps.setIfInBounds 11 (.agg (tchCells y.1).toArray)).setIfInBounds 4 (.pointer (some ⟨By, 0, none⟩)), defers := [] })
      (fun y a'' _ X Y row hs hg hr => by obtain ⟨By, h2, h3⟩ := hs; exact ⟨By, blk_own By _ (fun (_ : Unit) => tchCells y.1) () X Y row h2 hg (fun r e => (hr r e).2), h3⟩)
      ?assign2 ?body2 ?done2 ?stop2
    case assign2 =>
      rintro l3 pre' y X K ⟨⟨q1, q2⟩, q3, q4⟩ hK
      subst ha1
      have hq := q3.size
      have hqk : ∀ k, bx = some k → k < X.heap.size := fun k e => by have := hkw k e; omega
      have hfin := hK { tmps := _, defers := [] } _ ((KeepsOthers.alloc X (.cells (tchCells y.1).toArray 90)).from _) (KeepI.below (Below_alloc' X (.cells (tchCells y.1).toArray 90)) (by omega) hqk) ⟨⟨hJ.alloc _ q1, by rw [hHH] at q2 ⊢; exact q2.below (Below_alloc' _ _) hn2 hk2⟩, q3.trans (KeepI.below (Below_alloc' _ _) (by omega) hqk), q4.trans ((KeepsOthers.alloc _ _).from _)⟩ ⟨X.heap.size, Blk.new X _ _, rfl⟩
      unfold tchEnc
      unfold tchCells at hfin ⊢
      have HFIN := Lib.hid hfin; clear hfin hK
      gi_wp2
      exact HFIN.out
    case body2 =>
      rintro l3 pre' y a'' X hl3 _ ⟨⟨q1, q2⟩, q3, q4⟩ ⟨By, bY, rfl⟩ hlt2
      subst ha1
      have q2' := q2
      rw [hHH] at q2'
      have bX := (q2'.rows _ (List.mem_cons_self ..)).1
      have bF := (q2'.rows (W.heap.size, 152, [.func (.yield l) #[] #[]]) (by simp)).1
      have f0 := bF.cell 0
      have x0 : X.cell? ⟨Bx, 0, none⟩ = some (.int .i64 (x.1.t : Int)) := by rw [bX.cell 0]; rfl
      have x2 : X.cell? ⟨Bx, 2, none⟩ = some (.int .i64 x.1.n.thing) := by rw [bX.cell 2]; rfl
      have x4 : X.cell? ⟨Bx, 4, none⟩ = some (.bool (wrB x.1.n)) := by rw [bX.cell 4]; rfl
      have x5 : X.cell? ⟨Bx, 5, none⟩ = some (.int .u32 (hMask x.1.l : Nat)) := by rw [bX.cell 5]; rfl
      have y0 : X.cell? ⟨By, 0, none⟩ = some (.int .i64 (y.1.t : Int)) := by rw [bY.cell 0]; rfl
      have y2 : X.cell? ⟨By, 2, none⟩ = some (.int .i64 y.1.n.thing) := by rw [bY.cell 2]; rfl
      have y4 : X.cell? ⟨By, 4, none⟩ = some (.bool (wrB y.1.n)) := by rw [bY.cell 4]; rfl
      have y5 : X.cell? ⟨By, 5, none⟩ = some (.int .u32 (hMask y.1.l : Nat)) := by rw [bY.cell 5]; rfl
      have HX : Hid (∀ j v, ([.int .i64 x.1.t, .int .i64 x.1.i] : List Value)[j]? = some v → X.cell? ⟨Bx, 0 + j, none⟩ = some v) := Lib.hid fun j v hj => by
        rw [Nat.zero_add, bX.cell]
        unfold tchCells
        match j, hj with
        | 0, hj => exact hj
        | 1, hj => exact hj
      have HY : Hid (∀ j v, ([.int .i64 y.1.t, .int .i64 y.1.i] : List Value)[j]? = some v → X.cell? ⟨By, 0 + j, none⟩ = some v) := Lib.hid fun j v hj => by
        rw [Nat.zero_add, bY.cell]
        unfold tchCells
        match j, hj with
        | 0, hj => exact hj
        | 1, hj => exact hj
      have hgoes : Hid (raceB x.1 y.1 = false → J (flatR pre ++ innerR x (pre' ++ [y])) X) := Lib.hid fun h => by
        rw [innerR_snoc, if_neg (by rw [h]; simp)]
        exact q1
      have hsame : KeepsFrom wi.heap.size X X := KeepsFrom.refl _ _
      have hsk : KeepI n0 B bx X X := KeepI.below (Below.refl _ _) (by have := q3.size; omega) (fun k e => by have := hkw k e; have := q3.size; omega)
      have hcm : Hid (raceB x.1 y.1 = true → (flatR pre ++ innerR x pre').length < (TTa u).length * (TTa u).length) := Lib.hid fun _ => by
        rw [List.length_append]
        have h1 := flatR_length pre
        have h2 := innerR_length x pre'
        have h3 := count_lt hlt hlt2
        omega
      have hyl := hY (flatR pre ++ innerR x pre') (x, y) X q1
      unfold rcEnc at hyl
      dsimp only at hyl
      have hsn : Hid (raceB x.1 y.1 = true → flatR pre ++ innerR x (pre' ++ [y]) = flatR pre ++ innerR x pre' ++ [(x, y)]) := Lib.hid fun h => by
        rw [innerR_snoc, if_pos h, List.append_assoc]
      have hrb : raceB x.1 y.1 = (decide (x.1.n.thing = y.1.n.thing) && (decide (x.1.t < y.1.t) && ((wrB x.1.n || wrB y.1.n) && decide (hMask x.1.l &&& hMask y.1.l = 0)))) := rfl
      have hmx : hMask x.1.l < 65536 := tch_mask hru x
      have hmy : hMask y.1.l < 65536 := tch_mask hru y
      have hrows : ∀ r ∈ [(Bx, 90, tchCells x.1), (W.heap.size, 152, [.func (.yield l) #[] #[]]), (Bu, 25, [sv, lv, gv])], B ≤ r.1 := fun r hr => by
        simp only [List.mem_cons, List.not_mem_nil, or_false] at hr
        rcases hr with rfl | rfl | rfl
        · show B ≤ Bx; omega
        · show B ≤ W.heap.size; omega
        · exact hB
      have HKP : Hid (∀ X', KeepI n0 B bx X X' → HH X') := Lib.hid fun X' h => by rw [hHH]; exact q2'.keep h hrows
      clear hrows
      unfold tchCells
      clear bX bY bF
      have Q2 := Lib.hid q2; clear q2 q2' hHH
      generalize hMask x.1.l = mx at *
      generalize hMask y.1.l = my at *
      generalize wrB x.1.n = wx at *
      generalize wrB y.1.n = wy at *
      generalize x.1.n.thing = tx at *
      generalize y.1.n.thing = ty at *
      by_cases c1 : tx = ty
      · have e1 : (tx == ty) = true := by simp [c1]
        by_cases c2 : x.1.t < y.1.t
        · have e2 : decide ((x.1.t : Int) < (y.1.t : Int)) = true := by simp; omega
          by_cases c3 : (wx || wy) = true
          · by_cases c4 : mx &&& my = 0
            · have hr1 : raceB x.1 y.1 = true := by rw [hrb, c3]; simp [c1, c2, c4]
              obtain ⟨fn, tmps, assign, body, hy, hR⟩ := hyl (hcm.out hr1)
              have hs2 := hsn.out hr1
              have hand : bits BinOp.and IntKind.u32 (mx : Int) (my : Int) = 0 := by rw [bits_and_u32_nat mx my (by omega) (by omega), c4]; rfl
              have HS2 := Lib.hid hs2; clear hs2
              clear hrb hgoes hyl hsn hcm hr1
              cases wx
              · have hwy : wy = true := by simpa using c3
                subst hwy
                gi_wp2_with (first
                  | (refine wpListIn_load_on (by rfl) 44 _ rfl Bx 0 rfl _ _ HX.out Try.underlying44 rfl (by kernel_rfl) ?_)
                  | (refine wpListIn_load_on (by rfl) 44 _ rfl By 0 rfl _ _ HY.out Try.underlying44 rfl (by kernel_rfl) ?_))
                refine roundIn_any2 (hR.mono ?_)
                rintro e W3 (⟨rfl, hJ3, hk3, hf3⟩ | ⟨rfl, hJx3, hf3⟩)
                · gi_wp2
                  exact ⟨keepsFrom_mono hf3 (by omega), hk3, ⟨by rw [HS2.out]; exact hJ3, HKP.out _ hk3⟩, q3.trans hk3, q4.trans (keepsFrom_mono hf3 (by omega))⟩
                · gi_wp2
                  exact ⟨keepsFrom_mono hf3 (by omega), rfl, ⟨_, by rw [HS2.out]; exact List.prefix_refl _, hJx3⟩, q4.trans (keepsFrom_mono hf3 (by omega))⟩
              · gi_wp2_with (first
                  | (refine wpListIn_load_on (by rfl) 44 _ rfl Bx 0 rfl _ _ HX.out Try.underlying44 rfl (by kernel_rfl) ?_)
                  | (refine wpListIn_load_on (by rfl) 44 _ rfl By 0 rfl _ _ HY.out Try.underlying44 rfl (by kernel_rfl) ?_))
                refine roundIn_any2 (hR.mono ?_)
                rintro e W3 (⟨rfl, hJ3, hk3, hf3⟩ | ⟨rfl, hJx3, hf3⟩)
                · gi_wp2
                  exact ⟨keepsFrom_mono hf3 (by omega), hk3, ⟨by rw [HS2.out]; exact hJ3, HKP.out _ hk3⟩, q3.trans hk3, q4.trans (keepsFrom_mono hf3 (by omega))⟩
                · gi_wp2
                  exact ⟨keepsFrom_mono hf3 (by omega), rfl, ⟨_, by rw [HS2.out]; exact List.prefix_refl _, hJx3⟩, q4.trans (keepsFrom_mono hf3 (by omega))⟩
            · have hand : bits BinOp.and IntKind.u32 (mx : Int) (my : Int) = ((mx &&& my : Nat) : Int) := bits_and_u32_nat mx my (by omega) (by omega)
              have e4 : (((mx &&& my : Nat) : Int) == 0) = false := by simp; omega
              have hg := hgoes.out (by rw [hrb]; simp [c4])
              clear hrb hgoes hyl hsn hcm
              have HG := Lib.hid hg; clear hg
              cases wx
              · have hwy : wy = true := by simpa using c3
                subst hwy
                gi_wp2
                rename_i ha _ _ _ _
                refine ⟨fun f h => (by cases h), ha _ _ ?_⟩
                gi_wp2
                exact ⟨hsame, hsk, ⟨HG.out, Q2.out⟩, q3, q4⟩
              · gi_wp2
                rename_i ha _ _ _ _
                refine ⟨fun f h => (by cases h), ha _ _ ?_⟩
                gi_wp2
                exact ⟨hsame, hsk, ⟨HG.out, Q2.out⟩, q3, q4⟩
          · have hwx : wx = false := by cases wx <;> simp_all
            have hwy : wy = false := by cases wy <;> simp_all
            subst hwx hwy
            have hg := hgoes.out (by rw [hrb]; simp)
            clear hrb hgoes hyl hsn hcm c3
            have HG := Lib.hid hg; clear hg
            gi_wp2
            rename_i ha _ _ _ _
            refine ⟨fun f h => (by cases h), ha _ _ ?_⟩
            gi_wp2
            exact ⟨hsame, hsk, ⟨HG.out, Q2.out⟩, q3, q4⟩
        · have e2 : decide ((x.1.t : Int) < (y.1.t : Int)) = false := by simp; omega
          have hg := hgoes.out (by rw [hrb]; simp [c2])
          clear hrb hgoes hyl hsn hcm
          have HG := Lib.hid hg; clear hg
          gi_wp2
          rename_i ha _ _ _ _
          refine ⟨fun f h => (by cases h), ha _ _ ?_⟩
          gi_wp2
          exact ⟨hsame, hsk, ⟨HG.out, Q2.out⟩, q3, q4⟩
      · have e1 : (tx == ty) = false := by simp [c1]
        have hg := hgoes.out (by rw [hrb]; simp [c1])
        clear hrb hgoes hyl hsn hcm
        have HG := Lib.hid hg; clear hg
        gi_wp2
        rename_i ha _ _ _ _
        refine ⟨fun f h => (by cases h), ha _ _ ?_⟩
        gi_wp2
        exact ⟨hsame, hsk, ⟨HG.out, Q2.out⟩, q3, q4⟩
    case done2 =>
      rintro zs X rfl ⟨⟨q1, q2⟩, q3, q4⟩
      subst ha1
      gi_wp2
      exact ⟨q4, q3, by rw [flatR_snoc]; exact q1, by rw [hHH] at q2; exact q2.fewer⟩
    case stop2 =>
      rintro c pre' X hpre ⟨rfl, ⟨pp, hp, hjx⟩, q4⟩
      subst ha1
      gi_wp2
      exact ⟨q4, rfl, pp, hp.trans (by rw [flatR_snoc]; exact (List.prefix_append_right_inj _).2 (innerR_prefix x hpre)), hjx⟩
  case done =>
    rintro D zs W' hD rfl ⟨j1, j2⟩ hK
    subst ha0
    gi_wp2
    refine ⟨by simp, .inl ⟨_, _, rfl, run_takeDeferred hK, ?_⟩⟩
    exact ⟨_, results_none rfl _ _ _, ⟨_, rfl⟩, .inl ⟨_, rfl, hJ.putObj _ j1 (by omega) hK rfl⟩⟩
  case stop =>
    rintro D c pre W' hD hpre ⟨rfl, pp, h1, h2⟩ hK
    subst ha0
    gi_wp2
    refine ⟨by simp, .inl ⟨_, _, rfl, run_takeDeferred hK, ?_⟩⟩
    exact ⟨_, results_none rfl _ _ _, ⟨_, rfl⟩, .inr ⟨pp, h1.trans (flatR_prefix hpre), hJx.putObj _ h2 (by omega) hK rfl⟩⟩
end Go.Proofs.Ytkkmkjjbffpgnaa
