import Derived.Test.YtkkmkjjbffpgnaaP31
import Derived.Test.YtkkmkjjbffpgnaaP01
import Derived.Test.YtkkmkjjbffpgnaaP26
/- The walk of sharing.Races. -/
namespace Go.Proofs.Ytkkmkjjbffpgnaa
open Go Go.RowKit Go.Shelf
attribute [local go_sem] Oper.semAt_some
def rcCells {u : Unit_} (p : Rc u) : List Value := [.int .i64 p.1.1.t, .int .i64 p.1.1.i, .int .i64 p.2.1.t, .int .i64 p.2.1.i]
abbrev RaceV {u : Unit_} : CM → List Value → Rc u → Prop := fun _ cs p => cs = rcCells p
theorem races_stops (u : Unit_) (hru : RightU u) (cs : List Value) (h3 : cs.length = 3) (Bu n0 B : Nat) (bx : Option Nat) (w : World) (hn0 : n0 ≤ w.heap.size) (hB : B ≤ Bu) (hk : ∀ k, bx = some k → k < w.heap.size) (hcb : ∀ q, cOf bx w = some q → q < B)
    (hbu : Blk w Bu 25 cs) (hu : UnitV (part w 0 n0) cs u) :
    SeqC Fence.wide 21 Try.prog 78 #[.pointer (some ⟨Bu, 0, none⟩)] (rcEnc u) (KeepI n0 B bx) (fun xs => xs = raceA u) (fun pre => pre <+: raceA u) ((TTa u).length * (TTa u).length) w := fun l J Jx W hW hJ hJx hY h0 => by
  have hsz := hW.size
  refine races1_in u hru cs h3 l Bu n0 B bx J Jx W hJ hJx (by omega) hB (fun k e => by have := hk k e; omega) (fun q e => ?_) hY (hbu.below hW hbu.lt) (hu.mono ?_) h0
  · rw [cOf_below hW hk] at e
    exact hcb q e
  · exact part_belowL (hW.mono hn0)
theorem Acc.cells {α : Type} {RV : CM → List Value → α → Prop} {size : Nat} {e : TypeId} {base : Nat} {S : Nat → Prop} {v : Value} {xs : List α} {wr : World} (h : Acc RV size e base S v xs wr) : ∀ q, v.ownBlock = some q → ∃ o, wr.heap[q]? = some o ∧ o.isCells = true := by
  obtain ⟨ys, h1⟩ := h.own
  rcases h1.2 with ⟨rfl, h0⟩ | ⟨g, cap, cur, rfl, hb, hh, hnc, hcm, _⟩
  · intro q hq; cases hq
  · intro q hq
    injection hq with hq
    subst hq
    exact ⟨_, hh, rfl⟩
theorem Acc.other {α : Type} {RV : CM → List Value → α → Prop} [MonoV RV] {size : Nat} {e : TypeId} {base : Nat} {v : Value} {xs : List α} {X Y : World} {row : Option Nat} (h1 : Acc RV size e base (fun _ => False) v xs X) (hg : X.grownBy Y row) (hr : ∀ r, row = some r → ∃ o : Obj, X.heap[r]? = some o ∧ o.isCells = false) : Acc RV size e base (fun _ => False) v xs Y := by
  refine h1.grown hg ?_ (fun _ h => h.elim)
  cases hq : v.ownBlock with
  | none => exact .inl rfl
  | some q =>
    refine .inr (fun e => ?_)
    obtain ⟨o, ho, hc⟩ := h1.cells q hq
    obtain ⟨o', ho', hc'⟩ := hr q e.symm
    rw [ho] at ho'
    injection ho' with ho'
    subst ho'
    rw [hc] at hc'
    cases hc'
theorem Acc.owned {α : Type} {RV : CM → List Value → α → Prop} [MonoV RV] {size : Nat} {e : TypeId} {base B k : Nat} {t : TypeId} : OwnFrom B (fun (xs : List α) W => ∃ v, Acc RV size e base (fun _ => False) v xs W ∧ Blk W k t [v]) := fun _ X Y row ⟨v, h1, h2⟩ hg hr =>
  ⟨v, h1.other hg (fun r e => (hr r e).2), blk_own k t (fun (_ : Unit) => [v]) () X Y row h2 hg (fun r e => (hr r e).2)⟩
/-- A round that appends to the caller's slice. -/
theorem KeepI.push {n0 B k : Nat} {W W1 : World} {v v' : Value} {t : TypeId} (hb : Blk W k t [v]) (hg : W.grownBy W1 v.ownBlock) (hv : v'.ownBlock = v.ownBlock ∨ v'.ownBlock = some W.heap.size) (hlt : ∀ q, v'.ownBlock = some q → q < W1.heap.size) (hne : v.ownBlock ≠ some k)
    (hlow : ∀ q, v.ownBlock = some q → n0 ≤ q) (hn0 : n0 ≤ W.heap.size) (hk0 : n0 ≤ k) (hkB : k < B) : KeepI n0 B (some k) W (W1.setCell ⟨k, 0, none⟩ v') := by
  have hk := hb.lt
  have hb1 : Blk W1 k t [v] := (hg.block k hk (fun e => hne e.symm)).trans hb
  have hb2 := hb1.set_ 0 v'
  have c0 : cOf (some k) W = v.ownBlock := by unfold cOf; dsimp only; rw [hb.cell 0]; rfl
  have c2 : cOf (some k) (W1.setCell ⟨k, 0, none⟩ v') = v'.ownBlock := by unfold cOf; dsimp only; rw [hb2.cell 0]; rfl
  have hl : Below n0 W W1 := (Below.refl n0 W).grown hg hn0 hlow
  have hsz : (W1.setCell ⟨k, 0, none⟩ v').heap.size = W1.heap.size := by simp [World.setCell]
  refine ⟨hl.setCell hk0 _, by rw [hsz]; exact hg.size, fun q cur t fr hB hne2 hq => ?_, ?_, fun _ q e => ?_⟩
  · rw [c0] at hne2
    exact (Below.heap_setCell _ _ _ _ (by simp; omega)).trans ((hg.block q (lt_of_block hq) hne2).trans hq)
  · rw [c0, c2]
    rcases hv with e | e
    · exact .inl e
    · exact .inr ⟨_, e, Nat.le_refl _⟩
  · rw [c2] at e
    rw [hsz]
    exact hlt q e
theorem keepsFrom_push {B k : Nat} {W W1 : World} {v v' : Value} (hc : ∀ q, v.ownBlock = some q → ∃ o, W.heap[q]? = some o ∧ o.isCells = true) (hg : W.grownBy W1 v.ownBlock) : KeepsFrom B W (W1.setCell ⟨k, 0, none⟩ v') := by
  refine KeepsFrom.trans (Y := W1) ⟨hg.size, fun i o hB h1 h2 => ?_⟩ ((KeepsOthers.setCell _ _ _).from _)
  refine (hg.block i (Array.getElem?_eq_some_iff.1 h1).1 (fun e => ?_)).trans h1
  obtain ⟨o', h3, h4⟩ := hc i e.symm
  rw [h1] at h3
  injection h3 with h3
  subst h3
  rw [h4] at h2
  cases h2
theorem stop_appendIn {F : Fence} {n : Nat} {P : Program} {ops : Array Oper} {rest : List Oper} {o : Oper} {a : Act} {w : World} {Q : Exit → Act → World → Prop} {args : Array Operand} {ts : Array TypeId} (_ho : o.op = .call { callee := .builtin .append, args := args, argTypes := ts }) (h : Stop (wpListIn F n P ops Q (o :: rest) a w)) : wpListIn F n P ops Q (o :: rest) a w := h.out
theorem wpListIn_app_one {F : Fence} {n' : Nat} {P : Program} {t e size bytes : Nat} {z : Value} (T : SlT P t e size bytes z) {ops : Array Oper} {rest : List Oper} {o : Oper} {a : Act} {w : World} {Q : Exit → Act → World → Prop} (hgd : o.guard = none) (s x : Operand)
    (ho : o.op = .call { callee := .builtin .append, args := #[s, x], argTypes := #[t, t] })
    (base : Nat) (v : Value) (n : Nat) (xs : List Value) (hs : a.eval s = v) (hown : w.ownsRow base e size v n xs)
    (g off c : Nat) (news : List Value) (hx : a.eval x = .slice (some ⟨g, off, none⟩) 1 c) (hl : news.length = size) (hnews : ∀ j u, news[j]? = some u → w.cell? ⟨g, off + j, none⟩ = some u) (h1 : ∀ u ∈ news, u.oneCell' = true)
    (hn : n < 4294967296) (hb : bytes ≤ 1024) (hbase : base ≤ w.heap.size)
    (h : ∀ v' w', w'.ownsRow base e size v' (n + 1) (xs ++ news) → w.grownBy w' v.ownBlock → (v'.ownBlock = v.ownBlock ∨ v'.ownBlock = some w.heap.size) → wpListIn F n' P ops Q rest (a.put o.dst v') w') : wpListIn F n' P ops Q (o :: rest) a w := by
  refine wpListIn_plain hgd fun K hK => ?_
  obtain ⟨i, hi, hz, hsz, hby⟩ := T.info
  obtain ⟨v', w', hr, h2, h3, _, h5⟩ := run_append_own_at (P := P) w base t o.type e i z size bytes T.ht hi hz hsz hby T.hzs T.hsz v n xs hown ⟨g, off, none⟩ 1 c news (by omega) (fun j u hj => by rw [add_mk]; exact hnews j u hj) h1 (by simp only [maxLen]; omega) (by
    have : (n + 1) * bytes ≤ 4294967296 * 1024 := Nat.mul_le_mul (by omega) hb
    omega) hbase
  unfold Oper.wpIn
  refine ⟨?_, ?_⟩
  · simp [Oper.about, ho, resolve, Sem.run_pure, Target.leads]
  · rw [Oper.semAt_plain F _ _ (by rw [ho]; intro c hc'; cases hc')]
    unfold execOp
    simp only [ho, resolve, invoke, builtin, Sem.run_bind, Sem.run_pure, Result.andThen_ok, List.map_toArray, List.map_cons, List.map_nil, hs, hx, hr]
    exact hK _ _ (h v' w' h2 h3 h5)
theorem sl_pairs : SlT Try.prog 38 46 4 32 (.agg #[.int .i64 0, .int .i64 0, .int .i64 0, .int .i64 0]) := SlT.mk' Try.underlying38 (by kernel_rfl) rfl (by omega)
set_option maxRecDepth 100000 in
set_option maxHeartbeats 8000000 in
theorem races_own (u : Unit_) (cs : List Value) (w : World) (hu : UnitV (cmap w) cs u) (hok : UOk u) :
    Calls Try.prog 19 #[.agg cs.toArray] w fun e w' => (checkF u = none ∧ (raceA u).length ≤ 65536 ∧ ∃ v, e = .returned (.tuple #[v, .int .i64 0]) ∧ Sl (Cells RaceV) 4 (part w' w.heap.size w'.heap.size) v (raceA u) ∧ Below w.heap.size w w' ∧ OkRow w' w.heap.size 46 4 v (raceA u).length) ∨
      (∃ k : Int, ((k = 60 ∧ checkF u ≠ none) ∨ (k = 3 ∧ checkF u = none ∧ 65536 < (raceA u).length)) ∧ e = .returned (.tuple #[.slice none 0 0, .int .i64 k]) ∧ Below w.heap.size w w') := by
  have hu0 := hu
  obtain ⟨sv, lv, gv, rfl, hs, hl, hg⟩ := hu
  have hbx : Blk (((w.alloc (.cells #[sv, lv, gv] 25)).alloc (.cells #[.slice none 0 0] 38)).alloc (.cells #[.int .i64 0] 27)) w.heap.size 25 [sv, lv, gv] := ((Blk.new w _ [sv, lv, gv]).alloc _).alloc _
  have hb2 : Blk (((w.alloc (.cells #[sv, lv, gv] 25)).alloc (.cells #[.slice none 0 0] 38)).alloc (.cells #[.int .i64 0] 27)) (w.heap.size + 1) 38 [.slice none 0 0] := (Blk.of (heap_new (w.alloc _) _ _ (by simp)) rfl).alloc _
  have hb3 : Blk (((w.alloc (.cells #[sv, lv, gv] 25)).alloc (.cells #[.slice none 0 0] 38)).alloc (.cells #[.int .i64 0] 27)) (w.heap.size + 1 + 1) 27 [.int .i64 0] := Blk.of (heap_new ((w.alloc _).alloc _) _ _ (by simp)) rfl
  have hbw : Below w.heap.size w (((w.alloc (.cells #[sv, lv, gv] 25)).alloc (.cells #[.slice none 0 0] 38)).alloc (.cells #[.int .i64 0] 27)) := ((Below_alloc' _ _).alloc (by simp) _).alloc (by simp; omega) _
  have hS3 : (((w.alloc (.cells #[sv, lv, gv] 25)).alloc (.cells #[.slice none 0 0] 38)).alloc (.cells #[.int .i64 0] 27)).heap.size = w.heap.size + 3 := by simp
  have HLD : Hid (∀ j v, ([sv, lv, gv] : List Value)[j]? = some v → (((w.alloc (.cells #[sv, lv, gv] 25)).alloc (.cells #[.slice none 0 0] 38)).alloc (.cells #[.int .i64 0] 27)).cell? ⟨w.heap.size, 0 + j, none⟩ = some v) := Lib.hid fun j v hj => by rw [Nat.zero_add, hbx.cell]; exact hj
  have HW := Lib.hid hbw; clear hbw
  have HB1 := Lib.hid hbx; have HB2 := Lib.hid hb2; have HB3 := Lib.hid hb3; clear hbx hb2 hb3
  refine (callsIn_wide (n := 22)).1 ?_
  refine callsIn_of_wp_marks Try.func19 rfl trivial ?_ rfl
  simp only [Try.ntmps19, List.size_toArray, List.length_cons, List.length_nil, Nat.reduceAdd, Nat.reduceSub, Array.replicate_succ, Array.replicate_zero, List.push_toArray, List.append_toArray, List.nil_append, List.cons_append]
  gi_wp2_with (first
    | (refine wpListIn_load_at rfl 25 _ rfl w.heap.size 0 rfl _ _ HLD.out Try.underlying25 rfl (by kernel_rfl) ?_))
  refine ⟨trivial, ?_⟩
  obtain ⟨w3, hw3⟩ : ∃ w3, ((w.alloc (.cells #[sv, lv, gv] 25)).alloc (.cells #[.slice none 0 0] 38)).alloc (.cells #[.int .i64 0] 27) = w3 := ⟨_, rfl⟩
  have hbx := HB1.out; have hb2 := HB2.out; have hb3 := HB3.out; have hbw := HW.out
  rw [hw3] at hbx hb2 hb3 hbw hS3
  rw [hw3]
  clear hw3 HB1 HB2 HB3 HLD HW
  refine (callsIn_wide.2 (check_calls u [sv, lv, gv] _ (hu0.mono (cmap_below hbw)) hok)).mono ?_
  rintro e w1 ⟨rfl, hb1⟩
  have hbx1 := hbx.below hb1 hbx.lt
  have hb21 := hb2.below hb1 hb2.lt
  have hb31 := hb3.below hb1 hb3.lt
  have hs1 := hb1.size
  have hw1 : Below w.heap.size w w1 := hbw.trans (hb1.mono hbw.size)
  obtain ⟨r, hr⟩ : ∃ r, checkF u = r := ⟨_, rfl⟩
  have c2 := hb21.cell 0
  have c3 := hb31.cell 0
  have f2 := hb21.frozen 0
  have f3 := hb31.frozen 0
  cases r with
  | some ti =>
    obtain ⟨t, i⟩ := ti
    rw [hr]
    unfold checkV
    have HRS := Lib.hid hr; clear hr
    gi_wp2
    have hb22 : Blk ((w1.setCell ⟨w.heap.size + 1, 0, none⟩ (.slice none 0 0)).setCell ⟨w.heap.size + 1 + 1, 0, none⟩ (.int .i64 60)) (w.heap.size + 1) 38 [.slice none 0 0] := (hb21.set_ 0 (.slice none 0 0)).far (by simp) _
    have hb32 : Blk ((w1.setCell ⟨w.heap.size + 1, 0, none⟩ (.slice none 0 0)).setCell ⟨w.heap.size + 1 + 1, 0, none⟩ (.int .i64 60)) (w.heap.size + 1 + 1) 27 [.int .i64 60] := (hb31.far (by simp) _).set_ 0 (.int .i64 60)
    have k2 := hb22.cell 0
    have k3 := hb32.cell 0
    exact ⟨_, by simp [results, Try.results19, go_sem, k2, k3], .inr ⟨60, .inl ⟨rfl, by rw [HRS.out]; simp⟩, rfl, (hw1.setCell (by simp) _).setCell (by simp; omega) _⟩⟩
  | none =>
    have hru := checkF_none hr
    rw [hr]
    unfold checkV
    have HR := Lib.hid hr; clear hr
    have HLD1 : Hid (∀ j v, ([sv, lv, gv] : List Value)[j]? = some v → (w1.alloc (.cells #[.slice none 0 0] 38)).cell? ⟨w.heap.size, 0 + j, none⟩ = some v) := Lib.hid fun j v hj => by rw [Nat.zero_add, (hbx1.alloc _).cell]; exact hj
    gi_wp2_with (first
      | (refine wpListIn_load_at rfl 25 _ rfl w.heap.size 0 rfl _ _ HLD1.out Try.underlying25 rfl (by kernel_rfl) ?_))
    refine ⟨trivial, ?_⟩
    refine (callsIn_wide.2 (races_made [sv, lv, gv] rfl _)).mono ?_
    rintro e w2 ⟨rfl, rfl⟩
    gi_wp2
    have hbo : Blk ((w1.alloc (.cells #[.slice none 0 0] 38)).alloc (.cells [sv, lv, gv].toArray 25)) w1.heap.size 38 [.slice none 0 0] := (Blk.new w1 _ [.slice none 0 0]).alloc _
    have hbt : Blk ((w1.alloc (.cells #[.slice none 0 0] 38)).alloc (.cells [sv, lv, gv].toArray 25)) (w1.heap.size + 1) 25 [sv, lv, gv] := Blk.of (heap_new (w1.alloc _) _ _ (by simp)) rfl
    have hb22 := (hb21.alloc (.cells #[.slice none 0 0] 38)).alloc (.cells [sv, lv, gv].toArray 25)
    have hb32 := (hb31.alloc (.cells #[.slice none 0 0] 38)).alloc (.cells [sv, lv, gv].toArray 25)
    have hbl : Below w.heap.size w ((w1.alloc (.cells #[.slice none 0 0] 38)).alloc (.cells [sv, lv, gv].toArray 25)) := hw1.trans (((Below_alloc' _ _).alloc (by simp) _).mono hw1.size)
    have hSl : ((w1.alloc (.cells #[.slice none 0 0] 38)).alloc (.cells [sv, lv, gv].toArray 25)).heap.size = w1.heap.size + 2 := by simp
    obtain ⟨wl, hwl⟩ : ∃ wl, (w1.alloc (.cells #[.slice none 0 0] 38)).alloc (.cells [sv, lv, gv].toArray 25) = wl := ⟨_, rfl⟩
    rw [hwl] at hbo hbt hb22 hb32 hbl hSl
    rw [show (w1.alloc (.cells #[.slice none 0 0] 38)).alloc (.cells #[sv, lv, gv] 25) = wl from hwl]
    clear hwl HLD1 c2 c3 f2 f3 hb21 hb31 hbx1 hbx hb2 hb3
    have hul : UnitV (part wl 0 w.heap.size) [sv, lv, gv] u := (hu0.mono (cmap_part w)).mono (part_belowL hbl)
    have hc0 : cOf (some w1.heap.size) wl = none := by unfold cOf; dsimp only; rw [hbo.cell 0]; rfl
    have hk7 : ∀ k, some w1.heap.size = some k → k = w1.heap.size := fun k e => by injection e with e; exact e.symm
    refine wp_act fun a0 ha0 => ?_
    refine range_out rfl (by decide) (gf := 78) (lb := #[.pointer (some ⟨w1.heap.size + 1, 0, none⟩)]) (by rw [ha0]; rfl) trivial (enters_of Try.func78 (by kernel_rfl) rfl)
      (races_stops u hru [sv, lv, gv] rfl (w1.heap.size + 1) w.heap.size (w1.heap.size + 1) (some w1.heap.size) wl (by omega) (Nat.le_refl _) (fun k e => by have := hk7 k e; omega) (fun q e => by rw [hc0] at e; cases e) hbt hul)
      (fun h k => KeepI.trans h k) (fun W l o o' hl ho hc => KeepI.putObj W l o o' (by omega) (fun k e => by have := hk7 k e; omega) ho hc) (fun _ => rfl)
      (fun pre W => (∃ v, Acc RaceV 4 46 w.heap.size (fun _ => False) v pre W ∧ Blk W w1.heap.size 38 [v]) ∧ (Blk W (w.heap.size + 1) 38 [.slice none 0 0] ∧ Blk W (w.heap.size + 1 + 1) 27 [.int .i64 0]) ∧ Below w.heap.size w W ∧ pre.length ≤ 65536 ∧ w1.heap.size + 2 ≤ W.heap.size)
      (fun c xs W => c = .ret ∧ (Blk W (w.heap.size + 1) 38 [.slice none 0 0] ∧ Blk W (w.heap.size + 1 + 1) 27 [.int .i64 3]) ∧ Below w.heap.size w W ∧ 65536 < xs.length)
      (OwnFrom.and Acc.owned (OwnFrom.and (OwnFrom.and (Own.from (blk_own _ _ _) _) (Own.from (blk_own _ _ _) _)) (OwnFrom.and (ownFrom_below (Nat.le_refl _) (by omega)) (fun _ _ _ _ hs hg _ => ⟨hs.1, Nat.le_trans hs.2 hg.size⟩))))
      (fun c => OwnFrom.and (fun _ _ _ _ hs _ _ => hs) (OwnFrom.and (OwnFrom.and (Own.from (blk_own _ _ _) _) (Own.from (blk_own _ _ _) _)) (OwnFrom.and (ownFrom_below (Nat.le_refl _) (by omega)) (fun _ _ _ _ hs _ _ => hs))))
      ⟨⟨_, Acc.nil _ _ _ _ _, hbo⟩, ⟨hb22, hb32⟩, hbl, by simp, by omega⟩
      (fun x a' W => ∃ Bx, w1.heap.size + 2 ≤ Bx ∧ Blk W Bx 46 (rcCells x) ∧ a' = { tmps := (a0.tmps.setIfInBounds 20 (.agg (rcCells x).toArray)).setIfInBounds 8 (.pointer (some ⟨Bx, 0, none⟩)), defers := [] })
      (fun x a' _ X Y row hs hg hr => by obtain ⟨Bx, h1, h2, h3⟩ := hs; exact ⟨Bx, h1, blk_own Bx _ (fun (_ : Unit) => rcCells x) () X Y row h2 hg (fun r e => (hr r e).2), h3⟩)
      ?assign ?body ?done ?stop
    case assign =>
      rintro l pre x W K ⟨⟨v, j1, j2⟩, ⟨j3, j4⟩, j5, j6⟩ hK
      subst ha0
      obtain ⟨j6, hnl⟩ := j6
      have hfin := hK { tmps := _, defers := [] } _ ((KeepsOthers.alloc W (.cells (rcCells x).toArray 46)).from _) (KeepI.below (Below_alloc' W (.cells (rcCells x).toArray 46)) (by omega) (fun k e => by have := hk7 k e; omega)) ⟨⟨v, j1.alloc _, j2.alloc _⟩, ⟨j3.alloc _, j4.alloc _⟩, j5.alloc (by omega) _, j6, by simp; omega⟩ ⟨W.heap.size, hnl, Blk.new W _ _, rfl⟩
      unfold rcEnc
      unfold rcCells at hfin
      have HFIN := Lib.hid hfin; clear hfin hK
      gi_wp2
      exact HFIN.out
    case body =>
      rintro l pre x a' W ⟨⟨v, j1, j2⟩, ⟨j3, j4⟩, j5, j6⟩ ⟨Bx, hBx, bX, rfl⟩ hlt
      subst ha0
      obtain ⟨A, c, rfl, hac⟩ := j1.form
      obtain ⟨j6, hnl⟩ := j6
      have co := j2.cell 0
      have fo := j2.frozen 0
      have c2 := j3.cell 0
      have c3 := j4.cell 0
      have f2 := j3.frozen 0
      have f3 := j4.frozen 0
      have hs5 := j5.size
      by_cases hful : pre.length = 65536
      · have e1 : ((pre.length : Int) == 65536) = true := by simp; omega
        have HF := Lib.hid hful; clear hful
        gi_wp2
        exact ⟨((KeepsOthers.setCell _ _ _).from _).trans ((KeepsOthers.setCell _ _ _).from _), rfl, ⟨(j3.set_ 0 (.slice none 0 0)).far (by simp) _, (j4.far (by simp) _).set_ 0 (.int .i64 3)⟩, (j5.setCell (by simp) _).setCell (by simp; omega) _, by have := HF.out; simp; omega⟩
      · have e1 : ((pre.length : Int) == 65536) = false := by simp; omega
        have HX : Hid (∀ j v, (rcCells x)[j]? = some v → W.cell? ⟨Bx, 0 + j, none⟩ = some v) := Lib.hid fun j v hj => by rw [Nat.zero_add, bX.cell]; exact hj
        have bX0 := bX
        unfold rcCells
        unfold rcCells at HX bX
        gi_wp2_with (first
          | (refine wpListIn_load_at rfl 46 _ rfl Bx 0 rfl _ _ HX.out Try.underlying46 rfl (by kernel_rfl) ?_)
          | (refine stop_appendIn rfl ?_))
        have j1a := j1.alloc (.cells #[.int .i64 x.1.1.t, .int .i64 x.1.1.i, .int .i64 x.2.1.t, .int .i64 x.2.1.i] 46)
        have j2a := j2.alloc (.cells #[.int .i64 x.1.1.t, .int .i64 x.1.1.i, .int .i64 x.2.1.t, .int .i64 x.2.1.i] 46)
        have j3a := j3.alloc (.cells #[.int .i64 x.1.1.t, .int .i64 x.1.1.i, .int .i64 x.2.1.t, .int .i64 x.2.1.i] 46)
        have j4a := j4.alloc (.cells #[.int .i64 x.1.1.t, .int .i64 x.1.1.i, .int .i64 x.2.1.t, .int .i64 x.2.1.i] 46)
        have j5a := j5.alloc (by omega) (.cells #[.int .i64 x.1.1.t, .int .i64 x.1.1.i, .int .i64 x.2.1.t, .int .i64 x.2.1.i] 46)
        obtain ⟨rows, r1, r2, r3, r4⟩ := j1a.rows
        refine Stop.intro ?_
        refine wpListIn_app_one sl_pairs rfl (.tmp 24) (.tmp 26) rfl w.heap.size _ pre.length rows.flatten rfl r1 W.heap.size 0 1 (rcCells x) rfl rfl (cell_newl W _ _ _ rfl) ?_ (by omega) (by decide) (by simp; omega) ?_
        · intro u hu
          unfold rcCells at hu
          simp only [List.mem_cons, List.not_mem_nil, or_false] at hu
          rcases hu with rfl | rfl | rfl | rfl <;> rfl
        intro v' w' ho hgr hob
        have hacc : Acc RaceV 4 46 w.heap.size (fun _ => False) v' (pre ++ [x]) w' := j1a.push r2 r3 r4 (r := rcCells x) rfl ho hgr hob (fun _ h => h) (fun _ h => h.elim) rfl
        obtain ⟨A', c', rfl, hac'⟩ := own_slice ho
        have hne := j1a.blk j2a (by decide)
        have j2w := j2a.grown hgr hne
        have j3w := j3a.grown hgr (j1a.blk j3a (by decide))
        have j4w := j4a.grown hgr (j1a.blk j4a (by decide))
        have j5w := j5a.grown hgr (by simp; omega) (fun k e => (j1a.lt k e).1)
        have hgs := hgr.size
        have co' := j2w.cell 0
        have fo' := j2w.frozen 0
        have hkf : KeepsFrom wl.heap.size W (w'.setCell ⟨w1.heap.size, 0, none⟩ (.slice A' (pre.length + 1) c')) := KeepsFrom.trans ((KeepsOthers.alloc _ _).from _) (keepsFrom_push (fun q hq => j1a.cells q hq) hgr)
        have hki : KeepI w.heap.size (w1.heap.size + 1) (some w1.heap.size) W (w'.setCell ⟨w1.heap.size, 0, none⟩ (.slice A' (pre.length + 1) c')) := (KeepI.below (Below_alloc' W _) (by omega) (fun k e => by have := hk7 k e; omega)).trans (KeepI.push j2a hgr hob (fun q hq => (hacc.lt q hq).2) (fun e => hne e.symm) (fun q hq => (j1a.lt q hq).1) (by simp; omega) (by omega) (by omega))
        have hacc2 := hacc.setCell (p := ⟨w1.heap.size, 0, none⟩) (fun e => hacc.blk j2w (by decide) e.symm) (fun h => h) (.slice A' (pre.length + 1) c')
        have hsz : w1.heap.size + 2 ≤ (w'.setCell ⟨w1.heap.size, 0, none⟩ (.slice A' (pre.length + 1) c')).heap.size := by simp [World.setCell]; simp at hgs; omega
        have HACC := Lib.hid hacc2; have HKF := Lib.hid hkf; have HKI := Lib.hid hki
        clear hacc hacc2 hkf hki r1 r2 r3 r4 ho hgr hob j1 j1a
        gi_wp2
        exact ⟨HKF.out, HKI.out, ⟨_, HACC.out, j2w.set_ 0 _⟩, ⟨j3w.far (by simp; omega) _, j4w.far (by simp; omega) _⟩, j5w.setCell (by simp; omega) _, by simp; omega, hsz⟩
    case done =>
      rintro D zs W hD rfl ⟨⟨v, j1, j2⟩, ⟨j3, j4⟩, j5, j6⟩ hK
      subst ha0
      obtain ⟨A, c, rfl, hac⟩ := j1.form
      have hs5 := j5.size
      have co := j2.cell 0
      have c2 := j3.cell 0
      have c3 := j4.cell 0
      have f2 := j3.frozen 0
      have f3 := j4.frozen 0
      obtain ⟨v, hv⟩ : ∃ v, v = Value.slice A (raceA u).length c := ⟨_, rfl⟩
      have a1 := j1.setCell (p := ⟨w.heap.size + 1, 0, none⟩) (fun e => j1.blk j3 (by decide) e.symm) (fun h => h) (Value.slice A (raceA u).length c)
      have a2 := a1.setCell (p := ⟨w.heap.size + 1 + 1, 0, none⟩) (fun e => j1.blk j4 (by decide) e.symm) (fun h => h) (Value.int .i64 0)
      have m3 := (j3.set_ 0 (Value.slice A (raceA u).length c)).far (p := ⟨w.heap.size + 1 + 1, 0, none⟩) (by simp) (Value.int .i64 0)
      have m4 := (j4.far (p := ⟨w.heap.size + 1, 0, none⟩) (by simp) (Value.slice A (raceA u).length c)).set_ 0 (Value.int .i64 0)
      have m5 := (j5.setCell (p := ⟨w.heap.size + 1, 0, none⟩) (by simp) (Value.slice A (raceA u).length c)).setCell (p := ⟨w.heap.size + 1 + 1, 0, none⟩) (by simp; omega) (Value.int .i64 0)
      have hK2 : ((W.setCell ⟨w.heap.size + 1, 0, none⟩ (Value.slice A (raceA u).length c)).setCell ⟨w.heap.size + 1 + 1, 0, none⟩ (Value.int .i64 0)).heap[D]? = some (.deferred (some [])) := (Below.heap_setCell _ _ _ _ (by simp; omega)).trans ((Below.heap_setCell _ _ _ _ (by simp; omega)).trans hK)
      have hp := grownBy_putObj' ((W.setCell ⟨w.heap.size + 1, 0, none⟩ (Value.slice A (raceA u).length c)).setCell ⟨w.heap.size + 1 + 1, 0, none⟩ (Value.int .i64 0)) D (.deferred none)
      have a3 := a2.other hp (fun r e => by cases e; exact ⟨_, hK2, rfl⟩)
      have n3 := m3.grown hp (fun e => by injection e with e; omega)
      have n4 := m4.grown hp (fun e => by injection e with e; omega)
      have k3 := n3.cell 0
      have k4 := n4.cell 0
      have n5 := m5.trans (belowK_b (w := w) (Nat.le_refl _) _ D _ (.deferred none) (by omega) hK2 rfl rfl)
      have hsl := a3.done (Nat.le_refl _) (Nat.le_refl _)
      obtain ⟨rows9, r9, -⟩ := a3.rows
      have hok9 : OkRow _ w.heap.size 46 4 (.slice A (raceA u).length c) (raceA u).length := ⟨_, r9⟩
      have HOK9 := Lib.hid hok9; clear hok9 r9
      have HSL := Lib.hid hsl; have HK2 := Lib.hid hK2; have K3 := Lib.hid k3; have K4 := Lib.hid k4
      clear hsl hK2 k3 k4 a1 a2 a3 m3 m4 n3 n4
      gi_wp2
      refine ⟨by simp, .inl ⟨_, _, rfl, run_takeDeferred HK2.out, ?_⟩⟩
      exact ⟨.tuple #[.slice A (raceA u).length c, .int .i64 0], by have k3 := K3.out; have k4 := K4.out; simp at k3 k4; simp [results, Try.results19, go_sem, k3, k4], .inl ⟨HR.out, j6.1, _, rfl, HSL.out, n5, HOK9.out⟩⟩
    case stop =>
      rintro D c pre W hD hpre ⟨rfl, ⟨j3, j4⟩, j5, jl⟩ hK
      subst ha0
      have hs5 := j5.size
      have hp := grownBy_putObj' W D (.deferred none)
      have n3 := j3.grown hp (fun e => by injection e with e; omega)
      have n4 := j4.grown hp (fun e => by injection e with e; omega)
      have k3 := n3.cell 0
      have k4 := n4.cell 0
      have K3 := Lib.hid k3; have K4 := Lib.hid k4
      clear k3 k4
      gi_wp2
      refine ⟨by simp, .inl ⟨_, _, rfl, run_takeDeferred hK, ?_⟩⟩
      exact ⟨.tuple #[.slice none 0 0, .int .i64 3], by have k3 := K3.out; have k4 := K4.out; simp at k3 k4; simp [results, Try.results19, go_sem, k3, k4], .inr ⟨3, .inr ⟨rfl, HR.out, by have := hpre.length_le; omega⟩, rfl, j5.trans (belowK_b (w := w) (Nat.le_refl _) _ D _ (.deferred none) (by omega) hK rfl rfl)⟩⟩
theorem races_calls (u : Unit_) (cs : List Value) (w : World) (hu : UnitV (cmap w) cs u) (hok : UOk u) :
    Calls Try.prog 19 #[.agg cs.toArray] w fun e w' => (checkF u = none ∧ (raceA u).length ≤ 65536 ∧ ∃ v, e = .returned (.tuple #[v, .int .i64 0]) ∧ Sl (Cells RaceV) 4 (part w' w.heap.size w'.heap.size) v (raceA u) ∧ Below w.heap.size w w') ∨
      (∃ k : Int, ((k = 60 ∧ checkF u ≠ none) ∨ (k = 3 ∧ checkF u = none ∧ 65536 < (raceA u).length)) ∧ e = .returned (.tuple #[.slice none 0 0, .int .i64 k]) ∧ Below w.heap.size w w') := by
  refine (races_own u cs w hu hok).mono ?_
  rintro e w' (⟨h1, v, h2, h3, h4, h5, -⟩ | h)
  · exact .inl ⟨h1, v, h2, h3, h4, h5⟩
  · exact .inr h
end Go.Proofs.Ytkkmkjjbffpgnaa
