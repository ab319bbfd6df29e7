import Derived.Test.YtkkmkjjbffpgnaaP30
import Derived.Test.YtkkmkjjbffpgnaaP49
import Derived.Test.YtkkmkjjbffpgnaaP48
import Derived.Test.YtkkmkjjbffpgnaaP32
/- The walk of sharing.Touches. -/
namespace Go.Proofs.Ytkkmkjjbffpgnaa
open Go Go.RowKit Go.Shelf
attribute [local go_sem] Oper.semAt_some
theorem stop_lookupIn {F : Fence} {n : Nat} {P : Program} {ops : Array Oper} {rest : List Oper} {o : Oper} {a : Act} {w : World} {Q : Exit → Act → World → Prop} {t : TypeId} {x y : Operand} {b : Bool} (_ho : o.op = .lookup t x y b) (h : Stop (wpListIn F n P ops Q (o :: rest) a w)) : wpListIn F n P ops Q (o :: rest) a w := h.out
theorem sl_touch : SlT Try.prog 26 42 2 48 (.agg #[.slice none 0 0, .slice none 0 0]) := SlT.mk' Try.underlying26 (by kernel_rfl) rfl (by omega)
theorem Blk.ne' {w : World} {g g' : Nat} {t t' : TypeId} {cs cs' : List Value} (h : Blk w g t cs) (h' : Blk w g' t' cs') (hne : t ≠ t') : g ≠ g' := by
  intro e
  subst e
  unfold Blk at h h'
  rw [h] at h'
  injection h' with h'
  injection h' with _ q
  exact hne q
theorem rd_touch9 (n : Node) (h : rdB n = true) : touchB n = true := by rw [touch_rw, h]; rfl
theorem wr_touch9 (n : Node) (h : wrB n = true) : touchB n = true := by rw [touch_rw, h]; simp
theorem map_own {β : Type} {B b : Nat} (hb : b < B) (F : β → Int × Int → Option Value) : OwnFrom B (fun s W => MapIs kvP decP W b (F s)) := fun s X Y row hs hg hr =>
  hs.grown hg (fun e => by have := (hr b e.symm).1; omega)
theorem KeepI.turn {n0 B q : Nat} {W W' : World} (hg : W.grownBy W' (some q)) (hn : n0 ≤ q) (hB : q < B) (hn0 : n0 ≤ W.heap.size) : KeepI n0 B none W W' :=
  ⟨(Below.refl n0 W).grown hg hn0 (fun k e => by injection e with e; omega), hg.size, fun b cur t fr hb _ hq => (hg.block b (lt_of_block hq) (fun e => by injection e with e; omega)).trans hq, .inl rfl, fun _ q e => by cases e⟩
set_option maxRecDepth 100000 in
set_option maxHeartbeats 8000000 in
theorem tou_own (u : Unit_) (cs : List Value) (w : World) (hu : UnitV (cmap w) cs u) (hok : UOk u) :
    Calls Try.prog 11 #[.agg cs.toArray] w fun e w' => (checkF u = none ∧ ∃ v, e = .returned (.tuple #[v, .int .i64 0]) ∧ Sl (Cells touV) 2 (part w' w.heap.size w'.heap.size) v ((List.range u.shared.length).map (touF u)) ∧ Below w.heap.size w w' ∧ OkTous w' w.heap.size 42 3 v u.shared.length 4096) ∨
      (checkF u ≠ none ∧ e = .returned (.tuple #[.slice none 0 0, .int .i64 60]) ∧ Below w.heap.size w w') := by
  have hu0 := hu
  obtain ⟨sv, lv, gv, rfl, hs, hl, hg⟩ := hu
  obtain ⟨sA, sc, rfl, -⟩ := id hs
  obtain ⟨gA, gc, rfl, -⟩ := id hg
  have hbx := Blk.new w 25 [.slice sA u.shared.length sc, lv, .slice gA u.graphs.length gc]
  have HLD : Hid (∀ j v, ([.slice sA u.shared.length sc, lv, .slice gA u.graphs.length gc] : List Value)[j]? = some v → (w.alloc (.cells #[.slice sA u.shared.length sc, lv, .slice gA u.graphs.length gc] 25)).cell? ⟨w.heap.size, 0 + j, none⟩ = some v) := cell_newl w _ _ _ rfl
  refine (callsIn_wide (n := 7)).1 ?_
  refine callsIn_of_wp_marks Try.func11 rfl trivial ?_ rfl
  simp only [Try.ntmps11, List.size_toArray, List.length_cons, List.length_nil, Nat.reduceAdd, Nat.reduceSub, Array.replicate_succ, Array.replicate_zero, List.push_toArray, List.append_toArray, List.nil_append, List.cons_append]
  gi_wp2_with (first
    | (refine wpListIn_load_at rfl 25 _ rfl w.heap.size 0 rfl _ _ HLD.out Try.underlying25 rfl (by kernel_rfl) ?_))
  refine ⟨trivial, ?_⟩
  refine (callsIn_wide.2 (check_calls u [.slice sA u.shared.length sc, lv, .slice gA u.graphs.length gc] _ (hu0.mono (cmap_alloc _ _)) hok)).mono ?_
  rintro e w1 ⟨rfl, hb1⟩
  obtain ⟨r, hr⟩ : ∃ r, checkF u = r := ⟨_, rfl⟩
  have hw1 : Below w.heap.size w w1 := (Below_alloc' _ _).trans (hb1.mono (by simp))
  cases r with
  | some ti =>
    obtain ⟨t, i⟩ := ti
    rw [hr]
    unfold checkV
    have HR := Lib.hid hr; clear hr
    gi_wp2
    exact ⟨_, by simp [results, Try.results11, go_sem], .inr ⟨by rw [HR.out]; simp, rfl, hw1⟩⟩
  | none =>
    have hru := checkF_none hr
    rw [hr]
    unfold checkV
    have HR := Lib.hid hr; clear hr
    have hbx1 := hbx.below hb1 hbx.lt
    have lw1 := hbx1.lt
    have hmm := @run_makeMap Try.prog
    have hbr0 : MapIs kvP decP ((((w1.alloc (.map #[] 0)).alloc (.map #[] 0)).alloc (.cells #[.map (some w1.heap.size)] 84)).alloc (.cells #[.map (some (w1.heap.size + 1))] 84)) w1.heap.size (cntM rdB []) := by
      rw [cntM_nil]; exact (((MapIs.new _ _ rfl).alloc _).alloc _).alloc _
    have hbw0 : MapIs kvP decP ((((w1.alloc (.map #[] 0)).alloc (.map #[] 0)).alloc (.cells #[.map (some w1.heap.size)] 84)).alloc (.cells #[.map (some (w1.heap.size + 1))] 84)) (w1.heap.size + 1) (cntM wrB []) := by
      rw [cntM_nil]; exact ((MapIs.new _ _ (by simp)).alloc _).alloc _
    have hb7 : Blk ((((w1.alloc (.map #[] 0)).alloc (.map #[] 0)).alloc (.cells #[.map (some w1.heap.size)] 84)).alloc (.cells #[.map (some (w1.heap.size + 1))] 84)) (w1.heap.size + 1 + 1) 84 [.map (some w1.heap.size)] := (Blk.of (heap_new _ _ _ (by simp)) rfl).alloc _
    have hb8 : Blk ((((w1.alloc (.map #[] 0)).alloc (.map #[] 0)).alloc (.cells #[.map (some w1.heap.size)] 84)).alloc (.cells #[.map (some (w1.heap.size + 1))] 84)) (w1.heap.size + 1 + 1 + 1) 84 [.map (some (w1.heap.size + 1))] := Blk.of (heap_new _ _ _ (by simp)) rfl
    have hbq : Below w1.heap.size w1 ((((w1.alloc (.map #[] 0)).alloc (.map #[] 0)).alloc (.cells #[.map (some w1.heap.size)] 84)).alloc (.cells #[.map (some (w1.heap.size + 1))] 84)) := (((Below_alloc' _ _).alloc (by simp) _).alloc (by simp; omega) _).alloc (by simp; omega) _
    have hsq : ((((w1.alloc (.map #[] 0)).alloc (.map #[] 0)).alloc (.cells #[.map (some w1.heap.size)] 84)).alloc (.cells #[.map (some (w1.heap.size + 1))] 84)).heap.size = w1.heap.size + 4 := by simp
    obtain ⟨wq, hwq⟩ : ∃ wq, ((((w1.alloc (.map #[] 0)).alloc (.map #[] 0)).alloc (.cells #[.map (some w1.heap.size)] 84)).alloc (.cells #[.map (some (w1.heap.size + 1))] 84)) = wq := ⟨_, rfl⟩
    have hbx2 := hbx1.below hbq hbx1.lt
    have HLD1 : Hid (∀ j v, ([.slice sA u.shared.length sc, lv, .slice gA u.graphs.length gc] : List Value)[j]? = some v → ((((w1.alloc (.map #[] 0)).alloc (.map #[] 0)).alloc (.cells #[.map (some w1.heap.size)] 84)).alloc (.cells #[.map (some (w1.heap.size + 1))] 84)).cell? ⟨w.heap.size, 0 + j, none⟩ = some v) := Lib.hid fun j v hj => by rw [Nat.zero_add, hbx2.cell]; exact hj
    rw [hwq] at hbr0 hbw0 hb7 hb8 hbq hsq hbx2
    have HWQ := Lib.hid hwq; clear hwq
    gi_wp2_with (first
      | (refine wpListIn_load_at rfl 25 _ rfl w.heap.size 0 rfl _ _ HLD1.out Try.underlying25 rfl (by kernel_rfl) ?_))
    refine ⟨trivial, ?_⟩
    refine (callsIn_wide.2 (touches_made [.slice sA u.shared.length sc, lv, .slice gA u.graphs.length gc] rfl _)).mono ?_
    rintro e w2 ⟨rfl, rfl⟩
    gi_wp2
    rw [HWQ.out]
    obtain ⟨wl, hwl⟩ : ∃ wl, wq.alloc (.cells [.slice sA u.shared.length sc, lv, .slice gA u.graphs.length gc].toArray 25) = wl := ⟨_, rfl⟩
    have hbl : Below wq.heap.size wq wl := by rw [← hwl]; exact Below_alloc' _ _
    have hbt : Blk wl (w1.heap.size + 1 + 1 + 1 + 1) 25 [.slice sA u.shared.length sc, lv, .slice gA u.graphs.length gc] := by rw [← hwl]; exact Blk.of (heap_new wq _ _ (by omega)) rfl
    have hwq1 : Below w.heap.size w wq := hw1.trans (hbq.mono hw1.size)
    have hwl1 : Below w.heap.size w wl := hwq1.trans (hbl.mono hwq1.size)
    have hul : UnitV (part wl 0 w.heap.size) [.slice sA u.shared.length sc, lv, .slice gA u.graphs.length gc] u := (hu0.mono (cmap_part w)).mono (part_belowL hwl1)
    have hsl := hbl.size
    have hs1 := hw1.size
    have m1 := hbr0.below hbl hbr0.lt
    have m2 := hbw0.below hbl hbw0.lt
    have m7 := hb7.below hbl hb7.lt
    have m8 := hb8.below hbl hb8.lt
    have mx := hbx2.below hbl hbx2.lt
    rw [show wq.alloc (.cells #[.slice sA u.shared.length sc, lv, .slice gA u.graphs.length gc] 25) = wl from hwl]
    have HWL := Lib.hid hwl; clear hwl
    refine wp_act fun a0 ha0 => ?_
    refine wpIn_rangeFunc_ownH rfl (by decide) (gf := 71) (lb := #[.pointer (some ⟨w1.heap.size + 1 + 1 + 1 + 1, 0, none⟩)]) (by rw [ha0]; rfl) trivial (enters_of Try.func71 (by kernel_rfl) rfl)
      (touches_stops u hru [.slice sA u.shared.length sc, lv, .slice gA u.graphs.length gc] 6 (w1.heap.size + 1 + 1 + 1 + 1) w.heap.size wl.heap.size none (by decide) wl (by omega) (Nat.le_refl _) (fun k e => by cases e) (fun q e => by cases e) hbt hul)
      (fun h k => KeepI.trans h k) (fun W l o o' hl ho hc _ => KeepI.putObj W l o o' (by omega) (fun k e => by cases e) ho hc) (Below.refl _ _) (fun _ => rfl)
      (fun pre W => MapIs kvP decP W w1.heap.size (cntM rdB (vals pre)) ∧ MapIs kvP decP W (w1.heap.size + 1) (cntM wrB (vals pre)) ∧ Blk W (w1.heap.size + 1 + 1) 84 [.map (some w1.heap.size)] ∧ Blk W (w1.heap.size + 1 + 1 + 1) 84 [.map (some (w1.heap.size + 1))] ∧ Blk W w.heap.size 25 [.slice sA u.shared.length sc, lv, .slice gA u.graphs.length gc] ∧ Below w.heap.size w W)
      (fun _ _ _ => False)
      (OwnFrom.and (map_own (by omega) _) (OwnFrom.and (map_own (by omega) _) (OwnFrom.and (Own.from (blk_own _ _ _) _) (OwnFrom.and (Own.from (blk_own _ _ _) _) (OwnFrom.and (Own.from (blk_own _ _ _) _) (ownFrom_below (Nat.le_refl _) (by omega)))))))
      (fun _ _ _ _ _ hs _ _ => hs)
      ⟨m1, m2, m7, m8, mx, hwl1⟩
      (fun x a' W => ∃ Bx, w1.heap.size + 4 ≤ Bx ∧ Blk W Bx 90 (tchCells x.1) ∧ a' = { tmps := (a0.tmps.setIfInBounds 28 (.agg (tchCells x.1).toArray)).setIfInBounds 9 (.pointer (some ⟨Bx, 0, none⟩)), defers := [] })
      (fun x a' _ X Y row hs hg hr => by obtain ⟨Bx, h1, h2, h3⟩ := hs; exact ⟨Bx, h1, blk_own Bx _ (fun (_ : Unit) => tchCells x.1) () X Y row h2 hg (fun r e => (hr r e).2), h3⟩)
      ?assign ?body ?done ?stop
    case assign =>
      rintro l pre x W K ⟨j1, j2, j3, j4, j6, j5⟩ hK
      subst ha0
      have hnl : w1.heap.size + 4 ≤ W.heap.size := by have := j4.lt; omega
      have hfin := hK { tmps := _, defers := [] } _ ((KeepsOthers.alloc W (.cells (tchCells x.1).toArray 90)).from _) (KeepI.below (Below_alloc' W (.cells (tchCells x.1).toArray 90)) (by have := j5.size; omega) (fun k e => by cases e)) ⟨j1.alloc _, j2.alloc _, j3.alloc _, j4.alloc _, j6.alloc _, j5.alloc j5.size _⟩ ⟨W.heap.size, hnl, Blk.new W _ _, rfl⟩
      unfold tchEnc
      unfold tchCells at hfin ⊢
      have HFIN := Lib.hid hfin; clear hfin hK
      gi_wp2
      exact HFIN.out
    case body =>
      rintro l pre x a' W hl ⟨r, hr⟩ ⟨j1, j2, j3, j4, j6, j5⟩ ⟨Bx, hBx, bX, rfl⟩ hlt
      subst ha0
      have hlen : (vals pre).length = pre.length := by unfold vals; simp
      have hbnd : (vals pre).length ≤ 32768 := by
        have h1 := hitsU_length hru
        have h2 : (TT u).length ≤ (hitsU u).length := List.length_filter_le _ _
        rw [TTa_length] at hlt
        omega
      clear hlen
      have x0 : W.cell? ⟨Bx, 0, none⟩ = some (.int .i64 (x.1.t : Int)) := bX.cell 0
      have x2 : W.cell? ⟨Bx, 2, none⟩ = some (.int .i64 x.1.n.thing) := bX.cell 2
      have y3 : W.cell? ⟨Bx, 3, none⟩ = some (.bool (rdB x.1.n)) := bX.cell 3
      have y4 : W.cell? ⟨Bx, 4, none⟩ = some (.bool (wrB x.1.n)) := bX.cell 4
      have lB := bX.lt
      obtain ⟨rb, hrb⟩ : ∃ q, rdB x.1.n = q := ⟨_, rfl⟩
      obtain ⟨wb, hwb⟩ : ∃ q, wrB x.1.n = q := ⟨_, rfl⟩
      rw [hrb] at y3
      rw [hwb] at y4
      have HRB := Lib.hid hrb; have HWB := Lib.hid hwb
      have HI := Lib.hid (vals_snoc pre x)
      clear hrb hwb
      have hj5 := j5.size
      have kw1 := j1.lt
      have kw2 := j2.lt
      have l7 := j3.lt
      have l8 := j4.lt
      have hal := Below_alloc' W (.cells #[.int .i64 (x.1.t : Int), .int .i64 x.1.n.thing] 92)
      have hbk : Blk (W.alloc (.cells #[.int .i64 (x.1.t : Int), .int .i64 x.1.n.thing] 92)) W.heap.size 92 [.int .i64 (x.1.t : Int), .int .i64 x.1.n.thing] := Blk.new W _ _
      have i1 := j1.alloc (.cells #[.int .i64 (x.1.t : Int), .int .i64 x.1.n.thing] 92)
      have i2 := j2.alloc (.cells #[.int .i64 (x.1.t : Int), .int .i64 x.1.n.thing] 92)
      have i3 := j3.alloc (.cells #[.int .i64 (x.1.t : Int), .int .i64 x.1.n.thing] 92)
      have i4 := j4.alloc (.cells #[.int .i64 (x.1.t : Int), .int .i64 x.1.n.thing] 92)
      have i6 := j6.alloc (.cells #[.int .i64 (x.1.t : Int), .int .i64 x.1.n.thing] 92)
      have i5 := j5.alloc hj5 (.cells #[.int .i64 (x.1.t : Int), .int .i64 x.1.n.thing] 92)
      have hX := bX.alloc (.cells #[.int .i64 (x.1.t : Int), .int .i64 x.1.n.thing] 92)
      have kf0 : KeepsFrom wl.heap.size W (W.alloc (.cells #[.int .i64 (x.1.t : Int), .int .i64 x.1.n.thing] 92)) := (KeepsOthers.alloc _ _).from _
      have ki0 : KeepI w.heap.size wl.heap.size none W (W.alloc (.cells #[.int .i64 (x.1.t : Int), .int .i64 x.1.n.thing] 92)) := KeepI.below hal hj5 (fun k e => by cases e)
      obtain ⟨Wk, hWk⟩ : ∃ Wk, W.alloc (.cells #[.int .i64 (x.1.t : Int), .int .i64 x.1.n.thing] 92) = Wk := ⟨_, rfl⟩
      rw [hWk] at hal hbk i1 i2 i3 i4 i5 i6 hX kf0 ki0
      have HWK := Lib.hid hWk; clear hWk
      have hks := hal.size
      have MMA := Lib.hid i1
      have CMA := Lib.hid (i3.cell 0)
      have K0A := Lib.hid (hbk.cell 0)
      have K1A := Lib.hid (hbk.cell 1)
      have KF0 := Lib.hid kf0; have KI0 := Lib.hid ki0
      clear kf0 ki0
      cases rb
      · cases wb
        · gi_wp2
          rw [HWK.out]
          exact ⟨KF0.out, KI0.out, by rw [HI.out, cntM_no HRB.out]; exact i1, by rw [HI.out, cntM_no HWB.out]; exact i2, i3, i4, i6, i5⟩
        · gi_wp2
          rw [HWK.out]
          have MMB := Lib.hid i2
          have CMB := Lib.hid (i4.cell 0)
          have K0B := Lib.hid (hbk.cell 0)
          have K1B := Lib.hid (hbk.cell 1)
          refine wp_act fun a1 ha1 => ?_
          have tm : a1.eval (.tmp 8) = .pointer (some ⟨w1.heap.size + 1 + 1 + 1, 0, none⟩) := by rw [ha1]; rfl
          have tk : a1.eval (.tmp 10) = .pointer (some ⟨W.heap.size, 0, none⟩) := by rw [ha1]; rfl
          have hsz : a1.tmps.size = 104 := by rw [ha1]; rfl
          have HA1 := Lib.hid ha1; clear ha1
          refine wpIn_region_inv (IncW Wk (w1.heap.size + 1) (cntM wrB (vals pre)) ((x.1.t : Int), x.1.n.thing) (cntT wrB (vals pre) ((x.1.t : Int), x.1.n.thing)) a1) (by kernel_rfl) (by kernel_rfl) ?start ?steps ?fin
          case start =>
            refine { fr := Fr.refl _ _, gr := ⟨rfl, rfl, rfl, Nat.le_refl _, fun _ _ _ => rfl⟩, s0 := ?_, s1 := ?_, s2 := ?_, s3 := ?_, s4 := ?_, o4 := fun _ => MMB.out, o5 := ?_, o6 := ?_, s6 := ?_ } <;> (intro hd; cases hd)
          case steps =>
            exact stepsIn_all (incW_steps _ _ _ _ _ _ _ rfl rfl rfl rfl rfl rfl rfl rfl rfl rfl rfl rfl rfl rfl rfl rfl rfl rfl rfl rfl rfl (by decide) (by decide) (by decide) (by decide) (by decide) Wk (w1.heap.size + 1) _ _ _ a1 _ _ (by rw [hsz]; decide) tm tk (cntM_get _ _ _) (by have := cntT_le wrB (vals pre) ((x.1.t : Int), x.1.n.thing); omega) CMB.out K0B.out K1B.out (by omega) (by omega))
          case fin =>
            intro D a wcB hall h
            have hd : ∀ i, i < 7 → D i = true := hall
            have grB := h.gr
            have mmB := h.s6 (hd 6 (by decide))
            obtain ⟨stB, v4, v5, -⟩ := h.s4 (hd 4 (by decide))
            have hfin := ((((((h.fr.shut (by rw [hsz]; decide)).shut (by simp [Act.put, hsz])).shut (by simp [Act.put, hsz])).shut (by simp [Act.put, hsz])).shut (by simp [Act.put, hsz])).shut (by simp [Act.put, hsz])).done
            rw [h.s0 (hd 0 (by decide)), h.s1 (hd 1 (by decide)), h.s2 (hd 2 (by decide)), h.s3 (hd 3 (by decide)), v4, v5 (hd 5 (by decide))] at hfin
            rw [hfin, HA1.out]
            clear hfin HA1 h hall hd v4 v5 tm tk hsz
            simp only [Act.put, List.setIfInBounds_toArray, List.set_cons_zero, List.set_cons_succ]
            gi_wp2
            exact ⟨KF0.out.trans (KeepsFrom.of_grownBy grB (fun j e => by injection e with e; omega)), KI0.out.trans (KeepI.turn grB (by omega) (by omega) (by omega)), by rw [HI.out, cntM_no HRB.out]; exact i1.grown grB (fun e => by injection e with e; omega), by rw [HI.out, cntM_yes HWB.out]; exact mmB, i3.grown grB (fun e => by injection e with e; omega), i4.grown grB (fun e => by injection e with e; omega), i6.grown grB (fun e => by injection e with e; omega), i5.grown grB (by omega) (fun k e => by injection e with e; omega)⟩
      · gi_wp2
        rw [HWK.out]
        refine wp_act fun a1 ha1 => ?_
        have tm : a1.eval (.tmp 7) = .pointer (some ⟨w1.heap.size + 1 + 1, 0, none⟩) := by rw [ha1]; rfl
        have tk : a1.eval (.tmp 10) = .pointer (some ⟨W.heap.size, 0, none⟩) := by rw [ha1]; rfl
        have hsz : a1.tmps.size = 104 := by rw [ha1]; rfl
        have HA1 := Lib.hid ha1; clear ha1
        refine wpIn_region_inv (IncR Wk w1.heap.size (cntM rdB (vals pre)) ((x.1.t : Int), x.1.n.thing) (cntT rdB (vals pre) ((x.1.t : Int), x.1.n.thing)) a1) (by kernel_rfl) (by kernel_rfl) ?start ?steps ?fin
        case start =>
          refine { fr := Fr.refl _ _, gr := ⟨rfl, rfl, rfl, Nat.le_refl _, fun _ _ _ => rfl⟩, s0 := ?_, s1 := ?_, s2 := ?_, s3 := ?_, s4 := ?_, o4 := fun _ => MMA.out, o5 := ?_, o6 := ?_, s6 := ?_ } <;> (intro hd; cases hd)
        case steps =>
          exact stepsIn_all (incR_steps _ _ _ _ _ _ _ rfl rfl rfl rfl rfl rfl rfl rfl rfl rfl rfl rfl rfl rfl rfl rfl rfl rfl rfl rfl rfl (by decide) (by decide) (by decide) (by decide) (by decide) Wk w1.heap.size _ _ _ a1 _ _ (by rw [hsz]; decide) tm tk (cntM_get _ _ _) (by have := cntT_le rdB (vals pre) ((x.1.t : Int), x.1.n.thing); omega) CMA.out K0A.out K1A.out (by omega) (by omega))
        case fin =>
          intro D a wcA hall h
          have hd : ∀ i, i < 7 → D i = true := hall
          have grA := h.gr
          have mmA := h.s6 (hd 6 (by decide))
          obtain ⟨stA, v4, v5, -⟩ := h.s4 (hd 4 (by decide))
          have hfin := ((((((h.fr.shut (by rw [hsz]; decide)).shut (by simp [Act.put, hsz])).shut (by simp [Act.put, hsz])).shut (by simp [Act.put, hsz])).shut (by simp [Act.put, hsz])).shut (by simp [Act.put, hsz])).done
          rw [h.s0 (hd 0 (by decide)), h.s1 (hd 1 (by decide)), h.s2 (hd 2 (by decide)), h.s3 (hd 3 (by decide)), v4, v5 (hd 5 (by decide))] at hfin
          rw [hfin, HA1.out]
          clear hfin HA1 h hall hd v4 v5 tm tk hsz
          simp only [Act.put, List.setIfInBounds_toArray, List.set_cons_zero, List.set_cons_succ]
          have hXA := hX.grown grA (fun e => by injection e with e; omega)
          have y4A : wcA.cell? ⟨Bx, 4, none⟩ = some (.bool wb) := by have := hXA.cell 4; rw [this, ← HWB.out]; rfl
          have lBA := hXA.lt
          have p2 := i2.grown grA (fun e => by injection e with e; omega)
          have p3 := i3.grown grA (fun e => by injection e with e; omega)
          have p4 := i4.grown grA (fun e => by injection e with e; omega)
          have p6 := i6.grown grA (fun e => by injection e with e; omega)
          have p5 := i5.grown grA (by omega) (fun k e => by injection e with e; omega)
          have hbkA := hbk.grown grA (fun e => by injection e with e; omega)
          have KFA := Lib.hid (KF0.out.trans (KeepsFrom.of_grownBy (B := wl.heap.size) grA (fun j e => by injection e with e; omega)))
          have KIA := Lib.hid (KI0.out.trans (KeepI.turn (n0 := w.heap.size) (B := wl.heap.size) grA (by omega) (by omega) (by omega)))
          have gsA := grA.size
          have MA := Lib.hid mmA; clear mmA
          cases wb
          · gi_wp2
            exact ⟨KFA.out, KIA.out, by rw [HI.out, cntM_yes HRB.out]; exact MA.out, by rw [HI.out, cntM_no HWB.out]; exact p2, p3, p4, p6, p5⟩
          · gi_wp2
            have MMB := Lib.hid p2
            have CMB := Lib.hid (p4.cell 0)
            have K0B := Lib.hid (hbkA.cell 0)
            have K1B := Lib.hid (hbkA.cell 1)
            refine wp_act fun a1 ha1 => ?_
            have tm : a1.eval (.tmp 8) = .pointer (some ⟨w1.heap.size + 1 + 1 + 1, 0, none⟩) := by rw [ha1]; rfl
            have tk : a1.eval (.tmp 10) = .pointer (some ⟨W.heap.size, 0, none⟩) := by rw [ha1]; rfl
            have hsz : a1.tmps.size = 104 := by rw [ha1]; rfl
            have HA1 := Lib.hid ha1; clear ha1
            refine wpIn_region_inv (IncW wcA (w1.heap.size + 1) (cntM wrB (vals pre)) ((x.1.t : Int), x.1.n.thing) (cntT wrB (vals pre) ((x.1.t : Int), x.1.n.thing)) a1) (by kernel_rfl) (by kernel_rfl) ?start ?steps ?fin
            case start =>
              refine { fr := Fr.refl _ _, gr := ⟨rfl, rfl, rfl, Nat.le_refl _, fun _ _ _ => rfl⟩, s0 := ?_, s1 := ?_, s2 := ?_, s3 := ?_, s4 := ?_, o4 := fun _ => MMB.out, o5 := ?_, o6 := ?_, s6 := ?_ } <;> (intro hd; cases hd)
            case steps =>
              exact stepsIn_all (incW_steps _ _ _ _ _ _ _ rfl rfl rfl rfl rfl rfl rfl rfl rfl rfl rfl rfl rfl rfl rfl rfl rfl rfl rfl rfl rfl (by decide) (by decide) (by decide) (by decide) (by decide) wcA (w1.heap.size + 1) _ _ _ a1 _ _ (by rw [hsz]; decide) tm tk (cntM_get _ _ _) (by have := cntT_le wrB (vals pre) ((x.1.t : Int), x.1.n.thing); omega) CMB.out K0B.out K1B.out (by omega) (by omega))
            case fin =>
              intro D a wcB hall h
              have hd : ∀ i, i < 7 → D i = true := hall
              have grB := h.gr
              have mmB := h.s6 (hd 6 (by decide))
              obtain ⟨stB, v4, v5, -⟩ := h.s4 (hd 4 (by decide))
              have hfin := ((((((h.fr.shut (by rw [hsz]; decide)).shut (by simp [Act.put, hsz])).shut (by simp [Act.put, hsz])).shut (by simp [Act.put, hsz])).shut (by simp [Act.put, hsz])).shut (by simp [Act.put, hsz])).done
              rw [h.s0 (hd 0 (by decide)), h.s1 (hd 1 (by decide)), h.s2 (hd 2 (by decide)), h.s3 (hd 3 (by decide)), v4, v5 (hd 5 (by decide))] at hfin
              rw [hfin, HA1.out]
              clear hfin HA1 h hall hd v4 v5 tm tk hsz
              simp only [Act.put, List.setIfInBounds_toArray, List.set_cons_zero, List.set_cons_succ]
              gi_wp2
              exact ⟨KFA.out.trans (KeepsFrom.of_grownBy grB (fun j e => by injection e with e; omega)), KIA.out.trans (KeepI.turn grB (by omega) (by omega) (by omega)), by rw [HI.out, cntM_yes HRB.out]; exact MA.out.grown grB (fun e => by injection e with e; omega), by rw [HI.out, cntM_yes HWB.out]; exact mmB, p3.grown grB (fun e => by injection e with e; omega), p4.grown grB (fun e => by injection e with e; omega), p6.grown grB (fun e => by injection e with e; omega), p5.grown grB (by omega) (fun k e => by injection e with e; omega)⟩
    case done =>
      rintro D zs W hD rfl ⟨j1, j2, j3, j4, j6, j5⟩ hK
      subst ha0
      rw [vals_all] at j1 j2
      have hDl := (Array.getElem?_eq_some_iff.1 hK).1
      have kw1 := j1.lt
      have kw2 := j2.lt
      have l7 := j3.lt
      have l8 := j4.lt
      have lU := j6.lt
      have cU := j6.cell 0
      have hn64 := hru.shared
      have hth := hru.threads
      have hj5 := j5.size
      have hmk := mk2_run sl_touch u.shared.length (by omega) (by decide)
      have o0 : TouO 42 3 W.heap.size W.heap.size u.shared.length 0 [] (fun _ => False) (touF u) (W.alloc (.cells (List.replicate (u.shared.length * 2) nilS).toArray 42)) :=
        ⟨Blk.new W _ _, rfl, fun _ h => (by cases h), fun _ _ h => (by simp at h), fun _ h => h.elim, fun _ h => (by cases h)⟩
      have hB0 := Below_alloc' W (.cells (List.replicate (u.shared.length * 2) nilS).toArray 42)
      unfold nilS at o0 hB0
      have HRU := Lib.hid hru
      gi_wp2
      gi_loopw [57] (fun v57 wr => ∃ (k : Nat) (rows : List (List Value)) (S : Nat → Prop), v57 = .int .i64 k ∧ k ≤ u.shared.length ∧ TouO 42 3 W.heap.size W.heap.size u.shared.length k rows S (touF u) wr ∧ Below W.heap.size W wr) (fun v57 _ => u.shared.length - (intOf v57).toNat)
      case atStart => exact ⟨0, [], _, rfl, by omega, o0, hB0⟩
      case round =>
        obtain ⟨k, rows, S, rfl, hk, ho, hbr⟩ := hrel
        clear o0 hB0 hmk cU
        have cU := (j6.below hbr lU).cell 2
        by_cases hlt : k < u.shared.length
        · have hi := ho.begin (IT := 3) hlt
          have HI0 := Lib.hid hi; clear hi ho
          have k0 : (0 : Int) ≤ k := by omega
          have k1 : (k : Int) < u.shared.length := by omega
          gi_wp2
          obtain ⟨wo, rfl⟩ : ∃ wo : World, wo = wr := ⟨_, rfl⟩
          gi_loopw [63] (fun v63 wr => ∃ (j : Nat) (a b : Value), v63 = .int .i64 j ∧ j ≤ u.graphs.length ∧ TouI 42 3 W.heap.size W.heap.size u.shared.length k rows S (touF u) a b (thrTo u rdB (k : Int) j) (thrTo u wrB (k : Int) j) wr ∧ Below W.heap.size W wr) (fun v63 _ => u.graphs.length - (intOf v63).toNat)
          case atStart => exact ⟨0, _, _, rfl, by omega, HI0.out, hbr⟩
          case round =>
            clear HI0 hbr cU
            obtain ⟨j, a, b, rfl, hj, ti, hbr⟩ := hrel
            by_cases hlj : j < u.graphs.length
            · obtain ⟨g, hgj⟩ : ∃ g, u.graphs[j]? = some g := ⟨_, List.getElem?_eq_getElem hlj⟩
              have HGJ := Lib.hid hgj
              obtain ⟨cr, hcr⟩ : ∃ c, cntT rdB (TT u) ((j : Int), (k : Int)) = c := ⟨_, rfl⟩
              obtain ⟨cw, hcw⟩ : ∃ c, cntT wrB (TT u) ((j : Int), (k : Int)) = c := ⟨_, rfl⟩
              have HCcr := Lib.hid hcr; have HCcw := Lib.hid hcw
              have hr2 := cntT_any rd_touch9 hgj (k : Int)
              have hw2 := cntT_any wr_touch9 hgj (k : Int)
              rw [hcr] at hr2
              rw [hcw] at hw2
              have HR2 : Hid ((0 < cr → anyN g (atP rdB (k : Int)) = true) ∧ (¬ 0 < cr → anyN g (atP rdB (k : Int)) = false)) := Lib.hid ⟨fun h => by rw [← hr2]; simp [h], fun h => by rw [← hr2]; simp; omega⟩
              have HW2 : Hid ((0 < cw → anyN g (atP wrB (k : Int)) = true) ∧ (¬ 0 < cw → anyN g (atP wrB (k : Int)) = false)) := Lib.hid ⟨fun h => by rw [← hw2]; simp [h], fun h => by rw [← hw2]; simp; omega⟩
              have hcb : cr ≤ 32768 ∧ cw ≤ 32768 := by
                have h1 := hitsU_length HRU.out
                have h2 : (TT u).length ≤ (hitsU u).length := List.length_filter_le _ _
                have h3 := cntT_le rdB (TT u) ((j : Int), (k : Int))
                have h4 := cntT_le wrB (TT u) ((j : Int), (k : Int))
                rw [hcr] at h3
                rw [hcw] at h4
                omega
              obtain ⟨hcb1, hcb2⟩ := hcb
              clear hcr hcw hr2 hw2 hgj
              have j0 : (0 : Int) ≤ j := by omega
              have hws := hbr.size
              have bKz := Blk.new wr 92 [.int .i64 (j : Int), .int .i64 (k : Int)]
              have tiA := ti.keep (Below_alloc' wr (.cells #[.int .i64 (j : Int), .int .i64 (k : Int)] 92))
              have hbA := hbr.alloc hws (.cells #[.int .i64 (j : Int), .int .i64 (k : Int)] 92)
              obtain ⟨KB, hKB⟩ : ∃ K, K = wr.heap.size := ⟨_, rfl⟩
              rw [← hKB] at bKz
              obtain ⟨wk, hwk⟩ : ∃ wk, wr.alloc (.cells #[.int .i64 (j : Int), .int .i64 (k : Int)] 92) = wk := ⟨_, rfl⟩
              rw [show wr.alloc (.cells [Value.int .i64 (j : Int), .int .i64 (k : Int)].toArray 92) = wk from hwk] at bKz
              rw [hwk] at tiA hbA
              have N1 := j1.below hbA (by omega)
              have c7z : wk.cell? ⟨w1.heap.size + 1 + 1, 0, none⟩ = some (.map (some w1.heap.size)) := (j3.below hbA (by omega)).cell 0
              rw [← hwk] at N1 c7z
              have HLK : Hid (∀ j' v, ([.int .i64 (j : Int), .int .i64 (k : Int)] : List Value)[j']? = some v → (wr.alloc (.cells #[.int .i64 (j : Int), .int .i64 (k : Int)] 92)).cell? ⟨wr.heap.size, 0 + j', none⟩ = some v) := cell_newl wr _ _ _ rfl
              have HWK := Lib.hid hwk; clear hwk
              have HKB := Lib.hid hKB; clear hKB
              have TA := Lib.hid tiA; clear tiA ti
              gi_wp2_with (first | (refine stop_lookupIn rfl ?_) | (refine wpListIn_load_at rfl 92 _ rfl wr.heap.size 0 rfl _ _ HLK.out Try.underlying92 rfl (by kernel_rfl) ?_))
              refine Stop.intro ?_
              refine wpListIn_val_at rfl rfl (.int .i64 (cr : Int)) (wr.alloc (.cells #[.int .i64 (j : Int), .int .i64 (k : Int)] 92)) ?_ ?_
              · rw [← HCcr.out, ← cntM_get]
                exact exec_lookup key_p Try.underlying84 rfl N1 ((j : Int), (k : Int)) rfl rfl (.int .i64 0) (zero_int _)
              rw [HWK.out, ← HKB.out]
              clear N1 c7z HLK
              have c7z : wk.cell? ⟨w1.heap.size + 1 + 1, 0, none⟩ = some (.map (some w1.heap.size)) := (j3.below hbA (by omega)).cell 0
              have hwkA := hbA.size
              by_cases hcr : 0 < cr
              · have ecr : decide ((0 : Int) < (cr : Int)) = true := by simp; omega
                have fcr : decide (0 < cr) = true := by simp; omega
                have hyes := thrTo_yes HGJ.out (HR2.out.1 hcr)
                have HYR := Lib.hid hyes; clear hyes hcr
                have tz := TA.out
                obtain ⟨aA, ac, rfl, -⟩ := own_slice tz.oa
                have cA := tz.cellA
                have tza := tz.keep (Below_alloc' wk (.cells #[.int .i64 (j : Int)] 3))
                have lbz := tz.out.lt
                have hlr := thrTo_length u rdB (k : Int) j
                have bKa := bKz.alloc (.cells #[.int .i64 (j : Int)] 3)
                clear tz
                gi_wp2_with (refine stop_appendIn rfl ?_)
                refine Stop.intro ?_
                refine wpListIn_app_one sl_int rfl _ _ rfl W.heap.size _ _ _ rfl tza.oa wk.heap.size 0 1 [.int .i64 (j : Int)] rfl rfl (cell_new1 _ _ _ _ rfl) (by simp [Value.oneCell']) (by omega) (by decide) (by simp; omega) ?_
                intro v' w3 hown3 hg3 hob3
                have o3 := tza.out.grown hg3 tza.na
                have cO : w3.cell? ⟨W.heap.size, k * 2, none⟩ = some _ := (hg3.cell (a := ⟨W.heap.size, k * 2, none⟩) tza.cellA (fun e => tza.na e))
                have fO : w3.frozen? ⟨W.heap.size, k * 2, none⟩ = false := o3.frozen _
                have t3 := tza.pushA (by decide) hown3 hg3 hob3
                have bKn := own_blk tza.oa bKa (by decide)
                have bKz := (bKa.grown hg3 bKn).far (p := ⟨W.heap.size, k * 2, none⟩) (bKa.ne' tza.out (by decide)) v'
                obtain ⟨vA, vc, rfl, -⟩ := own_slice hown3
                have b3 : Below W.heap.size W w3 := (hbA.alloc (by omega) _).grown hg3 (by simp; omega) (fun q e => (tza.oa.lt q e).1)
                have b3' := b3.setCell (p := ⟨W.heap.size, k * 2, none⟩) (by simp) (Value.slice vA ((thrTo u rdB (k : Int) j).length + 1) vc)
                have T3 := Lib.hid t3; clear t3 tza hown3 hob3 o3 bKn bKa c7z cA TA
                have N2L := j2.below b3' (by omega)
                have c8z : (w3.setCell ⟨W.heap.size, k * 2, none⟩ (Value.slice vA ((thrTo u rdB (k : Int) j).length + 1) vc)).cell? ⟨w1.heap.size + 1 + 1 + 1, 0, none⟩ = some (.map (some (w1.heap.size + 1))) := (j4.below b3' (by omega)).cell 0
                have bK0 : (w3.setCell ⟨W.heap.size, k * 2, none⟩ (Value.slice vA ((thrTo u rdB (k : Int) j).length + 1) vc)).cell? ⟨KB, 0, none⟩ = some (.int .i64 (j : Int)) := bKz.cell 0
                have bK1 : (w3.setCell ⟨W.heap.size, k * 2, none⟩ (Value.slice vA ((thrTo u rdB (k : Int) j).length + 1) vc)).cell? ⟨KB, 1, none⟩ = some (.int .i64 (k : Int)) := bKz.cell 1
                have HLK : Hid (∀ j' v, ([.int .i64 (j : Int), .int .i64 (k : Int)] : List Value)[j']? = some v → (w3.setCell ⟨W.heap.size, k * 2, none⟩ (Value.slice vA ((thrTo u rdB (k : Int) j).length + 1) vc)).cell? ⟨KB, 0 + j', none⟩ = some v) := Lib.hid fun j' v hj' => by rw [Nat.zero_add, bKz.cell]; exact hj'
                gi_wp2_with (first | (refine stop_lookupIn rfl ?_) | (refine wpListIn_load_at rfl 92 _ rfl KB 0 rfl _ _ HLK.out Try.underlying92 rfl (by kernel_rfl) ?_))
                refine Stop.intro ?_
                refine wpListIn_val_at rfl rfl (.int .i64 (cw : Int)) (w3.setCell ⟨W.heap.size, k * 2, none⟩ (Value.slice vA ((thrTo u rdB (k : Int) j).length + 1) vc)) ?_ ?_
                · rw [← HCcw.out, ← cntM_get]
                  exact exec_lookup key_p Try.underlying84 rfl N2L ((j : Int), (k : Int)) rfl rfl (.int .i64 0) (zero_int _)
                clear N2L c8z bK0 bK1 HLK
                obtain ⟨wz, hwz⟩ : ∃ wz, w3.setCell ⟨W.heap.size, k * 2, none⟩ (Value.slice vA ((thrTo u rdB (k : Int) j).length + 1) vc) = wz := ⟨_, rfl⟩
                have t3 := T3.out
                rw [hwz] at t3 bKz b3'
                rw [hwz]
                clear hwz T3 cO fO
                have TI2 := Lib.hid t3
                clear t3
                by_cases hcw : 0 < cw
                · have ecw : decide ((0 : Int) < (cw : Int)) = true := by simp; omega
                  have fcw : decide (0 < cw) = true := by simp; omega
                  have hyes := thrTo_yes HGJ.out (HW2.out.1 hcw)
                  have HY := Lib.hid hyes; clear hyes hcw
                  have tz := TI2.out
                  obtain ⟨bA, bc, rfl, -⟩ := own_slice tz.ob_
                  have cB := tz.cellB
                  have tza := tz.keep (Below_alloc' wz (.cells #[.int .i64 (j : Int)] 3))
                  have lbz := tz.out.lt
                  have hlw := thrTo_length u wrB (k : Int) j
                  clear tz
                  gi_wp2_with (refine stop_appendIn rfl ?_)
                  refine Stop.intro ?_
                  refine wpListIn_app_one sl_int rfl _ _ rfl W.heap.size _ _ _ rfl tza.ob_ wz.heap.size 0 1 [.int .i64 (j : Int)] rfl rfl (cell_new1 _ _ _ _ rfl) (by simp [Value.oneCell']) (by omega) (by decide) (by simp; omega) ?_
                  intro v' w4 hown4 hg4 hob4
                  have o4 := tza.out.grown hg4 tza.nb
                  have cO : w4.cell? ⟨W.heap.size, k * 2 + 1, none⟩ = some _ := (hg4.cell (a := ⟨W.heap.size, k * 2 + 1, none⟩) tza.cellB (fun e => tza.nb e))
                  have fO : w4.frozen? ⟨W.heap.size, k * 2 + 1, none⟩ = false := o4.frozen _
                  have t4 := tza.pushB (by decide) hown4 hg4 hob4
                  obtain ⟨vA, vc, rfl, -⟩ := own_slice hown4
                  have b4 : Below W.heap.size W w4 := (b3'.alloc (by have := b3'.size; omega) _).grown hg4 (by have := b3'.size; simp; omega) (fun q e => (tza.ob_.lt q e).1)
                  have T4 := Lib.hid t4; clear t4 tza hown4 hob4
                  gi_wp2
                  go_roundw
                  case rel => exact ⟨j + 1, _, _, by go_num, hlj, by rw [HYR.out, HY.out]; exact T4.out, b4.setCell (by simp) _⟩
                  case measure => simp [intOf]; omega
                · have ecw : decide ((0 : Int) < (cw : Int)) = false := by simp; omega
                  have fcw : decide (0 < cw) = false := by simp; omega
                  have hno := thrTo_no HGJ.out (HW2.out.2 hcw)
                  have HY := Lib.hid hno; clear hno hcw
                  gi_wp2
                  go_roundw
                  case rel => exact ⟨j + 1, _, _, by go_num, hlj, by rw [HYR.out, HY.out]; exact TI2.out, b3'⟩
                  case measure => simp [intOf]; omega
              · have ecr : decide ((0 : Int) < (cr : Int)) = false := by simp; omega
                have fcr : decide (0 < cr) = false := by simp; omega
                have hno := thrTo_no HGJ.out (HR2.out.2 hcr)
                have HYR := Lib.hid hno; clear hno hcr
                have t3 := TA.out
                clear TA c7z
                have N2 := j2.below hbA (by omega)
                have c8z : wk.cell? ⟨w1.heap.size + 1 + 1 + 1, 0, none⟩ = some (.map (some (w1.heap.size + 1))) := (j4.below hbA (by omega)).cell 0
                have TI2 := Lib.hid t3
                clear t3
                have bK0 : wk.cell? ⟨KB, 0, none⟩ = some (.int .i64 (j : Int)) := bKz.cell 0
                have bK1 : wk.cell? ⟨KB, 1, none⟩ = some (.int .i64 (k : Int)) := bKz.cell 1
                have HLK : Hid (∀ j' v, ([.int .i64 (j : Int), .int .i64 (k : Int)] : List Value)[j']? = some v → wk.cell? ⟨KB, 0 + j', none⟩ = some v) := Lib.hid fun j' v hj' => by rw [Nat.zero_add, bKz.cell]; exact hj'
                gi_wp2_with (first | (refine stop_lookupIn rfl ?_) | (refine wpListIn_load_at rfl 92 _ rfl KB 0 rfl _ _ HLK.out Try.underlying92 rfl (by kernel_rfl) ?_))
                refine Stop.intro ?_
                refine wpListIn_val_at rfl rfl (.int .i64 (cw : Int)) wk ?_ ?_
                · rw [← HCcw.out, ← cntM_get]
                  exact exec_lookup key_p Try.underlying84 rfl N2 ((j : Int), (k : Int)) rfl rfl (.int .i64 0) (zero_int _)
                by_cases hcw : 0 < cw
                · have ecw : decide ((0 : Int) < (cw : Int)) = true := by simp; omega
                  have fcw : decide (0 < cw) = true := by simp; omega
                  have hyes := thrTo_yes HGJ.out (HW2.out.1 hcw)
                  have HY := Lib.hid hyes; clear hyes hcw
                  have tz := TI2.out
                  obtain ⟨bA, bc, rfl, -⟩ := own_slice tz.ob_
                  have cB := tz.cellB
                  have tza := tz.keep (Below_alloc' wk (.cells #[.int .i64 (j : Int)] 3))
                  have lbz := tz.out.lt
                  have hlw := thrTo_length u wrB (k : Int) j
                  clear tz
                  gi_wp2_with (refine stop_appendIn rfl ?_)
                  refine Stop.intro ?_
                  refine wpListIn_app_one sl_int rfl _ _ rfl W.heap.size _ _ _ rfl tza.ob_ wk.heap.size 0 1 [.int .i64 (j : Int)] rfl rfl (cell_new1 _ _ _ _ rfl) (by simp [Value.oneCell']) (by omega) (by decide) (by simp; omega) ?_
                  intro v' w4 hown4 hg4 hob4
                  have o4 := tza.out.grown hg4 tza.nb
                  have cO : w4.cell? ⟨W.heap.size, k * 2 + 1, none⟩ = some _ := (hg4.cell (a := ⟨W.heap.size, k * 2 + 1, none⟩) tza.cellB (fun e => tza.nb e))
                  have fO : w4.frozen? ⟨W.heap.size, k * 2 + 1, none⟩ = false := o4.frozen _
                  have t4 := tza.pushB (by decide) hown4 hg4 hob4
                  obtain ⟨vA, vc, rfl, -⟩ := own_slice hown4
                  have b4 : Below W.heap.size W w4 := (hbA.alloc (by have := hbA.size; omega) _).grown hg4 (by have := hbA.size; simp; omega) (fun q e => (tza.ob_.lt q e).1)
                  have T4 := Lib.hid t4; clear t4 tza hown4 hob4
                  gi_wp2
                  go_roundw
                  case rel => exact ⟨j + 1, _, _, by go_num, hlj, by rw [HYR.out, HY.out]; exact T4.out, b4.setCell (by simp) _⟩
                  case measure => simp [intOf]; omega
                · have ecw : decide ((0 : Int) < (cw : Int)) = false := by simp; omega
                  have fcw : decide (0 < cw) = false := by simp; omega
                  have hno := thrTo_no HGJ.out (HW2.out.2 hcw)
                  have HY := Lib.hid hno; clear hno hcw
                  gi_wp2
                  go_roundw
                  case rel => exact ⟨j + 1, _, _, by go_num, hlj, by rw [HYR.out, HY.out]; exact TI2.out, hbA⟩
                  case measure => simp [intOf]; omega
            · obtain rfl : j = u.graphs.length := by omega
              have hfn := ti.finish (Nat.le_refl _) (show touF u k = (natI (thrTo u rdB (k : Int) u.graphs.length), natI (thrTo u wrB (k : Int) u.graphs.length)) from rfl) (by have := thrTo_length u rdB (k : Int) u.graphs.length; have := HRU.out.threads; omega) (by have := thrTo_length u wrB (k : Int) u.graphs.length; have := HRU.out.threads; omega)
              have HF := Lib.hid hfn; clear hfn ti
              gi_wp2
              go_roundw
              case rel => exact ⟨k + 1, _, _, by go_num, hlt, HF.out, hbr⟩
              case measure => simp [intOf]; omega
        · obtain rfl : k = u.shared.length := by omega
          have hK2 : wr.heap[D]? = some (.deferred (some [])) := (hbr.block D hDl).trans hK
          have hws := hbr.size
          have hgp := grownBy_putObj' wr D (.deferred none)
          have hpb : Below w.heap.size w (wr.putObj D (.deferred none)) := (j5.trans (hbr.mono hj5)).trans (belowK_b (w := w) (Nat.le_refl _) wr D _ _ (by omega) hK2 rfl rfl)
          have hsl := (ho.grown hgp hDl (Nat.le_refl _)).done (lo := w.heap.size) (hi := (wr.putObj D (.deferred none)).heap.size) (Nat.le_refl _) (by omega) hj5 (Nat.le_refl _)
          have HSL := Lib.hid hsl; clear hsl
          have hok9 := (ho.grown hgp hDl (Nat.le_refl _)).oks (lo := w.heap.size) (Nat.le_refl _) (by omega) hj5
          have HOK9 := Lib.hid hok9; clear hok9
          have HK2 := Lib.hid hK2; clear hK2
          gi_wp2
          refine ⟨by simp, .inl ⟨_, _, rfl, run_takeDeferred HK2.out, ?_⟩⟩
          exact ⟨.tuple #[.slice (some ⟨W.heap.size, 0, none⟩) u.shared.length u.shared.length, .int .i64 0], by simp [results, Try.results11, go_sem], .inl ⟨HR.out, _, rfl, HSL.out, hpb, HOK9.out⟩⟩
    case stop =>
      rintro D c pre W _ _ h _
      exact h.elim
theorem tou_calls (u : Unit_) (cs : List Value) (w : World) (hu : UnitV (cmap w) cs u) (hok : UOk u) :
    Calls Try.prog 11 #[.agg cs.toArray] w fun e w' => (checkF u = none ∧ ∃ v, e = .returned (.tuple #[v, .int .i64 0]) ∧ Sl (Cells touV) 2 (part w' w.heap.size w'.heap.size) v ((List.range u.shared.length).map (touF u)) ∧ Below w.heap.size w w') ∨
      (checkF u ≠ none ∧ e = .returned (.tuple #[.slice none 0 0, .int .i64 60]) ∧ Below w.heap.size w w') := by
  refine (tou_own u cs w hu hok).mono ?_
  rintro e w' (⟨h1, v, h2, h3, h4, -⟩ | h)
  · exact .inl ⟨h1, v, h2, h3, h4⟩
  · exact .inr h
end Go.Proofs.Ytkkmkjjbffpgnaa
