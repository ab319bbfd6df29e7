import Derived.Test.YtkkmkjjbffpgnaaP29
import Derived.Test.YtkkmkjjbffpgnaaP26
import Derived.Test.YtkkmkjjbffpgnaaP28
/- The walk of sharing.Owners. -/
namespace Go.Proofs.Ytkkmkjjbffpgnaa
open Go Go.RowKit Go.Shelf
attribute [local go_sem] Oper.semAt_some
def ownStep (o : Int) (t : Nat) : Int := if o = -1 then t else if o = t then o else -2
def ownFold (T : List Hit) (x : Int) : Int := (T.filter (fun h => decide (h.n.thing = x))).foldl (fun o h => ownStep o h.t) (-1)
def ownList (n : Nat) (T : List Hit) : List Int := (List.range n).map fun x : Nat => ownFold T (x : Int)
theorem ownList_nil (n : Nat) : ownList n [] = List.replicate n (-1) := by
  unfold ownList ownFold
  rw [List.eq_replicate_iff]
  exact ⟨by simp, fun b hb => by obtain ⟨x, _, rfl⟩ := List.mem_map.1 hb; rfl⟩
theorem ownFold_snoc (T : List Hit) (h : Hit) (x : Int) : ownFold (T ++ [h]) x = if h.n.thing = x then ownStep (ownFold T x) h.t else ownFold T x := by
  unfold ownFold
  rw [List.filter_append]
  by_cases e : h.n.thing = x
  · simp [e]
  · simp [e]
theorem ownList_snoc (n : Nat) (T : List Hit) (h : Hit) (k : Nat) (hk : h.n.thing = (k : Int)) : ownList n (T ++ [h]) = (ownList n T).set k (ownStep (ownFold T k) h.t) := by
  unfold ownList
  refine List.ext_getElem? fun i => ?_
  rw [List.getElem?_set, List.getElem?_map, List.getElem?_map]
  by_cases hi : i < n
  · rw [List.getElem?_range hi]
    simp only [Option.map_some, List.length_map, List.length_range]
    rw [ownFold_snoc, hk]
    by_cases e : k = i
    · subst e
      simp [hi]
    · have : ¬ ((k : Int) = (i : Int)) := by omega
      simp [e, this]
  · have h1 : (List.range n)[i]? = none := List.getElem?_eq_none (by simp; omega)
    rw [h1]
    simp only [Option.map_none, List.length_map, List.length_range]
    by_cases e : k = i
    · subst e; simp [hi]
    · simp [e]
theorem blk_own {β : Type} (B : Nat) (t : TypeId) (f : β → List Value) : Own (fun s W => Blk W B t (f s)) := fun s X Y row hs hg hrow => by
  refine (hg.block B (Blk.lt hs) (fun e => ?_)).trans hs
  obtain ⟨o, ho, hc⟩ := hrow B e.symm
  unfold Blk at hs
  rw [hs] at ho
  injection ho with ho
  subst ho
  cases hc
theorem sl_ints1' : SlT Try.prog 30 3 1 8 (.int .i64 0) := SlT.mk' Try.underlying30 (by kernel_rfl) rfl (by omega)
theorem KeepI.setLow {n0 B : Nat} (W : World) (b o : Nat) (v : Value) (hn : n0 ≤ b) (hb : b < B) : KeepI n0 B none W (W.setCell ⟨b, o, none⟩ v) :=
  ⟨(Below.refl _ _).setCell hn _, by simp [World.setCell], fun q cur t fr hB _ hq => (Below.heap_setCell _ _ _ _ (by simp; omega)).trans hq, .inl rfl, fun _ q e => by cases e⟩
theorem ownList_get {n : Nat} {T : List Hit} {k : Nat} (hk : k < n) : (ownList n T)[k]? = some (ownFold T k) := by
  unfold ownList
  rw [List.getElem?_map, List.getElem?_range hk]
  rfl
theorem set_same {α : Type} {l : List α} {k : Nat} {x : α} (h : l[k]? = some x) : l.set k x = l := by
  refine List.ext_getElem? fun i => ?_
  rw [List.getElem?_set]
  split
  · rename_i e
    subst e
    rw [if_pos (List.getElem?_eq_some_iff.1 h).1, h]
  · rfl
theorem Ints_blk {w : World} {b lo hi : Nat} {t : TypeId} {l : List Int} (h : Blk w b t (ints l)) (n : Nat) (hn : n = l.length) (hm : n ≤ 4294967296) (hlo : lo ≤ b) (hhi : b < hi) : Ints (part w lo hi) (.slice (some ⟨b, 0, none⟩) n n) l := by
  subst hn
  refine ⟨_, _, rfl, Nat.le_refl _, ⟨by simp only [maxLen]; omega, fun h => by cases h⟩, .inr ⟨b, 0, rfl, fun i x hx => ?_⟩⟩
  show part w lo hi b (0 + i * 1) = _
  unfold part
  rw [if_pos ⟨hlo, hhi⟩, Nat.zero_add, Nat.mul_one, h.cell i]
  unfold ints
  rw [List.getElem?_map, hx]
  rfl
theorem wp_act {F : Fence} {n : Nat} {P : Program} {c : Code} {Q : Exit → Act → World → Prop} {a : Act} {w : World} (h : ∀ a0 : Act, a0 = a → c.wpIn F n P Q a0 w) : c.wpIn F n P Q a w := h a rfl
theorem hit_thing {u : Unit_} (hru : RightU u) {h : Hit} (hm : h ∈ TT u) : 0 ≤ h.n.thing ∧ h.n.thing < u.shared.length := by
  unfold TT at hm
  obtain ⟨h1, h2⟩ := List.mem_filter.1 hm
  obtain ⟨j, g, _, hg, hn, _⟩ := hits_mem _ _ h h1
  have hok := (hru.graphs g (List.mem_of_getElem? hg)).nodes _ (List.mem_of_getElem? hn)
  unfold ndOk nodeOk at hok
  simp only [Bool.and_eq_true] at hok
  have h4 := hok.2.2.2.1
  unfold touchB at h2
  have h2' : h.n.kind = 2 ∨ h.n.kind = 3 ∨ h.n.kind = 4 := by simpa using h2
  have hth : uThing h.n.kind = true := by unfold uThing; simp; omega
  have h56 : ¬ (h.n.kind = 5 ∨ h.n.kind = 6) := by omega
  unfold numOk at h4
  rw [if_pos hth, if_neg h56] at h4
  exact of_decide_eq_true h4
theorem tt_thing {u : Unit_} (hru : RightU u) (x : Tch u) : ∃ k : Nat, x.1.n.thing = (k : Int) ∧ k < u.shared.length ∧ x.1.t < u.graphs.length := by
  have h := hit_thing hru x.2
  have hm := x.2
  unfold TT at hm
  exact ⟨x.1.n.thing.toNat, by omega, by omega, (hit_held hru (List.mem_filter.1 hm).1).2⟩
theorem Blk.okRow {w : World} {b base : Nat} {t : TypeId} {l : List Value} {n : Nat} (h : Blk w b t l) (hl : l.length = n) (hn : n < 4294967296) (hb : base ≤ b) : OkRow w base t 1 (.slice (some ⟨b, 0, none⟩) n n) n :=
  ⟨l, by simp [hl], .inr ⟨b, n, _, rfl, hb, h, Nat.le_refl _, by simp only [maxLen]; omega, by simp [hl], by rw [List.take_of_length_le (by simp [hl])]⟩⟩
set_option maxRecDepth 100000 in
set_option maxHeartbeats 8000000 in
theorem owners_own (u : Unit_) (cs : List Value) (w : World) (hu : UnitV (cmap w) cs u) (hok : UOk u) :
    Calls Try.prog 13 #[.agg cs.toArray] w fun e w' => (checkF u = none ∧ ∃ v, e = .returned (.tuple #[v, .int .i64 0]) ∧ Ints (part w' w.heap.size w'.heap.size) v (ownList u.shared.length (TT u)) ∧ Below w.heap.size w w' ∧ OkRow w' w.heap.size 3 1 v u.shared.length) ∨
      (checkF u ≠ none ∧ e = .returned (.tuple #[.slice none 0 0, .int .i64 60]) ∧ Below w.heap.size w w') := by
  have hu0 := hu
  obtain ⟨sv, lv, gv, rfl, hs, hl, hg⟩ := hu
  obtain ⟨sA, sc, rfl, -⟩ := id hs
  have hbx := Blk.new w 25 [.slice sA u.shared.length sc, lv, gv]
  have HLD : Hid (∀ j v, ([.slice sA u.shared.length sc, lv, gv] : List Value)[j]? = some v → (w.alloc (.cells #[.slice sA u.shared.length sc, lv, gv] 25)).cell? ⟨w.heap.size, 0 + j, none⟩ = some v) := cell_newl w _ _ _ rfl
  have hn : (3 : Nat) ≤ 7 := by decide
  refine (callsIn_wide (n := 7)).1 ?_
  refine callsIn_of_wp_marks Try.func13 rfl trivial ?_ rfl
  simp only [Try.ntmps13, List.size_toArray, List.length_cons, List.length_nil, Nat.reduceAdd, Nat.reduceSub, Array.replicate_succ, Array.replicate_zero, List.push_toArray, List.append_toArray, List.nil_append, List.cons_append]
  gi_wp2_with (first
    | (refine wpListIn_load_at rfl 25 _ rfl w.heap.size 0 rfl _ _ HLD.out Try.underlying25 rfl (by kernel_rfl) ?_))
  refine ⟨trivial, ?_⟩
  refine (callsIn_wide.2 (check_calls u [.slice sA u.shared.length sc, lv, gv] _ (hu0.mono (cmap_alloc _ _)) hok)).mono ?_
  rintro e w1 ⟨rfl, hb1⟩
  obtain ⟨r, hr⟩ : ∃ r, checkF u = r := ⟨_, rfl⟩
  have hw1 : Below w.heap.size w w1 := (Below_alloc' _ _).trans (hb1.mono (by simp))
  cases r with
  | some ti =>
    obtain ⟨t, i⟩ := ti
    rw [hr]
    unfold checkV
    have HR := Lib.hid hr; clear hr
    gi_wp2
    exact ⟨_, by simp [results, Try.results13, go_sem], .inr ⟨by rw [HR.out]; simp, rfl, hw1⟩⟩
  | none =>
    have hru := checkF_none hr
    rw [hr]
    unfold checkV
    have HR := Lib.hid hr; clear hr
    have hbx1 := hbx.below hb1 hbx.lt
    have c0 := hbx1.cell 0
    have hz64 := hru.shared
    have hmk := mk_run sl_ints1' rfl u.shared.length (by omega) (by decide)
    have hA : Blk (((w1.alloc (.cells (Array.replicate u.shared.length (.int .i64 0)) 3)).alloc (.cells #[.slice (some ⟨w1.heap.size, 0, none⟩) u.shared.length u.shared.length] 30))) w1.heap.size 3 (ints (List.replicate 0 (-1) ++ List.replicate (u.shared.length - 0) 0)) :=
      (Blk.of (heap_new w1 _ _ rfl) (by simp [ints])).alloc _
    have hO : Blk (((w1.alloc (.cells (Array.replicate u.shared.length (.int .i64 0)) 3)).alloc (.cells #[.slice (some ⟨w1.heap.size, 0, none⟩) u.shared.length u.shared.length] 30))) (w1.heap.size + 1) 30 [.slice (some ⟨w1.heap.size, 0, none⟩) u.shared.length u.shared.length] :=
      Blk.of (heap_new (w1.alloc _) _ _ (by simp)) rfl
    have hBw : Below w1.heap.size w1 (((w1.alloc (.cells (Array.replicate u.shared.length (.int .i64 0)) 3)).alloc (.cells #[.slice (some ⟨w1.heap.size, 0, none⟩) u.shared.length u.shared.length] 30))) := (Below_alloc' _ _).alloc (by simp) _
    have hBs : w1.heap.size + 2 ≤ (((w1.alloc (.cells (Array.replicate u.shared.length (.int .i64 0)) 3)).alloc (.cells #[.slice (some ⟨w1.heap.size, 0, none⟩) u.shared.length u.shared.length] 30))).heap.size := by simp
    gi_wp2
    gi_loopw [25] (fun v25 wr => ∃ i : Nat, v25 = .int .i64 i ∧ i ≤ u.shared.length ∧ Blk wr w1.heap.size 3 (ints (List.replicate i (-1) ++ List.replicate (u.shared.length - i) 0)) ∧ Blk wr (w1.heap.size + 1) 30 [.slice (some ⟨w1.heap.size, 0, none⟩) u.shared.length u.shared.length] ∧ Below w1.heap.size w1 wr ∧ w1.heap.size + 2 ≤ wr.heap.size) (fun v25 _ => u.shared.length - (intOf v25).toNat)
    case atStart => exact ⟨0, rfl, by omega, hA, hO, hBw, hBs⟩
    case round =>
      obtain ⟨i, rfl, hi, hAi, hOi, hBi, hSi⟩ := hrel
      have co := hOi.cell 0
      by_cases hlt : i < u.shared.length
      · have ca : wr.cell? ⟨w1.heap.size, i, none⟩ = some (.int .i64 0) := by
          rw [hAi.cell i]
          unfold ints
          rw [List.getElem?_map, List.getElem?_append_right (by simp), List.getElem?_replicate]
          simp
          omega
        have fa := hAi.frozen i
        have hi0 : (0 : Int) ≤ i := by omega
        have hil : (i : Int) < u.shared.length := by omega
        have hA2 : Blk (wr.setCell ⟨w1.heap.size, i, none⟩ (.int .i64 (-1))) w1.heap.size 3 (ints (List.replicate (i + 1) (-1) ++ List.replicate (u.shared.length - (i + 1)) 0)) := by
          have h := hAi.set_ i (.int .i64 (-1))
          have e : (ints (List.replicate i (-1) ++ List.replicate (u.shared.length - i) 0)).set i (.int .i64 (-1)) = ints (List.replicate (i + 1) (-1) ++ List.replicate (u.shared.length - (i + 1)) 0) := by
            obtain ⟨d, hd⟩ : ∃ d, u.shared.length - i = d + 1 := ⟨u.shared.length - i - 1, by omega⟩
            have hd2 : u.shared.length - (i + 1) = d := by omega
            rw [hd, hd2]
            unfold ints
            rw [List.replicate_succ, List.map_append, List.map_cons, set_mid _ _ _ _ _ (by simp), List.replicate_succ']
            simp
          rwa [e] at h
        gi_wp2
        go_roundw
        case rel => exact ⟨i + 1, by go_num, by omega, hA2, hOi.far (by simp) _, hBi.setCell (by simp) _, by simp [World.setCell]; omega⟩
        case measure => simp [intOf]; omega
      · obtain rfl : i = u.shared.length := by omega
        have hA3 : Blk wr w1.heap.size 3 (ints (ownList u.shared.length [])) := by rw [ownList_nil]; simpa using hAi
        have hbxr := hbx1.below hBi hbx1.lt
        have HLDr : Hid (∀ j v, ([.slice sA u.shared.length sc, lv, gv] : List Value)[j]? = some v → wr.cell? ⟨w.heap.size, 0 + j, none⟩ = some v) := Lib.hid fun j v hj => by rw [Nat.zero_add, hbxr.cell]; exact hj
        have hwr : Below w.heap.size w wr := hw1.trans (hBi.mono hw1.size)
        clear hAi hBi hi hlt co
        gi_wp2_with (first
          | (refine wpListIn_load_at rfl 25 _ rfl w.heap.size 0 rfl _ _ HLDr.out Try.underlying25 rfl (by kernel_rfl) ?_))
        refine ⟨trivial, ?_⟩
        refine (callsIn_wide.2 (touches_made [.slice sA u.shared.length sc, lv, gv] rfl _)).mono ?_
        rintro e w2 ⟨rfl, rfl⟩
        gi_wp2
        obtain ⟨wl, hwl⟩ : ∃ wl, wr.alloc (.cells [.slice sA u.shared.length sc, lv, gv].toArray 25) = wl := ⟨_, rfl⟩
        have hbl : Below wr.heap.size wr wl := by rw [← hwl]; exact Below_alloc' _ _
        have hbt : Blk wl wr.heap.size 25 [.slice sA u.shared.length sc, lv, gv] := by rw [← hwl]; exact Blk.new _ _ _
        have hA4 := hA3.below hbl hA3.lt
        have hO4 := hOi.below hbl hOi.lt
        have hw4 : Below w.heap.size w wl := hwr.trans (hbl.mono hwr.size)
        have hul : UnitV (part wl 0 w.heap.size) [.slice sA u.shared.length sc, lv, gv] u := (hu0.mono (cmap_part w)).mono (part_belowL hw4)
        have hsl := hbl.size
        have hs1 := hw1.size
        rw [show wr.alloc (.cells #[.slice sA u.shared.length sc, lv, gv] 25) = wl from hwl]
        have HWL := Lib.hid hwl; clear hwl
        refine wp_act fun a0 ha0 => ?_
        refine wpIn_rangeFunc_ownH rfl (by decide) (gf := 71) (lb := #[.pointer (some ⟨wr.heap.size, 0, none⟩)]) (by rw [ha0]; rfl) trivial (enters_of Try.func71 (by kernel_rfl) rfl)
          (touches_stops u hru [.slice sA u.shared.length sc, lv, gv] 6 wr.heap.size w.heap.size wl.heap.size none (by decide) wl (by omega) (Nat.le_refl _) (fun k e => by cases e) (fun q e => by cases e) hbt hul)
          (fun h k => KeepI.trans h k) (fun W l o o' hl ho hc _ => KeepI.putObj W l o o' (by omega) (fun k e => by cases e) ho hc) (Below.refl _ _) (fun _ => rfl)
          (fun pre W => Blk W w1.heap.size 3 (ints (ownList u.shared.length (vals pre))) ∧ Blk W (w1.heap.size + 1) 30 [.slice (some ⟨w1.heap.size, 0, none⟩) u.shared.length u.shared.length] ∧ Below w.heap.size w W)
          (fun _ _ _ => False)
          (OwnFrom.and (Own.from (blk_own _ _ _) _) (OwnFrom.and (Own.from (blk_own _ _ _) _) (ownFrom_below (Nat.le_refl _) (by omega))))
          (fun _ _ _ _ _ hs _ _ => hs)
          ⟨hA4, hO4, hw4⟩
          (fun x a' W => ∃ Bx, w1.heap.size + 2 ≤ Bx ∧ Blk W Bx 90 (tchCells x.1) ∧ a' = { tmps := (a0.tmps.setIfInBounds 34 (.agg (tchCells x.1).toArray)).setIfInBounds 9 (.pointer (some ⟨Bx, 0, none⟩)), defers := [] })
          (fun x a' _ X Y row hs hg hr => by obtain ⟨Bx, h1, h2, h3⟩ := hs; exact ⟨Bx, h1, blk_own Bx _ (fun (_ : Unit) => tchCells x.1) () X Y row h2 hg (fun r e => (hr r e).2), h3⟩)
          ?assign ?body ?done ?stop
        case assign =>
          rintro l pre x W K ⟨j1, j2, j3⟩ hK
          subst ha0
          have hnl : w1.heap.size + 2 ≤ W.heap.size := by have := j2.lt; omega
          have hfin := hK { tmps := _, defers := [] } _ ((KeepsOthers.alloc W (.cells (tchCells x.1).toArray 90)).from _) (KeepI.below (Below_alloc' W (.cells (tchCells x.1).toArray 90)) (by omega) (fun k e => by cases e)) ⟨j1.alloc _, j2.alloc _, j3.alloc (by omega) _⟩ ⟨W.heap.size, hnl, Blk.new W _ _, rfl⟩
          unfold tchEnc
          unfold tchCells at hfin ⊢
          have HFIN := Lib.hid hfin; clear hfin hK
          gi_wp2
          exact HFIN.out
        case body =>
          rintro l pre x a' W hl ⟨r, hr⟩ ⟨j1, j2, j3⟩ ⟨Bx, hBx, bX, rfl⟩ hlt
          subst ha0
          obtain ⟨k, hk, hkl, htl⟩ := tt_thing hru x
          have hlen : (ownList u.shared.length (vals pre)).length = u.shared.length := by unfold ownList; simp
          have hget := ownList_get (n := u.shared.length) (T := vals pre) hkl
          have hsn := ownList_snoc u.shared.length (vals pre) x.1 k hk
          have ca : W.cell? ⟨w1.heap.size, k, none⟩ = some (.int .i64 (ownFold (vals pre) k)) := by
            rw [j1.cell k]
            unfold ints
            rw [List.getElem?_map, hget]
            rfl
          have fa := j1.frozen k
          have co := j2.cell 0
          have x2 : W.cell? ⟨Bx, 2, none⟩ = some (.int .i64 (k : Int)) := by rw [bX.cell 2, ← hk]; rfl
          have x0 : W.cell? ⟨Bx, 0, none⟩ = some (.int .i64 (x.1.t : Int)) := by rw [bX.cell 0]; rfl
          have hk0 : (0 : Int) ≤ k := by omega
          have hk1 : (k : Int) < u.shared.length := by omega
          have HI := Lib.hid (vals_snoc pre x)
          have HSN := Lib.hid hsn; clear hsn hlen
          have HGE := Lib.hid hget; clear hget
          unfold tchCells
          generalize ownFold (vals pre) (k : Int) = ov at *
          generalize x.1.t = tt at *
          clear hk
          by_cases h1 : ov = -1
          · have e1 : (ov == -1) = true := by simp [h1]
            have es : ownStep ov tt = tt := by unfold ownStep; rw [if_pos h1]
            have HES := Lib.hid es; clear es
            clear h1
            gi_wp2
            exact ⟨(KeepsOthers.setCell _ _ _).from _, KeepI.setLow W _ _ _ (by omega) (by omega), by rw [HI.out, HSN.out, HES.out]; have := j1.set_ k (.int .i64 (tt : Int)); unfold ints at this ⊢; rwa [← List.map_set] at this, j2.far (by simp) _, j3.setCell (by simp; omega) _⟩
          · have e1 : (ov == -1) = false := by simp [h1]
            by_cases h2 : ov = tt
            · have e2 : (ov == (tt : Int)) = true := by simp [h2]
              have es : ownStep ov tt = ov := by unfold ownStep; rw [if_neg h1, if_pos h2]
              have HES := Lib.hid es; clear es
              clear h1 h2
              gi_wp2
              exact ⟨KeepsFrom.refl _ _, KeepI.below (Below.refl _ _) (by have := j3.size; omega) (fun k e => by cases e), by rw [HI.out, HSN.out, HES.out, set_same HGE.out]; exact j1, j2, j3⟩
            · have e2 : (ov == (tt : Int)) = false := by simp [h2]
              have es : ownStep ov tt = -2 := by unfold ownStep; rw [if_neg h1, if_neg h2]
              have HES := Lib.hid es; clear es
              clear h1 h2
              gi_wp2
              exact ⟨(KeepsOthers.setCell _ _ _).from _, KeepI.setLow W _ _ _ (by omega) (by omega), by rw [HI.out, HSN.out, HES.out]; have := j1.set_ k (.int .i64 (-2)); unfold ints at this ⊢; rwa [← List.map_set] at this, j2.far (by simp) _, j3.setCell (by simp; omega) _⟩
        case done =>
          rintro D zs W hD rfl ⟨j1, j2, j3⟩ hK
          subst ha0
          have co := j2.cell 0
          rw [vals_all] at j1
          have hD2 : wl.heap.size ≤ D := hD
          have hp := grownBy_putObj' W D (.deferred none)
          have j1' : Blk (W.putObj D (.deferred none)) w1.heap.size 3 (ints (ownList u.shared.length (TT u))) := j1.grown hp (fun e => by injection e with e; omega)
          have hpb : Below w.heap.size W (W.putObj D (.deferred none)) := belowK_b (w := w) (Nat.le_refl _) W D _ _ (by omega) hK rfl rfl
          have hll : (ownList u.shared.length (TT u)).length = u.shared.length := by unfold ownList; simp
          have hi := Ints_blk (lo := w.heap.size) (hi := (W.putObj D (.deferred none)).heap.size) j1' u.shared.length hll.symm (by omega) hs1 j1'.lt
          have hok9 := Blk.okRow (base := w.heap.size) j1' (show (ints (ownList u.shared.length (TT u))).length = u.shared.length by unfold ints; rw [List.length_map]; exact hll) (by omega) hs1
          have HOK9 := Lib.hid hok9; clear hok9
          have HLL := Lib.hid hll; clear hll
          gi_wp2
          refine ⟨by simp, .inl ⟨_, _, rfl, run_takeDeferred hK, ?_⟩⟩
          exact ⟨.tuple #[.slice (some ⟨w1.heap.size, 0, none⟩) u.shared.length u.shared.length, .int .i64 0], by simp [results, Try.results13, go_sem], .inl ⟨HR.out, _, rfl, hi, j3.trans hpb, HOK9.out⟩⟩
        case stop =>
          rintro D c pre W _ _ h _
          exact h.elim
theorem owners_calls (u : Unit_) (cs : List Value) (w : World) (hu : UnitV (cmap w) cs u) (hok : UOk u) :
    Calls Try.prog 13 #[.agg cs.toArray] w fun e w' => (checkF u = none ∧ ∃ v, e = .returned (.tuple #[v, .int .i64 0]) ∧ Ints (part w' w.heap.size w'.heap.size) v (ownList u.shared.length (TT u)) ∧ Below w.heap.size w w') ∨
      (checkF u ≠ none ∧ e = .returned (.tuple #[.slice none 0 0, .int .i64 60]) ∧ Below w.heap.size w w') := by
  refine (owners_own u cs w hu hok).mono ?_
  rintro e w' (⟨h1, v, h2, h3, h4, -⟩ | h)
  · exact .inl ⟨h1, v, h2, h3, h4⟩
  · exact .inr h
end Go.Proofs.Ytkkmkjjbffpgnaa
/- A range over a function whose iterator itself ranges over functions: what lies between two rounds has to abide whatever block that is no row of cells and lies beyond the loop's own. -/
namespace Go.Proofs.Ytkkmkjjbffpgnaa
open Go Go.RowKit Go.Shelf
theorem keepsFrom_mono {B B' : Nat} {X Y : World} (h : KeepsFrom B X Y) (hB : B ≤ B') : KeepsFrom B' X Y := ⟨h.size, fun i o hi h1 h2 => h.same i o (Nat.le_trans hB hi) h1 h2⟩
/-- The contract of such an iterator. -/
def SeqC {α : Type} (F : Fence) (n : Nat) (P : Program) (g : Nat) (lb : Array Value) (enc : α → Array Value) (Kp : World → World → Prop) (S Sp : List α → Prop) (N : Nat) (w : World) : Prop :=
  ∀ (l : Nat) (J Jx : List α → World → Prop) (W : World), Below w.heap.size w W → OwnFrom W.heap.size J → OwnFrom W.heap.size Jx →
    (∀ pre x W1, J pre W1 → pre.length < N → YieldAt F (n - 1) P l (enc x) W1 fun e W' =>
      (e = .returned (.bool true) ∧ J (pre ++ [x]) W' ∧ Kp W1 W' ∧ KeepsFrom W.heap.size W1 W') ∨ (e = .returned (.bool false) ∧ Jx (pre ++ [x]) W' ∧ KeepsFrom W.heap.size W1 W')) →
    J [] W → CallsIn F n P g (#[.func (.yield l) #[] #[]] ++ lb) W fun e W' => (∃ v, e = .returned v) ∧ ((∃ xs, S xs ∧ J xs W') ∨ (∃ pre, Sp pre ∧ Jx pre W'))
/-- The two blocks of a loop's own: its record, and its rounds' deferred calls. -/
structure Books (b : Nat) (r : Loop) (W : World) : Prop where
  rec_ : W.heap[b + 1]? = some (.loop r)
  dfr : W.heap[b]? = some (.deferred (some []))
theorem Books.lt {b : Nat} {r : Loop} {W : World} (h : Books b r W) : b + 1 < W.heap.size := (Array.getElem?_eq_some_iff.1 h.rec_).1
theorem Books.grown {b : Nat} {r : Loop} {W W' : World} {row : Option Nat} (h : Books b r W) (hg : W.grownBy W' row) (hr : ∀ k, row = some k → b + 2 ≤ k) : Books b r W' := by
  have hl := h.lt
  exact ⟨(hg.block _ hl (fun e => by have := hr _ e.symm; omega)).trans h.rec_, (hg.block _ (by omega) (fun e => by have := hr _ e.symm; omega)).trans h.dfr⟩
theorem Books.from {b B : Nat} {r : Loop} {W W' : World} (h : Books b r W) (hk : KeepsFrom B W W') (hb : B ≤ b) : Books b r W' := ⟨hk.same _ _ (by omega) h.rec_ rfl, hk.same _ _ hb h.dfr rfl⟩
theorem Books.turn {b : Nat} {r : Loop} {W : World} (h : Books b r W) (r' : Loop) : Books b r' (W.putObj (b + 1) (.loop r')) := ⟨World.putObj_heap_same h.lt, (World.putObj_heap_other (by omega)).trans h.dfr⟩
section
variable {F : Fence} {n : Nat} {P : Program} {w : World}
theorem range_out {α : Type} {g : Operand} {ps : Array Tmp} {assign body : Code} {Q : Exit → Act → World → Prop} {a : Act} (hro : F.round = none) (h1 : 1 ≤ n) {gf : Nat} {lb : Array Value} (hg : a.eval g = .func (.func gf) #[] lb) (hFg : F.fn gf) (eg : ∀ args w, (callFunc gf args).run P w = .ok (.enter gf args) w)
    {enc : α → Array Value} {Kp : World → World → Prop} {S Sp : List α → Prop} {N : Nat} (hseq : SeqC F (n - 1) P gf lb enc Kp S Sp N w)
    (hKt : ∀ {A B C : World}, Kp A B → Kp B C → Kp A C) (hKb : ∀ (W : World) (l : Nat) (o o' : Obj), w.heap.size ≤ l → W.heap[l]? = some o → o.isCells = false → Kp W (W.putObj l o')) (hps : ∀ x, (enc x).size = ps.size)
    (I : List α → World → Prop) (Ix : Code → List α → World → Prop) (hI : OwnFrom w.heap.size I) (hIx : ∀ c, OwnFrom w.heap.size (Ix c)) (h0 : I [] w) (Ax : α → Act → World → Prop) (hAx : ∀ x a', OwnFrom w.heap.size (fun (_ : Unit) W => Ax x a' W))
    (hassign : ∀ (l : Nat) (pre : List α) (x : α) (W : World) (K : Act → World → Prop), I pre W → (∀ a' W', KeepsFrom w.heap.size W W' → Kp W W' → I pre W' → Ax x a' W' → K a' W') →
      assign.wpIn (F.inRound l) (n - 1 - 1) P (Exit.then K (fun _ _ _ => False)) { tmps := (ps.zip (enc x)).foldl (fun t (p, v) => t.setIfInBounds p v) a.tmps, defers := [] } W)
    (hbody : ∀ (l : Nat) (pre : List α) (x : α) (a' : Act) (W : World), I pre W → Ax x a' W → pre.length < N → body.wpIn (F.inRound l) (n - 1 - 1) P (ownPostG w.heap.size Kp I Ix (pre ++ [x]) W) a' W)
    (hdone : ∀ (D : Nat) (xs : List α) (W : World), w.heap.size ≤ D → S xs → I xs W → W.heap[D]? = some (.deferred (some [])) → Q .normal { a with defers := { target := .collected D, args := #[] } :: a.defers } W)
    (hstop : ∀ (D : Nat) (c : Code) (pre : List α) (W : World), w.heap.size ≤ D → Sp pre → Ix c pre W → W.heap[D]? = some (.deferred (some [])) → c.wpIn F n P Q { a with defers := { target := .collected D, args := #[] } :: a.defers } W) :
    (Code.rangeFunc g ps assign body).wpIn F n P Q a w := by
  refine wpIn_rangeFunc fun fn hfn => ?_
  rw [hro]
  obtain ⟨r0, e1, e2, e3, e4, e5, e6, e7, hent⟩ : ∃ r0 : Loop, r0.state = .ready ∧ r0.pending = none ∧ r0.fn = fn ∧ r0.tmps = a.tmps ∧ r0.params = ps ∧ r0.assign = assign ∧ r0.body = body ∧
      (Instr.enterLoop fn a.tmps ps assign body none).run P w = .ok (w.heap.size + 1, [{ target := .collected w.heap.size, args := #[] }]) ((w.alloc (.deferred (some []))).alloc (.loop r0)) :=
    ⟨{ state := .ready, pending := none, fn, tmps := a.tmps, params := ps, assign, body, defers := w.heap.size }, rfl, rfl, rfl, rfl, rfl, rfl, rfl, run_enterLoop_outer (P := P) (w := w) fn a.tmps ps assign body⟩
  obtain ⟨W1, hW1⟩ : ∃ W1, (w.alloc (.deferred (some []))).alloc (.loop r0) = W1 := ⟨_, rfl⟩
  have hbook : Books w.heap.size r0 W1 := by
    rw [← hW1]
    exact ⟨heap_new _ _ _ (by simp), (heap_alloc_old _ _ (by simp)).trans (heap_new _ _ _ rfl)⟩
  have hst : I [] W1 := by rw [← hW1]; exact hI.alloc _ (hI.alloc _ h0)
  have hbel : Below w.heap.size w W1 := by rw [← hW1]; exact (Below_alloc' _ _).alloc (by simp) _
  have hsz := hbook.lt
  rw [hW1] at hent
  clear hW1
  refine ⟨w.heap.size + 1, _, W1, { target := .fn (.func gf) lb, args := #[.func (.yield (w.heap.size + 1)) #[] #[]] }, W1, gf, #[.func (.yield (w.heap.size + 1)) #[] #[]] ++ lb, W1, hent, ?_, ?_, ?_, fun _ => h1, ?_⟩
  · simp only [resolve, hg]
    simp [go_sem]
  · intro f' hf'
    simp [Target.leads] at hf'
    subst hf'
    exact hFg
  · simp [invoke, go_sem, eg]
  have hkf : ∀ (X : World) (o : Obj), KeepsFrom W1.heap.size X (X.putObj (w.heap.size + 1) o) := fun X o => KeepsFrom.of_grownBy (grownBy_putObj' X _ o) (fun j e => by injection e with e; omega)
  have own : ∀ (β : Type) (T : β → World → Prop) (r : Loop), OwnFrom w.heap.size T → OwnFrom W1.heap.size (fun s W => T s W ∧ Books w.heap.size r W) := fun β T r hT s X Y row hs hgr hrow =>
    ⟨hT s X Y row hs.1 hgr (fun k e => ⟨by have := (hrow k e).1; omega, (hrow k e).2⟩), hs.2.grown hgr (fun k e => by have := (hrow k e).1; omega)⟩
  refine (hseq (w.heap.size + 1) (fun pre W => I pre W ∧ Books w.heap.size r0 W) (fun pre W => ∃ c, Ix c pre W ∧ Books w.heap.size { r0 with state := .done, pending := some c } W) W1 hbel (own _ I r0 hI) ?_ ?_ ⟨hst, hbook⟩).mono ?_
  · rintro pre X Y row ⟨c, hc⟩ hgr hrow
    exact ⟨c, own _ (Ix c) _ (hIx c) pre X Y row hc hgr hrow⟩
  · rintro pre x W ⟨hi, hb⟩ hlen
    have hy := run_yield (P := P) (args := enc x) hb.rec_ (by rw [e5]; exact hps x)
    rw [e3, e4, e5, e6, e7] at hy
    refine ⟨fn, _, assign, body, hy, roundIn_of_wpIn hfn (hassign _ pre x W _ hi ?_)⟩
    intro a' Wa k1 k2 hia hax
    have hba := hb.from k1 (Nat.le_refl _)
    refine ⟨_, run_beginRound hba.rec_ e1, ?_⟩
    have hbb := hba.turn { r0 with state := .busy }
    have hkb := hKb Wa (w.heap.size + 1) _ (.loop { r0 with state := .busy }) (by omega) hba.rec_ rfl
    refine wpIn_mono (hbody _ pre x a' _ (hI.putObj _ hia (by omega) hba.rec_ rfl) ((hAx x a').putObj (s := ()) _ hax (by omega) hba.rec_ rfl) hlen) ?_
    have leave : ∀ (c : Code) (W3 : World), KeepsFrom w.heap.size (Wa.putObj (w.heap.size + 1) (.loop { r0 with state := .busy })) W3 → Ix c (pre ++ [x]) W3 →
        ∃ v w', (Instr.endRound (w.heap.size + 1) (some c)).run P W3 = .ok v w' ∧ v = .bool false ∧ (∃ c, Ix c (pre ++ [x]) w' ∧ Books w.heap.size { r0 with state := .done, pending := some c } w') ∧ KeepsFrom W1.heap.size W w' := fun c W3 hk hi3 => by
      have hb3 := hbb.from hk (Nat.le_refl _)
      exact ⟨_, _, run_endRound (P := P) (some c) hb3.rec_, rfl, ⟨c, (hIx c).putObj _ hi3 (by omega) hb3.rec_ rfl, hb3.turn _⟩, (keepsFrom_mono k1 (by omega)).trans ((hkf _ _).trans ((keepsFrom_mono hk (by omega)).trans (hkf _ _)))⟩
    rintro e a3 W3 hp
    cases e with
    | normal =>
      obtain ⟨hk, hkp, hi3⟩ := hp
      have hb3 := hbb.from hk (Nat.le_refl _)
      have hb4 := hb3.turn r0
      have hend := run_endRound (P := P) none hb3.rec_
      have er : ({ ({ r0 with state := .busy } : Loop) with state := if (none : Option Code).isNone then .ready else .done, pending := none } : Loop) = r0 := by
        cases r0
        simp_all
      rw [er] at hend
      exact ⟨_, _, hend, .inl ⟨rfl, ⟨hI.putObj _ hi3 (by omega) hb3.rec_ rfl, hb4⟩, hKt k2 (hKt hkb (hKt hkp (hKb _ _ _ _ (by omega) hb3.rec_ rfl))), (keepsFrom_mono k1 (by omega)).trans ((hkf _ _).trans ((keepsFrom_mono hk (by omega)).trans (hkf _ _)))⟩⟩
    | ret =>
      obtain ⟨v, w', h1, h2, h3⟩ := leave .ret W3 hp.1 hp.2
      exact ⟨v, w', h1, .inr ⟨by rw [h2], h3⟩⟩
    | exit id =>
      obtain ⟨v, w', h1, h2, h3⟩ := leave (.exit id) W3 hp.1 hp.2
      exact ⟨v, w', h1, .inr ⟨by rw [h2], h3⟩⟩
    | goto t =>
      obtain ⟨v, w', h1, h2, h3⟩ := leave (.goto t) W3 hp.1 hp.2
      exact ⟨v, w', h1, .inr ⟨by rw [h2], h3⟩⟩
    | panic ch => exact hp.elim
    | outgrown => exact hp.elim
  · rintro e W2 ⟨⟨v, rfl⟩, ⟨xs, hS, hi, hb⟩ | ⟨pre, hSp, c, hi, hb⟩⟩
    · have hend := run_endLoop (P := P) hb.rec_ (by rw [e1]; simp)
      rw [e2] at hend
      exact ⟨none, _, hend, hdone w.heap.size xs _ (Nat.le_refl _) hS (hI.putObj _ hi (by omega) hb.rec_ rfl) (hb.turn _).dfr⟩
    · have hend := run_endLoop (P := P) hb.rec_ (by simp)
      exact ⟨some c, _, hend, hstop w.heap.size c pre _ (Nat.le_refl _) hSp ((hIx c).putObj _ hi (by omega) hb.rec_ rfl) (hb.turn _).dfr⟩
end
end Go.Proofs.Ytkkmkjjbffpgnaa
