import Derived.Test.YtkkmkjjbffpgnaaP43
import Derived.Test.YtkkmkjjbffpgnaaP08
import Derived.Test.YtkkmkjjbffpgnaaP35
import Derived.Test.YtkkmkjjbffpgnaaP40
/- The walk of sharing.Apart: both threads' doings, in whatever order their memory is made. -/
namespace Go.Proofs.Ytkkmkjjbffpgnaa
open Go Go.RowKit
theorem blkz_new1 (w : World) (t : TypeId) (cs : List Value) : Blk ((w.alloc (.cells cs.toArray t)).drew) w.heap.size t cs := Blk.new w t cs
theorem Below.al' {w0 w : World} (h : Below w0.heap.size w0 w) (o : Obj) : Below w0.heap.size w0 (w.alloc o) := h.alloc h.size o
/-- Both threads' doings in memory. -/
structure ApAt (w0 w : World) (x y : Graph) (X Y r1 s1 l1 r2 s2 l2 : Nat) : Prop where
  dx : DoMem w x x.nodes.length r1 s1 l1
  dy : DoMem w y y.nodes.length r2 s2 l2
  bx : Blk w X 137 [.map (some r1), .map (some s1), .map (some l1), .bool (anyN x prB)]
  by_ : Blk w Y 137 [.map (some r2), .map (some s2), .map (some l2), .bool (anyN y prB)]
  below : Below w0.heap.size w0 w
theorem ApAt.keep {w0 w w' : World} {x y : Graph} {X Y r1 s1 l1 r2 s2 l2 : Nat} (h : ApAt w0 w x y X Y r1 s1 l1 r2 s2 l2) (hb : Below w.heap.size w w') : ApAt w0 w' x y X Y r1 s1 l1 r2 s2 l2 :=
  ⟨h.dx.keep (fun b hk => hb.block b (by rcases hk with rfl | rfl | rfl <;> first | exact h.dx.mr.lt | exact h.dx.mw.lt | exact h.dx.ml.lt)),
    h.dy.keep (fun b hk => hb.block b (by rcases hk with rfl | rfl | rfl <;> first | exact h.dy.mr.lt | exact h.dy.mw.lt | exact h.dy.ml.lt)), h.bx.below hb h.bx.lt, h.by_.below hb h.by_.lt, h.below.trans (hb.mono h.below.size)⟩
/-- What holds while both threads' doings are made, D being what has come up. -/
structure ApJ (W0 : World) (cu : Value) (ta tb : Nat) (a0 : Act) (x y : Graph) (D : Nat → Bool) (a : Act) (w : World) : Prop where
  fr : Fr [12, 13, 46, 47, 48, 49, 50, 51] a0 a
  below : Below W0.heap.size W0 w
  s0 : D 0 = true → a.eval (.tmp 46) = cu
  s1 : D 1 = true → a.eval (.tmp 47) = .int .i64 ta
  s2 : D 2 = true → ∃ r s l, a.eval (.tmp 48) = .agg #[.map (some r), .map (some s), .map (some l), .bool (anyN x prB)] ∧ DoMem w x x.nodes.length r s l
  s3 : D 3 = true → a.eval (.tmp 49) = cu
  s4 : D 4 = true → a.eval (.tmp 50) = .int .i64 tb
  s5 : D 5 = true → ∃ r s l, a.eval (.tmp 51) = .agg #[.map (some r), .map (some s), .map (some l), .bool (anyN y prB)] ∧ DoMem w y y.nodes.length r s l
  s6 : D 6 = true → ∃ X cs, a.eval (.tmp 12) = .pointer (some ⟨X, 0, none⟩) ∧ W0.heap.size ≤ X ∧ Blk w X 137 cs ∧ cs.length = 4 ∧ (D 8 = true → a.eval (.tmp 48) = .agg cs.toArray)
  s7 : D 7 = true → ∃ X cs, a.eval (.tmp 13) = .pointer (some ⟨X, 0, none⟩) ∧ W0.heap.size ≤ X ∧ Blk w X 137 cs ∧ cs.length = 4 ∧ (D 9 = true → a.eval (.tmp 51) = .agg cs.toArray)
  ne : D 6 = true → D 7 = true → a.eval (.tmp 12) ≠ a.eval (.tmp 13)
  o8 : D 8 = true → D 2 = true ∧ D 6 = true
  o9 : D 9 = true → D 5 = true ∧ D 7 = true
theorem DoMem.below {w w' : World} {g : Graph} {k r s l : Nat} (h : DoMem w g k r s l) (hb : Below w.heap.size w w') : DoMem w' g k r s l :=
  h.keep (fun b hk => hb.block b (by rcases hk with rfl | rfl | rfl <;> first | exact h.mr.lt | exact h.mw.lt | exact h.ml.lt))
theorem ApJ.keep {W0 : World} {cu : Value} {ta tb : Nat} {a0 : Act} {x y : Graph} {D : Nat → Bool} {a : Act} {w w' : World} (h : ApJ W0 cu ta tb a0 x y D a w) (hb : Below w.heap.size w w') : ApJ W0 cu ta tb a0 x y D a w' where
  fr := h.fr
  below := h.below.trans (hb.mono h.below.size)
  s0 := h.s0
  s1 := h.s1
  s2 := fun hd => by obtain ⟨r, s, l, e, m⟩ := h.s2 hd; exact ⟨r, s, l, e, m.below hb⟩
  s3 := h.s3
  s4 := h.s4
  s5 := fun hd => by obtain ⟨r, s, l, e, m⟩ := h.s5 hd; exact ⟨r, s, l, e, m.below hb⟩
  s6 := fun hd => by obtain ⟨X, cs, e, e1, e2, e3⟩ := h.s6 hd; exact ⟨X, cs, e, e1, e2.below hb e2.lt, e3⟩
  s7 := fun hd => by obtain ⟨X, cs, e, e1, e2, e3⟩ := h.s7 hd; exact ⟨X, cs, e, e1, e2.below hb e2.lt, e3⟩
  ne := h.ne
  o8 := h.o8
  o9 := h.o9
theorem map_ne {w : World} {b X : Nat} {t : TypeId} {cs : List Value} {F : Int → Option Value} (h : MapIs iv decInt w b F) (hX : Blk w X t cs) : b ≠ X := by
  intro e
  subst e
  obtain ⟨es, c, h, _⟩ := h
  unfold Blk at hX
  rw [h] at hX
  injection hX with hX
  cases hX
theorem DoMem.row {w : World} {g : Graph} {k r s l X : Nat} {t : TypeId} {cs : List Value} (h : DoMem w g k r s l) (hX : Blk w X t cs) (cs' : Array Value) : DoMem (w.setRow X cs') g k r s l :=
  h.keep (fun b hk => heap_setRow_ne (by rcases hk with rfl | rfl | rfl <;> first | exact map_ne h.mr hX | exact map_ne h.mw hX | exact map_ne h.ml hX) cs')
set_option maxRecDepth 100000 in
set_option maxHeartbeats 1500000 in
theorem apart_calls (u : Unit_) (cs : List Value) (a b : Int) (w : World) (hu : UnitV (cmap w) cs u) (hok : UOk u) :
    Calls Try.prog 38 #[.agg cs.toArray, .int .i64 a, .int .i64 b] w fun e w' => e = .returned (.tuple #[.bool (apartR u a b).1, .int .i64 (apartR u a b).2]) ∧ Below w.heap.size w w' := by
  have hu0 := hu
  obtain ⟨sv, lv, gv, rfl, -, -, hg⟩ := hu
  obtain ⟨gA, gc, rfl, -⟩ := id hg
  have bg := hg.len.2.2
  have hbx := Blk.new w 25 [sv, lv, .slice gA u.graphs.length gc]
  have HLD : Hid (∀ j v, ([sv, lv, .slice gA u.graphs.length gc] : List Value)[j]? = some v → (w.alloc (.cells #[sv, lv, .slice gA u.graphs.length gc] 25)).cell? ⟨w.heap.size, 0 + j, none⟩ = some v) := cell_newl w _ _ _ rfl
  obtain ⟨R, hR⟩ : ∃ R, apartR u a b = R := ⟨_, rfl⟩
  rw [hR]
  have HR := Lib.hid hR; clear hR
  go_enter Try.func38, Try.ntmps38
  go_wp2_with (first
    | (refine wpList_load_at rfl 25 _ rfl w.heap.size 0 rfl _ _ HLD.out Try.underlying25 rfl (by kernel_rfl) ?_))
  refine (check_calls u _ _ (hu0.mono (cmap_alloc _ _)) hok).mono ?_
  rintro e W0 ⟨rfl, hb0⟩
  have hW0 : Below w.heap.size w W0 := (Below_alloc' _ _).trans (hb0.mono (by simp))
  have hbx0 := hbx.below hb0 hbx.lt
  obtain ⟨r, hr⟩ : ∃ r, checkF u = r := ⟨_, rfl⟩
  cases r with
  | some ti =>
    obtain ⟨t, i⟩ := ti
    have hRR : R = (false, 60) := by rw [← HR.out]; unfold apartR; rw [if_pos (by rw [hr]; simp)]
    subst hRR
    rw [hr]
    unfold checkV
    clear hr HR
    go_wp2
    go_ret2
    exact ⟨rfl, hW0⟩
  | none =>
    have hru := checkF_none hr
    have hck : ¬ checkF u ≠ none := by rw [hr]; simp
    rw [hr]
    unfold checkV
    clear hr
    have e0 := hbx0.cell 0
    have e1 := hbx0.cell 1
    have e2 := hbx0.cell 2
    by_cases hrg : a < 0 ∨ (u.graphs.length : Int) ≤ a ∨ b < 0 ∨ (u.graphs.length : Int) ≤ b
    · have hRR : R = (false, 2) := by rw [← HR.out]; unfold apartR; rw [if_neg hck, if_pos hrg]
      subst hRR
      clear HR hck
      by_cases h1 : a < 0
      · have d1 : decide (a < 0) = true := by simp [h1]
        clear hrg
        go_wp2
        go_ret2
        exact ⟨rfl, hW0⟩
      · have d1 : decide (a < 0) = false := by simp; omega
        by_cases h2 : (u.graphs.length : Int) ≤ a
        · have d2 : decide ((u.graphs.length : Int) ≤ a) = true := by simp [h2]
          clear hrg
          go_wp2
          go_ret2
          exact ⟨rfl, hW0⟩
        · have d2 : decide ((u.graphs.length : Int) ≤ a) = false := by simp; omega
          by_cases h3 : b < 0
          · have d3 : decide (b < 0) = true := by simp [h3]
            clear hrg
            go_wp2
            go_ret2
            exact ⟨rfl, hW0⟩
          · have d3 : decide (b < 0) = false := by simp; omega
            have d4 : decide ((u.graphs.length : Int) ≤ b) = true := by simp; omega
            clear hrg
            go_wp2
            go_ret2
            exact ⟨rfl, hW0⟩
    · have d1 : decide (a < 0) = false := by simp; omega
      have d2 : decide ((u.graphs.length : Int) ≤ a) = false := by simp; omega
      have d3 : decide (b < 0) = false := by simp; omega
      have d4 : decide ((u.graphs.length : Int) ≤ b) = false := by simp; omega
      by_cases hab : a = b
      · have hRR : R = (false, 0) := by rw [← HR.out]; unfold apartR; rw [if_neg hck, if_neg hrg, if_pos hab]
        subst hRR
        subst hab
        have d5 : (a == a) = true := by simp
        clear HR hck hrg
        go_wp2
        go_ret2
        exact ⟨rfl, hW0⟩
      · have d5 : (a == b) = false := by simpa using hab
        obtain ⟨ta, rfl⟩ : ∃ n : Nat, a = n := ⟨a.toNat, by omega⟩
        obtain ⟨tb, rfl⟩ : ∃ n : Nat, b = n := ⟨b.toNat, by omega⟩
        obtain ⟨ga, hga⟩ : ∃ g, u.graphs[ta]? = some g := ⟨u.graphs[ta]'(by omega), List.getElem?_eq_getElem _⟩
        obtain ⟨gb, hgb⟩ : ∃ g, u.graphs[tb]? = some g := ⟨u.graphs[tb]'(by omega), List.getElem?_eq_getElem _⟩
        have d6 : decide (u.graphs.length ≤ ta) = false := by simp; omega
        have d7 : decide (u.graphs.length ≤ tb) = false := by simp; omega
        have d8 : (ta == tb) = false := by simp; omega
        have hRR : R = (apartG ga gb, 0) := by rw [← HR.out]; unfold apartR; rw [if_neg hck, if_neg hrg, if_neg hab, Int.toNat_natCast, Int.toNat_natCast, hga, hgb]
        have HRR := Lib.hid hRR; clear hRR HR hck hrg hab
        have hwa := (hru.graphs ga (List.mem_of_getElem? hga)).whole
        have hwb := (hru.graphs gb (List.mem_of_getElem? hgb)).whole
        have HGA := Lib.hid hga; have HGB := Lib.hid hgb; clear hga hgb
        have l0 := hbx0.lt
        have hW : (cmap w).le (cmap W0) := cmap_below hW0
        have hu1 := hu0.mono hW
        have HW0 := Lib.hid hW0
        have HBX0 := Lib.hid hbx0
        have HBX0 := Lib.hid hbx0
        have HBX0 := Lib.hid hbx0
        have HBX0 := Lib.hid hbx0
        clear hu0 hW hb0 hbx hbx0 HLD
        go_upto_region 9 with fail
        have HBX : Hid (∀ j v, ([sv, lv, .slice gA u.graphs.length gc] : List Value)[j]? = some v → W0.cell? ⟨w.heap.size, j, none⟩ = some v) := Lib.hid fun j v hj => (HBX0.out.cell j).trans hj
        refine wp_act0 fun a0 ha0 => ?_
        have t3 : a0.eval (.tmp 3) = .pointer (some ⟨w.heap.size, 0, none⟩) := by rw [ha0]; rfl
        have t1 : a0.eval (.tmp 1) = .int .i64 (ta : Int) := by rw [ha0]; rfl
        have t2 : a0.eval (.tmp 2) = .int .i64 (tb : Int) := by rw [ha0]; rfl
        have hsz : a0.tmps.size = 89 := by rw [ha0]; rfl
        have HA0 := Lib.hid ha0; clear ha0
        refine wp_region_inv (ApJ W0 (.agg #[sv, lv, .slice gA u.graphs.length gc]) ta tb a0 ga gb) (by kernel_rfl) (by kernel_rfl) ?start ?steps ?done
        case start =>
          refine { fr := Fr.refl _ _, below := (Below.refl _ W0).drew, s0 := ?_, s1 := ?_, s2 := ?_, s3 := ?_, s4 := ?_, s5 := ?_, s6 := ?_, s7 := ?_, ne := ?_, o8 := ?_, o9 := ?_ } <;> (intro hd; cases hd)
        case steps =>
          refine steps_all ?_
          refine ⟨?_, ?_, ?_, ?_, ?_, ?_, ?_, ?_, ?_, ?_, trivial⟩
          · -- 0
            intro D a wx K hD hp h hK
            refine step_wp rfl ?_
            refine wp_load_at 25 _ rfl w.heap.size 0 ((h.fr.eval (by decide)).trans t3) [sv, lv, .slice gA u.graphs.length gc] _ (fun j v hj => by rw [Nat.zero_add]; exact (h.below.cell (p := ⟨w.heap.size, j, none⟩) l0).trans (HBX.out j v hj)) Try.underlying25 rfl (by kernel_rfl) ?_
            refine hK _ _ {
              fr := h.fr.put (by decide) _
              below := h.below
              s0 := fun _ => h.fr.eval_put (by rw [hsz]; decide) _
              s1 := by simpa [upD, eval_put_ne] using h.s1
              s2 := by simpa [upD, eval_put_ne] using h.s2
              s3 := by simpa [upD, eval_put_ne] using h.s3
              s4 := by simpa [upD, eval_put_ne] using h.s4
              s5 := by simpa [upD, eval_put_ne] using h.s5
              s6 := by simpa [upD, eval_put_ne] using h.s6
              s7 := by simpa [upD, eval_put_ne] using h.s7
              ne := by simpa [upD, eval_put_ne] using h.ne
              o8 := fun hd => by rw [upD_ne _ (by decide)] at hd; exact ⟨upD_mono (h.o8 hd).1, upD_mono (h.o8 hd).2⟩
              o9 := fun hd => by rw [upD_ne _ (by decide)] at hd; exact ⟨upD_mono (h.o9 hd).1, upD_mono (h.o9 hd).2⟩ }
          · -- 1
            intro D a wx K hD hp h hK
            refine step_wp rfl ?_
            refine wp_move_at rfl ?_
            rw [h.fr.eval (j := 1) (by decide), t1]
            refine hK _ _ {
              fr := h.fr.put (by decide) _
              below := h.below
              s1 := fun _ => h.fr.eval_put (by rw [hsz]; decide) _
              s0 := by simpa [upD, eval_put_ne] using h.s0
              s2 := by simpa [upD, eval_put_ne] using h.s2
              s3 := by simpa [upD, eval_put_ne] using h.s3
              s4 := by simpa [upD, eval_put_ne] using h.s4
              s5 := by simpa [upD, eval_put_ne] using h.s5
              s6 := by simpa [upD, eval_put_ne] using h.s6
              s7 := by simpa [upD, eval_put_ne] using h.s7
              ne := by simpa [upD, eval_put_ne] using h.ne
              o8 := fun hd => by rw [upD_ne _ (by decide)] at hd; exact ⟨upD_mono (h.o8 hd).1, upD_mono (h.o8 hd).2⟩
              o9 := fun hd => by rw [upD_ne _ (by decide)] at hd; exact ⟨upD_mono (h.o9 hd).1, upD_mono (h.o9 hd).2⟩ }
          · -- 2
            intro D a wx K hD hp h hK
            refine step_wp rfl ?_
            have q1 := h.s0 (hp 0 (by decide))
            have q2 := h.s1 (hp 1 (by decide))
            have HK := Lib.hid hK; clear hK
            have H := Lib.hid h; clear h
            have hux := hu1.mono (cmap_below H.out.below)
            refine wp_call_at Try.func66 (by kernel_rfl) (by kernel_rfl) rfl #[.agg #[sv, lv, .slice gA u.graphs.length gc], .int .i64 (ta : Int)] (by simp only [List.map_toArray, List.map_cons, List.map_nil, q1, q2]) ?_
            refine (doings_calls u [sv, lv, .slice gA u.graphs.length gc] ta ga _ hux HGA.out hwa).mono ?_
            rintro e w1 ⟨r1, s1, l1, rfl, dm1, -, -, -, hb1⟩
            have h := H.out.keep hb1
            refine ⟨_, rfl, HK.out _ _ ?_⟩
            exact {
              fr := h.fr.put (by decide) _
              below := h.below
              s2 := fun _ => ⟨r1, s1, l1, h.fr.eval_put (by rw [hsz]; decide) _, dm1⟩
              s6 := fun hd => by
                rw [upD_ne _ (by decide)] at hd
                obtain ⟨X, cs, e, e1, e2, e3, e4⟩ := h.s6 hd
                refine ⟨X, cs, by rw [eval_put_ne (by decide)]; exact e, e1, e2, e3, fun h8 => ?_⟩
                rw [upD_ne _ (by decide)] at h8
                have := (h.o8 h8).1
                rw [hD] at this
                cases this
              s0 := by simpa [upD, eval_put_ne] using h.s0
              s1 := by simpa [upD, eval_put_ne] using h.s1
              s3 := by simpa [upD, eval_put_ne] using h.s3
              s4 := by simpa [upD, eval_put_ne] using h.s4
              s5 := by simpa [upD, eval_put_ne] using h.s5
              s7 := by simpa [upD, eval_put_ne] using h.s7
              ne := by simpa [upD, eval_put_ne] using h.ne
              o8 := fun hd => by rw [upD_ne _ (by decide)] at hd; exact ⟨upD_mono (h.o8 hd).1, upD_mono (h.o8 hd).2⟩
              o9 := fun hd => by rw [upD_ne _ (by decide)] at hd; exact ⟨upD_mono (h.o9 hd).1, upD_mono (h.o9 hd).2⟩ }
          · -- 3
            intro D a wx K hD hp h hK
            refine step_wp rfl ?_
            refine wp_load_at 25 _ rfl w.heap.size 0 ((h.fr.eval (by decide)).trans t3) [sv, lv, .slice gA u.graphs.length gc] _ (fun j v hj => by rw [Nat.zero_add]; exact (h.below.cell (p := ⟨w.heap.size, j, none⟩) l0).trans (HBX.out j v hj)) Try.underlying25 rfl (by kernel_rfl) ?_
            refine hK _ _ {
              fr := h.fr.put (by decide) _
              below := h.below
              s3 := fun _ => h.fr.eval_put (by rw [hsz]; decide) _
              s0 := by simpa [upD, eval_put_ne] using h.s0
              s1 := by simpa [upD, eval_put_ne] using h.s1
              s2 := by simpa [upD, eval_put_ne] using h.s2
              s4 := by simpa [upD, eval_put_ne] using h.s4
              s5 := by simpa [upD, eval_put_ne] using h.s5
              s6 := by simpa [upD, eval_put_ne] using h.s6
              s7 := by simpa [upD, eval_put_ne] using h.s7
              ne := by simpa [upD, eval_put_ne] using h.ne
              o8 := fun hd => by rw [upD_ne _ (by decide)] at hd; exact ⟨upD_mono (h.o8 hd).1, upD_mono (h.o8 hd).2⟩
              o9 := fun hd => by rw [upD_ne _ (by decide)] at hd; exact ⟨upD_mono (h.o9 hd).1, upD_mono (h.o9 hd).2⟩ }
          · -- 4
            intro D a wx K hD hp h hK
            refine step_wp rfl ?_
            refine wp_move_at rfl ?_
            rw [h.fr.eval (j := 2) (by decide), t2]
            refine hK _ _ {
              fr := h.fr.put (by decide) _
              below := h.below
              s4 := fun _ => h.fr.eval_put (by rw [hsz]; decide) _
              s0 := by simpa [upD, eval_put_ne] using h.s0
              s1 := by simpa [upD, eval_put_ne] using h.s1
              s2 := by simpa [upD, eval_put_ne] using h.s2
              s3 := by simpa [upD, eval_put_ne] using h.s3
              s5 := by simpa [upD, eval_put_ne] using h.s5
              s6 := by simpa [upD, eval_put_ne] using h.s6
              s7 := by simpa [upD, eval_put_ne] using h.s7
              ne := by simpa [upD, eval_put_ne] using h.ne
              o8 := fun hd => by rw [upD_ne _ (by decide)] at hd; exact ⟨upD_mono (h.o8 hd).1, upD_mono (h.o8 hd).2⟩
              o9 := fun hd => by rw [upD_ne _ (by decide)] at hd; exact ⟨upD_mono (h.o9 hd).1, upD_mono (h.o9 hd).2⟩ }
          · -- 5
            intro D a wx K hD hp h hK
            refine step_wp rfl ?_
            have q1 := h.s3 (hp 3 (by decide))
            have q2 := h.s4 (hp 4 (by decide))
            have HK := Lib.hid hK; clear hK
            have H := Lib.hid h; clear h
            have hux := hu1.mono (cmap_below H.out.below)
            refine wp_call_at Try.func66 (by kernel_rfl) (by kernel_rfl) rfl #[.agg #[sv, lv, .slice gA u.graphs.length gc], .int .i64 (tb : Int)] (by simp only [List.map_toArray, List.map_cons, List.map_nil, q1, q2]) ?_
            refine (doings_calls u [sv, lv, .slice gA u.graphs.length gc] tb gb _ hux HGB.out hwb).mono ?_
            rintro e w1 ⟨r1, s1, l1, rfl, dm1, -, -, -, hb1⟩
            have h := H.out.keep hb1
            refine ⟨_, rfl, HK.out _ _ ?_⟩
            exact {
              fr := h.fr.put (by decide) _
              below := h.below
              s5 := fun _ => ⟨r1, s1, l1, h.fr.eval_put (by rw [hsz]; decide) _, dm1⟩
              s7 := fun hd => by
                rw [upD_ne _ (by decide)] at hd
                obtain ⟨X, cs, e, e1, e2, e3, e4⟩ := h.s7 hd
                refine ⟨X, cs, by rw [eval_put_ne (by decide)]; exact e, e1, e2, e3, fun h8 => ?_⟩
                rw [upD_ne _ (by decide)] at h8
                have := (h.o9 h8).1
                rw [hD] at this
                cases this
              s0 := by simpa [upD, eval_put_ne] using h.s0
              s1 := by simpa [upD, eval_put_ne] using h.s1
              s2 := by simpa [upD, eval_put_ne] using h.s2
              s3 := by simpa [upD, eval_put_ne] using h.s3
              s4 := by simpa [upD, eval_put_ne] using h.s4
              s6 := by simpa [upD, eval_put_ne] using h.s6
              ne := by simpa [upD, eval_put_ne] using h.ne
              o8 := fun hd => by rw [upD_ne _ (by decide)] at hd; exact ⟨upD_mono (h.o8 hd).1, upD_mono (h.o8 hd).2⟩
              o9 := fun hd => by rw [upD_ne _ (by decide)] at hd; exact ⟨upD_mono (h.o9 hd).1, upD_mono (h.o9 hd).2⟩ }
          · -- 6
            intro D a wx K hD hp h hK
            refine step_wp rfl ?_
            have HK := Lib.hid hK; clear hK
            have H := Lib.hid h; clear h
            refine wp_alloc_at rfl (.agg #[.map none, .map none, .map none, .bool false]) [.map none, .map none, .map none, .bool false] rfl (by kernel_rfl) ?_
            have h := H.out.keep (Below_alloc' wx (.cells #[.map none, .map none, .map none, .bool false] 137))
            have hbz := Blk.new wx 137 [.map none, .map none, .map none, .bool false]
            have hwz := H.out.below.size
            refine HK.out _ _ {
              fr := h.fr.put (by decide) _
              below := h.below
              s6 := fun _ => ⟨wx.heap.size, [.map none, .map none, .map none, .bool false], h.fr.eval_put (by rw [hsz]; decide) _, hwz, hbz, rfl, fun h8 => by
                rw [upD_ne _ (by decide)] at h8
                have := (h.o8 h8).2
                rw [hD] at this
                cases this⟩
              ne := fun h6 h7 => by
                rw [upD_ne _ (by decide)] at h7
                obtain ⟨X, cs, e, e1, e2, e3, e4⟩ := H.out.s7 h7
                have := e2.lt
                rw [h.fr.eval_put (by rw [hsz]; decide), eval_put_ne (by decide), e]
                intro e'
                injection e' with e'
                injection e' with e'
                injection e' with e' _ _
                omega
              s0 := by simpa [upD, eval_put_ne] using h.s0
              s1 := by simpa [upD, eval_put_ne] using h.s1
              s2 := by simpa [upD, eval_put_ne] using h.s2
              s3 := by simpa [upD, eval_put_ne] using h.s3
              s4 := by simpa [upD, eval_put_ne] using h.s4
              s5 := by simpa [upD, eval_put_ne] using h.s5
              s7 := by simpa [upD, eval_put_ne] using h.s7
              o8 := fun hd => by rw [upD_ne _ (by decide)] at hd; exact ⟨upD_mono (h.o8 hd).1, upD_mono (h.o8 hd).2⟩
              o9 := fun hd => by rw [upD_ne _ (by decide)] at hd; exact ⟨upD_mono (h.o9 hd).1, upD_mono (h.o9 hd).2⟩ }
          · -- 7
            intro D a wx K hD hp h hK
            refine step_wp rfl ?_
            have HK := Lib.hid hK; clear hK
            have H := Lib.hid h; clear h
            refine wp_alloc_at rfl (.agg #[.map none, .map none, .map none, .bool false]) [.map none, .map none, .map none, .bool false] rfl (by kernel_rfl) ?_
            have h := H.out.keep (Below_alloc' wx (.cells #[.map none, .map none, .map none, .bool false] 137))
            have hbz := Blk.new wx 137 [.map none, .map none, .map none, .bool false]
            have hwz := H.out.below.size
            refine HK.out _ _ {
              fr := h.fr.put (by decide) _
              below := h.below
              s7 := fun _ => ⟨wx.heap.size, [.map none, .map none, .map none, .bool false], h.fr.eval_put (by rw [hsz]; decide) _, hwz, hbz, rfl, fun h8 => by
                rw [upD_ne _ (by decide)] at h8
                have := (h.o9 h8).2
                rw [hD] at this
                cases this⟩
              ne := fun h6 h7 => by
                rw [upD_ne _ (by decide)] at h6
                obtain ⟨X, cs, e, e1, e2, e3, e4⟩ := H.out.s6 h6
                have := e2.lt
                rw [h.fr.eval_put (by rw [hsz]; decide), eval_put_ne (by decide), e]
                intro e'
                injection e' with e'
                injection e' with e'
                injection e' with e' _ _
                omega
              s0 := by simpa [upD, eval_put_ne] using h.s0
              s1 := by simpa [upD, eval_put_ne] using h.s1
              s2 := by simpa [upD, eval_put_ne] using h.s2
              s3 := by simpa [upD, eval_put_ne] using h.s3
              s4 := by simpa [upD, eval_put_ne] using h.s4
              s5 := by simpa [upD, eval_put_ne] using h.s5
              s6 := by simpa [upD, eval_put_ne] using h.s6
              o8 := fun hd => by rw [upD_ne _ (by decide)] at hd; exact ⟨upD_mono (h.o8 hd).1, upD_mono (h.o8 hd).2⟩
              o9 := fun hd => by rw [upD_ne _ (by decide)] at hd; exact ⟨upD_mono (h.o9 hd).1, upD_mono (h.o9 hd).2⟩ }
          · -- 8
            intro D a wx K hD hp h hK
            refine step_wp rfl ?_
            obtain ⟨X, cs, e, e1, e2, e3, -⟩ := h.s6 (hp 6 (by decide))
            obtain ⟨r1, s1, l1, f1, dm1⟩ := h.s2 (hp 2 (by decide))
            refine wp_store_row 137 _ _ rfl X _ e f1 137 cs.toArray e2 (by kernel_rfl) (by simp [e3]) (by simp [Value.oneCell']) ?_
            refine hK _ _ {
              fr := h.fr
              below := below_row h.below e1 _
              s0 := by simpa [upD, put_none] using h.s0
              s1 := by simpa [upD, put_none] using h.s1
              s2 := fun hd => by rw [upD_ne _ (by decide)] at hd; obtain ⟨r, s, l, p, q⟩ := h.s2 hd; exact ⟨r, s, l, p, q.row e2 _⟩
              s3 := by simpa [upD, put_none] using h.s3
              s4 := by simpa [upD, put_none] using h.s4
              s5 := fun hd => by rw [upD_ne _ (by decide)] at hd; obtain ⟨r, s, l, p, q⟩ := h.s5 hd; exact ⟨r, s, l, p, q.row e2 _⟩
              s6 := fun _ => ⟨X, _, e, e1, Blk.setRow (cs' := [.map (some r1), .map (some s1), .map (some l1), .bool (anyN ga prB)]) e2, rfl, fun _ => f1⟩
              s7 := fun hd => by
                rw [upD_ne _ (by decide)] at hd
                obtain ⟨Y, ds, p, p1, p2, p3, p4⟩ := h.s7 hd
                have hne : Y ≠ X := fun q => by
                  subst q
                  exact h.ne (hp 6 (by decide)) hd (e.trans p.symm)
                exact ⟨Y, ds, p, p1, (heap_setRow_ne hne _).trans p2, p3, fun hk => p4 (by rwa [upD_ne _ (by decide)] at hk)⟩
              ne := by simpa [upD, put_none] using h.ne
              o8 := fun _ => ⟨upD_mono (hp 2 (by decide)), upD_mono (hp 6 (by decide))⟩
              o9 := fun hd => by rw [upD_ne _ (by decide)] at hd; exact ⟨upD_mono (h.o9 hd).1, upD_mono (h.o9 hd).2⟩ }
          · -- 9
            intro D a wx K hD hp h hK
            refine step_wp rfl ?_
            obtain ⟨X, cs, e, e1, e2, e3, -⟩ := h.s7 (hp 7 (by decide))
            obtain ⟨r1, s1, l1, f1, dm1⟩ := h.s5 (hp 5 (by decide))
            refine wp_store_row 137 _ _ rfl X _ e f1 137 cs.toArray e2 (by kernel_rfl) (by simp [e3]) (by simp [Value.oneCell']) ?_
            refine hK _ _ {
              fr := h.fr
              below := below_row h.below e1 _
              s0 := by simpa [upD, put_none] using h.s0
              s1 := by simpa [upD, put_none] using h.s1
              s2 := fun hd => by rw [upD_ne _ (by decide)] at hd; obtain ⟨r, s, l, p, q⟩ := h.s2 hd; exact ⟨r, s, l, p, q.row e2 _⟩
              s3 := by simpa [upD, put_none] using h.s3
              s4 := by simpa [upD, put_none] using h.s4
              s5 := fun hd => by rw [upD_ne _ (by decide)] at hd; obtain ⟨r, s, l, p, q⟩ := h.s5 hd; exact ⟨r, s, l, p, q.row e2 _⟩
              s7 := fun _ => ⟨X, _, e, e1, Blk.setRow (cs' := [.map (some r1), .map (some s1), .map (some l1), .bool (anyN gb prB)]) e2, rfl, fun _ => f1⟩
              s6 := fun hd => by
                rw [upD_ne _ (by decide)] at hd
                obtain ⟨Y, ds, p, p1, p2, p3, p4⟩ := h.s6 hd
                have hne : Y ≠ X := fun q => by
                  subst q
                  exact h.ne hd (hp 7 (by decide)) (p.trans e.symm)
                exact ⟨Y, ds, p, p1, (heap_setRow_ne hne _).trans p2, p3, fun hk => p4 (by rwa [upD_ne _ (by decide)] at hk)⟩
              ne := by simpa [upD, put_none] using h.ne
              o8 := fun hd => by rw [upD_ne _ (by decide)] at hd; exact ⟨upD_mono (h.o8 hd).1, upD_mono (h.o8 hd).2⟩
              o9 := fun _ => ⟨upD_mono (hp 5 (by decide)), upD_mono (hp 7 (by decide))⟩ }
        case done =>
          intro D a wc hall h
          have hd : ∀ i, i < 10 → D i = true := hall
          obtain ⟨r1, s1, l1, v48, dm1⟩ := h.s2 (hd 2 (by decide))
          obtain ⟨r2, s2, l2, v51, dm2⟩ := h.s5 (hd 5 (by decide))
          obtain ⟨X, cs, v12, eX, bX, -, cX⟩ := h.s6 (hd 6 (by decide))
          obtain ⟨Y, ds, v13, eY, bY, -, cY⟩ := h.s7 (hd 7 (by decide))
          have v46 := h.s0 (hd 0 (by decide))
          have v47 := h.s1 (hd 1 (by decide))
          have v49 := h.s3 (hd 3 (by decide))
          have v50 := h.s4 (hd 4 (by decide))
          have cX := cX (hd 8 (by decide))
          have cY := cY (hd 9 (by decide))
          rw [v48] at cX
          rw [v51] at cY
          injection cX with cX
          injection cY with cY
          obtain rfl : cs = [.map (some r1), .map (some s1), .map (some l1), .bool (anyN ga prB)] := by simpa using (congrArg Array.toList cX).symm
          obtain rfl : ds = [.map (some r2), .map (some s2), .map (some l2), .bool (anyN gb prB)] := by simpa using (congrArg Array.toList cY).symm
          have hfin := ((((((((h.fr.shut (by rw [hsz]; decide)).shut (by simp [Act.put, hsz])).shut (by simp [Act.put, hsz])).shut (by simp [Act.put, hsz])).shut (by simp [Act.put, hsz])).shut (by simp [Act.put, hsz])).shut (by simp [Act.put, hsz])).shut (by simp [Act.put, hsz])).done
          rw [v12, v13, v46, v47, v48, v49, v50, v51] at hfin
          have hap : ApAt W0 wc ga gb X Y r1 s1 l1 r2 s2 l2 := ⟨dm1, dm2, bX, bY, h.below⟩
          rw [hfin, HA0.out]
          clear hfin HA0 h hall hd v12 v13 v46 v47 v48 v49 v50 v51 cX cY dm1 dm2 bX bY eX eY t1 t2 t3 hsz
          simp only [Act.put, List.setIfInBounds_toArray, List.set_cons_zero, List.set_cons_succ]
          have HAP := Lib.hid hap
          have x0 := hap.bx.cell 0
          have x1 := hap.bx.cell 1
          have x2 := hap.bx.cell 2
          have x3 := hap.bx.cell 3
          have y0 := hap.by_.cell 0
          have y1 := hap.by_.cell 1
          have y2 := hap.by_.cell 2
          have y3 := hap.by_.cell 3
          clear hap
          go_wp2_with fail
          refine (meet_do (p := wrB) (q := rdB) HAP.out.dx.mw HAP.out.dy.mr hwb.most).mono ?_
          rintro e w5 ⟨rfl, hb5⟩
          obtain ⟨c0, hc0⟩ : ∃ c, comP ga gb wrB rdB = c := ⟨_, rfl⟩
          rw [hc0]
          have HC0 := Lib.hid hc0; clear hc0
          have hap5 := HAP.out.keep hb5
          have x00 := hap5.bx.cell 0
          have x01 := hap5.bx.cell 1
          have x02 := hap5.bx.cell 2
          have x03 := hap5.bx.cell 3
          have y00 := hap5.by_.cell 0
          have y01 := hap5.by_.cell 1
          have y02 := hap5.by_.cell 2
          have y03 := hap5.by_.cell 3
          have HAP5 := Lib.hid hap5; clear hap5 hb5
          cases c0
          · go_wp2_with fail
            refine (meet_do (p := rdB) (q := wrB) HAP5.out.dx.mr HAP5.out.dy.mw hwb.most).mono ?_
            rintro e w6 ⟨rfl, hb6⟩
            obtain ⟨c1, hc1⟩ : ∃ c, comP ga gb rdB wrB = c := ⟨_, rfl⟩
            rw [hc1]
            have HC1 := Lib.hid hc1; clear hc1
            have hap6 := HAP5.out.keep hb6
            have x10 := hap6.bx.cell 0
            have x11 := hap6.bx.cell 1
            have x12 := hap6.bx.cell 2
            have x13 := hap6.bx.cell 3
            have y10 := hap6.by_.cell 0
            have y11 := hap6.by_.cell 1
            have y12 := hap6.by_.cell 2
            have y13 := hap6.by_.cell 3
            have HAP6 := Lib.hid hap6; clear hap6 hb6
            cases c1
            · go_wp2_with fail
              refine (meet_do (p := wrB) (q := wrB) HAP6.out.dx.mw HAP6.out.dy.mw hwb.most).mono ?_
              rintro e w7 ⟨rfl, hb7⟩
              obtain ⟨c2, hc2⟩ : ∃ c, comP ga gb wrB wrB = c := ⟨_, rfl⟩
              rw [hc2]
              have HC2 := Lib.hid hc2; clear hc2
              have hap7 := HAP6.out.keep hb7
              have x20 := hap7.bx.cell 0
              have x21 := hap7.bx.cell 1
              have x22 := hap7.bx.cell 2
              have x23 := hap7.bx.cell 3
              have y20 := hap7.by_.cell 0
              have y21 := hap7.by_.cell 1
              have y22 := hap7.by_.cell 2
              have y23 := hap7.by_.cell 3
              have HAP7 := Lib.hid hap7; clear hap7 hb7
              cases c2
              · go_wp2_with fail
                refine (meet_do (p := lkB) (q := lkB) HAP7.out.dx.ml HAP7.out.dy.ml hwb.most).mono ?_
                rintro e w8 ⟨rfl, hb8⟩
                obtain ⟨c3, hc3⟩ : ∃ c, comP ga gb lkB lkB = c := ⟨_, rfl⟩
                rw [hc3]
                have HC3 := Lib.hid hc3; clear hc3
                have hap8 := HAP7.out.keep hb8
                have x30 := hap8.bx.cell 0
                have x31 := hap8.bx.cell 1
                have x32 := hap8.bx.cell 2
                have x33 := hap8.bx.cell 3
                have y30 := hap8.by_.cell 0
                have y31 := hap8.by_.cell 1
                have y32 := hap8.by_.cell 2
                have y33 := hap8.by_.cell 3
                have HAP8 := Lib.hid hap8; clear hap8 hb8
                cases c3
                · obtain ⟨p1, hp1⟩ : ∃ p, anyN ga prB = p := ⟨_, rfl⟩
                  obtain ⟨p2, hp2⟩ : ∃ p, anyN gb prB = p := ⟨_, rfl⟩
                  rw [hp1] at x33
                  rw [hp2] at y33
                  have hfin : apartG ga gb = !(p1 && p2) := by unfold apartG; rw [HC0.out, HC1.out, HC2.out, HC3.out, hp1, hp2]; simp
                  have HF := Lib.hid hfin; clear hfin hp1 hp2
                  cases p1 <;> cases p2
                  all_goals (
                    go_wp2_with fail
                    go_ret2
                    have e := HRR.out
                    rw [HF.out] at e
                    subst e
                    exact ⟨rfl, HW0.out.trans ((HAP8.out.below).mono HW0.out.size)⟩)
                · have hfin : apartG ga gb = false := by unfold apartG; rw [HC0.out, HC1.out, HC2.out, HC3.out]; simp
                  have HF := Lib.hid hfin; clear hfin
                  go_wp2_with fail
                  go_ret2
                  have e := HRR.out
                  rw [HF.out] at e
                  subst e
                  exact ⟨rfl, HW0.out.trans ((HAP8.out.below).mono HW0.out.size)⟩
              · have hfin : apartG ga gb = false := by unfold apartG; rw [HC0.out, HC1.out, HC2.out]; simp
                have HF := Lib.hid hfin; clear hfin
                go_wp2_with fail
                go_ret2
                have e := HRR.out
                rw [HF.out] at e
                subst e
                exact ⟨rfl, HW0.out.trans ((HAP7.out.below).mono HW0.out.size)⟩
            · have hfin : apartG ga gb = false := by unfold apartG; rw [HC0.out, HC1.out]; simp
              have HF := Lib.hid hfin; clear hfin
              go_wp2_with fail
              go_ret2
              have e := HRR.out
              rw [HF.out] at e
              subst e
              exact ⟨rfl, HW0.out.trans ((HAP6.out.below).mono HW0.out.size)⟩
          · have hfin : apartG ga gb = false := by unfold apartG; rw [HC0.out]; simp
            have HF := Lib.hid hfin; clear hfin
            go_wp2_with fail
            go_ret2
            have e := HRR.out
            rw [HF.out] at e
            subst e
            exact ⟨rfl, HW0.out.trans ((HAP5.out.below).mono HW0.out.size)⟩
end Go.Proofs.Ytkkmkjjbffpgnaa
