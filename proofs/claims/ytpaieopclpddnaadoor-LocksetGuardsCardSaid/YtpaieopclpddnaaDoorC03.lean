/- LocksetGuards: whatever unit, variable and lock are given, a lock stands among the guards of a variable that is touched just if nothing touches it bare of that lock, the guards rise, and the class says the same. Conditions: the row's own; the listed table is tied to the program's text by the card. -/
import Derived.Test.YtpaieopclpddnaaDoorP14
import Derived.Test.YtpaieopclpddnaaDoorP18
import Derived.Test.YtpaieopclpddnaaDoorP17
/- The walk of the law LocksetGuards. -/
namespace Go.Proofs.YtpaieopclpddnaaDoor
open Go Go.RowKit
theorem Ints_at {m : CM} {A : Option Addr} {n c : Nat} {l : List Int} (h : Ints m (.slice A n c) l) {i : Nat} {x : Int} (hx : l[i]? = some x) : ∃ b o, A = some ⟨b, o, none⟩ ∧ m b (o + i) = some (.int .i64 x) := by
  obtain ⟨b, o, e, h2⟩ := h.at_ hx
  exact ⟨b, o, e, by have : m b (o + i * 1) = some (.int .i64 x) := h2; rwa [Nat.mul_one] at this⟩
theorem mem_take_succ {l : List Int} {i : Nat} {y x : Int} (h : l[i]? = some y) : decide (x ∈ l.take (i + 1)) = (decide (x ∈ l.take i) || decide (y = x)) := by
  obtain ⟨h1, h2⟩ := List.getElem?_eq_some_iff.1 h
  rw [List.take_succ_eq_append_getElem h1, h2]
  simp [eq_comm]
theorem isb {b : Bool} {n : Nat} {p : Prop} [Decidable p] (hb : b = decide p) (h : n = 0 ↔ p) : b = ((n : Int) == 0) := by
  rw [hb, Bool.eq_iff_iff, decide_eq_true_eq, ← h, beq_iff_eq]
  omega
set_option maxRecDepth 100000 in
set_option maxHeartbeats 4000000 in
theorem locksetGuards_calls (u : Unit_) (cs : List Value) (x lk : Int) (w : World) (hT : Tab w) (hu : UnitV (cmap w) cs u) (hok : UOk u) :
    Calls Tryd.prog 6 #[.agg cs.toArray, .int .i64 x, .int .i64 lk] w fun e w' => e = .returned (.bool true) ∧ Below w.heap.size w w' := by
  have hu0 := hu
  obtain ⟨sv, lv, gv, rfl, hs, hl, -⟩ := hu
  obtain ⟨sA, sc, rfl, -⟩ := id hs
  obtain ⟨lA, lc, rfl, -⟩ := id hl
  clear hs hl
  obtain ⟨cu, hcu⟩ : ∃ cu : List Value, cu = [.slice sA u.shared.length sc, .slice lA u.locks.length lc, gv] := ⟨_, rfl⟩
  have hbx := Blk.new w 25 [.slice sA u.shared.length sc, .slice lA u.locks.length lc, gv]
  have hb0 := Below_alloc' w (.cells #[.slice sA u.shared.length sc, .slice lA u.locks.length lc, gv] 25)
  have hun : ∀ wr, Blk wr w.heap.size 25 [.slice sA u.shared.length sc, .slice lA u.locks.length lc, gv] → ∀ j v, ([.slice sA u.shared.length sc, .slice lA u.locks.length lc, gv] : List Value)[j]? = some v → wr.cell? ⟨w.heap.size, 0 + j, none⟩ = some v := fun wr h j v hj => by rw [Nat.zero_add, h.cell]; exact hj
  have HUN := Lib.hid hun; clear hun
  have HT := Lib.hid hT; clear hT
  clear hcu
  go_enter Tryd.func6, Tryd.ntmps6
  go_wp2_with fail
  refine (begins_calls _ (HT.out.below hb0)).mono ?_
  rintro e w1 ⟨rfl, hb1⟩
  have hw1 : Below w.heap.size w w1 := hb0.trans (hb1.mono (by simp))
  have hbx1 := hbx.below hb1 hbx.lt
  have HLD1 := Lib.hid (HUN.out _ hbx1)
  clear hb1 hbx
  go_wp2_with (first
    | (refine wpList_load_at rfl 25 _ rfl w.heap.size 0 rfl _ _ HLD1.out Tryd.underlying25 rfl (by kernel_rfl) ?_))
  refine (guards_calls u _ _ (HT.out.below hw1) (hu0.mono (cmap_below hw1)) hok).mono ?_
  rintro e w2 (⟨hck, v1, rfl, k1, hb2⟩ | ⟨hck, rfl, hb2⟩)
  all_goals (
    have HCK := Lib.hid hck; clear hck
    have hw2 : Below w.heap.size w w2 := hw1.trans (hb2.mono hw1.size)
    have hbx2 := hbx1.below hb2 hbx1.lt
    have HLD2 := Lib.hid (HUN.out _ hbx2)
    clear hb2 hbx1
    go_wp2_with (first
      | (refine wpList_load_at rfl 25 _ rfl w.heap.size 0 rfl _ _ HLD2.out Tryd.underlying25 rfl (by kernel_rfl) ?_))
    refine (classes_calls u _ _ (HT.out.below hw2) (hu0.mono (cmap_below hw2)) hok).mono ?_
    rintro e w3 (⟨hck2, v2, rfl, k2, hb3⟩ | ⟨hck2, rfl, hb3⟩))
  rotate_left
  · exact absurd HCK.out hck2
  · exact absurd hck2 HCK.out
  · clear hck2
    have hw3 : Below w.heap.size w w3 := hw2.trans (hb3.mono hw2.size)
    go_wp2
    go_ret
    exact ⟨rfl, hw3⟩
  · clear hck2
    have hw3 : Below w.heap.size w w3 := hw2.trans (hb3.mono hw2.size)
    have hbx3 := hbx2.below hb3 hbx2.lt
    have HLD3 := Lib.hid (HUN.out _ hbx3)
    have c0 := hbx3.cell 0
    have c1 := hbx3.cell 1
    have k1' := k1.mono ((part_le _ _ _).trans (cmap_below hb3))
    have k2' := k2.mono (part_le _ _ _)
    have gl1 : (guardsL u).length = u.shared.length := by unfold guardsL; simp
    obtain ⟨gA, gc, rfl, -⟩ := id k1'
    obtain ⟨cA, cc, rfl, -⟩ := id k2'
    rw [gl1] at k1' ⊢
    simp only [List.length_map, List.length_range] at k2' ⊢
    clear k1 k2 hb3 hbx2 gl1
    have es : ((u.shared.length : Int) == (u.shared.length : Int)) = true := by simp
    by_cases hx : 0 ≤ x ∧ x < u.shared.length
    · obtain ⟨k, rfl⟩ : ∃ n : Nat, x = n := ⟨x.toNat, by omega⟩
      have hk : k < u.shared.length := by omega
      have hk0 : (0 : Int) ≤ k := by omega
      have hk1 : (k : Int) < u.shared.length := by omega
      have d1 : decide ((k : Int) < 0) = false := by simp
      have d2 : decide ((u.shared.length : Int) ≤ (k : Int)) = false := by simp; omega
      clear hx
      by_cases hl : 0 ≤ lk ∧ lk < u.locks.length
      · obtain ⟨j, rfl⟩ : ∃ n : Nat, lk = n := ⟨lk.toNat, by omega⟩
        have hj : j < u.locks.length := by omega
        have d3 : decide ((j : Int) < 0) = false := by simp
        have d4 : decide ((u.locks.length : Int) ≤ (j : Int)) = false := by simp; omega
        clear hl
        go_wp2_with (first
          | (refine wpList_load_at rfl 25 _ rfl w.heap.size 0 rfl _ _ HLD3.out Tryd.underlying25 rfl (by kernel_rfl) ?_))
        refine (bare_calls u _ (k : Int) (j : Int) _ (hu0.mono (cmap_below hw3)) hok).mono ?_
        rintro e w4 (⟨-, -, v3, rfl, k3, hb4⟩ | ⟨-, hno, -⟩ | ⟨hck3, -⟩)
        rotate_left
        · exact (hno ⟨⟨hk0, hk1⟩, by omega, by omega⟩).elim
        · exact absurd HCK.out hck3
        have hw4 : Below w.heap.size w w4 := hw3.trans (hb4.mono hw3.size)
        obtain ⟨bA, bc, rfl, -⟩ := id k3
        have m1 := k1'.mono (cmap_below hb4)
        have m2 := k2'.mono (cmap_below hb4)
        have gk : (guardsL u)[k]? = some (guardsF u k) := by unfold guardsL; rw [List.getElem?_map, List.getElem?_range hk]; rfl
        have ck : ((List.range u.shared.length).map fun x : Nat => classF u (x : Int))[k]? = some (classF u k) := by rw [List.getElem?_map, List.getElem?_range hk]; rfl
        obtain ⟨gb, go, rfl, gcs, ⟨gv', rfl, gi⟩, gh⟩ := m1.at_ gk
        obtain ⟨rA, rc, rfl, -⟩ := id gi
        have q1 : w4.cell? ⟨gb, go + k, none⟩ = some (.slice rA (guardsF u k).length rc) := by have := gh 0 _ rfl; rwa [Nat.mul_one] at this
        obtain ⟨cb, co, rfl, _, rfl, ch⟩ := m2.at_ ck
        have q2 : w4.cell? ⟨cb, co + k * 3, none⟩ = some (.int .u8 (classF u k).kind) := ch 0 _ rfl
        have q3 : w4.cell? ⟨cb, co + k * 3 + 1, none⟩ = some (.int .i64 (classF u k).thread) := ch 1 _ rfl
        have q4 : w4.cell? ⟨cb, co + k * 3 + 2, none⟩ = some (.int .i64 (classF u k).lock) := ch 2 _ rfl
        have hways := class_ways u (k : Int)
        have hbi : touchU u (k : Int) ≠ [] → ((bareF u (k : Int) (j : Int)).length = 0 ↔ (j : Int) ∈ guardsF u (k : Int)) := fun h => by rw [List.length_eq_zero_iff]; exact bare_nil_iff hj h
        have hbn : touchU u (k : Int) = [] → (bareF u (k : Int) (j : Int)).length = 0 := fun h => by rw [bare_none h]; rfl
        have hri := guardsF_rising u (k : Int)
        have hgl := guardsF_length u (k : Int)
        generalize (bareF u (k : Int) (j : Int)).length = n3 at *
        generalize guardsF u (k : Int) = G at *
        have hq : ∀ c : Cls, classF u (k : Int) = c → True := fun _ _ => trivial
        generalize classF u (k : Int) = c at *
        clear hq
        obtain ⟨K, Tt, L⟩ := c
        dsimp only at q2 q3 q4
        have HW := Lib.hid hways; clear hways
        have HBI := Lib.hid hbi; clear hbi
        have HBN := Lib.hid hbn; clear hbn
        have HRI := Lib.hid hri; clear hri
        have hG : G.length ≤ 1000000 := by have := checkF_none HCK.out; have := this.locks; omega
        have HLC : Hid (∀ n : Nat, ∀ i v, ([.int .u8 K, .int .i64 Tt, .int .i64 L] : List Value)[i]? = some v → (w4.drewN n).cell? ⟨cb, co + k * 3 + i, none⟩ = some v) := fun n i v hv => ch i v hv
        clear hgl gk ck gh ch m1 m2 k1' k2' k3 hb4
        go_wp2
        go_loopw [13, 14] (fun v13 v14 wr => ∃ (i n : Nat) (b : Bool), v14 = .int .i64 i ∧ i ≤ G.length ∧ wr = w4.drewN n ∧ v13 = .bool b ∧ Hid (b = decide ((j : Int) ∈ G.take i))) (fun _ v14 _ => G.length - (intOf v14).toNat)
        case atStart => exact ⟨0, 0, false, rfl, by omega, rfl, rfl, Lib.hid (by simp)⟩
        case round =>
          obtain ⟨i, n, b, rfl, hi, rfl, rfl, HB⟩ := hrel
          by_cases hlt : i < G.length
          · obtain ⟨y, hy⟩ : ∃ y, G[i]? = some y := ⟨_, List.getElem?_eq_getElem hlt⟩
            obtain ⟨rb, ro, rfl, hcell⟩ := Ints_at gi hy
            have q5 : w4.cell? ⟨rb, ro + i, none⟩ = some (.int .i64 y) := hcell
            have HY := Lib.hid hy; clear hy
            have hi0 : (0 : Int) ≤ i := by omega
            have hil : (i : Int) < G.length := by omega
            have HT1 := Lib.hid (mem_take_succ (x := (j : Int)) HY.out)
            have HBT : ∀ b' : Bool, b' = (b || decide (y = (j : Int))) → Hid (b' = decide ((j : Int) ∈ G.take (i + 1))) := fun b' h => Lib.hid (by rw [h, HT1.out, ← HB.out])
            have HBU := Lib.hid HBT; clear HBT
            have hyd : (b = true ∧ True) ∨ (b = false ∧ (y == (j : Int)) = true) ∨ (b = false ∧ (y == (j : Int)) = false) := by cases b <;> cases (y == (j : Int)) <;> simp
            by_cases hi1 : 0 < i
            · obtain ⟨p, hp⟩ : ∃ p, i = p + 1 := ⟨i - 1, by omega⟩
              obtain ⟨z, hz⟩ : ∃ z, G[p]? = some z := ⟨_, List.getElem?_eq_getElem (by omega)⟩
              obtain ⟨_, _, hzz, hz2⟩ := Ints_at gi hz
              injection hzz with hzz; injection hzz with e1 e2; subst e1 e2
              have q6 : w4.cell? ⟨rb, ro + p, none⟩ = some (.int .i64 z) := hz2
              have hzy : z < y := by
                have h1 := (List.getElem?_eq_some_iff.1 hz)
                have h2 := (List.getElem?_eq_some_iff.1 HY.out)
                obtain ⟨h1, rfl⟩ := h1
                obtain ⟨h2, rfl⟩ := h2
                exact List.pairwise_iff_getElem.1 HRI.out p i h1 h2 (by omega)
              have d5 : decide (y ≤ z) = false := by simp; omega
              have d6 : decide ((0 : Int) < (i : Int)) = true := by simp; omega
              have d7 : decide (0 < i) = true := by simp; omega
              have hwr : IntKind.i64.wrap ((i : Int) - 1) = (p : Int) := by rw [IntWalk.i64_in _ (by omega)]; omega
              have hp0 : (0 : Int) ≤ p := by omega
              have hp1 : (p : Int) < G.length := by omega
              have HP := Lib.hid hp; clear hp hz hz2 hzy
              rcases hyd with ⟨rfl, -⟩ | ⟨rfl, hy1⟩ | ⟨rfl, hy1⟩
              all_goals (
                go_wp2_with fail
                go_quiet (fail)
                go_wp2
                go_roundw
                case measure => simp [intOf]; omega
                case rel => exact ⟨i + 1, _, _, by go_num, by omega, rfl, rfl, HBU.out _ (by first | rfl | simp_all)⟩)
            · have d6 : decide ((0 : Int) < (i : Int)) = false := by simp; omega
              have d7 : decide (0 < i) = false := by simp; omega
              rcases hyd with ⟨rfl, -⟩ | ⟨rfl, hy1⟩ | ⟨rfl, hy1⟩
              all_goals (
                go_wp2_with fail
                go_quiet (fail)
                go_wp2
                go_roundw
                case measure => simp [intOf]; omega
                case rel => exact ⟨i + 1, _, _, by go_num, by omega, rfl, rfl, HBU.out _ (by first | rfl | simp_all)⟩)
          · have hb : b = decide ((j : Int) ∈ G) := by have := HB.out; rwa [List.take_of_length_le (by omega)] at this
            have hbel : Below w.heap.size w (w4.drewN n) := ⟨hw4.os, hw4.tape, hw4.output, hw4.size, hw4.block⟩
            have hm1 : Tryd.prog.eqGuardType Tryd.prog.depth 45 = false := by kernel_rfl
            rcases HW.out with ⟨hT0, hG0, hc⟩ | ⟨hT0, ⟨tt, htt, hc⟩ | ⟨hnt, ⟨g, G', hG0, hc⟩ | ⟨hG0, hc⟩⟩⟩
            · injection hc with e1 e2 e3
              subst e1 e2 e3
              have e4 : b = false := by rw [hb, hG0]; rfl
              subst e4
              have e5 : ((n3 : Int) == 0) = true := by rw [HBN.out hT0]; rfl
              have heq : ∀ w, _ = _ := eq_cls 0 0 0 0 0 0
              clear hb hG0 hT0
              go_wp2_with (refine wpList_load_at_g (by rfl) 45 _ rfl cb (co + k * 3) rfl _ _ (HLC.out n) Tryd.underlying45 rfl (by kernel_rfl) ?_)
              go_ret
              exact ⟨rfl, hbel⟩
            · injection hc with e1 e2 e3
              subst e1 e2 e3
              have e5 := isb hb (HBI.out hT0)
              clear hb hT0 htt
              subst e5
              cases e7 : ((n3 : Int) == 0)
              all_goals (
                go_wp2
                go_ret
                exact ⟨rfl, hbel⟩)
            · injection hc with e1 e2 e3
              subst e1 e2 e3
              have e5 := isb hb (HBI.out hT0)
              have hg0 : G[0]? = some L := by rw [hG0]; rfl
              obtain ⟨rb, ro, rfl, hcell⟩ := Ints_at gi hg0
              have q5 : w4.cell? ⟨rb, ro, none⟩ = some (.int .i64 L) := hcell
              have hpos : 0 < G.length := by rw [hG0]; simp
              have d5 : decide (0 < G.length) = true := decide_eq_true hpos
              have d6 : decide ((0 : Int) < (G.length : Int)) = true := decide_eq_true (by omega)
              have hpi : (0 : Int) < (G.length : Int) := by omega
              clear hb hT0 hnt hG0 hg0
              subst e5
              cases e7 : ((n3 : Int) == 0)
              all_goals (
                go_wp2
                go_quiet (fail)
                go_wp2
                go_ret
                exact ⟨rfl, ⟨hw4.os, hw4.tape, hw4.output, hw4.size, hw4.block⟩⟩)
            · injection hc with e1 e2 e3
              subst e1 e2 e3
              have e5 := isb hb (HBI.out hT0)
              have d5 : ((G.length : Int) == 0) = true := by rw [hG0]; rfl
              have heq : ∀ w, _ = _ := eq_cls 3 0 0 3 0 0
              clear hb hT0 hnt hG0
              subst e5
              cases e7 : ((n3 : Int) == 0)
              all_goals (
                go_wp2_with (refine wpList_load_at_g (by rfl) 45 _ rfl cb (co + k * 3) rfl _ _ (HLC.out n) Tryd.underlying45 rfl (by kernel_rfl) ?_)
                go_ret
                exact ⟨rfl, hbel⟩)
      · have hs : lk < 0 ∨ (0 ≤ lk ∧ (u.locks.length : Int) ≤ lk) := by omega
        clear hl
        rcases hs with h | ⟨h, h'⟩
        · have d3 : decide (lk < 0) = true := by simp; omega
          clear h
          go_wp2
          go_ret
          exact ⟨rfl, hw3⟩
        · have d3 : decide (lk < 0) = false := by simp; omega
          have d4 : decide ((u.locks.length : Int) ≤ lk) = true := by simp; omega
          clear h h'
          go_wp2
          go_ret
          exact ⟨rfl, hw3⟩
    · have hs : x < 0 ∨ (0 ≤ x ∧ (u.shared.length : Int) ≤ x) := by omega
      clear hx
      rcases hs with h | ⟨h, h'⟩
      · have d3 : decide (x < 0) = true := by simp; omega
        clear h
        go_wp2
        go_ret
        exact ⟨rfl, hw3⟩
      · have d3 : decide (x < 0) = false := by simp; omega
        have d4 : decide ((u.shared.length : Int) ≤ x) = true := by simp; omega
        clear h h'
        go_wp2
        go_ret
        exact ⟨rfl, hw3⟩
end Go.Proofs.YtpaieopclpddnaaDoor
namespace Go.Proofs.YtpaieopclpddnaaDoor
open Go Go.RowKit Go.ChangeShapes Go.WideShapes Go.ChangeAt
namespace guards
set_option maxRecDepth 100000 in
theorem contract (H : Type) (enc : TypeId × Value → H) (W : World) (base : Nat) (args : Array Value) (ds gs : List (DataW H)) (before : List MemPlace)
    (hval : ∀ (j : Nat) t v, Tryd.f6.params[j]? = some t → args[j]? = some v → Value.okWide Tryd.prog W .any base t v)
    (hW : DataW.Whole enc Tryd.prog Tryd.f6.params.toList Rows.locksetGuardsSpec.vars false W args.toList ds gs before) (hL : laidMetH Tryd.prog Rows.locksetGuardsRow.laid W) :
    Calls Tryd.prog 6 args W fun e W' => ∃ v, e = .returned v ∧ Rows.locksetGuardsSpec.post enc Tryd.prog Tryd.f6 false true false false W args v W' := by
  have hW' := hW
  obtain ⟨p, q, hA0, hV, rfl, hfz, hnd⟩ := hW
  have hA : DataW.TrodAll enc Tryd.prog W 0 (fun _ => true) true Tryd.f6.params.toList args.toList ds p := hA0
  have hA2 := hA
  rw [Tryd.params6] at hA hval
  obtain ⟨v0, vs0, d0, ds0, p0, q0, hargs, rfl, hp, h0, r0⟩ := trodAll_cons hA
  obtain ⟨v1, vs1, d1, ds1, p1, q1, rfl, rfl, hp1, h1, r1⟩ := trodAll_cons r0
  obtain ⟨v2, vs2, d2, ds2, p2, q2, rfl, rfl, hp2, h2, r2⟩ := trodAll_cons r1
  obtain ⟨rfl, rfl, hp9⟩ := trodAll_nil r2
  obtain rfl : args = #[v0, v1, v2] := by cases args; simp_all
  obtain ⟨rfl, rfl⟩ := trodVars_none hV
  obtain ⟨cs, u, rfl, hu, hok⟩ := open_unit (hval 0 25 v0 rfl rfl) h0
  obtain ⟨n1, rfl⟩ := okWide_int Tryd.underlying3 (hval 1 3 v1 rfl rfl)
  obtain ⟨n2, rfl⟩ := okWide_int Tryd.underlying3 (hval 2 3 v2 rfl rfl)
  have hlt := fun x hx => hW'.lt x hx
  simp only [List.append_nil] at hW' hlt
  have hT : Tab W := tab_of hL
  refine (locksetGuards_calls u cs n1 n2 W hT hu hok).mono fun e W' ⟨he, hb⟩ => ?_
  subst he
  exact ⟨_, rfl, post_below (pa := p) (pv := []) hW' (fun _ _ _ => trodAll_cons_mk (shut_bool Tryd.underlying4 _) trodAll_mk0)
    (fun sp hsp => trodAll_stays (by intro t ht; rw [Tryd.params6] at ht; exact all_again _ (by kernel_rfl) t ht) hA2 (fun x hx => hb.same (hlt x hx)) (fun x hx => hsp x hx)) (fun _ _ => rfl) (by simp) hb (ok_one (by kernel_rfl) rfl (okWide_bool_mk Tryd.underlying4 _))⟩
theorem laid_met (os : Os) : laidMet Tryd.prog Rows.locksetGuardsRow.laid ((laidWorld os).forCall (fun _ _ => 0) ⟨#[], #[.agg #[.slice none 0 0, .slice none 0 0, .slice none 0 0], .int .i64 0, .int .i64 0], []⟩).memory :=
  laidMet_of_run' 8 (by kernel_rfl) (by kernel_rfl)
theorem reads (os : Os) {H : Type} (enc : TypeId × Value → H) : ∃ places, DataW.whole enc Tryd.prog ((laidWorld os).forCall (fun _ _ => 0) ⟨#[], #[.agg #[.slice none 0 0, .slice none 0 0, .slice none 0 0], .int .i64 0, .int .i64 0], []⟩).memory Tryd.f6.params.toList Rows.locksetGuardsSpec.vars false
    (#[.agg #[.slice none 0 0, .slice none 0 0, .slice none 0 0], .int .i64 0, .int .i64 0] : Array Value).toList 8 = some ([.agg [.nil, .nil, .nil], .lit (.int .i64 0), .lit (.int .i64 0)], [], places) :=
  ⟨[], by kernel_rfl⟩
set_option maxRecDepth 100000 in
theorem lifted (os : Os) (started : os.Started) (H : Type) (enc : TypeId × Value → H) (F : Stop.Interp) :
    ReturnsInHanded {} Tryd.checked os 6 .any ((OpenSpec.ofChange Rows.locksetGuardsSpec).preRow enc Tryd.prog Tryd.f6 Rows.locksetGuardsRow.domain false Rows.locksetGuardsRow.laid) (((OpenSpec.ofChange Rows.locksetGuardsSpec).at F).post enc Tryd.prog Tryd.f6 false true false false) := by
  obtain ⟨places, hx⟩ := reads os enc
  refine returnsInHanded_of_row (C := Tryd.checked) (s := OpenSpec.ofChange Rows.locksetGuardsSpec) own_knob started (by kernel_rfl) Tryd.func6
    (witness_row_at (enc := enc) (C := Tryd.checked) false (laidWorld os) #[.agg #[.slice none 0 0, .slice none 0 0, .slice none 0 0], .int .i64 0, .int .i64 0] rfl (by kernel_rfl) (by kernel_rfl) (by kernel_rfl)
      (OpenSpec.preRow_of_cond 8 hx (by kernel_rfl) (fun k hk => by cases hk) (by kernel_rfl) (laid_met os))) ?_
  intro W base args ds gs before hval hW _ _ _ hL _ _
  exact contract H enc W base args ds gs before hval hW hL
theorem said : Rows.LocksetGuardsSaid :=
  OpenClaim.holds_of_cond 6 Tryd.f6 rfl rfl rfl rfl rfl rfl rfl ⟨rfl, rfl, rfl, rfl, rfl⟩ rfl rfl rfl rfl rfl (by kernel_rfl) Tryd.func6 (by kernel_rfl)
    (of_decide_eq_true (by kernel_rfl)) (by unfold Func.isWrapper; first | (rw [if_pos (by decide +kernel)]; kernel_rfl) | (rw [if_neg (by decide +kernel)]; exact ⟨rfl, rfl⟩))
    (fun os started H enc _ F => by rw [OpenClaim.pre_eq_preRow]; exact lifted os started H enc F)
theorem plain (f : FuncId) (fn : Func) (hf : Tryd.pinned.checked.prog.funcNamed "stile/stilelaw10.LocksetGuards" = some f) (hfn : Tryd.pinned.checked.prog.funcs[f]? = some fn) :
    false = Tryd.pinned.checked.prog.looks [] ∧ ∀ (j : Nat) t, fn.params[j]? = some t → Tryd.pinned.checked.prog.wantsStandIn t = false := by
  obtain rfl : f = 6 := Option.some.inj ((show Tryd.prog.funcNamed "stile/stilelaw10.LocksetGuards" = some 6 by kernel_rfl).symm.trans hf) |>.symm
  obtain rfl : fn = Tryd.f6 := (Option.some.inj (Tryd.func6.symm.trans hfn)).symm
  refine ⟨by kernel_rfl, fun j t ht => ?_⟩
  rw [Tryd.params6] at ht
  have hm := Array.mem_of_getElem? ht
  simp at hm
  rcases hm with rfl | rfl
  · exact (show Tryd.prog.wantsStandIn 25 = false by kernel_rfl)
  · exact (show Tryd.prog.wantsStandIn 3 = false by kernel_rfl)
end guards
/-- THE CARD. -/
theorem locksetGuards_card : Rows.LocksetGuardsCardSaid :=
  Claim7.holds_tied_plain_at .later [] _ _ _ _ guards.said (fun _ h => by cases h) (by kernel_rfl) (fun _ h => by cases h) locksetGuards_row_tie rfl ⟨rfl, rfl⟩ (by kernel_rfl) rfl guards.plain (by kernel_rfl)
#print axioms locksetGuards_card
end Go.Proofs.YtpaieopclpddnaaDoor
