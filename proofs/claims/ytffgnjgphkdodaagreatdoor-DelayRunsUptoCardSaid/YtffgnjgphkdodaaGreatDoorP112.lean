import Derived.Test.YtffgnjgphkdodaaGreatDoorP109
import Derived.Test.YtffgnjgphkdodaaGreatDoorP01
import Derived.Test.YtffgnjgphkdodaaGreatDoorP108
import Derived.Test.YtffgnjgphkdodaaGreatDoorP63
/- The walk of the queue's methods: a heap of spots. -/
namespace Go.Proofs.YtffgnjgphkdodaaGreatDoor
open Go Go.RowKit
attribute [local go_sem] readAtW readUpon
theorem gbT {w wr wx : World} {r : Option Nat} (h : w.grownBy wr r) (k : wr.grownBy wx r) : w.grownBy wx r :=
  ⟨k.os.trans h.os, k.tape.trans h.tape, k.output.trans h.output, Nat.le_trans h.size k.size, fun b hlt hne => (k.block b (Nat.lt_of_lt_of_le hlt h.size) hne).trans (h.block b hlt hne)⟩
theorem gbD {w wr : World} {r : Option Nat} (h : w.grownBy wr r) : w.grownBy wr.drew r := ⟨h.os, h.tape, h.output, h.size, h.block⟩
def spotV (s : Spot) : List Value := [.int .i64 (s.1 : Int), .int .i64 (s.2 : Int)]
theorem spotV_len (s : Spot) : (spotV s).length = 2 := rfl
def spotsV (L : List Spot) : List Value := L.flatMap spotV
def farK : Spot → Nat := Prod.snd
theorem sl_spot : SlT Tryz.prog 173 176 2 16 (.agg #[.int .i64 0, .int .i64 0]) := SlT.mk' Tryz.underlying173 (by kernel_rfl) rfl (by omega)
/-- A queue of the call's own. -/
def QOwn (w : World) (base : Nat) (v : Value) (L : List Spot) : Prop := w.ownsRow base 176 2 v L.length (spotsV L)
theorem QOwn.cells {w : World} {base : Nat} {v : Value} {L : List Spot} (h : QOwn w base v L) (hn : 0 < L.length) : ∃ g c, v = .slice (some ⟨g, 0, none⟩) L.length c ∧ base ≤ g ∧ g < w.heap.size ∧ L.length ≤ c ∧ c ≤ maxLen ∧ ∀ i s, L[i]? = some s → w.cell? ⟨g, i * 2, none⟩ = some (.int .i64 (s.1 : Int)) ∧ w.cell? ⟨g, i * 2 + 1, none⟩ = some (.int .i64 (s.2 : Int)) := by
  have hmax : ∀ A n c, v = .slice A n c → c ≤ maxLen := fun A n c e => by
    rcases h.2 with ⟨rfl, h0⟩ | ⟨g, cap, cur, rfl, _, _, _, hm, _⟩
    · injection e with _ _ e3; rw [← e3]; exact Nat.zero_le _
    · injection e with _ _ e3; rw [← e3]; exact hm
  obtain ⟨g, c, e, h1, h2, h3, h4⟩ := own_form h hn
  have hlt : ∀ i s, L[i]? = some s → i < L.length := fun i s hi => (List.getElem?_eq_some_iff.1 hi).1
  refine ⟨g, c, e, h1, h2, h3, hmax _ _ _ e, fun i s hi => ⟨?_, ?_⟩⟩
  · rw [h4 _ (by have := hlt i s hi; omega)]
    exact fm_at spotV_len hi (j := 0) rfl
  · rw [h4 _ (by have := hlt i s hi; omega)]
    exact fm_at spotV_len hi (j := 1) rfl
theorem qlen_calls (A : Option Addr) (n c : Nat) (w : World) : Calls Tryz.prog 106 #[.slice A n c] w fun e w' => e = .returned (.int .i64 (n : Int)) ∧ w = w' := by
  go_enter Tryz.func106, Tryz.ntmps106
  go_wp2
  go_ret
  exact ⟨rfl, rfl⟩
theorem qless_calls (base : Nat) (v : Value) (L : List Spot) (i j : Nat) (w : World) (h : QOwn w base v L) (hi : i < L.length) (hj : j < L.length) :
    Calls Tryz.prog 225 #[v, .int .i64 (i : Int), .int .i64 (j : Int)] w fun e w' => e = .returned (.bool (decide (keyN farK L i < keyN farK L j))) ∧ Below w.heap.size w w' := by
  obtain ⟨g, c, rfl, h1, h2, h3, h4, hc⟩ := h.cells (by omega)
  have hi' := List.getElem?_eq_getElem hi
  have hj' := List.getElem?_eq_getElem hj
  rw [keyN_of hi', keyN_of hj']
  obtain ⟨x, hx⟩ : ∃ x, L[i] = x := ⟨_, rfl⟩
  obtain ⟨y, hy⟩ : ∃ y, L[j] = y := ⟨_, rfl⟩
  rw [hx] at hi' ⊢
  rw [hy] at hj' ⊢
  have ci := (hc i x hi').2
  have cj := (hc j y hj').2
  have hi0 : (0 : Int) ≤ i := by omega
  have hj0 : (0 : Int) ≤ j := by omega
  have hil : (i : Int) < L.length := by omega
  have hjl : (j : Int) < L.length := by omega
  obtain ⟨N, hN⟩ : ∃ N, L.length = N := ⟨_, rfl⟩
  rw [hN] at h3 hil hjl hi hj ⊢
  unfold farK maxLen at *
  clear hc hi' hj' hx hy h hN
  go_enter Tryz.func225, Tryz.ntmps225
  go_wp2
  go_quiet (fail)
  go_wp2
  go_ret
  exact ⟨rfl, below_drewN (Below.refl _ _) _⟩
theorem qswap_calls (base : Nat) (v : Value) (L : List Spot) (i j : Nat) (w : World) (h : QOwn w base v L) (hi : i < L.length) (hj : j < L.length) :
    Calls Tryz.prog 227 #[v, .int .i64 (i : Int), .int .i64 (j : Int)] w fun e w' => e = .returned (.tuple #[]) ∧ QOwn w' base v (swL L i j) ∧ w.grownBy w' v.ownBlock := by
  obtain ⟨g, c, rfl, h1, h2, h3, h4, hc⟩ := h.cells (by omega)
  have hi' := List.getElem?_eq_getElem hi
  have hj' := List.getElem?_eq_getElem hj
  obtain ⟨x, hx⟩ : ∃ x, L[i] = x := ⟨_, rfl⟩
  obtain ⟨y, hy⟩ : ∃ y, L[j] = y := ⟨_, rfl⟩
  rw [hx] at hi'
  rw [hy] at hj'
  obtain ⟨ci1, ci2⟩ := hc i x hi'
  obtain ⟨cj1, cj2⟩ := hc j y hj'
  have hi0 : (0 : Int) ≤ i := by omega
  have hj0 : (0 : Int) ≤ j := by omega
  have hil : (i : Int) < L.length := by omega
  have hjl : (j : Int) < L.length := by omega
  have f1 := World.ownsRow.frozenAt h (i * 2)
  have f2 := World.ownsRow.frozenAt h (i * 2 + 1)
  have f3 := World.ownsRow.frozenAt h (j * 2)
  have f4 := World.ownsRow.frozenAt h (j * 2 + 1)
  have hs1 := World.ownsRow.stored h (i * 2) (.int .i64 (y.1 : Int))
  obtain ⟨u1, hu1⟩ : ∃ u, (w.setCell ⟨g, i * 2, none⟩ (.int .i64 (y.1 : Int))).cell? ⟨g, j * 2, none⟩ = some u := ⟨_, (World.ownsRow.cellAt hs1.1 (j * 2) (by omega)).trans (List.getElem?_eq_getElem (by rw [List.length_set, h.1]; omega))⟩
  have hs2 := World.ownsRow.stored hs1.1 (i * 2 + 1) (.int .i64 (y.2 : Int))
  obtain ⟨u2, hu2⟩ : ∃ u, ((w.setCell ⟨g, i * 2, none⟩ (.int .i64 (y.1 : Int))).setCell ⟨g, i * 2 + 1, none⟩ (.int .i64 (y.2 : Int))).cell? ⟨g, j * 2 + 1, none⟩ = some u := ⟨_, (World.ownsRow.cellAt hs2.1 (j * 2 + 1) (by omega)).trans (List.getElem?_eq_getElem (by rw [List.length_set, List.length_set, h.1]; omega))⟩
  have hs3 := World.ownsRow.stored hs2.1 (j * 2) (.int .i64 (x.1 : Int))
  have hs4 := World.ownsRow.stored hs3.1 (j * 2 + 1) (.int .i64 (x.2 : Int))
  have HGB := Lib.hid (And.intro hs1.2 (And.intro hs2.2 (And.intro hs3.2 hs4.2)))
  have HS4 := Lib.hid hs4.1
  clear hs1 hs2 hs3 hs4
  have HO := Lib.hid h
  have HX := Lib.hid (And.intro hi' hj')
  clear hc hi' hj' hx hy h
  unfold maxLen at *
  go_enter Tryz.func227, Tryz.ntmps227
  go_wp2
  go_region
  go_wp2
  go_end0
  have hset : ((((spotsV L).set (i * 2) (.int .i64 (y.1 : Int))).set (i * 2 + 1) (.int .i64 (y.2 : Int))).set (j * 2) (.int .i64 (x.1 : Int))).set (j * 2 + 1) (.int .i64 (x.2 : Int)) = spotsV (swL L i j) := by
    rw [swL_of HX.out.1 HX.out.2]
    unfold spotsV
    have e1 := fm_set (y := ((y.1, x.2) : Spot)) spotV_len (v := .int .i64 (y.1 : Int)) (j := 0) HX.out.1 rfl (by decide)
    rw [Nat.add_zero] at e1
    have e2 := fm_set (l := L.set i ((y.1, x.2) : Spot)) (i := i) (x := ((y.1, x.2) : Spot)) (y := y) spotV_len (v := .int .i64 (y.2 : Int)) (j := 1) (by rw [List.getElem?_set, if_pos rfl, if_pos hi]) rfl (by decide)
    rw [e1, e2, List.set_set]
    have hj2 : (L.set i y)[j]? = some y := by
      rw [List.getElem?_set]
      by_cases e : i = j
      · rw [if_pos e, if_pos hi]
      · rw [if_neg e]; exact HX.out.2
    have e3 := fm_set (y := ((x.1, y.2) : Spot)) spotV_len (v := .int .i64 (x.1 : Int)) (j := 0) hj2 rfl (by decide)
    rw [Nat.add_zero] at e3
    have e4 := fm_set (l := (L.set i y).set j ((x.1, y.2) : Spot)) (i := j) (x := ((x.1, y.2) : Spot)) (y := x) spotV_len (v := .int .i64 (x.2 : Int)) (j := 1) (by rw [List.getElem?_set, if_pos rfl, if_pos (by simpa using hj)]) rfl (by decide)
    rw [e3, e4, List.set_set]
  refine ⟨rfl, ?_, ?_⟩
  · unfold QOwn
    rw [← hset, swL_length]
    exact HS4.out
  · exact gbD (gbT (gbT (gbT HGB.out.1 HGB.out.2.1) HGB.out.2.2.1) HGB.out.2.2.2)
/-- The blocks of R are as they were. -/
structure KeepR (R : Nat → Prop) (w w' : World) : Prop where
  os : w'.os = w.os
  tape : w'.tape = w.tape
  output : w'.output = w.output
  size : w.heap.size ≤ w'.heap.size
  block : ∀ b, R b → w'.heap[b]? = w.heap[b]?
theorem KeepR.refl (R : Nat → Prop) (w : World) : KeepR R w w := ⟨rfl, rfl, rfl, Nat.le_refl _, fun _ _ => rfl⟩
theorem KeepR.trans {R : Nat → Prop} {a b c : World} (h : KeepR R a b) (k : KeepR R b c) : KeepR R a c := ⟨k.os.trans h.os, k.tape.trans h.tape, k.output.trans h.output, Nat.le_trans h.size k.size, fun i hi => (k.block i hi).trans (h.block i hi)⟩
theorem KeepR.of_below {R : Nat → Prop} {w w' : World} (hb : Below w.heap.size w w') (hR : ∀ b, R b → b < w.heap.size) : KeepR R w w' := ⟨hb.os, hb.tape, hb.output, hb.size, fun b h => hb.block b (hR b h)⟩
theorem KeepR.of_grown {R : Nat → Prop} {w w' : World} {row : Option Nat} (hb : w.grownBy w' row) (hR : ∀ b, R b → b < w.heap.size ∧ row ≠ some b) : KeepR R w w' := ⟨hb.os, hb.tape, hb.output, hb.size, fun b h => hb.block b (hR b h).1 fun e => (hR b h).2 e.symm⟩
theorem KeepR.setCell {R : Nat → Prop} {w w' : World} (h : KeepR R w w') {p : Addr} (hR : ∀ b, R b → b ≠ p.block) (v : Value) : KeepR R w (w'.setCell p v) := ⟨h.os, h.tape, h.output, by simpa [World.setCell] using h.size, fun b hb => (Below.heap_setCell _ _ _ _ (hR b hb)).trans (h.block b hb)⟩
theorem KeepR.alloc {R : Nat → Prop} {w w' : World} (h : KeepR R w w') (hR : ∀ b, R b → b < w.heap.size) (o : Obj) : KeepR R w (w'.alloc o) := h.trans (.of_below (Below_alloc' _ _) fun b hb => Nat.lt_of_lt_of_le (hR b hb) h.size)
/-- A queue that block qb holds; the blocks of R are others. -/
structure Qs (R : Nat → Prop) (w : World) (qb : Nat) (L : List Spot) : Prop where
  ex : ∃ v, Blk w qb 173 [v] ∧ QOwn w 0 v L ∧ ∀ b, R b → b < w.heap.size ∧ b ≠ qb ∧ v.ownBlock ≠ some b
theorem run_build_spot (w : World) (s : Spot) : (Instr.buildSlice 173 1 #[(0, .agg (spotV s).toArray)]).run Tryz.prog w = .ok (.slice (some ⟨w.heap.size, 0, none⟩) 1 1) (w.alloc (.cells (spotV s).toArray 176)) := by
  obtain ⟨ie, h1, h2, h3, h4⟩ := sl_spot.info
  exact run_buildSlice w _ _ 1 _ _ ie _ sl_spot.ht h1 h2 (by rw [h3]; decide) (by rw [h3]; decide) (by rw [h3]; kernel_rfl)
theorem run_as_spot (w : World) (v : Value) : (Instr.typeAssert (.iface 176 v) 20 176 false).run Tryz.prog w = .ok v w := by kernel_rfl
set_option maxRecDepth 100000 in
set_option maxHeartbeats 1000000 in
theorem qpush_calls (R : Nat → Prop) (qb : Nat) (L : List Spot) (s : Spot) (w : World) (h : Qs R w qb L) (hn : L.length ≤ 100000000) :
    Calls Tryz.prog 105 #[.pointer (some ⟨qb, 0, none⟩), .iface 176 (.agg #[.int .i64 (s.1 : Int), .int .i64 (s.2 : Int)])] w fun e w' => e = .returned (.tuple #[]) ∧ Qs R w' qb (L ++ [s]) ∧ KeepR R w w' := by
  obtain ⟨v, hb, ho, hr⟩ := h.ex
  have HRR := Lib.hid hr
  clear hr
  have HB := Lib.hid hb
  have HO := Lib.hid ho
  have b0 := hb.cell 0
  obtain ⟨A, c, rfl, hAc⟩ := own_slice ho
  have HN := Lib.hid hn
  clear hb ho hAc hn
  go_enter Tryz.func105, Tryz.ntmps105
  go_wp2
  have fz : ∀ z : XC (cAp w 0 176 2 (.slice A L.length c) L.length (spotsV L) (spotV s) qb 0 6 7 9) [9], FrW (fun q => (Value.slice A L.length c).ownBlock = some q) w z.w := fun z => ApC.fr z.2.1 (z.2.2 9 (by simp))
  have f0 : ∀ z : XC (cAp w 0 176 2 (.slice A L.length c) L.length (spotsV L) (spotV s) qb 0 6 7 9) [9], z.w.cell? ⟨qb, 0, none⟩ = some (.slice A L.length c) := fun z => (fz z).cell b0 (fun e => own_blk HO.out HB.out (by decide) e.symm)
  haveI hne : Nonempty (XC (cAp w 0 176 2 (.slice A L.length c) L.length (spotsV L) (spotV s) qb 0 6 7 9) [9]) := XC.ne (cAp_start (y := w))
  clear fz
  refine wp_region_mixF (cAp w 0 176 2 (.slice A L.length c) L.length (spotsV L) (spotV s) qb 0 6 7 9) [6, 7, 9] [0, 1, 2, 3, 4, 5, 6, 7, 8, 9] [9] (by kernel_rfl) (by kernel_rfl) (by kernel_rfl) (by kernel_rfl) cAp_start cAp_hq (cAp_hA (by decide) (by decide)) (dst_small (by rfl)) ?_
  have hta := fun w v => run_as_spot w v
  refine wpMix_read rfl rfl (fun K hK => ?_); go_simp; refine hK _ ?_; clear hK K
  refine wpMix_read rfl rfl (fun K hK => ?_); go_simp; refine hK _ ?_; clear hK K
  refine wpMix_read rfl rfl (fun K hK => ?_); go_simp; refine hK _ ?_; clear hK K
  refine wpMix_read rfl rfl (fun K hK => ?_); go_simp; refine hK _ ?_; clear hK K
  refine wpMix_read rfl rfl (fun K hK => ?_); go_simp; refine hK _ ?_; clear hK K
  refine wpMix_read rfl rfl (fun K hK => ?_); go_simp; refine hK _ ?_; clear hK K
  have hqb := HB.out.lt
  refine wpMix_act (some 10) rfl rfl rfl rfl (fun D A z hD hp hpre hC => cAp_build (by decide) (by decide) (by decide) rfl (by simp only [List.map_toArray, List.map_cons, List.map_nil]; exact run_build_spot _ _) hD hC) (fun D A z hD hpre hC => ?_)
  obtain ⟨nb, hnb, -⟩ := ApC.r1 hC hD
  rw [hnb]
  clear hpre hC hD hnb z A D
  refine wpMix_act (some 11) rfl rfl rfl rfl (fun D A z hD hp hpre hC => cAp_append (by decide) (by decide) (by decide) sl_spot (by omega) (fun x hx => ownsRow_fr HO.out (FrW.of_below (fun _ => False) hx) (fun _ _ => id)) rfl rfl rfl (by have := HN.out; omega) (by unfold maxLen; have := HN.out; omega) rfl (by simp [spotV, Value.oneCell']) hD (hpre 6 (by simp)).1 (hpre 6 (by simp)).2 hC) (fun D A z hD hpre hC => ?_)
  obtain ⟨nb2, cap2, hnb, -⟩ := ApC.r2 hC hD
  rw [hnb]
  clear hpre hC hD hnb z A D
  iterate 1 (refine wpMix_read rfl rfl (fun K hK => ?_); go_simp; refine hK _ ?_; clear hK K)
  refine wpMix_act0 rfl rfl rfl rfl (fun D A z hD hp hpre hC => cAp_store (by decide) (by decide) (by decide) HB.out (by simp) (fun e => own_blk HO.out HB.out (by decide) e.symm) (by kernel_rfl) rfl rfl rfl hD (hpre 7 (by simp)).1 (hpre 7 (by simp)).2 hC) (fun D A z hD hpre hC => ?_)
  clear hpre hC hD z A D
  refine wpMix_nil (fun D A z hD hAA hC => ?_)
  obtain ⟨nb3, cap3, x0, x1, hap, rfl⟩ := ApC.fin hC (hD 9 (by decide))
  clear hAA hC hD D A f0 hne
  go_wp2
  go_end0
  have hne := fun e => own_blk HO.out HB.out (by decide) e
  have hb1 := (HB.out.below hap.bel HB.out.lt).grown hap.gr hne
  have hx0 := hap.bel.size
  have hx1 := hap.gr.size
  have hk0 : KeepR R w x1 := (KeepR.of_below hap.bel fun b hb => (HRR.out b hb).1).trans (.of_grown hap.gr fun b hb => ⟨by have := (HRR.out b hb).1; omega, (HRR.out b hb).2.2⟩)
  refine ⟨rfl, ⟨_, hb1.set_ 0 _, ?_, fun b hb => ⟨by have := (HRR.out b hb).1; simp [World.setCell]; omega, (HRR.out b hb).2.1, ?_⟩⟩, hk0.setCell (p := ⟨qb, 0, none⟩) (fun b hb => (HRR.out b hb).2.1) _⟩
  · have h2 := ownsRow_setCell_other (a := ⟨qb, 0, none⟩) hap.own (fun e => own_blk hap.own hb1 (by decide) e.symm) (.slice (some ⟨nb3, 0, none⟩) (L.length + 1) cap3)
    unfold QOwn spotsV
    rw [List.length_append, List.flatMap_append]
    simpa [spotsV] using h2
  · intro e
    have e : some nb3 = some b := e
    injection e with e
    rcases hap.at_ with q | q
    · exact (HRR.out b hb).2.2 (by rw [q, e])
    · have := (HRR.out b hb).1; omega
set_option maxRecDepth 100000 in
set_option maxHeartbeats 1000000 in
theorem qpop_calls (R : Nat → Prop) (qb : Nat) (L : List Spot) (s : Spot) (w : World) (h : Qs R w qb (L ++ [s])) :
    Calls Tryz.prog 226 #[.pointer (some ⟨qb, 0, none⟩)] w fun e w' => e = .returned (.iface 176 (.agg #[.int .i64 (s.1 : Int), .int .i64 (s.2 : Int)])) ∧ Qs R w' qb L ∧ KeepR R w w' := by
  obtain ⟨v, hb, ho, hr⟩ := h.ex
  have HRR := Lib.hid hr
  clear hr
  have hne' := own_blk ho hb (by decide)
  obtain ⟨g, c, rfl, h1, h2, h3, h4, hc⟩ := ho.cells (by simp)
  obtain ⟨c1, c2⟩ := hc L.length s (by simp)
  clear hc
  have hpop := ownsRow_pop (size := 2) (n := L.length) (xs := spotsV L) (last := spotV s) (by unfold spotsV; rw [fm_length spotV_len]) (by unfold QOwn spotsV at ho; simpa [spotsV] using ho)
  have hgn : g ≠ qb := fun e => hne' (by rw [← e]; rfl)
  clear hne'
  simp only [List.length_append, List.length_singleton] at *
  have b0 := hb.cell 0
  have fz := hb.frozen 0
  have hqb := hb.lt
  have HB := Lib.hid hb
  have HP := Lib.hid hpop
  clear hb ho hpop h
  unfold maxLen at h4
  go_enter Tryz.func226, Tryz.ntmps226
  go_wp2
  go_ret
  refine ⟨rfl, ⟨_, (HB.out.set_ 0 (.slice (some ⟨g, 0, none⟩) L.length c)).alloc _, ?_, fun b hb => ⟨by have := (HRR.out b hb).1; simp [World.setCell]; omega, (HRR.out b hb).2.1, (HRR.out b hb).2.2⟩⟩, ?_⟩
  · exact (ownsRow_setCell_other (a := ⟨qb, 0, none⟩) HP.out (fun e => by
      have e : some g = some qb := e
      injection e with e; omega) _).alloc _
  · exact ((KeepR.refl R w).setCell (p := ⟨qb, 0, none⟩) (fun b hb => (HRR.out b hb).2.1) _).trans (.of_below (Below_alloc' _ _) fun b hb => by have := (HRR.out b hb).1; simpa [World.setCell] using this)
end Go.Proofs.YtffgnjgphkdodaaGreatDoor
/- The walk of container/heap over delay's queue: up, down, Push, Pop, Fix. -/
namespace Go.Proofs.YtffgnjgphkdodaaGreatDoor
open Go Go.RowKit
theorem Qs.below {R : Nat → Prop} {w w' : World} {qb : Nat} {L : List Spot} (h : Qs R w qb L) (hb : Below w.heap.size w w') : Qs R w' qb L ∧ KeepR R w w' := by
  obtain ⟨v, h1, h2, h3⟩ := h.ex
  exact ⟨⟨v, h1.below hb h1.lt, h2.kept (row := none) ⟨hb.os, hb.tape, hb.output, hb.size, fun k hk _ => hb.block k hk⟩ (by cases h : v.ownBlock <;> simp), fun b k => ⟨Nat.lt_of_lt_of_le (h3 b k).1 hb.size, (h3 b k).2⟩⟩, .of_below hb fun b k => (h3 b k).1⟩
theorem qown_below {w w' : World} {qb : Nat} {v : Value} {L : List Spot} (h1 : Blk w qb 173 [v]) (h2 : QOwn w 0 v L) (hb : Below w.heap.size w w') : Blk w' qb 173 [v] ∧ QOwn w' 0 v L :=
  ⟨h1.below hb h1.lt, h2.kept (row := none) ⟨hb.os, hb.tape, hb.output, hb.size, fun k hk _ => hb.block k hk⟩ (by cases h : v.ownBlock <;> simp)⟩
/-- Two were changed with each other. -/
theorem Qs.swapped {R : Nat → Prop} {w w1 w2 : World} {qb : Nat} {v : Value} {L : List Spot} (h1 : Blk w qb 173 [v]) (h2 : QOwn w 0 v L) (h3 : ∀ b, R b → b < w.heap.size ∧ b ≠ qb ∧ v.ownBlock ≠ some b) (hb : Below w.heap.size w w1) {i j : Nat} (ho : QOwn w2 0 v (swL L i j)) (hg : w1.grownBy w2 v.ownBlock) : Qs R w2 qb (swL L i j) ∧ KeepR R w w2 := by
  obtain ⟨hb1, ho1⟩ := qown_below h1 h2 hb
  have hs := hb.size
  have hs2 := hg.size
  exact ⟨⟨v, hb1.grown hg (own_blk ho1 hb1 (by decide)), ho, fun b k => ⟨by have := (h3 b k).1; omega, (h3 b k).2⟩⟩, (KeepR.of_below hb fun b k => (h3 b k).1).trans (.of_grown hg fun b k => ⟨by have := (h3 b k).1; omega, (h3 b k).2.2⟩)⟩
theorem ld_q (w : World) (qb : Nat) (v : Value) (hb : w.cell? ⟨qb, 0, none⟩ = some v) : (loadVar 173 ⟨qb, 0, none⟩).run Tryz.prog w = .ok v w := by
  have hu := Tryz.underlying173
  simp [loadVar, isAgg, underlying, hu, Sem.run_bind, Sem.run, program, load, hb]
theorem m_less (w : World) (qb : Nat) (v : Value) (hb : w.cell? ⟨qb, 0, none⟩ = some v) : (method (Tryz.prog.types.size + Made.depth) 171 (.pointer (some ⟨qb, 0, none⟩)) "Less").run Tryz.prog w = .ok (225, v) w :=
  method_val (by kernel_rfl) (show Tryz.prog.underlying 171 = some (.pointer 173) by kernel_rfl) _ qb w v (ld_q w qb v hb)
theorem m_swap (w : World) (qb : Nat) (v : Value) (hb : w.cell? ⟨qb, 0, none⟩ = some v) : (method (Tryz.prog.types.size + Made.depth) 171 (.pointer (some ⟨qb, 0, none⟩)) "Swap").run Tryz.prog w = .ok (227, v) w :=
  method_val (by kernel_rfl) (show Tryz.prog.underlying 171 = some (.pointer 173) by kernel_rfl) _ qb w v (ld_q w qb v hb)
theorem m_len (w : World) (qb : Nat) (v : Value) (hb : w.cell? ⟨qb, 0, none⟩ = some v) : (method (Tryz.prog.types.size + Made.depth) 171 (.pointer (some ⟨qb, 0, none⟩)) "Len").run Tryz.prog w = .ok (106, v) w :=
  method_val (by kernel_rfl) (show Tryz.prog.underlying 171 = some (.pointer 173) by kernel_rfl) _ qb w v (ld_q w qb v hb)
theorem m_push (w : World) (qb : Nat) : (method (Tryz.prog.types.size + Made.depth) 171 (.pointer (some ⟨qb, 0, none⟩)) "Push").run Tryz.prog w = .ok (105, .pointer (some ⟨qb, 0, none⟩)) w :=
  method_ptr (by kernel_rfl) (show Tryz.prog.underlying 171 = some (.pointer 173) by kernel_rfl) _ qb w
theorem m_pop (w : World) (qb : Nat) : (method (Tryz.prog.types.size + Made.depth) 171 (.pointer (some ⟨qb, 0, none⟩)) "Pop").run Tryz.prog w = .ok (226, .pointer (some ⟨qb, 0, none⟩)) w :=
  method_ptr (by kernel_rfl) (show Tryz.prog.underlying 171 = some (.pointer 173) by kernel_rfl) _ qb w
set_option maxRecDepth 100000 in
set_option maxHeartbeats 1000000 in
theorem hup_calls (R : Nat → Prop) (qb : Nat) (L : List Spot) (j : Nat) (w : World) (h : Qs R w qb L) (hu : UpOk farK L j) (hL : L.length ≤ 100000000) :
    Calls Tryz.prog 155 #[.iface 171 (.pointer (some ⟨qb, 0, none⟩)), .int .i64 (j : Int)] w fun e w' => e = .returned (.tuple #[]) ∧ ∃ L', Qs R w' qb L' ∧ HpN farK L' L'.length ∧ L'.length = L.length ∧ (∀ x, x ∈ L' ↔ x ∈ L) ∧ KeepR R w w' := by
  have HQ := Lib.hid h
  have HU := Lib.hid hu
  clear h hu
  go_enter Tryz.func155, Tryz.ntmps155
  go_wp2
  go_loopw [1] (fun v1 wr => ∃ (j' : Nat) (L' : List Spot), v1 = .int .i64 (j' : Int) ∧ Hid (Qs R wr qb L') ∧ Hid (UpOk farK L' j') ∧ (L'.length ≤ 100000000) ∧ Hid (L'.length = L.length ∧ (∀ x, x ∈ L' ↔ x ∈ L) ∧ KeepR R w wr)) (fun v1 _ => (intOf v1).toNat)
  case atStart => exact ⟨j, L, rfl, HQ, HU, hL, Lib.hid ⟨rfl, fun _ => Iff.rfl, KeepR.refl _ _⟩⟩
  case round =>
    obtain ⟨j', L', rfl, HQ, HU, hL', HB⟩ := hrel
    obtain ⟨v, hbk, how, hrr⟩ := HQ.out.ex
    have HRR := Lib.hid hrr
    clear hrr
    have b0 := hbk.cell 0
    have hn1 : ∀ w, (nilAhead 181 171 (.pointer (some ⟨qb, 0, none⟩)) "Less").run Tryz.prog w = .ok (some false) w := fun w => by kernel_rfl
    cases j' with
    | zero =>
      have e0 : ((0 : Nat) : Int) = 0 := rfl
      rw [e0]
      go_wp2
      go_end0
      exact ⟨rfl, L', HQ.out, HU.out.done (fun h => by omega), HB.out.1, HB.out.2.1, HB.out.2.2⟩
    | succ k =>
      have hk := HU.out.lt
      have hk0 : (0 : Int) ≤ (k : Int) := by omega
      have hk1 : (k : Int) ≤ 100000000 := by omega
      have hd : ((k : Int) / 2 == (k : Int) + 1) = false := by simp; omega
      have e1 : ((k + 1 : Nat) : Int) = (k : Int) + 1 := by omega
      have e2 : ((k / 2 : Nat) : Int) = (k : Int) / 2 := by omega
      have hls := qless_calls 0 v L' (k + 1) (k / 2) wr how hk (by omega)
      rw [e1, e2] at hls
      have HLS := Lib.hid hls
      clear hls
      have hsw := fun (w1 : World) (hb : Below wr.heap.size wr w1) => qswap_calls 0 v L' (k / 2) (k + 1) w1 (qown_below hbk how hb).2 (by omega) hk
      rw [e1, e2] at hsw
      have HSW := Lib.hid hsw
      clear hsw e1 e2
      have HK := Lib.hid hk
      have HW := Lib.hid how
      have HBK := Lib.hid hbk
      clear how hk hbk
      by_cases hl : keyN farK L' (k + 1) < keyN farK L' (k / 2)
      · rw [show decide (keyN farK L' (k + 1) < keyN farK L' (k / 2)) = true from decide_eq_true hl] at HLS
        have HL := Lib.hid hl
        clear hl
        go_wp2_with (first
          | (refine wpList_inv (by rfl) (.tmp 12) "Less" [.tmp 13, .tmp 14] _ rfl _ _ rfl _ _ (m_less _ qb v b0) Tryz.func225 (by kernel_rfl) (by kernel_rfl) _ rfl ?_
             refine (HLS.out).mono ?_
             rintro e w1 ⟨rfl, hb1⟩
             have b1 := (HBK.out.below hb1 HBK.out.lt).cell 0
             have HB1 := Lib.hid hb1
             clear hb1
             refine ⟨_, rfl, ?_⟩)
          | (refine wpList_inv (by rfl) (.tmp 18) "Swap" [.tmp 19, .tmp 20] _ rfl _ _ rfl _ _ (m_swap _ qb v b1) Tryz.func227 (by kernel_rfl) (by kernel_rfl) _ rfl ?_
             refine (HSW.out _ HB1.out).mono ?_
             rintro e w2 ⟨rfl, ho2, hg2⟩
             have HS2 := Lib.hid (And.intro ho2 hg2)
             clear ho2 hg2
             refine ⟨_, rfl, ?_⟩))
        obtain ⟨hb2, hbl⟩ := Qs.swapped HBK.out HW.out HRR.out HB1.out HS2.out.1 HS2.out.2
        have hil : k / 2 < L'.length := by have := HK.out; omega
        have hup := HU.out.step (by omega) (by simpa using HL.out)
        rw [Nat.add_sub_cancel] at hup
        have hmem := swL_mem hil HK.out
        have HF := Lib.hid (And.intro hb2 (And.intro hbl (And.intro hup hmem)))
        clear hb2 hbl hup hmem
        go_roundw
        case rel => exact ⟨k / 2, swL L' (k / 2) (k + 1), by rw [show ((k / 2 : Nat) : Int) = (k : Int) / 2 by omega], Lib.hid HF.out.1, Lib.hid HF.out.2.2.1, by rw [swL_length]; exact hL', Lib.hid ⟨by rw [swL_length]; exact HB.out.1, fun x => (HF.out.2.2.2 x).trans (HB.out.2.1 x), HB.out.2.2.trans HF.out.2.1⟩⟩
        case measure => simp [intOf]; omega
      · rw [show decide (keyN farK L' (k + 1) < keyN farK L' (k / 2)) = false from decide_eq_false hl] at HLS
        have HL := Lib.hid hl
        clear hl
        go_wp2_with (first
          | (refine wpList_inv (by rfl) (.tmp 12) "Less" [.tmp 13, .tmp 14] _ rfl _ _ rfl _ _ (m_less _ qb v b0) Tryz.func225 (by kernel_rfl) (by kernel_rfl) _ rfl ?_
             refine (HLS.out).mono ?_
             rintro e w1 ⟨rfl, hb1⟩
             have HB1 := Lib.hid hb1
             clear hb1
             refine ⟨_, rfl, ?_⟩))
        go_end0
        exact ⟨rfl, L', (HQ.out.below HB1.out).1, HU.out.done (fun h => by have := HL.out; simpa using this), HB.out.1, HB.out.2.1, HB.out.2.2.trans (HQ.out.below HB1.out).2⟩
end Go.Proofs.YtffgnjgphkdodaaGreatDoor
/- The walk of container/heap over delay's queue: down, Push, Pop, Fix. -/
namespace Go.Proofs.YtffgnjgphkdodaaGreatDoor
open Go Go.RowKit
theorem DnOk.leaf {L : List Spot} {n i : Nat} (h : DnOk farK L n i) (hn : n ≤ 2 * i + 1) : HpN farK L n := h.done fun k h0 hk hp => by omega
set_option maxRecDepth 100000 in
set_option maxHeartbeats 4000000 in
theorem hdown_calls (R : Nat → Prop) (qb : Nat) (L : List Spot) (n i : Nat) (w : World) (h : Qs R w qb L) (hd : DnOk farK L n i) (hL : L.length ≤ 100000000) (hi : i ≤ 100000000) :
    Calls Tryz.prog 156 #[.iface 171 (.pointer (some ⟨qb, 0, none⟩)), .int .i64 (i : Int), .int .i64 (n : Int)] w fun e w' => ∃ b L', e = .returned (.bool b) ∧ Qs R w' qb L' ∧ HpN farK L' n ∧ L'.length = L.length ∧ (∀ x, x ∈ L' ↔ x ∈ L) ∧ (∀ k, n ≤ k → L'[k]? = L[k]?) ∧ KeepR R w w' := by
  have HQ := Lib.hid h
  have HD := Lib.hid hd
  have HN := Lib.hid hd.le
  have HI := Lib.hid hi
  clear h hd
  go_enter Tryz.func156, Tryz.ntmps156
  go_wp2
  go_loopw [7] (fun v7 wr => ∃ (j' : Nat) (L' : List Spot), v7 = .int .i64 (j' : Int) ∧ j' ≤ 100000000 ∧ Hid (Qs R wr qb L') ∧ Hid (DnOk farK L' n j') ∧ L'.length ≤ 100000000 ∧ Hid (L'.length = L.length ∧ (∀ x, x ∈ L' ↔ x ∈ L) ∧ (∀ k, n ≤ k → L'[k]? = L[k]?) ∧ KeepR R w wr)) (fun v7 _ => 100000000 - (intOf v7).toNat)
  case atStart => exact ⟨i, L, rfl, hi, HQ, HD, hL, Lib.hid ⟨rfl, fun _ => Iff.rfl, fun _ _ => rfl, KeepR.refl _ _⟩⟩
  case round =>
    obtain ⟨p, L', rfl, hp, HQ, HD, hL', HB⟩ := hrel
    obtain ⟨v, hbk, how, hrr⟩ := HQ.out.ex
    have b0 := hbk.cell 0
    have hle := HD.out.le
    have hless : ∀ (a b : Nat) (x y : Int) (bv : Bool), x = (a : Int) → y = (b : Int) → a < L'.length → b < L'.length → decide (keyN farK L' a < keyN farK L' b) = bv → ∀ w1, Below wr.heap.size wr w1 → Calls Tryz.prog 225 #[v, .int .i64 x, .int .i64 y] w1 fun e w' => e = .returned (.bool bv) ∧ Below wr.heap.size wr w' := by
      intro a b x y bv hx hy ha hb hbv w1 hw1
      subst hx hy hbv
      refine (qless_calls 0 v L' a b w1 (qown_below hbk how hw1).2 ha hb).mono ?_
      rintro e w2 ⟨rfl, hb2⟩
      exact ⟨rfl, hw1.trans (hb2.mono hw1.size)⟩
    have hswap : ∀ (a b : Nat) (x y : Int), x = (a : Int) → y = (b : Int) → a < L'.length → b < L'.length → ∀ w1, Below wr.heap.size wr w1 → Calls Tryz.prog 227 #[v, .int .i64 x, .int .i64 y] w1 fun e w' => e = .returned (.tuple #[]) ∧ Qs R w' qb (swL L' a b) ∧ KeepR R wr w' := by
      intro a b x y hx hy ha hb w1 hw1
      subst hx hy
      refine (qswap_calls 0 v L' a b w1 (qown_below hbk how hw1).2 ha hb).mono ?_
      rintro e w2 ⟨rfl, ho2, hg2⟩
      exact ⟨rfl, Qs.swapped hbk how hrr hw1 ho2 hg2⟩
    have hcell : ∀ w1, Below wr.heap.size wr w1 → w1.cell? ⟨qb, 0, none⟩ = some v := fun w1 hw1 => (hbk.below hw1 hbk.lt).cell 0
    have hq : ∀ w1, Below wr.heap.size wr w1 → Qs R w1 qb L' ∧ KeepR R wr w1 := fun w1 hw1 => HQ.out.below hw1
    have HLS := Lib.hid hless
    have HSW := Lib.hid hswap
    have HC := Lib.hid hcell
    have HQB := Lib.hid hq
    clear hless hswap hcell hq hbk how hrr
    have hp0 : (0 : Int) ≤ (p : Int) := by omega
    have hp1 : (p : Int) ≤ 100000000 := by omega
    by_cases hn : n ≤ 2 * p + 1
    · have d1 : decide ((n : Int) ≤ 2 * (p : Int) + 1) = true := decide_eq_true (by omega)
      have HNN := Lib.hid hn
      clear hle hn
      go_wp2
      go_ret
      exact ⟨_, L', rfl, HQ.out, HD.out.leaf HNN.out, HB.out.1, HB.out.2.1, HB.out.2.2.1, HB.out.2.2.2⟩
    · have d1 : decide ((n : Int) ≤ 2 * (p : Int) + 1) = false := decide_eq_false (by omega)
      have d2 : decide (2 * (p : Int) + 1 < 0) = false := decide_eq_false (by omega)
      by_cases h2 : 2 * p + 2 < n
      · have d3 : decide (2 * (p : Int) + 1 + 1 < (n : Int)) = true := decide_eq_true (by omega)
        have d4 : decide (2 * (p : Int) + 2 < (n : Int)) = true := decide_eq_true (by omega)
        have HNN := Lib.hid (And.intro h2 hle)
        clear hle
        by_cases hj : keyN farK L' (2 * p + 2) < keyN farK L' (2 * p + 1)
        · have HJ := Lib.hid hj
          clear hj
          have hmin : Hid (∀ k, 0 < k → k < n → (k - 1) / 2 = p → keyN farK L' (2 * p + 2) ≤ keyN farK L' k) := Lib.hid fun k h0 hk hpk => by
            have h1 := HJ.out
            rcases (show k = 2 * p + 1 ∨ k = 2 * p + 2 by omega) with rfl | rfl
            · omega
            · exact Nat.le_refl _
          by_cases hl : keyN farK L' (2 * p + 2) < keyN farK L' p
          · have HL := Lib.hid hl
            clear hl
            go_wp2_with (first
          | (refine wpList_inv (by rfl) (.tmp 29) "Less" [.tmp 30, .tmp 31] _ rfl _ _ rfl _ _ (m_less _ qb v (HC.out _ (Below.refl _ _))) Tryz.func225 (by kernel_rfl) (by kernel_rfl) _ rfl ?_
             refine (HLS.out (2 * p + 2) (2 * p + 1) _ _ true (by omega) (by omega) (by have := HNN.out; omega) (by have := HNN.out; omega) (by exact decide_eq_true HJ.out) _ (Below.refl _ _)).mono ?_
             rintro e wx ⟨rfl, hbwx⟩
             have HBwx := Lib.hid hbwx
             clear hbwx
             refine ⟨_, rfl, ?_⟩)
          | (refine wpList_inv (by rfl) (.tmp 35) "Less" [.tmp 36, .tmp 37] _ rfl _ _ rfl _ _ (m_less _ qb v (HC.out _ HBwx.out)) Tryz.func225 (by kernel_rfl) (by kernel_rfl) _ rfl ?_
             refine (HLS.out (2 * p + 2) (p) _ _ true (by omega) (by omega) (by have := HNN.out; omega) (by have := HNN.out; omega) (by exact decide_eq_true HL.out) _ HBwx.out).mono ?_
             rintro e wy ⟨rfl, hbwy⟩
             have HBwy := Lib.hid hbwy
             clear hbwy
             refine ⟨_, rfl, ?_⟩)
          | (refine wpList_inv (by rfl) (.tmp 40) "Swap" [.tmp 41, .tmp 42] _ rfl _ _ rfl _ _ (m_swap _ qb v (HC.out _ HBwy.out)) Tryz.func227 (by kernel_rfl) (by kernel_rfl) _ rfl ?_
             refine (HSW.out p (2 * p + 2) _ _ rfl (by omega) (by have := HNN.out; omega) (by have := HNN.out; omega) _ HBwy.out).mono ?_
             rintro e wz ⟨rfl, hq3⟩
             have HS3 := Lib.hid hq3
             clear hq3
             refine ⟨_, rfl, ?_⟩))
            have hst := HD.out.step (j := 2 * p + 2) (by omega) (by have := HNN.out; omega) (by omega) HL.out hmin.out
            have hil : p < L'.length := by have := HNN.out; omega
            have hjl : 2 * p + 2 < L'.length := by have := HNN.out; omega
            have hkp : ∀ k, n ≤ k → (swL L' p (2 * p + 2))[k]? = L'[k]? := fun k hk => by rw [swL_at hil hjl, if_neg (by have := HNN.out; omega), if_neg (by have := HNN.out; omega)]
            have HF := Lib.hid (And.intro hst (And.intro (swL_mem hil hjl) hkp))
            have hjm : 2 * p + 2 ≤ 100000000 := by omega
            clear hst hil hjl hkp
            go_roundw
            case rel => exact ⟨2 * p + 2, swL L' p (2 * p + 2), by go_num, hjm, Lib.hid HS3.out.1, Lib.hid HF.out.1, by rw [swL_length]; exact hL', Lib.hid ⟨by rw [swL_length]; exact HB.out.1, fun x => (HF.out.2.1 x).trans (HB.out.2.1 x), fun k hk => (HF.out.2.2 k hk).trans (HB.out.2.2.1 k hk), HB.out.2.2.2.trans HS3.out.2⟩⟩
            case measure => simp [intOf]; omega
          · have HL := Lib.hid hl
            clear hl
            go_wp2_with (first
          | (refine wpList_inv (by rfl) (.tmp 29) "Less" [.tmp 30, .tmp 31] _ rfl _ _ rfl _ _ (m_less _ qb v (HC.out _ (Below.refl _ _))) Tryz.func225 (by kernel_rfl) (by kernel_rfl) _ rfl ?_
             refine (HLS.out (2 * p + 2) (2 * p + 1) _ _ true (by omega) (by omega) (by have := HNN.out; omega) (by have := HNN.out; omega) (by exact decide_eq_true HJ.out) _ (Below.refl _ _)).mono ?_
             rintro e wx ⟨rfl, hbwx⟩
             have HBwx := Lib.hid hbwx
             clear hbwx
             refine ⟨_, rfl, ?_⟩)
          | (refine wpList_inv (by rfl) (.tmp 35) "Less" [.tmp 36, .tmp 37] _ rfl _ _ rfl _ _ (m_less _ qb v (HC.out _ HBwx.out)) Tryz.func225 (by kernel_rfl) (by kernel_rfl) _ rfl ?_
             refine (HLS.out (2 * p + 2) (p) _ _ false (by omega) (by omega) (by have := HNN.out; omega) (by have := HNN.out; omega) (by exact decide_eq_false HL.out) _ HBwx.out).mono ?_
             rintro e wy ⟨rfl, hbwy⟩
             have HBwy := Lib.hid hbwy
             clear hbwy
             refine ⟨_, rfl, ?_⟩))
            go_ret
            have hdn := HD.out.done (fun k h0 hk hpk => by
              have h1 := HL.out
              have h2 := hmin.out k h0 hk hpk
              omega)
            exact ⟨_, L', rfl, (HQB.out _ HBwy.out).1, hdn, HB.out.1, HB.out.2.1, HB.out.2.2.1, HB.out.2.2.2.trans (HQB.out _ HBwy.out).2⟩
        · have HJ := Lib.hid hj
          clear hj
          have hmin : Hid (∀ k, 0 < k → k < n → (k - 1) / 2 = p → keyN farK L' (2 * p + 1) ≤ keyN farK L' k) := Lib.hid fun k h0 hk hpk => by
            have h1 := HJ.out
            rcases (show k = 2 * p + 1 ∨ k = 2 * p + 2 by omega) with rfl | rfl
            · exact Nat.le_refl _
            · omega
          by_cases hl : keyN farK L' (2 * p + 1) < keyN farK L' p
          · have HL := Lib.hid hl
            clear hl
            go_wp2_with (first
          | (refine wpList_inv (by rfl) (.tmp 29) "Less" [.tmp 30, .tmp 31] _ rfl _ _ rfl _ _ (m_less _ qb v (HC.out _ (Below.refl _ _))) Tryz.func225 (by kernel_rfl) (by kernel_rfl) _ rfl ?_
             refine (HLS.out (2 * p + 2) (2 * p + 1) _ _ false (by omega) (by omega) (by have := HNN.out; omega) (by have := HNN.out; omega) (by exact decide_eq_false HJ.out) _ (Below.refl _ _)).mono ?_
             rintro e wx ⟨rfl, hbwx⟩
             have HBwx := Lib.hid hbwx
             clear hbwx
             refine ⟨_, rfl, ?_⟩)
          | (refine wpList_inv (by rfl) (.tmp 35) "Less" [.tmp 36, .tmp 37] _ rfl _ _ rfl _ _ (m_less _ qb v (HC.out _ HBwx.out)) Tryz.func225 (by kernel_rfl) (by kernel_rfl) _ rfl ?_
             refine (HLS.out (2 * p + 1) (p) _ _ true (by omega) (by omega) (by have := HNN.out; omega) (by have := HNN.out; omega) (by exact decide_eq_true HL.out) _ HBwx.out).mono ?_
             rintro e wy ⟨rfl, hbwy⟩
             have HBwy := Lib.hid hbwy
             clear hbwy
             refine ⟨_, rfl, ?_⟩)
          | (refine wpList_inv (by rfl) (.tmp 40) "Swap" [.tmp 41, .tmp 42] _ rfl _ _ rfl _ _ (m_swap _ qb v (HC.out _ HBwy.out)) Tryz.func227 (by kernel_rfl) (by kernel_rfl) _ rfl ?_
             refine (HSW.out p (2 * p + 1) _ _ rfl (by omega) (by have := HNN.out; omega) (by have := HNN.out; omega) _ HBwy.out).mono ?_
             rintro e wz ⟨rfl, hq3⟩
             have HS3 := Lib.hid hq3
             clear hq3
             refine ⟨_, rfl, ?_⟩))
            have hst := HD.out.step (j := 2 * p + 1) (by omega) (by have := HNN.out; omega) (by omega) HL.out hmin.out
            have hil : p < L'.length := by have := HNN.out; omega
            have hjl : 2 * p + 1 < L'.length := by have := HNN.out; omega
            have hkp : ∀ k, n ≤ k → (swL L' p (2 * p + 1))[k]? = L'[k]? := fun k hk => by rw [swL_at hil hjl, if_neg (by have := HNN.out; omega), if_neg (by have := HNN.out; omega)]
            have HF := Lib.hid (And.intro hst (And.intro (swL_mem hil hjl) hkp))
            have hjm : 2 * p + 1 ≤ 100000000 := by omega
            clear hst hil hjl hkp
            go_roundw
            case rel => exact ⟨2 * p + 1, swL L' p (2 * p + 1), by go_num, hjm, Lib.hid HS3.out.1, Lib.hid HF.out.1, by rw [swL_length]; exact hL', Lib.hid ⟨by rw [swL_length]; exact HB.out.1, fun x => (HF.out.2.1 x).trans (HB.out.2.1 x), fun k hk => (HF.out.2.2 k hk).trans (HB.out.2.2.1 k hk), HB.out.2.2.2.trans HS3.out.2⟩⟩
            case measure => simp [intOf]; omega
          · have HL := Lib.hid hl
            clear hl
            go_wp2_with (first
          | (refine wpList_inv (by rfl) (.tmp 29) "Less" [.tmp 30, .tmp 31] _ rfl _ _ rfl _ _ (m_less _ qb v (HC.out _ (Below.refl _ _))) Tryz.func225 (by kernel_rfl) (by kernel_rfl) _ rfl ?_
             refine (HLS.out (2 * p + 2) (2 * p + 1) _ _ false (by omega) (by omega) (by have := HNN.out; omega) (by have := HNN.out; omega) (by exact decide_eq_false HJ.out) _ (Below.refl _ _)).mono ?_
             rintro e wx ⟨rfl, hbwx⟩
             have HBwx := Lib.hid hbwx
             clear hbwx
             refine ⟨_, rfl, ?_⟩)
          | (refine wpList_inv (by rfl) (.tmp 35) "Less" [.tmp 36, .tmp 37] _ rfl _ _ rfl _ _ (m_less _ qb v (HC.out _ HBwx.out)) Tryz.func225 (by kernel_rfl) (by kernel_rfl) _ rfl ?_
             refine (HLS.out (2 * p + 1) (p) _ _ false (by omega) (by omega) (by have := HNN.out; omega) (by have := HNN.out; omega) (by exact decide_eq_false HL.out) _ HBwx.out).mono ?_
             rintro e wy ⟨rfl, hbwy⟩
             have HBwy := Lib.hid hbwy
             clear hbwy
             refine ⟨_, rfl, ?_⟩))
            go_ret
            have hdn := HD.out.done (fun k h0 hk hpk => by
              have h1 := HL.out
              have h2 := hmin.out k h0 hk hpk
              omega)
            exact ⟨_, L', rfl, (HQB.out _ HBwy.out).1, hdn, HB.out.1, HB.out.2.1, HB.out.2.2.1, HB.out.2.2.2.trans (HQB.out _ HBwy.out).2⟩
      · have d3 : decide (2 * (p : Int) + 1 + 1 < (n : Int)) = false := decide_eq_false (by omega)
        have d4 : decide (2 * (p : Int) + 2 < (n : Int)) = false := decide_eq_false (by omega)
        have HNN := Lib.hid (And.intro (Nat.lt_of_not_le hn) hle)
        have hmin : Hid (∀ k, 0 < k → k < n → (k - 1) / 2 = p → keyN farK L' (2 * p + 1) ≤ keyN farK L' k) := Lib.hid fun k h0 hk hpk => by
          have h1 : k = 2 * p + 1 := by omega
          rw [h1]; exact Nat.le_refl _
        clear hle
        by_cases hl : keyN farK L' (2 * p + 1) < keyN farK L' p
        · have HL := Lib.hid hl
          clear hl
          go_wp2_with (first
          | (refine wpList_inv (by rfl) (.tmp 35) "Less" [.tmp 36, .tmp 37] _ rfl _ _ rfl _ _ (m_less _ qb v (HC.out _ (Below.refl _ _))) Tryz.func225 (by kernel_rfl) (by kernel_rfl) _ rfl ?_
             refine (HLS.out (2 * p + 1) (p) _ _ true (by omega) (by omega) (by have := HNN.out; omega) (by have := HNN.out; omega) (by exact decide_eq_true HL.out) _ (Below.refl _ _)).mono ?_
             rintro e wy ⟨rfl, hbwy⟩
             have HBwy := Lib.hid hbwy
             clear hbwy
             refine ⟨_, rfl, ?_⟩)
          | (refine wpList_inv (by rfl) (.tmp 40) "Swap" [.tmp 41, .tmp 42] _ rfl _ _ rfl _ _ (m_swap _ qb v (HC.out _ HBwy.out)) Tryz.func227 (by kernel_rfl) (by kernel_rfl) _ rfl ?_
             refine (HSW.out p (2 * p + 1) _ _ rfl (by omega) (by have := HNN.out; omega) (by have := HNN.out; omega) _ HBwy.out).mono ?_
             rintro e wz ⟨rfl, hq3⟩
             have HS3 := Lib.hid hq3
             clear hq3
             refine ⟨_, rfl, ?_⟩))
          have hst := HD.out.step (j := 2 * p + 1) (by omega) (by have := HNN.out; omega) (by omega) HL.out hmin.out
          have hil : p < L'.length := by have := HNN.out; omega
          have hjl : 2 * p + 1 < L'.length := by have := HNN.out; omega
          have hkp : ∀ k, n ≤ k → (swL L' p (2 * p + 1))[k]? = L'[k]? := fun k hk => by rw [swL_at hil hjl, if_neg (by have := HNN.out; omega), if_neg (by have := HNN.out; omega)]
          have HF := Lib.hid (And.intro hst (And.intro (swL_mem hil hjl) hkp))
          have hjm : 2 * p + 1 ≤ 100000000 := by omega
          clear hst hil hjl hkp
          go_roundw
          case rel => exact ⟨2 * p + 1, swL L' p (2 * p + 1), by go_num, hjm, Lib.hid HS3.out.1, Lib.hid HF.out.1, by rw [swL_length]; exact hL', Lib.hid ⟨by rw [swL_length]; exact HB.out.1, fun x => (HF.out.2.1 x).trans (HB.out.2.1 x), fun k hk => (HF.out.2.2 k hk).trans (HB.out.2.2.1 k hk), HB.out.2.2.2.trans HS3.out.2⟩⟩
          case measure => simp [intOf]; omega
        · have HL := Lib.hid hl
          clear hl
          go_wp2_with (first
          | (refine wpList_inv (by rfl) (.tmp 35) "Less" [.tmp 36, .tmp 37] _ rfl _ _ rfl _ _ (m_less _ qb v (HC.out _ (Below.refl _ _))) Tryz.func225 (by kernel_rfl) (by kernel_rfl) _ rfl ?_
             refine (HLS.out (2 * p + 1) (p) _ _ false (by omega) (by omega) (by have := HNN.out; omega) (by have := HNN.out; omega) (by exact decide_eq_false HL.out) _ (Below.refl _ _)).mono ?_
             rintro e wy ⟨rfl, hbwy⟩
             have HBwy := Lib.hid hbwy
             clear hbwy
             refine ⟨_, rfl, ?_⟩))
          go_ret
          have hdn := HD.out.done (fun k h0 hk hpk => by
            have h1 := HL.out
            have h2 := hmin.out k h0 hk hpk
            omega)
          exact ⟨_, L', rfl, (HQB.out _ HBwy.out).1, hdn, HB.out.1, HB.out.2.1, HB.out.2.2.1, HB.out.2.2.2.trans (HQB.out _ HBwy.out).2⟩
end Go.Proofs.YtffgnjgphkdodaaGreatDoor
/- The walk of container/heap over delay's queue: Push, Pop, Fix. -/
namespace Go.Proofs.YtffgnjgphkdodaaGreatDoor
open Go Go.RowKit
set_option maxRecDepth 100000 in
set_option maxHeartbeats 1000000 in
theorem hleaf_calls (qb : Nat) (n i : Nat) (w : World) (hn : n ≤ 2 * i + 1) (hi : i ≤ 100000000) :
    Calls Tryz.prog 156 #[.iface 171 (.pointer (some ⟨qb, 0, none⟩)), .int .i64 (i : Int), .int .i64 (n : Int)] w fun e w' => e = .returned (.bool false) ∧ Below w.heap.size w w' := by
  have hp0 : (0 : Int) ≤ (i : Int) := by omega
  have hp1 : (i : Int) ≤ 100000000 := by omega
  have d1 : decide ((n : Int) ≤ 2 * (i : Int) + 1) = true := decide_eq_true (by omega)
  clear hn hi
  go_enter Tryz.func156, Tryz.ntmps156
  go_wp2
  go_loopw [7] (fun v7 wr => v7 = .int .i64 (i : Int) ∧ Below w.heap.size w wr) (fun v7 _ => 0)
  case atStart => exact ⟨rfl, Below.refl _ _⟩
  case round =>
    obtain ⟨rfl, hb⟩ := hrel
    go_wp2
    go_ret
    exact ⟨ret_bool (by simp), hb⟩
set_option maxRecDepth 100000 in
set_option maxHeartbeats 1000000 in
theorem hpush_calls (R : Nat → Prop) (qb : Nat) (L : List Spot) (s : Spot) (w : World) (h : Qs R w qb L) (hh : HpN farK L L.length) (hL : L.length < 100000000) :
    Calls Tryz.prog 104 #[.iface 171 (.pointer (some ⟨qb, 0, none⟩)), .iface 176 (.agg #[.int .i64 (s.1 : Int), .int .i64 (s.2 : Int)])] w fun e w' => e = .returned (.tuple #[]) ∧ ∃ L', Qs R w' qb L' ∧ HpN farK L' L'.length ∧ L'.length = L.length + 1 ∧ (∀ x, x ∈ L' ↔ x ∈ L ∨ x = s) ∧ KeepR R w w' := by
  have HP := Lib.hid (qpush_calls R qb L s w h (by omega))
  have HU := Lib.hid (UpOk.of_last (x := s) hh)
  have hl0 : (0 : Int) ≤ (L.length : Int) := by omega
  have hl1 : (L.length : Int) < 100000000 := by omega
  have HLE := Lib.hid hL
  clear h hh hL
  go_enter Tryz.func104, Tryz.ntmps104
  go_wp2_with (first
    | (refine wpList_inv (by rfl) (.tmp 4) "Push" [.tmp 5] _ rfl _ _ rfl _ _ (m_push _ qb) Tryz.func105 (by kernel_rfl) (by kernel_rfl) _ rfl ?_
       refine (HP.out).mono ?_
       rintro e w1 ⟨rfl, hq1, hb1⟩
       have HQ := Lib.hid hq1
       have HB := Lib.hid hb1
       obtain ⟨v, hbk, how, -⟩ := hq1.ex
       have b0 := hbk.cell 0
       obtain ⟨A, c, rfl, -⟩ := own_slice how
       have HUC := Lib.hid (hup_calls R qb (L ++ [s]) L.length w1 HQ.out HU.out (by have := HLE.out; simp; omega))
       simp only [List.length_append, List.length_singleton] at b0
       clear hq1 hb1 hbk how
       refine ⟨_, rfl, ?_⟩)
    | (refine wpList_inv (by rfl) (.tmp 8) "Len" [] _ rfl _ _ rfl _ _ (m_len _ qb _ b0) Tryz.func106 (by kernel_rfl) (by kernel_rfl) _ rfl ?_
       refine (qlen_calls _ _ _ _).mono ?_
       rintro e w2 ⟨rfl, rfl⟩
       refine ⟨_, rfl, ?_⟩)
    | (go_at_call 155
       refine (HUC.out).mono ?_
       rintro e w3 ⟨rfl, L', h1, h2, h3, h4, h5⟩
       have HF := Lib.hid (And.intro h1 (And.intro h2 (And.intro h3 (And.intro h4 h5))))
       clear h1 h2 h3 h4 h5))
  go_end0
  obtain ⟨h1, h2, h3, h4, h5⟩ := HF.out
  exact ⟨rfl, L', h1, h2, by rw [h3]; simp, fun x => by rw [h4 x]; simp, HB.out.trans h5⟩
/-- What is taken off a heap: the last, the first having been changed with it. -/
theorem heap_top {L L3 : List Spot} {m : Nat} (hm : L.length = m + 1) (h3 : L3.length = (swL L 0 m).length) (hmem : ∀ x, x ∈ L3 ↔ x ∈ swL L 0 m) (hk : ∀ k, m ≤ k → L3[k]? = (swL L 0 m)[k]?) :
    ∃ s, L[0]? = some s ∧ L3 = L3.take m ++ [s] ∧ (∀ x, x ∈ L ↔ x ∈ L3.take m ∨ x = s) ∧ (L3.take m).length = m := by
  have h0 : 0 < L.length := by omega
  have hml : m < L.length := by omega
  rw [swL_length] at h3
  refine ⟨L[0], List.getElem?_eq_getElem h0, ?_, ?_, by rw [List.length_take]; omega⟩
  · have e : L3[m]? = some L[0] := by rw [hk m (Nat.le_refl _), swL_at h0 hml, if_pos rfl, List.getElem?_eq_getElem h0]
    have hlt : m < L3.length := by omega
    have e2 : L3[m] = L[0] := by rw [List.getElem?_eq_getElem hlt] at e; injection e
    have h5 := List.take_succ_eq_append_getElem hlt
    rw [List.take_of_length_le (by omega)] at h5
    rw [← e2]; exact h5
  · intro x
    have e : L3[m]? = some L[0] := by rw [hk m (Nat.le_refl _), swL_at h0 hml, if_pos rfl, List.getElem?_eq_getElem h0]
    have hlt : m < L3.length := by omega
    have e2 : L3[m] = L[0] := by rw [List.getElem?_eq_getElem hlt] at e; injection e
    have h5 := List.take_succ_eq_append_getElem hlt
    rw [List.take_of_length_le (by omega)] at h5
    have h6 := hmem x
    rw [swL_mem h0 hml] at h6
    rw [← h6, ← e2]
    constructor
    · intro hx
      rw [h5, List.mem_append, List.mem_singleton] at hx
      exact hx
    · intro hx
      rw [h5, List.mem_append, List.mem_singleton]
      exact hx
set_option maxRecDepth 100000 in
set_option maxHeartbeats 1000000 in
theorem hpop_calls (R : Nat → Prop) (qb : Nat) (L : List Spot) (w : World) (h : Qs R w qb L) (hh : HpN farK L L.length) (hL : L.length ≤ 100000000) (hne : 0 < L.length) :
    Calls Tryz.prog 107 #[.iface 171 (.pointer (some ⟨qb, 0, none⟩))] w fun e w' => ∃ (s : Spot) (L' : List Spot), e = .returned (.iface 176 (.agg #[.int .i64 (s.1 : Int), .int .i64 (s.2 : Int)])) ∧ Qs R w' qb L' ∧ HpN farK L' L'.length ∧ L'.length + 1 = L.length ∧ (∀ x, x ∈ L ↔ x ∈ L' ∨ x = s) ∧ (∀ x ∈ L, s.2 ≤ x.2) ∧ KeepR R w w' := by
  obtain ⟨v, hbk, how, hrr⟩ := h.ex
  have HRR := Lib.hid hrr
  clear hrr
  obtain ⟨m, hm⟩ : ∃ m, L.length = m + 1 := ⟨L.length - 1, by omega⟩
  have b0 := hbk.cell 0
  have hs := fun w1 (hw1 : Below w.heap.size w w1) => qswap_calls 0 v L 0 m w1 (qown_below hbk how hw1).2 (by omega) (by omega)
  rw [show ((0 : Nat) : Int) = 0 from rfl] at hs
  have HSW := Lib.hid hs
  have HH := Lib.hid hh
  have HM := Lib.hid hm
  have hml : m < 100000000 := by omega
  have hm0 : (0 : Int) ≤ m := by omega
  have hm1 : (m : Int) < 100000000 := by omega
  obtain ⟨A, c, rfl, -⟩ := own_slice how
  rw [hm] at b0 HSW hbk how HRR
  have HBK := Lib.hid (And.intro hbk how)
  clear hbk how hs hh hm h hL hne
  go_enter Tryz.func107, Tryz.ntmps107
  go_wp2_with (first
    | (refine wpList_inv (by rfl) (.tmp 4) "Len" [] _ rfl _ _ rfl _ _ (m_len _ qb _ b0) Tryz.func106 (by kernel_rfl) (by kernel_rfl) _ rfl ?_
       refine (qlen_calls _ _ _ _).mono ?_
       rintro e w2 ⟨rfl, rfl⟩
       refine ⟨_, rfl, ?_⟩)
    | (refine wpList_inv (by rfl) (.tmp 7) "Swap" [.const (.int .i64 0), .tmp 8] _ rfl _ _ rfl _ _ (m_swap _ qb _ b0) Tryz.func227 (by kernel_rfl) (by kernel_rfl) _ rfl ?_
       refine (HSW.out _ (Below.refl _ _)).mono ?_
       rintro e w3 ⟨rfl, ho3, hg3⟩
       obtain ⟨hq3, hk3⟩ := Qs.swapped HBK.out.1 HBK.out.2 HRR.out (Below.refl _ _) ho3 hg3
       have HQ3 := Lib.hid hq3
       have HB3 := Lib.hid hk3
       have hdn := (hdown_calls R qb (swL L 0 m) m 0 w3 HQ3.out (DnOk.of_swap HH.out HM.out) (by rw [swL_length, HM.out]; omega) (by omega))
       rw [show ((0 : Nat) : Int) = 0 from rfl] at hdn
       have HD := Lib.hid hdn
       clear ho3 hg3 hq3 hk3 hdn
       refine ⟨_, rfl, ?_⟩)
    | (go_at_call 156
       refine (HD.out).mono ?_
       rintro e w4 ⟨bv, L3, rfl, h1, h2, h3, h4, h5, h6⟩
       obtain ⟨s, s1, s2, s3, s4⟩ := heap_top HM.out h3 h4 h5
       rw [s2] at h1
       have HP := Lib.hid (qpop_calls R qb (L3.take m) s w4 h1)
       have HF := Lib.hid (And.intro s1 (And.intro s3 (And.intro s4 (And.intro h2 h6))))
       clear s1 s2 s3 s4 h1 h2 h3 h4 h5 h6)
    | (refine wpList_inv (by rfl) (.tmp 13) "Pop" [] _ rfl _ _ rfl _ _ (m_pop _ qb) Tryz.func226 (by kernel_rfl) (by kernel_rfl) _ rfl ?_
       refine (HP.out).mono ?_
       rintro e w5 ⟨rfl, hq5, hb5⟩
       have HQ5 := Lib.hid (And.intro hq5 hb5)
       clear hq5 hb5
       refine ⟨_, rfl, ?_⟩))
  go_ret
  obtain ⟨s1, s3, s4, h2, h6⟩ := HF.out
  refine ⟨s, L3.take m, rfl, HQ5.out.1, ?_, by rw [s4, HM.out], s3, ?_, (HB3.out.trans h6).trans HQ5.out.2⟩
  · rw [s4]
    exact h2.take rfl
  · intro x hx
    obtain ⟨k, hk⟩ := List.mem_iff_getElem?.1 hx
    have := HH.out.least k (by have := (List.getElem?_eq_some_iff.1 hk).1; omega)
    rw [keyN_of s1, keyN_of hk] at this
    exact this
set_option maxRecDepth 100000 in
set_option maxHeartbeats 1000000 in
theorem hfix_calls (R : Nat → Prop) (qb : Nat) (L : List Spot) (m : Nat) (w : World) (h : Qs R w qb L) (hm : L.length = m + 1) (hu : UpOk farK L m) (hL : L.length ≤ 100000000) :
    Calls Tryz.prog 108 #[.iface 171 (.pointer (some ⟨qb, 0, none⟩)), .int .i64 (m : Int)] w fun e w' => e = .returned (.tuple #[]) ∧ ∃ L', Qs R w' qb L' ∧ HpN farK L' L'.length ∧ L'.length = L.length ∧ (∀ x, x ∈ L' ↔ x ∈ L) ∧ KeepR R w w' := by
  obtain ⟨v, hbk, how, hrr⟩ := h.ex
  have b0 := hbk.cell 0
  have HLF := Lib.hid (hleaf_calls qb (m + 1) m w (by omega) (by omega))
  have HUP := Lib.hid (fun w1 (hw1 : Below w.heap.size w w1) => hup_calls R qb L m w1 (h.below hw1).1 hu hL)
  obtain ⟨A, c, rfl, -⟩ := own_slice how
  rw [hm] at b0
  have HBK := Lib.hid (fun w1 (hw1 : Below w.heap.size w w1) => (h.below hw1).2)
  have HM := Lib.hid hm
  clear hbk how hm h hu hrr
  go_enter Tryz.func108, Tryz.ntmps108
  go_wp2_with (first
    | (refine wpList_inv (by rfl) (.tmp 6) "Len" [] _ rfl _ _ rfl _ _ (m_len _ qb _ b0) Tryz.func106 (by kernel_rfl) (by kernel_rfl) _ rfl ?_
       refine (qlen_calls _ _ _ _).mono ?_
       rintro e w2 ⟨rfl, rfl⟩
       refine ⟨_, rfl, ?_⟩)
    | (go_at_call 156
       refine (HLF.out).mono ?_
       rintro e w4 ⟨rfl, hb4⟩
       have HB4 := Lib.hid hb4
       clear hb4)
    | (go_at_call 155
       refine (HUP.out _ HB4.out).mono ?_
       rintro e w5 ⟨rfl, L', h1, h2, h3, h4, h5⟩
       have HF := Lib.hid (And.intro h1 (And.intro h2 (And.intro h3 (And.intro h4 h5))))
       clear h1 h2 h3 h4 h5))
  go_end0
  obtain ⟨h1, h2, h3, h4, h5⟩ := HF.out
  exact ⟨rfl, L', h1, h2, h3, h4, (HBK.out _ HB4.out).trans h5⟩
end Go.Proofs.YtffgnjgphkdodaaGreatDoor
