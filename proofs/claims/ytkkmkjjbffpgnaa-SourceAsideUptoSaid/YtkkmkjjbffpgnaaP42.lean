import Derived.Test.YtkkmkjjbffpgnaaP41
import Derived.Test.YtkkmkjjbffpgnaaP05
import Derived.Test.YtkkmkjjbffpgnaaP08
import Derived.LoopTactic
/- The walk of sharing.doings: what a thread does, as maps of counts. -/
namespace Go.Proofs.Ytkkmkjjbffpgnaa
open Go Go.RowKit
/-- What doings hands out. -/
structure DoMem (w : World) (g : Graph) (k : Nat) (br bw bl : Nat) : Prop where
  mr : MapIs iv decInt w br (cntF g rdB k)
  mw : MapIs iv decInt w bw (cntF g wrB k)
  ml : MapIs iv decInt w bl (cntF g lkB k)
theorem DoMem.keep {w w' : World} {g : Graph} {k br bw bl : Nat} (h : DoMem w g k br bw bl) (hk : ∀ b, b = br ∨ b = bw ∨ b = bl → w'.heap[b]? = w.heap[b]?) : DoMem w' g k br bw bl :=
  ⟨h.mr.keep (hk _ (.inl rfl)), h.mw.keep (hk _ (.inr (.inl rfl))), h.ml.keep (hk _ (.inr (.inr rfl)))⟩
theorem DoMem.alloc {w : World} {g : Graph} {k br bw bl : Nat} (h : DoMem w g k br bw bl) (o : Obj) : DoMem (w.alloc o) g k br bw bl := ⟨h.mr.alloc o, h.mw.alloc o, h.ml.alloc o⟩
theorem DoMem.no {w : World} {g : Graph} {k br bw bl : Nat} {n : Node} (h : DoMem w g k br bw bl) (hn : g.nodes[k]? = some n) (hk : ¬ ReachC g (-1) k ∨ (rdB n = false ∧ wrB n = false ∧ lkB n = false)) : DoMem w g (k + 1) br bw bl := by
  have e : ∀ p, (¬ ReachC g (-1) k ∨ p n = false) → cntF g p (k + 1) = cntF g p k := fun p hp => cntF_no hn hp
  have h1 := e rdB (hk.imp_right (·.1))
  have h2 := e wrB (hk.imp_right (·.2.1))
  have h3 := e lkB (hk.imp_right (·.2.2))
  exact ⟨by rw [h1]; exact h.mr, by rw [h2]; exact h.mw, by rw [h3]; exact h.ml⟩
theorem DoMem.bump_r {w w6 : World} {g : Graph} {k br bw bl : Nat} {n : Node} (h : DoMem w g k br bw bl) (hn : g.nodes[k]? = some n) (hr : ReachC g (-1) k) (h1 : rdB n = true) (h2 : wrB n = false) (h3 : lkB n = false)
    (hm : MapIs iv decInt w6 br (fun x => if x = n.thing then some (.int .i64 ((cntN g (atP rdB n.thing) k : Nat) + 1)) else cntF g rdB k x)) (hg : w.grownBy w6 (some br)) (e1 : bw ≠ br) (e2 : bl ≠ br) : DoMem w6 g (k + 1) br bw bl :=
  ⟨by rw [cntF_yes hn hr h1]; exact hm, by rw [cntF_no hn (.inr h2)]; exact h.mw.grown hg (fun e => e1 (by injection e)), by rw [cntF_no hn (.inr h3)]; exact h.ml.grown hg (fun e => e2 (by injection e))⟩
theorem DoMem.bump_w {w w6 : World} {g : Graph} {k br bw bl : Nat} {n : Node} (h : DoMem w g k br bw bl) (hn : g.nodes[k]? = some n) (hr : ReachC g (-1) k) (h1 : rdB n = false) (h2 : wrB n = true) (h3 : lkB n = false)
    (hm : MapIs iv decInt w6 bw (fun x => if x = n.thing then some (.int .i64 ((cntN g (atP wrB n.thing) k : Nat) + 1)) else cntF g wrB k x)) (hg : w.grownBy w6 (some bw)) (e1 : br ≠ bw) (e2 : bl ≠ bw) : DoMem w6 g (k + 1) br bw bl :=
  ⟨by rw [cntF_no hn (.inr h1)]; exact h.mr.grown hg (fun e => e1 (by injection e)), by rw [cntF_yes hn hr h2]; exact hm, by rw [cntF_no hn (.inr h3)]; exact h.ml.grown hg (fun e => e2 (by injection e))⟩
theorem DoMem.bump_l {w w6 : World} {g : Graph} {k br bw bl : Nat} {n : Node} (h : DoMem w g k br bw bl) (hn : g.nodes[k]? = some n) (hr : ReachC g (-1) k) (h1 : rdB n = false) (h2 : wrB n = false) (h3 : lkB n = true)
    (hm : MapIs iv decInt w6 bl (fun x => if x = n.thing then some (.int .i64 ((cntN g (atP lkB n.thing) k : Nat) + 1)) else cntF g lkB k x)) (hg : w.grownBy w6 (some bl)) (e1 : br ≠ bl) (e2 : bw ≠ bl) : DoMem w6 g (k + 1) br bw bl :=
  ⟨by rw [cntF_no hn (.inr h1)]; exact h.mr.grown hg (fun e => e1 (by injection e)), by rw [cntF_no hn (.inr h2)]; exact h.mw.grown hg (fun e => e2 (by injection e)), by rw [cntF_yes hn hr h3]; exact hm⟩
theorem DoMem.bump_rw {w w6 w7 : World} {g : Graph} {k br bw bl : Nat} {n : Node} (h : DoMem w g k br bw bl) (hn : g.nodes[k]? = some n) (hr : ReachC g (-1) k) (h1 : rdB n = true) (h2 : wrB n = true) (h3 : lkB n = false)
    (hm : MapIs iv decInt w6 br (fun x => if x = n.thing then some (.int .i64 ((cntN g (atP rdB n.thing) k : Nat) + 1)) else cntF g rdB k x)) (hg : w.grownBy w6 (some br))
    (hm7 : MapIs iv decInt w7 bw (fun x => if x = n.thing then some (.int .i64 ((cntN g (atP wrB n.thing) k : Nat) + 1)) else cntF g wrB k x)) (hg7 : w6.grownBy w7 (some bw)) (e1 : br ≠ bw) (e2 : bl ≠ bw) (e3 : bl ≠ br) : DoMem w7 g (k + 1) br bw bl :=
  ⟨by rw [cntF_yes hn hr h1]; exact hm.grown hg7 (fun e => e1 (by injection e)), by rw [cntF_yes hn hr h2]; exact hm7, by rw [cntF_no hn (.inr h3)]; exact (h.ml.grown hg (fun e => e3 (by injection e))).grown hg7 (fun e => e2 (by injection e))⟩
theorem cntF_get (g : Graph) (p : Node → Bool) (k : Nat) (x : Int) : (cntF g p k x).getD (.int .i64 0) = .int .i64 (cntN g (atP p x) k : Nat) := cntV_get _
/-- Blocks of S stand. -/
def KeptOn (S : Nat → Prop) (w1 wr : World) : Prop := w1.heap.size ≤ wr.heap.size ∧ ∀ b, S b → b < w1.heap.size → wr.heap[b]? = w1.heap[b]?
theorem KeptOn.refl (S : Nat → Prop) (w : World) : KeptOn S w w := ⟨Nat.le_refl _, fun _ _ _ => rfl⟩
theorem KeptOn.le {S : Nat → Prop} {w1 wr : World} (h : KeptOn S w1 wr) : (on w1 S).le (cmap wr) := (on_keep h.2 (fun _ h => h)).trans (on_le wr S)
theorem KeptOn.alloc {S : Nat → Prop} {w1 wr : World} (h : KeptOn S w1 wr) (o : Obj) : KeptOn S w1 (wr.alloc o) := ⟨by simp; exact Nat.le_succ_of_le h.1, fun b hS hb => (Below.heap_alloc wr o b (Nat.lt_of_lt_of_le hb h.1)).trans (h.2 b hS hb)⟩
theorem KeptOn.setCell {S : Nat → Prop} {w1 wr : World} (h : KeptOn S w1 wr) {p : Addr} (hp : ¬ S p.block) (v : Value) : KeptOn S w1 (wr.setCell p v) := ⟨by simp [World.setCell]; exact h.1, fun b hS hb => (Below.heap_setCell _ _ _ _ (fun e => hp (e ▸ hS))).trans (h.2 b hS hb)⟩
theorem KeptOn.grown {S : Nat → Prop} {w1 wr w6 : World} {row : Option Nat} (h : KeptOn S w1 wr) (hg : wr.grownBy w6 row) (q : Nat) (hq : row = some q) (hS : ¬ S q) : KeptOn S w1 w6 :=
  ⟨Nat.le_trans h.1 hg.size, fun b hb hl => (hg.block b (Nat.lt_of_lt_of_le hl h.1) (fun e => hS (by rw [hq] at e; injection e with e; exact e ▸ hb))).trans (h.2 b hb hl)⟩
def S7 (B : Nat) : Nat → Prop := fun b => b < B ∨ B + 6 < b
theorem part_belowL0 {w w1 : World} (h : Below w.heap.size w w1) : (part w 0 w.heap.size).le (part w1 0 w.heap.size) := part_keep fun b _ hb => h.block b hb
theorem z_int (w : World) : (zeroValue 3).run Try.prog w = .ok (.int .i64 0) w := by kernel_rfl
set_option maxRecDepth 100000 in
set_option maxHeartbeats 8000000 in
theorem doings_calls (u : Unit_) (cs : List Value) (t : Nat) (g : Graph) (w : World) (hu : UnitV (cmap w) cs u) (hgt : u.graphs[t]? = some g) (hw : WholeG g) :
    Calls Try.prog 66 #[.agg cs.toArray, .int .i64 t] w fun e w' => ∃ br bw bl, e = .returned (.agg #[.map (some br), .map (some bw), .map (some bl), .bool (anyN g prB)]) ∧ DoMem w' g g.nodes.length br bw bl ∧ w.heap.size ≤ br ∧ w.heap.size ≤ bw ∧ w.heap.size ≤ bl ∧ Below w.heap.size w w' := by
  obtain ⟨sv, lv, gv, rfl, -, -, hg⟩ := hu
  obtain ⟨gA, gc, rfl, -⟩ := id hg
  have bg := hg.len.2.2
  obtain ⟨gb, go_, rfl, gcs, hgv, hgc⟩ := hg.at_ hgt
  have hgv0 := hgv
  obtain ⟨nv, rfl, hns⟩ := hgv
  obtain ⟨nA, nc, rfl, -⟩ := id hns
  have htl := (List.getElem?_eq_some_iff.1 hgt).1
  have t0 : (0 : Int) ≤ t := by omega
  have t1 : (t : Int) < u.graphs.length := by omega
  have hmost := hw.most
  clear hgt
  have hB0 : Below w.heap.size w ((((((w.alloc (.cells #[sv, lv, .slice (some ⟨gb, go_, none⟩) u.graphs.length gc] 25)).alloc (.cells #[.map none, .map none, .map none, .bool false] 137)).alloc (.map #[] 0)).alloc (.map #[] 0)).alloc (.map #[] 0)).alloc (.cells #[.map (some (w.heap.size + 1 + 1)), .map (some (w.heap.size + 1 + 1 + 1)), .map (some (w.heap.size + 1 + 1 + 1 + 1)), .bool false] 137)) := ((((((Below_alloc' w _).alloc (by simp) _).alloc (by simp; omega) _).alloc (by simp; omega) _).alloc (by simp; omega) _).alloc (by simp; omega) _)
  have HLG : Hid (∀ j v, ([.string g.name, .int .i64 g.locals, .int .i64 g.slots, .slice nA g.nodes.length nc] : List Value)[j]? = some v → ((((((w.alloc (.cells #[sv, lv, .slice (some ⟨gb, go_, none⟩) u.graphs.length gc] 25)).alloc (.cells #[.map none, .map none, .map none, .bool false] 137)).alloc (.map #[] 0)).alloc (.map #[] 0)).alloc (.map #[] 0)).alloc (.cells #[.map (some (w.heap.size + 1 + 1)), .map (some (w.heap.size + 1 + 1 + 1)), .map (some (w.heap.size + 1 + 1 + 1 + 1)), .bool false] 137)).cell? ⟨gb, go_ + t * 4 + j, none⟩ = some v) := Lib.hid fun j v hj => cmap_below hB0 _ _ _ (hgc j v hj)
  clear hgc
  have hdo : DoMem ((((((w.alloc (.cells #[sv, lv, .slice (some ⟨gb, go_, none⟩) u.graphs.length gc] 25)).alloc (.cells #[.map none, .map none, .map none, .bool false] 137)).alloc (.map #[] 0)).alloc (.map #[] 0)).alloc (.map #[] 0)).alloc (.cells #[.map (some (w.heap.size + 1 + 1)), .map (some (w.heap.size + 1 + 1 + 1)), .map (some (w.heap.size + 1 + 1 + 1 + 1)), .bool false] 137)) g 0 (w.heap.size + 1 + 1) (w.heap.size + 1 + 1 + 1) (w.heap.size + 1 + 1 + 1 + 1) := by
    refine ⟨?_, ?_, ?_⟩
    · rw [cntF_zero]; exact (((MapIs.new _ _ (by simp)).alloc _).alloc _).alloc _
    · rw [cntF_zero]; exact ((MapIs.new _ _ (by simp)).alloc _).alloc _
    · rw [cntF_zero]; exact (MapIs.new _ _ (by simp)).alloc _
  have hbd : Blk ((((((w.alloc (.cells #[sv, lv, .slice (some ⟨gb, go_, none⟩) u.graphs.length gc] 25)).alloc (.cells #[.map none, .map none, .map none, .bool false] 137)).alloc (.map #[] 0)).alloc (.map #[] 0)).alloc (.map #[] 0)).alloc (.cells #[.map (some (w.heap.size + 1 + 1)), .map (some (w.heap.size + 1 + 1 + 1)), .map (some (w.heap.size + 1 + 1 + 1 + 1)), .bool false] 137)) (w.heap.size + 1 + 1 + 1 + 1 + 1) 137 [.map (some (w.heap.size + 1 + 1)), .map (some (w.heap.size + 1 + 1 + 1)), .map (some (w.heap.size + 1 + 1 + 1 + 1)), .bool false] := Blk.of (heap_new _ _ _ (by simp)) rfl
  have hbr : Blk ((((((w.alloc (.cells #[sv, lv, .slice (some ⟨gb, go_, none⟩) u.graphs.length gc] 25)).alloc (.cells #[.map none, .map none, .map none, .bool false] 137)).alloc (.map #[] 0)).alloc (.map #[] 0)).alloc (.map #[] 0)).alloc (.cells #[.map (some (w.heap.size + 1 + 1)), .map (some (w.heap.size + 1 + 1 + 1)), .map (some (w.heap.size + 1 + 1 + 1 + 1)), .bool false] 137)) (w.heap.size + 1) 137 [.map none, .map none, .map none, .bool false] := ((((Blk.of (heap_new _ _ _ (by simp)) rfl : Blk _ _ _ _).alloc _).alloc _).alloc _).alloc _
  have hs0 : ((((((w.alloc (.cells #[sv, lv, .slice (some ⟨gb, go_, none⟩) u.graphs.length gc] 25)).alloc (.cells #[.map none, .map none, .map none, .bool false] 137)).alloc (.map #[] 0)).alloc (.map #[] 0)).alloc (.map #[] 0)).alloc (.cells #[.map (some (w.heap.size + 1 + 1)), .map (some (w.heap.size + 1 + 1 + 1)), .map (some (w.heap.size + 1 + 1 + 1 + 1)), .bool false] 137)).heap.size = w.heap.size + 1 + 1 + 1 + 1 + 1 + 1 := by simp
  obtain ⟨wq, hwq⟩ : ∃ wq, ((((((w.alloc (.cells #[sv, lv, .slice (some ⟨gb, go_, none⟩) u.graphs.length gc] 25)).alloc (.cells #[.map none, .map none, .map none, .bool false] 137)).alloc (.map #[] 0)).alloc (.map #[] 0)).alloc (.map #[] 0)).alloc (.cells #[.map (some (w.heap.size + 1 + 1)), .map (some (w.heap.size + 1 + 1 + 1)), .map (some (w.heap.size + 1 + 1 + 1 + 1)), .bool false] 137)) = wq := ⟨_, rfl⟩
  rw [hwq] at hB0 hdo hbd hbr hs0
  have HWQ := Lib.hid hwq; clear hwq
  have hmm := @run_makeMap Try.prog
  go_enter Try.func66, Try.ntmps66
  go_wp2_with (first
    | (refine wpList_load_at rfl 70 _ rfl gb (go_ + t * 4) rfl _ _ HLG.out Try.underlying70 rfl (by kernel_rfl) ?_))
  rw [HWQ.out]
  have hbg : Blk (wq.alloc (.cells #[.string g.name, .int .i64 g.locals, .int .i64 g.slots, .slice nA g.nodes.length nc] 70)) (w.heap.size + 1 + 1 + 1 + 1 + 1 + 1) 70 [.string g.name, .int .i64 g.locals, .int .i64 g.slots, .slice nA g.nodes.length nc] := Blk.of (heap_new _ _ _ (by omega)) rfl
  refine (reached_calls g [.string g.name, .int .i64 g.locals, .int .i64 g.slots, .slice nA g.nodes.length nc] _ hw (hgv0.mono ((cmap_below hB0).trans (cmap_alloc _ _)))).mono ?_
  rintro e w1 ⟨rv, l, rfl, hl1, hl2, hl3, hb1⟩
  have hwq1 := (Below_alloc' wq (.cells #[.string g.name, .int .i64 g.locals, .int .i64 g.slots, .slice nA g.nodes.length nc] 70)).trans (hb1.mono (by simp))
  have hw1 : Below w.heap.size w w1 := hB0.trans (hwq1.mono hB0.size)
  have hdo1 : DoMem w1 g 0 (w.heap.size + 1 + 1) (w.heap.size + 1 + 1 + 1) (w.heap.size + 1 + 1 + 1 + 1) := hdo.keep fun b hb => hwq1.block b (by rcases hb with rfl | rfl | rfl <;> omega)
  have hbd1 := hbd.below hwq1 hbd.lt
  have hbr1 := hbr.below hwq1 hbr.lt
  have hbg1 := hbg.below hb1 hbg.lt
  have hlm : Bools (on w1 (S7 w.heap.size)) rv l := hl1.mono (part_on w1 (by intro b h1 h2; unfold S7; simp at h1; omega))
  have hns1 := hns.mono (((cmap_part w).trans (part_belowL0 hw1)).trans (part_on w1 (lo := 0) (hi := w.heap.size) (S := S7 w.heap.size) (by intro b h1 h2; unfold S7; omega)))
  obtain ⟨lA, lc, rfl, -⟩ := id hl1
  rw [hl2] at hlm ⊢
  have HL := Lib.hid hl3; clear hl3
  have HL2 := Lib.hid hl2; clear hl2
  have hs1 := hbg1.lt
  have NS := Lib.hid hns1
  clear hdo hbd hbr hbg hl1 hb1 hwq1 HLG hns HWQ hs0 hB0 hgv0
  go_wp2_with fail
  clear hns1
  go_loopw [22] (fun v22 wr => ∃ k : Nat, v22 = .int .i64 k ∧ k ≤ g.nodes.length ∧ (DoMem wr g k (w.heap.size + 1 + 1) (w.heap.size + 1 + 1 + 1) (w.heap.size + 1 + 1 + 1 + 1) ∧ Blk wr (w.heap.size + 1 + 1 + 1 + 1 + 1) 137 [.map (some (w.heap.size + 1 + 1)), .map (some (w.heap.size + 1 + 1 + 1)), .map (some (w.heap.size + 1 + 1 + 1 + 1)), .bool (decide (0 < cntN g prB k))]) ∧ (Blk wr (w.heap.size + 1) 137 [.map none, .map none, .map none, .bool false] ∧ Blk wr (w.heap.size + 1 + 1 + 1 + 1 + 1 + 1) 70 [.string g.name, .int .i64 g.locals, .int .i64 g.slots, .slice nA g.nodes.length nc]) ∧ Below w.heap.size w wr ∧ KeptOn (S7 w.heap.size) w1 wr) (fun v22 _ => g.nodes.length - (intOf v22).toNat)
  case atStart => exact ⟨0, rfl, by omega, ⟨hdo1, hbd1⟩, ⟨hbr1, hbg1⟩, hw1, KeptOn.refl _ _⟩
  case round =>
    obtain ⟨k, rfl, hk, ⟨hdo, hbd⟩, ⟨hbr, hbg⟩, hbel, hkp⟩ := hrel
    clear hdo1 hbd1 hbr1 hbg1
    obtain ⟨pq, hpq⟩ : ∃ q, decide (0 < cntN g prB k) = q := ⟨_, rfl⟩
    rw [hpq] at hbd
    have HPQ := Lib.hid hpq; clear hpq
    have hbs := hbel.size
    have g3 := hbg.cell 3
    have hgl := hbg.lt
    by_cases hlt : k < g.nodes.length
    · obtain ⟨nd, hnd⟩ : ∃ nd, g.nodes[k]? = some nd := ⟨_, List.getElem?_eq_getElem hlt⟩
      obtain ⟨b, hb, hbi⟩ := bool_of_reach HL2.out HL.out hlt
      obtain ⟨lb, lo, rfl, hlcell⟩ := hlm.at_ hb
      have g2 : wr.cell? ⟨lb, lo + k, none⟩ = some (.bool b) := by have := hkp.le _ _ _ hlcell; rw [Nat.mul_one] at this; exact this
      obtain ⟨nb, no, rfl, hnc⟩ := (NS.out).at_ hnd
      have HLDn : Hid (∀ j v, nd.cells[j]? = some v → wr.cell? ⟨nb, no + k * 13 + j, none⟩ = some v) := Lib.hid fun j v hj => hkp.le _ _ _ (hnc j v hj)
      have HB := Lib.hid hbi; clear hbi
      have bn := Blk.new wr 67 nd.cells
      have n0 := bn.cell 0
      have n3 := bn.cell 3
      have HND := Lib.hid hnd; clear hnd
      have k0 : (0 : Int) ≤ k := by omega
      have k1 : (k : Int) < g.nodes.length := by omega
      have hck : ∀ p, cntN g p k ≤ 4096 := fun p => by have := cntN_le g p k; omega
      have HCK := Lib.hid hck; clear hck
      clear hb hlcell hnc
      have hdA := hdo.alloc (.cells nd.cells.toArray 67)
      have hbdA := hbd.alloc (.cells nd.cells.toArray 67)
      have hbrA := hbr.alloc (.cells nd.cells.toArray 67)
      have hbgA := hbg.alloc (.cells nd.cells.toArray 67)
      have hbeA := hbel.alloc hbs (.cells nd.cells.toArray 67)
      have hkA := hkp.alloc (.cells nd.cells.toArray 67)
      have HBN := Lib.hid bn; clear bn
      have d0 := hbdA.cell 0
      have d1 := hbdA.cell 1
      have d2 := hbdA.cell 2
      have d3 := hbdA.cell 3
      have f3 := hbdA.frozen 3
      have HDA := Lib.hid hdA; clear hdA
      unfold Node.cells at HLDn n0 n3 hbdA hbrA hbgA hbeA hkA d0 d1 d2 d3 f3 HDA
      clear hdo hbd hbr hbg hbel hkp
      by_cases hbt : b = true
      · subst hbt
        have HRE := Lib.hid (HB.out.1 rfl)
        by_cases h2 : nd.kind = 2
        · have e2 : (nd.kind == 2) = true := by simp [h2]
          have HK := Lib.hid h2; clear h2
          go_wp2_with (first | (refine wpList_load_at rfl 67 _ rfl nb (no + k * 13) rfl _ _ HLDn.out Try.underlying67 rfl (by kernel_rfl) ?_) | (refine stop_lookup rfl ?_))
          refine Stop.intro ?_
          refine wp_lookup key_i Try.underlying135 rfl _ _ rfl (w.heap.size + 1 + 1) (cntF g rdB k) HDA.out.mr nd.thing rfl rfl (.int .i64 0) (z_int _) ?_
          rw [cntF_get]
          have hcr := HCK.out (atP rdB nd.thing)
          go_wp2_with (refine stop_update rfl ?_)
          refine Stop.intro ?_
          refine wp_update key_i Try.underlying135 rfl _ _ _ (.inl rfl) (w.heap.size + 1 + 1) (cntF g rdB k) HDA.out.mr nd.thing (.int .i64 ((cntN g (atP rdB nd.thing) k : Nat) + 1)) rfl rfl rfl ?_
          intro w6 hm6 hg6
          have hs_w6 := hg6.size
          have hdo6 := HDA.out.bump_r HND.out HRE.out (by unfold rdB; simp [HK.out]) (by unfold wrB; simp [HK.out]) (by unfold lkB; simp [HK.out]) hm6 hg6 (by omega) (by omega)
          have hpr6 : decide (0 < cntN g prB (k + 1)) = pq := by rw [cntN_no HND.out (.inr (by unfold prB; simp [HK.out])), HPQ.out]
          have hbd6 := hbdA.grown hg6 (fun e => by injection e with e; omega)
          have hbr6 := hbrA.grown hg6 (fun e => by injection e with e; omega)
          have hbg6 := hbgA.grown hg6 (fun e => by injection e with e; omega)
          have hbe6 := hbeA.grown hg6 (by simp; omega) (fun q e => by injection e with e; omega)
          have hk6 := hkA.grown hg6 (w.heap.size + 1 + 1) rfl (by unfold S7; omega)
          have HD6 := Lib.hid hdo6; have HP6 := Lib.hid hpr6; have HB6 := Lib.hid hbd6
          clear hdo6 hpr6 hbd6 hm6
          go_wp2_with fail
          go_roundw
          case rel => exact ⟨k + 1, by go_num, by omega, ⟨HD6.out, by rw [HP6.out]; exact HB6.out⟩, ⟨hbr6, hbg6⟩, hbe6, hk6⟩
          case measure => simp [intOf]; omega
        · have e2 : (nd.kind == 2) = false := by simp [h2]
          by_cases h3 : nd.kind = 3
          · have e3 : (nd.kind == 3) = true := by simp [h3]
            have HK := Lib.hid h3; clear h2 h3
            go_wp2_with (first | (refine wpList_load_at rfl 67 _ rfl nb (no + k * 13) rfl _ _ HLDn.out Try.underlying67 rfl (by kernel_rfl) ?_) | (refine stop_lookup rfl ?_))
            refine Stop.intro ?_
            refine wp_lookup key_i Try.underlying135 rfl _ _ rfl (w.heap.size + 1 + 1 + 1) (cntF g wrB k) HDA.out.mw nd.thing rfl rfl (.int .i64 0) (z_int _) ?_
            rw [cntF_get]
            have hcw := HCK.out (atP wrB nd.thing)
            go_wp2_with (refine stop_update rfl ?_)
            refine Stop.intro ?_
            refine wp_update key_i Try.underlying135 rfl _ _ _ (.inl rfl) (w.heap.size + 1 + 1 + 1) (cntF g wrB k) HDA.out.mw nd.thing (.int .i64 ((cntN g (atP wrB nd.thing) k : Nat) + 1)) rfl rfl rfl ?_
            intro w6 hm6 hg6
            have hs_w6 := hg6.size
            have hdo6 := HDA.out.bump_w HND.out HRE.out (by unfold rdB; simp [HK.out]) (by unfold wrB; simp [HK.out]) (by unfold lkB; simp [HK.out]) hm6 hg6 (by omega) (by omega)
            have hpr6 : decide (0 < cntN g prB (k + 1)) = pq := by rw [cntN_no HND.out (.inr (by unfold prB; simp [HK.out])), HPQ.out]
            have hbd6 := hbdA.grown hg6 (fun e => by injection e with e; omega)
            have hbr6 := hbrA.grown hg6 (fun e => by injection e with e; omega)
            have hbg6 := hbgA.grown hg6 (fun e => by injection e with e; omega)
            have hbe6 := hbeA.grown hg6 (by simp; omega) (fun q e => by injection e with e; omega)
            have hk6 := hkA.grown hg6 (w.heap.size + 1 + 1 + 1) rfl (by unfold S7; omega)
            have HD6 := Lib.hid hdo6; have HP6 := Lib.hid hpr6; have HB6 := Lib.hid hbd6
            clear hdo6 hpr6 hbd6 hm6
            go_wp2_with fail
            go_roundw
            case rel => exact ⟨k + 1, by go_num, by omega, ⟨HD6.out, by rw [HP6.out]; exact HB6.out⟩, ⟨hbr6, hbg6⟩, hbe6, hk6⟩
            case measure => simp [intOf]; omega
          · have e3 : (nd.kind == 3) = false := by simp [h3]
            by_cases h4 : nd.kind = 4
            · have e4 : (nd.kind == 4) = true := by simp [h4]
              have HK := Lib.hid h4; clear h2 h3 h4
              go_wp2_with (first | (refine wpList_load_at rfl 67 _ rfl nb (no + k * 13) rfl _ _ HLDn.out Try.underlying67 rfl (by kernel_rfl) ?_) | (refine stop_lookup rfl ?_))
              refine Stop.intro ?_
              refine wp_lookup key_i Try.underlying135 rfl _ _ rfl (w.heap.size + 1 + 1) (cntF g rdB k) HDA.out.mr nd.thing rfl rfl (.int .i64 0) (z_int _) ?_
              rw [cntF_get]
              have hcr := HCK.out (atP rdB nd.thing)
              go_wp2_with (refine stop_update rfl ?_)
              refine Stop.intro ?_
              refine wp_update key_i Try.underlying135 rfl _ _ _ (.inl rfl) (w.heap.size + 1 + 1) (cntF g rdB k) HDA.out.mr nd.thing (.int .i64 ((cntN g (atP rdB nd.thing) k : Nat) + 1)) rfl rfl rfl ?_
              intro w6 hm6 hg6
              have hs_w6 := hg6.size
              have hbd6 := hbdA.grown hg6 (fun e => by injection e with e; omega)
              have hbr6 := hbrA.grown hg6 (fun e => by injection e with e; omega)
              have hbg6 := hbgA.grown hg6 (fun e => by injection e with e; omega)
              have hbn6 := HBN.out.grown hg6 (fun e => by injection e with e; omega)
              have hbe6 := hbeA.grown hg6 (by simp; omega) (fun q e => by injection e with e; omega)
              have hk6 := hkA.grown hg6 (w.heap.size + 1 + 1) rfl (by unfold S7; omega)
              have c1 := hbd6.cell 1
              have m3 := hbn6.cell 3
              unfold Node.cells at hbn6 m3
              have HM6 := Lib.hid hm6; clear hm6
              have HW6 := Lib.hid (HDA.out.mw.grown hg6 (fun e => by injection e with e; omega))
              go_wp2_with (first  | (refine stop_lookup rfl ?_))
              refine Stop.intro ?_
              refine wp_lookup key_i Try.underlying135 rfl _ _ rfl (w.heap.size + 1 + 1 + 1) (cntF g wrB k) HW6.out nd.thing rfl rfl (.int .i64 0) (z_int _) ?_
              rw [cntF_get]
              have hcw := HCK.out (atP wrB nd.thing)
              go_wp2_with (refine stop_update rfl ?_)
              refine Stop.intro ?_
              refine wp_update key_i Try.underlying135 rfl _ _ _ (.inl rfl) (w.heap.size + 1 + 1 + 1) (cntF g wrB k) HW6.out nd.thing (.int .i64 ((cntN g (atP wrB nd.thing) k : Nat) + 1)) rfl rfl rfl ?_
              intro w7 hm7 hg7
              have hs_w7 := hg7.size
              have hdo7 := HDA.out.bump_rw HND.out HRE.out (by unfold rdB; simp [HK.out]) (by unfold wrB; simp [HK.out]) (by unfold lkB; simp [HK.out]) HM6.out hg6 hm7 hg7 (by omega) (by omega) (by omega)
              have hpr7 : decide (0 < cntN g prB (k + 1)) = pq := by rw [cntN_no HND.out (.inr (by unfold prB; simp [HK.out])), HPQ.out]
              have hbd7 := hbd6.grown hg7 (fun e => by injection e with e; omega)
              have hbr7 := hbr6.grown hg7 (fun e => by injection e with e; omega)
              have hbg7 := hbg6.grown hg7 (fun e => by injection e with e; omega)
              have hbe7 := hbe6.grown hg7 hbe6.size (fun q e => by injection e with e; omega)
              have hk7 := hk6.grown hg7 (w.heap.size + 1 + 1 + 1) rfl (by unfold S7; omega)
              have HD7 := Lib.hid hdo7; have HP7 := Lib.hid hpr7; have HB7 := Lib.hid hbd7
              clear hdo7 hpr7 hbd7 hm7
              go_wp2_with fail
              go_roundw
              case rel => exact ⟨k + 1, by go_num, by omega, ⟨HD7.out, by rw [HP7.out]; exact HB7.out⟩, ⟨hbr7, hbg7⟩, hbe7, hk7⟩
              case measure => simp [intOf]; omega
            · have e4 : (nd.kind == 4) = false := by simp [h4]
              by_cases h5 : nd.kind = 5
              · have e5 : (nd.kind == 5) = true := by simp [h5]
                have HK := Lib.hid h5; clear h2 h3 h4 h5
                go_wp2_with (first | (refine wpList_load_at rfl 67 _ rfl nb (no + k * 13) rfl _ _ HLDn.out Try.underlying67 rfl (by kernel_rfl) ?_) | (refine stop_lookup rfl ?_))
                refine Stop.intro ?_
                refine wp_lookup key_i Try.underlying135 rfl _ _ rfl (w.heap.size + 1 + 1 + 1 + 1) (cntF g lkB k) HDA.out.ml nd.thing rfl rfl (.int .i64 0) (z_int _) ?_
                rw [cntF_get]
                have hcl := HCK.out (atP lkB nd.thing)
                go_wp2_with (refine stop_update rfl ?_)
                refine Stop.intro ?_
                refine wp_update key_i Try.underlying135 rfl _ _ _ (.inl rfl) (w.heap.size + 1 + 1 + 1 + 1) (cntF g lkB k) HDA.out.ml nd.thing (.int .i64 ((cntN g (atP lkB nd.thing) k : Nat) + 1)) rfl rfl rfl ?_
                intro w6 hm6 hg6
                have hs_w6 := hg6.size
                have hdo6 := HDA.out.bump_l HND.out HRE.out (by unfold rdB; simp [HK.out]) (by unfold wrB; simp [HK.out]) (by unfold lkB; simp [HK.out]) hm6 hg6 (by omega) (by omega)
                have hpr6 : decide (0 < cntN g prB (k + 1)) = pq := by rw [cntN_no HND.out (.inr (by unfold prB; simp [HK.out])), HPQ.out]
                have hbd6 := hbdA.grown hg6 (fun e => by injection e with e; omega)
                have hbr6 := hbrA.grown hg6 (fun e => by injection e with e; omega)
                have hbg6 := hbgA.grown hg6 (fun e => by injection e with e; omega)
                have hbe6 := hbeA.grown hg6 (by simp; omega) (fun q e => by injection e with e; omega)
                have hk6 := hkA.grown hg6 (w.heap.size + 1 + 1 + 1 + 1) rfl (by unfold S7; omega)
                have HD6 := Lib.hid hdo6; have HP6 := Lib.hid hpr6; have HB6 := Lib.hid hbd6
                clear hdo6 hpr6 hbd6 hm6
                go_wp2_with fail
                go_roundw
                case rel => exact ⟨k + 1, by go_num, by omega, ⟨HD6.out, by rw [HP6.out]; exact HB6.out⟩, ⟨hbr6, hbg6⟩, hbe6, hk6⟩
                case measure => simp [intOf]; omega
              · have e5 : (nd.kind == 5) = false := by simp [h5]
                by_cases h7 : nd.kind = 7
                · have e7 : (nd.kind == 7) = true := by simp [h7]
                  have HK := Lib.hid h7; clear h2 h3 h4 h5 h7
                  have HN : Hid (rdB nd = false ∧ wrB nd = false ∧ lkB nd = false) := Lib.hid (by unfold rdB wrB lkB; simp [HK.out])
                  have HP : Hid (prB nd = true) := Lib.hid (by unfold prB; simp [HK.out])
                  go_wp2_with (first | (refine wpList_load_at rfl 67 _ rfl nb (no + k * 13) rfl _ _ HLDn.out Try.underlying67 rfl (by kernel_rfl) ?_))
                  go_roundw
                  case rel => exact ⟨k + 1, by go_num, by omega, ⟨(HDA.out.keep fun b hb => Below.heap_setCell _ _ _ _ (by simp; omega)).no HND.out (.inr HN.out), by rw [cntN_yes HND.out HRE.out HP.out, decide_eq_true (by omega)]; exact hbdA.set_ 3 (.bool true)⟩, ⟨hbrA.far (by simp) _, hbgA.far (by simp) _⟩, hbeA.setCell (by simp; omega) _, hkA.setCell (by unfold S7; simp; omega) _⟩
                  case measure => simp [intOf]; omega
                · have e7 : (nd.kind == 7) = false := by simp [h7]
                  have HN : Hid ((rdB nd = false ∧ wrB nd = false ∧ lkB nd = false) ∧ prB nd = false) := Lib.hid (by unfold rdB wrB lkB prB; simp [h2, h3, h4, h5, h7])
                  clear h2 h3 h4 h5 h7
                  go_wp2_with (first | (refine wpList_load_at rfl 67 _ rfl nb (no + k * 13) rfl _ _ HLDn.out Try.underlying67 rfl (by kernel_rfl) ?_))
                  go_roundw
                  case rel => exact ⟨k + 1, by go_num, by omega, ⟨HDA.out.no HND.out (.inr HN.out.1), by rw [cntN_no HND.out (.inr HN.out.2), HPQ.out]; exact hbdA⟩, ⟨hbrA, hbgA⟩, hbeA, hkA⟩
                  case measure => simp [intOf]; omega
      · have hbf : b = false := by simpa using hbt
        have hnr : ¬ ReachC g (-1) k := fun h => hbt (HB.out.2 h)
        have HNR := Lib.hid hnr; clear hnr hbt
        subst hbf
        go_wp2_with (first | (refine wpList_load_at rfl 67 _ rfl nb (no + k * 13) rfl _ _ HLDn.out Try.underlying67 rfl (by kernel_rfl) ?_))
        go_roundw
        case rel => exact ⟨k + 1, by go_num, by omega, ⟨HDA.out.no HND.out (.inl HNR.out), by rw [cntN_no HND.out (.inl HNR.out), HPQ.out]; exact hbdA⟩, ⟨hbrA, hbgA⟩, hbeA, hkA⟩
        case measure => simp [intOf]; omega
    · obtain rfl : k = g.nodes.length := by omega
      have hpa := cntN_any (g := g) (q := prB) (Nat.le_refl g.nodes.length)
      rw [HPQ.out] at hpa
      have HPA := Lib.hid hpa; clear hpa
      have HLDd : Hid (∀ j v, ([.map (some (w.heap.size + 1 + 1)), .map (some (w.heap.size + 1 + 1 + 1)), .map (some (w.heap.size + 1 + 1 + 1 + 1)), .bool pq] : List Value)[j]? = some v → wr.cell? ⟨(w.heap.size + 1 + 1 + 1 + 1 + 1), 0 + j, none⟩ = some v) := Lib.hid fun j v hj => by rw [Nat.zero_add, hbd.cell]; exact hj
      have r0 := hbr.cell 0
      have r1 := hbr.cell 1
      have r2 := hbr.cell 2
      have r3 := hbr.cell 3
      have q0 := hbr.frozen 0
      have q1 := hbr.frozen 1
      have q2 := hbr.frozen 2
      have q3 := hbr.frozen 3
      go_wp2_with (first
        | (refine wpList_load_at rfl 137 _ rfl (w.heap.size + 1 + 1 + 1 + 1 + 1) 0 rfl _ _ HLDd.out Try.underlying137 rfl (by kernel_rfl) ?_))
      have hb9 := (((hbr.set_ 0 (.map (some (w.heap.size + 1 + 1)))).set_ 1 (.map (some (w.heap.size + 1 + 1 + 1)))).set_ 2 (.map (some (w.heap.size + 1 + 1 + 1 + 1)))).set_ 3 (.bool pq)
      have k0 := hb9.cell 0
      have k1 := hb9.cell 1
      have k2 := hb9.cell 2
      have k3 := hb9.cell 3
      refine bodyPost_ret (v := .agg #[.map (some (w.heap.size + 1 + 1)), .map (some (w.heap.size + 1 + 1 + 1)), .map (some (w.heap.size + 1 + 1 + 1 + 1)), .bool pq]) (by simp at k0 k1 k2 k3; simp [results, Try.results66, go_sem, k0, k1, k2, k3]) rfl ⟨(w.heap.size + 1 + 1), (w.heap.size + 1 + 1 + 1), (w.heap.size + 1 + 1 + 1 + 1), by rw [HPA.out], ?_, by omega, by omega, by omega, ?_⟩
      · exact hdo.keep fun b hb => (Below.heap_setCell _ _ _ _ (by simp; omega)).trans ((Below.heap_setCell _ _ _ _ (by simp; omega)).trans ((Below.heap_setCell _ _ _ _ (by simp; omega)).trans (Below.heap_setCell _ _ _ _ (by simp; omega))))
      · exact (((hbel.setCell (by simp) _).setCell (by simp) _).setCell (by simp) _).setCell (by simp) _
end Go.Proofs.Ytkkmkjjbffpgnaa
