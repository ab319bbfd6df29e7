import Derived.Test.YtmkpjiahkepigaaGreatP72
import Derived.Test.YtmkpjiahkepigaaGreatP71
/- The walk of the law's lives: a unit of one thread that sets x to 5 and prints it. -/
namespace Go.Proofs.YtmkpjiahkepigaaGreat
open Go Go.RowKit
def zv : Val := ⟨false, 0, 0⟩
def smN0 : Node := ⟨3, 0, 0, 0, ⟨false, 0, 5⟩, zv, 1, 0, 0⟩
def smN1 : Node := ⟨2, 0, 0, 0, zv, zv, 2, 0, 1⟩
def smN2 : Node := ⟨7, 0, 0, 0, ⟨true, 0, 0⟩, zv, 3, 0, 2⟩
def smN3 : Node := ⟨9, 0, 0, 0, zv, zv, 0, 0, 3⟩
def smU : Unit_ := ⟨[⟨⟨#[120]⟩, 0, 0⟩], [], [⟨⟨#[116]⟩, 0, 1, [smN0, smN1, smN2, smN3]⟩]⟩
theorem sm_check : checkF smU = none := by kernel_rfl
theorem sm_small : ∀ x : Int, 0 ≤ x → x ≤ 5 → i64 x := fun x h1 h2 => by unfold i64; omega
theorem sm_ok : UOk smU := by
  intro g hg n hn
  have hb : ∀ x : Int, 0 ≤ x ∧ x ≤ 5 → i64 x := fun x h => sm_small x h.1 h.2
  simp only [smU, List.mem_cons, List.not_mem_nil, or_false] at hg
  subst hg
  simp only [List.mem_cons, List.not_mem_nil, or_false] at hn
  rcases hn with rfl | rfl | rfl | rfl <;> exact ⟨by decide, by decide, hb _ (by decide), hb _ (by decide), ⟨hb _ (by decide), hb _ (by decide)⟩, ⟨hb _ (by decide), hb _ (by decide)⟩, hb _ (by decide), hb _ (by decide), hb _ (by decide)⟩
theorem sm_sok : SOk smU := by
  intro d hd
  simp only [smU, List.mem_cons, List.not_mem_nil, or_false] at hd
  subst hd
  exact sm_small _ (by decide) (by decide)
theorem sm_run : runF smU (startM smU) [0, 0, 0, 0] = (⟨[3], [[5]], [5], [], [(0, 5)]⟩, 3, 70) := by kernel_rfl
theorem nodes_blk4 {w : World} {b : Nat} {t : TypeId} {ns : List Node} (h : Blk w b t (ns.flatMap Node.cells)) (n : Nat) (hn : n = ns.length) (hl : n ≤ 1000) : Nodes (cmap w) (.slice (some ⟨b, 0, none⟩) n n) ns := by
  subst hn
  refine ⟨_, _, rfl, Nat.le_refl _, ⟨by simp only [maxLen]; omega, fun h => by cases h⟩, .inr ⟨b, 0, rfl, fun i x hx j v hv => ?_⟩⟩
  show w.cell? ⟨b, 0 + i * 13 + j, none⟩ = some v
  rw [Nat.zero_add, h.cell, List.flatMap_def]
  refine flatten_at (ns.map Node.cells) 13 i x.cells (fun r hr => ?_) ?_ j v hv
  · obtain ⟨q, _, rfl⟩ := List.mem_map.1 hr; rfl
  · rw [List.getElem?_map, hx]; rfl
theorem sm_unit {w : World} {na xb gb : Nat} {T1 T2 T3 : TypeId} (ha : Blk w na T1 ([smN0, smN1, smN2, smN3].flatMap Node.cells)) (hx : Blk w xb T2 [.string ⟨#[120]⟩, .int .i64 0, .int .i64 0])
    (hg : Blk w gb T3 [.string ⟨#[116]⟩, .int .i64 0, .int .i64 1, .slice (some ⟨na, 0, none⟩) 4 4]) :
    UnitV (cmap w) [.slice (some ⟨xb, 0, none⟩) 1 1, .slice none 0 0, .slice (some ⟨gb, 0, none⟩) 1 1] smU := by
  refine ⟨_, _, _, rfl, ⟨_, _, rfl, Nat.le_refl _, ⟨by simp [maxLen], fun h => by cases h⟩, .inr ⟨xb, 0, rfl, fun i x h => ?_⟩⟩, ⟨none, 0, rfl, by simp [smU], ⟨by simp [maxLen], fun _ => rfl⟩, .inl rfl⟩, ⟨_, _, rfl, Nat.le_refl _, ⟨by simp [maxLen], fun h => by cases h⟩, .inr ⟨gb, 0, rfl, fun i x h => ?_⟩⟩⟩
  · match i, h with
    | 0, h =>
      simp [smU] at h
      subst h
      exact ⟨hx.cell 0, hx.cell 1, hx.cell 2⟩
  · match i, h with
    | 0, h =>
      simp [smU] at h
      subst h
      refine ⟨_, ⟨_, rfl, nodes_blk4 ha 4 rfl (by decide)⟩, fun j v hv => ?_⟩
      match j, hv with
      | 0, hv => simp at hv; subst hv; exact hg.cell 0
      | 1, hv => simp at hv; subst hv; exact hg.cell 1
      | 2, hv => simp at hv; subst hv; exact hg.cell 2
      | 3, hv => simp at hv; subst hv; exact hg.cell 3
set_option maxRecDepth 100000 in
set_option maxHeartbeats 2000000 in
theorem small_calls (w : World) : Calls Tryz.prog 33 #[] w fun e w' => ∃ s g : Option Addr, e = .returned (.agg #[.slice s 1 1, .slice none 0 0, .slice g 1 1]) ∧ UnitV (cmap w') [.slice s 1 1, .slice none 0 0, .slice g 1 1] smU ∧ Below w.heap.size w w' := by
  go_enter Tryz.func33, Tryz.ntmps33
  go_wp2
  refine bodyPost_ret (v := .agg #[.slice (some ⟨w.heap.size + 1 + 1 + 1 + 1, 0, none⟩) 1 1, .slice none 0 0, .slice (some ⟨w.heap.size + 1 + 1 + 1 + 1 + 1, 0, none⟩) 1 1]) (by simp [results, Tryz.results33, go_sem]) rfl ⟨_, _, rfl, ?_, ?_⟩
  · refine sm_unit (na := w.heap.size + 1 + 1 + 1) (T1 := 53) (T2 := 75) (T3 := 73) ?_ ?_ ?_
    · exact ((Blk.of (heap_new _ _ _ (by simp)) rfl : Blk _ _ _ _).alloc _).alloc _
    · exact (Blk.of (heap_new _ _ _ (by simp)) rfl : Blk _ _ _ _).alloc _
    · exact Blk.of (heap_new _ _ _ (by simp)) rfl
  · exact (((((Below_alloc' w _).alloc (by simp) _).alloc (by simp; omega) _).alloc (by simp; omega) _).alloc (by simp; omega) _).alloc (by simp; omega) _
set_option maxRecDepth 100000 in
set_option maxHeartbeats 4000000 in
theorem lives7_calls (w : World) : Calls Tryz.prog 8 #[] w fun e w' => e = .returned (.bool true) ∧ Below w.heap.size w w' := by
  go_enter Tryz.func8, Tryz.ntmps8
  go_wp2_with fail
  refine (small_calls _).mono ?_
  rintro e w1 ⟨sA, gA, rfl, hu1, hb1⟩
  go_wp2_with fail
  refine (new_good smU _ _ hu1 sm_ok sm_check).mono ?_
  rintro e w2 ⟨g, L, R, rfl, hM, hR, hmu, hb2⟩
  have hsit := start_situ sm_check sm_sok
  have hru := checkF_none sm_check
  have hbb : Below w2.heap.size w2 (w2.alloc (.cells #[.int .i64 0, .int .i64 0, .int .i64 0, .int .i64 0] 3)) := Below_alloc' _ _
  have hbl := Blk.new w2 3 [.int .i64 0, .int .i64 0, .int .i64 0, .int .i64 0]
  have hrun := run_calls (Q := fun b => b = w2.heap.size) (A := some ⟨w2.heap.size, 0, none⟩) (c := 4) (l := [0, 0, 0, 0]) (hM.below hbb) hsit hru sm_ok (by simp [startM]) (fun q hq => by have := (hR q hq).2; simp; omega)
    ⟨_, _, rfl, Nat.le_refl _, ⟨by simp [maxLen], fun h => by cases h⟩, .inr ⟨w2.heap.size, 0, rfl, fun i x hx => by
      refine on_mk ?_ rfl
      rw [Nat.mul_one, Nat.zero_add]
      refine (hbl.cell i).trans ?_
      match i, hx with
      | 0, hx => injection hx with hx; subst hx; rfl
      | 1, hx => injection hx with hx; subst hx; rfl
      | 2, hx => injection hx with hx; subst hx; rfl
      | 3, hx => injection hx with hx; subst hx; rfl⟩⟩ (fun q hq hm => by have := hM.lt hm; omega)
  rw [sm_run] at hrun
  have HRN := Lib.hid hrun
  have HBB := Lib.hid (And.intro hb1 (And.intro hb2 (And.intro hmu hru)))
  clear hu1 hrun hbl hbb hb1 hb2 hM hR hmu hsit hru
  go_wp2_with fail
  refine HRN.out.mono ?_
  rintro e w3 ⟨rfl, hm3⟩
  obtain ⟨pv, hM3, hmu3⟩ := id hm3.ex
  have hs3 := (runF_situ HBB.out.2.2.2 sm_ok [0, 0, 0, 0] (start_situ sm_check sm_sok)).1
  rw [sm_run] at hs3
  have hbw : Below w.heap.size w w3 := (HBB.out.1.trans (HBB.out.2.1.mono HBB.out.1.size)).trans (((Below_alloc' w2 _).mono (Nat.le_trans HBB.out.1.size HBB.out.2.1.size)).trans ((hm3.fr.grow w1.heap.size (by have := HBB.out.2.1.size; simp; omega) HBB.out.2.2.1).mono HBB.out.1.size))
  have hpc := prints_calls hM3 (by decide)
  have HP := Lib.hid hpc
  have HM := Lib.hid (And.intro hM3 (And.intro hs3.ok hbw))
  clear hM3 hs3 hmu3 hm3 hbw hpc HRN
  go_wp2_with fail
  refine HP.out.mono ?_
  rintro e w4 ⟨A4, c4, rfl, hp4, hb4⟩
  obtain ⟨pb, po, rfl, hc0, hc1⟩ := hp4.at_ (i := 0) rfl
  have q1 : w4.cell? ⟨pb, po + 1, none⟩ = some (.int .i64 5) := (part_at hc1).1
  have q1l : pb < w4.heap.size := (part_at hc1).2.2
  have he := ended_calls (HM.out.1.below hb4) HM.out.2.1 HBB.out.2.2.2 (by decide)
  rw [show endedF smU ⟨[3], [[5]], [5], [], [(0, 5)]⟩ = true from by kernel_rfl] at he
  have HE := Lib.hid he
  have HB4 := Lib.hid hb4
  clear hp4 hc0 hc1 he hb4 HP
  go_wp2_with fail
  refine HE.out.mono ?_
  rintro e w5 ⟨rfl, hb5⟩
  have q2 : w5.cell? ⟨pb, po + 1, none⟩ = some (.int .i64 5) := (hb5.cell (p := ⟨pb, po + 1, none⟩) q1l).trans q1
  have hb35 : Below w3.heap.size w3 w5 := HB4.out.trans (hb5.mono HB4.out.size)
  have h1 := memory_calls (HM.out.1.below hb35) (by decide)
  have H1 := Lib.hid h1
  have HB5 := Lib.hid hb35
  clear h1 hb35 hb5 q1 q1l HE
  go_wp2_with fail
  refine H1.out.mono ?_
  rintro e w6 ⟨A6, c6, rfl, -, hb6⟩
  have hb36 : Below w3.heap.size w3 w6 := HB5.out.trans (hb6.mono HB5.out.size)
  have h1 := memory_calls (HM.out.1.below hb36) (by decide)
  have H2 := Lib.hid h1
  have HB6 := Lib.hid hb36
  clear h1 hb36 hb6 q2 H1
  go_wp2_with fail
  refine H2.out.mono ?_
  rintro e w7 ⟨A7, c7, rfl, hm7, hb7⟩
  obtain ⟨pb7, po7, rfl, hc0⟩ := hm7.at_ (i := 0) rfl
  have q7 : w7.cell? ⟨pb7, po7, none⟩ = some (.int .i64 5) := (part_at hc0).1
  have hb37 : Below w3.heap.size w3 w7 := HB6.out.trans (hb7.mono HB6.out.size)
  have HF := Lib.hid (HM.out.2.2.trans (hb37.mono HM.out.2.2.size))
  clear hm7 hc0 hb37 hb7 H2
  go_wp2
  go_ret
  exact ⟨rfl, HF.out⟩
end Go.Proofs.YtmkpjiahkepigaaGreat
/- A source machine within a law: what the law's own blocks are to it. -/
namespace Go.Proofs.YtmkpjiahkepigaaGreat
open Go Go.RowKit
theorem MachB.mut_pv {w : World} {R : Nat → Prop} {g : Nat} {L : Lay} {u : Unit_} {m : Mach} {pv : Value} (h : MachB w R g { L with pv := pv } u m) {b : Nat} {cur : Array Value} {T : TypeId} (hb : w.heap[b]? = some (.cells cur T (0, 0))) (hT : 77 ≠ T) (hn : ¬ L.mut g b) : ¬ ({ L with pv := pv } : Lay).mut g b := by
  rintro (e | e | e | e | e | e)
  · exact hn (.inl e)
  · exact hn (.inr (.inl e))
  · exact hn (.inr (.inr (.inl e)))
  · exact hn (.inr (.inr (.inr (.inl e))))
  · exact own_ne h.prints hb hT e
  · exact hn (.inr (.inr (.inr (.inr (.inr e)))))
/-- w: the world ahead of the law; wr: now. -/
structure MAt (w wr : World) (R : Nat → Prop) (g : Nat) (L : Lay) (u : Unit_) (m : Mach) : Prop where
  ex : ∃ pv, MachB wr R g { L with pv := pv } u m ∧ ∀ q, ({ L with pv := pv } : Lay).mut g q → w.heap.size ≤ q
  rl : ∀ q, R q → q < wr.heap.size
  bel : Below w.heap.size w wr
/-- A block of the law's own. -/
structure OwnB (w wr : World) (R : Nat → Prop) (g : Nat) (L : Lay) (hb : Nat) (T : TypeId) (cs : List Value) : Prop where
  blk : Blk wr hb T cs
  nm : ¬ L.mut g hb
  nr : ¬ R hb
  ge : w.heap.size ≤ hb
section
variable {w wr wx w0 w1 : World} {R : Nat → Prop} {g : Nat} {L : Lay} {u : Unit_} {hb : Nat} {m m' : Mach} {T : TypeId} {cs : List Value}
theorem MAt.below (h : MAt w wr R g L u m) (hx : Below wr.heap.size wr wx) : MAt w wx R g L u m := by
  obtain ⟨pv, h1, h2⟩ := h.ex
  exact ⟨⟨pv, h1.below hx, h2⟩, fun q hq => Nat.lt_of_lt_of_le (h.rl q hq) hx.size, h.bel.trans (hx.mono h.bel.size)⟩
theorem OwnB.below (h : OwnB w wr R g L hb T cs) (hx : Below wr.heap.size wr wx) : OwnB w wx R g L hb T cs := ⟨h.blk.below hx h.blk.lt, h.nm, h.nr, h.ge⟩
theorem MAt.made (h : MAt w wr R g L u m) {pv : Value} (h2 : ∀ q, ({ L with pv := pv } : Lay).mut g q → w.heap.size ≤ q) (hm : MadeP wr wx R g { L with pv := pv } u m') : MAt w wx R g L u m' := by
  obtain ⟨pv2, k1, k2⟩ := hm.ex
  refine ⟨⟨pv2, k1, fun q hq => ?_⟩, fun q hq => Nat.lt_of_lt_of_le (h.rl q hq) hm.fr.size, h.bel.trans (hm.fr.grow w.heap.size h.bel.size fun q hq => h2 q hq)⟩
  rcases k2 q hq with e | e
  · exact h2 q e
  · exact Nat.le_trans h.bel.size e
theorem OwnB.made (h : OwnB w wr R g L hb T cs) {pv : Value} (h1 : MachB wr R g { L with pv := pv } u m) (hT : 77 ≠ T) (hm : MadeP wr wx R g { L with pv := pv } u m') : OwnB w wx R g L hb T cs :=
  ⟨h.blk.fr hm.fr (h1.mut_pv h.blk hT h.nm), h.nm, h.nr, h.ge⟩
/-- The law writes a block of its own. -/
theorem MAt.set (h : MAt w wr R g L u m) (ho : OwnB w wr R g L hb T cs) (hT : 77 ≠ T) (j : Nat) (v : Value) : MAt w (wr.setCell ⟨hb, j, none⟩ v) R g L u m ∧ OwnB w (wr.setCell ⟨hb, j, none⟩ v) R g L hb T (cs.set j v) := by
  obtain ⟨pv, h1, h2⟩ := h.ex
  refine ⟨⟨⟨pv, h1.setOther (h1.mut_pv ho.blk hT ho.nm) ho.nr j v, h2⟩, fun q hq => by have := h.rl q hq; simpa [World.setCell] using this, h.bel.setCell ho.ge v⟩, ho.blk.set_ j v, ho.nm, ho.nr, ho.ge⟩
theorem OwnB.new (h : MAt w wr R g L u m) (hL : ∀ q, L.mut g q → q < wr.heap.size) (T : TypeId) (cs : List Value) : OwnB w (wr.alloc (.cells cs.toArray T)) R g L wr.heap.size T cs :=
  ⟨Blk.new wr T cs, fun e => by have := hL _ e; omega, fun e => by have := h.rl _ e; omega, h.bel.size⟩
theorem MAt.start (hw : Below w.heap.size w w0) (hM : MachB w1 R g L u m) (hR : ∀ q, R q → w0.heap.size ≤ q ∧ q < w1.heap.size) (hmu : ∀ q, L.mut g q → w0.heap.size ≤ q) (hb : Below w0.heap.size w0 w1) : MAt w w1 R g L u m :=
  ⟨⟨L.pv, hM, fun q hq => Nat.le_trans hw.size (hmu q hq)⟩, fun q hq => (hR q hq).2, hw.trans (hb.mono hw.size)⟩
end
end Go.Proofs.YtmkpjiahkepigaaGreat
