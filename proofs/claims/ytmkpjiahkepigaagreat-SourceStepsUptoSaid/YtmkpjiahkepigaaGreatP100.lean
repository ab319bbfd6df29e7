import Derived.Test.YtmkpjiahkepigaaGreatP95
import Derived.Test.YtmkpjiahkepigaaGreatP98
import Derived.Test.YtmkpjiahkepigaaGreatP99
import Derived.Test.YtmkpjiahkepigaaGreatP76
import Derived.Test.YtmkpjiahkepigaaGreatP73
import Derived.Laws.StructEq
/- The source machine and the reference's beside it, within a law. -/
namespace Go.Proofs.YtmkpjiahkepigaaGreat
open Go Go.RowKit
section
variable {w wr wx : World} {R Z Z' : Nat → Prop} {g : Nat} {L : Lay} {u : Unit_} {m m' : Mach}
/-- What was made meanwhile is never written by the machine. -/
theorem MAz.grow (h : MAz w wr R g L u Z m) (hx : Below wr.heap.size wr wx) : MAz w wx R g L u (fun q => Z q ∨ (wr.heap.size ≤ q ∧ q < wx.heap.size)) m := by
  obtain ⟨pv, h1, h2⟩ := h.ex
  refine ⟨⟨pv, h1.below hx, fun q hq => ⟨(h2 q hq).1, fun e => ?_⟩⟩, fun q hq => Nat.lt_of_lt_of_le (h.rl q hq) hx.size, h.bel.trans (hx.mono h.bel.size), fun q hq => ?_⟩
  · rcases e with e | e
    · exact (h2 q hq).2 e
    · have := h1.lt hq; omega
  · rcases hq with e | e
    · exact Nat.lt_of_lt_of_le (h.zl q e) hx.size
    · exact e.2
/-- A block of the law's own is written. -/
theorem MAz.row (h : MAz w wr R g L u Z m) {k : Nat} {T : TypeId} {cs : List Value} (hk : Blk wr k T cs) (h1 : T ≠ 81) (h2 : T ≠ 3) (h3 : T ≠ 2) (h4 : T ≠ 77) (hR : ∀ q, R q → q ≠ k) (hw : w.heap.size ≤ k) (cs' : Array Value) : MAz w (wr.setRow k cs') R g L u Z m := by
  obtain ⟨pv, k1, k2⟩ := h.ex
  have hsz : (wr.setRow k cs').heap.size = wr.heap.size := by simp [World.setRow]
  exact ⟨⟨pv, k1.fr (FrW.setRow (S := fun q => q = k) wr rfl cs') (fun b hb e => by subst e; exact k1.notmut hk h1 h2 h3 h4 hb) (fun b hb e => hR b hb e), k2⟩, fun q hq => by rw [hsz]; exact h.rl q hq, below_row h.bel hw _, fun q hq => by rw [hsz]; exact h.zl q hq⟩
theorem MAz.notrow (_h : MAz w wr R g L u Z m) {k : Nat} {T : TypeId} {cs : List Value} (hk : Blk wr k T cs) (h1 : T ≠ 81) (h2 : T ≠ 3) (h3 : T ≠ 2) (h4 : T ≠ 77) {pv : Value} (k1 : MachB wr R g { L with pv := pv } u m) : ¬ ({ L with pv := pv } : Lay).mut g k := k1.notmut hk h1 h2 h3 h4
end
theorem ref_oneA {mp : CM} {cs : List Value} {u : Unit_} {m : Mach} (h : RefV mp cs u m) : cs.toArray.all (·.oneCell') = true := by
  obtain ⟨su, lu, gu, va, vo, vm, vh, vp, rfl, hr⟩ := h
  obtain ⟨sv, lv, gv, e, ⟨sA, sc, hs, -⟩, ⟨lA, lc, hl, -⟩, ⟨gA, gc, hg, -⟩⟩ := id hr.unit
  injection e with e1 e
  injection e with e2 e
  injection e with e3 _
  subst e1 e2 e3 hs hl hg
  obtain ⟨aA, ac, rfl, -⟩ := id hr.at_
  obtain ⟨oA, oc, rfl, -⟩ := id hr.slots
  obtain ⟨mA, mc, rfl, -⟩ := id hr.mem
  obtain ⟨hA, hc, rfl, -⟩ := id hr.hold
  obtain ⟨pA, pc, rfl, -⟩ := id hr.prints
  simp [Value.oneCell']
/-- Behind k steps of both. -/
structure SrAt (w wr : World) (R : Nat → Prop) (g : Nat) (L : Lay) (u : Unit_) (k7 : Nat) (Z : Nat → Prop) (cs : List Value) (m : Mach) (k : Nat) : Prop where
  a : MAz w wr R g L u Z m
  ref : RefV (on wr Z) cs u m
  b7 : Blk wr k7 35 cs
  nz : ¬ Z k7
  ge : w.heap.size ≤ k7
  rk : ∀ q, R q → q < k7
  situ : Situ u m
  pri : PrI m
  pr : m.prints.length ≤ k
section
variable {w wr wx : World} {R Z : Nat → Prop} {g : Nat} {L : Lay} {u : Unit_} {k7 : Nat} {cs cs' : List Value} {m : Mach} {k : Nat}
theorem SrAt.below (h : SrAt w wr R g L u k7 Z cs m k) (hx : Below wr.heap.size wr wx) : SrAt w wx R g L u k7 Z cs m k :=
  ⟨h.a.below hx, h.ref.mono (on_keep (fun b _ hlt => hx.block b hlt) fun _ hb => hb), h.b7.below hx h.b7.lt, h.nz, h.ge, h.rk, h.situ, h.pri, h.pr⟩
theorem SrAt.succ (h : SrAt w wr R g L u k7 Z cs m k) : SrAt w wr R g L u k7 Z cs m (k + 1) := ⟨h.a, h.ref, h.b7, h.nz, h.ge, h.rk, h.situ, h.pri, by have := h.pr; omega⟩
theorem stepM_pr (u : Unit_) (m : Mach) (t : Int) : (stepM u m t).prints.length ≤ m.prints.length + 1 := by
  unfold stepM
  split
  · omega
  · split
    · omega
    · show (actM m t.toNat _).prints.length ≤ _
      unfold actM Mach.setSlot Mach.setVar Mach.setHolder
      repeat (first | split | (simp only [List.length_append, List.length_singleton]; omega) | omega)
/-- The reference has stepped; its answer lies in the law's own block. -/
theorem SrAt.refStep (h : SrAt w wr R g L u k7 Z cs m k) {w1 x2 : World} {m' : Mach} (hb1 : Below wr.heap.size wr w1) (hb2 : Below w1.heap.size w1 x2) (hr : RefV (on w1 (fun b => Z b ∨ wr.heap.size ≤ b)) cs' u m') :
    MAz w (x2.setRow k7 cs'.toArray) R g L u (fun q => Z q ∨ (wr.heap.size ≤ q ∧ q < x2.heap.size)) m ∧ RefV (on (x2.setRow k7 cs'.toArray) (fun q => Z q ∨ (wr.heap.size ≤ q ∧ q < x2.heap.size))) cs' u m' ∧ Blk (x2.setRow k7 cs'.toArray) k7 35 cs' ∧ ¬ (fun q => Z q ∨ (wr.heap.size ≤ q ∧ q < x2.heap.size)) k7 := by
  have hbb := hb1.trans (hb2.mono hb1.size)
  have k0 := h.b7.below hbb h.b7.lt
  have hz : ¬ (fun q => Z q ∨ (wr.heap.size ≤ q ∧ q < x2.heap.size)) k7 := fun e => by
    rcases e with e | e
    · exact h.nz e
    · have := h.b7.lt; omega
  refine ⟨(h.a.grow hbb).row k0 (by decide) (by decide) (by decide) (by decide) (fun q hq e => by have := h.rk q hq; omega) h.ge _, ?_, Blk.setRow k0, hz⟩
  refine hr.mono ?_
  intro b o v hv
  obtain ⟨h1, h2⟩ := on_at hv
  have hlt := World.block_lt_of_cell? w1 ⟨b, o, none⟩ h1
  have hlt2 : b < w1.heap.size := hlt
  have hne : b ≠ k7 := fun e => by
    subst e
    rcases h2 with e | e
    · exact h.nz e
    · have := h.b7.lt; omega
  refine on_mk ?_ ?_
  · have h3 : x2.cell? ⟨b, o, none⟩ = some v := (hb2.cell (p := ⟨b, o, none⟩) hlt2).trans h1
    exact (World.cell?_of_block (a := ⟨b, o, none⟩) (heap_setRow_ne hne _)).trans h3
  · rcases h2 with e | e
    · exact .inl e
    · exact .inr ⟨e, Nat.lt_of_lt_of_le hlt2 hb2.size⟩
end
end Go.Proofs.YtmkpjiahkepigaaGreat
/- The walk of the law SourceSteps. -/
namespace Go.Proofs.YtmkpjiahkepigaaGreat
open Go Go.RowKit
theorem on_low {w wr : World} (hb : Below w.heap.size w wr) : (cmap w).le (on wr fun q => q < w.heap.size) := fun b o v hv => on_mk (cmap_below hb b o v hv) (World.block_lt_of_cell? w ⟨b, o, none⟩ hv)
set_option maxRecDepth 100000 in
set_option maxHeartbeats 1000000 in
theorem eq_acted (d : Did) (w : World) : (Op.equalIn 10000 41 (.agg #[.int .i64 d.thread, .int .i64 d.node, .int .u8 d.kind, .int .i64 d.thing, .int .i64 d.word, .int .i64 d.put]) (.agg #[.int .i64 d.thread, .int .i64 d.node, .int .u8 d.kind, .int .i64 d.thing, .int .i64 d.word, .int .i64 d.put])).run Tryz.prog w = .ok true w := by
  have hS : Tryz.prog.underlying 41 = some (.struct (Tryz.prog.fieldsOf 41)) := by kernel_rfl
  have hp : Tryz.prog.stoodInHeld 41 = false := by kernel_rfl
  rw [show (10000 : Nat) = 9999 + 1 from rfl, run_equalIn_agg w 9999 41 _ _ hS hp]
  simp only [Program.fieldsOf, Tryz.underlying41]
  go_simp
set_option maxRecDepth 100000 in
set_option maxHeartbeats 1000000 in
theorem steps_bad (u : Unit_) (cs : List Value) (v1 : Value) (w : World) (hu : UnitV (cmap w) cs u) (hok : UOk u) (hc : checkF u ≠ none) :
    Calls Tryz.prog 3 #[.agg cs.toArray, v1] w fun e w' => e = .returned (.bool true) ∧ Below w.heap.size w w' := by
  have hu0 := hu
  obtain ⟨su, lu, gu, rfl, -, -, -⟩ := hu0
  have HU := Lib.hid (And.intro hu (And.intro hok hc))
  have hB0 := Below_alloc' w (.cells #[su, lu, gu] 25)
  have hx0 := Blk.new w 25 [su, lu, gu]
  have HLD : Hid (∀ j v, ([su, lu, gu] : List Value)[j]? = some v → (w.alloc (.cells #[su, lu, gu] 25)).cell? ⟨w.heap.size, 0 + j, none⟩ = some v) := Lib.hid fun j v hj => by rw [Nat.zero_add, (hx0).cell]; exact hj
  clear hu hok hc
  go_enter Tryz.func3, Tryz.ntmps3
  go_wp2_with (first
    | (refine wpList_load_at rfl 25 _ rfl w.heap.size 0 rfl _ _ HLD.out Tryz.underlying25 rfl (by kernel_rfl) ?_))
  refine (new_bad u _ _ (HU.out.1.mono (cmap_below hB0)) HU.out.2.1 HU.out.2.2).mono ?_
  rintro e w2 ⟨rfl, hb2⟩
  have hB2 := hB0.trans (hb2.mono hB0.size)
  have hx2 := hx0.below hb2 hx0.lt
  have HLD2 : Hid (∀ j v, ([su, lu, gu] : List Value)[j]? = some v → w2.cell? ⟨w.heap.size, 0 + j, none⟩ = some v) := Lib.hid fun j v hj => by rw [Nat.zero_add, (hx2).cell]; exact hj
  clear hb2 HLD hx0
  go_wp2_with (first
    | (refine wpList_load_at rfl 25 _ rfl w.heap.size 0 rfl _ _ HLD2.out Tryz.underlying25 rfl (by kernel_rfl) ?_))
  refine (r7new_bad u _ _ (HU.out.1.mono (cmap_below hB2)) HU.out.2.1 HU.out.2.2).mono ?_
  rintro e w3 ⟨rfl, hb3⟩
  have hB3 := hB2.trans (hb3.mono hB2.size)
  have HB3 := Lib.hid hB3
  clear hb3 HLD2 hx2 hB0 hB2 hB3
  go_wp2_with (first
    | (refine stop_store 35 rfl ?_))
  refine Stop.intro ?_
  refine wpList_plain rfl fun K hK => wp_store_row 35 _ _ rfl w3.heap.size nil8.toArray rfl rfl 35 _ (heap_new w3 _ _ rfl) (by kernel_rfl) rfl (by simp [nil8, Value.oneCell']) (hK _ _ ?_)
  simp only [put_none]
  obtain ⟨x4, hx4⟩ : ∃ x4, w3.alloc (.cells nil8.toArray 35) = x4 := ⟨_, rfl⟩
  rw [World.setRow_alloc_new, hx4]
  have HB4 : Hid (Below w.heap.size w x4) := Lib.hid (by rw [← hx4]; exact HB3.out.trans ((Below_alloc' w3 _).mono HB3.out.size))
  clear hx4 HB3
  go_wp2_with fail
  refine (lives7_calls _).mono ?_
  rintro e w4 ⟨rfl, hb4⟩
  have HF := Lib.hid (HB4.out.trans (hb4.mono HB4.out.size))
  clear hb4 HB4
  go_wp2
  go_ret
  exact ⟨rfl, HF.out⟩
set_option maxRecDepth 100000 in
set_option maxHeartbeats 8000000 in
theorem steps_good (u : Unit_) (cs : List Value) (A : Option Addr) (c : Nat) (l : List Int) (w : World) (hu : UnitV (cmap w) cs u) (hok : UOk u) (hso : SOk u) (hv : Ints (cmap w) (.slice A l.length c) l) (hl : l.length ≤ 1048576) (hc : checkF u = none) :
    Calls Tryz.prog 3 #[.agg cs.toArray, .slice A l.length c] w fun e w' => e = .returned (.bool true) ∧ Below w.heap.size w w' := by
  have hru := checkF_none hc
  have hz := checkF_sizes hc
  have hst := start_situ hc hso
  have hu0 := hu
  obtain ⟨su, lu, gu, rfl, -, -, -⟩ := hu0
  have HU := Lib.hid (And.intro hu (And.intro hok hc))
  have HK := Lib.hid (And.intro hru (And.intro hok (And.intro hz hst)))
  have HV := Lib.hid hv
  have hB0 := Below_alloc' w (.cells #[su, lu, gu] 25)
  have hx0 := Blk.new w 25 [su, lu, gu]
  have HLD : Hid (∀ j v, ([su, lu, gu] : List Value)[j]? = some v → (w.alloc (.cells #[su, lu, gu] 25)).cell? ⟨w.heap.size, 0 + j, none⟩ = some v) := Lib.hid fun j v hj => by rw [Nat.zero_add, (hx0).cell]; exact hj
  clear hu hok hc hru hz hst hv hso
  go_enter Tryz.func3, Tryz.ntmps3
  go_wp2_with (first
    | (refine wpList_load_at rfl 25 _ rfl w.heap.size 0 rfl _ _ HLD.out Tryz.underlying25 rfl (by kernel_rfl) ?_))
  refine (new_good u _ _ (HU.out.1.mono (cmap_below hB0)) HU.out.2.1 HU.out.2.2).mono ?_
  rintro e w2 ⟨g, L, R, rfl, hM, hR, hmu, hb2⟩
  have hB2 := hB0.trans (hb2.mono hB0.size)
  have hx2 := hx0.below hb2 hx0.lt
  have HLD2 : Hid (∀ j v, ([su, lu, gu] : List Value)[j]? = some v → w2.cell? ⟨w.heap.size, 0 + j, none⟩ = some v) := Lib.hid fun j v hj => by rw [Nat.zero_add, (hx2).cell]; exact hj
  have HM := Lib.hid (And.intro hM (And.intro hR (And.intro (show ∀ q, L.mut g q → w.heap.size ≤ q from fun q hq => Nat.le_trans hB0.size (hmu q hq)) hB2)))
  clear hM hR hmu hb2 HLD hx0 hx2 hB0 hB2
  go_wp2_with (first
    | (refine wpList_load_at rfl 25 _ rfl w.heap.size 0 rfl _ _ HLD2.out Tryz.underlying25 rfl (by kernel_rfl) ?_))
  refine (r7new_good u _ _ (fun q => q < w.heap.size) (HU.out.1.mono (on_low HM.out.2.2.2)) HU.out.2.1 HU.out.2.2).mono ?_
  rintro e w3 ⟨cs0, rfl, hr3, hb3⟩
  obtain ⟨su0, lu0, gu0, va, vo, vm, vh, vp, rfl, hrs⟩ := id hr3
  have ONE0 := ref_oneA hr3
  have HR3 := Lib.hid (And.intro hr3 hb3)
  clear hr3 hrs hb3 HLD2
  go_wp2_with (first
    | (refine stop_store 35 rfl ?_))
  refine Stop.intro ?_
  refine wpList_plain rfl fun K hK => wp_store_row 35 _ _ rfl w3.heap.size ([su0, lu0, gu0, va, vo, vm, vh, vp] : List Value).toArray rfl rfl 35 _ (heap_new w3 _ _ rfl) (by kernel_rfl) rfl ?one (hK _ _ ?_)
  case one => exact ONE0
  simp only [put_none]
  obtain ⟨k7, hk7⟩ : ∃ k7, w3.heap.size = k7 := ⟨_, rfl⟩
  obtain ⟨x4, hx4⟩ : ∃ x4, w3.alloc (.cells ([su0, lu0, gu0, va, vo, vm, vh, vp] : List Value).toArray 35) = x4 := ⟨_, rfl⟩
  have h4 : Below w3.heap.size w3 x4 := by rw [← hx4]; exact Below_alloc' w3 _
  have hk4 : Blk x4 k7 35 [su0, lu0, gu0, va, vo, vm, vh, vp] := by rw [← hx4, ← hk7]; exact Blk.new w3 _ _
  have hA4 : SrAt w x4 R g L u k7 (fun q => q < w.heap.size ∨ (w2.heap.size ≤ q ∧ q < w3.heap.size)) [su0, lu0, gu0, va, vo, vm, vh, vp] (startM u) 0 := by
    have hb3 := HR3.out.2
    have hb24 : Below w2.heap.size w2 x4 := hb3.trans (h4.mono hb3.size)
    have hw2 := HM.out.2.2.2.size
    have hs3 := hb3.size
    have hs4 := h4.size
    refine ⟨⟨⟨L.pv, HM.out.1.below hb24, fun q hq => ⟨HM.out.2.2.1 q hq, fun e => ?_⟩⟩, fun q hq => ?_, HM.out.2.2.2.trans (hb24.mono hw2), fun q hq => ?_⟩, ?_, hk4, fun e => ?_, by omega, fun q hq => ?_, HK.out.2.2.2, PrI.start u, by simp [startM]⟩
    · have h1 := HM.out.1.lt hq
      have h2 := HM.out.2.2.1 q hq
      rcases e with e | e <;> omega
    · have := (HM.out.2.1 q hq).2; omega
    · rcases hq with e | e <;> omega
    · refine HR3.out.1.mono ?_
      intro b o v hv
      obtain ⟨h1, h2⟩ := on_at hv
      have hlt := World.block_lt_of_cell? w3 ⟨b, o, none⟩ h1
      have hlt2 : b < w3.heap.size := hlt
      refine on_mk ((h4.cell (p := ⟨b, o, none⟩) hlt2).trans h1) ?_
      rcases h2 with e | e
      · exact .inl e
      · exact .inr ⟨e, hlt2⟩
    · have e : k7 < w.heap.size ∨ (w2.heap.size ≤ k7 ∧ k7 < w3.heap.size) := e
      omega
    · have := (HM.out.2.1 q hq).2; omega
  rw [World.setRow_alloc_new, hx4, hk7]
  have HA4 := Lib.hid hA4
  clear hx4 hk7 h4 hk4 hA4 HR3 HM ONE0
  go_wp2_with fail
  refine (lives7_calls _).mono ?_
  rintro e w4 ⟨rfl, hb4⟩
  have hA5 := HA4.out.below hb4
  have HA5 := Lib.hid hA5
  clear hb4 HA4 hA5
  go_wp2
  go_loopw [44, 9, 10, 11, 12, 13, 14, 15] (fun i _ _ _ _ _ _ _ wr => ∃ (k : Nat) (mk : Mach) (cs' : List Value) (Z : Nat → Prop), i = .int .i64 k ∧ k ≤ l.length ∧ Hid (SrAt w wr R g L u k7 Z cs' mk k)) (fun i _ _ _ _ _ _ _ _ => l.length - (intOf i).toNat)
  case atStart => exact ⟨0, _, _, _, rfl, by omega, HA5⟩
  case round =>
    clear HA5
    obtain ⟨k, mk, csk, Z, rfl, hk, HH⟩ := hrel
    obtain ⟨su1, lu1, gu1, va1, vo1, vm1, vh1, vp1, rfl, hrs⟩ := id HH.out.ref
    by_cases hlt : k < l.length
    · obtain ⟨t, ht⟩ : ∃ t, l[k]? = some t := ⟨_, List.getElem?_eq_getElem hlt⟩
      obtain ⟨sb, so, rfl, hsc⟩ := (HV.out.mono (cmap_below HH.out.a.bel)).at_ ht
      rw [Nat.mul_one] at hsc
      have hcs : wr.cell? ⟨sb, so + k, none⟩ = some (.int .i64 t) := hsc
      have i0 : (0 : Int) ≤ k := by omega
      have i1 : (k : Int) < l.length := by omega
      have HLM : Hid (∀ j v, ([su1, lu1, gu1, va1, vo1, vm1, vh1, vp1] : List Value)[j]? = some v → wr.cell? ⟨k7, 0 + j, none⟩ = some v) := Lib.hid fun j v hj => by rw [Nat.zero_add, (HH.out.b7).cell]; exact hj
      have HST := Lib.hid (r7step_calls _ u mk t wr Z HH.out.ref HK.out.1 HK.out.2.2.1 HK.out.2.1 HH.out.situ (by have := HH.out.pr; omega))
      obtain ⟨bv, hbv⟩ : ∃ b, barF u mk t = b := ⟨_, rfl⟩
      obtain ⟨d, hd⟩ : ∃ d, stepD u mk t = d := ⟨_, rfl⟩
      rw [hbv, hd] at HST
      have HBD := Lib.hid (And.intro hbv hd)
      clear hsc hrs ht hbv hd
      go_wp2_with (first
        | (refine wpList_load_at rfl 35 _ rfl k7 0 rfl _ _ HLM.out Tryz.underlying35 rfl (by kernel_rfl) ?_))
      refine HST.out.mono ?_
      rintro e w6 ⟨cs2, rfl, hr6, hb6⟩
      obtain ⟨su2, lu2, gu2, va2, vo2, vm2, vh2, vp2, rfl, hrs⟩ := id hr6
      have ONEF := ref_oneA hr6
      have HR6 := Lib.hid (And.intro hr6 hb6)
      clear hr6 hrs hb6 HLM HST hcs
      go_wp2_with (first
        | (refine stop_store 35 rfl ?_)
        | (refine stop_store 41 rfl ?_))
      refine Stop.intro ?_
      have ka : Blk ((w6.alloc (.cells #[.slice none 0 0, .slice none 0 0, .slice none 0 0, .slice none 0 0, .slice none 0 0, .slice none 0 0, .slice none 0 0, .slice none 0 0] 35)).alloc (.cells #[.int .i64 0, .int .i64 0, .int .u8 0, .int .i64 0, .int .i64 0, .int .i64 0] 41)) w6.heap.size 35 [.slice none 0 0, .slice none 0 0, .slice none 0 0, .slice none 0 0, .slice none 0 0, .slice none 0 0, .slice none 0 0, .slice none 0 0] := (Blk.new w6 _ _).alloc _
      have kb : Blk ((w6.alloc (.cells #[.slice none 0 0, .slice none 0 0, .slice none 0 0, .slice none 0 0, .slice none 0 0, .slice none 0 0, .slice none 0 0, .slice none 0 0] 35)).alloc (.cells #[.int .i64 0, .int .i64 0, .int .u8 0, .int .i64 0, .int .i64 0, .int .i64 0] 41)) (w6.heap.size + 1) 41 [.int .i64 0, .int .i64 0, .int .u8 0, .int .i64 0, .int .i64 0, .int .i64 0] := Blk.of (heap_new (w6.alloc _) _ _ (by simp)) rfl
      have kz : Below w6.heap.size w6 ((w6.alloc (.cells #[.slice none 0 0, .slice none 0 0, .slice none 0 0, .slice none 0 0, .slice none 0 0, .slice none 0 0, .slice none 0 0, .slice none 0 0] 35)).alloc (.cells #[.int .i64 0, .int .i64 0, .int .u8 0, .int .i64 0, .int .i64 0, .int .i64 0] 41)) := (Below_alloc' w6 _).alloc (by simp) _
      refine wpList_plain rfl fun K hK => wp_store_row 35 _ _ rfl w6.heap.size ([su2, lu2, gu2, va2, vo2, vm2, vh2, vp2] : List Value).toArray rfl rfl 35 _ ka (by kernel_rfl) rfl ?one (hK _ _ ?_)
      case one => exact ONEF
      have ka1 : Blk (((w6.alloc (.cells #[.slice none 0 0, .slice none 0 0, .slice none 0 0, .slice none 0 0, .slice none 0 0, .slice none 0 0, .slice none 0 0, .slice none 0 0] 35)).alloc (.cells #[.int .i64 0, .int .i64 0, .int .u8 0, .int .i64 0, .int .i64 0, .int .i64 0] 41)).setRow w6.heap.size ([su2, lu2, gu2, va2, vo2, vm2, vh2, vp2] : List Value).toArray) w6.heap.size 35 [su2, lu2, gu2, va2, vo2, vm2, vh2, vp2] := Blk.setRow (cs' := [su2, lu2, gu2, va2, vo2, vm2, vh2, vp2]) ka
      have kb1 : Blk (((w6.alloc (.cells #[.slice none 0 0, .slice none 0 0, .slice none 0 0, .slice none 0 0, .slice none 0 0, .slice none 0 0, .slice none 0 0, .slice none 0 0] 35)).alloc (.cells #[.int .i64 0, .int .i64 0, .int .u8 0, .int .i64 0, .int .i64 0, .int .i64 0] 41)).setRow w6.heap.size ([su2, lu2, gu2, va2, vo2, vm2, vh2, vp2] : List Value).toArray) (w6.heap.size + 1) 41 [.int .i64 0, .int .i64 0, .int .u8 0, .int .i64 0, .int .i64 0, .int .i64 0] := (heap_setRow_ne (by omega) _).trans kb
      have kz1 : Below w6.heap.size w6 (((w6.alloc (.cells #[.slice none 0 0, .slice none 0 0, .slice none 0 0, .slice none 0 0, .slice none 0 0, .slice none 0 0, .slice none 0 0, .slice none 0 0] 35)).alloc (.cells #[.int .i64 0, .int .i64 0, .int .u8 0, .int .i64 0, .int .i64 0, .int .i64 0] 41)).setRow w6.heap.size ([su2, lu2, gu2, va2, vo2, vm2, vh2, vp2] : List Value).toArray) := below_row kz (Nat.le_refl _) _
      obtain ⟨x7, hx7⟩ : ∃ x, ((w6.alloc (.cells #[.slice none 0 0, .slice none 0 0, .slice none 0 0, .slice none 0 0, .slice none 0 0, .slice none 0 0, .slice none 0 0, .slice none 0 0] 35)).alloc (.cells #[.int .i64 0, .int .i64 0, .int .u8 0, .int .i64 0, .int .i64 0, .int .i64 0] 41)).setRow w6.heap.size ([su2, lu2, gu2, va2, vo2, vm2, vh2, vp2] : List Value).toArray = x := ⟨_, rfl⟩
      rw [hx7] at ka1 kb1 kz1 ⊢
      simp only [put_none]
      refine wpList_plain rfl fun K hK => wp_store_row 41 _ _ rfl (w6.heap.size + 1) d.cells.toArray rfl rfl 41 _ kb1 (by kernel_rfl) rfl (by simp [Did.cells, Value.oneCell']) (hK _ _ ?_)
      have ka2 : Blk (x7.setRow (w6.heap.size + 1) d.cells.toArray) w6.heap.size 35 [su2, lu2, gu2, va2, vo2, vm2, vh2, vp2] := (heap_setRow_ne (by omega) _).trans ka1
      have kb2 : Blk (x7.setRow (w6.heap.size + 1) d.cells.toArray) (w6.heap.size + 1) 41 d.cells := Blk.setRow (cs' := d.cells) kb1
      have kz2 : Below w6.heap.size w6 (x7.setRow (w6.heap.size + 1) d.cells.toArray) := below_row kz1 (by omega) _
      obtain ⟨x8, hx8⟩ : ∃ x, x7.setRow (w6.heap.size + 1) d.cells.toArray = x := ⟨_, rfl⟩
      rw [hx8] at ka2 kb2 kz2 ⊢
      simp only [put_none]
      have HLM2 : Hid (∀ j v, ([su2, lu2, gu2, va2, vo2, vm2, vh2, vp2] : List Value)[j]? = some v → x8.cell? ⟨w6.heap.size, 0 + j, none⟩ = some v) := Lib.hid fun j v hj => by rw [Nat.zero_add, (ka2).cell]; exact hj
      have hS := HH.out.refStep HR6.out.2 kz2 HR6.out.1
      have k78 : Blk x8 k7 35 [su1, lu1, gu1, va1, vo1, vm1, vh1, vp1] := HH.out.b7.below (HR6.out.2.trans (kz2.mono HR6.out.2.size)) HH.out.b7.lt
      have hne7 : w6.heap.size + 1 ≠ k7 := by have := HH.out.b7.lt; have := HR6.out.2.size; omega
      have hgb : wr.heap.size ≤ w6.heap.size + 1 := by have := HR6.out.2.size; omega
      have HS8 := Lib.hid (And.intro hS (And.intro k78 (And.intro kb2 (And.intro hne7 (And.intro hgb kz2)))))
      clear ka kb kz ka1 kb1 kz1 ka2 kb2 kz2 hx7 hx8 hS k78 hne7 hgb
      go_wp2_with (first
        | (refine wpList_load_at rfl 35 _ rfl w6.heap.size 0 rfl _ _ HLM2.out Tryz.underlying35 rfl (by kernel_rfl) ?_)
        | (refine stop_store 35 rfl ?_))
      refine Stop.intro ?_
      refine wpList_plain rfl fun K hK => wp_store_row 35 _ _ rfl k7 ([su2, lu2, gu2, va2, vo2, vm2, vh2, vp2] : List Value).toArray rfl rfl 35 _ HS8.out.2.1 (by kernel_rfl) rfl ?one (hK _ _ ?_)
      case one => exact ONEF
      have hS := HS8.out.1
      have kb3 : Blk (x8.setRow k7 ([su2, lu2, gu2, va2, vo2, vm2, vh2, vp2] : List Value).toArray) (w6.heap.size + 1) 41 d.cells := (heap_setRow_ne HS8.out.2.2.2.1 _).trans HS8.out.2.2.1
      obtain ⟨x9, hx9⟩ : ∃ x, x8.setRow k7 ([su2, lu2, gu2, va2, vo2, vm2, vh2, vp2] : List Value).toArray = x := ⟨_, rfl⟩
      rw [hx9] at hS kb3 ⊢
      simp only [put_none]
      obtain ⟨pv, k1, k2⟩ := hS.1.ex
      have hst := step_calls t k1 HH.out.situ.ok HH.out.situ.mi HK.out.1 HK.out.2.1 (by have := HH.out.pr; omega) hS.1.rl
      rw [HBD.out.1, HBD.out.2] at hst
      have HSC := Lib.hid hst
      have HS9 := Lib.hid (And.intro hS (And.intro kb3 (And.intro k1 k2)))
      have hgb2 := HS8.out.2.2.2.2.1
      have HGB := Lib.hid hgb2
      clear hS kb3 k1 k2 hst hx9 HS8 HR6 HLM2 hgb2 ONEF
      go_wp2_with fail
      refine HSC.out.mono ?_
      rintro e w10 ⟨rfl, hmade⟩
      have hmd := HS9.out.1.1.made HS9.out.2.2.2 hmade
      have hsz10 := hmade.fr.size
      have kb10 : Blk w10 (w6.heap.size + 1) 41 d.cells := HS9.out.2.1.fr hmade.fr (HS9.out.2.2.1.notmut HS9.out.2.1 (by decide) (by decide) (by decide) (by decide))
      have k710 : Blk w10 k7 35 [su2, lu2, gu2, va2, vo2, vm2, vh2, vp2] := HS9.out.1.2.2.1.fr hmade.fr (HS9.out.2.2.1.notmut HS9.out.1.2.2.1 (by decide) (by decide) (by decide) (by decide))
      have hA10 : SrAt w w10 R g L u k7 _ [su2, lu2, gu2, va2, vo2, vm2, vh2, vp2] (stepM u mk t) (k + 1) :=
        ⟨hmd.1, HS9.out.1.2.1.mono hmd.2, k710, HS9.out.1.2.2.2, HH.out.ge, HH.out.rk, HH.out.situ.step HK.out.1 HK.out.2.1 t, HH.out.pri.step HK.out.1 HK.out.2.1 HH.out.situ t, by have := stepM_pr u mk t; have := HH.out.pr; omega⟩
      have HA10 := Lib.hid (And.intro hA10 kb10)
      clear hmd hmade kb10 k710 hA10 HS9 HSC hsz10
      go_wp2_with (first
        | (refine stop_store 41 rfl ?_))
      refine Stop.intro ?_
      refine wpList_plain rfl fun K hK => wp_store_row 41 _ _ rfl w10.heap.size d.cells.toArray rfl rfl 41 _ (heap_new w10 _ _ rfl) (by kernel_rfl) rfl (by simp [Did.cells, Value.oneCell']) (hK _ _ ?_)
      simp only [put_none]
      obtain ⟨x11, hx11⟩ : ∃ x, w10.alloc (.cells d.cells.toArray 41) = x := ⟨_, rfl⟩
      rw [World.setRow_alloc_new, hx11]
      have hb11 : Below w10.heap.size w10 x11 := by rw [← hx11]; exact Below_alloc' w10 _
      have k11 : Blk x11 w10.heap.size 41 d.cells := by rw [← hx11]; exact Blk.new w10 _ _
      have kb11 := HA10.out.2.below hb11 HA10.out.2.lt
      have hA11 := HA10.out.1.below hb11
      have DCF : d.cells = [.int .i64 d.thread, .int .i64 d.node, .int .u8 d.kind, .int .i64 d.thing, .int .i64 d.word, .int .i64 d.put] := rfl
      rw [DCF] at k11 kb11
      have HLA : Hid (∀ j v, ([.int .i64 d.thread, .int .i64 d.node, .int .u8 d.kind, .int .i64 d.thing, .int .i64 d.word, .int .i64 d.put] : List Value)[j]? = some v → x11.cell? ⟨w10.heap.size, 0 + j, none⟩ = some v) := Lib.hid fun j v hj => by rw [Nat.zero_add, (k11).cell]; exact hj
      have HLB : Hid (∀ j v, ([.int .i64 d.thread, .int .i64 d.node, .int .u8 d.kind, .int .i64 d.thing, .int .i64 d.word, .int .i64 d.put] : List Value)[j]? = some v → x11.cell? ⟨(w6.heap.size + 1), 0 + j, none⟩ = some v) := Lib.hid fun j v hj => by rw [Nat.zero_add, (kb11).cell]; exact hj
      have HLM : Hid (∀ j v, ([su2, lu2, gu2, va2, vo2, vm2, vh2, vp2] : List Value)[j]? = some v → x11.cell? ⟨k7, 0 + j, none⟩ = some v) := Lib.hid fun j v hj => by rw [Nat.zero_add, (hA11.b7).cell]; exact hj
      obtain ⟨pv, hM, hmu⟩ := hA11.a.ex
      have HSM := Lib.hid (same7_calls _ u _ x11 R g _ hM (hA11.ref.mono (on_le _ _)) HK.out.1 HK.out.2.2.1 hA11.situ hA11.pri (by have := hA11.pr; omega))
      have HA11 := Lib.hid hA11
      have hm : Tryz.prog.eqGuardType Tryz.prog.depth 41 = false := by kernel_rfl
      have heq := eq_acted d
      have hbb : (bv != bv) = false := by simp
      clear hx11 hb11 k11 kb11 hA11 DCF hM hmu HA10 HGB
      by_cases hk40 : k < 40
      · have d40 : decide ((k : Int) < 40) = true := decide_eq_true (by omega)
        have p0 : x11.cell? ⟨k7, 0, none⟩ = some su2 := HLM.out 0 _ rfl
        have p1 : x11.cell? ⟨k7, 1, none⟩ = some lu2 := HLM.out 1 _ rfl
        have p2 : x11.cell? ⟨k7, 2, none⟩ = some gu2 := HLM.out 2 _ rfl
        have p3 : x11.cell? ⟨k7, 3, none⟩ = some va2 := HLM.out 3 _ rfl
        have p4 : x11.cell? ⟨k7, 4, none⟩ = some vo2 := HLM.out 4 _ rfl
        have p5 : x11.cell? ⟨k7, 5, none⟩ = some vm2 := HLM.out 5 _ rfl
        have p6 : x11.cell? ⟨k7, 6, none⟩ = some vh2 := HLM.out 6 _ rfl
        have p7 : x11.cell? ⟨k7, 7, none⟩ = some vp2 := HLM.out 7 _ rfl
        go_wp2_with (first
          | (refine wpList_load_at rfl 41 _ rfl w10.heap.size 0 rfl _ _ HLA.out Tryz.underlying41 rfl (by kernel_rfl) ?_)
          | (refine wpList_load_at rfl 41 _ rfl (w6.heap.size + 1) 0 rfl _ _ HLB.out Tryz.underlying41 rfl (by kernel_rfl) ?_)
          | (refine wpList_load_at rfl 35 _ rfl k7 0 rfl _ _ HLM.out Tryz.underlying35 rfl (by kernel_rfl) ?_))
        refine HSM.out.mono ?_
        rintro e w12 ⟨rfl, hb12⟩
        have HA12 := Lib.hid (HA11.out.below hb12)
        clear hb12
        go_wp2
        go_roundw
        case rel => exact ⟨k + 1, _, _, _, by go_num, by omega, HA12⟩
        case measure => simp [intOf]; omega
      · have d40 : decide ((k : Int) < 40) = false := decide_eq_false (by omega)
        clear HSM HLM
        go_wp2_with (first
          | (refine wpList_load_at rfl 41 _ rfl w10.heap.size 0 rfl _ _ HLA.out Tryz.underlying41 rfl (by kernel_rfl) ?_)
          | (refine wpList_load_at rfl 41 _ rfl (w6.heap.size + 1) 0 rfl _ _ HLB.out Tryz.underlying41 rfl (by kernel_rfl) ?_))
        go_roundw
        case rel => exact ⟨k + 1, _, _, _, by go_num, by omega, HA11⟩
        case measure => simp [intOf]; omega
    · obtain rfl : k = l.length := by omega
      have ng : ¬ ((l.length : Int) < l.length) := by omega
      have HLM : Hid (∀ j v, ([su1, lu1, gu1, va1, vo1, vm1, vh1, vp1] : List Value)[j]? = some v → wr.cell? ⟨k7, 0 + j, none⟩ = some v) := Lib.hid fun j v hj => by rw [Nat.zero_add, (HH.out.b7).cell]; exact hj
      obtain ⟨pv, hM, hmu⟩ := HH.out.a.ex
      have HSM := Lib.hid (same7_calls _ u _ wr R g _ hM (HH.out.ref.mono (on_le _ _)) HK.out.1 HK.out.2.2.1 HH.out.situ HH.out.pri (by have := HH.out.pr; omega))
      have HBL := Lib.hid HH.out.a.bel
      clear hM hmu hrs hk hlt
      go_wp2_with (first
        | (refine wpList_load_at rfl 35 _ rfl k7 0 rfl _ _ HLM.out Tryz.underlying35 rfl (by kernel_rfl) ?_))
      refine HSM.out.mono ?_
      rintro e w12 ⟨rfl, hb12⟩
      have HF := Lib.hid (HBL.out.trans (hb12.mono HBL.out.size))
      clear hb12
      go_wp2
      go_ret
      exact ⟨rfl, HF.out⟩
theorem sourceSteps_calls (w : World) (cs : List Value) (u : Unit_) (A : Option Addr) (c : Nat) (l : List Int) (hu : UnitV (cmap w) cs u) (hok : UOk u) (hso : SOk u) (hv : Ints (cmap w) (.slice A l.length c) l) (_hi : ∀ x ∈ l, i64 x) (hl : l.length ≤ 1048576) :
    Calls Tryz.prog 3 #[.agg cs.toArray, .slice A l.length c] w fun e w' => e = .returned (.bool true) ∧ Below w.heap.size w w' := by
  cases hc : checkF u with
  | none => exact steps_good u cs A c l w hu hok hso hv hl hc
  | some p => exact steps_bad u cs _ w hu hok (by rw [hc]; simp)
end Go.Proofs.YtmkpjiahkepigaaGreat
