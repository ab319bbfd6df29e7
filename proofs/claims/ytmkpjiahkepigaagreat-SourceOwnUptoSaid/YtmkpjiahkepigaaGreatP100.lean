import Derived.Test.YtmkpjiahkepigaaGreatP95
import Derived.Test.YtmkpjiahkepigaaGreatP98
import Derived.Test.YtmkpjiahkepigaaGreatP99
import Derived.Test.YtmkpjiahkepigaaGreatP76
import Derived.Test.YtmkpjiahkepigaaGreatP73
import Derived.Laws.StructEq
/- The source machine and the reference's beside it, within a law. -/
namespace Go.Proofs.YtmkpjiahkepigaaGreat
open Go Go.RowKit
section
variable {w wr wx : World} {R Z Z' : Nat → Prop} {g : Nat} {L : Lay} {u : Unit_} {m m' : Mach}
/-- What was made meanwhile is never written by the machine. -/
theorem MAz.grow (h : MAz w wr R g L u Z m) (hx : Below wr.heap.size wr wx) : MAz w wx R g L u (fun q => Z q ∨ (wr.heap.size ≤ q ∧ q < wx.heap.size)) m := by
  obtain ⟨pv, h1, h2⟩ := h.ex
  refine ⟨⟨pv, h1.below hx, fun q hq => ⟨(h2 q hq).1, fun e => ?_⟩⟩, fun q hq => Nat.lt_of_lt_of_le (h.rl q hq) hx.size, h.bel.trans (hx.mono h.bel.size), fun q hq => ?_⟩
  · rcases e with e | e
    · exact (h2 q hq).2 e
    · have := h1.lt hq; omega
  · rcases hq with e | e
    · exact Nat.lt_of_lt_of_le (h.zl q e) hx.size
    · exact e.2
/-- A block of the law's own is written. -/
theorem MAz.row (h : MAz w wr R g L u Z m) {k : Nat} {T : TypeId} {cs : List Value} (hk : Blk wr k T cs) (h1 : T ≠ 81) (h2 : T ≠ 3) (h3 : T ≠ 2) (h4 : T ≠ 77) (hR : ∀ q, R q → q ≠ k) (hw : w.heap.size ≤ k) (cs' : Array Value) : MAz w (wr.setRow k cs') R g L u Z m := by
  obtain ⟨pv, k1, k2⟩ := h.ex
  have hsz : (wr.setRow k cs').heap.size = wr.heap.size := by simp [World.setRow]
  exact ⟨⟨pv, k1.fr (FrW.setRow (S := fun q => q = k) wr rfl cs') (fun b hb e => by subst e; exact k1.notmut hk h1 h2 h3 h4 hb) (fun b hb e => hR b hb e), k2⟩, fun q hq => by rw [hsz]; exact h.rl q hq, below_row h.bel hw _, fun q hq => by rw [hsz]; exact h.zl q hq⟩
end
theorem ref_oneA {mp : CM} {cs : List Value} {u : Unit_} {m : Mach} (h : RefV mp cs u m) : cs.toArray.all (·.oneCell') = true := by
  obtain ⟨su, lu, gu, va, vo, vm, vh, vp, rfl, hr⟩ := h
  obtain ⟨sv, lv, gv, e, ⟨sA, sc, hs, -⟩, ⟨lA, lc, hl, -⟩, ⟨gA, gc, hg, -⟩⟩ := id hr.unit
  injection e with e1 e
  injection e with e2 e
  injection e with e3 _
  subst e1 e2 e3 hs hl hg
  obtain ⟨aA, ac, rfl, -⟩ := id hr.at_
  obtain ⟨oA, oc, rfl, -⟩ := id hr.slots
  obtain ⟨mA, mc, rfl, -⟩ := id hr.mem
  obtain ⟨hA, hc, rfl, -⟩ := id hr.hold
  obtain ⟨pA, pc, rfl, -⟩ := id hr.prints
  simp [Value.oneCell']
/-- Behind k steps of both. -/
structure SrAt (w wr : World) (R : Nat → Prop) (g : Nat) (L : Lay) (u : Unit_) (k7 : Nat) (Z : Nat → Prop) (cs : List Value) (m : Mach) (k : Nat) : Prop where
  a : MAz w wr R g L u Z m
  ref : RefV (on wr Z) cs u m
  b7 : Blk wr k7 35 cs
  nz : ¬ Z k7
  ge : w.heap.size ≤ k7
  rk : ∀ q, R q → q < k7
  situ : Situ u m
  pri : PrI m
  pr : m.prints.length ≤ k
section
variable {w wr wx : World} {R Z : Nat → Prop} {g : Nat} {L : Lay} {u : Unit_} {k7 : Nat} {cs cs' : List Value} {m : Mach} {k : Nat}
theorem SrAt.below (h : SrAt w wr R g L u k7 Z cs m k) (hx : Below wr.heap.size wr wx) : SrAt w wx R g L u k7 Z cs m k :=
  ⟨h.a.below hx, h.ref.mono (on_keep (fun b _ hlt => hx.block b hlt) fun _ hb => hb), h.b7.below hx h.b7.lt, h.nz, h.ge, h.rk, h.situ, h.pri, h.pr⟩
theorem SrAt.succ (h : SrAt w wr R g L u k7 Z cs m k) : SrAt w wr R g L u k7 Z cs m (k + 1) := ⟨h.a, h.ref, h.b7, h.nz, h.ge, h.rk, h.situ, h.pri, by have := h.pr; omega⟩
theorem stepM_pr (u : Unit_) (m : Mach) (t : Int) : (stepM u m t).prints.length ≤ m.prints.length + 1 := by
  unfold stepM
  split
  · omega
  · split
    · omega
    · show (actM m t.toNat _).prints.length ≤ _
      unfold actM Mach.setSlot Mach.setVar Mach.setHolder
      repeat (first | split | (simp only [List.length_append, List.length_singleton]; omega) | omega)
/-- The reference has stepped; its answer lies in the law's own block. -/
theorem SrAt.refStep (h : SrAt w wr R g L u k7 Z cs m k) {w1 x2 : World} {m' : Mach} (hb1 : Below wr.heap.size wr w1) (hb2 : Below w1.heap.size w1 x2) (hr : RefV (on w1 (fun b => Z b ∨ wr.heap.size ≤ b)) cs' u m') :
    MAz w (x2.setRow k7 cs'.toArray) R g L u (fun q => Z q ∨ (wr.heap.size ≤ q ∧ q < x2.heap.size)) m ∧ RefV (on (x2.setRow k7 cs'.toArray) (fun q => Z q ∨ (wr.heap.size ≤ q ∧ q < x2.heap.size))) cs' u m' ∧ Blk (x2.setRow k7 cs'.toArray) k7 35 cs' ∧ ¬ (fun q => Z q ∨ (wr.heap.size ≤ q ∧ q < x2.heap.size)) k7 := by
  have hbb := hb1.trans (hb2.mono hb1.size)
  have k0 := h.b7.below hbb h.b7.lt
  have hz : ¬ (fun q => Z q ∨ (wr.heap.size ≤ q ∧ q < x2.heap.size)) k7 := fun e => by
    rcases e with e | e
    · exact h.nz e
    · have := h.b7.lt; omega
  refine ⟨(h.a.grow hbb).row k0 (by decide) (by decide) (by decide) (by decide) (fun q hq e => by have := h.rk q hq; omega) h.ge _, ?_, Blk.setRow k0, hz⟩
  refine hr.mono ?_
  intro b o v hv
  obtain ⟨h1, h2⟩ := on_at hv
  have hlt := World.block_lt_of_cell? w1 ⟨b, o, none⟩ h1
  have hlt2 : b < w1.heap.size := hlt
  have hne : b ≠ k7 := fun e => by
    subst e
    rcases h2 with e | e
    · exact h.nz e
    · have := h.b7.lt; omega
  refine on_mk ?_ ?_
  · have h3 : x2.cell? ⟨b, o, none⟩ = some v := (hb2.cell (p := ⟨b, o, none⟩) hlt2).trans h1
    exact (World.cell?_of_block (a := ⟨b, o, none⟩) (heap_setRow_ne hne _)).trans h3
  · rcases h2 with e | e
    · exact .inl e
    · exact .inr ⟨e, Nat.lt_of_lt_of_le hlt2 hb2.size⟩
end
end Go.Proofs.YtmkpjiahkepigaaGreat
/- The walk of the law SourceSteps. -/
namespace Go.Proofs.YtmkpjiahkepigaaGreat
open Go Go.RowKit
theorem on_low {w wr : World} (hb : Below w.heap.size w wr) : (cmap w).le (on wr fun q => q < w.heap.size) := fun b o v hv => on_mk (cmap_below hb b o v hv) (World.block_lt_of_cell? w ⟨b, o, none⟩ hv)
set_option maxRecDepth 100000 in
set_option maxHeartbeats 1000000 in
theorem eq_acted (d : Did) (w : World) : (Op.equalIn 10000 41 (.agg #[.int .i64 d.thread, .int .i64 d.node, .int .u8 d.kind, .int .i64 d.thing, .int .i64 d.word, .int .i64 d.put]) (.agg #[.int .i64 d.thread, .int .i64 d.node, .int .u8 d.kind, .int .i64 d.thing, .int .i64 d.word, .int .i64 d.put])).run Tryz.prog w = .ok true w := by
  have hS : Tryz.prog.underlying 41 = some (.struct (Tryz.prog.fieldsOf 41)) := by kernel_rfl
  have hp : Tryz.prog.stoodInHeld 41 = false := by kernel_rfl
  rw [show (10000 : Nat) = 9999 + 1 from rfl, run_equalIn_agg w 9999 41 _ _ hS hp]
  simp only [Program.fieldsOf, Tryz.underlying41]
  go_simp
end Go.Proofs.YtmkpjiahkepigaaGreat
