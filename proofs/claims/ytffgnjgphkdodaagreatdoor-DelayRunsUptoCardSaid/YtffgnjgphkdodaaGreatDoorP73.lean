import Derived.Test.YtffgnjgphkdodaaGreatDoorP72
import Derived.Test.YtffgnjgphkdodaaGreatDoorP71
/- The walk of the law's lives: a unit of one thread that sets x to 5 and prints it. -/
namespace Go.Proofs.YtffgnjgphkdodaaGreatDoor
open Go Go.RowKit
def zv : Val := ⟨false, 0, 0⟩
end Go.Proofs.YtffgnjgphkdodaaGreatDoor
/- A source machine within a law: what the law's own blocks are to it. -/
namespace Go.Proofs.YtffgnjgphkdodaaGreatDoor
open Go Go.RowKit
theorem MachB.mut_pv {w : World} {R : Nat → Prop} {g : Nat} {L : Lay} {u : Unit_} {m : Mach} {pv : Value} (h : MachB w R g { L with pv := pv } u m) {b : Nat} {cur : Array Value} {T : TypeId} (hb : w.heap[b]? = some (.cells cur T (0, 0))) (hT : 232 ≠ T) (hn : ¬ L.mut g b) : ¬ ({ L with pv := pv } : Lay).mut g b := by
  rintro (e | e | e | e | e | e)
  · exact hn (.inl e)
  · exact hn (.inr (.inl e))
  · exact hn (.inr (.inr (.inl e)))
  · exact hn (.inr (.inr (.inr (.inl e))))
  · exact own_ne h.prints hb hT e
  · exact hn (.inr (.inr (.inr (.inr (.inr e)))))
/-- w: the world ahead of the law; wr: now. -/
structure MAt (w wr : World) (R : Nat → Prop) (g : Nat) (L : Lay) (u : Unit_) (m : Mach) : Prop where
  ex : ∃ pv, MachB wr R g { L with pv := pv } u m ∧ ∀ q, ({ L with pv := pv } : Lay).mut g q → w.heap.size ≤ q
  rl : ∀ q, R q → q < wr.heap.size
  bel : Below w.heap.size w wr
/-- A block of the law's own. -/
structure OwnB (w wr : World) (R : Nat → Prop) (g : Nat) (L : Lay) (hb : Nat) (T : TypeId) (cs : List Value) : Prop where
  blk : Blk wr hb T cs
  nm : ¬ L.mut g hb
  nr : ¬ R hb
  ge : w.heap.size ≤ hb
section
variable {w wr wx w0 w1 : World} {R : Nat → Prop} {g : Nat} {L : Lay} {u : Unit_} {hb : Nat} {m m' : Mach} {T : TypeId} {cs : List Value}
theorem MAt.below (h : MAt w wr R g L u m) (hx : Below wr.heap.size wr wx) : MAt w wx R g L u m := by
  obtain ⟨pv, h1, h2⟩ := h.ex
  exact ⟨⟨pv, h1.below hx, h2⟩, fun q hq => Nat.lt_of_lt_of_le (h.rl q hq) hx.size, h.bel.trans (hx.mono h.bel.size)⟩
theorem OwnB.below (h : OwnB w wr R g L hb T cs) (hx : Below wr.heap.size wr wx) : OwnB w wx R g L hb T cs := ⟨h.blk.below hx h.blk.lt, h.nm, h.nr, h.ge⟩
theorem MAt.made (h : MAt w wr R g L u m) {pv : Value} (h2 : ∀ q, ({ L with pv := pv } : Lay).mut g q → w.heap.size ≤ q) (hm : MadeP wr wx R g { L with pv := pv } u m') : MAt w wx R g L u m' := by
  obtain ⟨pv2, k1, k2⟩ := hm.ex
  refine ⟨⟨pv2, k1, fun q hq => ?_⟩, fun q hq => Nat.lt_of_lt_of_le (h.rl q hq) hm.fr.size, h.bel.trans (hm.fr.grow w.heap.size h.bel.size fun q hq => h2 q hq)⟩
  rcases k2 q hq with e | e
  · exact h2 q e
  · exact Nat.le_trans h.bel.size e
theorem OwnB.made (h : OwnB w wr R g L hb T cs) {pv : Value} (h1 : MachB wr R g { L with pv := pv } u m) (hT : 232 ≠ T) (hm : MadeP wr wx R g { L with pv := pv } u m') : OwnB w wx R g L hb T cs :=
  ⟨h.blk.fr hm.fr (h1.mut_pv h.blk hT h.nm), h.nm, h.nr, h.ge⟩
/-- The law writes a block of its own. -/
theorem MAt.set (h : MAt w wr R g L u m) (ho : OwnB w wr R g L hb T cs) (hT : 232 ≠ T) (j : Nat) (v : Value) : MAt w (wr.setCell ⟨hb, j, none⟩ v) R g L u m ∧ OwnB w (wr.setCell ⟨hb, j, none⟩ v) R g L hb T (cs.set j v) := by
  obtain ⟨pv, h1, h2⟩ := h.ex
  refine ⟨⟨⟨pv, h1.setOther (h1.mut_pv ho.blk hT ho.nm) ho.nr j v, h2⟩, fun q hq => by have := h.rl q hq; simpa [World.setCell] using this, h.bel.setCell ho.ge v⟩, ho.blk.set_ j v, ho.nm, ho.nr, ho.ge⟩
theorem OwnB.new (h : MAt w wr R g L u m) (hL : ∀ q, L.mut g q → q < wr.heap.size) (T : TypeId) (cs : List Value) : OwnB w (wr.alloc (.cells cs.toArray T)) R g L wr.heap.size T cs :=
  ⟨Blk.new wr T cs, fun e => by have := hL _ e; omega, fun e => by have := h.rl _ e; omega, h.bel.size⟩
theorem MAt.start (hw : Below w.heap.size w w0) (hM : MachB w1 R g L u m) (hR : ∀ q, R q → w0.heap.size ≤ q ∧ q < w1.heap.size) (hmu : ∀ q, L.mut g q → w0.heap.size ≤ q) (hb : Below w0.heap.size w0 w1) : MAt w w1 R g L u m :=
  ⟨⟨L.pv, hM, fun q hq => Nat.le_trans hw.size (hmu q hq)⟩, fun q hq => (hR q hq).2, hw.trans (hb.mono hw.size)⟩
end
end Go.Proofs.YtffgnjgphkdodaaGreatDoor
