import Derived.Test.YtffgnjgphkdodaaGreatDoorP73
/- A source machine within a law, beside cells that it never writes. -/
namespace Go.Proofs.YtffgnjgphkdodaaGreatDoor
open Go Go.RowKit
/-- Z: blocks that the machine never writes. -/
structure MAz (w wr : World) (R : Nat → Prop) (g : Nat) (L : Lay) (u : Unit_) (Z : Nat → Prop) (m : Mach) : Prop where
  ex : ∃ pv, MachB wr R g { L with pv := pv } u m ∧ ∀ q, ({ L with pv := pv } : Lay).mut g q → w.heap.size ≤ q ∧ ¬ Z q
  rl : ∀ q, R q → q < wr.heap.size
  bel : Below w.heap.size w wr
  zl : ∀ q, Z q → q < wr.heap.size
section
variable {w wr wx w0 w1 : World} {R Z : Nat → Prop} {g : Nat} {L : Lay} {u : Unit_} {m m' : Mach}
theorem MAz.below (h : MAz w wr R g L u Z m) (hx : Below wr.heap.size wr wx) : MAz w wx R g L u Z m := by
  obtain ⟨pv, h1, h2⟩ := h.ex
  exact ⟨⟨pv, h1.below hx, h2⟩, fun q hq => Nat.lt_of_lt_of_le (h.rl q hq) hx.size, h.bel.trans (hx.mono h.bel.size), fun q hq => Nat.lt_of_lt_of_le (h.zl q hq) hx.size⟩
theorem MAz.made (h : MAz w wr R g L u Z m) {pv : Value} (h2 : ∀ q, ({ L with pv := pv } : Lay).mut g q → w.heap.size ≤ q ∧ ¬ Z q) (hm : MadeP wr wx R g { L with pv := pv } u m') : MAz w wx R g L u Z m' ∧ (on wr Z).le (on wx Z) := by
  obtain ⟨pv2, k1, k2⟩ := hm.ex
  refine ⟨⟨⟨pv2, k1, fun q hq => ?_⟩, fun q hq => Nat.lt_of_lt_of_le (h.rl q hq) hm.fr.size, h.bel.trans (hm.fr.grow w.heap.size h.bel.size fun q hq => (h2 q hq).1), fun q hq => Nat.lt_of_lt_of_le (h.zl q hq) hm.fr.size⟩, hm.fr.on fun q hq e => (h2 q e).2 hq⟩
  rcases k2 q hq with e | e
  · exact h2 q e
  · exact ⟨Nat.le_trans h.bel.size e, fun k => by have := h.zl q k; omega⟩
theorem MAz.start (hw : Below w.heap.size w w0) (hM : MachB w1 R g L u m) (hR : ∀ q, R q → w0.heap.size ≤ q ∧ q < w1.heap.size) (hmu : ∀ q, L.mut g q → w0.heap.size ≤ q) (hb : Below w0.heap.size w0 w1) (hx : Below w1.heap.size w1 wr) : MAz w wr R g L u (fun q => w1.heap.size ≤ q ∧ q < wr.heap.size) m :=
  ⟨⟨L.pv, hM.below hx, fun q hq => ⟨Nat.le_trans hw.size (hmu q hq), fun e => by have := hM.lt hq; omega⟩⟩, fun q hq => Nat.lt_of_lt_of_le (hR q hq).2 hx.size, (hw.trans (hb.mono hw.size)).trans (hx.mono (Nat.le_trans hw.size hb.size)), fun q hq => hq.2⟩
end
end Go.Proofs.YtffgnjgphkdodaaGreatDoor
