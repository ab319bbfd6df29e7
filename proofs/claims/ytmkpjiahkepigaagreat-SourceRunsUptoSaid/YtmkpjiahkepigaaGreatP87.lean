import Derived.Test.YtmkpjiahkepigaaGreatP85
import Derived.Test.YtmkpjiahkepigaaGreatP72
import Derived.Test.YtmkpjiahkepigaaGreatP86
/- Two source machines of one unit, side by side; rows of the law's own beside them. -/
namespace Go.Proofs.YtmkpjiahkepigaaGreat
open Go Go.RowKit
structure TwoM (w wr : World) (R1 : Nat → Prop) (g1 : Nat) (L1 : Lay) (R2 : Nat → Prop) (g2 : Nat) (L2 : Lay) (u : Unit_) (m1 m2 : Mach) : Prop where
  a : MachB wr R1 g1 L1 u m1
  b : MachB wr R2 g2 L2 u m2
  ab : ∀ q, L1.mut g1 q → w.heap.size ≤ q ∧ ¬ L2.mut g2 q ∧ ¬ R2 q
  ba : ∀ q, L2.mut g2 q → w.heap.size ≤ q ∧ ¬ R1 q
  r1 : ∀ q, R1 q → q < wr.heap.size
  r2 : ∀ q, R2 q → q < wr.heap.size
  bel : Below w.heap.size w wr
structure RowS (w wr : World) (R1 : Nat → Prop) (g1 : Nat) (L1 : Lay) (R2 : Nat → Prop) (g2 : Nat) (L2 : Lay) (v : Value) (l : List Int) : Prop where
  own : wr.ownsRow w.heap.size 3 1 v l.length (l.map (Value.int .i64))
  sep : ∀ q, v.ownBlock = some q → ¬ L1.mut g1 q ∧ ¬ R1 q ∧ ¬ L2.mut g2 q ∧ ¬ R2 q
section
variable {w wr wx : World} {R1 R2 : Nat → Prop} {g1 g2 : Nat} {L1 L2 : Lay} {u : Unit_} {m1 m2 m' : Mach} {v v' : Value} {l l' : List Int}
theorem TwoM.swap (h : TwoM w wr R1 g1 L1 R2 g2 L2 u m1 m2) : TwoM w wr R2 g2 L2 R1 g1 L1 u m2 m1 :=
  ⟨h.b, h.a, fun q hq => ⟨(h.ba q hq).1, fun e => (h.ab q e).2.1 hq, (h.ba q hq).2⟩, fun q hq => ⟨(h.ab q hq).1, (h.ab q hq).2.2⟩, h.r2, h.r1, h.bel⟩
theorem TwoM.below (h : TwoM w wr R1 g1 L1 R2 g2 L2 u m1 m2) (hx : Below wr.heap.size wr wx) : TwoM w wx R1 g1 L1 R2 g2 L2 u m1 m2 :=
  ⟨h.a.below hx, h.b.below hx, h.ab, h.ba, fun q hq => Nat.lt_of_lt_of_le (h.r1 q hq) hx.size, fun q hq => Nat.lt_of_lt_of_le (h.r2 q hq) hx.size, h.bel.trans (hx.mono h.bel.size)⟩
/-- What is written is none of the machines'. -/
theorem TwoM.fr {S : Nat → Prop} (h : TwoM w wr R1 g1 L1 R2 g2 L2 u m1 m2) (hf : FrW S wr wx) (h0 : ∀ q, S q → w.heap.size ≤ q) (hS : ∀ q, S q → ¬ L1.mut g1 q ∧ ¬ R1 q ∧ ¬ L2.mut g2 q ∧ ¬ R2 q) : TwoM w wx R1 g1 L1 R2 g2 L2 u m1 m2 :=
  ⟨h.a.fr hf (fun q k e => (hS q e).1 k) (fun q k e => (hS q e).2.1 k), h.b.fr hf (fun q k e => (hS q e).2.2.1 k) (fun q k e => (hS q e).2.2.2 k), h.ab, h.ba, fun q hq => Nat.lt_of_lt_of_le (h.r1 q hq) hf.size, fun q hq => Nat.lt_of_lt_of_le (h.r2 q hq) hf.size, h.bel.trans (hf.grow _ h.bel.size h0)⟩
theorem TwoM.made (h : TwoM w wr R1 g1 L1 R2 g2 L2 u m1 m2) (hm : MadeP wr wx R1 g1 L1 u m') : ∃ pv, TwoM w wx R1 g1 { L1 with pv := pv } R2 g2 L2 u m' m2 ∧ FrW (fun q => L1.mut g1 q) wr wx ∧ ∀ q, ({ L1 with pv := pv } : Lay).mut g1 q → L1.mut g1 q ∨ wr.heap.size ≤ q := by
  obtain ⟨pv, k1, k2⟩ := hm.ex
  have hbl : ∀ {q}, L2.mut g2 q → q < wr.heap.size := fun hq => h.b.lt hq
  refine ⟨pv, ⟨k1, h.b.fr hm.fr (fun q k e => (h.ab q e).2.1 k) (fun q k e => (h.ab q e).2.2 k), fun q hq => ?_, fun q hq => ⟨(h.ba q hq).1, (h.ba q hq).2⟩, fun q hq => Nat.lt_of_lt_of_le (h.r1 q hq) hm.fr.size, fun q hq => Nat.lt_of_lt_of_le (h.r2 q hq) hm.fr.size, h.bel.trans (hm.fr.grow _ h.bel.size fun q hq => (h.ab q hq).1)⟩, hm.fr, k2⟩
  rcases k2 q hq with e | e
  · exact h.ab q e
  · exact ⟨Nat.le_trans h.bel.size e, fun k => by have := hbl k; omega, fun k => by have := h.r2 q k; omega⟩
theorem RowS.below (h : RowS w wr R1 g1 L1 R2 g2 L2 v l) (hx : Below wr.heap.size wr wx) : RowS w wx R1 g1 L1 R2 g2 L2 v l :=
  ⟨ownsRow_fr h.own (FrW.of_below (fun _ => False) hx) (fun _ _ => id), h.sep⟩
theorem RowS.made (h : RowS w wr R1 g1 L1 R2 g2 L2 v l) {pv : Value} (hf : FrW (fun q => L1.mut g1 q) wr wx) (hm : ∀ q, ({ L1 with pv := pv } : Lay).mut g1 q → L1.mut g1 q ∨ wr.heap.size ≤ q) : RowS w wx R1 g1 { L1 with pv := pv } R2 g2 L2 v l := by
  refine ⟨ownsRow_fr h.own hf fun q hq e => (h.sep q hq).1 e, fun q hq => ⟨fun e => ?_, (h.sep q hq).2⟩⟩
  rcases hm q e with k | k
  · exact (h.sep q hq).1 k
  · have := (h.own.lt q hq).2; omega
theorem RowS.nil (w wr : World) : RowS w wr R1 g1 L1 R2 g2 L2 (.slice none 0 0) [] := ⟨World.ownsRow_nil _ _ _ _, fun q h => by cases h⟩
theorem RowS.ints (h : RowS w wr R1 g1 L1 R2 g2 L2 v l) : Ints (on wr fun q => v.ownBlock = some q) v l := by
  have hl := h.own
  have hlen : l.length = l.length := rfl
  rcases h.own.2 with ⟨e, h0⟩ | ⟨b, cap, cur, e, hb, hh, hnc, hcm, _⟩
  · subst e
    exact ⟨none, 0, by rw [h0], by omega, ⟨by simp [maxLen], fun _ => rfl⟩, .inl (List.eq_nil_of_length_eq_zero h0)⟩
  · subst e
    refine ⟨_, cap, rfl, hnc, ⟨hcm, fun h => by cases h⟩, .inr ⟨b, 0, rfl, fun i x hx => ?_⟩⟩
    have hi := (List.getElem?_eq_some_iff.1 hx).1
    refine on_mk ?_ rfl
    rw [Nat.zero_add, Nat.mul_one, h.own.cellAt i (by omega), List.getElem?_map, hx]; rfl
theorem slots_len {u : Unit_} {m : Mach} (hok : MachOk u m) (hz : SizeU u) : ∀ l ∈ m.slots, l.length ≤ 4160 := fun l hl => by
  obtain ⟨t, ht⟩ := List.getElem?_of_mem hl
  have hlt := (List.getElem?_eq_some_iff.1 ht).1
  rw [hok.slots] at hlt
  have h1 : u.graphs[t]? = some u.graphs[t] := List.getElem?_eq_getElem hlt
  have h2 := hok.slot t _ l h1 ht
  have h3 := hz.slots _ (List.mem_of_getElem? h1)
  omega
/-- A copy beside its machine. -/
theorem TwoM.start {R : Nat → Prop} {g : Nat} {L : Lay} {m : Mach} (hM : MachB wr R g L u m) (hmu : ∀ q, L.mut g q → w.heap.size ≤ q) (hR : ∀ q, R q → q < wr.heap.size) (hb : Below w.heap.size w wr) {L' : Lay} {R' : Nat → Prop} {g' : Nat} (hM' : MachB wx R' g' L' u m') (hR' : ∀ q, R' q → R q ∨ (wr.heap.size ≤ q ∧ q < wx.heap.size)) (hmu' : ∀ q, L'.mut g' q → wr.heap.size ≤ q) (hx : Below wr.heap.size wr wx) :
    TwoM w wx R g L R' g' L' u m m' := by
  refine ⟨hM.below hx, hM', fun q hq => ⟨hmu q hq, fun e => ?_, fun e => ?_⟩, fun q hq => ⟨Nat.le_trans hb.size (hmu' q hq), fun e => ?_⟩, fun q hq => Nat.lt_of_lt_of_le (hR q hq) hx.size, fun q hq => ?_, hb.trans (hx.mono hb.size)⟩
  · have := hM.lt hq; have := hmu' q e; omega
  · rcases hR' q e with k | k
    · exact hM.sep q hq k
    · have := hM.lt hq; omega
  · have := hR q e; have := hmu' q hq; omega
  · rcases hR' q hq with k | k
    · exact Nat.lt_of_lt_of_le (hR q k) hx.size
    · exact k.2
theorem copyS_calls {R : Nat → Prop} {g : Nat} {L : Lay} {m : Mach} (h : MachB w R g L u m) (hR : ∀ q, R q → q < w.heap.size) (hok : MachOk u m) (hu : RightU u) (hz : SizeU u) (hpr : m.prints.length ≤ 4294967296) :
    Calls Tryz.prog 18 #[.pointer (some ⟨g, 0, none⟩)] w fun e w' => ∃ g' L' R', e = .returned (.pointer (some ⟨g', 0, none⟩)) ∧ MachB w' R' g' L' u m ∧ (∀ q, R' q → R q ∨ (w.heap.size ≤ q ∧ q < w'.heap.size)) ∧ (∀ q, L'.mut g' q → w.heap.size ≤ q) ∧ Below w.heap.size w w' :=
  copy_calls h hR (by rw [hok.at_]; have := hu.threads; omega) (by rw [hok.mem]; have := hu.shared; omega) (by rw [hok.holders]; have := hu.locks; omega) hpr (by rw [hok.slots]; have := hu.threads; omega) (slots_len hok hz)
end
end Go.Proofs.YtmkpjiahkepigaaGreat
