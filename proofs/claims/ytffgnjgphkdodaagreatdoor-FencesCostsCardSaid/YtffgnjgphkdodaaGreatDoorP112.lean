import Derived.Test.YtffgnjgphkdodaaGreatDoorP109
import Derived.Test.YtffgnjgphkdodaaGreatDoorP01
import Derived.Test.YtffgnjgphkdodaaGreatDoorP108
import Derived.Test.YtffgnjgphkdodaaGreatDoorP63
namespace Go.Proofs.YtffgnjgphkdodaaGreatDoor
open Go Go.RowKit
attribute [local go_sem] readAtW readUpon
theorem gbT {w wr wx : World} {r : Option Nat} (h : w.grownBy wr r) (k : wr.grownBy wx r) : w.grownBy wx r :=
 ⟨k.os.trans h.os, k.tape.trans h.tape, k.output.trans h.output, Nat.le_trans h.size k.size, fun b hlt hne => (k.block b (Nat.lt_of_lt_of_le hlt h.size) hne).trans (h.block b hlt hne)⟩
def spotV (s : Spot) : List Value := [.int .i64 (s.1 : Int), .int .i64 (s.2 : Int)]
theorem spotV_len (s : Spot) : (spotV s).length = 2 := rfl
def spotsV (L : List Spot) : List Value := L.flatMap spotV
def farK : Spot → Nat := Prod.snd
def QOwn (w : World) (base : Nat) (v : Value) (L : List Spot) : Prop := w.ownsRow base 176 2 v L.length (spotsV L)
theorem QOwn.cells {w : World} {base : Nat} {v : Value} {L : List Spot} (h : QOwn w base v L) (hn : 0 < L.length) : ∃ g c, v = .slice (some ⟨g, 0, none⟩) L.length c ∧ base ≤ g ∧ g < w.heap.size ∧ L.length ≤ c ∧ c ≤ maxLen ∧ ∀ i s, L[i]? = some s → w.cell? ⟨g, i * 2, none⟩ = some (.int .i64 (s.1 : Int)) ∧ w.cell? ⟨g, i * 2 + 1, none⟩ = some (.int .i64 (s.2 : Int)) := by
 have hmax : ∀ A n c, v = .slice A n c → c ≤ maxLen := fun A n c e => by
  rcases h.2 with ⟨rfl, h0⟩ | ⟨g, cap, cur, rfl, _, _, _, hm, _⟩
  ·injection e with _ _ e3; rw [← e3]; exact Nat.zero_le _
  ·injection e with _ _ e3; rw [← e3]; exact hm
 obtain ⟨g, c, e, h1, h2, h3, h4⟩ := own_form h hn
 have hlt : ∀ i s, L[i]? = some s → i < L.length := fun i s hi => (List.getElem?_eq_some_iff.1 hi).1
 refine ⟨g, c, e, h1, h2, h3, hmax _ _ _ e, fun i s hi => ⟨?_, ?_⟩⟩
 ·rw [h4 _ (by have := hlt i s hi; omega)]
  exact fm_at spotV_len hi (j := 0) rfl
 ·rw [h4 _ (by have := hlt i s hi; omega)]
  exact fm_at spotV_len hi (j := 1) rfl
structure KeepR (R : Nat → Prop) (w w' : World) : Prop where
 os : w'.os = w.os
 tape : w'.tape = w.tape
 output : w'.output = w.output
 size : w.heap.size ≤ w'.heap.size
 block : ∀ b, R b → w'.heap[b]? = w.heap[b]?
theorem KeepR.refl (R : Nat → Prop) (w : World) : KeepR R w w := ⟨rfl, rfl, rfl, Nat.le_refl _, fun _ _ => rfl⟩
theorem KeepR.trans {R : Nat → Prop} {a b c : World} (h : KeepR R a b) (k : KeepR R b c) : KeepR R a c := ⟨k.os.trans h.os, k.tape.trans h.tape, k.output.trans h.output, Nat.le_trans h.size k.size, fun i hi => (k.block i hi).trans (h.block i hi)⟩
theorem KeepR.of_below {R : Nat → Prop} {w w' : World} (hb : Below w.heap.size w w') (hR : ∀ b, R b → b < w.heap.size) : KeepR R w w' := ⟨hb.os, hb.tape, hb.output, hb.size, fun b h => hb.block b (hR b h)⟩
theorem KeepR.setCell {R : Nat → Prop} {w w' : World} (h : KeepR R w w') {p : Addr} (hR : ∀ b, R b → b ≠ p.block) (v : Value) : KeepR R w (w'.setCell p v) := ⟨h.os, h.tape, h.output, by simpa [World.setCell] using h.size, fun b hb => (Below.heap_setCell _ _ _ _ (hR b hb)).trans (h.block b hb)⟩
theorem KeepR.alloc {R : Nat → Prop} {w w' : World} (h : KeepR R w w') (hR : ∀ b, R b → b < w.heap.size) (o : Obj) : KeepR R w (w'.alloc o) := h.trans (.of_below (Below_alloc' _ _) fun b hb => Nat.lt_of_lt_of_le (hR b hb) h.size)
structure Qs (R : Nat → Prop) (w : World) (qb : Nat) (L : List Spot) : Prop where
 ex : ∃ v, Blk w qb 173 [v] ∧ QOwn w 0 v L ∧ ∀ b, R b → b < w.heap.size ∧ b ≠ qb ∧ v.ownBlock ≠ some b
end Go.Proofs.YtffgnjgphkdodaaGreatDoor
namespace Go.Proofs.YtffgnjgphkdodaaGreatDoor
open Go Go.RowKit
theorem Qs.below {R : Nat → Prop} {w w' : World} {qb : Nat} {L : List Spot} (h : Qs R w qb L) (hb : Below w.heap.size w w') : Qs R w' qb L ∧ KeepR R w w' := by
 obtain ⟨v, h1, h2, h3⟩ := h.ex
 exact ⟨⟨v, h1.below hb h1.lt, h2.kept (row := none) ⟨hb.os, hb.tape, hb.output, hb.size, fun k hk _ => hb.block k hk⟩ (by cases h : v.ownBlock <;> simp), fun b k => ⟨Nat.lt_of_lt_of_le (h3 b k).1 hb.size, (h3 b k).2⟩⟩, .of_below hb fun b k => (h3 b k).1⟩
end Go.Proofs.YtffgnjgphkdodaaGreatDoor
namespace Go.Proofs.YtffgnjgphkdodaaGreatDoor
open Go Go.RowKit
theorem DnOk.leaf {L : List Spot} {n i : Nat} (h : DnOk farK L n i) (hn : n ≤ 2 * i + 1) : HpN farK L n := h.done fun k h0 hk hp => by omega
end Go.Proofs.YtffgnjgphkdodaaGreatDoor
namespace Go.Proofs.YtffgnjgphkdodaaGreatDoor
open Go Go.RowKit
end Go.Proofs.YtffgnjgphkdodaaGreatDoor
