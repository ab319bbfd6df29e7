import Derived.Test.YtffgnjgphkdodaaGreatDoorP08
import Derived.Laws.Closers25b
import Derived.Test.YtffgnjgphkdodaaGreatDoorP01
namespace Go.Proofs.YtffgnjgphkdodaaGreatDoor
open Go Go.RowKit
structure Mach where
 at_ : List Nat
 slots : List (List Int)
 mem : List Int
 holders : List Int
 prints : List (Int × Int)
def Mach.slot (m : Mach) (t : Nat) (j : Int) : Int := (((m.slots[t]?).getD [])[j.toNat]?).getD 0
def Mach.val (m : Mach) (t : Nat) (v : Val) : Int := if v.isSlot then m.slot t v.slot else v.word
structure Did where
 thread : Int
 node : Int
 kind : Int
 thing : Int
 word : Int
 put : Int
deriving DecidableEq
def Did.cells (d : Did) : List Value := [.int .i64 d.thread, .int .i64 d.node, .int .u8 d.kind, .int .i64 d.thing, .int .i64 d.word, .int .i64 d.put]
end Go.Proofs.YtffgnjgphkdodaaGreatDoor
namespace Go.Proofs.YtffgnjgphkdodaaGreatDoor
open Go Go.RowKit
def Shape (w w' : World) : Prop := ∀ (g : Nat) (cur : Array Value) (t : TypeId), w.heap[g]? = some (.cells cur t (0, 0)) → ∃ cur' : Array Value, w'.heap[g]? = some (.cells cur' t (0, 0)) ∧ cur'.size = cur.size
theorem Shape.refl (w : World) : Shape w w := fun _ cur _ h => ⟨cur, h, rfl⟩
theorem Shape.trans {a b c : World} (h : Shape a b) (k : Shape b c) : Shape a c := fun g cur t hg => by
 obtain ⟨c1, h1, e1⟩ := h g cur t hg
 obtain ⟨c2, h2, e2⟩ := k g c1 t h1
 exact ⟨c2, h2, e2.trans e1⟩
theorem Shape.alloc (w : World) (o : Obj) : Shape w (w.alloc o) := fun _ cur _ hg => ⟨cur, (heap_alloc_old w o (lt_of_block hg)).trans hg, rfl⟩
theorem Shape.below {w w' : World} (h : Below w.heap.size w w') : Shape w w' := fun g cur _ hg => ⟨cur, (h.block g (lt_of_block hg)).trans hg, rfl⟩
theorem Shape.setCell (w : World) (g i : Nat) (v : Value) : Shape w (w.setCell ⟨g, i, none⟩ v) := fun k cur t hk => by
 by_cases e : k = g
 ·subst e
  exact ⟨_, heap_setCell_same w k i cur t v hk, by simp⟩
 ·exact ⟨cur, (heap_setCell_other w ⟨g, i, none⟩ k v e).trans hk, rfl⟩
def OkRow (w : World) (base : Nat) (e : TypeId) (size : Nat) (v : Value) (n : Nat) : Prop := ∃ ys, w.ownsRow base e size v n ys
theorem OkRow.shape {w w' : World} {base : Nat} {e : TypeId} {size : Nat} {v : Value} {n : Nat} (h : OkRow w base e size v n) (hs : Shape w w') : OkRow w' base e size v n := by
 obtain ⟨ys, h1, h2⟩ := h
 rcases h2 with ⟨rfl, rfl⟩ | ⟨g, cap, cur, rfl, hb, hh, hn, hm, hc, ht⟩
 ·exact ⟨[], by simp, .inl ⟨rfl, rfl⟩⟩
 ·obtain ⟨cur', k1, k2⟩ := hs g cur e hh
  refine ⟨cur'.toList.take (n * size), ?_, .inr ⟨g, cap, cur', rfl, hb, k1, hn, hm, by omega, rfl⟩⟩
  have : n * size ≤ cap * size := Nat.mul_le_mul_right _ hn
  simp; omega
theorem OkRow.at_ {w : World} {base : Nat} {e : TypeId} {v : Value} {n : Nat} (h : OkRow w base e 1 v n) {i : Nat} (hi : i < n) : ∃ g c x, v = .slice (some ⟨g, 0, none⟩) n c ∧ base ≤ g ∧ w.cell? ⟨g, i, none⟩ = some x ∧ w.frozen? ⟨g, i, none⟩ = false ∧ ∃ cur, w.heap[g]? = some (.cells cur e (0, 0)) := by
 obtain ⟨ys, h1, h2⟩ := h
 rcases id h2 with ⟨rfl, rfl⟩ | ⟨g, cap, cur, rfl, hb, hh, hn, hm, hc, ht⟩
 ·omega
 ·have hlt : i < cur.size := by omega
  refine ⟨g, cap, cur[i], rfl, hb, ?_, frozen_of_row w g i _ _ hh, cur, hh⟩
  rw [cell_of_row w g i cur e (0, 0) hh]
  exact Array.getElem?_eq_getElem hlt
theorem row_types {w : World} {g g' : Nat} {c c' : Array Value} {t t' : TypeId} (h : w.heap[g]? = some (.cells c t (0, 0))) (h' : w.heap[g']? = some (.cells c' t' (0, 0))) (hne : t ≠ t') : g ≠ g' := by
 intro e
 subst e
 rw [h] at h'
 injection h' with h'
 injection h' with _ h' _
 exact hne h'
theorem own_types {w : World} {b b' : Nat} {t t' : TypeId} {s s' n n' : Nat} {v v' : Value} {xs xs' : List Value} (h : w.ownsRow b t s v n xs) (h' : w.ownsRow b' t' s' v' n' xs') (hne : t ≠ t') : v.ownBlock = none ∨ v.ownBlock ≠ v'.ownBlock := by
 rcases h.2 with ⟨rfl, _⟩ | ⟨g, cap, cur, rfl, _, hh, _⟩
 ·exact .inl rfl
 ·refine .inr ?_
  rcases h'.2 with ⟨rfl, _⟩ | ⟨g', cap', cur', rfl, _, hh', _⟩
  ·simp [Value.ownBlock]
  ·simp only [Value.ownBlock]
   intro e
   injection e with e
   exact row_types hh hh' hne e
def OkRows (w : World) (base : Nat) (t e : TypeId) (v : Value) (n K : Nat) : Prop := ∃ ys, w.ownsRow base t 1 v n ys ∧ ∀ r ∈ ys, ∃ k, k ≤ K ∧ OkRow w base e 1 r k
section
variable {w w' : World} {base : Nat} {t e : TypeId} {v : Value} {n K : Nat}
theorem OkRows.nil (w : World) (base : Nat) (t e : TypeId) (K : Nat) : OkRows w base t e (.slice none 0 0) 0 K := ⟨[], World.ownsRow_nil _ _ _ _, fun _ h => by cases h⟩
theorem OkRows.row (h : OkRows w base t e v n K) : OkRow w base t 1 v n := by obtain ⟨ys, h1, _⟩ := h; exact ⟨ys, h1⟩
theorem OkRows.form (h : OkRows w base t e v n K) : ∃ A c, v = .slice A n c := by obtain ⟨ys, h1, _⟩ := h; obtain ⟨A, c, h2, _⟩ := own_slice h1; exact ⟨A, c, h2⟩
theorem OkRows.lt (h : OkRows w base t e v n K) : ∀ k, v.ownBlock = some k → base ≤ k ∧ k < w.heap.size := by obtain ⟨ys, h1, _⟩ := h; exact h1.lt
theorem OkRows.mono {K' : Nat} (h : OkRows w base t e v n K) (hK : K ≤ K') : OkRows w base t e v n K' := by
 obtain ⟨ys, h1, h2⟩ := h
 exact ⟨ys, h1, fun r hr => by obtain ⟨k, h3, h4⟩ := h2 r hr; exact ⟨k, by omega, h4⟩⟩
theorem OkRows.far (h : OkRows w base t e v n K) (hs : Shape w w') (hc : ∀ g, v.ownBlock = some g → w'.heap[g]? = w.heap[g]?) : OkRows w' base t e v n K := by
 obtain ⟨ys, h1, h2⟩ := h
 refine ⟨ys, ⟨h1.1, ?_⟩, fun r hr => by obtain ⟨k, h3, h4⟩ := h2 r hr; exact ⟨k, h3, h4.shape hs⟩⟩
 rcases h1.2 with k | ⟨g, cap, cur, rfl, k2, k3, k4⟩
 ·exact .inl k
 ·exact .inr ⟨g, cap, cur, rfl, k2, (hc g rfl).trans k3, k4⟩
theorem OkRows.below (h : OkRows w base t e v n K) (hb : Below w.heap.size w w') : OkRows w' base t e v n K :=
 h.far (Shape.below hb) fun g hg => hb.block g (h.lt g hg).2
theorem OkRows.at_ (h : OkRows w base t e v n K) {i : Nat} (hi : i < n) : ∃ g c r k, v = .slice (some ⟨g, 0, none⟩) n c ∧ base ≤ g ∧ w.cell? ⟨g, i, none⟩ = some r ∧ w.frozen? ⟨g, i, none⟩ = false ∧ (∃ cur, w.heap[g]? = some (.cells cur t (0, 0))) ∧ k ≤ K ∧ OkRow w base e 1 r k := by
 obtain ⟨ys, h1, h2⟩ := h
 obtain ⟨g, c, x, rfl, hb, hx, hf, cur, hh⟩ := OkRow.at_ ⟨ys, h1⟩ hi
 have hl : i < ys.length := by have := h1.1; omega
 have hy : ys[i]? = some ys[i] := List.getElem?_eq_getElem hl
 have hcell := h1.cells (g := g) rfl i _ hy
 rw [add_mk, Nat.zero_add, hx] at hcell
 injection hcell with hcell
 obtain ⟨k, h3, h4⟩ := h2 _ (List.mem_of_getElem? hy)
 exact ⟨g, c, x, k, rfl, hb, hx, hf, ⟨cur, hh⟩, h3, by rw [hcell]; exact h4⟩
theorem OkRows.put {A : Option Addr} {g c i k : Nat} {r : Value} (h : OkRows w base t e (.slice A n c) n K) (hA : A = some ⟨g, 0, none⟩) (_hi : i < n) (hr : OkRow w base e 1 r k) (hk : k ≤ K) : OkRows (w.setCell ⟨g, i, none⟩ r) base t e (.slice A n c) n K := by
 subst hA
 have hsh := Shape.setCell w g i r
 obtain ⟨ys, h1, h2⟩ := h
 rcases id h1.2 with ⟨h0, _⟩ | ⟨g', cap, cur, h0, hb, hh, hn, hm, hcs, ht⟩
 ·cases h0
 ·injection h0 with e1 e2 e3
  injection e1 with e1
  injection e1 with e1
  subst e1 e3
  refine ⟨ys.set i r, ⟨by simp [h1.1], .inr ⟨g, c, _, rfl, hb, heap_setCell_same w g i cur t r hh, hn, hm, by simp [hcs], ?_⟩⟩, fun x hx => ?_⟩
  ·rw [Array.toList_setIfInBounds, List.take_set, ht]
  ·rcases List.mem_or_eq_of_mem_set hx with hx | hx
   ·obtain ⟨k', h3, h4⟩ := h2 x hx
    exact ⟨k', h3, h4.shape hsh⟩
   ·subst hx
    exact ⟨k, hk, hr.shape hsh⟩
theorem OkRows.push {w2 : World} {r v' : Value} {k : Nat} {ys : List Value} (_h : w.ownsRow base t 1 v n ys) (h2 : ∀ r ∈ ys, ∃ k, k ≤ K ∧ OkRow w base e 1 r k) (hte : t ≠ e) (hr : OkRow w base e 1 r k) (hk : k ≤ K) (ho : w2.ownsRow base t 1 v' (n + 1) (ys ++ [r])) (hg : w.grownBy w2 v.ownBlock) : OkRows w2 base t e v' (n + 1) K := by
 have kp : ∀ r k, OkRow w base e 1 r k → OkRow w2 base e 1 r k := fun r k ⟨zs, hz⟩ => ⟨zs, hz.kept hg (own_types hz _h (fun e => hte e.symm))⟩
 refine ⟨_, ho, fun x hx => ?_⟩
 rcases List.mem_append.1 hx with hx | hx
 ·obtain ⟨k', h3, h4⟩ := h2 x hx
  exact ⟨k', h3, kp _ _ h4⟩
 ·rw [List.mem_singleton] at hx
  subst hx
  exact ⟨k, hk, kp _ _ hr⟩
end
section
variable {P : Program}
end
end Go.Proofs.YtffgnjgphkdodaaGreatDoor
