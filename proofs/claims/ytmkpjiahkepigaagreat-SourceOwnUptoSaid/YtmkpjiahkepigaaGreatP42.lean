import Derived.Test.YtmkpjiahkepigaaGreatP41
import Derived.Test.YtmkpjiahkepigaaGreatP05
import Derived.Test.YtmkpjiahkepigaaGreatP08
import Derived.LoopTactic
/- The walk of sharing.doings: what a thread does, as maps of counts. -/
namespace Go.Proofs.YtmkpjiahkepigaaGreat
open Go Go.RowKit
/-- What doings hands out. -/
structure DoMem (w : World) (g : Graph) (k : Nat) (br bw bl : Nat) : Prop where
  mr : MapIs iv decInt w br (cntF g rdB k)
  mw : MapIs iv decInt w bw (cntF g wrB k)
  ml : MapIs iv decInt w bl (cntF g lkB k)
theorem DoMem.keep {w w' : World} {g : Graph} {k br bw bl : Nat} (h : DoMem w g k br bw bl) (hk : ∀ b, b = br ∨ b = bw ∨ b = bl → w'.heap[b]? = w.heap[b]?) : DoMem w' g k br bw bl :=
  ⟨h.mr.keep (hk _ (.inl rfl)), h.mw.keep (hk _ (.inr (.inl rfl))), h.ml.keep (hk _ (.inr (.inr rfl)))⟩
theorem DoMem.alloc {w : World} {g : Graph} {k br bw bl : Nat} (h : DoMem w g k br bw bl) (o : Obj) : DoMem (w.alloc o) g k br bw bl := ⟨h.mr.alloc o, h.mw.alloc o, h.ml.alloc o⟩
theorem DoMem.no {w : World} {g : Graph} {k br bw bl : Nat} {n : Node} (h : DoMem w g k br bw bl) (hn : g.nodes[k]? = some n) (hk : ¬ ReachC g (-1) k ∨ (rdB n = false ∧ wrB n = false ∧ lkB n = false)) : DoMem w g (k + 1) br bw bl := by
  have e : ∀ p, (¬ ReachC g (-1) k ∨ p n = false) → cntF g p (k + 1) = cntF g p k := fun p hp => cntF_no hn hp
  have h1 := e rdB (hk.imp_right (·.1))
  have h2 := e wrB (hk.imp_right (·.2.1))
  have h3 := e lkB (hk.imp_right (·.2.2))
  exact ⟨by rw [h1]; exact h.mr, by rw [h2]; exact h.mw, by rw [h3]; exact h.ml⟩
/-- Blocks of S stand. -/
def KeptOn (S : Nat → Prop) (w1 wr : World) : Prop := w1.heap.size ≤ wr.heap.size ∧ ∀ b, S b → b < w1.heap.size → wr.heap[b]? = w1.heap[b]?
theorem KeptOn.refl (S : Nat → Prop) (w : World) : KeptOn S w w := ⟨Nat.le_refl _, fun _ _ _ => rfl⟩
theorem KeptOn.le {S : Nat → Prop} {w1 wr : World} (h : KeptOn S w1 wr) : (on w1 S).le (cmap wr) := (on_keep h.2 (fun _ h => h)).trans (on_le wr S)
theorem KeptOn.alloc {S : Nat → Prop} {w1 wr : World} (h : KeptOn S w1 wr) (o : Obj) : KeptOn S w1 (wr.alloc o) := ⟨by simp; exact Nat.le_succ_of_le h.1, fun b hS hb => (Below.heap_alloc wr o b (Nat.lt_of_lt_of_le hb h.1)).trans (h.2 b hS hb)⟩
theorem KeptOn.setCell {S : Nat → Prop} {w1 wr : World} (h : KeptOn S w1 wr) {p : Addr} (hp : ¬ S p.block) (v : Value) : KeptOn S w1 (wr.setCell p v) := ⟨by simp [World.setCell]; exact h.1, fun b hS hb => (Below.heap_setCell _ _ _ _ (fun e => hp (e ▸ hS))).trans (h.2 b hS hb)⟩
theorem KeptOn.grown {S : Nat → Prop} {w1 wr w6 : World} {row : Option Nat} (h : KeptOn S w1 wr) (hg : wr.grownBy w6 row) (q : Nat) (hq : row = some q) (hS : ¬ S q) : KeptOn S w1 w6 :=
  ⟨Nat.le_trans h.1 hg.size, fun b hb hl => (hg.block b (Nat.lt_of_lt_of_le hl h.1) (fun e => hS (by rw [hq] at e; injection e with e; exact e ▸ hb))).trans (h.2 b hb hl)⟩
end Go.Proofs.YtmkpjiahkepigaaGreat
