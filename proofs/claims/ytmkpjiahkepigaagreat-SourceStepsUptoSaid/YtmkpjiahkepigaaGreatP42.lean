import Derived.Test.YtmkpjiahkepigaaGreatP41
import Derived.Test.YtmkpjiahkepigaaGreatP05
import Derived.Test.YtmkpjiahkepigaaGreatP08
import Derived.LoopTactic
/- The walk of sharing.doings: what a thread does, as maps of counts. -/
namespace Go.Proofs.YtmkpjiahkepigaaGreat
open Go Go.RowKit
/-- What doings hands out. -/
structure DoMem (w : World) (g : Graph) (k : Nat) (br bw bl : Nat) : Prop where
  mr : MapIs iv decInt w br (cntF g rdB k)
  mw : MapIs iv decInt w bw (cntF g wrB k)
  ml : MapIs iv decInt w bl (cntF g lkB k)
theorem DoMem.keep {w w' : World} {g : Graph} {k br bw bl : Nat} (h : DoMem w g k br bw bl) (hk : ∀ b, b = br ∨ b = bw ∨ b = bl → w'.heap[b]? = w.heap[b]?) : DoMem w' g k br bw bl :=
  ⟨h.mr.keep (hk _ (.inl rfl)), h.mw.keep (hk _ (.inr (.inl rfl))), h.ml.keep (hk _ (.inr (.inr rfl)))⟩
theorem DoMem.alloc {w : World} {g : Graph} {k br bw bl : Nat} (h : DoMem w g k br bw bl) (o : Obj) : DoMem (w.alloc o) g k br bw bl := ⟨h.mr.alloc o, h.mw.alloc o, h.ml.alloc o⟩
theorem DoMem.no {w : World} {g : Graph} {k br bw bl : Nat} {n : Node} (h : DoMem w g k br bw bl) (hn : g.nodes[k]? = some n) (hk : ¬ ReachC g (-1) k ∨ (rdB n = false ∧ wrB n = false ∧ lkB n = false)) : DoMem w g (k + 1) br bw bl := by
  have e : ∀ p, (¬ ReachC g (-1) k ∨ p n = false) → cntF g p (k + 1) = cntF g p k := fun p hp => cntF_no hn hp
  have h1 := e rdB (hk.imp_right (·.1))
  have h2 := e wrB (hk.imp_right (·.2.1))
  have h3 := e lkB (hk.imp_right (·.2.2))
  exact ⟨by rw [h1]; exact h.mr, by rw [h2]; exact h.mw, by rw [h3]; exact h.ml⟩
theorem DoMem.bump_r {w w6 : World} {g : Graph} {k br bw bl : Nat} {n : Node} (h : DoMem w g k br bw bl) (hn : g.nodes[k]? = some n) (hr : ReachC g (-1) k) (h1 : rdB n = true) (h2 : wrB n = false) (h3 : lkB n = false)
    (hm : MapIs iv decInt w6 br (fun x => if x = n.thing then some (.int .i64 ((cntN g (atP rdB n.thing) k : Nat) + 1)) else cntF g rdB k x)) (hg : w.grownBy w6 (some br)) (e1 : bw ≠ br) (e2 : bl ≠ br) : DoMem w6 g (k + 1) br bw bl :=
  ⟨by rw [cntF_yes hn hr h1]; exact hm, by rw [cntF_no hn (.inr h2)]; exact h.mw.grown hg (fun e => e1 (by injection e)), by rw [cntF_no hn (.inr h3)]; exact h.ml.grown hg (fun e => e2 (by injection e))⟩
theorem DoMem.bump_w {w w6 : World} {g : Graph} {k br bw bl : Nat} {n : Node} (h : DoMem w g k br bw bl) (hn : g.nodes[k]? = some n) (hr : ReachC g (-1) k) (h1 : rdB n = false) (h2 : wrB n = true) (h3 : lkB n = false)
    (hm : MapIs iv decInt w6 bw (fun x => if x = n.thing then some (.int .i64 ((cntN g (atP wrB n.thing) k : Nat) + 1)) else cntF g wrB k x)) (hg : w.grownBy w6 (some bw)) (e1 : br ≠ bw) (e2 : bl ≠ bw) : DoMem w6 g (k + 1) br bw bl :=
  ⟨by rw [cntF_no hn (.inr h1)]; exact h.mr.grown hg (fun e => e1 (by injection e)), by rw [cntF_yes hn hr h2]; exact hm, by rw [cntF_no hn (.inr h3)]; exact h.ml.grown hg (fun e => e2 (by injection e))⟩
theorem DoMem.bump_l {w w6 : World} {g : Graph} {k br bw bl : Nat} {n : Node} (h : DoMem w g k br bw bl) (hn : g.nodes[k]? = some n) (hr : ReachC g (-1) k) (h1 : rdB n = false) (h2 : wrB n = false) (h3 : lkB n = true)
    (hm : MapIs iv decInt w6 bl (fun x => if x = n.thing then some (.int .i64 ((cntN g (atP lkB n.thing) k : Nat) + 1)) else cntF g lkB k x)) (hg : w.grownBy w6 (some bl)) (e1 : br ≠ bl) (e2 : bw ≠ bl) : DoMem w6 g (k + 1) br bw bl :=
  ⟨by rw [cntF_no hn (.inr h1)]; exact h.mr.grown hg (fun e => e1 (by injection e)), by rw [cntF_no hn (.inr h2)]; exact h.mw.grown hg (fun e => e2 (by injection e)), by rw [cntF_yes hn hr h3]; exact hm⟩
theorem DoMem.bump_rw {w w6 w7 : World} {g : Graph} {k br bw bl : Nat} {n : Node} (h : DoMem w g k br bw bl) (hn : g.nodes[k]? = some n) (hr : ReachC g (-1) k) (h1 : rdB n = true) (h2 : wrB n = true) (h3 : lkB n = false)
    (hm : MapIs iv decInt w6 br (fun x => if x = n.thing then some (.int .i64 ((cntN g (atP rdB n.thing) k : Nat) + 1)) else cntF g rdB k x)) (hg : w.grownBy w6 (some br))
    (hm7 : MapIs iv decInt w7 bw (fun x => if x = n.thing then some (.int .i64 ((cntN g (atP wrB n.thing) k : Nat) + 1)) else cntF g wrB k x)) (hg7 : w6.grownBy w7 (some bw)) (e1 : br ≠ bw) (e2 : bl ≠ bw) (e3 : bl ≠ br) : DoMem w7 g (k + 1) br bw bl :=
  ⟨by rw [cntF_yes hn hr h1]; exact hm.grown hg7 (fun e => e1 (by injection e)), by rw [cntF_yes hn hr h2]; exact hm7, by rw [cntF_no hn (.inr h3)]; exact (h.ml.grown hg (fun e => e3 (by injection e))).grown hg7 (fun e => e2 (by injection e))⟩
theorem cntF_get (g : Graph) (p : Node → Bool) (k : Nat) (x : Int) : (cntF g p k x).getD (.int .i64 0) = .int .i64 (cntN g (atP p x) k : Nat) := cntV_get _
/-- Blocks of S stand. -/
def KeptOn (S : Nat → Prop) (w1 wr : World) : Prop := w1.heap.size ≤ wr.heap.size ∧ ∀ b, S b → b < w1.heap.size → wr.heap[b]? = w1.heap[b]?
theorem KeptOn.refl (S : Nat → Prop) (w : World) : KeptOn S w w := ⟨Nat.le_refl _, fun _ _ _ => rfl⟩
theorem KeptOn.le {S : Nat → Prop} {w1 wr : World} (h : KeptOn S w1 wr) : (on w1 S).le (cmap wr) := (on_keep h.2 (fun _ h => h)).trans (on_le wr S)
theorem KeptOn.alloc {S : Nat → Prop} {w1 wr : World} (h : KeptOn S w1 wr) (o : Obj) : KeptOn S w1 (wr.alloc o) := ⟨by simp; exact Nat.le_succ_of_le h.1, fun b hS hb => (Below.heap_alloc wr o b (Nat.lt_of_lt_of_le hb h.1)).trans (h.2 b hS hb)⟩
theorem KeptOn.setCell {S : Nat → Prop} {w1 wr : World} (h : KeptOn S w1 wr) {p : Addr} (hp : ¬ S p.block) (v : Value) : KeptOn S w1 (wr.setCell p v) := ⟨by simp [World.setCell]; exact h.1, fun b hS hb => (Below.heap_setCell _ _ _ _ (fun e => hp (e ▸ hS))).trans (h.2 b hS hb)⟩
theorem KeptOn.grown {S : Nat → Prop} {w1 wr w6 : World} {row : Option Nat} (h : KeptOn S w1 wr) (hg : wr.grownBy w6 row) (q : Nat) (hq : row = some q) (hS : ¬ S q) : KeptOn S w1 w6 :=
  ⟨Nat.le_trans h.1 hg.size, fun b hb hl => (hg.block b (Nat.lt_of_lt_of_le hl h.1) (fun e => hS (by rw [hq] at e; injection e with e; exact e ▸ hb))).trans (h.2 b hb hl)⟩
def S7 (B : Nat) : Nat → Prop := fun b => b < B ∨ B + 6 < b
theorem part_belowL0 {w w1 : World} (h : Below w.heap.size w w1) : (part w 0 w.heap.size).le (part w1 0 w.heap.size) := part_keep fun b _ hb => h.block b hb
theorem z_int (w : World) : (zeroValue 3).run Tryz.prog w = .ok (.int .i64 0) w := by kernel_rfl
end Go.Proofs.YtmkpjiahkepigaaGreat
