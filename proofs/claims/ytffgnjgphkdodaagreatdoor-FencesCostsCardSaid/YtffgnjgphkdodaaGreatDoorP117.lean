import Derived.Test.YtffgnjgphkdodaaGreatDoorP108
import Derived.Test.YtffgnjgphkdodaaGreatDoorP109
import Derived.Test.YtffgnjgphkdodaaGreatDoorP111
import Derived.Test.YtffgnjgphkdodaaGreatDoorP112
import Derived.Test.YtffgnjgphkdodaaGreatDoorP107
import Derived.Test.YtffgnjgphkdodaaGreatDoorP09
import Derived.Test.YtffgnjgphkdodaaGreatDoorP08
namespace Go.Proofs.YtffgnjgphkdodaaGreatDoor
open Go
noncomputable def stK (u : Unit_) (g : Graph) (k : Nat) : List Int := ((List.range k).filter fun i => (mkAt u g [] i).store).map fun i : Nat => (i : Int)
noncomputable def stL (u : Unit_) (g : Graph) : List Int := stK u g g.nodes.length
theorem stK_succ (u : Unit_) (g : Graph) (k : Nat) : stK u g (k + 1) = stK u g k ++ if (mkAt u g [] k).store then [(k : Int)] else [] := by
 unfold stK
 rw [List.range_succ, List.filter_append, List.map_append]
 congr 1
 by_cases h : (mkAt u g [] k).store = true
 ·simp [h]
 ·simp [h]
theorem stK_length (u : Unit_) (g : Graph) (k : Nat) : (stK u g k).length ≤ k := by
 unfold stK
 rw [List.length_map]
 refine Nat.le_trans (List.length_filter_le _ _) ?_
 simp
theorem stK_mem {u : Unit_} {g : Graph} {k : Nat} {x : Int} : x ∈ stK u g k ↔ ∃ i : Nat, x = i ∧ i < k ∧ (mkAt u g [] i).store = true := by
 unfold stK
 simp only [List.mem_map, List.mem_filter, List.mem_range]
 constructor
 ·rintro ⟨i, ⟨h1, h2⟩, rfl⟩; exact ⟨i, rfl, h1, h2⟩
 ·rintro ⟨i, rfl, h1, h2⟩; exact ⟨i, ⟨h1, h2⟩, rfl⟩
theorem mkAt_any (u : Unit_) (g : Graph) (F : List Int) (i : Nat) : (mkAt u g F i).store = (mkAt u g [] i).store ∧ (mkAt u g F i).load = (mkAt u g [] i).load ∧ (mkAt u g F i).drain = (mkAt u g [] i).drain := by
 unfold mkAt
 cases g.nodes[i]? <;> simp
theorem stL_bound {u : Unit_} {g : Graph} {x : Int} (h : x ∈ stL u g) : 0 ≤ x ∧ x < g.nodes.length := by
 obtain ⟨i, rfl, h1, _⟩ := stK_mem.1 h
 omega
open Classical in
noncomputable def openG (g : Graph) (t F : List Int) : List Bool := (List.range g.nodes.length).map fun i => decide (OpenC g (fun i => (i : Int) ∈ t) F i)
theorem openG_len (g : Graph) (t F : List Int) : (openG g t F).length = g.nodes.length := by simp [openG]
theorem openG_at {g : Graph} (t F : List Int) {i : Nat} (h : i < g.nodes.length) {b : Bool} (hb : (openG g t F)[i]? = some b) : b = true ↔ OpenC g (fun i => (i : Int) ∈ t) F i := by
 unfold openG at hb
 rw [List.getElem?_map, List.getElem?_range h] at hb
 injection hb with hb
 rw [← hb]
 simp
theorem openG_of {g : Graph} {t F : List Int} {l : List Bool} (h1 : l.length = g.nodes.length) (h2 : ∀ i : Nat, l[i]? = some true ↔ OpenC g (fun i => (i : Int) ∈ t) F i) : l = openG g t F := by
 apply List.ext_getElem?
 intro i
 by_cases hi : i < g.nodes.length
 ·have e1 : l[i]? = some (l[i]'(by omega)) := List.getElem?_eq_getElem _
  have e2 : (openG g t F)[i]? = some ((openG g t F)[i]'(by rw [openG_len]; exact hi)) := List.getElem?_eq_getElem _
  have h3 := openG_at t F hi e2
  have h4 := h2 i
  rw [e1, e2]
  congr 1
  rw [e1] at h4
  rw [Bool.eq_iff_iff, h3, ← h4]
  simp
 ·rw [List.getElem?_eq_none (by omega), List.getElem?_eq_none (by rw [openG_len]; omega)]
open Classical in
noncomputable def askE (u : Unit_) (t : Int) : Int := if checkF u = none then if 0 ≤ t ∧ t < u.graphs.length then 0 else 2 else 60
theorem askE_bad {u : Unit_} {t : Int} (h : checkF u ≠ none) : askE u t = 60 := by unfold askE; rw [if_neg h]
theorem askE_range {u : Unit_} {t : Int} (h : checkF u = none) (ht : ¬ (0 ≤ t ∧ t < u.graphs.length)) : askE u t = 2 := by unfold askE; rw [if_pos h, if_neg ht]
theorem askE_ok {u : Unit_} {t : Int} (h : checkF u = none) (ht : 0 ≤ t ∧ t < u.graphs.length) : askE u t = 0 := by unfold askE; rw [if_pos h, if_pos ht]
theorem askE_zero {u : Unit_} {t : Int} (h : askE u t = 0) : checkF u = none ∧ 0 ≤ t ∧ t < u.graphs.length := by
 unfold askE at h
 split at h
 ·rename_i h1
  split at h
  ·rename_i h2; exact ⟨h1, h2⟩
  ·omega
 ·omega
noncomputable def openR (u : Unit_) (t : Int) (F : List Int) : List Bool × Int :=
 if askE u t = 0 then match u.graphs[t.toNat]? with
  | some g => if fenB g.nodes.length (-1) F then (openG g (stL u g) F, 0) else ([], 110)
  | none => ([], 0)
 else ([], askE u t)
noncomputable def ldK (u : Unit_) (g : Graph) (l : List Bool) (k : Nat) : List Int := ((List.range k).filter fun i => l[i]? == some true && (mkAt u g [] i).load).map fun i : Nat => (i : Int)
theorem ldK_succ (u : Unit_) (g : Graph) (l : List Bool) (k : Nat) : ldK u g l (k + 1) = ldK u g l k ++ if l[k]? == some true && (mkAt u g [] k).load then [(k : Int)] else [] := by
 unfold ldK
 rw [List.range_succ, List.filter_append, List.map_append]
 congr 1
 by_cases h : (l[k]? == some true && (mkAt u g [] k).load) = true
 ·simp only [List.filter_cons, h, if_true, List.filter_nil, List.map_cons, List.map_nil]
 ·simp only [List.filter_cons, h, if_false, List.filter_nil, List.map_nil, Bool.false_eq_true]
theorem ldK_length (u : Unit_) (g : Graph) (l : List Bool) (k : Nat) : (ldK u g l k).length ≤ k := by
 unfold ldK
 rw [List.length_map]
 refine Nat.le_trans (List.length_filter_le _ _) ?_
 simp
theorem ldK_mem {u : Unit_} {g : Graph} {l : List Bool} {k : Nat} {x : Int} : x ∈ ldK u g l k ↔ ∃ i : Nat, x = i ∧ i < k ∧ l[i]? = some true ∧ (mkAt u g [] i).load = true := by
 unfold ldK
 simp only [List.mem_map, List.mem_filter, List.mem_range, Bool.and_eq_true, beq_iff_eq]
 constructor
 ·rintro ⟨i, ⟨h1, h2, h3⟩, rfl⟩; exact ⟨i, rfl, h1, h2, h3⟩
 ·rintro ⟨i, rfl, h1, h2, h3⟩; exact ⟨i, ⟨h1, h2, h3⟩, rfl⟩
noncomputable def loadsR (u : Unit_) (t : Int) (F : List Int) : List Int × Int :=
 if (openR u t F).2 = 0 then match u.graphs[t.toNat]? with
  | some g => (ldK u g (openR u t F).1 g.nodes.length, 0)
  | none => ([], 0)
 else ([], (openR u t F).2)
end Go.Proofs.YtffgnjgphkdodaaGreatDoor
namespace Go.Proofs.YtffgnjgphkdodaaGreatDoor
open Go Go.RowKit
def fills (N k : Nat) : List Value := List.replicate k (.int .i64 (-1)) ++ List.replicate (N - k) (.int .i64 0)
theorem below_keep {B : Nat} {w wr w' : World} {R : Nat → Prop} (h : Below B w wr) (hk : KeepR R wr w') (hR : ∀ b, b < B → R b) : Below B w w' := ⟨hk.os.trans h.os, hk.tape.trans h.tape, hk.output.trans h.output, Nat.le_trans h.size hk.size, fun b hb => (hk.block b (hR b hb)).trans (h.block b hb)⟩
theorem Qs.setCell {R : Nat → Prop} {w : World} {qb : Nat} {L : List Spot} (h : Qs R w qb L) {p : Addr} (hp : R p.block) (x : Value) : Qs R (w.setCell p x) qb L := by
 obtain ⟨v, h1, h2, h3⟩ := h.ex
 exact ⟨v, h1.far (fun e => (h3 _ hp).2.1 e.symm) x, ownsRow_setCell_other h2 (h3 _ hp).2.2 x, fun b hb => ⟨by simpa [World.setCell] using (h3 b hb).1, (h3 b hb).2⟩⟩
theorem Qs.more {R : Nat → Prop} {w : World} {qb sb : Nat} {L : List Spot} (h : Qs R w qb L) (o : Obj) (hs : sb = w.heap.size) : Qs (fun b => R b ∨ b = sb) (w.alloc o) qb L := by
 obtain ⟨v, h1, h2, h3⟩ := h.ex
 have hl := h1.lt
 refine ⟨v, h1.alloc o, World.ownsRow.alloc h2 o, fun b hb => ?_⟩
 rcases hb with hb | hb
 ·exact ⟨by have := (h3 b hb).1; simp; omega, (h3 b hb).2⟩
 ·exact ⟨by simp; omega, by omega, fun e => by have := (World.ownsRow.lt h2 b e).2; omega⟩
theorem Qs.less {R R' : Nat → Prop} {w : World} {qb : Nat} {L : List Spot} (h : Qs R w qb L) (hR : ∀ b, R' b → R b) : Qs R' w qb L := by
 obtain ⟨v, h1, h2, h3⟩ := h.ex
 exact ⟨v, h1, h2, fun b hb => h3 b (hR b hb)⟩
def FaI (w w2 : World) (g : Graph) (tg sb sn sf M : Nat) (row out : List Int) (v70 : Value) (wr : World) : Prop :=
 ∃ p L, v70 = .int .i64 ((p : Nat) : Int) ∧ p ≤ row.length ∧ Hid (Blk wr w.heap.size 3 (ints out)) ∧ Hid (Qs (fun b => b < w2.heap.size ∨ b = sb) wr (w2.heap.size + 1) L ∧ HpN farK L L.length) ∧ Hid (DK g tg out L (fun a b => a = sn ∧ (b : Int) ∈ row.drop p)) ∧ Hid (Blk wr sb 176 [.int .i64 (sn : Int), .int .i64 (sf : Int)]) ∧
  Hid (w2.grownBy wr (some w.heap.size)) ∧ Hid (Below w.heap.size w wr) ∧ L.length + (row.length - p) ≤ M
end Go.Proofs.YtffgnjgphkdodaaGreatDoor
namespace Go.Proofs.YtffgnjgphkdodaaGreatDoor
open Go Go.RowKit
end Go.Proofs.YtffgnjgphkdodaaGreatDoor
namespace Go.Proofs.YtffgnjgphkdodaaGreatDoor
open Go
end Go.Proofs.YtffgnjgphkdodaaGreatDoor
namespace Go.Proofs.YtffgnjgphkdodaaGreatDoor
open Go
theorem fenB_of {N : Nat} : ∀ (F : List Int) (q : Int), (∀ x ∈ F, q < x ∧ x < N) → F.Pairwise (· < ·) → fenB N q F = true
 | [], _, _, _ => rfl
 | n :: F, q, h, hp => by
  have hp' := List.pairwise_cons.1 hp
  simp only [fenB, Bool.and_eq_true, decide_eq_true_eq]
  exact ⟨h n (by simp), fenB_of F n (fun x hx => ⟨hp'.1 x hx, (h x (by simp [hx])).2⟩) hp'.2⟩
theorem ldK_fen (u : Unit_) (g : Graph) (l : List Bool) : fenB g.nodes.length (-1) (ldK u g l g.nodes.length) = true := by
 refine fenB_of _ _ (fun x hx => ?_) ?_
 ·obtain ⟨i, rfl, h1, _⟩ := ldK_mem.1 hx
  omega
 ·unfold ldK
  refine List.Pairwise.map _ (fun a b h => ?_) (List.Pairwise.filter _ List.pairwise_lt_range)
  exact Int.ofNat_lt.2 h
end Go.Proofs.YtffgnjgphkdodaaGreatDoor
