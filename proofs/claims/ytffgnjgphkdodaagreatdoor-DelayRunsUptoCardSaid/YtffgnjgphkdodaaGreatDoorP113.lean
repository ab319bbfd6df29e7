import Derived.Test.YtffgnjgphkdodaaGreatDoorP108
import Derived.Test.YtffgnjgphkdodaaGreatDoorP109
import Derived.Test.YtffgnjgphkdodaaGreatDoorP111
import Derived.Test.YtffgnjgphkdodaaGreatDoorP112
/- The plain answers of layer 11: errors, open stores, what is open, racy loads, pairs. -/
namespace Go.Proofs.YtffgnjgphkdodaaGreatDoor
open Go
/-- The open stores of a thread, the nodes below k. -/
noncomputable def stK (u : Unit_) (g : Graph) (k : Nat) : List Int := ((List.range k).filter fun i => (mkAt u g [] i).store).map fun i : Nat => (i : Int)
noncomputable def stL (u : Unit_) (g : Graph) : List Int := stK u g g.nodes.length
theorem stK_succ (u : Unit_) (g : Graph) (k : Nat) : stK u g (k + 1) = stK u g k ++ if (mkAt u g [] k).store then [(k : Int)] else [] := by
  unfold stK
  rw [List.range_succ, List.filter_append, List.map_append]
  congr 1
  by_cases h : (mkAt u g [] k).store = true
  · simp [h]
  · simp [h]
theorem stK_length (u : Unit_) (g : Graph) (k : Nat) : (stK u g k).length ≤ k := by
  unfold stK
  rw [List.length_map]
  refine Nat.le_trans (List.length_filter_le _ _) ?_
  simp
theorem stK_mem {u : Unit_} {g : Graph} {k : Nat} {x : Int} : x ∈ stK u g k ↔ ∃ i : Nat, x = i ∧ i < k ∧ (mkAt u g [] i).store = true := by
  unfold stK
  simp only [List.mem_map, List.mem_filter, List.mem_range]
  constructor
  · rintro ⟨i, ⟨h1, h2⟩, rfl⟩; exact ⟨i, rfl, h1, h2⟩
  · rintro ⟨i, rfl, h1, h2⟩; exact ⟨i, ⟨h1, h2⟩, rfl⟩
theorem mkAt_any (u : Unit_) (g : Graph) (F : List Int) (i : Nat) : (mkAt u g F i).store = (mkAt u g [] i).store ∧ (mkAt u g F i).load = (mkAt u g [] i).load ∧ (mkAt u g F i).drain = (mkAt u g [] i).drain := by
  unfold mkAt
  cases g.nodes[i]? <;> simp
theorem stL_bound {u : Unit_} {g : Graph} {x : Int} (h : x ∈ stL u g) : 0 ≤ x ∧ x < g.nodes.length := by
  obtain ⟨i, rfl, h1, _⟩ := stK_mem.1 h
  omega
open Classical in
/-- What is open from some nodes. -/
noncomputable def openG (g : Graph) (t F : List Int) : List Bool := (List.range g.nodes.length).map fun i => decide (OpenC g (fun i => (i : Int) ∈ t) F i)
theorem openG_len (g : Graph) (t F : List Int) : (openG g t F).length = g.nodes.length := by simp [openG]
theorem openG_at {g : Graph} (t F : List Int) {i : Nat} (h : i < g.nodes.length) {b : Bool} (hb : (openG g t F)[i]? = some b) : b = true ↔ OpenC g (fun i => (i : Int) ∈ t) F i := by
  unfold openG at hb
  rw [List.getElem?_map, List.getElem?_range h] at hb
  injection hb with hb
  rw [← hb]
  simp
theorem openG_of {g : Graph} {t F : List Int} {l : List Bool} (h1 : l.length = g.nodes.length) (h2 : ∀ i : Nat, l[i]? = some true ↔ OpenC g (fun i => (i : Int) ∈ t) F i) : l = openG g t F := by
  apply List.ext_getElem?
  intro i
  by_cases hi : i < g.nodes.length
  · have e1 : l[i]? = some (l[i]'(by omega)) := List.getElem?_eq_getElem _
    have e2 : (openG g t F)[i]? = some ((openG g t F)[i]'(by rw [openG_len]; exact hi)) := List.getElem?_eq_getElem _
    have h3 := openG_at t F hi e2
    have h4 := h2 i
    rw [e1, e2]
    congr 1
    rw [e1] at h4
    rw [Bool.eq_iff_iff, h3, ← h4]
    simp
  · rw [List.getElem?_eq_none (by omega), List.getElem?_eq_none (by rw [openG_len]; omega)]
open Classical in
/-- The error of a unit and a thread. -/
noncomputable def askE (u : Unit_) (t : Int) : Int := if checkF u = none then if 0 ≤ t ∧ t < u.graphs.length then 0 else 2 else 60
theorem askE_bad {u : Unit_} {t : Int} (h : checkF u ≠ none) : askE u t = 60 := by unfold askE; rw [if_neg h]
theorem askE_range {u : Unit_} {t : Int} (h : checkF u = none) (ht : ¬ (0 ≤ t ∧ t < u.graphs.length)) : askE u t = 2 := by unfold askE; rw [if_pos h, if_neg ht]
theorem askE_ok {u : Unit_} {t : Int} (h : checkF u = none) (ht : 0 ≤ t ∧ t < u.graphs.length) : askE u t = 0 := by unfold askE; rw [if_pos h, if_pos ht]
theorem askE_zero {u : Unit_} {t : Int} (h : askE u t = 0) : checkF u = none ∧ 0 ≤ t ∧ t < u.graphs.length := by
  unfold askE at h
  split at h
  · rename_i h1
    split at h
    · rename_i h2; exact ⟨h1, h2⟩
    · omega
  · omega
/-- The answer of Open. -/
noncomputable def openR (u : Unit_) (t : Int) (F : List Int) : List Bool × Int :=
  if askE u t = 0 then match u.graphs[t.toNat]? with
    | some g => if fenB g.nodes.length (-1) F then (openG g (stL u g) F, 0) else ([], 110)
    | none => ([], 0)
  else ([], askE u t)
/-- The racy loads that are open, the nodes below k. -/
noncomputable def ldK (u : Unit_) (g : Graph) (l : List Bool) (k : Nat) : List Int := ((List.range k).filter fun i => l[i]? == some true && (mkAt u g [] i).load).map fun i : Nat => (i : Int)
theorem ldK_succ (u : Unit_) (g : Graph) (l : List Bool) (k : Nat) : ldK u g l (k + 1) = ldK u g l k ++ if l[k]? == some true && (mkAt u g [] k).load then [(k : Int)] else [] := by
  unfold ldK
  rw [List.range_succ, List.filter_append, List.map_append]
  congr 1
  by_cases h : (l[k]? == some true && (mkAt u g [] k).load) = true
  · simp only [List.filter_cons, h, if_true, List.filter_nil, List.map_cons, List.map_nil]
  · simp only [List.filter_cons, h, if_false, List.filter_nil, List.map_nil, Bool.false_eq_true]
theorem ldK_length (u : Unit_) (g : Graph) (l : List Bool) (k : Nat) : (ldK u g l k).length ≤ k := by
  unfold ldK
  rw [List.length_map]
  refine Nat.le_trans (List.length_filter_le _ _) ?_
  simp
/-- The answer of Loads. -/
noncomputable def loadsR (u : Unit_) (t : Int) (F : List Int) : List Int × Int :=
  if (openR u t F).2 = 0 then match u.graphs[t.toNat]? with
    | some g => (ldK u g (openR u t F).1 g.nodes.length, 0)
    | none => ([], 0)
  else ([], (openR u t F).2)
theorem ldK_mono (u : Unit_) (g : Graph) (l : List Bool) {k n : Nat} (h : k ≤ n) : (ldK u g l k).length ≤ (ldK u g l n).length := by
  induction h with
  | refl => exact Nat.le_refl _
  | step _ ih => rw [ldK_succ, List.length_append]; omega
/-- The pairs of some stores. -/
noncomputable def prL (u : Unit_) (g : Graph) (l : List Int) : List (Int × Int) := l.flatMap fun s => (ldK u g (openG g [s] []) g.nodes.length).map fun x => (s, x)
theorem prL_snoc (u : Unit_) (g : Graph) {l : List Int} {j : Nat} {s : Int} (h : l[j]? = some s) : prL u g (l.take (j + 1)) = prL u g (l.take j) ++ (ldK u g (openG g [s] []) g.nodes.length).map fun x => (s, x) := by
  have hj := (List.getElem?_eq_some_iff.1 h).1
  have he : l[j] = s := by rw [List.getElem?_eq_getElem hj] at h; injection h
  unfold prL
  rw [List.take_succ_eq_append_getElem hj, List.flatMap_append, he]
  simp
theorem prL_take (u : Unit_) (g : Graph) (l : List Int) (j : Nat) : (prL u g (l.take j)).length ≤ (prL u g l).length := by
  have h : prL u g l = prL u g (l.take j) ++ prL u g (l.drop j) := by
    unfold prL
    rw [← List.flatMap_append, List.take_append_drop]
  rw [h, List.length_append]
  omega
open Classical in
/-- The answer of Pairs. -/
noncomputable def pairsR (u : Unit_) (t : Int) : List (Int × Int) × Int :=
  if askE u t = 0 then match u.graphs[t.toNat]? with
    | some g => if (prL u g (stL u g)).length ≤ 65536 then (prL u g (stL u g), 0) else ([], 3)
    | none => ([], 0)
  else ([], askE u t)
theorem bestK_snoc (D : List Int) (x : Int) (k : Int) : ∀ (ks : List Int) (b : Int), bestK D x b (ks ++ [k]) = if D[k.toNat]? = some (x - 1) ∧ (bestK D x b ks < 0 ∨ k < bestK D x b ks) then k else bestK D x b ks
  | [], b => rfl
  | y :: ks, b => by
    show bestK D x _ (ks ++ [k]) = _
    rw [bestK_snoc D x k ks]
    rfl
open Classical in
/-- How far each node is. -/
noncomputable def farX (g : Graph) (tg i : Nat) : Int := if h : ∃ d, MinW g tg i d then ((Classical.choose h : Nat) : Int) else -1
noncomputable def farD (g : Graph) (tg : Nat) : List Int := (List.range g.nodes.length).map (farX g tg)
theorem farD_is (g : Graph) (tg : Nat) : FarL g tg (farD g tg) := by
  refine ⟨by simp [farD], fun i x hi => ?_⟩
  have hl := (List.getElem?_eq_some_iff.1 hi).1
  have hl2 : i < g.nodes.length := by simpa [farD] using hl
  unfold farD at hi
  rw [List.getElem?_map, List.getElem?_range hl2] at hi
  injection hi with hi
  subst hi
  unfold farX
  by_cases h : ∃ d, MinW g tg i d
  · rw [dif_pos h]; exact .inr ⟨_, rfl, Classical.choose_spec h⟩
  · rw [dif_neg h]
    refine .inl ⟨rfl, fun d hd => h ?_⟩
    obtain ⟨e, he, _⟩ := hd.min
    exact ⟨e, he⟩
open Classical in
/-- The answer of Way. -/
noncomputable def wayR (u : Unit_) (t a b : Int) : List Int × Bool × Int :=
  if askE u t = 0 then match u.graphs[t.toNat]? with
    | some g => if 0 ≤ a ∧ a < g.nodes.length ∧ 0 ≤ b ∧ b < g.nodes.length then
        if (mkAt u g [] a.toNat).store = true ∧ (mkAt u g [] b.toNat).load = true then
          match (farD g b.toNat)[a.toNat]? with
          | some x => if x < 0 then ([], false, 0) else (wayF g (farD g b.toNat) x.toNat a, true, 0)
          | none => ([], false, 0)
        else ([], false, 0)
      else ([], false, 2)
    | none => ([], false, 0)
  else ([], false, askE u t)
def pairV (p : Int × Int) : List Value := [.int .i64 p.1, .int .i64 p.2]
theorem pairV_len (p : Int × Int) : (pairV p).length = 2 := rfl
def pairsV (l : List (Int × Int)) : List Value := l.flatMap pairV
end Go.Proofs.YtffgnjgphkdodaaGreatDoor
/- The walk of the thread's far: how many steps it takes from each node to one. -/
namespace Go.Proofs.YtffgnjgphkdodaaGreatDoor
open Go Go.RowKit
/-- How much the search can still do. -/
def pot (out : List Int) : Nat := 4098 * out.countP (· < 0)
theorem pot_start (n : Nat) : pot (List.replicate n (-1)) = 4098 * n := by
  unfold pot
  rw [List.countP_replicate]
  simp
theorem pot_set {out : List Int} {i : Nat} {x y : Int} (h : out[i]? = some x) (hx : x < 0) (hy : 0 ≤ y) : pot (out.set i y) + 4098 = pot out := by
  have hi := (List.getElem?_eq_some_iff.1 h).1
  have he : out[i] = x := by rw [List.getElem?_eq_getElem hi] at h; injection h
  unfold pot
  have h1 : out = out.take i ++ x :: out.drop (i + 1) := by
    rw [← he]; simp
  have h2 : out.set i y = out.take i ++ y :: out.drop (i + 1) := by rw [List.set_eq_take_append_cons_drop, if_pos hi]
  rw [h2]
  conv => rhs; rw [h1]
  rw [List.countP_append, List.countP_append, List.countP_cons, List.countP_cons]
  have e1 : (decide (y < 0)) = false := decide_eq_false (by omega)
  have e2 : (decide (x < 0)) = true := decide_eq_true hx
  simp only [e1, e2, if_true]
  simp
  omega
def fills (N k : Nat) : List Value := List.replicate k (.int .i64 (-1)) ++ List.replicate (N - k) (.int .i64 0)
theorem fills_step {N k : Nat} (h : k < N) : (fills N k).set k (.int .i64 (-1)) = fills N (k + 1) := by
  unfold fills
  apply List.ext_getElem?
  intro i
  rw [List.getElem?_set]
  by_cases e : k = i
  · subst e
    rw [if_pos rfl, if_pos (by simp; omega), List.getElem?_append_left (by simp)]
    simp
  · rw [if_neg e]
    by_cases c : i < k
    · rw [List.getElem?_append_left (by simpa using c), List.getElem?_append_left (by simp; omega), List.getElem?_replicate, List.getElem?_replicate, if_pos c, if_pos (by omega)]
    · rw [List.getElem?_append_right (by simp; omega), List.getElem?_append_right (by simp; omega), List.getElem?_replicate, List.getElem?_replicate]
      simp only [List.length_replicate]
      by_cases d : i < N
      · rw [if_pos (by omega), if_pos (by omega)]
      · rw [if_neg (by omega), if_neg (by omega)]
theorem fills_at {N k : Nat} (hk : k ≤ N) {i : Nat} (hi : i < N) : ∃ v, (fills N k)[i]? = some (.int .i64 v) := by
  unfold fills
  by_cases c : i < k
  · exact ⟨-1, by rw [List.getElem?_append_left (by simpa using c)]; simp [c]⟩
  · exact ⟨0, by rw [List.getElem?_append_right (by simp; omega), List.getElem?_replicate, if_pos (by simp; omega)]⟩
/-- The search of far between two rounds. -/
def FaR (w w2 : World) (g : Graph) (tg k : Nat) (wr : World) : Prop :=
  ∃ out L, Hid (Blk wr w.heap.size 3 (ints out)) ∧ Hid (Qs (· < w2.heap.size) wr (w2.heap.size + 1) L ∧ HpN farK L L.length) ∧ Hid (DK g tg out L (fun _ _ => False)) ∧ Hid (w2.grownBy wr (some w.heap.size)) ∧ Hid (Below w.heap.size w wr) ∧ pot out + L.length ≤ k ∧ k ≤ 20000000
theorem grown_keep {w2 wr w' : World} {r : Option Nat} {R : Nat → Prop} (h : w2.grownBy wr r) (hk : KeepR R wr w') (hR : ∀ b, b < w2.heap.size → R b) : w2.grownBy w' r := ⟨hk.os.trans h.os, hk.tape.trans h.tape, hk.output.trans h.output, Nat.le_trans h.size hk.size, fun b hb hne => (hk.block b (hR b hb)).trans (h.block b hb hne)⟩
theorem below_keep {B : Nat} {w wr w' : World} {R : Nat → Prop} (h : Below B w wr) (hk : KeepR R wr w') (hR : ∀ b, b < B → R b) : Below B w w' := ⟨hk.os.trans h.os, hk.tape.trans h.tape, hk.output.trans h.output, Nat.le_trans h.size hk.size, fun b hb => (hk.block b (hR b hb)).trans (h.block b hb)⟩
theorem Qs.setCell {R : Nat → Prop} {w : World} {qb : Nat} {L : List Spot} (h : Qs R w qb L) {p : Addr} (hp : R p.block) (x : Value) : Qs R (w.setCell p x) qb L := by
  obtain ⟨v, h1, h2, h3⟩ := h.ex
  exact ⟨v, h1.far (fun e => (h3 _ hp).2.1 e.symm) x, ownsRow_setCell_other h2 (h3 _ hp).2.2 x, fun b hb => ⟨by simpa [World.setCell] using (h3 b hb).1, (h3 b hb).2⟩⟩
theorem Qs.more {R : Nat → Prop} {w : World} {qb sb : Nat} {L : List Spot} (h : Qs R w qb L) (o : Obj) (hs : sb = w.heap.size) : Qs (fun b => R b ∨ b = sb) (w.alloc o) qb L := by
  obtain ⟨v, h1, h2, h3⟩ := h.ex
  have hl := h1.lt
  refine ⟨v, h1.alloc o, World.ownsRow.alloc h2 o, fun b hb => ?_⟩
  rcases hb with hb | hb
  · exact ⟨by have := (h3 b hb).1; simp; omega, (h3 b hb).2⟩
  · exact ⟨by simp; omega, by omega, fun e => by have := (World.ownsRow.lt h2 b e).2; omega⟩
theorem Qs.less {R R' : Nat → Prop} {w : World} {qb : Nat} {L : List Spot} (h : Qs R w qb L) (hR : ∀ b, R' b → R b) : Qs R' w qb L := by
  obtain ⟨v, h1, h2, h3⟩ := h.ex
  exact ⟨v, h1, h2, fun b hb => h3 b (hR b hb)⟩
/-- The search of far while the nodes ahead of one are being looked at. -/
def FaI (w w2 : World) (g : Graph) (tg sb sn sf M : Nat) (row out : List Int) (v70 : Value) (wr : World) : Prop :=
  ∃ p L, v70 = .int .i64 ((p : Nat) : Int) ∧ p ≤ row.length ∧ Hid (Blk wr w.heap.size 3 (ints out)) ∧ Hid (Qs (fun b => b < w2.heap.size ∨ b = sb) wr (w2.heap.size + 1) L ∧ HpN farK L L.length) ∧ Hid (DK g tg out L (fun a b => a = sn ∧ (b : Int) ∈ row.drop p)) ∧ Hid (Blk wr sb 176 [.int .i64 (sn : Int), .int .i64 (sf : Int)]) ∧
    Hid (w2.grownBy wr (some w.heap.size)) ∧ Hid (Below w.heap.size w wr) ∧ L.length + (row.length - p) ≤ M
set_option maxRecDepth 100000 in
set_option maxHeartbeats 4000000 in
theorem far_calls (u : Unit_) (g : Graph) (F : List Int) (Y base tg : Nat) (w : World) (hrg : RightG u g) (hTh : Th w base u g F Y) (_hbase : base ≤ w.heap.size) (ht : tg < g.nodes.length) :
    Calls Tryz.prog 59 #[.pointer (some ⟨Y, 0, none⟩), .int .i64 (tg : Int)] w fun e w' => ∃ v D, e = .returned v ∧ Ints (part w' w.heap.size w'.heap.size) v D ∧ FarL g tg D ∧ Below w.heap.size w w' := by
  obtain ⟨X, nb, no, nc, hY, hX, hyb, hxb, hnv⟩ := hTh.ex
  have hw := hrg.whole
  have hpos := hw.pos
  have hmost := hw.most
  have HT := Lib.hid ht
  have HW := Lib.hid hw
  have HNV := Lib.hid hnv
  have HYB := Lib.hid hyb
  have HXB := Lib.hid hxb
  have y4 := hyb.cell 4
  have hyl := hyb.lt
  have hxl := hxb.lt
  obtain ⟨N, HN⟩ : ∃ N, Hid (g.nodes.length = N) := ⟨_, rfl⟩
  rw [HN.out] at y4 hpos hmost HYB ht
  have ht0 : (0 : Int) ≤ tg := by omega
  have htN : (tg : Int) < N := by omega
  clear hw hnv hyb hxb hrg hTh
  go_enter Tryz.func59, Tryz.ntmps59
  go_wp2_with (refine mk_full sl_int rfl rfl (.tmp 17) (.tmp 17) rfl N rfl rfl (by omega) (by omega) ?_)
  go_loopw [21] (fun v21 wr => ∃ k : Nat, v21 = .int .i64 k ∧ k ≤ N ∧ Hid (Blk wr w.heap.size 3 (fills N k)) ∧ Hid (Below w.heap.size w wr)) (fun v21 _ => N - (intOf v21).toNat)
  case atStart => exact ⟨0, rfl, Nat.zero_le _, Lib.hid (Blk.of (heap_new _ _ _ rfl) (by simp [fills])), Lib.hid (Below_alloc' _ _)⟩
  case round =>
    obtain ⟨k, rfl, hk, HO, HB⟩ := hrel
    by_cases hlt : k < N
    · obtain ⟨v, hv⟩ := fills_at hk hlt
      have c0 := (HO.out.cell k).trans hv
      have f0 := HO.out.frozen k
      have hk0 : (0 : Int) ≤ k := by omega
      have hki : (k : Int) < N := by omega
      have hks : (k : Int) ≤ 4096 := by omega
      clear hv
      go_wp2
      have h1 := HO.out.set_ k (.int .i64 (-1))
      rw [fills_step hlt] at h1
      have H1 := Lib.hid h1
      clear h1
      go_roundw
      case rel => exact ⟨k + 1, by go_num, by omega, H1, Lib.hid (HB.out.setCell (p := ⟨w.heap.size, k, none⟩) (Nat.le_refl w.heap.size) _)⟩
      case measure => simp [intOf]; omega
    · obtain rfl : k = N := by omega
      have hO : Blk wr w.heap.size 3 (ints (List.replicate k (-1))) := by
        have := HO.out
        unfold fills at this
        simpa [ints] using this
      have HOB := Lib.hid hO
      have hyr := HYB.out.below HB.out hyl
      have HXR := Lib.hid (HXB.out.below HB.out hxl)
      have hgy : ∀ j v, ([.string g.name, .int .i64 g.locals, .int .i64 g.slots, .slice (some ⟨nb, no, none⟩) k nc] : List Value)[j]? = some v → wr.cell? ⟨Y, 0 + j, none⟩ = some v := fun j v hj => by
        rw [Nat.zero_add, hyr.cell]
        match j, hj with
        | 0, hj => exact hj
        | 1, hj => exact hj
        | 2, hj => exact hj
        | 3, hj => exact hj
      have HGY := Lib.hid hgy
      have HAH := Lib.hid (ahead_calls g [.string g.name, .int .i64 g.locals, .int .i64 g.slots, .slice (some ⟨nb, no, none⟩) k nc] wr HW.out ⟨_, rfl, by
        have h1 := HNV.out.mono ((part_le _ _ _).trans (cmap_below HB.out))
        rw [HN.out] at h1
        exact h1⟩)
      clear hgy hO HO hlt hyr
      go_wp2_with (first
        | (refine wpList_load_at rfl 69 _ rfl Y 0 rfl _ _ HGY.out Tryz.underlying69 rfl (by kernel_rfl) ?_)
        | (go_at_call 103
           refine (HAH.out).mono ?_
           rintro e w2 ⟨av, rfl, ha, hb2⟩
           obtain ⟨aA, an, ac, rfl, -⟩ : ∃ A n c, av = .slice A n c ∧ True := by obtain ⟨A, c, rfl, _⟩ := ha; exact ⟨_, _, _, rfl, trivial⟩
           have HA := Lib.hid (And.intro ha hb2)
           have hq0 : Qs (· < w2.heap.size) ((w2.alloc (.cells #[] 176)).alloc (.cells #[.slice (some ⟨w2.heap.size, 0, none⟩) 0 0] 173)) (w2.heap.size + 1) [] :=
             ⟨.slice (some ⟨w2.heap.size, 0, none⟩) 0 0, Blk.of (heap_new _ _ _ (by simp)) rfl, (own_new (base := 0) (size := 2) (n := 0) w2 #[] w2.heap.size rfl (Nat.zero_le _) (by omega) rfl [] rfl).alloc _, fun b hb => ⟨by simp; omega, by omega, fun e => by
               have e : some w2.heap.size = some b := e
               injection e with e
               omega⟩⟩
           have hps := hpush_calls (· < w2.heap.size) (w2.heap.size + 1) [] (tg, 0) _ hq0 (fun k h0 hk => by simp at hk) (by simp)
           rw [show (((tg, 0) : Spot).2 : Int) = 0 from rfl] at hps
           have HPS := Lib.hid hps
           clear ha hb2 hq0 hps)
        | (go_at_call 104
           refine (HPS.out).mono ?_
           rintro e w3 ⟨rfl, L0, hq3, hh3, hl3, hm3, hk3⟩
           have HQ3 := Lib.hid (And.intro hq3 (And.intro hh3 (And.intro hl3 (And.intro hm3 hk3))))
           clear hq3 hh3 hl3 hm3 hk3))
      obtain ⟨w1, rfl⟩ : ∃ w1 : World, w1 = wr := ⟨_, rfl⟩
      have hO1 := HOB.out.lt
      have hs12 := HA.out.2.size
      have hk3 : KeepR (· < w2.heap.size) w2 w3 := ((KeepR.refl _ w2).alloc (fun b h => h) _ |>.alloc (fun b h => h) _).trans HQ3.out.2.2.2.2
      have hg0 : w2.grownBy w2 (some w.heap.size) := World.grownBy.refl w2 _
      have hst : FaR w w2 g tg (4098 * k + 1) w3 := ⟨List.replicate k (-1), L0, Lib.hid ((hk3.block _ (by omega)).trans (HOB.out.below HA.out.2 hO1)), Lib.hid ⟨HQ3.out.1, HQ3.out.2.1⟩, Lib.hid (by
        have h1 := DK.start HT.out
        rw [HN.out] at h1
        refine ⟨h1.len, h1.val, fun a b hab => h1.ways a b ?_, ?_, fun s x hs a n hn hd hj => ?_⟩
        · have := (HQ3.out.2.2.2.1 (a, b)).1 hab
          simpa using this
        · exact .inr ((HQ3.out.2.2.2.1 (tg, 0)).2 (.inr rfl))
        · rcases h1.next s x hs a n hn hd hj with q | q | q
          · exact .inl q
          · simp at q
          · exact q.elim), Lib.hid (grown_keep hg0 hk3 fun b h => h), Lib.hid (below_keep (HB.out.trans (HA.out.2.mono HB.out.size)) hk3 fun b h => (by omega)), by rw [pot_start, HQ3.out.2.2.1]; simp, by omega⟩
      have HST := Lib.hid hst
      have hrk : ∀ i, i < k → ((List.range k).map (predK g k))[i]? = some (predK g k i) := fun i hi => by simp [hi]
      have HRK := Lib.hid hrk
      have ha1 := HA.out.1
      rw [HN.out] at ha1
      have han : k = an := by have := ha1.len.1; simpa using this.symm
      subst han
      obtain ⟨ab, ao, rfl, -⟩ := ha1.at_ (HRK.out tg ht)
      have HAR := Lib.hid ha1
      clear ha1 hrk
      clear hst hg0 hk3 HQ3 HPS
      go_loopg [] (4098 * k + 1) (fun k wr => FaR w w2 g tg k wr)
      case atStart => exact HST.out
      case round =>
        obtain ⟨out, L, HOB, HQ, HDK, HGR, HBE, hpk, hk2⟩ := hrel
        obtain ⟨v, hbk, how, hrr⟩ := HQ.out.1.ex
        have b0 := hbk.cell 0
        obtain ⟨qA, qc, rfl, -⟩ := own_slice how
        have hlen := HDK.out.len
        rw [HN.out] at hlen
        have HRR := Lib.hid hrr
        clear hrr how hbk
        rcases Nat.eq_zero_or_pos L.length with hl0 | hl0
        · obtain rfl : L = [] := List.eq_nil_of_length_eq_zero hl0
          have hfar := HDK.out.done
          have HF := Lib.hid hfar
          have HLN := Lib.hid hlen
          have b0' : wr.cell? ⟨w2.heap.size + 1, 0, none⟩ = some (.slice qA 0 qc) := b0
          clear b0 hl0 hlen hfar
          go_wp2_with (first
            | (go_at_call 106
               refine (qlen_calls _ _ _ _).mono ?_
               rintro e w5 ⟨rfl, rfl⟩))
          go_ret
          refine ⟨.slice (some ⟨w.heap.size, 0, none⟩) k k, out, rfl, ?_, HF.out, HBE.out⟩
          exact Sl_of_blk (f := fun x : Int => Value.int .i64 x) (fun _ _ _ _ h => h) HOB.out (Nat.le_refl _) (Nat.le_refl _) HLN.out.symm (by omega)
        · have d0 : decide ((0 : Int) < (L.length : Int)) = true := decide_eq_true (by omega)
          have hpo := hpop_calls (· < w2.heap.size) (w2.heap.size + 1) L wr HQ.out.1 HQ.out.2 (by omega) hl0
          have HPO := Lib.hid hpo
          have HLN := Lib.hid hlen
          have hta := fun w v => run_as_spot w v
          have HL0 := Lib.hid hl0
          clear hpo hlen hl0
          go_wp2_with (first
            | (go_at_call 106
               refine (qlen_calls _ _ _ _).mono ?_
               rintro e w5 ⟨rfl, rfl⟩)
            | (go_at_call 107
               refine (HPO.out).mono ?_
               rintro e w5 ⟨s, L', rfl, hq5, hh5, hl5, hm5, hs5, hk5⟩
               obtain ⟨sn, sf⟩ := s
               have hws := HDK.out.ways sn sf ((hm5 _).2 (.inr rfl))
               rw [HN.out] at hws
               have hsn := hws.1
               have hso : sn < out.length := by rw [HLN.out]; exact hsn
               obtain ⟨y, hy⟩ : ∃ y, out[sn]? = some y := ⟨_, List.getElem?_eq_getElem hso⟩
               have hO5 := (hk5.block _ (by omega)).trans HOB.out
               have HQ5 := Lib.hid (And.intro hq5 (And.intro hh5 (And.intro hl5 (And.intro hm5 (And.intro hs5 hk5)))))
               have HO5 : Hid (Blk w5 w.heap.size 3 (ints out)) := Lib.hid hO5
               have HY := Lib.hid (And.intro hy hso)
               have hsn0 : (0 : Int) ≤ sn := by omega
               have hsnN : (sn : Int) < k := by omega
               have oc : w5.cell? ⟨w.heap.size, sn, none⟩ = some (.int .i64 y) := by rw [HO5.out.cell]; simp [ints, hy]
               have of := HO5.out.frozen sn
               have hgr5 := grown_keep HGR.out HQ5.out.2.2.2.2.2 fun b h => h
               have har5 : Ints2 (part w5 w1.heap.size w2.heap.size) (.slice (some ⟨ab, ao, none⟩) k ac) ((List.range k).map (predK g k)) := HAR.out.mono (part_keep fun b h1 h2 => hgr5.block b h2 (by intro e; injection e with e; omega))
               obtain ⟨ab', ao', e', rv, hrc, hri⟩ := har5.at_ (HRK.out sn hsn)
               injection e' with e'
               injection e' with e1 e2
               subst e1 e2
               obtain ⟨rA, rc, rfl, hrl⟩ : ∃ A c, rv = .slice A (predK g k sn).length c ∧ True := by obtain ⟨A, c, rfl, _⟩ := hri; exact ⟨_, _, rfl, trivial⟩
               rw [Nat.mul_one] at hrc
               have hrc1 := (part_at hrc).1
               have hab1 := (part_at hrc).2.1
               have hab2 := (part_at hrc).2.2
               have habn : ab ≠ w.heap.size := by omega
               have habn' : w.heap.size ≠ ab := by omega
               have hab5 : ab < w5.heap.size := by have := hgr5.size; omega
               have HRI := Lib.hid hri
               have HGR5 := Lib.hid hgr5
               have hpkl := predK_length g sn k
               have hol := HO5.out.lt
               clear hq5 hh5 hl5 hm5 hs5 hk5 hO5 hy hws hso hgr5 har5 hrc hri hrl))
          · rename_i hy0
            obtain ⟨h1, h2, h3, h4, h5, h6⟩ := HQ5.out
            obtain ⟨q1, q2⟩ := h1.below (Below_alloc' w5 (.cells #[.int .i64 (sn : Int), .int .i64 (sf : Int)] 176))
            have hb5 := below_keep HBE.out h6 fun b h => by omega
            go_roundg (pot out + L'.length)
            case measure => omega
            case rel => exact ⟨out, L', Lib.hid (HO5.out.alloc _), Lib.hid ⟨q1, h2⟩, Lib.hid (HDK.out.skip h4 HY.out.1 hy0), Lib.hid (grown_keep HGR5.out q2 fun b h => h), Lib.hid (hb5.alloc hb5.size _), Nat.le_refl _, by omega⟩
          · rename_i hy0
            have hdk := HDK.out.take_ HQ5.out.2.2.2.1 HQ5.out.2.2.2.2.1 HY.out.1 hy0
            have hsf : sf < k := by
              have h1 := hdk.val sn sf (by rw [List.getElem?_set, if_pos rfl, if_pos HY.out.2])
              rcases h1 with h1 | ⟨d, h1, h2⟩
              · omega
              · have := h2.lt HT.out
                rw [HN.out] at this
                omega
            have hpt := pot_set (y := (sf : Int)) HY.out.1 hy0 (by omega)
            obtain ⟨out1, ho1⟩ : ∃ out1, out.set sn (sf : Int) = out1 := ⟨_, rfl⟩
            have hself : out1[sn]? = some (sf : Int) := by rw [← ho1, List.getElem?_set, if_pos rfl, if_pos HY.out.2]
            have hoo := HO5.out.set_ sn (.int .i64 (sf : Int))
            have hins : (ints out).set sn (.int .i64 (sf : Int)) = ints out1 := by rw [← ho1]; simp [ints, List.map_set]
            rw [hins] at hoo
            rw [ho1] at hdk hpt
            have hof : out1.length = k := by rw [← ho1, List.length_set]; exact HLN.out
            obtain ⟨row, hrow⟩ : ∃ row, predK g k sn = row := ⟨_, rfl⟩
            have hrm := predK_mem g sn k
            rw [hrow] at hrm HRI hpkl hrc1 ⊢
            have hex : DK g tg out1 L' (fun a b => a = sn ∧ (b : Int) ∈ row.drop 0) := hdk.narrow fun a b n hn hj hab => ⟨hab, by
              subst hab
              rw [List.drop_zero, hrm]
              exact ⟨b, n, rfl, by have := (List.getElem?_eq_some_iff.1 hn).1; have := HN.out; omega, hn, hj⟩⟩
            have hq6 := (HQ5.out.1.setCell (p := ⟨w.heap.size, sn, none⟩) (by show w.heap.size < w2.heap.size; omega) (.int .i64 (sf : Int))).more (.cells #[.int .i64 (sn : Int), .int .i64 (sf : Int)] 176) (sb := w5.heap.size) (by simp [World.setCell])
            have hg6 : w2.grownBy ((w5.setCell ⟨w.heap.size, sn, none⟩ (.int .i64 (sf : Int))).alloc (.cells #[.int .i64 (sn : Int), .int .i64 (sf : Int)] 176)) (some w.heap.size) := gbT (gb_set HGR5.out sn _) (World.grownBy_alloc _ _ _)
            have hb5 := below_keep HBE.out HQ5.out.2.2.2.2.2 fun b h => by omega
            have hb6 := (hb5.setCell (p := ⟨w.heap.size, sn, none⟩) (Nat.le_refl w.heap.size) (.int .i64 (sf : Int))).alloc (by have := hb5.size; simpa [World.setCell] using this) (.cells #[.int .i64 (sn : Int), .int .i64 (sf : Int)] 176)
            have hl5 := HQ5.out.2.2.1
            have hin : FaI w w2 g tg w5.heap.size sn sf (L'.length + row.length) row out1 (.int .i64 0) ((w5.setCell ⟨w.heap.size, sn, none⟩ (.int .i64 (sf : Int))).alloc (.cells #[.int .i64 (sn : Int), .int .i64 (sf : Int)] 176)) :=
              ⟨0, L', rfl, Nat.zero_le _, Lib.hid (hoo.alloc _), Lib.hid ⟨hq6, HQ5.out.2.1⟩, Lib.hid hex, Lib.hid (Blk.of (heap_new _ _ _ (by simp [World.setCell])) rfl), Lib.hid hg6, Lib.hid hb6, by omega⟩
            have HIN := Lib.hid hin
            have HF1 := Lib.hid (And.intro hself (And.intro hof hrm))
            have HPT : Hid (pot out1 + 4098 = pot out ∧ L'.length + 1 = L.length ∧ row.length ≤ 4096) := Lib.hid ⟨hpt, hl5, by omega⟩
            have hnn : row.length ≤ 4096 := by omega
            clear hin hb6 hb5 hg6 hq6 hex hrm hof hself hoo hins ho1 hdk hpt hl5 hrow
            obtain ⟨M, hM⟩ : ∃ M, L'.length + row.length = M := ⟨_, rfl⟩
            rw [hM] at HIN
            obtain ⟨sb, hsb⟩ : ∃ sb, w5.heap.size = sb := ⟨_, rfl⟩
            rw [hsb] at HIN ⊢
            have HMM := Lib.hid hM
            have HSB : Hid (w2.heap.size < sb) := Lib.hid (by have := HGR5.out.size; have := HQ5.out.1.ex; obtain ⟨_, h1, _⟩ := this; have := h1.lt; omega)
            clear hM
            obtain ⟨go, rfl⟩ : ∃ go : Nat, go = gk := ⟨_, rfl⟩
            go_loopw [70] (fun v70 wr => FaI w w2 g tg sb sn sf M row out1 v70 wr) (fun v70 _ => row.length - (intOf v70).toNat)
            case atStart => exact HIN.out
            case round =>
              obtain ⟨p, L2, rfl, hp, HOB, HQ, HDK, HSP, HGR, HBE, hM⟩ := hrel
              by_cases hlt : p < row.length
              · obtain ⟨x, hx⟩ : ∃ x, row[p]? = some x := ⟨_, List.getElem?_eq_getElem hlt⟩
                obtain ⟨i, nd, rfl, hik, hnd, hsn'⟩ := (HF1.out.2.2 x).1 (List.mem_of_getElem? hx)
                have hri : Ints (part wr w1.heap.size w2.heap.size) (.slice rA row.length rc) row := HRI.out.mono (part_keep fun b h1 h2 => (HGR.out.block b h2 (by intro e; injection e with e; omega)).trans (HGR5.out.block b h2 (by intro e; injection e with e; omega)).symm)
                obtain ⟨rb, ro, rfl, hrc2⟩ := hri.at_ hx
                rw [Nat.mul_one] at hrc2
                have hrc3 := (part_at hrc2).1
                have hdrop : row.drop p = (i : Int) :: row.drop (p + 1) := by
                  rw [List.drop_eq_getElem_cons hlt]
                  congr 1
                  rw [List.getElem?_eq_getElem hlt] at hx
                  injection hx
                have hexs : ∀ a b : Nat, (a = sn ∧ (b : Int) ∈ row.drop p) → (a = sn ∧ (b : Int) ∈ row.drop (p + 1)) ∨ (a = sn ∧ b = i) := by
                  rintro a b ⟨h1, h2⟩
                  rw [hdrop] at h2
                  rcases List.mem_cons.1 h2 with h2 | h2
                  · exact .inr ⟨h1, by omega⟩
                  · exact .inl ⟨h1, h2⟩
                have hil : i < out1.length := by rw [HF1.out.2.1]; exact hik
                obtain ⟨y, hy⟩ : ∃ y, out1[i]? = some y := ⟨_, List.getElem?_eq_getElem hil⟩
                have oc : wr.cell? ⟨w.heap.size, i, none⟩ = some (.int .i64 y) := by rw [HOB.out.cell]; simp [ints, hy]
                have hyr := HYB.out.below HBE.out hyl
                have y4r := hyr.cell 4
                have hxr := HXB.out.below HBE.out hxl
                have hmk : wr.cell? ⟨X, i * 4 + 2, none⟩ = some (.bool (drB nd)) := by
                  rw [hxr.cell]
                  refine fm_at mk_len (mkL_at u g F (by rw [HN.out]; exact hik)) (j := 2) ?_
                  unfold mkAt
                  rw [hnd]
                  rfl
                have i0 : (0 : Int) ≤ i := by omega
                have ik : (i : Int) < k := by omega
                have p0 : (0 : Int) ≤ p := by omega
                have pk : (p : Int) < row.length := by omega
                have s3 := HSP.out.cell 1
                have sf0 : (0 : Int) ≤ sf := by omega
                have sf1 : (sf : Int) ≤ 4096 := by omega
                have HPAS := Lib.hid (And.intro hexs (And.intro hy (And.intro hnd hsn')))
                obtain ⟨hbq, hbk, how, hbr⟩ := HQ.out.1.ex
                clear hx hri hrc2 hdrop hexs hil hyr hxr hy hnd hsn'
                by_cases hy0 : y < 0
                · have d1 : decide (y < 0) = true := decide_eq_true hy0
                  cases hdr : drB nd with
                  | true =>
                    rw [hdr] at hmk
                    have HDR := Lib.hid hdr
                    clear hdr
                    go_wp2
                    go_roundw
                    case rel => exact ⟨p + 1, L2, by go_num, hlt, HOB, HQ, Lib.hid (HDK.out.pass HPAS.out.1 (.inr fun n hn => by have := HPAS.out.2.2.1; rw [this] at hn; injection hn with hn; rw [← hn]; exact HDR.out)), HSP, HGR, HBE, by omega⟩
                    case measure => simp [intOf]; omega
                  | false =>
                    rw [hdr] at hmk
                    have HDR := Lib.hid hdr
                    clear hdr
                    have hps := qpush_calls (fun b => b < w2.heap.size ∨ b = sb) (w2.heap.size + 1) L2 (i, sf + 1) wr HQ.out.1 (by have := HPT.out; have := HMM.out; omega)
                    rw [show ((((i, sf + 1) : Spot).2 : Nat) : Int) = (sf : Int) + 1 from rfl] at hps
                    have HPS := Lib.hid hps
                    have hup := UpOk.of_last (κ := farK) (x := ((i, sf + 1) : Spot)) HQ.out.2
                    have hfx := fun w1 h => hfix_calls (fun b => b < w2.heap.size ∨ b = sb) (w2.heap.size + 1) (L2 ++ [((i, sf + 1) : Spot)]) L2.length w1 h (by simp) hup (by have := HPT.out; have := HMM.out; simp; omega)
                    have HFX := Lib.hid hfx
                    have hl20 : (0 : Int) ≤ L2.length := by omega
                    have hl21 : (L2.length : Int) ≤ 100000000 := by have := HPT.out; have := HMM.out; omega
                    clear hps hfx hup
                    go_wp2_with (first
                      | (go_at_call 105
                         refine (HPS.out).mono ?_
                         rintro e w7 ⟨rfl, hq7, hk7⟩
                         have HQ7 := Lib.hid (And.intro hq7 hk7)
                         have HFX7 := Lib.hid (HFX.out w7 hq7)
                         obtain ⟨v7, hb7, ho7, -⟩ := hq7.ex
                         obtain ⟨A7, c7, rfl, -⟩ := own_slice ho7
                         have b7 := hb7.cell 0
                         simp only [List.length_append, List.length_singleton] at b7
                         clear hq7 hk7 hb7 ho7)
                      | (go_at_call 106
                         refine (qlen_calls _ _ _ _).mono ?_
                         rintro e w5 ⟨rfl, rfl⟩)
                      | (go_at_call 108
                         refine (HFX7.out).mono ?_
                         rintro e w8 ⟨rfl, L3, hq8, hh8, hl8, hm8, hk8⟩
                         have HQ8 := Lib.hid (And.intro hq8 (And.intro hh8 (And.intro hl8 (And.intro hm8 hk8))))
                         clear hq8 hh8 hl8 hm8 hk8))
                    have hkk := HQ7.out.2.trans HQ8.out.2.2.2.2
                    have HKK := Lib.hid hkk
                    clear hkk
                    go_roundw
                    case rel => exact ⟨p + 1, L3, by go_num, hlt, Lib.hid ((HKK.out.block _ (.inl (by omega))).trans HOB.out), Lib.hid ⟨HQ8.out.1, HQ8.out.2.1⟩, Lib.hid (HDK.out.push HPAS.out.1 HF1.out.1 HPAS.out.2.2.1 HDR.out HPAS.out.2.2.2 (fun x => by rw [HQ8.out.2.2.2.1 x]; simp)), Lib.hid ((HKK.out.block _ (.inr rfl)).trans HSP.out), Lib.hid (grown_keep HGR.out HKK.out fun b h => .inl h), Lib.hid (below_keep HBE.out HKK.out fun b h => .inl (by omega)), by rw [HQ8.out.2.2.1]; simp; omega⟩
                    case measure => simp [intOf]; omega
                · have d1 : decide (y < 0) = false := decide_eq_false hy0
                  go_wp2
                  go_roundw
                  case rel => exact ⟨p + 1, L2, by go_num, hlt, HOB, HQ, Lib.hid (HDK.out.pass HPAS.out.1 (.inl ⟨y, HPAS.out.2.1, by omega⟩)), HSP, HGR, HBE, by omega⟩
                  case measure => simp [intOf]; omega
              · obtain rfl : p = row.length := by omega
                go_wp2
                go_roundg (pot out1 + L2.length)
                case measure => have := HPT.out; have := HMM.out; omega
                case rel => exact ⟨out1, L2, HOB, Lib.hid ⟨HQ.out.1.less fun b hb => .inl hb, HQ.out.2⟩, Lib.hid (HDK.out.narrow fun a b n _ _ h => by simp at h), HGR, HBE, Nat.le_refl _, by have := HPT.out; have := HMM.out; omega⟩
end Go.Proofs.YtffgnjgphkdodaaGreatDoor
