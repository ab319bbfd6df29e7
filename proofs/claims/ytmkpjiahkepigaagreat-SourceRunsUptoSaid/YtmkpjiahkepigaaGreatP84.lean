import Derived.Test.YtmkpjiahkepigaaGreatP40
import Derived.Test.YtmkpjiahkepigaaGreatP35
import Derived.Laws.CopyRow
import Derived.Laws.MakeOwn
import Derived.Test.YtmkpjiahkepigaaGreatP71
import Derived.Test.YtmkpjiahkepigaaGreatP83
/- Laws for a region that draws its order: make of a slice, a boxed struct; copy of a whole slice into a row of the call's own. -/
namespace Go.Proofs.YtmkpjiahkepigaaGreat
open Go Go.RowKit
/-- A block of k cells, whatever they hold. -/
def RawB (w : World) (X : Nat) (T : TypeId) (k : Nat) : Prop := ∃ arr : Array Value, w.heap[X]? = some (.cells arr T (0, 0)) ∧ arr.size = k
theorem RawB.lt {w : World} {X k : Nat} {T : TypeId} (h : RawB w X T k) : X < w.heap.size := by obtain ⟨_, h, _⟩ := h; exact lt_of_block h
theorem RawB.below {w w' : World} {X k : Nat} {T : TypeId} (h : RawB w X T k) (hb : Below w.heap.size w w') : RawB w' X T k := by
  have hl := h.lt
  obtain ⟨a, h1, h2⟩ := h
  exact ⟨a, (hb.block X hl).trans h1, h2⟩
theorem RawB.setRow {w : World} {X Y k : Nat} {T : TypeId} (h : RawB w X T k) (hne : X ≠ Y) (cs : Array Value) : RawB (w.setRow Y cs) X T k := by
  obtain ⟨a, h1, h2⟩ := h
  exact ⟨a, (heap_setRow_ne hne cs).trans h1, h2⟩
section
variable {P : Program} {α : Type} {R : CM → Nat → Nat → α → Prop} {f : α → List Value} {t e size bytes : Nat} {z : Value}
theorem wp_make_at (T : SlT P t e size bytes z) {Q : Exit → Act → World → Prop} {o : Oper} {a : Act} {w : World} {K : Act → World → Prop} (x y : Operand) (ho : o.op = .makeSlice t x y) (n : Nat) (hx : a.eval x = .int .i64 (n : Int)) (hy : a.eval y = .int .i64 (n : Int))
    (hb : bytes * n ≤ 281474976710656) (hn : n ≤ 9223372036854775807) (h : ∀ arr : Array Value, arr.size = n * size → K (a.put o.dst (.slice (some ⟨w.heap.size, 0, none⟩) n n)) (w.alloc (.cells arr e))) : o.wp P a w K Q := by
  obtain ⟨i, hi, hz, hsz, hby⟩ := T.info
  have hbn : ((i.bytes : Nat) : Int) * (n : Int) ≤ 281474976710656 := by
    have : i.bytes * n ≤ 281474976710656 := by rw [hby]; exact hb
    have : ((i.bytes * n : Nat) : Int) ≤ 281474976710656 := by omega
    rwa [Int.natCast_mul] at this
  have hr := run_make (P := P) w t e i z T.ht hi hz .i64 .i64 n n (by omega) (Int.le_refl _) hbn (by omega)
  unfold Oper.wp execOp
  simp only [ho, hx, hy, Sem.run_bind, Sem.run_pure, Result.andThen_ok, hr]
  exact h _ (by rw [size_madeCells, Int.toNat_natCast, hsz])
theorem wp_box_at {Q : Exit → Act → World → Prop} {o : Oper} {a : Act} {w : World} {K : Act → World → Prop} {ty : TypeId} {x : Operand} (ho : o.op = .box ty x) (cs : List Value) (hx : a.eval x = .agg cs.toArray)
    (h : K (a.put o.dst (.pointer (some ⟨w.heap.size, 0, none⟩))) (w.alloc (.cells cs.toArray ty))) : o.wp P a w K Q := by
  unfold Oper.wp execOp
  simp only [ho, Instr.box, hx]
  go_simp
  exact h
theorem flat_rows {w : World} {b o n : Nat} (hR : RowR R f size) (hs : 0 < size) {l : List α} (h : ∀ i x, l[i]? = some x → R (cmap w) b (o + i * size) x) (_hn : n = l.length) : ∀ j u, (l.map f).flatten[j]? = some u → w.cell? ((⟨b, o, none⟩ : Addr).add j) = some u := by
  intro j u hj
  have hrl : ∀ r ∈ l.map f, r.length = size := fun r hr => by
    obtain ⟨x, _, rfl⟩ := List.mem_map.1 hr
    exact hR.len x
  obtain ⟨k, q, r, k1, k2, rfl⟩ := flatten_inv _ _ _ _ hs hrl hj
  rw [List.getElem?_map] at k1
  cases hx : l[k]? with
  | none => rw [hx] at k1; cases k1
  | some x =>
    rw [hx] at k1
    injection k1 with k1
    subst k1
    have := hR.dn _ _ _ _ (h k x hx) q u k2
    rw [add_mk, ← Nat.add_assoc]
    exact this
theorem flat_length (hR : RowR R f size) : ∀ l : List α, (l.map f).flatten.length = l.length * size
  | [] => by simp
  | x :: l => by rw [List.map_cons, List.flatten_cons, List.length_append, flat_length hR l, hR.len, List.length_cons, Nat.succ_mul, Nat.add_comm]
/-- copy of a whole slice into a block of its length. -/
theorem run_copyTo (hR : RowR R f size) (T : SlT P t e size bytes z) (w : World) (ty : Nat) (X : Nat) (A : Option Addr) (c c' : Nat) (l : List α) (hr : Sl R size (cmap w) (.slice A l.length c) l) (hX : RawB w X e (l.length * size)) :
    (Builtin.copy_ #[t, t] ty #[.slice (some ⟨X, 0, none⟩) l.length c', .slice A l.length c]).run P w = .ok (goInt l.length) (w.setRow X (l.map f).flatten.toArray) := by
  obtain ⟨i, hi, hz, hsz, hby⟩ := T.info
  obtain ⟨arr, hX, harr⟩ := hX
  have hfl := flat_length (R := R) hR l
  obtain ⟨A0, c0, he, hlc, ⟨h4, h5⟩, h6⟩ := hr
  injection he with e1 e2 e3
  subst e1 e3
  have hone : ∀ v ∈ (l.map f).flatten, v.oneCell' = true := fun v hv => by
    obtain ⟨r, hr, hv⟩ := List.mem_flatten.1 hv
    obtain ⟨x, _, rfl⟩ := List.mem_map.1 hr
    exact hR.one x v hv
  have hst := run_storeCells_at P X 0 e (l.map f).flatten 0 arr w hX (by rw [hfl]; omega) hone
  have hrow : (arr.toList.take 0 ++ (l.map f).flatten ++ arr.toList.drop (0 + (l.map f).flatten.length)) = (l.map f).flatten := by
    rw [hfl, List.take_zero, List.nil_append, Nat.zero_add, List.drop_of_length_le (by simp; omega), List.append_nil]
  rw [Nat.add_zero, hrow] at hst
  by_cases hl : l = []
  · subst hl
    have hs0 : w.setRow X #[] = w := by
      have := setRow_self w X arr e (0, 0) hX
      have ha : arr = #[] := Array.eq_empty_of_size_eq_zero (by simpa using harr)
      rw [ha] at this; exact this
    cases A with
    | none => simp [Builtin.copy_, run_underlying T.ht, Builtin.lenOf, Builtin.firstCells, sizeOf, typeInfo, hi, storeCells, hs0]
    | some a => simp [Builtin.copy_, run_underlying T.ht, Builtin.lenOf, Builtin.firstCells, sizeOf, typeInfo, hi, storeCells, loadCells, loadCellsFrom, hs0]
  · rcases h6 with h6 | ⟨b, o, rfl, h6⟩
    · exact absurd h6 hl
    have hld := run_loadCells_list (P := P) w ⟨b, o, none⟩ (l.map f).flatten (flat_rows hR T.hsz h6 rfl)
    rw [hfl] at hld
    simp [Builtin.copy_, run_underlying T.ht, Builtin.lenOf, Builtin.firstCells, sizeOf, typeInfo, hi, hsz, hld, hst]
theorem wpList_copyTo (hR : RowR R f size) (T : SlT P t e size bytes z) {ops : Array Oper} {rest : List Oper} {o : Oper} {a : Act} {w : World} {Q : Exit → Act → World → Prop} (hgd : o.guard = none) (d s : Operand)
    (ho : o.op = .call { callee := .builtin .copy, args := #[d, s], argTypes := #[t, t] }) (X n : Nat) (A : Option Addr) (c c' : Nat) (hd : a.eval d = .slice (some ⟨X, 0, none⟩) n c') (hs : a.eval s = .slice A n c) (l : List α) (hn : n = l.length) (hr : Sl R size (cmap w) (.slice A n c) l) (hX : RawB w X e (n * size))
    (h : wpList P ops Q rest (a.put o.dst (goInt n)) (w.setRow X (l.map f).flatten.toArray)) : wpList P ops Q (o :: rest) a w := by
  subst hn
  have hrun := run_copyTo hR T w o.type X A c c' l hr hX
  refine wpList_plain hgd fun K hK => ?_
  unfold Oper.wp
  simp [execOp, ho, resolve, invoke, builtin, hd, hs, hrun, Result.andThen]
  exact hK _ _ h
end
end Go.Proofs.YtmkpjiahkepigaaGreat
/- A copy of a source machine that is being made. -/
namespace Go.Proofs.YtmkpjiahkepigaaGreat
open Go Go.RowKit
/-- The copy's parts: all is new but the unit. -/
structure CpB (w wc : World) (g : Nat) (L : Lay) (m : Mach) : Prop where
  bel : Below w.heap.size w wc
  ge : w.heap.size ≤ g
  ov : Acc (fun _ cs x => cs = slotV x) 1 32 w.heap.size (fun _ => False) L.ov (L.gl.zip (m.slots.map List.length)) wc
  at_ : wc.ownsRow w.heap.size 3 1 L.av m.at_.length (natsV m.at_)
  hold : wc.ownsRow w.heap.size 3 1 L.hv m.holders.length (i64sV m.holders)
  mem : wc.ownsRow w.heap.size 2 1 L.mv m.mem.length (i64sV m.mem)
  prints : wc.ownsRow w.heap.size 77 2 L.pv m.prints.length (printsV m.prints)
  gll : L.gl.length = m.slots.length
  slot : ∀ (t k : Nat) (l : List Int), L.gl[t]? = some k → m.slots[t]? = some l → Blk wc k 2 (i64sV l)
  glge : ∀ b ∈ L.gl, w.heap.size ≤ b
  nodup : L.gl.Nodup
  memgl : ∀ b, L.mv.ownBlock = some b → b ∉ L.gl
  athold : ∀ b, L.av.ownBlock = some b → L.hv.ownBlock ≠ some b
section
variable {w wc w1 wx x0 x1 : World} {g : Nat} {L : Lay} {S T : Nat → Prop} {u : Unit_} {m : Mach}
theorem CpB.glb (h : CpB w wc g L m) {k : Nat} (hk : k ∈ L.gl) : ∃ cur, wc.heap[k]? = some (.cells cur 2 (0, 0)) := by
  obtain ⟨t, ht⟩ := List.getElem?_of_mem hk
  have hl : t < m.slots.length := by rw [← h.gll]; exact (List.getElem?_eq_some_iff.1 ht).1
  exact ⟨_, h.slot t k _ ht (List.getElem?_eq_getElem hl)⟩
/-- What is written is none of the parts. -/
theorem CpB.fr (h : CpB w wc g L m) (hf : FrW T wc wx) (h0 : ∀ b, T b → w.heap.size ≤ b) (hov : ∀ b, L.ov.ownBlock = some b → ¬ T b) (hav : ∀ b, L.av.ownBlock = some b → ¬ T b) (hhv : ∀ b, L.hv.ownBlock = some b → ¬ T b) (hmv : ∀ b, L.mv.ownBlock = some b → ¬ T b) (hpv : ∀ b, L.pv.ownBlock = some b → ¬ T b) (hgl : ∀ b, b ∈ L.gl → ¬ T b) :
    CpB w wx g L m where
  bel := h.bel.trans (hf.grow w.heap.size h.bel.size h0)
  ge := h.ge
  ov := h.ov.fr hf hov (fun _ e => e.elim)
  at_ := ownsRow_fr h.at_ hf hav
  hold := ownsRow_fr h.hold hf hhv
  mem := ownsRow_fr h.mem hf hmv
  prints := ownsRow_fr h.prints hf hpv
  gll := h.gll
  slot := fun t k l k1 k2 => (h.slot t k l k1 k2).fr hf (hgl k (List.mem_of_getElem? k1))
  glge := h.glge
  nodup := h.nodup
  memgl := h.memgl
  athold := h.athold
theorem CpB.below (h : CpB w wc g L m) (hb : Below wc.heap.size wc wx) : CpB w wx g L m :=
  h.fr (FrW.of_below (fun _ => False) hb) (fun _ e => e.elim) (fun _ _ => id) (fun _ _ => id) (fun _ _ => id) (fun _ _ => id) (fun _ _ => id) (fun _ _ => id)
/-- A cell of the machine's own block is written. -/
theorem CpB.setG {csg : List Value} (h : CpB w wc g L m) (hb : Blk wc g 81 csg) (c : Nat) (v : Value) : CpB w (wc.setCell ⟨g, c, none⟩ v) g L m :=
  h.fr (FrW.setCell (S := fun q => q = g) wc rfl v) (fun b e => by rw [e]; exact h.ge) (fun b k e => acc_ne h.ov hb (by decide) (by rw [k, e])) (fun b k e => own_ne h.at_ hb (by decide) (by rw [k, e]))
    (fun b k e => own_ne h.hold hb (by decide) (by rw [k, e])) (fun b k e => own_ne h.mem hb (by decide) (by rw [k, e])) (fun b k e => own_ne h.prints hb (by decide) (by rw [k, e])) (fun b k e => by obtain ⟨_, hh⟩ := h.glb k; subst e; exact row_types hh hb (by decide) rfl)
theorem CpB.pushO (h : CpB w wc g L m) (hb : Blk wc g 81 L.cells) {rows : List (List Value)} (hl : rows.length = (L.gl.zip (m.slots.map List.length)).length) (hr : ∀ r ∈ rows, r.length = 1)
    (hx : ∀ (i : Nat) r x, rows[i]? = some r → (L.gl.zip (m.slots.map List.length))[i]? = some x → r = slotV x) {kb len nb cap : Nat} {l : List Int} (hlen : l.length = len) (ha : Apd wc x0 x1 w.heap.size 32 1 L.ov (L.gl.zip (m.slots.map List.length)).length rows.flatten (slotV (kb, len)) nb cap)
    (hkb : wc.heap.size ≤ kb) (hkB : Blk x0 kb 2 (i64sV l)) :
    CpB w (x1.setCell ⟨g, 4, none⟩ (.slice (some ⟨nb, 0, none⟩) ((L.gl.zip (m.slots.map List.length)).length + 1) cap)) g { L with ov := .slice (some ⟨nb, 0, none⟩) ((L.gl.zip (m.slots.map List.length)).length + 1) cap, gl := L.gl ++ [kb] } { m with slots := m.slots ++ [l] } ∧
      Blk (x1.setCell ⟨g, 4, none⟩ (.slice (some ⟨nb, 0, none⟩) ((L.gl.zip (m.slots.map List.length)).length + 1) cap)) g 81 ({ L with ov := .slice (some ⟨nb, 0, none⟩) ((L.gl.zip (m.slots.map List.length)).length + 1) cap, gl := L.gl ++ [kb] } : Lay).cells := by
  have hbx : Blk x1 g 81 L.cells := hb.fr ha.fr (acc_ne h.ov hb (by decide))
  refine ⟨?_, hbx.set_ 4 _⟩
  have ht : ∀ {k : Nat} {cur : Array Value} {t : TypeId}, wc.heap[k]? = some (.cells cur t (0, 0)) → 32 ≠ t → ¬ L.ov.ownBlock = some k := fun hk hne => acc_ne h.ov hk hne
  have hfr := ha.fr
  have hacc := h.ov.keep ha.bel
  have hat : ∀ b, L.av.ownBlock = some b → ¬ L.ov.ownBlock = some b := fun b k => by obtain ⟨_, hh⟩ := own_in h.at_ k; exact ht hh (by decide)
  have hho : ∀ b, L.hv.ownBlock = some b → ¬ L.ov.ownBlock = some b := fun b k => by obtain ⟨_, hh⟩ := own_in h.hold k; exact ht hh (by decide)
  have hme : ∀ b, L.mv.ownBlock = some b → ¬ L.ov.ownBlock = some b := fun b k => by obtain ⟨_, hh⟩ := own_in h.mem k; exact ht hh (by decide)
  have hpp : ∀ b, L.pv.ownBlock = some b → ¬ L.ov.ownBlock = some b := fun b k => by obtain ⟨_, hh⟩ := own_in h.prints k; exact ht hh (by decide)
  have hgl : ∀ b, b ∈ L.gl → ¬ L.ov.ownBlock = some b := fun b k => by obtain ⟨_, hh⟩ := h.glb k; exact ht hh (by decide)
  have hglt : ∀ b, b ∈ L.gl → b < wc.heap.size := fun b k => by obtain ⟨_, hh⟩ := h.glb k; exact lt_of_block hh
  have hkn : ¬ L.ov.ownBlock = some kb := fun e => by have := (h.ov.lt kb e).2; omega
  have hkB1 : Blk x1 kb 2 (i64sV l) := hkB.grown ha.gr (fun e => hkn e.symm)
  have hpush := Acc.push hacc hl hr (fun i r x k1 k2 => hx i r x k1 k2) (r := slotV (kb, len)) rfl (x := (kb, len)) ha.own ha.gr (by rcases ha.at_ with e | e; exact .inl e.symm; exact .inr (congrArg some e)) (S' := fun _ => False) (fun _ e => e) (fun b hb' => hb'.elim) rfl
  have hz : (L.gl ++ [kb]).zip ((m.slots ++ [l]).map List.length) = L.gl.zip (m.slots.map List.length) ++ [(kb, len)] := by
    rw [List.map_append, List.zip_append (by rw [List.length_map]; exact h.gll)]
    simp [hlen]
  have hk : CpB w x1 g { L with ov := .slice (some ⟨nb, 0, none⟩) ((L.gl.zip (m.slots.map List.length)).length + 1) cap, gl := L.gl ++ [kb] } { m with slots := m.slots ++ [l] } :=
    { bel := h.bel.trans (hfr.grow _ h.bel.size fun b hb => by have := (h.ov.lt b hb).1; omega)
      ge := h.ge
      ov := by
        show Acc _ 1 _ _ _ _ ((L.gl ++ [kb]).zip ((m.slots ++ [l]).map List.length)) x1
        rw [hz]; exact hpush
      at_ := ownsRow_fr h.at_ hfr hat, hold := ownsRow_fr h.hold hfr hho, mem := ownsRow_fr h.mem hfr hme
      prints := ownsRow_fr h.prints hfr hpp, gll := by simp [h.gll]
      slot := fun t k l' k1 k2 => by
        simp only at k1 k2
        rw [List.getElem?_append] at k1 k2
        rw [h.gll] at k1
        by_cases hq : t < m.slots.length
        · rw [if_pos hq] at k1 k2
          exact (h.slot t k l' k1 k2).fr hfr (hgl k (List.mem_of_getElem? k1))
        · rw [if_neg hq] at k1 k2
          have h0 : t - m.slots.length = 0 := by
            have := (List.getElem?_eq_some_iff.1 k1).1
            simp at this; omega
          rw [h0] at k1 k2
          simp at k1 k2
          subst k1 k2
          exact hkB1
      glge := fun b hb => by
        rcases List.mem_append.1 hb with e | e
        · exact h.glge b e
        · rw [List.mem_singleton] at e; subst e; have := h.bel.size; omega
      nodup := by
        show (L.gl ++ [kb]).Nodup
        rw [List.nodup_append]
        refine ⟨h.nodup, by simp, fun a ha b hb => ?_⟩
        rw [List.mem_singleton] at hb
        have := hglt a ha
        omega
      memgl := fun b hb hm => by
        rcases List.mem_append.1 hm with e | e
        · exact h.memgl b hb e
        · rw [List.mem_singleton] at e; subst e; have := (h.mem.lt _ hb).2; omega
      athold := h.athold }
  exact hk.setG hbx 4 _
/-- In the end it is a machine. -/
theorem CpB.made {R : Nat → Prop} (h : CpB w wc g L m) (hb : Blk wc g 81 L.cells) (hu : UnitV (on w R) [L.sv, L.lv, L.gv] u) (hR : ∀ q, R q → q < w.heap.size) : ∃ R' : Nat → Prop, MachB wc R' g L u m ∧ (∀ q, R' q → R q ∨ (w.heap.size ≤ q ∧ q < wc.heap.size)) ∧ ∀ q, L.mut g q → w.heap.size ≤ q := by
  have hmu : ∀ q, L.mut g q → w.heap.size ≤ q := by
    intro q hq
    rcases hq with e | e | e | e | e | e
    · have := h.ge; omega
    · exact (h.at_.lt q e).1
    · exact (h.mem.lt q e).1
    · exact (h.hold.lt q e).1
    · exact (h.prints.lt q e).1
    · exact h.glge q e
  have hon : (on w R).le (on wc fun b => R b ∨ L.ov.ownBlock = some b) := on_keep (fun b hb _ => h.bel.block b (hR b hb)) (fun _ e => .inl e)
  refine ⟨fun b => R b ∨ L.ov.ownBlock = some b, ⟨hb, hu.mono hon, own_base h.at_ (Nat.zero_le _), own_base h.mem (Nat.zero_le _), own_base h.hold (Nat.zero_le _), own_base h.prints (Nat.zero_le _), ?_, h.gll, h.slot, h.nodup, h.memgl, h.athold, ?_⟩, ?_, hmu⟩
  · exact (h.ov.done_on (R := fun b => R b ∨ L.ov.ownBlock = some b) (fun _ e => e.elim) (fun _ e => .inr e)).imp' fun m b o x hx => Cells_plain hx 0 _ rfl
  · intro b hm hR'
    rcases hR' with k | k
    · have := hmu b hm
      have := hR b k
      omega
    · have two : ∀ {k : Nat} {cur : Array Value} {t : TypeId}, wc.heap[k]? = some (.cells cur t (0, 0)) → t ≠ 32 → ¬ L.ov.ownBlock = some k := fun hk h2 e => acc_ne h.ov hk (fun q => h2 q.symm) e
      rcases hm with e | e | e | e | e | e
      · subst e; exact two hb (by decide) k
      · obtain ⟨_, hh⟩ := own_in h.at_ e; exact two hh (by decide) k
      · obtain ⟨_, hh⟩ := own_in h.mem e; exact two hh (by decide) k
      · obtain ⟨_, hh⟩ := own_in h.hold e; exact two hh (by decide) k
      · obtain ⟨_, hh⟩ := own_in h.prints e; exact two hh (by decide) k
      · obtain ⟨_, hh⟩ := h.glb e; exact two hh (by decide) k
  · intro q hq
    rcases hq with e | e
    · exact .inl e
    · exact .inr (h.ov.lt q e)
end
end Go.Proofs.YtmkpjiahkepigaaGreat
