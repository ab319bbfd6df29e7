import Derived.Test.YtmkpjiahkepigaaGreatP35
import Derived.Test.YtmkpjiahkepigaaGreatP63
import Derived.Test.YtmkpjiahkepigaaGreatP21
/- Copies whose rows may be written: no cell of them is a string's. -/
namespace Go.Proofs.YtmkpjiahkepigaaGreat
open Go Go.RowKit
def PlainB (w : World) (b : Nat) : Prop := ∃ cur T, w.heap[b]? = some (.cells cur T (0, 0))
theorem PlainB.of {w w' : World} {b : Nat} (h : PlainB w b) (e : w'.heap[b]? = w.heap[b]?) : PlainB w' b := by obtain ⟨c, T, h⟩ := h; exact ⟨c, T, e.trans h⟩
/-- What lies in plain blocks from lo to hi. -/
noncomputable def partP (w : World) (lo hi : Nat) : CM := on w fun b => (lo ≤ b ∧ b < hi) ∧ PlainB w b
theorem partP_at {w : World} {lo hi b o : Nat} {v : Value} (h : partP w lo hi b o = some v) : w.cell? ⟨b, o, none⟩ = some v ∧ lo ≤ b ∧ b < hi ∧ PlainB w b := by
  obtain ⟨h1, h2⟩ := on_at h
  exact ⟨h1, h2.1.1, h2.1.2, h2.2⟩
theorem partP_mk {w : World} {lo hi b o : Nat} {v : Value} (h : w.cell? ⟨b, o, none⟩ = some v) (h1 : lo ≤ b) (h2 : b < hi) (h3 : PlainB w b) : partP w lo hi b o = some v := on_mk h ⟨⟨h1, h2⟩, h3⟩
theorem Sl.plain {α : Type} {R : CM → Nat → Nat → α → Prop} {f : α → List Value} {size lo hi : Nat} {w : World} {A : Option Addr} {m c : Nat} {l : List α} (h : Sl R size (part w lo hi) (.slice A m c) l) (hR : RowR R f size) {T : TypeId} (hp : ∀ b, (Value.slice A m c).ownBlock = some b → ∃ cur, w.heap[b]? = some (.cells cur T (0, 0))) : Sl R size (partP w lo hi) (.slice A m c) l := by
  obtain ⟨A0, c0, e, h1, h2, h3⟩ := h
  refine ⟨A0, c0, e, h1, h2, ?_⟩
  rcases h3 with h3 | ⟨b, o, hA, h3⟩
  · exact .inl h3
  · refine .inr ⟨b, o, hA, fun i x hx => hR.up _ _ _ _ fun j v hj => ?_⟩
    obtain ⟨q1, q2, q3⟩ := part_at (hR.dn _ _ _ _ (h3 i x hx) j v hj)
    injection e with e _ _
    subst e hA
    obtain ⟨cur, hc⟩ := hp b rfl
    exact partP_mk q1 q2 q3 ⟨cur, _, hc⟩
section
variable {P : Program} {α : Type} {R : CM → Nat → Nat → α → Prop} {f : α → List Value} {t e size bytes : Nat} {z : Value}
theorem run_copyp (hR : RowR R f size) (T : SlT P t e size bytes z) (w : World) (ty : Nat) (g : Addr) (A : Option Addr) (m c : Nat) (l : List α) (hr : Sl R size (cmap w) (.slice A m c) l) (hb : m * bytes ≤ 140737488355328) :
    ∃ A' c' w', (Builtin.append_ #[t, t] ty #[.slice (some g) 0 0, .slice A m c]).run P w = .ok (.slice A' m c') w' ∧ Sl R size (partP w' w.heap.size w'.heap.size) (.slice A' m c') l ∧ Below w.heap.size w w' := by
  obtain ⟨i, hi, hz, hsz, hby⟩ := T.info
  have hm := hr.len.1
  obtain ⟨A0, c0, he, hlc, ⟨h4, h5⟩, h6⟩ := hr
  injection he with e1 e2 e3
  subst e1 e3
  have hml : m ≤ maxLen := by omega
  by_cases hl : l = []
  · subst hl
    obtain rfl : m = 0 := hm
    refine ⟨some g, 0, w, ?_, ⟨some g, 0, rfl, Nat.le_refl _, ⟨by simp [maxLen], fun h => by cases h⟩, .inl rfl⟩, Below.refl _ _⟩
    cases A with
    | none => simp [Builtin.append_, run_underlying T.ht, sizeOf, typeInfo, hi, Builtin.lenOf, Builtin.firstCells, storeCells]
    | some a => simp [Builtin.append_, run_underlying T.ht, sizeOf, typeInfo, hi, Builtin.lenOf, Builtin.firstCells, storeCells, loadCells, loadCellsFrom]
  · rcases h6 with h6 | ⟨b, o, rfl, h6⟩
    · exact absurd h6 hl
    have hpos : 0 < m := by
      cases l with
      | nil => exact absurd rfl hl
      | cons a r => rw [e2]; simp
    have hrl : ∀ r ∈ l.map f, r.length = size := fun r hr => by
      obtain ⟨x, _, rfl⟩ := List.mem_map.1 hr
      exact hR.len x
    have hfl : (l.map f).flatten.length = m * size := by
      have : ∀ l : List α, (l.map f).flatten.length = l.length * size := by
        intro l
        induction l with
        | nil => simp
        | cons x l ih => rw [List.map_cons, List.flatten_cons, List.length_append, ih, hR.len, List.length_cons, Nat.succ_mul, Nat.add_comm]
      rw [this, ← e2]
    obtain ⟨v', w', hrun, hown, hg⟩ := run_append_arg_grows (P := P) w t ty e i z size bytes T.ht hi hz hsz hby T.hzs T.hsz g 0 0 [] (by simp) (fun j u h => by simp at h) ⟨b, o, none⟩ m c (l.map f).flatten hfl (fun j u hj => by
      obtain ⟨k, q, r, k1, k2, rfl⟩ := flatten_inv _ _ _ _ T.hsz hrl hj
      rw [List.getElem?_map] at k1
      cases hx : l[k]? with
      | none => rw [hx] at k1; cases k1
      | some x =>
        rw [hx] at k1
        injection k1 with k1
        subst k1
        have := hR.dn _ _ _ _ (h6 k x hx) q u k2
        rw [add_mk, ← Nat.add_assoc]
        exact this) (by omega) (by omega) (by rw [Nat.zero_add]; exact hb)
    rw [Nat.zero_add, List.nil_append] at hown
    obtain ⟨A', c', rfl, _⟩ := own_slice hown
    refine ⟨A', c', w', hrun, ?_, ⟨hg.os, hg.tape, hg.output, hg.size, fun k hk => hg.block k hk (by simp)⟩⟩
    have hacc : Acc (fun _ cs x => cs = f x) size e w.heap.size (fun _ => False) (.slice A' m c') l w' := by
      refine ⟨⟨l.map f, by rw [← e2]; exact hown, by simp, hrl, fun i r x hi hx => ?_⟩, fun _ h => h.elim⟩
      rw [List.getElem?_map, hx] at hi
      injection hi with hi
      exact hi.symm
    haveI : MonoV (fun (_ : CM) cs (x : α) => cs = f x) := ⟨fun _ h => h⟩
    have hsl : Sl R size (part w' w.heap.size w'.heap.size) (.slice A' m c') l := (hacc.done (Nat.le_refl _) (Nat.le_refl _)).imp' fun m b o x hx => hR.up _ _ _ _ (Cells_plain hx)
    exact hsl.plain hR fun b hb => own_in hown hb
theorem step_copyp (hR : RowR R f size) (T : SlT P t e size bytes z) {ops : Array Oper} {o : Oper} {a : Act} {w : World} {K : Act → World → Prop} {Q : Exit → Act → World → Prop} {E : Prop} (hgd : o.guard = none) (s x : Operand)
    (ho : o.op = .call { callee := .builtin .append, args := #[s, x], argTypes := #[t, t] }) (g : Addr) (hs : a.eval s = .slice (some g) 0 0) (A : Option Addr) (m c : Nat) (l : List α) (hx : a.eval x = .slice A m c) (hr : Sl R size (cmap w) (.slice A m c) l)
    (hb : m * bytes ≤ 140737488355328) (h : ∀ A' c' w', Sl R size (partP w' w.heap.size w'.heap.size) (.slice A' m c') l → Below w.heap.size w w' → K (a.put o.dst (.slice A' m c')) w') :
    if Region.wanted o (yielded ops a.tmps) = true then Oper.wp P o a w K Q else E := by
  have hw : Region.wanted o (yielded ops a.tmps) = true := by simp [Region.wanted, hgd]
  rw [if_pos hw]
  obtain ⟨A', c', w', hrun, h1, h2⟩ := run_copyp hR T w o.type g A m c l hr hb
  unfold Oper.wp
  simp [execOp, ho, resolve, invoke, builtin, hs, hx, hrun, Result.andThen]
  exact h A' c' w' h1 h2
theorem app_copyp (hR : RowR R f size) (T : SlT P t e size bytes z) {ops : Array Oper} {rest : List Oper} {o : Oper} {a : Act} {w : World} {Q : Exit → Act → World → Prop} (hgd : o.guard = none) (s x : Operand)
    (ho : o.op = .call { callee := .builtin .append, args := #[s, x], argTypes := #[t, t] }) (g : Addr) (hs : a.eval s = .slice (some g) 0 0) (A : Option Addr) (m c : Nat) (l : List α) (hx : a.eval x = .slice A m c) (hr : Sl R size (cmap w) (.slice A m c) l)
    (hb : m * bytes ≤ 140737488355328) (h : ∀ A' c' w', Sl R size (partP w' w.heap.size w'.heap.size) (.slice A' m c') l → Below w.heap.size w w' → wpList P ops Q rest (a.put o.dst (.slice A' m c')) w') : wpList P ops Q (o :: rest) a w := by
  refine wpList_plain hgd fun K hK => ?_
  obtain ⟨A', c', w', hrun, h1, h2⟩ := run_copyp hR T w o.type g A m c l hr hb
  unfold Oper.wp execOp
  simp only [ho, resolve, invoke, builtin, Sem.run_bind, Sem.run_pure, Result.andThen_ok, List.map_toArray, List.map_cons, List.map_nil, hs, hx, hrun]
  exact hK _ _ (h A' c' w' h1 h2)
end
end Go.Proofs.YtmkpjiahkepigaaGreat
/- The walk of CopyGraph: its rows may be written. -/
namespace Go.Proofs.YtmkpjiahkepigaaGreat
open Go Go.RowKit
set_option maxRecDepth 100000 in
set_option maxHeartbeats 1000000 in
theorem copyGraphP_calls (cs : List Value) (g : Graph) (w : World) (hg : GraphV (cmap w) cs g) (hz : g.nodes.length * 96 ≤ 140737488351232) :
    Calls Tryz.prog 55 #[.agg cs.toArray] w fun e w' => ∃ v, e = .returned (.agg #[.string g.name, .int .i64 g.locals, .int .i64 g.slots, v]) ∧ Nodes (partP w' w.heap.size w'.heap.size) v g.nodes ∧ Below w.heap.size w w' := by
  obtain ⟨nv, rfl, hn⟩ := hg
  obtain ⟨A, c, rfl, -⟩ := id hn
  go_enter Tryz.func55, Tryz.ntmps55
  go_wp2_with (refine stop_append rfl ?_)
  refine Stop.intro ?_
  have hb00 := ((Below_alloc' w (.cells #[.string g.name, .int .i64 g.locals, .int .i64 g.slots, .slice A g.nodes.length c] 73)).alloc (by simp) (.cells #[.string ⟨#[]⟩, .int .i64 0, .int .i64 0, .slice none 0 0] 73)).alloc (by simp; omega) (.cells #[] 53)
  refine app_copyp row_node sl_node rfl _ _ rfl _ rfl A g.nodes.length c g.nodes rfl (hn.mono (cmap_below hb00)) (by omega) ?_
  intro A' c' w1 hn' hb
  have b1 : Blk w1 w.heap.size 73 [.string g.name, .int .i64 g.locals, .int .i64 g.slots, .slice A g.nodes.length c] := (((Blk.new w _ _).alloc _).alloc _).below hb (by simp; omega)
  have b2 : Blk w1 (w.heap.size + 1) 73 [.string ⟨#[]⟩, .int .i64 0, .int .i64 0, .slice none 0 0] := ((Blk.of (heap_new (w.alloc _) _ _ (by simp)) rfl).alloc _).below hb (by simp)
  have hbel : Below w.heap.size w w1 := hb00.trans (hb.mono (by simp; omega))
  have hsz := hb.size
  simp only [World.size_alloc] at hsz hn'
  have e0 := b1.cell 0
  have e1 := b1.cell 1
  have e2 := b1.cell 2
  have e3 := b1.cell 3
  have q3 := b1.frozen 3
  have f0 := b2.cell 0
  have f1 := b2.cell 1
  have f2 := b2.cell 2
  have f3 := b2.cell 3
  have p0 := b2.frozen 0
  have p1 := b2.frozen 1
  have p2 := b2.frozen 2
  have p3 := b2.frozen 3
  have n1 : w.heap.size + 1 ≠ w.heap.size := by omega
  clear hb hb00
  go_wp2
  refine bodyPost_ret (v := .agg #[.string g.name, .int .i64 g.locals, .int .i64 g.slots, .slice A' g.nodes.length c']) (by simp [results, Tryz.results55, go_sem, f0, f1, f2, f3]) rfl ⟨.slice A' g.nodes.length c', rfl, ?_, ?_⟩
  · refine hn'.mono (fun b o v hv => ?_)
    obtain ⟨h1, h2, h3, h4⟩ := partP_at hv
    refine partP_mk ((World.cell?_of_block ?_).trans h1) (by omega) (by simp [World.setCell]; omega) (h4.of ?_)
    all_goals (
      repeat (refine (Below.heap_setCell _ _ _ _ (by simp; omega)).trans ?_)
      rfl)
  · exact (((((hbel.setCell (by simp) _).setCell (by simp) _).setCell (by simp) _).setCell (by simp) _).setCell (by simp) _)
end Go.Proofs.YtmkpjiahkepigaaGreat
/- What the walk of Copy needs, for rows that may be written. -/
namespace Go.Proofs.YtmkpjiahkepigaaGreat
open Go Go.RowKit
def CopyAtP (w wc : World) (u : Unit_) (cs : List Value) (gb : Nat) (sv lv : Value) : Prop :=
  Blk wc gb 25 [sv, lv, .slice none 0 0] ∧ Blk wc w.heap.size 25 cs ∧ Blk wc (w.heap.size + 1) 25 [.slice none 0 0, .slice none 0 0, .slice none 0 0] ∧ w.heap.size + 2 ≤ gb ∧
    Decls (on wc (fun b => (w.heap.size + 2 ≤ b ∧ b ≠ gb) ∧ PlainB wc b)) sv u.shared ∧ Decls (on wc (fun b => (w.heap.size + 2 ≤ b ∧ b ≠ gb) ∧ PlainB wc b)) lv u.locks ∧ Below w.heap.size w wc
theorem copyAtP_mk {w W0 w1 w2 W : World} {u : Unit_} {cs : List Value} {gb X1 X2 : Nat} {sv lv : Value} (HB : Blk W gb 25 [.slice none 0 0, .slice none 0 0, .slice none 0 0]) (b0 : Blk W0 w.heap.size 25 cs)
    (br : Blk W0 (w.heap.size + 1) 25 [.slice none 0 0, .slice none 0 0, .slice none 0 0]) (hbl : Below w.heap.size w W0) (hsz : w.heap.size + 2 = W0.heap.size) (B1 : Below W0.heap.size W0 w1) (B12 : Below w1.heap.size w1 w2) (B3 : Below w2.heap.size w2 W)
    (k1 : Decls (partP w1 X1 w1.heap.size) sv u.shared) (k2 : Decls (partP w2 X2 w2.heap.size) lv u.locks) (x1 : W0.heap.size ≤ X1) (x2 : w1.heap.size ≤ X2) (g0 : W0.heap.size ≤ gb) (g1 : gb < X1 ∨ w1.heap.size ≤ gb) (g2 : gb < X2 ∨ w2.heap.size ≤ gb) :
    CopyAtP w (((W.setCell ⟨gb, 0, none⟩ sv).setCell ⟨gb, 1, none⟩ lv).setCell ⟨gb, 2, none⟩ (.slice none 0 0)) u cs gb sv lv := by
  have s1 := B1.size
  have s12 := B12.size
  have s3 := B3.size
  have hB : Below W0.heap.size W0 W := B1.trans ((B12.trans (B3.mono s12)).mono s1)
  have far : ∀ b, b ≠ gb → (((W.setCell ⟨gb, 0, none⟩ sv).setCell ⟨gb, 1, none⟩ lv).setCell ⟨gb, 2, none⟩ (.slice none 0 0)).heap[b]? = W.heap[b]? := fun b hb =>
    (Below.heap_setCell _ _ _ _ hb).trans ((Below.heap_setCell _ _ _ _ hb).trans (Below.heap_setCell _ _ _ _ hb))
  refine ⟨((HB.set_ 0 sv).set_ 1 lv).set_ 2 (.slice none 0 0), (far _ (by omega)).trans (b0.below hB b0.lt), (far _ (by omega)).trans (br.below hB br.lt), by omega, ?_, ?_, ?_⟩
  · refine k1.mono (fun b o v hv => ?_)
    obtain ⟨h1, h2, h3, h4⟩ := partP_at hv
    have E := (far b (by omega)).trans ((B12.trans (B3.mono s12)).block b h3)
    exact on_mk ((World.cell?_of_block E).trans h1) ⟨⟨by omega, by omega⟩, h4.of E⟩
  · refine k2.mono (fun b o v hv => ?_)
    obtain ⟨h1, h2, h3, h4⟩ := partP_at hv
    have E := (far b (by omega)).trans (B3.block b h3)
    exact on_mk ((World.cell?_of_block E).trans h1) ⟨⟨by omega, by omega⟩, h4.of E⟩
  · have := hbl.trans (hB.mono hbl.size)
    exact (((this.setCell (by simp; omega) _).setCell (by simp; omega) _).setCell (by simp; omega) _)
theorem copyAtP_mk2 {w W0 w1 w2 : World} {u : Unit_} {cs : List Value} {X1 X2 : Nat} {sv lv : Value} (b0 : Blk W0 w.heap.size 25 cs)
    (br : Blk W0 (w.heap.size + 1) 25 [.slice none 0 0, .slice none 0 0, .slice none 0 0]) (hbl : Below w.heap.size w W0) (hsz : w.heap.size + 2 = W0.heap.size) (B1 : Below W0.heap.size W0 w1) (B12 : Below w1.heap.size w1 w2)
    (k1 : Decls (partP w1 X1 w1.heap.size) sv u.shared) (k2 : Decls (partP w2 X2 w2.heap.size) lv u.locks) (x1 : W0.heap.size ≤ X1) (x2 : w1.heap.size ≤ X2) :
    CopyAtP w (w2.alloc (.cells #[sv, lv, .slice none 0 0] 25)) u cs w2.heap.size sv lv := by
  have s1 := B1.size
  have s12 := B12.size
  have B3 : Below w2.heap.size w2 (w2.alloc (.cells #[sv, lv, .slice none 0 0] 25)) := Below_alloc' _ _
  have hB := B1.trans ((B12.trans (B3.mono s12)).mono s1)
  refine ⟨Blk.new w2 _ [sv, lv, .slice none 0 0], b0.below hB b0.lt, br.below hB br.lt, by omega, ?_, ?_, hbl.trans (hB.mono hbl.size)⟩
  · refine k1.mono (fun b o v hv => ?_)
    obtain ⟨h1, h2, h3, h4⟩ := partP_at hv
    have E := (B12.trans (B3.mono s12)).block b h3
    exact on_mk ((World.cell?_of_block E).trans h1) ⟨⟨by omega, by omega⟩, h4.of E⟩
  · refine k2.mono (fun b o v hv => ?_)
    obtain ⟨h1, h2, h3, h4⟩ := partP_at hv
    have E := B3.block b h3
    exact on_mk ((World.cell?_of_block E).trans h1) ⟨⟨by omega, by omega⟩, h4.of E⟩
theorem push_graphP {base : Nat} {S : Nat → Prop} {gvv : Value} {xs : List Graph} {wr w2 w' : World} {g : Graph} {nv v' : Value} (hacc : Acc GraphV 4 73 base S gvv xs wr) (hbr : base ≤ wr.heap.size) (hB : Below wr.heap.size wr w2) (hnv : Nodes (partP w2 wr.heap.size w2.heap.size) nv g.nodes) (hPl : ∀ b, S b → PlainB wr b)
    {rows : List (List Value)} (hl : rows.length = xs.length) (hr : ∀ r ∈ rows, r.length = 4)
    (hx : ∀ (i : Nat) r x, rows[i]? = some r → xs[i]? = some x → GraphV (on (w2.alloc (.cells #[.string g.name, .int .i64 g.locals, .int .i64 g.slots, nv] 73)) S) r x)
    (ho : w'.ownsRow base 73 4 v' (xs.length + 1) (rows.flatten ++ [.string g.name, .int .i64 g.locals, .int .i64 g.slots, nv])) (hg : (w2.alloc (.cells #[.string g.name, .int .i64 g.locals, .int .i64 g.slots, nv] 73)).grownBy w' gvv.ownBlock)
    (hob : v'.ownBlock = gvv.ownBlock ∨ v'.ownBlock = some (w2.alloc (.cells #[.string g.name, .int .i64 g.locals, .int .i64 g.slots, nv] 73)).heap.size) :
    Acc GraphV 4 73 base (fun b => S b ∨ ((wr.heap.size ≤ b ∧ b < w2.heap.size) ∧ PlainB w2 b)) v' (xs ++ [g]) w' ∧ ∀ b, (fun b => S b ∨ ((wr.heap.size ≤ b ∧ b < w2.heap.size) ∧ PlainB w2 b)) b → PlainB w' b := by
  have hs := hB.size
  have hv := hacc.lt
  have hkeep : ∀ b, b < w2.heap.size → some b ≠ gvv.ownBlock → w'.heap[b]? = w2.heap[b]? := fun b hlt hne => by rw [hg.block b (by simp; omega) hne, Below.heap_alloc _ _ _ hlt]
  refine ⟨((hacc.keep hB).alloc _).push hl hr hx rfl ho hg hob (fun b hb => .inl hb) (fun b hb => ?_) ⟨nv, rfl, ?_⟩, fun b hb => ?_⟩
  · rcases hb with hb | hb
    · exact ((hacc.keep hB).alloc _).sep b hb
    · exact ⟨by omega, by simp; omega, fun e => by have := hv b e.symm; have := hb.1; omega⟩
  · refine hnv.mono (fun b o v hv2 => ?_)
    obtain ⟨h1, h2, h3, h4⟩ := partP_at hv2
    exact on_mk ((World.cell?_of_block (hkeep b h3 (fun e => by have := hv b e.symm; omega))).trans h1) (.inr ⟨⟨h2, h3⟩, h4⟩)
  · rcases hb with hb | hb
    · have hs := hacc.sep b hb
      exact (hPl b hb).of ((hkeep b (by omega) hs.2.2).trans (hB.block b hs.2.1))
    · exact hb.2.of (hkeep b hb.1.2 (fun e => by have := hv b e.symm; have := hb.1; omega))
/-- A unit of the call's own whose rows may be written. -/
def UnitAccP (base : Nat) (w : World) (cs : List Value) (u : Unit_) : Prop :=
  ∃ sv lv gv D S, cs = [sv, lv, gv] ∧ Decls (on w D) sv u.shared ∧ Decls (on w D) lv u.locks ∧ Acc GraphV 4 73 base S gv u.graphs w ∧ (∀ b, D b → base ≤ b ∧ b < w.heap.size ∧ some b ≠ gv.ownBlock) ∧ (∀ b, D b → PlainB w b) ∧ (∀ b, S b → PlainB w b)
theorem UnitAccP.acc {base : Nat} {w : World} {cs : List Value} {u : Unit_} (h : UnitAccP base w cs u) : UnitAcc base w cs u := by
  obtain ⟨sv, lv, gv, D, S, h1, h2, h3, h4, h5, -⟩ := h
  exact ⟨sv, lv, gv, D, S, h1, h2, h3, h4, h5⟩
theorem copy_stepP {w wc wr w2 w' : World} {gb : Nat} {sv lv gvv nv v' : Value} {S : Nat → Prop} {xs : List Graph} {g : Graph} {rows : List (List Value)} (hacc : Acc GraphV 4 73 wc.heap.size S gvv xs wr) (hsz : wc.heap.size ≤ wr.heap.size)
    (hfar : ∀ b, b < wc.heap.size → b ≠ gb → wr.heap[b]? = wc.heap[b]?) (hbel : Below w.heap.size w wr) (hgl : gb < wc.heap.size) (hgb : w.heap.size ≤ gb) (C1 : Blk wr gb 25 [sv, lv, gvv]) (hB : Below wr.heap.size wr w2) (hnv : Nodes (partP w2 wr.heap.size w2.heap.size) nv g.nodes) (hPl : ∀ b, S b → PlainB wr b)
    (hl : rows.length = xs.length) (hr : ∀ r ∈ rows, r.length = 4)
    (hx : ∀ (i : Nat) r x, rows[i]? = some r → xs[i]? = some x → GraphV (on (w2.alloc (.cells #[.string g.name, .int .i64 g.locals, .int .i64 g.slots, nv] 73)) S) r x)
    (ho : w'.ownsRow wc.heap.size 73 4 v' (xs.length + 1) (rows.flatten ++ [.string g.name, .int .i64 g.locals, .int .i64 g.slots, nv])) (hg : (w2.alloc (.cells #[.string g.name, .int .i64 g.locals, .int .i64 g.slots, nv] 73)).grownBy w' gvv.ownBlock)
    (hob : v'.ownBlock = gvv.ownBlock ∨ v'.ownBlock = some (w2.alloc (.cells #[.string g.name, .int .i64 g.locals, .int .i64 g.slots, nv] 73)).heap.size) :
    Blk (w'.setCell ⟨gb, 2, none⟩ v') gb 25 [sv, lv, v'] ∧ Acc GraphV 4 73 wc.heap.size (fun b => S b ∨ ((wr.heap.size ≤ b ∧ b < w2.heap.size) ∧ PlainB w2 b)) v' (xs ++ [g]) (w'.setCell ⟨gb, 2, none⟩ v') ∧
      (∀ b, b < wc.heap.size → b ≠ gb → (w'.setCell ⟨gb, 2, none⟩ v').heap[b]? = wc.heap[b]?) ∧ Below w.heap.size w (w'.setCell ⟨gb, 2, none⟩ v') ∧ wc.heap.size ≤ (w'.setCell ⟨gb, 2, none⟩ v').heap.size ∧ (∀ b, (fun b => S b ∨ ((wr.heap.size ≤ b ∧ b < w2.heap.size) ∧ PlainB w2 b)) b → PlainB (w'.setCell ⟨gb, 2, none⟩ v') b) := by
  obtain ⟨hP, hQ⟩ := push_graphP hacc hsz hB hnv hPl hl hr hx ho hg hob
  have hs := hB.size
  have hs2 := hg.size
  simp only [World.size_alloc] at hs2
  have hgr := C1.lt
  have hne1 : some gb ≠ gvv.ownBlock := hacc.blk C1 (by decide)
  have C1' : Blk w' gb 25 [sv, lv, gvv] := (app_far hB hg hgr hne1).trans C1
  have hnS : ¬ (S gb ∨ ((wr.heap.size ≤ gb ∧ gb < w2.heap.size) ∧ PlainB w2 gb)) := by
    rintro (h | h)
    · have := (hacc.sep gb h).1
      omega
    · have : wr.heap.size ≤ gb := h.1.1
      omega
  refine ⟨C1'.set_ 2 v', hP.setCell (fun e => hP.blk C1' (by decide) e.symm) hnS v', fun b hb hne => ?_, ?_, ?_, fun b hb => (hQ b hb).of (Below.heap_setCell _ _ _ _ (fun e => by subst e; exact hnS hb))⟩
  · refine (Below.heap_setCell _ _ _ _ hne).trans ?_
    have hne3 : some b ≠ gvv.ownBlock := fun e => by have := (hacc.lt b e.symm).1; omega
    exact (app_far hB hg (by omega) hne3).trans (hfar b hb hne)
  · have h1 := hbel.size
    exact (((hbel.trans (hB.mono h1)).alloc (by omega) _).grown hg (by simp; omega) (fun j hj => by have := (hacc.lt j hj).1; omega)).setCell hgb _
  · simp [World.setCell]; omega
theorem copy_endP {w wc wr : World} {gb : Nat} {sv lv gvv : Value} {S : Nat → Prop} {u : Unit_} (hacc : Acc GraphV 4 73 wc.heap.size S gvv u.graphs wr) (hPl : ∀ b, S b → PlainB wr b) (hfar : ∀ b, b < wc.heap.size → b ≠ gb → wr.heap[b]? = wc.heap[b]?) (hbel : Below w.heap.size w wr)
    (_hgb : w.heap.size + 2 ≤ gb) (hsz : wc.heap.size ≤ wr.heap.size) (hwc : w.heap.size + 1 < wc.heap.size) (C3 : Blk wr (w.heap.size + 1) 25 [.slice none 0 0, .slice none 0 0, .slice none 0 0])
    (k1 : Decls (on wc (fun b => (w.heap.size + 2 ≤ b ∧ b ≠ gb) ∧ PlainB wc b)) sv u.shared) (k2 : Decls (on wc (fun b => (w.heap.size + 2 ≤ b ∧ b ≠ gb) ∧ PlainB wc b)) lv u.locks) :
    UnitAccP w.heap.size (((wr.setCell ⟨w.heap.size + 1, 0, none⟩ sv).setCell ⟨w.heap.size + 1, 1, none⟩ lv).setCell ⟨w.heap.size + 1, 2, none⟩ gvv) [sv, lv, gvv] u ∧
      Below w.heap.size w (((wr.setCell ⟨w.heap.size + 1, 0, none⟩ sv).setCell ⟨w.heap.size + 1, 1, none⟩ lv).setCell ⟨w.heap.size + 1, 2, none⟩ gvv) := by
  have far : ∀ b, b ≠ w.heap.size + 1 → (((wr.setCell ⟨w.heap.size + 1, 0, none⟩ sv).setCell ⟨w.heap.size + 1, 1, none⟩ lv).setCell ⟨w.heap.size + 1, 2, none⟩ gvv).heap[b]? = wr.heap[b]? := fun b hb =>
    (Below.heap_setCell _ _ _ _ hb).trans ((Below.heap_setCell _ _ _ _ hb).trans (Below.heap_setCell _ _ _ _ hb))
  have hS : ¬ S (w.heap.size + 1) := fun h => by have := (hacc.sep _ h).1; omega
  have hO : gvv.ownBlock ≠ some (w.heap.size + 1) := fun e => hacc.blk C3 (by decide) e.symm
  have dec : ∀ {v : Value} {ds : List Decl}, Decls (on wc (fun b => (w.heap.size + 2 ≤ b ∧ b ≠ gb) ∧ PlainB wc b)) v ds → Decls (on (((wr.setCell ⟨w.heap.size + 1, 0, none⟩ sv).setCell ⟨w.heap.size + 1, 1, none⟩ lv).setCell ⟨w.heap.size + 1, 2, none⟩ gvv) (fun b => (w.heap.size + 2 ≤ b ∧ b ≠ gb ∧ b < wc.heap.size) ∧ PlainB wc b)) v ds := fun h => h.mono fun b o v hv => by
    obtain ⟨h1, ⟨h2, h3⟩, h5⟩ := on_at hv
    have h4 : b < wc.heap.size := World.block_lt_of_cell? wc ⟨b, o, none⟩ h1
    refine on_mk ?_ ⟨⟨h2, h3, h4⟩, h5⟩
    exact (World.cell?_of_block ((far b (by omega)).trans (hfar b h4 h3))).trans h1
  refine ⟨⟨sv, lv, gvv, fun b => (w.heap.size + 2 ≤ b ∧ b ≠ gb ∧ b < wc.heap.size) ∧ PlainB wc b, S, rfl, dec k1, dec k2, ?_, ?_, ?_, ?_⟩, ?_⟩
  · exact (((hacc.setCell hO hS _).setCell hO hS _).setCell hO hS _).low (by omega)
  · rintro b ⟨⟨h1, h2, h3⟩, -⟩
    refine ⟨by omega, by simp [World.setCell]; omega, fun e => by have := (hacc.lt b e.symm).1; omega⟩
  · rintro b ⟨⟨h1, h2, h3⟩, h4⟩
    exact h4.of ((far b (by omega)).trans (hfar b h3 h2))
  · intro b hb
    exact (hPl b hb).of (far b (fun e => by subst e; exact hS hb))
  · exact ((hbel.setCell (by simp) _).setCell (by simp) _).setCell (by simp) _
end Go.Proofs.YtmkpjiahkepigaaGreat
