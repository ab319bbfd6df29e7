import Derived.Test.YtmkpjiahkepigaaGreatP33
import Derived.Test.YtmkpjiahkepigaaGreatP35
import Derived.Test.YtmkpjiahkepigaaGreatP06
/- An argument of type api.Unit, with what the row's reach says of its slices' sizes. -/
namespace Go.Proofs.YtmkpjiahkepigaaGreat
open Go Go.RowKit Go.ChangeShapes Go.WideShapes Go.Deep
/-- What the reach says of a unit. -/
structure USz (u : Unit_) : Prop where
  shared : u.shared.length * 32 ≤ 140737488351232
  locks : u.locks.length * 32 ≤ 140737488351232
  graphs : u.graphs.length * 56 ≤ 140737488351232
  nodes : ∀ g ∈ u.graphs, g.nodes.length * 96 ≤ 140737488351232
section
variable {H : Type} {enc : TypeId × Value → H} {P : Program} {w : World} {spare : Nat → Bool} {held : Bool}
theorem weightsAll_mem {e : TypeId} {p : Nat → Bool} : ∀ {ds : List (DataW H)}, (DataW.weightsAll P e ds).all p = true → ∀ d ∈ ds, (d.weights P e).all p = true
  | [], _, d, hd => by cases hd
  | x :: ds, h, d, hd => by
    rw [DataW.weightsAll, List.all_append, Bool.and_eq_true] at h
    rcases List.mem_cons.1 hd with e | e
    · rw [e]; exact h.1
    · exact weightsAll_mem h.2 d e
theorem open_slz {α : Type} (RV : CM → List Value → α → Prop) (pok : α → Prop) {t e size bytes : Nat} (ht : P.underlying t = some (.slice e)) (hC : P.cellsOf e = size) (hB : P.bytesOf e = bytes) (hs : 0 < size)
    (hel : ∀ n cs' y, DataW.trod enc P w 0 spare held n e cs' = some y → (y.1.weights P e).all (· ≤ reachBytes) = true → ∃ x, RV (cmap w) cs' x ∧ pok x) {fuel : Nat} {cs : List Value} {x : DataW H × List MemPlace} (h : DataW.trod enc P w 0 spare held fuel t cs = some x)
    (hw : (x.1.weights P t).all (· ≤ reachBytes) = true) :
    ∃ v xs, cs = [v] ∧ Sl (Cells RV) size (cmap w) v xs ∧ (∀ x ∈ xs, pok x) ∧ xs.length * bytes ≤ 140737488351232 := by
  rcases open_slice ht h with ⟨rfl, _⟩ | ⟨a, len, cap, m, n, D, Pl, rfl, _, hl, hm, hmm, hx, hi⟩
  · exact ⟨_, [], rfl, ⟨none, 0, rfl, by simp, ⟨by simp [maxLen], fun _ => rfl⟩, .inl rfl⟩, (fun x hx => by cases hx), by simp⟩
  · have hml : len ≤ m := by rw [hmm]; split <;> omega
    subst hx
    simp only [DataW.weights, ht, List.all_cons, List.all_append, Bool.and_eq_true, decide_eq_true_eq, hB] at hw
    obtain ⟨w1, w2, -⟩ := hw
    obtain ⟨xs, h1, h2⟩ := choose_list (n := len) (p := fun i x => ∃ cs', w.cells? 0 (a.add (i * P.cellsOf e)) (P.cellsOf e) = some cs' ∧ RV (cmap w) cs' x ∧ pok x) (fun i hil => by
      obtain ⟨cs', k1, k2⟩ := hi i (by omega)
      obtain ⟨x, k3, k4⟩ := hel n cs' _ k2 (weightsAll_mem w2 (D i) (List.mem_map.2 ⟨i, List.mem_range.2 hil, rfl⟩))
      exact ⟨x, cs', k1, k3, k4⟩)
    refine ⟨_, xs, rfl, ⟨some a, cap, by rw [h1], by omega, ⟨hm, fun h => by cases h⟩, ?_⟩, fun x hx => ?_, ?_⟩
    · cases hxs : xs with
      | nil => exact .inl rfl
      | cons x0 rest =>
        obtain ⟨cs0, k1, _⟩ := h2 0 x0 (by rw [hxs]; rfl)
        obtain ⟨_, hcl, hat⟩ := World.cells?_some k1
        have hc0 := hat 0 (by omega)
        rw [Nat.zero_mul] at hc0
        obtain ⟨b, o, s⟩ := a
        have hlt : 0 < cs0.length := by omega
        rw [List.getElem?_eq_getElem hlt] at hc0
        have hspot : s = none := by simpa [Addr.add] using World.cell?_spot hc0
        subst hspot
        · refine .inr ⟨b, o, rfl, fun i x hx => ?_⟩
          obtain ⟨cs', q1, q2, _⟩ := h2 i x (by rw [hxs]; exact hx)
          obtain ⟨_, hcl2, hat2⟩ := World.cells?_some q1
          refine ⟨cs', q2, fun j v hv => ?_⟩
          have hj := (List.getElem?_eq_some_iff.1 hv).1
          have := hat2 j (by omega)
          rw [hC, add_mk, add_mk, hv] at this
          exact this
    · obtain ⟨i, hi'⟩ := List.getElem?_of_mem hx
      obtain ⟨_, _, _, q⟩ := h2 i x hi'
      exact q
    · have h3 : len * bytes ≤ ((List.map D (List.range len)).length + (List.map (fun j => D (len + j)) (List.range (m - len))).length) * bytes := Nat.mul_le_mul_right _ (by simp)
      rw [h1]
      exact Nat.le_trans h3 w1
end
section
variable {H : Type} {enc : TypeId × Value → H} {w : World} {spare : Nat → Bool} {held : Bool}
theorem b_decl : Tryz.prog.bytesOf 75 = 32 := by kernel_rfl
theorem b_graph : Tryz.prog.bytesOf 73 = 56 := by kernel_rfl
theorem b_node : Tryz.prog.bytesOf 53 = 96 := by kernel_rfl
def graphZ (g : Graph) : Prop := (∀ n ∈ g.nodes, n.ok) ∧ g.nodes.length * 96 ≤ 140737488351232
theorem open_graphz {n : Nat} {cs : List Value} {y : DataW H × List MemPlace} (h : DataW.trod enc Tryz.prog w 0 spare held n 73 cs = some y) (hw : (y.1.weights Tryz.prog 73).all (· ≤ reachBytes) = true) : ∃ g, graphO (cmap w) cs g ∧ graphZ g := by
  obtain ⟨xs, m, _, hy, hlen, hxl, hf⟩ := DataW.trod_struct Tryz.underlying73 h
  replace hlen := hlen.trans c4_graph
  obtain ⟨c0, c1, c2, c3, rfl⟩ := list4 hlen
  obtain ⟨y0, y1, y2, y3, rfl⟩ := list4 hxl
  have f0 := hf 0 _ rfl
  have f1 := hf 1 _ rfl
  have f2 := hf 2 _ rfl
  have f3 := hf 3 _ rfl
  simp only [List.getElem_toArray, List.getElem_cons_zero, List.getElem_cons_succ, c1_str, c1_int, c1_nodes] at f0 f1 f2 f3
  subst hy
  simp only [DataW.weights, Tryz.underlying73, List.map_cons, List.map_nil, DataW.weightsEach, List.all_append, Bool.and_eq_true] at hw
  obtain ⟨-, -, -, hw3, -⟩ := hw
  obtain ⟨s0, e0, _⟩ := DataW.trod_string Tryz.underlying9 f0
  obtain ⟨s1, e1, _⟩ := DataW.trod_int Tryz.underlying3 f1
  obtain ⟨s2, e2, _⟩ := DataW.trod_int Tryz.underlying3 f2
  obtain ⟨v, ns, e3, hn, hok, hz⟩ := open_slz nodeO Node.ok Tryz.underlying71 c13_node b_node (by decide) (fun n cs' y hy _ => open_node hy) f3 hw3
  simp at e0 e1 e2 e3
  subst e0 e1 e2 e3
  exact ⟨⟨s0, s1, s2, ns⟩, ⟨_, rfl, hn.imp' fun m b o x hx => Cells_plain hx⟩, hok, hz⟩
end
end Go.Proofs.YtmkpjiahkepigaaGreat
/- The walk of CopyGraph. -/
namespace Go.Proofs.YtmkpjiahkepigaaGreat
open Go Go.RowKit
theorem sl_node : SlT Tryz.prog 71 53 13 96 (.agg #[.int .u8 0, .int .u8 0, .int .i64 0, .int .i64 0, .bool false, .int .i64 0, .int .i64 0, .bool false, .int .i64 0, .int .i64 0, .int .i64 0, .int .i64 0, .int .i64 0]) := SlT.mk' Tryz.underlying71 (by kernel_rfl) rfl (by omega)
end Go.Proofs.YtmkpjiahkepigaaGreat
/- What the walk of Copy needs. -/
namespace Go.Proofs.YtmkpjiahkepigaaGreat
open Go Go.RowKit
theorem Below.al {w w' : World} (h : Below w.heap.size w w') (o : Obj) : Below w.heap.size w (w'.alloc o) := h.alloc h.size o
theorem blk_new1 (w : World) (o : Obj) (t : TypeId) (cs : List Value) : Blk ((w.alloc o).alloc (.cells cs.toArray t)) (w.heap.size + 1) t cs := Blk.of (heap_new _ _ _ (by simp)) rfl
theorem blk_new2 (w : World) (o o2 : Obj) (t : TypeId) (cs : List Value) : Blk (((w.alloc o).alloc o2).alloc (.cells cs.toArray t)) (w.heap.size + 1 + 1) t cs := Blk.of (heap_new _ _ _ (by simp)) rfl
theorem step_app_one_big {P : Program} {t e size bytes : Nat} {z : Value} (T : SlT P t e size bytes z) {ops : Array Oper} {o : Oper} {a : Act} {w : World} {K : Act → World → Prop} {Q : Exit → Act → World → Prop} {E : Prop} (hgd : o.guard = none) (s x : Operand)
    (ho : o.op = .call { callee := .builtin .append, args := #[s, x], argTypes := #[t, t] })
    (base : Nat) (v : Value) (n : Nat) (xs : List Value) (hs : a.eval s = v) (hown : w.ownsRow base e size v n xs)
    (g off c : Nat) (news : List Value) (hx : a.eval x = .slice (some ⟨g, off, none⟩) 1 c) (hl : news.length = size) (hnews : ∀ j u, news[j]? = some u → w.cell? ⟨g, off + j, none⟩ = some u) (h1 : ∀ u ∈ news, u.oneCell' = true)
    (hn : n < 9223372036854775807) (hb : (n + 1) * bytes ≤ 140737488355328) (hbase : base ≤ w.heap.size)
    (h : ∀ v' w', w'.ownsRow base e size v' (n + 1) (xs ++ news) → w.grownBy w' v.ownBlock → (v'.ownBlock = v.ownBlock ∨ v'.ownBlock = some w.heap.size) → K (a.put o.dst v') w') :
    if Region.wanted o (yielded ops a.tmps) = true then Oper.wp P o a w K Q else E := by
  have hw : Region.wanted o (yielded ops a.tmps) = true := by simp [Region.wanted, hgd]
  rw [if_pos hw]
  obtain ⟨i, hi, hz, hsz, hby⟩ := T.info
  obtain ⟨v', w', hr, h2, h3, _, h5⟩ := run_append_own_at (P := P) w base t o.type e i z size bytes T.ht hi hz hsz hby T.hzs T.hsz v n xs hown ⟨g, off, none⟩ 1 c news (by omega) (fun j u hj => by rw [add_mk]; exact hnews j u hj) h1 (by simp only [maxLen]; omega) hb hbase
  unfold Oper.wp execOp
  simp only [ho, resolve, invoke, builtin, Sem.run_bind, Sem.run_pure, Result.andThen_ok, List.map_toArray, List.map_cons, List.map_nil, hs, hx, hr]
  exact h v' w' h2 h3 h5
instance : MonoV GraphV := ⟨fun hm h => h.mono hm⟩
theorem app_far {wr w2 w' : World} {o : Obj} {row : Option Nat} (hB : Below wr.heap.size wr w2) (hg : (w2.alloc o).grownBy w' row) {q : Nat} (hq : q < wr.heap.size) (hne : some q ≠ row) : w'.heap[q]? = wr.heap[q]? := by
  have h1 := hB.size
  rw [hg.block q (by simp; omega) hne, Below.heap_alloc _ _ _ (by omega)]
  exact hB.block q hq
theorem cell_far {wr w' : World} {q : Nat} (h : w'.heap[q]? = wr.heap[q]?) (o : Nat) : w'.cell? ⟨q, o, none⟩ = wr.cell? ⟨q, o, none⟩ := World.cell?_of_block h
theorem frozen_far {wr w' : World} {q : Nat} (h : w'.heap[q]? = wr.heap[q]?) (o : Nat) : w'.frozen? ⟨q, o, none⟩ = wr.frozen? ⟨q, o, none⟩ := World.frozen?_of_block h
theorem sl_graph : SlT Tryz.prog 23 73 4 56 (.agg #[.string ⟨#[]⟩, .int .i64 0, .int .i64 0, .slice none 0 0]) := SlT.mk' Tryz.underlying23 (by kernel_rfl) rfl (by omega)
/-- A unit of the call's own, its graphs in a row of their own. -/
def UnitAcc (base : Nat) (w : World) (cs : List Value) (u : Unit_) : Prop :=
  ∃ sv lv gv D S, cs = [sv, lv, gv] ∧ Decls (on w D) sv u.shared ∧ Decls (on w D) lv u.locks ∧ Acc GraphV 4 73 base S gv u.graphs w ∧ ∀ b, D b → base ≤ b ∧ b < w.heap.size ∧ some b ≠ gv.ownBlock
theorem UnitAcc.unit {base : Nat} {w : World} {cs : List Value} {u : Unit_} (h : UnitAcc base w cs u) : UnitV (part w base w.heap.size) cs u := by
  obtain ⟨sv, lv, gv, D, S, rfl, h1, h2, h3, h4⟩ := h
  exact ⟨sv, lv, gv, rfl, h1.mono (on_part w fun b hb => ⟨(h4 b hb).1, (h4 b hb).2.1⟩), h2.mono (on_part w fun b hb => ⟨(h4 b hb).1, (h4 b hb).2.1⟩), (h3.done (Nat.le_refl _) (Nat.le_refl _)).imp' fun m b o x hx => hx⟩
theorem Acc.low {α : Type} {RV : CM → List Value → α → Prop} {size : Nat} {e : TypeId} {base base' : Nat} {S : Nat → Prop} {v : Value} {xs : List α} {wr : World} (h : Acc RV size e base S v xs wr) (hb : base' ≤ base) : Acc RV size e base' S v xs wr := by
  obtain ⟨rows, h1, h2, h3, h4⟩ := h.ex
  refine ⟨⟨rows, ⟨h1.1, ?_⟩, h2, h3, h4⟩, fun b hs => by have := h.sep b hs; exact ⟨by omega, this.2⟩⟩
  rcases h1.2 with k | ⟨g, cap, cur, k1, k2, k3⟩
  · exact .inl k
  · exact .inr ⟨g, cap, cur, k1, by omega, k3⟩
end Go.Proofs.YtmkpjiahkepigaaGreat
