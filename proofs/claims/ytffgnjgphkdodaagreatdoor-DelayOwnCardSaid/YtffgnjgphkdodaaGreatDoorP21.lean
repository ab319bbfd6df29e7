import Derived.Test.YtffgnjgphkdodaaGreatDoorP33
import Derived.Test.YtffgnjgphkdodaaGreatDoorP35
import Derived.Test.YtffgnjgphkdodaaGreatDoorP06
/- An argument of type api.Unit, with what the row's reach says of its slices' sizes. -/
namespace Go.Proofs.YtffgnjgphkdodaaGreatDoor
open Go Go.RowKit Go.ChangeShapes Go.WideShapes Go.Deep
/-- What the reach says of a unit. -/
structure USz (u : Unit_) : Prop where
  shared : u.shared.length * 32 ≤ 140737488351232
  locks : u.locks.length * 32 ≤ 140737488351232
  graphs : u.graphs.length * 56 ≤ 140737488351232
  nodes : ∀ g ∈ u.graphs, g.nodes.length * 96 ≤ 140737488351232
section
variable {H : Type} {enc : TypeId × Value → H} {P : Program} {w : World} {spare : Nat → Bool} {held : Bool}
theorem weightsAll_mem {e : TypeId} {p : Nat → Bool} : ∀ {ds : List (DataW H)}, (DataW.weightsAll P e ds).all p = true → ∀ d ∈ ds, (d.weights P e).all p = true
  | [], _, d, hd => by cases hd
  | x :: ds, h, d, hd => by
    rw [DataW.weightsAll, List.all_append, Bool.and_eq_true] at h
    rcases List.mem_cons.1 hd with e | e
    · rw [e]; exact h.1
    · exact weightsAll_mem h.2 d e
theorem open_slz {α : Type} (RV : CM → List Value → α → Prop) (pok : α → Prop) {t e size bytes : Nat} (ht : P.underlying t = some (.slice e)) (hC : P.cellsOf e = size) (hB : P.bytesOf e = bytes) (hs : 0 < size)
    (hel : ∀ n cs' y, DataW.trod enc P w 0 spare held n e cs' = some y → (y.1.weights P e).all (· ≤ reachBytes) = true → ∃ x, RV (cmap w) cs' x ∧ pok x) {fuel : Nat} {cs : List Value} {x : DataW H × List MemPlace} (h : DataW.trod enc P w 0 spare held fuel t cs = some x)
    (hw : (x.1.weights P t).all (· ≤ reachBytes) = true) :
    ∃ v xs, cs = [v] ∧ Sl (Cells RV) size (cmap w) v xs ∧ (∀ x ∈ xs, pok x) ∧ xs.length * bytes ≤ 140737488351232 := by
  rcases open_slice ht h with ⟨rfl, _⟩ | ⟨a, len, cap, m, n, D, Pl, rfl, _, hl, hm, hmm, hx, hi⟩
  · exact ⟨_, [], rfl, ⟨none, 0, rfl, by simp, ⟨by simp [maxLen], fun _ => rfl⟩, .inl rfl⟩, (fun x hx => by cases hx), by simp⟩
  · have hml : len ≤ m := by rw [hmm]; split <;> omega
    subst hx
    simp only [DataW.weights, ht, List.all_cons, List.all_append, Bool.and_eq_true, decide_eq_true_eq, hB] at hw
    obtain ⟨w1, w2, -⟩ := hw
    obtain ⟨xs, h1, h2⟩ := choose_list (n := len) (p := fun i x => ∃ cs', w.cells? 0 (a.add (i * P.cellsOf e)) (P.cellsOf e) = some cs' ∧ RV (cmap w) cs' x ∧ pok x) (fun i hil => by
      obtain ⟨cs', k1, k2⟩ := hi i (by omega)
      obtain ⟨x, k3, k4⟩ := hel n cs' _ k2 (weightsAll_mem w2 (D i) (List.mem_map.2 ⟨i, List.mem_range.2 hil, rfl⟩))
      exact ⟨x, cs', k1, k3, k4⟩)
    refine ⟨_, xs, rfl, ⟨some a, cap, by rw [h1], by omega, ⟨hm, fun h => by cases h⟩, ?_⟩, fun x hx => ?_, ?_⟩
    · cases hxs : xs with
      | nil => exact .inl rfl
      | cons x0 rest =>
        obtain ⟨cs0, k1, _⟩ := h2 0 x0 (by rw [hxs]; rfl)
        obtain ⟨_, hcl, hat⟩ := World.cells?_some k1
        have hc0 := hat 0 (by omega)
        rw [Nat.zero_mul] at hc0
        obtain ⟨b, o, s⟩ := a
        have hlt : 0 < cs0.length := by omega
        rw [List.getElem?_eq_getElem hlt] at hc0
        have hspot : s = none := by simpa [Addr.add] using World.cell?_spot hc0
        subst hspot
        · refine .inr ⟨b, o, rfl, fun i x hx => ?_⟩
          obtain ⟨cs', q1, q2, _⟩ := h2 i x (by rw [hxs]; exact hx)
          obtain ⟨_, hcl2, hat2⟩ := World.cells?_some q1
          refine ⟨cs', q2, fun j v hv => ?_⟩
          have hj := (List.getElem?_eq_some_iff.1 hv).1
          have := hat2 j (by omega)
          rw [hC, add_mk, add_mk, hv] at this
          exact this
    · obtain ⟨i, hi'⟩ := List.getElem?_of_mem hx
      obtain ⟨_, _, _, q⟩ := h2 i x hi'
      exact q
    · have h3 : len * bytes ≤ ((List.map D (List.range len)).length + (List.map (fun j => D (len + j)) (List.range (m - len))).length) * bytes := Nat.mul_le_mul_right _ (by simp)
      rw [h1]
      exact Nat.le_trans h3 w1
end
section
variable {H : Type} {enc : TypeId × Value → H} {w : World} {spare : Nat → Bool} {held : Bool}
theorem b_decl : Tryz.prog.bytesOf 118 = 32 := by kernel_rfl
theorem b_graph : Tryz.prog.bytesOf 69 = 56 := by kernel_rfl
theorem b_node : Tryz.prog.bytesOf 66 = 96 := by kernel_rfl
def graphZ (g : Graph) : Prop := (∀ n ∈ g.nodes, n.ok) ∧ g.nodes.length * 96 ≤ 140737488351232
theorem open_graphz {n : Nat} {cs : List Value} {y : DataW H × List MemPlace} (h : DataW.trod enc Tryz.prog w 0 spare held n 69 cs = some y) (hw : (y.1.weights Tryz.prog 69).all (· ≤ reachBytes) = true) : ∃ g, graphO (cmap w) cs g ∧ graphZ g := by
  obtain ⟨xs, m, _, hy, hlen, hxl, hf⟩ := DataW.trod_struct Tryz.underlying69 h
  replace hlen := hlen.trans c4_graph
  obtain ⟨c0, c1, c2, c3, rfl⟩ := list4 hlen
  obtain ⟨y0, y1, y2, y3, rfl⟩ := list4 hxl
  have f0 := hf 0 _ rfl
  have f1 := hf 1 _ rfl
  have f2 := hf 2 _ rfl
  have f3 := hf 3 _ rfl
  simp only [List.getElem_toArray, List.getElem_cons_zero, List.getElem_cons_succ, c1_str, c1_int, c1_nodes] at f0 f1 f2 f3
  subst hy
  simp only [DataW.weights, Tryz.underlying69, List.map_cons, List.map_nil, DataW.weightsEach, List.all_append, Bool.and_eq_true] at hw
  obtain ⟨-, -, -, hw3, -⟩ := hw
  obtain ⟨s0, e0, _⟩ := DataW.trod_string Tryz.underlying9 f0
  obtain ⟨s1, e1, _⟩ := DataW.trod_int Tryz.underlying3 f1
  obtain ⟨s2, e2, _⟩ := DataW.trod_int Tryz.underlying3 f2
  obtain ⟨v, ns, e3, hn, hok, hz⟩ := open_slz nodeO Node.ok Tryz.underlying67 c13_node b_node (by decide) (fun n cs' y hy _ => open_node hy) f3 hw3
  simp at e0 e1 e2 e3
  subst e0 e1 e2 e3
  exact ⟨⟨s0, s1, s2, ns⟩, ⟨_, rfl, hn.imp' fun m b o x hx => Cells_plain hx⟩, hok, hz⟩
set_option maxRecDepth 100000 in
/-- AN ARGUMENT OF TYPE Unit, SIZED. -/
theorem open_unitz {base : Nat} {r : Reach} {v : Value} {d : DataW H} {p : List MemPlace} (hv : Value.okWide Tryz.prog w r base 25 v) (h : DataW.Trod enc Tryz.prog w 0 spare held 25 v d p)
    (hw : (d.weights Tryz.prog 25).all (· ≤ reachBytes) = true) :
    ∃ cs u, v = .agg cs.toArray ∧ UnitV (cmap w) cs u ∧ UOk u ∧ USz u := by
  obtain ⟨cs, rfl, hsz⟩ := okWide_struct Tryz.underlying25 hv
  have hsz1 : cs.size = 3 := Eq.trans hsz c3_unit
  have hsz2 : cs.toList.length = 3 := Array.length_toList.trans hsz1
  clear hsz hv
  obtain ⟨fuel, hf0⟩ := h
  obtain ⟨xs, m, _, hy, hlen, hxl, hf⟩ := DataW.trod_struct Tryz.underlying25 hf0
  clear hlen hf0
  obtain ⟨c0, c1, c2, hl⟩ := list3 hsz2
  obtain rfl : cs = #[c0, c1, c2] := by rw [← Array.toArray_toList (xs := cs), hl]
  obtain ⟨y0, y1, y2, rfl⟩ := list3 hxl
  have f0 := hf 0 _ rfl
  have f1 := hf 1 _ rfl
  have f2 := hf 2 _ rfl
  simp only [List.getElem_toArray, List.getElem_cons_zero, List.getElem_cons_succ, c1_decls, c1_graphs] at f0 f1 f2
  injection hy with hy _
  subst hy
  simp only [DataW.weights, Tryz.underlying25, List.map_cons, List.map_nil, DataW.weightsEach, List.all_append, Bool.and_eq_true] at hw
  obtain ⟨hw0, hw1, hw2, -⟩ := hw
  obtain ⟨v0, d0, e0, h0, _, z0⟩ := open_slz declO (fun _ => True) Tryz.underlying22 c3_decl b_decl (by decide) (fun n cs' y hy _ => by obtain ⟨d, h⟩ := open_decl hy; exact ⟨d, h, trivial⟩) f0 hw0
  obtain ⟨v1, d1, e1, h1, _, z1⟩ := open_slz declO (fun _ => True) Tryz.underlying22 c3_decl b_decl (by decide) (fun n cs' y hy _ => by obtain ⟨d, h⟩ := open_decl hy; exact ⟨d, h, trivial⟩) f1 hw1
  obtain ⟨v2, g2, e2, h2, hok, z2⟩ := open_slz graphO graphZ Tryz.underlying23 c4_graph b_graph (by decide) (fun n cs' y hy hz => open_graphz hy hz) f2 hw2
  simp [Value.cells] at e0 e1 e2
  subst e0 e1 e2
  have dcl : ∀ {v : Value} {ds : List Decl}, Sl (Cells declO) 3 (cmap w) v ds → Decls (cmap w) v ds := fun h => h.imp' fun m b o x hx => by
    obtain ⟨cs, rfl, h2⟩ := hx
    exact ⟨h2 0 _ rfl, h2 1 _ rfl, h2 2 _ rfl⟩
  exact ⟨[c0, c1, c2], ⟨d0, d1, g2⟩, rfl, ⟨_, _, _, rfl, dcl h0, dcl h1, h2⟩, fun g hg => (hok g hg).1, z0, z1, z2, fun g hg => (hok g hg).2⟩
end
end Go.Proofs.YtffgnjgphkdodaaGreatDoor
/- The walk of CopyGraph. -/
namespace Go.Proofs.YtffgnjgphkdodaaGreatDoor
open Go Go.RowKit
theorem sl_node : SlT Tryz.prog 67 66 13 96 (.agg #[.int .u8 0, .int .u8 0, .int .i64 0, .int .i64 0, .bool false, .int .i64 0, .int .i64 0, .bool false, .int .i64 0, .int .i64 0, .int .i64 0, .int .i64 0, .int .i64 0]) := SlT.mk' Tryz.underlying67 (by kernel_rfl) rfl (by omega)
set_option maxRecDepth 100000 in
set_option maxHeartbeats 1000000 in
theorem copyGraph_calls (cs : List Value) (g : Graph) (w : World) (hg : GraphV (cmap w) cs g) (hz : g.nodes.length * 96 ≤ 140737488351232) :
    Calls Tryz.prog 64 #[.agg cs.toArray] w fun e w' => ∃ v, e = .returned (.agg #[.string g.name, .int .i64 g.locals, .int .i64 g.slots, v]) ∧ Nodes (part w' w.heap.size w'.heap.size) v g.nodes ∧ Below w.heap.size w w' := by
  obtain ⟨nv, rfl, hn⟩ := hg
  obtain ⟨A, c, rfl, -⟩ := id hn
  go_enter Tryz.func64, Tryz.ntmps64
  go_wp2_with (refine stop_append rfl ?_)
  refine Stop.intro ?_
  have hb00 := ((Below_alloc' w (.cells #[.string g.name, .int .i64 g.locals, .int .i64 g.slots, .slice A g.nodes.length c] 69)).alloc (by simp) (.cells #[.string ⟨#[]⟩, .int .i64 0, .int .i64 0, .slice none 0 0] 69)).alloc (by simp; omega) (.cells #[] 66)
  refine app_copy row_node sl_node rfl _ _ rfl _ rfl A g.nodes.length c g.nodes rfl (hn.mono (cmap_below hb00)) (by omega) ?_
  intro A' c' w1 hn' hb
  have b1 : Blk w1 w.heap.size 69 [.string g.name, .int .i64 g.locals, .int .i64 g.slots, .slice A g.nodes.length c] := (((Blk.new w _ _).alloc _).alloc _).below hb (by simp; omega)
  have b2 : Blk w1 (w.heap.size + 1) 69 [.string ⟨#[]⟩, .int .i64 0, .int .i64 0, .slice none 0 0] := ((Blk.of (heap_new (w.alloc _) _ _ (by simp)) rfl).alloc _).below hb (by simp)
  have hbel : Below w.heap.size w w1 := hb00.trans (hb.mono (by simp; omega))
  have hsz := hb.size
  simp only [World.size_alloc] at hsz hn'
  have e0 := b1.cell 0
  have e1 := b1.cell 1
  have e2 := b1.cell 2
  have e3 := b1.cell 3
  have q3 := b1.frozen 3
  have f0 := b2.cell 0
  have f1 := b2.cell 1
  have f2 := b2.cell 2
  have f3 := b2.cell 3
  have p0 := b2.frozen 0
  have p1 := b2.frozen 1
  have p2 := b2.frozen 2
  have p3 := b2.frozen 3
  have n1 : w.heap.size + 1 ≠ w.heap.size := by omega
  clear hb hb00
  go_wp2
  refine bodyPost_ret (v := .agg #[.string g.name, .int .i64 g.locals, .int .i64 g.slots, .slice A' g.nodes.length c']) (by simp [results, Tryz.results64, go_sem, f0, f1, f2, f3]) rfl ⟨.slice A' g.nodes.length c', rfl, ?_, ?_⟩
  · refine hn'.mono (fun b o v hv => ?_)
    obtain ⟨h1, h2, h3⟩ := part_at hv
    unfold part
    rw [if_pos ⟨by omega, by simp [World.setCell]; omega⟩]
    refine (World.cell?_of_block ?_).trans h1
    repeat (refine (Below.heap_setCell _ _ _ _ (by simp; omega)).trans ?_)
    rfl
  · exact (((((hbel.setCell (by simp) _).setCell (by simp) _).setCell (by simp) _).setCell (by simp) _).setCell (by simp) _)
end Go.Proofs.YtffgnjgphkdodaaGreatDoor
/- What the walk of Copy needs. -/
namespace Go.Proofs.YtffgnjgphkdodaaGreatDoor
open Go Go.RowKit
theorem Below.al {w w' : World} (h : Below w.heap.size w w') (o : Obj) : Below w.heap.size w (w'.alloc o) := h.alloc h.size o
theorem blk_new1 (w : World) (o : Obj) (t : TypeId) (cs : List Value) : Blk ((w.alloc o).alloc (.cells cs.toArray t)) (w.heap.size + 1) t cs := Blk.of (heap_new _ _ _ (by simp)) rfl
theorem blk_new2 (w : World) (o o2 : Obj) (t : TypeId) (cs : List Value) : Blk (((w.alloc o).alloc o2).alloc (.cells cs.toArray t)) (w.heap.size + 1 + 1) t cs := Blk.of (heap_new _ _ _ (by simp)) rfl
def CopyAt (w wc : World) (u : Unit_) (cs : List Value) (gb : Nat) (sv lv : Value) : Prop :=
  Blk wc gb 25 [sv, lv, .slice none 0 0] ∧ Blk wc w.heap.size 25 cs ∧ Blk wc (w.heap.size + 1) 25 [.slice none 0 0, .slice none 0 0, .slice none 0 0] ∧ w.heap.size + 2 ≤ gb ∧
    Decls (on wc (fun b => w.heap.size + 2 ≤ b ∧ b ≠ gb)) sv u.shared ∧ Decls (on wc (fun b => w.heap.size + 2 ≤ b ∧ b ≠ gb)) lv u.locks ∧ Below w.heap.size w wc
theorem copyAt_mk {w W0 w1 w2 W : World} {u : Unit_} {cs : List Value} {gb X1 X2 : Nat} {sv lv : Value} (HB : Blk W gb 25 [.slice none 0 0, .slice none 0 0, .slice none 0 0]) (b0 : Blk W0 w.heap.size 25 cs)
    (br : Blk W0 (w.heap.size + 1) 25 [.slice none 0 0, .slice none 0 0, .slice none 0 0]) (hbl : Below w.heap.size w W0) (hsz : w.heap.size + 2 = W0.heap.size) (B1 : Below W0.heap.size W0 w1) (B12 : Below w1.heap.size w1 w2) (B3 : Below w2.heap.size w2 W)
    (k1 : Decls (part w1 X1 w1.heap.size) sv u.shared) (k2 : Decls (part w2 X2 w2.heap.size) lv u.locks) (x1 : W0.heap.size ≤ X1) (x2 : w1.heap.size ≤ X2) (g0 : W0.heap.size ≤ gb) (g1 : gb < X1 ∨ w1.heap.size ≤ gb) (g2 : gb < X2 ∨ w2.heap.size ≤ gb) :
    CopyAt w (((W.setCell ⟨gb, 0, none⟩ sv).setCell ⟨gb, 1, none⟩ lv).setCell ⟨gb, 2, none⟩ (.slice none 0 0)) u cs gb sv lv := by
  have s1 := B1.size
  have s12 := B12.size
  have s3 := B3.size
  have hB : Below W0.heap.size W0 W := B1.trans ((B12.trans (B3.mono s12)).mono s1)
  have far : ∀ b, b ≠ gb → (((W.setCell ⟨gb, 0, none⟩ sv).setCell ⟨gb, 1, none⟩ lv).setCell ⟨gb, 2, none⟩ (.slice none 0 0)).heap[b]? = W.heap[b]? := fun b hb =>
    (Below.heap_setCell _ _ _ _ hb).trans ((Below.heap_setCell _ _ _ _ hb).trans (Below.heap_setCell _ _ _ _ hb))
  refine ⟨((HB.set_ 0 sv).set_ 1 lv).set_ 2 (.slice none 0 0), (far _ (by omega)).trans (b0.below hB b0.lt), (far _ (by omega)).trans (br.below hB br.lt), by omega, ?_, ?_, ?_⟩
  · refine k1.mono (fun b o v hv => ?_)
    obtain ⟨h1, h2, h3⟩ := part_at hv
    refine on_mk ?_ ⟨by omega, by omega⟩
    refine (World.cell?_of_block ?_).trans h1
    exact (far b (by omega)).trans ((B12.trans (B3.mono s12)).block b h3)
  · refine k2.mono (fun b o v hv => ?_)
    obtain ⟨h1, h2, h3⟩ := part_at hv
    refine on_mk ?_ ⟨by omega, by omega⟩
    refine (World.cell?_of_block ?_).trans h1
    exact (far b (by omega)).trans (B3.block b h3)
  · have := hbl.trans (hB.mono hbl.size)
    exact (((this.setCell (by simp; omega) _).setCell (by simp; omega) _).setCell (by simp; omega) _)
theorem copyAt_mk2 {w W0 w1 w2 : World} {u : Unit_} {cs : List Value} {X1 X2 : Nat} {sv lv : Value} (b0 : Blk W0 w.heap.size 25 cs)
    (br : Blk W0 (w.heap.size + 1) 25 [.slice none 0 0, .slice none 0 0, .slice none 0 0]) (hbl : Below w.heap.size w W0) (hsz : w.heap.size + 2 = W0.heap.size) (B1 : Below W0.heap.size W0 w1) (B12 : Below w1.heap.size w1 w2)
    (k1 : Decls (part w1 X1 w1.heap.size) sv u.shared) (k2 : Decls (part w2 X2 w2.heap.size) lv u.locks) (x1 : W0.heap.size ≤ X1) (x2 : w1.heap.size ≤ X2) :
    CopyAt w (w2.alloc (.cells #[sv, lv, .slice none 0 0] 25)) u cs w2.heap.size sv lv := by
  have s1 := B1.size
  have s12 := B12.size
  have B3 : Below w2.heap.size w2 (w2.alloc (.cells #[sv, lv, .slice none 0 0] 25)) := Below_alloc' _ _
  have hB := B1.trans ((B12.trans (B3.mono s12)).mono s1)
  refine ⟨Blk.new w2 _ [sv, lv, .slice none 0 0], b0.below hB b0.lt, br.below hB br.lt, by omega, ?_, ?_, hbl.trans (hB.mono hbl.size)⟩
  · refine k1.mono (fun b o v hv => ?_)
    obtain ⟨h1, h2, h3⟩ := part_at hv
    refine on_mk ?_ ⟨by omega, by omega⟩
    exact (World.cell?_of_block ((B12.trans (B3.mono s12)).block b h3)).trans h1
  · refine k2.mono (fun b o v hv => ?_)
    obtain ⟨h1, h2, h3⟩ := part_at hv
    refine on_mk ?_ ⟨by omega, by omega⟩
    exact (World.cell?_of_block (B3.block b h3)).trans h1
theorem step_app_one_big {P : Program} {t e size bytes : Nat} {z : Value} (T : SlT P t e size bytes z) {ops : Array Oper} {o : Oper} {a : Act} {w : World} {K : Act → World → Prop} {Q : Exit → Act → World → Prop} {E : Prop} (hgd : o.guard = none) (s x : Operand)
    (ho : o.op = .call { callee := .builtin .append, args := #[s, x], argTypes := #[t, t] })
    (base : Nat) (v : Value) (n : Nat) (xs : List Value) (hs : a.eval s = v) (hown : w.ownsRow base e size v n xs)
    (g off c : Nat) (news : List Value) (hx : a.eval x = .slice (some ⟨g, off, none⟩) 1 c) (hl : news.length = size) (hnews : ∀ j u, news[j]? = some u → w.cell? ⟨g, off + j, none⟩ = some u) (h1 : ∀ u ∈ news, u.oneCell' = true)
    (hn : n < 9223372036854775807) (hb : (n + 1) * bytes ≤ 140737488355328) (hbase : base ≤ w.heap.size)
    (h : ∀ v' w', w'.ownsRow base e size v' (n + 1) (xs ++ news) → w.grownBy w' v.ownBlock → (v'.ownBlock = v.ownBlock ∨ v'.ownBlock = some w.heap.size) → K (a.put o.dst v') w') :
    if Region.wanted o (yielded ops a.tmps) = true then Oper.wp P o a w K Q else E := by
  have hw : Region.wanted o (yielded ops a.tmps) = true := by simp [Region.wanted, hgd]
  rw [if_pos hw]
  obtain ⟨i, hi, hz, hsz, hby⟩ := T.info
  obtain ⟨v', w', hr, h2, h3, _, h5⟩ := run_append_own_at (P := P) w base t o.type e i z size bytes T.ht hi hz hsz hby T.hzs T.hsz v n xs hown ⟨g, off, none⟩ 1 c news (by omega) (fun j u hj => by rw [add_mk]; exact hnews j u hj) h1 (by simp only [maxLen]; omega) hb hbase
  unfold Oper.wp execOp
  simp only [ho, resolve, invoke, builtin, Sem.run_bind, Sem.run_pure, Result.andThen_ok, List.map_toArray, List.map_cons, List.map_nil, hs, hx, hr]
  exact h v' w' h2 h3 h5
instance : MonoV GraphV := ⟨fun hm h => h.mono hm⟩
theorem app_far {wr w2 w' : World} {o : Obj} {row : Option Nat} (hB : Below wr.heap.size wr w2) (hg : (w2.alloc o).grownBy w' row) {q : Nat} (hq : q < wr.heap.size) (hne : some q ≠ row) : w'.heap[q]? = wr.heap[q]? := by
  have h1 := hB.size
  rw [hg.block q (by simp; omega) hne, Below.heap_alloc _ _ _ (by omega)]
  exact hB.block q hq
theorem cell_far {wr w' : World} {q : Nat} (h : w'.heap[q]? = wr.heap[q]?) (o : Nat) : w'.cell? ⟨q, o, none⟩ = wr.cell? ⟨q, o, none⟩ := World.cell?_of_block h
theorem frozen_far {wr w' : World} {q : Nat} (h : w'.heap[q]? = wr.heap[q]?) (o : Nat) : w'.frozen? ⟨q, o, none⟩ = wr.frozen? ⟨q, o, none⟩ := World.frozen?_of_block h
theorem push_graph {base : Nat} {S : Nat → Prop} {gvv : Value} {xs : List Graph} {wr w2 w' : World} {g : Graph} {nv v' : Value} (hacc : Acc GraphV 4 69 base S gvv xs wr) (hbr : base ≤ wr.heap.size) (hB : Below wr.heap.size wr w2) (hnv : Nodes (part w2 wr.heap.size w2.heap.size) nv g.nodes)
    {rows : List (List Value)} (hl : rows.length = xs.length) (hr : ∀ r ∈ rows, r.length = 4)
    (hx : ∀ (i : Nat) r x, rows[i]? = some r → xs[i]? = some x → GraphV (on (w2.alloc (.cells #[.string g.name, .int .i64 g.locals, .int .i64 g.slots, nv] 69)) S) r x)
    (ho : w'.ownsRow base 69 4 v' (xs.length + 1) (rows.flatten ++ [.string g.name, .int .i64 g.locals, .int .i64 g.slots, nv])) (hg : (w2.alloc (.cells #[.string g.name, .int .i64 g.locals, .int .i64 g.slots, nv] 69)).grownBy w' gvv.ownBlock)
    (hob : v'.ownBlock = gvv.ownBlock ∨ v'.ownBlock = some (w2.alloc (.cells #[.string g.name, .int .i64 g.locals, .int .i64 g.slots, nv] 69)).heap.size) :
    Acc GraphV 4 69 base (fun b => S b ∨ (wr.heap.size ≤ b ∧ b < w2.heap.size)) v' (xs ++ [g]) w' := by
  have hs := hB.size
  have hv := hacc.lt
  refine ((hacc.keep hB).alloc _).push hl hr hx rfl ho hg hob (fun b hb => .inl hb) (fun b hb => ?_) ⟨nv, rfl, ?_⟩
  · rcases hb with hb | hb
    · exact ((hacc.keep hB).alloc _).sep b hb
    · exact ⟨by omega, by simp; omega, fun e => by have := hv b e.symm; omega⟩
  · refine hnv.mono ((part_on w2 (S := fun b => wr.heap.size ≤ b ∧ b < w2.heap.size) fun b h1 h2 => ⟨h1, h2⟩).trans (on_keep (fun b hb hlt => ?_) (fun b hb => .inr hb)))
    rw [hg.block b (by simp; omega) (fun e => by have := hv b e.symm; omega), Below.heap_alloc _ _ _ hlt]
theorem sl_graph : SlT Tryz.prog 23 69 4 56 (.agg #[.string ⟨#[]⟩, .int .i64 0, .int .i64 0, .slice none 0 0]) := SlT.mk' Tryz.underlying23 (by kernel_rfl) rfl (by omega)
/-- A unit of the call's own, its graphs in a row of their own. -/
def UnitAcc (base : Nat) (w : World) (cs : List Value) (u : Unit_) : Prop :=
  ∃ sv lv gv D S, cs = [sv, lv, gv] ∧ Decls (on w D) sv u.shared ∧ Decls (on w D) lv u.locks ∧ Acc GraphV 4 69 base S gv u.graphs w ∧ ∀ b, D b → base ≤ b ∧ b < w.heap.size ∧ some b ≠ gv.ownBlock
theorem UnitAcc.unit {base : Nat} {w : World} {cs : List Value} {u : Unit_} (h : UnitAcc base w cs u) : UnitV (part w base w.heap.size) cs u := by
  obtain ⟨sv, lv, gv, D, S, rfl, h1, h2, h3, h4⟩ := h
  exact ⟨sv, lv, gv, rfl, h1.mono (on_part w fun b hb => ⟨(h4 b hb).1, (h4 b hb).2.1⟩), h2.mono (on_part w fun b hb => ⟨(h4 b hb).1, (h4 b hb).2.1⟩), (h3.done (Nat.le_refl _) (Nat.le_refl _)).imp' fun m b o x hx => hx⟩
theorem copy_step {w wc wr w2 w' : World} {gb : Nat} {sv lv gvv nv v' : Value} {S : Nat → Prop} {xs : List Graph} {g : Graph} {rows : List (List Value)} (hacc : Acc GraphV 4 69 wc.heap.size S gvv xs wr) (hsz : wc.heap.size ≤ wr.heap.size)
    (hfar : ∀ b, b < wc.heap.size → b ≠ gb → wr.heap[b]? = wc.heap[b]?) (hbel : Below w.heap.size w wr) (hgl : gb < wc.heap.size) (hgb : w.heap.size ≤ gb) (C1 : Blk wr gb 25 [sv, lv, gvv]) (hB : Below wr.heap.size wr w2) (hnv : Nodes (part w2 wr.heap.size w2.heap.size) nv g.nodes)
    (hl : rows.length = xs.length) (hr : ∀ r ∈ rows, r.length = 4)
    (hx : ∀ (i : Nat) r x, rows[i]? = some r → xs[i]? = some x → GraphV (on (w2.alloc (.cells #[.string g.name, .int .i64 g.locals, .int .i64 g.slots, nv] 69)) S) r x)
    (ho : w'.ownsRow wc.heap.size 69 4 v' (xs.length + 1) (rows.flatten ++ [.string g.name, .int .i64 g.locals, .int .i64 g.slots, nv])) (hg : (w2.alloc (.cells #[.string g.name, .int .i64 g.locals, .int .i64 g.slots, nv] 69)).grownBy w' gvv.ownBlock)
    (hob : v'.ownBlock = gvv.ownBlock ∨ v'.ownBlock = some (w2.alloc (.cells #[.string g.name, .int .i64 g.locals, .int .i64 g.slots, nv] 69)).heap.size) :
    Blk (w'.setCell ⟨gb, 2, none⟩ v') gb 25 [sv, lv, v'] ∧ Acc GraphV 4 69 wc.heap.size (fun b => S b ∨ (wr.heap.size ≤ b ∧ b < w2.heap.size)) v' (xs ++ [g]) (w'.setCell ⟨gb, 2, none⟩ v') ∧
      (∀ b, b < wc.heap.size → b ≠ gb → (w'.setCell ⟨gb, 2, none⟩ v').heap[b]? = wc.heap[b]?) ∧ Below w.heap.size w (w'.setCell ⟨gb, 2, none⟩ v') ∧ wc.heap.size ≤ (w'.setCell ⟨gb, 2, none⟩ v').heap.size := by
  have hP := push_graph hacc hsz hB hnv hl hr hx ho hg hob
  have hs := hB.size
  have hs2 := hg.size
  simp only [World.size_alloc] at hs2
  have hgr := C1.lt
  have hne1 : some gb ≠ gvv.ownBlock := hacc.blk C1 (by decide)
  have C1' : Blk w' gb 25 [sv, lv, gvv] := (app_far hB hg hgr hne1).trans C1
  refine ⟨C1'.set_ 2 v', hP.setCell (fun e => hP.blk C1' (by decide) e.symm) ?_ v', fun b hb hne => ?_, ?_, ?_⟩
  · rintro (h | h)
    · have := (hacc.sep gb h).1
      omega
    · have : wr.heap.size ≤ gb := h.1
      omega
  · refine (Below.heap_setCell _ _ _ _ hne).trans ?_
    have hne3 : some b ≠ gvv.ownBlock := fun e => by have := (hacc.lt b e.symm).1; omega
    exact (app_far hB hg (by omega) hne3).trans (hfar b hb hne)
  · have h1 := hbel.size
    exact (((hbel.trans (hB.mono h1)).alloc (by omega) _).grown hg (by simp; omega) (fun j hj => by have := (hacc.lt j hj).1; omega)).setCell hgb _
  · simp [World.setCell]; omega
theorem Acc.low {α : Type} {RV : CM → List Value → α → Prop} {size : Nat} {e : TypeId} {base base' : Nat} {S : Nat → Prop} {v : Value} {xs : List α} {wr : World} (h : Acc RV size e base S v xs wr) (hb : base' ≤ base) : Acc RV size e base' S v xs wr := by
  obtain ⟨rows, h1, h2, h3, h4⟩ := h.ex
  refine ⟨⟨rows, ⟨h1.1, ?_⟩, h2, h3, h4⟩, fun b hs => by have := h.sep b hs; exact ⟨by omega, this.2⟩⟩
  rcases h1.2 with k | ⟨g, cap, cur, k1, k2, k3⟩
  · exact .inl k
  · exact .inr ⟨g, cap, cur, k1, by omega, k3⟩
theorem copy_end {w wc wr : World} {gb : Nat} {sv lv gvv : Value} {S : Nat → Prop} {u : Unit_} (hacc : Acc GraphV 4 69 wc.heap.size S gvv u.graphs wr) (hfar : ∀ b, b < wc.heap.size → b ≠ gb → wr.heap[b]? = wc.heap[b]?) (hbel : Below w.heap.size w wr)
    (_hgb : w.heap.size + 2 ≤ gb) (hsz : wc.heap.size ≤ wr.heap.size) (hwc : w.heap.size + 1 < wc.heap.size) (C3 : Blk wr (w.heap.size + 1) 25 [.slice none 0 0, .slice none 0 0, .slice none 0 0])
    (k1 : Decls (on wc (fun b => w.heap.size + 2 ≤ b ∧ b ≠ gb)) sv u.shared) (k2 : Decls (on wc (fun b => w.heap.size + 2 ≤ b ∧ b ≠ gb)) lv u.locks) :
    UnitAcc w.heap.size (((wr.setCell ⟨w.heap.size + 1, 0, none⟩ sv).setCell ⟨w.heap.size + 1, 1, none⟩ lv).setCell ⟨w.heap.size + 1, 2, none⟩ gvv) [sv, lv, gvv] u ∧
      Below w.heap.size w (((wr.setCell ⟨w.heap.size + 1, 0, none⟩ sv).setCell ⟨w.heap.size + 1, 1, none⟩ lv).setCell ⟨w.heap.size + 1, 2, none⟩ gvv) := by
  have far : ∀ b, b ≠ w.heap.size + 1 → (((wr.setCell ⟨w.heap.size + 1, 0, none⟩ sv).setCell ⟨w.heap.size + 1, 1, none⟩ lv).setCell ⟨w.heap.size + 1, 2, none⟩ gvv).heap[b]? = wr.heap[b]? := fun b hb =>
    (Below.heap_setCell _ _ _ _ hb).trans ((Below.heap_setCell _ _ _ _ hb).trans (Below.heap_setCell _ _ _ _ hb))
  have hS : ¬ S (w.heap.size + 1) := fun h => by have := (hacc.sep _ h).1; omega
  have hO : gvv.ownBlock ≠ some (w.heap.size + 1) := fun e => hacc.blk C3 (by decide) e.symm
  have dec : ∀ {v : Value} {ds : List Decl}, Decls (on wc (fun b => w.heap.size + 2 ≤ b ∧ b ≠ gb)) v ds → Decls (on (((wr.setCell ⟨w.heap.size + 1, 0, none⟩ sv).setCell ⟨w.heap.size + 1, 1, none⟩ lv).setCell ⟨w.heap.size + 1, 2, none⟩ gvv) (fun b => w.heap.size + 2 ≤ b ∧ b ≠ gb ∧ b < wc.heap.size)) v ds := fun h => h.mono fun b o v hv => by
    obtain ⟨h1, h2, h3⟩ := on_at hv
    have h4 : b < wc.heap.size := World.block_lt_of_cell? wc ⟨b, o, none⟩ h1
    refine on_mk ?_ ⟨h2, h3, h4⟩
    exact (World.cell?_of_block ((far b (by omega)).trans (hfar b h4 h3))).trans h1
  refine ⟨⟨sv, lv, gvv, fun b => w.heap.size + 2 ≤ b ∧ b ≠ gb ∧ b < wc.heap.size, S, rfl, dec k1, dec k2, ?_, ?_⟩, ?_⟩
  · exact (((hacc.setCell hO hS _).setCell hO hS _).setCell hO hS _).low (by omega)
  · rintro b ⟨h1, h2, h3⟩
    refine ⟨by omega, by simp [World.setCell]; omega, fun e => by have := (hacc.lt b e.symm).1; omega⟩
  · exact ((hbel.setCell (by simp) _).setCell (by simp) _).setCell (by simp) _
end Go.Proofs.YtffgnjgphkdodaaGreatDoor
