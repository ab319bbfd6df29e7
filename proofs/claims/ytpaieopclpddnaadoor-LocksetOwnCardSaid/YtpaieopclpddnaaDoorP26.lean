import Derived.Test.YtpaieopclpddnaaDoorP01
import Derived.Test.YtpaieopclpddnaaDoorP18
import Derived.Test.YtpaieopclpddnaaDoorP19
/- Lists of the call's own, whatever is written into them. -/
namespace Go.Proofs.YtpaieopclpddnaaDoor
open Go Go.RowKit
/-- Rows of cells stay rows of as many cells. -/
def Shape (w w' : World) : Prop := ∀ (g : Nat) (cur : Array Value) (t : TypeId), w.heap[g]? = some (.cells cur t (0, 0)) → ∃ cur' : Array Value, w'.heap[g]? = some (.cells cur' t (0, 0)) ∧ cur'.size = cur.size
theorem Shape.refl (w : World) : Shape w w := fun _ cur _ h => ⟨cur, h, rfl⟩
theorem Shape.trans {a b c : World} (h : Shape a b) (k : Shape b c) : Shape a c := fun g cur t hg => by
  obtain ⟨c1, h1, e1⟩ := h g cur t hg
  obtain ⟨c2, h2, e2⟩ := k g c1 t h1
  exact ⟨c2, h2, e2.trans e1⟩
theorem Shape.alloc (w : World) (o : Obj) : Shape w (w.alloc o) := fun _ cur _ hg => ⟨cur, (heap_alloc_old w o (lt_of_block hg)).trans hg, rfl⟩
theorem Shape.below {w w' : World} (h : Below w.heap.size w w') : Shape w w' := fun g cur _ hg => ⟨cur, (h.block g (lt_of_block hg)).trans hg, rfl⟩
theorem Shape.setCell (w : World) (g i : Nat) (v : Value) : Shape w (w.setCell ⟨g, i, none⟩ v) := fun k cur t hk => by
  by_cases e : k = g
  · subst e
    exact ⟨_, heap_setCell_same w k i cur t v hk, by simp⟩
  · exact ⟨cur, (heap_setCell_other w ⟨g, i, none⟩ k v e).trans hk, rfl⟩
def OkRow (w : World) (base : Nat) (e : TypeId) (size : Nat) (v : Value) (n : Nat) : Prop := ∃ ys, w.ownsRow base e size v n ys
theorem OkRow.shape {w w' : World} {base : Nat} {e : TypeId} {size : Nat} {v : Value} {n : Nat} (h : OkRow w base e size v n) (hs : Shape w w') : OkRow w' base e size v n := by
  obtain ⟨ys, h1, h2⟩ := h
  rcases h2 with ⟨rfl, rfl⟩ | ⟨g, cap, cur, rfl, hb, hh, hn, hm, hc, ht⟩
  · exact ⟨[], by simp, .inl ⟨rfl, rfl⟩⟩
  · obtain ⟨cur', k1, k2⟩ := hs g cur e hh
    refine ⟨cur'.toList.take (n * size), ?_, .inr ⟨g, cap, cur', rfl, hb, k1, hn, hm, by omega, rfl⟩⟩
    have : n * size ≤ cap * size := Nat.mul_le_mul_right _ hn
    simp; omega
theorem OkRow.low {w : World} {base base' : Nat} {e : TypeId} {size : Nat} {v : Value} {n : Nat} (h : OkRow w base e size v n) (hb : base' ≤ base) : OkRow w base' e size v n := by
  obtain ⟨ys, h1, h2⟩ := h
  refine ⟨ys, h1, ?_⟩
  rcases h2 with k | ⟨g, cap, cur, k1, k2, k3⟩
  · exact .inl k
  · exact .inr ⟨g, cap, cur, k1, by omega, k3⟩
/-- A cell of the row. -/
theorem OkRow.at_ {w : World} {base : Nat} {e : TypeId} {v : Value} {n : Nat} (h : OkRow w base e 1 v n) {i : Nat} (hi : i < n) : ∃ g c x, v = .slice (some ⟨g, 0, none⟩) n c ∧ base ≤ g ∧ w.cell? ⟨g, i, none⟩ = some x ∧ w.frozen? ⟨g, i, none⟩ = false ∧ ∃ cur, w.heap[g]? = some (.cells cur e (0, 0)) := by
  obtain ⟨ys, h1, h2⟩ := h
  rcases id h2 with ⟨rfl, rfl⟩ | ⟨g, cap, cur, rfl, hb, hh, hn, hm, hc, ht⟩
  · omega
  · have hlt : i < cur.size := by omega
    refine ⟨g, cap, cur[i], rfl, hb, ?_, frozen_of_row w g i _ _ hh, cur, hh⟩
    rw [cell_of_row w g i cur e (0, 0) hh]
    exact Array.getElem?_eq_getElem hlt
theorem row_types {w : World} {g g' : Nat} {c c' : Array Value} {t t' : TypeId} (h : w.heap[g]? = some (.cells c t (0, 0))) (h' : w.heap[g']? = some (.cells c' t' (0, 0))) (hne : t ≠ t') : g ≠ g' := by
  intro e
  subst e
  rw [h] at h'
  injection h' with h'
  injection h' with _ h' _
  exact hne h'
theorem own_types {w : World} {b b' : Nat} {t t' : TypeId} {s s' n n' : Nat} {v v' : Value} {xs xs' : List Value} (h : w.ownsRow b t s v n xs) (h' : w.ownsRow b' t' s' v' n' xs') (hne : t ≠ t') : v.ownBlock = none ∨ v.ownBlock ≠ v'.ownBlock := by
  rcases h.2 with ⟨rfl, _⟩ | ⟨g, cap, cur, rfl, _, hh, _⟩
  · exact .inl rfl
  · refine .inr ?_
    rcases h'.2 with ⟨rfl, _⟩ | ⟨g', cap', cur', rfl, _, hh', _⟩
    · simp [Value.ownBlock]
    · simp only [Value.ownBlock]
      intro e
      injection e with e
      exact row_types hh hh' hne e
/-- A row of rows. -/
def OkRows (w : World) (base : Nat) (t e : TypeId) (v : Value) (n K : Nat) : Prop := ∃ ys, w.ownsRow base t 1 v n ys ∧ ∀ r ∈ ys, ∃ k, k ≤ K ∧ OkRow w base e 1 r k
section
variable {w w' : World} {base : Nat} {t e : TypeId} {v : Value} {n K : Nat}
theorem OkRows.nil (w : World) (base : Nat) (t e : TypeId) (K : Nat) : OkRows w base t e (.slice none 0 0) 0 K := ⟨[], World.ownsRow_nil _ _ _ _, fun _ h => by cases h⟩
theorem OkRows.row (h : OkRows w base t e v n K) : OkRow w base t 1 v n := by obtain ⟨ys, h1, _⟩ := h; exact ⟨ys, h1⟩
theorem OkRows.form (h : OkRows w base t e v n K) : ∃ A c, v = .slice A n c := by obtain ⟨ys, h1, _⟩ := h; obtain ⟨A, c, h2, _⟩ := own_slice h1; exact ⟨A, c, h2⟩
theorem OkRows.lt (h : OkRows w base t e v n K) : ∀ k, v.ownBlock = some k → base ≤ k ∧ k < w.heap.size := by obtain ⟨ys, h1, _⟩ := h; exact h1.lt
theorem OkRows.mono {K' : Nat} (h : OkRows w base t e v n K) (hK : K ≤ K') : OkRows w base t e v n K' := by
  obtain ⟨ys, h1, h2⟩ := h
  exact ⟨ys, h1, fun r hr => by obtain ⟨k, h3, h4⟩ := h2 r hr; exact ⟨k, by omega, h4⟩⟩
theorem OkRows.low {base' : Nat} (h : OkRows w base t e v n K) (hb : base' ≤ base) : OkRows w base' t e v n K := by
  obtain ⟨ys, h1, h2⟩ := h
  refine ⟨ys, ⟨h1.1, ?_⟩, fun r hr => by obtain ⟨k, h3, h4⟩ := h2 r hr; exact ⟨k, h3, h4.low hb⟩⟩
  rcases h1.2 with k | ⟨g, cap, cur, k1, k2, k3⟩
  · exact .inl k
  · exact .inr ⟨g, cap, cur, k1, by omega, k3⟩
/-- A step that leaves the row's own block. -/
theorem OkRows.far (h : OkRows w base t e v n K) (hs : Shape w w') (hc : ∀ g, v.ownBlock = some g → w'.heap[g]? = w.heap[g]?) : OkRows w' base t e v n K := by
  obtain ⟨ys, h1, h2⟩ := h
  refine ⟨ys, ⟨h1.1, ?_⟩, fun r hr => by obtain ⟨k, h3, h4⟩ := h2 r hr; exact ⟨k, h3, h4.shape hs⟩⟩
  rcases h1.2 with k | ⟨g, cap, cur, rfl, k2, k3, k4⟩
  · exact .inl k
  · exact .inr ⟨g, cap, cur, rfl, k2, (hc g rfl).trans k3, k4⟩
theorem OkRows.below (h : OkRows w base t e v n K) (hb : Below w.heap.size w w') : OkRows w' base t e v n K :=
  h.far (Shape.below hb) fun g hg => hb.block g (h.lt g hg).2
theorem OkRows.at_ (h : OkRows w base t e v n K) {i : Nat} (hi : i < n) : ∃ g c r k, v = .slice (some ⟨g, 0, none⟩) n c ∧ base ≤ g ∧ w.cell? ⟨g, i, none⟩ = some r ∧ w.frozen? ⟨g, i, none⟩ = false ∧ (∃ cur, w.heap[g]? = some (.cells cur t (0, 0))) ∧ k ≤ K ∧ OkRow w base e 1 r k := by
  obtain ⟨ys, h1, h2⟩ := h
  obtain ⟨g, c, x, rfl, hb, hx, hf, cur, hh⟩ := OkRow.at_ ⟨ys, h1⟩ hi
  have hl : i < ys.length := by have := h1.1; omega
  have hy : ys[i]? = some ys[i] := List.getElem?_eq_getElem hl
  have hcell := h1.cells (g := g) rfl i _ hy
  rw [add_mk, Nat.zero_add, hx] at hcell
  injection hcell with hcell
  obtain ⟨k, h3, h4⟩ := h2 _ (List.mem_of_getElem? hy)
  exact ⟨g, c, x, k, rfl, hb, hx, hf, ⟨cur, hh⟩, h3, by rw [hcell]; exact h4⟩
/-- Another row is put into a place. -/
theorem OkRows.put {A : Option Addr} {g c i k : Nat} {r : Value} (h : OkRows w base t e (.slice A n c) n K) (hA : A = some ⟨g, 0, none⟩) (_hi : i < n) (hr : OkRow w base e 1 r k) (hk : k ≤ K) : OkRows (w.setCell ⟨g, i, none⟩ r) base t e (.slice A n c) n K := by
  subst hA
  have hsh := Shape.setCell w g i r
  obtain ⟨ys, h1, h2⟩ := h
  rcases id h1.2 with ⟨h0, _⟩ | ⟨g', cap, cur, h0, hb, hh, hn, hm, hcs, ht⟩
  · cases h0
  · injection h0 with e1 e2 e3
    injection e1 with e1
    injection e1 with e1
    subst e1 e3
    refine ⟨ys.set i r, ⟨by simp [h1.1], .inr ⟨g, c, _, rfl, hb, heap_setCell_same w g i cur t r hh, hn, hm, by simp [hcs], ?_⟩⟩, fun x hx => ?_⟩
    · rw [Array.toList_setIfInBounds, List.take_set, ht]
    · rcases List.mem_or_eq_of_mem_set hx with hx | hx
      · obtain ⟨k', h3, h4⟩ := h2 x hx
        exact ⟨k', h3, h4.shape hsh⟩
      · subst hx
        exact ⟨k, hk, hr.shape hsh⟩
/-- A row is put behind the rows. -/
theorem OkRows.push {w2 : World} {r v' : Value} {k : Nat} {ys : List Value} (_h : w.ownsRow base t 1 v n ys) (h2 : ∀ r ∈ ys, ∃ k, k ≤ K ∧ OkRow w base e 1 r k) (hte : t ≠ e) (hr : OkRow w base e 1 r k) (hk : k ≤ K) (ho : w2.ownsRow base t 1 v' (n + 1) (ys ++ [r])) (hg : w.grownBy w2 v.ownBlock) : OkRows w2 base t e v' (n + 1) K := by
  have kp : ∀ r k, OkRow w base e 1 r k → OkRow w2 base e 1 r k := fun r k ⟨zs, hz⟩ => ⟨zs, hz.kept hg (own_types hz _h (fun e => hte e.symm))⟩
  refine ⟨_, ho, fun x hx => ?_⟩
  rcases List.mem_append.1 hx with hx | hx
  · obtain ⟨k', h3, h4⟩ := h2 x hx
    exact ⟨k', h3, kp _ _ h4⟩
  · rw [List.mem_singleton] at hx
    subst hx
    exact ⟨k, hk, kp _ _ hr⟩
end
section
variable {P : Program}
theorem run_append_sp {t e size bytes : Nat} {z : Value} (T : SlT P t e size bytes z) (w : World) (ty : Nat) (base : Nat) (v : Value) (n : Nat) (h : OkRow w base e size v n) (g off m c : Nat) (news : List Value) (hl : news.length = m * size) (hnews : ∀ j u, news[j]? = some u → w.cell? ⟨g, off + j, none⟩ = some u) (h1 : ∀ u ∈ news, u.oneCell' = true)
    (hn : n + m < 4294967296) (hb : bytes ≤ 1024) (hbase : base ≤ w.heap.size) :
    ∃ v' w', (Builtin.append_ #[t, t] ty #[v, .slice (some ⟨g, off, none⟩) m c]).run P w = .ok v' w' ∧ OkRow w' base e size v' (n + m) ∧ w.grownBy w' v.ownBlock ∧ Shape w w' := by
  obtain ⟨i, hi, hz, hsz, hby⟩ := T.info
  obtain ⟨xs, hown⟩ := h
  have hbytes : (n + m) * bytes ≤ 140737488355328 := by
    have : (n + m) * bytes ≤ 4294967296 * 1024 := Nat.mul_le_mul (by omega) hb
    omega
  have hnews' : ∀ j u, news[j]? = some u → w.cell? ((⟨g, off, none⟩ : Addr).add j) = some u := fun j u hj => by rw [add_mk]; exact hnews j u hj
  obtain ⟨v', w', hr, h2, h3, _, _⟩ := run_append_own_at (P := P) w base t ty e i z size bytes T.ht hi hz hsz hby T.hzs T.hsz v n xs hown ⟨g, off, none⟩ m c news hl hnews' h1 (by simp only [maxLen]; omega) hbytes hbase
  refine ⟨v', w', hr, ⟨_, h2⟩, h3, ?_⟩
  intro k cur t' hk
  by_cases hne : some k = v.ownBlock
  · rcases id hown.2 with ⟨rfl, _⟩ | ⟨g', cap, cur', rfl, hbg, hg, hnc, hcm, hcs, htake⟩
    · cases hne
    · injection hne with hne
      subst hne
      rw [hg] at hk
      injection hk with hk
      injection hk with hk1 hk2 _
      subst hk1 hk2
      by_cases hroom : n + m ≤ cap
      · have hfit : n * i.size + news.length ≤ cur'.size := by rw [hsz, hl, hcs, ← Nat.add_mul]; exact Nat.mul_le_mul_right _ hroom
        have hr2 := run_append_room (P := P) w t ty e i T.ht hi k n cap cur' hg ⟨g, off, none⟩ m c news (by rw [hsz]; exact hl) hnews' h1 hroom hfit
        rw [hr] at hr2
        injection hr2 with _ hr2
        subst hr2
        refine ⟨_, setRow_heap w k cur' _ e _ hg, ?_⟩
        simp only [List.size_toArray, List.length_append, List.length_take, List.length_drop, Array.length_toList]
        omega
      · have holds : ∀ j u, xs[j]? = some u → w.cell? ((⟨k, 0, none⟩ : Addr).add j) = some u := hown.cells (g := k) rfl
        have hfits := growslice_fits (old := cap) (need := n + m) (by omega) hbytes
        have hr2 := run_append_grow (P := P) w t ty e i z T.ht hi hz ⟨k, 0, none⟩ n cap xs (by rw [hsz]; exact hown.1) holds ⟨g, off, none⟩ m c news (by rw [hsz]; exact hl) hnews' (by omega) (by omega) (by rw [hby]; exact hfits)
        rw [hr] at hr2
        injection hr2 with _ hr2
        subst hr2
        exact ⟨cur', (heap_alloc_old w.drew _ (lt_of_block hg)).trans hg, rfl⟩
  · exact ⟨cur, (h3.block k (lt_of_block hk) hne).trans hk, rfl⟩
theorem app_sp {t e size bytes : Nat} {z : Value} (T : SlT P t e size bytes z) {ops : Array Oper} {rest : List Oper} {o : Oper} {a : Act} {w : World} {Q : Exit → Act → World → Prop} (hgd : o.guard = none) (s x : Operand)
    (ho : o.op = .call { callee := .builtin .append, args := #[s, x], argTypes := #[t, t] })
    (base : Nat) (v : Value) (n : Nat) (hs : a.eval s = v) (h : OkRow w base e size v n)
    (g off m c : Nat) (news : List Value) (hx : a.eval x = .slice (some ⟨g, off, none⟩) m c) (hl : news.length = m * size) (hnews : ∀ j u, news[j]? = some u → w.cell? ⟨g, off + j, none⟩ = some u) (h1 : ∀ u ∈ news, u.oneCell' = true)
    (hn : n + m < 4294967296) (hb : bytes ≤ 1024) (hbase : base ≤ w.heap.size)
    (hK : ∀ v' w', OkRow w' base e size v' (n + m) → w.grownBy w' v.ownBlock → Shape w w' → wpList P ops Q rest (a.put o.dst v') w') : wpList P ops Q (o :: rest) a w := by
  refine wpList_plain hgd fun K hK' => ?_
  obtain ⟨v', w', hrun, k1, k2, k3⟩ := run_append_sp T w o.type base v n h g off m c news hl hnews h1 hn hb hbase
  unfold Oper.wp execOp
  simp only [ho, resolve, invoke, builtin, Sem.run_bind, Sem.run_pure, Result.andThen_ok, List.map_toArray, List.map_cons, List.map_nil, hs, hx, hrun]
  exact hK' _ _ (hK v' w' k1 k2 k3)
end
end Go.Proofs.YtpaieopclpddnaaDoor
/- The walks of lockset.Held, Guards and Classes once more: what they hand out is the call's own. -/
namespace Go.Proofs.YtpaieopclpddnaaDoor
open Go Go.RowKit
theorem int_ne_ints : (56 : Nat) ≠ 3 := by decide
/-- What a question for lists ends in, as memory. -/
def OwnPost (w : World) (e : Ending) (w' : World) : Prop := ∃ (v : Value) (n : Nat) (er : Int), e = .returned (.tuple #[v, .int .i64 er]) ∧ n ≤ 4096 ∧ OkRows w' w.heap.size 56 3 v n 16 ∧ Below w.heap.size w w'
def OwnPost1 (w : World) (e : Ending) (w' : World) : Prop := ∃ (v : Value) (n : Nat) (er : Int), e = .returned (.tuple #[v, .int .i64 er]) ∧ n ≤ 4096 ∧ OkRow w' w.heap.size 45 3 v n ∧ Below w.heap.size w w'
set_option maxHeartbeats 1000000 in
theorem guard_own (a b : Nat) (hb : b < 65536) (w : World) (hT : Tab w) :
    Calls Tryd.prog 43 #[.agg #[.int .u32 a, .int .u32 b]] w fun e w' => ∃ v n, e = .returned v ∧ n ≤ 16 ∧ OkRow w' w.heap.size 3 1 v n ∧ Below w.heap.size w w' := by
  have hT2 : ∀ o1, Tab (w.alloc o1) := fun o1 => hT.alloc o1
  have HT2 := Lib.hid hT2; clear hT2
  by_cases h0 : a = 0
  · subst h0
    go_enter Tryd.func43, Tryd.ntmps43
    go_wp2_with fail
    go_ret
    exact ⟨.slice none 0 0, 0, rfl, by omega, ⟨[], World.ownsRow_nil _ _ _ _⟩, Below_alloc' _ _⟩
  · have hz : ((a : Int) == 0) = false := by simp; omega
    clear h0
    go_enter Tryd.func43, Tryd.ntmps43
    go_wp2_with (go_at_call 45; refine (list_calls b hb _ (HT2.out _)).mono ?_; rintro e w1 ⟨v, rfl, ho, hb1⟩)
    go_ret
    exact ⟨v, _, rfl, up_length _, (OkRow.low ⟨_, ho⟩ (by simp)), (Below_alloc' _ _).trans (hb1.mono (by simp))⟩
set_option maxRecDepth 100000 in
set_option maxHeartbeats 4000000 in
theorem told_guard_own (u : Unit_) (cs : List Value) (w : World) (hT : Tab w) (hu : UnitV (cmap w) cs u) (hok : UOk u) :
    Calls Tryd.prog 42 #[.agg cs.toArray, .func (.func 43) #[] #[]] w (OwnPost w) := by
  have hu0 := hu
  unfold OwnPost
  obtain ⟨sv, lv, gv, rfl, hs, hl, hg⟩ := hu
  obtain ⟨sA, sc, rfl, -⟩ := id hs
  have bs := hs.len.2.2
  have hbx := Blk.new w 25 [.slice sA u.shared.length sc, lv, gv]
  have HLD : Hid (∀ j v, ([.slice sA u.shared.length sc, lv, gv] : List Value)[j]? = some v → (w.alloc (.cells #[.slice sA u.shared.length sc, lv, gv] 25)).cell? ⟨w.heap.size, 0 + j, none⟩ = some v) := cell_newl w _ _ _ rfl
  have HT := Lib.hid hT; clear hT
  go_enter Tryd.func42, Tryd.ntmps42
  go_wp2_with (first
    | (refine wpList_load_at rfl 25 _ rfl w.heap.size 0 rfl _ _ HLD.out Tryd.underlying25 rfl (by kernel_rfl) ?_))
  refine (gather_calls u [.slice sA u.shared.length sc, lv, gv] _ (hu0.mono (cmap_alloc _ _)) hok).mono ?_
  rintro e w1 (⟨hc, mb, rfl, hm, hmb, hb1⟩ | ⟨hc, rfl, hb1⟩)
  · have hru := checkF_none hc
    have HC := Lib.hid hc; clear hc
    have hbx1 := hbx.below hb1 hbx.lt
    have hw1 : Below w.heap.size w w1 := (Below_alloc' _ _).trans (hb1.mono (by simp))
    have hw1s := hw1.size
    have hcx0 := hbx1.cell 0
    have hz := hru.shared
    have hmlt := hm.lt
    go_wp2
    go_loopw [8, 21] (fun v8 v21 wr => ∃ (k : Nat), v21 = .int .i64 k ∧ k ≤ u.shared.length ∧ OkRows wr w1.heap.size 56 3 v8 k 16 ∧ Below w1.heap.size w1 wr) (fun _ v21 _ => u.shared.length - (intOf v21).toNat)
    case atStart => exact ⟨0, rfl, by omega, OkRows.nil _ _ _ _ _, Below.refl _ _⟩
    case round =>
      obtain ⟨k, rfl, hk, hacc, hbel⟩ := hrel
      have hbs := hbel.size
      by_cases hlt : k < u.shared.length
      · have hk0 : (0 : Int) ≤ k := by omega
        have hkl : (k : Int) < u.shared.length := by omega
        have hmr := hm.below hbel hmlt
        have HA := Lib.hid (useA_lt hru (k : Int))
        have HB := Lib.hid (useB_lt (u := u) (k : Int))
        have hget := useF_ab (hitsU u) (k : Int)
        have HGET : Hid ((useF (hitsU u) (k : Int)).getD (.agg #[.int .u32 0, .int .u32 0]) = .agg #[.int .u32 (useA (touchU u k)), .int .u32 (useB (touchU u k))]) := hget
        have hTr : Hid (Tab wr) := (HT.out.below hw1).below hbel
        clear hget
        go_wp2_with (refine stop_lookup rfl ?_)
        refine Stop.intro ?_
        refine wp_lookup key_i Tryd.underlying109 rfl _ _ rfl mb (useF (hitsU u)) hmr (k : Int) rfl rfl (.agg #[.int .u32 0, .int .u32 0]) (zero_use _) ?_
        rw [HGET.out]
        go_wp2_with (first
          | (go_at_call 43; refine (guard_own _ _ HB.out _ hTr.out).mono ?_; rintro e w2 ⟨rv, rn, rfl, hrn, hro, hb2⟩; obtain ⟨rA, rc, rfl⟩ : ∃ A c, rv = .slice A rn c := (by obtain ⟨ys, hy⟩ := hro; obtain ⟨A, c, h, _⟩ := own_slice hy; exact ⟨A, c, h⟩))
          | (refine stop_append rfl ?_))
        refine Stop.intro ?_
        have hs2 := hb2.size
        have hacc2 := hacc.below hb2
        obtain ⟨ys, hy1, hy2⟩ := hacc2.far (Shape.alloc w2 (.cells #[.slice rA rn rc] 56)) (fun g hg => heap_alloc_old _ _ (hacc2.lt g hg).2)
        have hro2 := (hro.low hbs).shape (Shape.alloc w2 (.cells #[.slice rA rn rc] 56))
        have hv7 := hacc.lt
        refine app_one sl_ints rfl _ _ rfl w1.heap.size u8 _ ys rfl hy1 w2.heap.size 0 1 [.slice rA rn rc] rfl rfl (cell_new1 _ _ _ _ (by simp)) (by simp [Value.oneCell']) (by omega) (by decide) (by simp; omega) ?_
        intro v' w' hown4 hgr hob
        have hacc4 := OkRows.push hy1 hy2 int_ne_ints hro2 hrn hown4 hgr
        have hbel5 := ((hbel.trans (hb2.mono hbs)).alloc (by omega) (.cells #[.slice rA rn rc] 56)).grown hgr (by simp; omega) (fun j hj => (hv7 j hj).1)
        go_wp2_with fail
        go_roundw
        case rel => exact ⟨k + 1, by go_num, by omega, hacc4, hbel5⟩
        case measure => simp [intOf]; omega
      · obtain ⟨vA, vc, rfl⟩ := hacc.form
        go_wp2
        go_ret2
        exact ⟨_, k, 0, rfl, by omega, hacc.low hw1s, hw1.trans (hbel.mono hw1s)⟩
  · clear hc
    go_wp2
    go_ret2
    exact ⟨_, 0, 60, rfl, by omega, OkRows.nil _ _ _ _ _, (Below_alloc' _ _).trans (hb1.mono (by simp))⟩
set_option maxHeartbeats 2000000 in
theorem guards_own (u : Unit_) (cs : List Value) (w : World) (hT : Tab w) (hu : UnitV (cmap w) cs u) (hok : UOk u) :
    Calls Tryd.prog 21 #[.agg cs.toArray] w (OwnPost w) := by
  have hu0 := hu
  unfold OwnPost
  obtain ⟨sv, lv, gv, rfl, -⟩ := hu
  have HLD : Hid (∀ j v, ([sv, lv, gv] : List Value)[j]? = some v → (w.alloc (.cells #[sv, lv, gv] 25)).cell? ⟨w.heap.size, 0 + j, none⟩ = some v) := cell_newl w _ _ _ rfl
  have HT := Lib.hid (hT.alloc (.cells #[sv, lv, gv] 25)); clear hT
  go_enter Tryd.func21, Tryd.ntmps21
  go_wp2_with (first
    | (refine wpList_load_at rfl 25 _ rfl w.heap.size 0 rfl _ _ HLD.out Tryd.underlying25 rfl (by kernel_rfl) ?_))
  refine (told_guard_own u [sv, lv, gv] _ HT.out (hu0.mono (cmap_alloc _ _)) hok).mono ?_
  rintro e w1 ⟨v, n, er, rfl, hn, h1, hb1⟩
  obtain ⟨vA, vc, rfl⟩ := h1.form
  go_wp2
  go_ret2
  exact ⟨_, n, er, rfl, hn, h1.low (by simp), (Below_alloc' _ _).trans (hb1.mono (by simp))⟩
set_option maxRecDepth 100000 in
set_option maxHeartbeats 4000000 in
theorem lheld_own (u : Unit_) (cs : List Value) (t : Int) (w : World) (hT : Tab w) (hu : UnitV (cmap w) cs u) (hok : UOk u) :
    Calls Tryd.prog 22 #[.agg cs.toArray, .int .i64 t] w (OwnPost w) := by
  have hu0 := hu
  obtain ⟨sv, lv, gv, rfl, -⟩ := hu
  unfold OwnPost
  have HLD : Hid (∀ j v, ([sv, lv, gv] : List Value)[j]? = some v → (w.alloc (.cells #[sv, lv, gv] 25)).cell? ⟨w.heap.size, 0 + j, none⟩ = some v) := cell_newl w _ _ _ rfl
  have hb0 := Below_alloc' w (.cells #[sv, lv, gv] 25)
  have HT := Lib.hid hT; clear hT
  go_enter Tryd.func22, Tryd.ntmps22
  go_wp2_with (first
    | (refine wpList_load_at rfl 25 _ rfl w.heap.size 0 rfl _ _ HLD.out Tryd.underlying25 rfl (by kernel_rfl) ?_))
  refine (asked_calls u [sv, lv, gv] _ (hu0.mono (cmap_alloc _ _)) hok).mono ?_
  rintro e w1 (⟨hc, v, rfl, hlk, hb1⟩ | ⟨hc, rfl, hb1⟩)
  · have hru := checkF_none hc
    have HC := Lib.hid hc; clear hc
    obtain ⟨lA, lc, rfl, -⟩ := id hlk
    have hw1 : Below w.heap.size w w1 := hb0.trans (hb1.mono (by simp))
    have hw1s := hw1.size
    have hth := hru.threads
    by_cases ht : 0 ≤ t ∧ t < u.graphs.length
    · obtain ⟨k, rfl⟩ : ∃ n : Nat, t = n := ⟨t.toNat, by omega⟩
      have hkl : k < u.graphs.length := by omega
      have hk0 : (0 : Int) ≤ k := by omega
      have hkl2 : (k : Int) < u.graphs.length := by omega
      have HTT := Lib.hid ht; clear ht
      have d1 : decide ((k : Int) < 0) = false := by simp <;> omega
      have d2 : decide ((u.graphs.length : Int) ≤ (k : Int)) = false := by simp; omega
      have d2n : decide (u.graphs.length ≤ k) = false := by simp; omega
      obtain ⟨g, hgk⟩ : ∃ g, u.graphs[k]? = some g := ⟨_, List.getElem?_eq_getElem hkl⟩
      have hrg := hru.graphs g (List.mem_of_getElem? hgk)
      have hnm := hrg.whole.most
      have hHL := heldL_len hrg
      obtain ⟨bl, ol, rfl, hlv⟩ := hlk.at_ hgk
      obtain ⟨_, ⟨rv, hv, rl, rfl, -, -, -, hhv⟩, hlc⟩ := hlv
      have q1 : w1.cell? ⟨bl, ol + k * 2 + 1, none⟩ = some hv := part_le _ _ _ _ _ _ (hlc 1 _ rfl)
      obtain ⟨hA, hc, hve, -⟩ := id hhv
      rw [List.length_map] at hve
      subst hve
      obtain ⟨L, hLL⟩ : ∃ L, heldL g = L := ⟨_, rfl⟩
      have hrb : ∀ l ∈ L, hMask l < 65536 := fun l hl => hMask_lt l (fun x hx => by have := heldL_mem hrg (by rw [hLL]; exact hl) hx; have := hru.locks; omega)
      have HRB := Lib.hid hrb; clear hrb
      rw [hLL] at hhv q1 hHL
      have hLn : L.length ≤ 4096 := by omega
      clear hLL hHL hlc
      have HGK := Lib.hid hgk; clear hgk
      go_wp2
      go_loopw [8, 33] (fun v8 v33 wr => ∃ (i : Nat), v33 = .int .i64 i ∧ i ≤ L.length ∧ OkRows wr w1.heap.size 56 3 v8 i 16 ∧ Below w1.heap.size w1 wr) (fun _ v33 _ => L.length - (intOf v33).toNat)
      case atStart => exact ⟨0, rfl, by omega, OkRows.nil _ _ _ _ _, Below.refl _ _⟩
      case round =>
        obtain ⟨i, rfl, hi, hacc, hbel⟩ := hrel
        have hbs := hbel.size
        by_cases hlt : i < L.length
        · obtain ⟨l, hl⟩ : ∃ l, L[i]? = some l := ⟨_, List.getElem?_eq_getElem hlt⟩
          have hl2 : (L.map hMask)[i]? = some (hMask l) := by rw [List.getElem?_map, hl]; rfl
          obtain ⟨bh, oh, rfl, hcell⟩ := hhv.at_ hl2
          have q2 : wr.cell? ⟨bh, oh + i, none⟩ = some (.int .u32 (hMask l : Nat)) := by have := cmap_below hbel _ _ _ (part_le _ _ _ _ _ _ hcell); rwa [Nat.mul_one] at this
          have hlm := HRB.out l (List.mem_of_getElem? hl)
          have hTr : Hid (Tab wr) := (HT.out.below hw1).below (hbel.mono (Nat.le_refl _))
          have HLM := Lib.hid hlm; clear hlm hl hl2 hcell
          have hi0 : (0 : Int) ≤ i := by omega
          have hil : (i : Int) < L.length := by omega
          go_wp2_with (first
            | (go_at_call 45; refine (list_calls _ HLM.out _ hTr.out).mono ?_; rintro e w2 ⟨rv2, rfl, hro0, hb2⟩; obtain ⟨rA, rc, rfl, -⟩ := own_slice hro0)
            | (refine stop_append rfl ?_))
          refine Stop.intro ?_
          have hs2 := hb2.size
          have hro : OkRow w2 wr.heap.size 3 1 _ _ := ⟨_, hro0⟩
          have hrn : (bitsUp (hMask l)).length ≤ 16 := up_length _
          generalize (bitsUp (hMask l)).length = rn at *
          have hacc2 := hacc.below hb2
          obtain ⟨ys, hy1, hy2⟩ := hacc2.far (Shape.alloc w2 (.cells #[.slice rA rn rc] 56)) (fun g hg => heap_alloc_old _ _ (hacc2.lt g hg).2)
          have hro2 := (hro.low hbs).shape (Shape.alloc w2 (.cells #[.slice rA rn rc] 56))
          have hv7 := hacc.lt
          refine app_one sl_ints rfl _ _ rfl w1.heap.size u8 _ ys rfl hy1 w2.heap.size 0 1 [.slice rA rn rc] rfl rfl (cell_new1 _ _ _ _ (by simp)) (by simp [Value.oneCell']) (by omega) (by decide) (by simp; omega) ?_
          intro v' w' hown4 hgr hob
          have hacc4 := OkRows.push hy1 hy2 int_ne_ints hro2 hrn hown4 hgr
          have hbel5 := ((hbel.trans (hb2.mono hbs)).alloc (by omega) (.cells #[.slice rA rn rc] 56)).grown hgr (by simp; omega) (fun j hj => (hv7 j hj).1)
          go_wp2_with fail
          go_roundw
          case rel => exact ⟨i + 1, by go_num, by omega, hacc4, hbel5⟩
          case measure => simp [intOf]; omega
        · obtain ⟨vA, vc, rfl⟩ := hacc.form
          go_wp2
          go_ret2
          exact ⟨_, i, 0, rfl, by omega, hacc.low hw1s, hw1.trans (hbel.mono hw1s)⟩
    · have hsplit : t < 0 ∨ (0 ≤ t ∧ (u.graphs.length : Int) ≤ t) := by omega
      have HTT := Lib.hid ht; clear ht
      rcases hsplit with h | h
      · have d1 : decide (t < 0) = true := by simp; omega
        clear h
        go_wp2
        go_ret2
        exact ⟨_, 0, 2, rfl, by omega, OkRows.nil _ _ _ _ _, hw1⟩
      · have d1 : decide (t < 0) = false := by simp; omega
        have d2 : decide ((u.graphs.length : Int) ≤ t) = true := by simp; omega
        clear h
        go_wp2
        go_ret2
        exact ⟨_, 0, 2, rfl, by omega, OkRows.nil _ _ _ _ _, hw1⟩
  · have HC := Lib.hid hc; clear hc
    go_wp2
    go_ret2
    exact ⟨_, 0, 60, rfl, by omega, OkRows.nil _ _ _ _ _, hb0.trans (hb1.mono (by simp))⟩
set_option maxRecDepth 100000 in
set_option maxHeartbeats 4000000 in
theorem told_class_own (u : Unit_) (cs : List Value) (w : World) (hT : Tab w) (hu : UnitV (cmap w) cs u) (hok : UOk u) :
    Calls Tryd.prog 29 #[.agg cs.toArray, .func (.func 30) #[] #[]] w (OwnPost1 w) := by
  have hu0 := hu
  unfold OwnPost1
  obtain ⟨sv, lv, gv, rfl, hs, hl, hg⟩ := hu
  obtain ⟨sA, sc, rfl, -⟩ := id hs
  have bs := hs.len.2.2
  have hbx := Blk.new w 25 [.slice sA u.shared.length sc, lv, gv]
  have HLD : Hid (∀ j v, ([.slice sA u.shared.length sc, lv, gv] : List Value)[j]? = some v → (w.alloc (.cells #[.slice sA u.shared.length sc, lv, gv] 25)).cell? ⟨w.heap.size, 0 + j, none⟩ = some v) := cell_newl w _ _ _ rfl
  have HT := Lib.hid hT; clear hT
  go_enter Tryd.func29, Tryd.ntmps29
  go_wp2_with (first
    | (refine wpList_load_at rfl 25 _ rfl w.heap.size 0 rfl _ _ HLD.out Tryd.underlying25 rfl (by kernel_rfl) ?_))
  refine (gather_calls u [.slice sA u.shared.length sc, lv, gv] _ (hu0.mono (cmap_alloc _ _)) hok).mono ?_
  rintro e w1 (⟨hc, mb, rfl, hm, hmb, hb1⟩ | ⟨hc, rfl, hb1⟩)
  · have hru := checkF_none hc
    have HC := Lib.hid hc; clear hc
    have hbx1 := hbx.below hb1 hbx.lt
    have hw1 : Below w.heap.size w w1 := (Below_alloc' _ _).trans (hb1.mono (by simp))
    have hw1s := hw1.size
    have hcx0 := hbx1.cell 0
    have hz := hru.shared
    have hmlt := hm.lt
    go_wp2
    go_loopw [8, 21] (fun v8 v21 wr => ∃ (k : Nat), v21 = .int .i64 k ∧ k ≤ u.shared.length ∧ OkRow wr w1.heap.size 45 3 v8 k ∧ Below w1.heap.size w1 wr) (fun _ v21 _ => u.shared.length - (intOf v21).toNat)
    case atStart => exact ⟨0, rfl, by omega, ⟨[], World.ownsRow_nil _ _ _ _⟩, Below.refl _ _⟩
    case round =>
      obtain ⟨k, rfl, hk, hacc, hbel⟩ := hrel
      have hbs := hbel.size
      by_cases hlt : k < u.shared.length
      · have hk0 : (0 : Int) ≤ k := by omega
        have hkl : (k : Int) < u.shared.length := by omega
        have hmr := hm.below hbel hmlt
        have hcb := cls_bits hru (k : Int)
        have HA := Lib.hid (useA_lt hru (k : Int))
        have HB := Lib.hid (useB_lt (u := u) (k : Int))
        have hget := useF_ab (hitsU u) (k : Int)
        have HGET : Hid ((useF (hitsU u) (k : Int)).getD (.agg #[.int .u32 0, .int .u32 0]) = .agg #[.int .u32 (useA (touchU u k)), .int .u32 (useB (touchU u k))]) := hget
        have hTr : Hid (Tab wr) := (HT.out.below hw1).below hbel
        clear hget
        obtain ⟨c0, hc0⟩ : ∃ c, classF u (k : Int) = c := ⟨_, rfl⟩
        rw [hc0] at hcb
        have HCB := Lib.hid hcb; clear hcb
        have HC0 := Lib.hid hc0; clear hc0
        obtain ⟨c1, c2, c3⟩ := c0
        go_wp2_with (refine stop_lookup rfl ?_)
        refine Stop.intro ?_
        refine wp_lookup key_i Tryd.underlying109 rfl _ _ rfl mb (useF (hitsU u)) hmr (k : Int) rfl rfl (.agg #[.int .u32 0, .int .u32 0]) (zero_use _) ?_
        rw [HGET.out]
        go_wp2_with (first
          | (go_at_call 30; refine (class_calls _ _ HA.out HB.out _ hTr.out).mono ?_; rintro e w2 ⟨rfl, hb2⟩; rw [HCB.out]; unfold Cls.cells)
          | (refine stop_append rfl ?_))
        refine Stop.intro ?_
        have hs2 := hb2.size
        obtain ⟨ys, hy1⟩ := (hacc.shape (Shape.below hb2)).shape (Shape.alloc w2 (.cells #[.int .u8 c1, .int .i64 c2, .int .i64 c3] 45))
        have hv7 := hacc
        obtain ⟨ys0, hy0⟩ := hv7
        refine app_one sl_class rfl _ _ rfl w1.heap.size u8 _ ys rfl hy1 w2.heap.size 0 1 [.int .u8 c1, .int .i64 c2, .int .i64 c3] rfl rfl (cell_newl _ _ _ _ rfl) (by simp [Value.oneCell']) (by omega) (by decide) (by simp; omega) ?_
        intro v' w' hown4 hgr hob
        have hbel5 := ((hbel.trans (hb2.mono hbs)).alloc (by omega) (.cells #[.int .u8 c1, .int .i64 c2, .int .i64 c3] 45)).grown hgr (by simp; omega) (fun j hj => (hy0.lt j hj).1)
        go_wp2_with fail
        go_roundw
        case rel => exact ⟨k + 1, by go_num, by omega, ⟨_, hown4⟩, hbel5⟩
        case measure => simp [intOf]; omega
      · obtain ⟨ys0, hy0⟩ := id hacc
        obtain ⟨vA, vc, rfl, -⟩ := own_slice hy0
        go_wp2
        go_ret2
        exact ⟨_, k, 0, rfl, by omega, hacc.low hw1s, hw1.trans (hbel.mono hw1s)⟩
  · clear hc
    go_wp2
    go_ret2
    exact ⟨_, 0, 60, rfl, by omega, ⟨[], World.ownsRow_nil _ _ _ _⟩, (Below_alloc' _ _).trans (hb1.mono (by simp))⟩
set_option maxHeartbeats 2000000 in
theorem classes_own (u : Unit_) (cs : List Value) (w : World) (hT : Tab w) (hu : UnitV (cmap w) cs u) (hok : UOk u) :
    Calls Tryd.prog 11 #[.agg cs.toArray] w (OwnPost1 w) := by
  have hu0 := hu
  unfold OwnPost1
  obtain ⟨sv, lv, gv, rfl, -⟩ := hu
  have HLD : Hid (∀ j v, ([sv, lv, gv] : List Value)[j]? = some v → (w.alloc (.cells #[sv, lv, gv] 25)).cell? ⟨w.heap.size, 0 + j, none⟩ = some v) := cell_newl w _ _ _ rfl
  have HT := Lib.hid (hT.alloc (.cells #[sv, lv, gv] 25)); clear hT
  go_enter Tryd.func11, Tryd.ntmps11
  go_wp2_with (first
    | (refine wpList_load_at rfl 25 _ rfl w.heap.size 0 rfl _ _ HLD.out Tryd.underlying25 rfl (by kernel_rfl) ?_))
  refine (told_class_own u [sv, lv, gv] _ HT.out (hu0.mono (cmap_alloc _ _)) hok).mono ?_
  rintro e w1 ⟨v, n, er, rfl, hn, h1, hb1⟩
  obtain ⟨ys0, hy0⟩ := id h1
  obtain ⟨vA, vc, rfl, -⟩ := own_slice hy0
  go_wp2
  go_ret2
  exact ⟨_, n, er, rfl, hn, h1.low (by simp), (Below_alloc' _ _).trans (hb1.mono (by simp))⟩
end Go.Proofs.YtpaieopclpddnaaDoor
