import Derived.Test.YtmkpjiahkepigaaGreatP103
import Derived.Test.YtmkpjiahkepigaaGreatP94
import Derived.Test.YtmkpjiahkepigaaGreatP72
/- What SourceOwn asks of nil; rows that are handed out and may be written. -/
namespace Go.Proofs.YtmkpjiahkepigaaGreat
open Go Go.RowKit
theorem partP_mono {w : World} {lo lo' hi : Nat} (h : lo' ≤ lo) : (partP w lo hi).le (partP w lo' hi) := fun b o v hv => by
  obtain ⟨h1, h2, h3, h4⟩ := partP_at hv
  exact partP_mk h1 (by omega) h3 h4
theorem PlainB.frozen {w : World} {b : Nat} (h : PlainB w b) (o : Nat) : w.frozen? ⟨b, o, none⟩ = false := by
  obtain ⟨c, T, h⟩ := h
  simp [World.frozen?, h]
section
variable {P : Program}
theorem run_storeVar_part (w : World) (g o : Nat) (t ty : TypeId) (cur cells : Array Value) (hg : w.heap[g]? = some (.cells cur t (0, 0))) (hi : (P.info? ty).map (·.size) = some cells.size) (ho : o + cells.size ≤ cur.size) (h1 : cells.all (·.oneCell') = true) :
    ∃ row : Array Value, row.size = cur.size ∧ (storeVar ty ⟨g, o, none⟩ (.agg cells)).run P w = .ok () (w.setRow g row) := by
  obtain ⟨row, hrow, this⟩ : ∃ row : Array Value, row.size = cur.size ∧ (storeCells ⟨g, o, none⟩ cells.toList 0).run P w = .ok () (w.setRow g row) :=
    ⟨_, by simp; omega, run_storeCells_at P g o t cells.toList 0 cur w hg (by simp; omega) (fun v hv => (Array.all_eq_true_iff_forall_mem.1 h1) v (by simpa using hv))⟩
  refine ⟨row, hrow, ?_⟩
  cases hq : P.info? ty with
  | none => simp [hq] at hi
  | some i =>
    have hs : cells.size = i.size := by simp [hq] at hi; omega
    simp [storeVar, sizeOf, typeInfo, hq, Value.cells, hs, this]
theorem wpList_store_part {ops : Array Oper} {rest : List Oper} {o : Oper} {a : Act} {w : World} {Q : Exit → Act → World → Prop} (hgd : o.guard = none) (ty : TypeId) (x y : Operand) (ho : o.op = .store ty x y)
    (g f : Nat) (cells : Array Value) (hx : a.eval x = .pointer (some ⟨g, f, none⟩)) (hy : a.eval y = .agg cells) (t : TypeId) (cur : Array Value) (hg : w.heap[g]? = some (.cells cur t (0, 0))) (hi : (P.info? ty).map (·.size) = some cells.size)
    (hold : f + cells.size ≤ cur.size) (h1 : cells.all (·.oneCell') = true) (h : ∀ row : Array Value, row.size = cur.size → wpList P ops Q rest (a.put o.dst undef) (w.setRow g row)) : wpList P ops Q (o :: rest) a w := by
  obtain ⟨row, hr, hrun⟩ := run_storeVar_part (P := P) w g f t ty cur cells hg hi hold h1
  refine wpList_plain hgd fun K hK => ?_
  unfold Oper.wp execOp
  simp only [ho, hx, hy, Instr.storeAt, Instr.sureAddr, Sem.run_bind, Sem.run_pure, Result.andThen_ok, hrun]
  exact hK _ _ (h row hr)
end
set_option maxHeartbeats 400000 in
theorem clone_i64P {A : Option Addr} {n c : Nat} {l : List Int} (w : World) (h : Sl IntC 1 (cmap w) (.slice A n c) l) (hb : n * 8 ≤ 140737488355328) :
    Calls Tryz.prog 48 #[.slice A n c] w fun e w' => ∃ A' c', e = .returned (.slice A' n c') ∧ Sl IntC 1 (partP w' w.heap.size w'.heap.size) (.slice A' n c') l ∧ Below w.heap.size w w' := by
  have hq := fun (w : World) => Lib.run_eql_slice_nil w 32 _ A n c 0 0 Tryz.underlying32
  cases A with
  | none =>
    obtain ⟨A', c', he, hl1, ⟨-, h3⟩, -⟩ := id h
    injection he with e1 e2 e3
    subst e1 e3
    have hc := h3 rfl
    have hl0 : l = [] := List.eq_nil_of_length_eq_zero (by omega)
    subst hl0
    obtain rfl : n = 0 := e2
    subst hc
    simp only [Option.isNone_none] at hq
    clear h h3 hl1 hb
    go_enter Tryz.func48, Tryz.ntmps48
    go_wp2
    go_ret
    exact ⟨none, 0, rfl, ⟨none, 0, rfl, Nat.le_refl _, ⟨by simp [maxLen], fun _ => rfl⟩, .inl rfl⟩, Below.refl _ _⟩
  | some A =>
    go_enter Tryz.func48, Tryz.ntmps48
    go_wp2_with (refine stop_append rfl ?_)
    refine Stop.intro ?_
    refine app_copyp row_int sl_i64 rfl _ _ rfl ⟨w.heap.size, 0, none⟩ rfl (some A) n c l rfl (h.mono (cmap_below (Below_alloc w _))) hb ?_
    intro A' c' w' hs hb'
    have HS := Lib.hid (And.intro hs hb')
    clear hs hb'
    go_wp2
    go_ret
    exact ⟨A', c', rfl, HS.out.1.mono (partP_mono (by simp)), (Below_alloc w _).trans (HS.out.2.mono (by simp))⟩
set_option maxHeartbeats 400000 in
theorem clone_printP {A : Option Addr} {n c : Nat} {l : List (Int × Int)} (w : World) (h : Sl PrintC 2 (cmap w) (.slice A n c) l) (hb : n * 16 ≤ 140737488355328) :
    Calls Tryz.prog 49 #[.slice A n c] w fun e w' => ∃ A' c', e = .returned (.slice A' n c') ∧ Sl PrintC 2 (partP w' w.heap.size w'.heap.size) (.slice A' n c') l ∧ Below w.heap.size w w' := by
  have hq := fun (w : World) => Lib.run_eql_slice_nil w 33 _ A n c 0 0 Tryz.underlying33
  cases A with
  | none =>
    obtain ⟨A', c', he, hl1, ⟨-, h3⟩, -⟩ := id h
    injection he with e1 e2 e3
    subst e1 e3
    have hc := h3 rfl
    have hl0 : l = [] := List.eq_nil_of_length_eq_zero (by omega)
    subst hl0
    obtain rfl : n = 0 := e2
    subst hc
    simp only [Option.isNone_none] at hq
    clear h h3 hl1 hb
    go_enter Tryz.func49, Tryz.ntmps49
    go_wp2
    go_ret
    exact ⟨none, 0, rfl, ⟨none, 0, rfl, Nat.le_refl _, ⟨by simp [maxLen], fun _ => rfl⟩, .inl rfl⟩, Below.refl _ _⟩
  | some A =>
    go_enter Tryz.func49, Tryz.ntmps49
    go_wp2_with (refine stop_append rfl ?_)
    refine Stop.intro ?_
    refine app_copyp row_print sl_print rfl _ _ rfl ⟨w.heap.size, 0, none⟩ rfl (some A) n c l rfl (h.mono (cmap_below (Below_alloc w _))) hb ?_
    intro A' c' w' hs hb'
    have HS := Lib.hid (And.intro hs hb')
    clear hs hb'
    go_wp2
    go_ret
    exact ⟨A', c', rfl, HS.out.1.mono (partP_mono (by simp)), (Below_alloc w _).trans (HS.out.2.mono (by simp))⟩
section
variable {w w' : World} {R : Nat → Prop} {g : Nat} {L : Lay} {u : Unit_} {m : Mach}
theorem memoryP_calls (h : MachB w R g L u m) (hb : m.mem.length * 8 ≤ 140737488355328) :
    Calls Tryz.prog 23 #[.pointer (some ⟨g, 0, none⟩)] w fun e w' => ∃ A c, e = .returned (.slice A m.mem.length c) ∧ Ints (partP w' w.heap.size w'.heap.size) (.slice A m.mem.length c) m.mem ∧ Below w.heap.size w w' := by
  have hs := h.memSl
  obtain ⟨A, c, hA⟩ := h.mvf
  have g5 : w.cell? ⟨g, 5, none⟩ = some (.slice A m.mem.length c) := by rw [h.cell 5, ← hA]; rfl
  rw [hA] at hs
  have HC := Lib.hid (clone_i64P w hs hb)
  clear hs h hA hb
  go_enter Tryz.func23, Tryz.ntmps23
  go_wp2_with fail
  refine HC.out.mono ?_
  rintro e w1 ⟨A', c', rfl, h1, h2⟩
  go_wp2
  go_ret
  exact ⟨A', c', rfl, h1, h2⟩
theorem printsP_calls (h : MachB w R g L u m) (hb : m.prints.length * 16 ≤ 140737488355328) :
    Calls Tryz.prog 26 #[.pointer (some ⟨g, 0, none⟩)] w fun e w' => ∃ A c, e = .returned (.slice A m.prints.length c) ∧ PrintsV (partP w' w.heap.size w'.heap.size) (.slice A m.prints.length c) m.prints ∧ Below w.heap.size w w' := by
  have hs := h.printSl
  obtain ⟨A, c, hA⟩ := h.pvf
  have g7 : w.cell? ⟨g, 7, none⟩ = some (.slice A m.prints.length c) := by rw [h.cell 7, ← hA]; rfl
  rw [hA] at hs
  have HC := Lib.hid (clone_printP w hs hb)
  clear hs h hA hb
  go_enter Tryz.func26, Tryz.ntmps26
  go_wp2_with fail
  refine HC.out.mono ?_
  rintro e w1 ⟨A', c', rfl, h1, h2⟩
  go_wp2
  go_ret
  exact ⟨A', c', rfl, h1, h2⟩
set_option maxRecDepth 100000 in
set_option maxHeartbeats 1000000 in
theorem slotsP_calls (t : Int) (h : MachB w R g L u m) (hok : MachOk u m) (hz : SizeU u) :
    Calls Tryz.prog 24 #[.pointer (some ⟨g, 0, none⟩), .int .i64 t] w fun e w' => ∃ A c, e = .returned (.slice A (m.slotsOf t).length c) ∧ Ints (partP w' w.heap.size w'.heap.size) (.slice A (m.slotsOf t).length c) (m.slotsOf t) ∧ Below w.heap.size w w' := by
  by_cases hr : 0 ≤ t ∧ t < m.at_.length
  · have hd : decide (0 ≤ t ∧ t < m.at_.length) = true := decide_eq_true hr
    obtain ⟨k, rfl⟩ := Int.eq_ofNat_of_zero_le hr.1
    have hkl : k < m.slots.length := by rw [hok.slots, ← hok.at_]; omega
    obtain ⟨l, hl⟩ : ∃ l, m.slots[k]? = some l := ⟨_, List.getElem?_eq_getElem hkl⟩
    have hw : m.slotsOf k = l := by unfold Mach.slotsOf; rw [if_pos hr, Int.toNat_natCast, hl]; rfl
    rw [hw]
    obtain ⟨ob, oo, oc, kb, hov, a1, hk', hB, -, -⟩ := h.slotsAt hl
    have hll := slots_le hok hz l (List.mem_of_getElem? hl)
    have hsl := h.slotSl hk' hl (by unfold maxLen; omega)
    have g4 : w.cell? ⟨g, 4, none⟩ = some (.slice (some ⟨ob, oo, none⟩) m.slots.length oc) := by rw [h.cell 4, ← hov]; rfl
    have i0 : (0 : Int) ≤ k := by omega
    have i1 : (k : Int) < m.slots.length := by omega
    have HT := Lib.hid (And.intro (there_calls (k : Int) h) hd)
    have HS := Lib.hid (And.intro hsl hll)
    clear h hd hl hr hkl hw hov hk' hB hsl hok hz hll
    go_enter Tryz.func24, Tryz.ntmps24
    go_wp2_with fail
    refine HT.out.1.mono ?_
    rintro e w1 ⟨rfl, q1, rfl⟩
    rw [HT.out.2]
    have HC := Lib.hid (clone_i64P (w.drewN q1) (HS.out.1.mono (cmap_below (Below_drewN w q1))) (by have := HS.out.2; omega))
    have g4' : (w.drewN q1).cell? ⟨g, 4, none⟩ = some (.slice (some ⟨ob, oo, none⟩) m.slots.length oc) := g4
    have a1' : (w.drewN q1).cell? ⟨ob, oo + k, none⟩ = some (.slice (some ⟨kb, 0, none⟩) l.length l.length) := a1
    go_wp2_with fail
    refine HC.out.mono ?_
    rintro e w1 ⟨A', c', rfl, h1, h2⟩
    have HF := Lib.hid (And.intro (h1) ((Below_drewN w q1).trans (h2.mono (Below_drewN w q1).size)))
    clear h1 h2
    go_wp2
    go_ret
    exact ⟨A', c', rfl, HF.out.1, HF.out.2⟩
  · have hd : decide (0 ≤ t ∧ t < m.at_.length) = false := decide_eq_false hr
    have hw : m.slotsOf t = [] := by unfold Mach.slotsOf; rw [if_neg hr]
    rw [hw]
    have HT := Lib.hid (And.intro (there_calls t h) hd)
    clear h hd hr hw hok hz
    go_enter Tryz.func24, Tryz.ntmps24
    go_wp2_with fail
    refine HT.out.1.mono ?_
    rintro e w1 ⟨rfl, q1, rfl⟩
    rw [HT.out.2]
    go_wp2
    go_ret
    exact ⟨none, 0, rfl, ⟨none, 0, rfl, Nat.le_refl _, ⟨by unfold maxLen; omega, fun _ => rfl⟩, .inl rfl⟩, Below_drewN w q1⟩
end
theorem memory_nil (w : World) : Calls Tryz.prog 23 #[.pointer none] w fun e w' => e = .returned (.slice none 0 0) ∧ w' = w := by
  go_enter Tryz.func23, Tryz.ntmps23
  go_wp2
  go_ret
  exact ⟨rfl, rfl⟩
theorem prints_nil (w : World) : Calls Tryz.prog 26 #[.pointer none] w fun e w' => e = .returned (.slice none 0 0) ∧ w' = w := by
  go_enter Tryz.func26, Tryz.ntmps26
  go_wp2
  go_ret
  exact ⟨rfl, rfl⟩
theorem copy_nil (w : World) : Calls Tryz.prog 18 #[.pointer none] w fun e w' => e = .returned (.pointer none) ∧ w' = w := by
  go_enter Tryz.func18, Tryz.ntmps18
  go_wp2
  go_ret
  exact ⟨rfl, rfl⟩
theorem key_nil (w : World) : Calls Tryz.prog 27 #[.pointer none] w fun e w' => e = .returned (.string ⟨#[]⟩) ∧ w' = w := by
  go_enter Tryz.func27, Tryz.ntmps27
  go_wp2
  go_ret
  exact ⟨rfl, rfl⟩
theorem slots_nil (t : Int) (w : World) : Calls Tryz.prog 24 #[.pointer none, .int .i64 t] w fun e w' => e = .returned (.slice none 0 0) ∧ ∃ q, w' = w.drewN q := by
  have HT := Lib.hid (there_nil t w)
  go_enter Tryz.func24, Tryz.ntmps24
  go_wp2_with fail
  refine HT.out.mono ?_
  rintro e w1 ⟨rfl, q1, rfl⟩
  go_wp2
  go_ret
  exact ⟨rfl, q1, rfl⟩
theorem adv_nil (v : Value) (t most : Int) (w : World) : Calls Tryz.prog 17 #[.pointer none, .int .i64 t, v, .int .i64 most] w fun e w' => e = .returned (.tuple #[.int .i64 0, .int .i64 1]) ∧ w' = w := by
  go_enter Tryz.func17, Tryz.ntmps17
  go_wp2
  go_ret2
  exact ⟨rfl, rfl⟩
set_option maxRecDepth 100000 in
set_option maxHeartbeats 1000000 in
theorem step_nil (t : Int) (w : World) : Calls Tryz.prog 10 #[.pointer none, .int .i64 t] w fun e w' => e = .returned (.tuple #[.agg #[.int .i64 0, .int .i64 0, .int .u8 0, .int .i64 0, .int .i64 0, .int .i64 0], .int .i64 1]) ∧ Below w.heap.size w w' := by
  have HN := Lib.hid (fun w => bar_nil t w)
  go_enter Tryz.func10, Tryz.ntmps10
  go_wp2_with fail
  refine (HN.out _).mono ?_
  rintro e w1 ⟨rfl, hw1⟩
  have hbw : Below w.heap.size w w1 := by rw [hw1]; exact Below_alloc' w _
  have hr0 : Blk w1 w.heap.size 41 [.int .i64 0, .int .i64 0, .int .u8 0, .int .i64 0, .int .i64 0, .int .i64 0] := by rw [hw1]; exact Blk.new w _ _
  have HW := Lib.hid (And.intro hbw hr0)
  clear hbw hr0 hw1
  go_wp2_with (first
    | (refine (stop_store 41 rfl ?_)))
  refine Stop.intro ?_
  refine wpList_store_rowTo rfl 41 _ _ rfl rfl w.heap.size #[.int .i64 0, .int .i64 0, .int .u8 0, .int .i64 0, .int .i64 0, .int .i64 0] rfl rfl 41 _ HW.out.2 (by kernel_rfl) rfl (by simp [Value.oneCell']) ?_
  have hrB := HW.out.2.setRow (cs' := [.int .i64 0, .int .i64 0, .int .u8 0, .int .i64 0, .int .i64 0, .int .i64 0])
  have hload := run_loadVar_at (P := Tryz.prog) (w1.setRow w.heap.size #[.int .i64 0, .int .i64 0, .int .u8 0, .int .i64 0, .int .i64 0, .int .i64 0]) w.heap.size 0 41 [.int .i64 0, .int .i64 0, .int .u8 0, .int .i64 0, .int .i64 0, .int .i64 0] _ (fun j v hv => by rw [Nat.zero_add, hrB.cell]; exact hv) Tryz.underlying41 rfl (by kernel_rfl)
  have HZ := Lib.hid hrB; clear hrB
  go_wp2
  refine bodyPost_ret (v := .tuple #[.agg #[.int .i64 0, .int .i64 0, .int .u8 0, .int .i64 0, .int .i64 0, .int .i64 0], .int .i64 1]) (by simp [results, Tryz.results10, asAddr, hload]) rfl ⟨rfl, ?_⟩
  exact below_row HW.out.1 (Nat.le_refl _) _
end Go.Proofs.YtmkpjiahkepigaaGreat
/- A unit of the law's own, whose declarations and nodes are written over. -/
namespace Go.Proofs.YtmkpjiahkepigaaGreat
open Go Go.RowKit
/-- Block b has n cells that may be written. -/
def Wr (w : World) (b n : Nat) : Prop := ∃ cur T, w.heap[b]? = some (.cells cur T (0, 0)) ∧ n ≤ cur.size
theorem Wr.of {w w' : World} {b n : Nat} (h : Wr w b n) (e : w'.heap[b]? = w.heap[b]?) : Wr w' b n := by obtain ⟨c, T, h1, h2⟩ := h; exact ⟨c, T, e.trans h1, h2⟩
theorem Wr.mk {w : World} {b o : Nat} {v : Value} (h : w.cell? ⟨b, o, none⟩ = some v) (hp : PlainB w b) : Wr w b (o + 1) := by
  obtain ⟨c, T, hc⟩ := hp
  refine ⟨c, T, hc, ?_⟩
  simp only [World.cell?, hc] at h
  exact (Array.getElem?_eq_some_iff.1 h).1
structure OwnU (B K : Nat) (w : World) (sA gA : Option Addr) (u : Unit_) : Prop where
  sh : ∀ i, i < u.shared.length → ∃ b o, sA = some ⟨b, o, none⟩ ∧ B ≤ b ∧ b < K ∧ gA.map (·.block) ≠ some b ∧ Wr w b (o + i * 3 + 3)
  gr : ∀ i g, u.graphs[i]? = some g → ∃ gb A c, gA = some ⟨gb, 0, none⟩ ∧ gb < K ∧ w.cell? ⟨gb, i * 4 + 3, none⟩ = some (.slice A g.nodes.length c) ∧ ∀ j, j < g.nodes.length → ∃ b o, A = some ⟨b, o, none⟩ ∧ B ≤ b ∧ b < K ∧ gb ≠ b ∧ Wr w b (o + j * 13 + 13)
section
variable {B K : Nat} {w w' : World} {sA gA : Option Addr} {u : Unit_}
theorem OwnU.fr (h : OwnU B K w sA gA u) (hf : ∀ q, q < K → w'.heap[q]? = w.heap[q]?) : OwnU B K w' sA gA u := by
  refine ⟨fun i hi => ?_, fun i g hg => ?_⟩
  · obtain ⟨b, o, h1, h2, h3, h4, h5⟩ := h.sh i hi
    exact ⟨b, o, h1, h2, h3, h4, h5.of (hf b h3)⟩
  · obtain ⟨gb, A, c, h1, h2, h3, h4⟩ := h.gr i g hg
    refine ⟨gb, A, c, h1, h2, (World.cell?_of_block (a := ⟨gb, i * 4 + 3, none⟩) (hf gb h2)).trans h3, fun j hj => ?_⟩
    obtain ⟨b, o, k1, k2, k3, k4, k5⟩ := h4 j hj
    exact ⟨b, o, k1, k2, k3, k4, k5.of (hf b k3)⟩
theorem Wr.row {b n q : Nat} {cur row : Array Value} {T : TypeId} (h : Wr w b n) (hq : w.heap[q]? = some (.cells cur T (0, 0))) (hr : row.size = cur.size) : Wr (w.setRow q row) b n := by
  by_cases e : b = q
  · subst e
    obtain ⟨c, T', h1, h2⟩ := h
    rw [hq] at h1
    injection h1 with h1
    injection h1 with h1 _ _
    subst h1
    exact ⟨row, T, setRow_heap w b cur _ T _ hq, by omega⟩
  · exact h.of (heap_setRow_ne e _)
theorem OwnU.put (h : OwnU B K w sA gA u) {b : Nat} {cur row : Array Value} {T : TypeId} (hb : w.heap[b]? = some (.cells cur T (0, 0))) (hr : row.size = cur.size) (hne : gA.map (·.block) ≠ some b) : OwnU B K (w.setRow b row) sA gA u := by
  refine ⟨fun i hi => ?_, fun i g hg => ?_⟩
  · obtain ⟨q, o, h1, h2, h3, h4, h5⟩ := h.sh i hi
    exact ⟨q, o, h1, h2, h3, h4, h5.row hb hr⟩
  · obtain ⟨gb, A, c, h1, h2, h3, h4⟩ := h.gr i g hg
    have hgb : gb ≠ b := fun e => by subst e; rw [h1] at hne; exact hne rfl
    refine ⟨gb, A, c, h1, h2, (World.cell?_of_block (a := ⟨gb, i * 4 + 3, none⟩) (heap_setRow_ne hgb _)).trans h3, fun j hj => ?_⟩
    obtain ⟨q, o, k1, k2, k3, k4, k5⟩ := h4 j hj
    exact ⟨q, o, k1, k2, k3, k4, k5.row hb hr⟩
end
theorem UnitAccP.own {base : Nat} {w : World} {cs : List Value} {u : Unit_} (h : UnitAccP base w cs u) : ∃ sA sc lv gA gc, cs = [.slice sA u.shared.length sc, lv, .slice gA u.graphs.length gc] ∧ OwnU base w.heap.size w sA gA u := by
  obtain ⟨sv, lv, gv, D, S, rfl, h1, h2, h3, h4, h5, h6⟩ := h
  obtain ⟨sA, sc, rfl, -⟩ := id h1
  obtain ⟨gA, gc, rfl, -⟩ := h3.form
  refine ⟨sA, sc, lv, gA, gc, rfl, fun i hi => ?_, fun i g hg => ?_⟩
  · obtain ⟨d, hd⟩ : ∃ d, u.shared[i]? = some d := ⟨_, List.getElem?_eq_getElem hi⟩
    obtain ⟨b, o, rfl, hx⟩ := h1.at_ hd
    obtain ⟨q1, q2⟩ := on_at (row_decl.dn _ _ _ _ hx 2 _ rfl)
    have hD := h4 b q2
    refine ⟨b, o, rfl, hD.1, hD.2.1, ?_, Wr.mk q1 (h5 b q2)⟩
    cases gA with
    | none => simp
    | some a => intro e; exact hD.2.2 e.symm
  · obtain ⟨rows, r1, r2, r3, r4⟩ := h3.ex
    have hil := (List.getElem?_eq_some_iff.1 hg).1
    have hi' : i < rows.length := by omega
    have hr : rows[i]? = some rows[i] := List.getElem?_eq_getElem hi'
    have hrl := r3 _ (List.mem_of_getElem? hr)
    obtain ⟨nv, hcs, hn⟩ := r4 i _ g hr hg
    rcases r1.2 with ⟨e0, h0⟩ | ⟨gb, cap, cur, e0, hb, hh, hnc, hcm, _⟩
    · omega
    · injection e0 with e1 e2 e3
      subst e1
      obtain ⟨A, c, rfl, -⟩ := id hn
      have hc : w.cell? ⟨gb, i * 4 + 3, none⟩ = some (.slice A g.nodes.length c) := by
        have hle : i * 4 + 3 < u.graphs.length * 4 := by omega
        rw [r1.cellAt _ hle]
        exact flatten_at rows 4 i _ r3 hr 3 _ (by rw [hcs]; rfl)
      refine ⟨gb, A, c, rfl, lt_of_block hh, hc, fun j hj => ?_⟩
      obtain ⟨nd, hnd⟩ : ∃ nd, g.nodes[j]? = some nd := ⟨_, List.getElem?_eq_getElem hj⟩
      obtain ⟨b, o, rfl, hx⟩ := hn.at_ hnd
      obtain ⟨q1, q2⟩ := on_at (hx 12 _ rfl)
      have hS := h3.sep b q2
      exact ⟨b, o, rfl, hS.1, hS.2.1, fun e => hS.2.2 (by subst e; rfl), Wr.mk q1 (h6 b q2)⟩
end Go.Proofs.YtmkpjiahkepigaaGreat
