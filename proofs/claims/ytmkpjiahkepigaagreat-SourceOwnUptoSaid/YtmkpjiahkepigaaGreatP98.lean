import Derived.Test.YtmkpjiahkepigaaGreatP97
import Derived.Deep.CutBlock
import Derived.Test.YtmkpjiahkepigaaGreatP86
/- The reference's Step. -/
namespace Go.Proofs.YtmkpjiahkepigaaGreat
open Go Go.RowKit
attribute [local go_sem] readAtW readUpon
set_option maxRecDepth 100000 in
set_option maxHeartbeats 4000000 in
theorem r7step_bad (cs : List Value) (u : Unit_) (m : Mach) (t : Int) (w : World) (S : Nat → Prop) (h : RefV (on w S) cs u m) (hu : RightU u) (hok : MachOk u m) (hb : barF u m t ≠ 0) :
    Calls Tryz.prog 9 #[.agg cs.toArray, .int .i64 t] w fun e w' => ∃ cs', e = .returned (.tuple #[.agg cs'.toArray, .agg (stepD u m t).cells.toArray, .int .i64 (barF u m t)]) ∧ RefV (on w' (fun b => S b ∨ w.heap.size ≤ b)) cs' u (stepM u m t) ∧ Below w.heap.size w w' := by
  have hD : stepD u m t = did0 := by unfold stepD; rw [if_pos hb]; rfl
  have hM : stepM u m t = m := by unfold stepM; rw [if_pos hb]
  rw [hD, hM]
  have h0 := h
  obtain ⟨su, lu, gu, va, vo, vm, vh, vp, rfl, hr⟩ := h0
  obtain ⟨sv, lv, gv, e, ⟨sA, sc, hs, -⟩, ⟨lA, lc, hlk, -⟩, ⟨gA, gc, hg, -⟩⟩ := id hr.unit
  injection e with e1 e
  injection e with e2 e
  injection e with e3 _
  subst e1 e2 e3 hs hlk hg
  obtain ⟨aA, ac, rfl, -⟩ := id hr.at_
  obtain ⟨oA, oc, rfl, -⟩ := id hr.slots
  obtain ⟨mA, mc, rfl, -⟩ := id hr.mem
  obtain ⟨hA, hc, rfl, -⟩ := id hr.hold
  obtain ⟨pA, pc, rfl, -⟩ := id hr.prints
  rw [List.length_map] at *
  obtain ⟨why, hw⟩ : ∃ why, barF u m t = why := ⟨_, rfl⟩
  rw [hw] at hb
  have hB0 : Below w.heap.size w (((w.alloc (.cells #[.slice sA u.shared.length sc, .slice lA u.locks.length lc, .slice gA u.graphs.length gc, .slice aA m.at_.length ac, .slice oA m.slots.length oc, .slice mA m.mem.length mc, .slice hA m.holders.length hc, .slice pA m.prints.length pc] 35)).alloc (.cells #[.slice none 0 0, .slice none 0 0, .slice none 0 0, .slice none 0 0, .slice none 0 0, .slice none 0 0, .slice none 0 0, .slice none 0 0] 35)).alloc (.cells #[.int .i64 0, .int .i64 0, .int .u8 0, .int .i64 0, .int .i64 0, .int .i64 0] 41)) := ((Below_alloc' w _).alloc (by simp) _).alloc (by simp; omega) _
  have k0 : Blk (((w.alloc (.cells #[.slice sA u.shared.length sc, .slice lA u.locks.length lc, .slice gA u.graphs.length gc, .slice aA m.at_.length ac, .slice oA m.slots.length oc, .slice mA m.mem.length mc, .slice hA m.holders.length hc, .slice pA m.prints.length pc] 35)).alloc (.cells #[.slice none 0 0, .slice none 0 0, .slice none 0 0, .slice none 0 0, .slice none 0 0, .slice none 0 0, .slice none 0 0, .slice none 0 0] 35)).alloc (.cells #[.int .i64 0, .int .i64 0, .int .u8 0, .int .i64 0, .int .i64 0, .int .i64 0] 41)) w.heap.size 35 [.slice sA u.shared.length sc, .slice lA u.locks.length lc, .slice gA u.graphs.length gc, .slice aA m.at_.length ac, .slice oA m.slots.length oc, .slice mA m.mem.length mc, .slice hA m.holders.length hc, .slice pA m.prints.length pc] := ((Blk.new w _ _).alloc _).alloc _
  have k1 : Blk (((w.alloc (.cells #[.slice sA u.shared.length sc, .slice lA u.locks.length lc, .slice gA u.graphs.length gc, .slice aA m.at_.length ac, .slice oA m.slots.length oc, .slice mA m.mem.length mc, .slice hA m.holders.length hc, .slice pA m.prints.length pc] 35)).alloc (.cells #[.slice none 0 0, .slice none 0 0, .slice none 0 0, .slice none 0 0, .slice none 0 0, .slice none 0 0, .slice none 0 0, .slice none 0 0] 35)).alloc (.cells #[.int .i64 0, .int .i64 0, .int .u8 0, .int .i64 0, .int .i64 0, .int .i64 0] 41)) (w.heap.size + 1) 35 [.slice none 0 0, .slice none 0 0, .slice none 0 0, .slice none 0 0, .slice none 0 0, .slice none 0 0, .slice none 0 0, .slice none 0 0] := (Blk.of (heap_new (w.alloc _) _ _ (by simp)) rfl).alloc _
  have k2 : Blk (((w.alloc (.cells #[.slice sA u.shared.length sc, .slice lA u.locks.length lc, .slice gA u.graphs.length gc, .slice aA m.at_.length ac, .slice oA m.slots.length oc, .slice mA m.mem.length mc, .slice hA m.holders.length hc, .slice pA m.prints.length pc] 35)).alloc (.cells #[.slice none 0 0, .slice none 0 0, .slice none 0 0, .slice none 0 0, .slice none 0 0, .slice none 0 0, .slice none 0 0, .slice none 0 0] 35)).alloc (.cells #[.int .i64 0, .int .i64 0, .int .u8 0, .int .i64 0, .int .i64 0, .int .i64 0] 41)) (w.heap.size + 2) 41 [.int .i64 0, .int .i64 0, .int .u8 0, .int .i64 0, .int .i64 0, .int .i64 0] := Blk.of (heap_new ((w.alloc _).alloc _) _ _ (by simp)) rfl
  have HLD : Hid (∀ j v, ([.slice sA u.shared.length sc, .slice lA u.locks.length lc, .slice gA u.graphs.length gc, .slice aA m.at_.length ac, .slice oA m.slots.length oc, .slice mA m.mem.length mc, .slice hA m.holders.length hc, .slice pA m.prints.length pc] : List Value)[j]? = some v → (((w.alloc (.cells #[.slice sA u.shared.length sc, .slice lA u.locks.length lc, .slice gA u.graphs.length gc, .slice aA m.at_.length ac, .slice oA m.slots.length oc, .slice mA m.mem.length mc, .slice hA m.holders.length hc, .slice pA m.prints.length pc] 35)).alloc (.cells #[.slice none 0 0, .slice none 0 0, .slice none 0 0, .slice none 0 0, .slice none 0 0, .slice none 0 0, .slice none 0 0, .slice none 0 0] 35)).alloc (.cells #[.int .i64 0, .int .i64 0, .int .u8 0, .int .i64 0, .int .i64 0, .int .i64 0] 41)).cell? ⟨w.heap.size, 0 + j, none⟩ = some v) := Lib.hid fun j v hj => by rw [Nat.zero_add, k0.cell]; exact hj
  have HWY := Lib.hid (r7why_calls _ u m t _ ((h.mono (on_le _ _)).mono (cmap_below hB0)) hu hok)
  rw [hw] at HWY
  have HB := Lib.hid (And.intro hB0 (And.intro k0 (And.intro k1 k2)))
  have HR := Lib.hid (And.intro hr hw)
  have eb : (why != 0) = true := by simpa using hb
  clear hB0 k0 k1 k2 h hu hok hD hM hr hb hw
  go_enter Tryz.func9, Tryz.ntmps9
  go_wp2_with (first
    | (refine wpList_load_at rfl 35 _ rfl w.heap.size 0 rfl [.slice sA u.shared.length sc, .slice lA u.locks.length lc, .slice gA u.graphs.length gc, .slice aA m.at_.length ac, .slice oA m.slots.length oc, .slice mA m.mem.length mc, .slice hA m.holders.length hc, .slice pA m.prints.length pc] _ HLD.out Tryz.underlying35 rfl (by kernel_rfl) ?_))
  refine HWY.out.mono ?_
  rintro e w1 ⟨rfl, hb1⟩
  have j0 := HB.out.2.1.below hb1 HB.out.2.1.lt
  have j1 := HB.out.2.2.1.below hb1 HB.out.2.2.1.lt
  have j2 := HB.out.2.2.2.below hb1 HB.out.2.2.2.lt
  have HL1 : Hid (∀ j v, ([.slice sA u.shared.length sc, .slice lA u.locks.length lc, .slice gA u.graphs.length gc, .slice aA m.at_.length ac, .slice oA m.slots.length oc, .slice mA m.mem.length mc, .slice hA m.holders.length hc, .slice pA m.prints.length pc] : List Value)[j]? = some v → w1.cell? ⟨w.heap.size, 0 + j, none⟩ = some v) := Lib.hid fun j v hj => by rw [Nat.zero_add, j0.cell]; exact hj
  have HJ := Lib.hid (And.intro (HB.out.1.trans (hb1.mono HB.out.1.size)) (And.intro j1 j2))
  clear hb1 j0 j1 j2 HB HWY HLD
  go_wp2_with (first
    | (refine stop_store 35 rfl ?_)
    | (refine wpList_load_at rfl 35 _ rfl w.heap.size 0 rfl [.slice sA u.shared.length sc, .slice lA u.locks.length lc, .slice gA u.graphs.length gc, .slice aA m.at_.length ac, .slice oA m.slots.length oc, .slice mA m.mem.length mc, .slice hA m.holders.length hc, .slice pA m.prints.length pc] _ HL1.out Tryz.underlying35 rfl (by kernel_rfl) ?_))
  refine Stop.intro ?_
  refine wpList_plain rfl fun K hK => wp_store_row 35 _ _ rfl (w.heap.size + 1) ([.slice sA u.shared.length sc, .slice lA u.locks.length lc, .slice gA u.graphs.length gc, .slice aA m.at_.length ac, .slice oA m.slots.length oc, .slice mA m.mem.length mc, .slice hA m.holders.length hc, .slice pA m.prints.length pc] : List Value).toArray rfl rfl 35 _ HJ.out.2.1 (by kernel_rfl) rfl (by simp [Value.oneCell']) (hK _ _ ?_)
  have hz1 : Blk (w1.setRow (w.heap.size + 1) ([.slice sA u.shared.length sc, .slice lA u.locks.length lc, .slice gA u.graphs.length gc, .slice aA m.at_.length ac, .slice oA m.slots.length oc, .slice mA m.mem.length mc, .slice hA m.holders.length hc, .slice pA m.prints.length pc] : List Value).toArray) (w.heap.size + 1) 35 [.slice sA u.shared.length sc, .slice lA u.locks.length lc, .slice gA u.graphs.length gc, .slice aA m.at_.length ac, .slice oA m.slots.length oc, .slice mA m.mem.length mc, .slice hA m.holders.length hc, .slice pA m.prints.length pc] := Blk.setRow (w := w1) (cs' := [.slice sA u.shared.length sc, .slice lA u.locks.length lc, .slice gA u.graphs.length gc, .slice aA m.at_.length ac, .slice oA m.slots.length oc, .slice mA m.mem.length mc, .slice hA m.holders.length hc, .slice pA m.prints.length pc]) HJ.out.2.1
  have hz2 : Blk (w1.setRow (w.heap.size + 1) ([.slice sA u.shared.length sc, .slice lA u.locks.length lc, .slice gA u.graphs.length gc, .slice aA m.at_.length ac, .slice oA m.slots.length oc, .slice mA m.mem.length mc, .slice hA m.holders.length hc, .slice pA m.prints.length pc] : List Value).toArray) (w.heap.size + 2) 41 [.int .i64 0, .int .i64 0, .int .u8 0, .int .i64 0, .int .i64 0, .int .i64 0] := (heap_setRow_ne (by omega) _).trans HJ.out.2.2
  have hbz : Below w.heap.size w (w1.setRow (w.heap.size + 1) ([.slice sA u.shared.length sc, .slice lA u.locks.length lc, .slice gA u.graphs.length gc, .slice aA m.at_.length ac, .slice oA m.slots.length oc, .slice mA m.mem.length mc, .slice hA m.holders.length hc, .slice pA m.prints.length pc] : List Value).toArray) := below_row HJ.out.1 (by omega) _
  obtain ⟨x1, hx1⟩ : ∃ x1, w1.setRow (w.heap.size + 1) ([.slice sA u.shared.length sc, .slice lA u.locks.length lc, .slice gA u.graphs.length gc, .slice aA m.at_.length ac, .slice oA m.slots.length oc, .slice mA m.mem.length mc, .slice hA m.holders.length hc, .slice pA m.prints.length pc] : List Value).toArray = x1 := ⟨_, rfl⟩
  rw [hx1] at hz1 hz2 hbz ⊢
  simp only [put_none]
  refine wpList_plain rfl fun K hK => wp_store_row 41 _ _ rfl (w.heap.size + 2) ([.int .i64 0, .int .i64 0, .int .u8 0, .int .i64 0, .int .i64 0, .int .i64 0] : List Value).toArray rfl rfl 41 _ hz2 (by kernel_rfl) rfl (by simp [Value.oneCell']) (hK _ _ ?_)
  have hy2 : Blk (x1.setRow (w.heap.size + 2) ([.int .i64 0, .int .i64 0, .int .u8 0, .int .i64 0, .int .i64 0, .int .i64 0] : List Value).toArray) (w.heap.size + 2) 41 [.int .i64 0, .int .i64 0, .int .u8 0, .int .i64 0, .int .i64 0, .int .i64 0] := Blk.setRow (w := x1) (cs' := [.int .i64 0, .int .i64 0, .int .u8 0, .int .i64 0, .int .i64 0, .int .i64 0]) hz2
  have hy1 : Blk (x1.setRow (w.heap.size + 2) ([.int .i64 0, .int .i64 0, .int .u8 0, .int .i64 0, .int .i64 0, .int .i64 0] : List Value).toArray) (w.heap.size + 1) 35 [.slice sA u.shared.length sc, .slice lA u.locks.length lc, .slice gA u.graphs.length gc, .slice aA m.at_.length ac, .slice oA m.slots.length oc, .slice mA m.mem.length mc, .slice hA m.holders.length hc, .slice pA m.prints.length pc] := (heap_setRow_ne (by omega) _).trans hz1
  have hby : Below w.heap.size w (x1.setRow (w.heap.size + 2) ([.int .i64 0, .int .i64 0, .int .u8 0, .int .i64 0, .int .i64 0, .int .i64 0] : List Value).toArray) := below_row hbz (by omega) _
  obtain ⟨x2, hx2⟩ : ∃ x2, x1.setRow (w.heap.size + 2) ([.int .i64 0, .int .i64 0, .int .u8 0, .int .i64 0, .int .i64 0, .int .i64 0] : List Value).toArray = x2 := ⟨_, rfl⟩
  rw [hx2] at hy1 hy2 hby ⊢
  simp only [put_none]
  have HF := Lib.hid (And.intro hby (And.intro hy1 hy2))
  have e0 := hy1.cell 0
  have e1 := hy1.cell 1
  have e2 := hy1.cell 2
  have e3 := hy1.cell 3
  have e4 := hy1.cell 4
  have e5 := hy1.cell 5
  have e6 := hy1.cell 6
  have e7 := hy1.cell 7
  have f0 := hy2.cell 0
  have f1 := hy2.cell 1
  have f2 := hy2.cell 2
  have f3 := hy2.cell 3
  have f4 := hy2.cell 4
  have f5 := hy2.cell 5
  clear hx1 hx2 hz1 hz2 hbz hy1 hy2 hby
  go_wp2
  refine bodyPost_ret (v := .tuple #[.agg #[.slice sA u.shared.length sc, .slice lA u.locks.length lc, .slice gA u.graphs.length gc, .slice aA m.at_.length ac, .slice oA m.slots.length oc, .slice mA m.mem.length mc, .slice hA m.holders.length hc, .slice pA m.prints.length pc], .agg #[.int .i64 0, .int .i64 0, .int .u8 0, .int .i64 0, .int .i64 0, .int .i64 0], .int .i64 why]) (by simp [results, Tryz.results9, go_sem, e0, e1, e2, e3, e4, e5, e6, e7, f0, f1, f2, f3, f4, f5]) rfl ⟨[.slice sA u.shared.length sc, .slice lA u.locks.length lc, .slice gA u.graphs.length gc, .slice aA m.at_.length ac, .slice oA m.slots.length oc, .slice mA m.mem.length mc, .slice hA m.holders.length hc, .slice pA m.prints.length pc], by rw [← HR.out.2]; rfl, ⟨_, _, _, _, _, _, _, _, rfl, HR.out.1.mono ?_⟩, HF.out.1⟩
  exact on_keep (fun b hb hlt => HF.out.1.block b hlt) (fun b hb => .inl hb)
theorem wpList_build_print {ops : Array Oper} {rest : List Oper} {o : Oper} {a : Act} {w : World} {Q : Exit → Act → World → Prop} (hgd : o.guard = none) (e : Operand) (ho : o.op = .buildSlice 33 1 #[(0, e)]) (p q : Int) (he : a.eval e = .agg #[.int .i64 p, .int .i64 q])
    (h : wpList Tryz.prog ops Q rest (a.put o.dst (.slice (some ⟨w.heap.size, 0, none⟩) 1 1)) (w.alloc (.cells #[.int .i64 p, .int .i64 q] 77))) : wpList Tryz.prog ops Q (o :: rest) a w := by
  refine wpList_plain hgd fun K hK => ?_
  unfold Oper.wp execOp
  simp only [ho, List.map_toArray, List.map_cons, List.map_nil, he, run_build_print, Sem.run_bind, Result.andThen_ok, Oper.upon]
  exact hK _ _ h
/-- What holds while the answer is written. -/
structure R35 (w : World) (ab : Nat) (c0 c1 c2 va vo vm vh vp : Value) (vs : List Value) (d : Did) (m : Mach) (a0 : Act) (D : Nat → Bool) (a : Act) (wx : World) : Prop where
  fr : Fr [6, 172, 173] a0 a
  bel : Below w.heap.size w wx
  b0 : Blk wx w.heap.size 35 [c0, c1, c2, va, vo, vm, vh, vp]
  ac : Blk wx ab 41 d.cells
  ro : RefO wx (w.heap.size + 3) va vo vm vh vp vs m
  s0 : D 0 = true → a.eval (.tmp 172) = .agg #[c0, c1, c2, va, vo, vm, vh, vp]
  s1 : D 1 = true → a.eval (.tmp 173) = .agg d.cells.toArray
  s4 : D 4 = true → a.eval (.tmp 6) = .int .i64 0
  s2 : ∃ z, Blk wx (w.heap.size + 1) 35 z ∧ z.length = 8 ∧ (D 2 = true → z = [c0, c1, c2, va, vo, vm, vh, vp])
  s3 : ∃ z, Blk wx (w.heap.size + 2) 41 z ∧ z.length = 6 ∧ (D 3 = true → z = d.cells)
set_option maxRecDepth 100000 in
set_option maxHeartbeats 16000000 in
theorem r7step_good (cs : List Value) (u : Unit_) (m : Mach) (t i : Nat) (gr : Graph) (n : Node) (w : World) (S : Nat → Prop) (h : RefV (on w S) cs u m) (hu : RightU u) (hz : SizeU u) (hok : MachOk u m) (hmi : MachI m) (hs : Stands u m t gr i n) (hno : Node.ok n) (hb : barN m n = 0) (hp : m.prints.length < 4294967295) :
    Calls Tryz.prog 9 #[.agg cs.toArray, .int .i64 (t : Int)] w fun e w' => ∃ cs', e = .returned (.tuple #[.agg cs'.toArray, .agg (actD m t n ⟨t, i, n.kind, 0, 0, 0⟩).cells.toArray, .int .i64 0]) ∧ RefV (on w' (fun b => S b ∨ w.heap.size ≤ b)) cs' u { actM m t n with at_ := m.at_.set t (actN m t n).toNat } ∧ Below w.heap.size w w' := by
  have h0 := h
  obtain ⟨su, lu, gu, va, vo, vm, vh, vp, rfl, hr⟩ := h0
  obtain ⟨sv, lv, gv, e, ⟨sA, sc, hsc, -⟩, ⟨lA, lc, hlk, -⟩, ⟨gA, gc, hg, -⟩⟩ := id hr.unit
  injection e with e1 e
  injection e with e2 e
  injection e with e3 _
  subst e1 e2 e3 hsc hlk hg
  obtain ⟨aA, ac, rfl, -⟩ := id hr.at_
  obtain ⟨oA, oc, rfl, -⟩ := id hr.slots
  obtain ⟨mA, mc, rfl, -⟩ := id hr.mem
  obtain ⟨hA, hc, rfl, -⟩ := id hr.hold
  obtain ⟨pA, pc, rfl, -⟩ := id hr.prints
  rw [List.length_map] at *
  have hB0 : Below w.heap.size w (((w.alloc (.cells #[.slice sA u.shared.length sc, .slice lA u.locks.length lc, .slice gA u.graphs.length gc, .slice aA m.at_.length ac, .slice oA m.slots.length oc, .slice mA m.mem.length mc, .slice hA m.holders.length hc, .slice pA m.prints.length pc] 35)).alloc (.cells #[.slice none 0 0, .slice none 0 0, .slice none 0 0, .slice none 0 0, .slice none 0 0, .slice none 0 0, .slice none 0 0, .slice none 0 0] 35)).alloc (.cells #[.int .i64 0, .int .i64 0, .int .u8 0, .int .i64 0, .int .i64 0, .int .i64 0] 41)) := ((Below_alloc' w _).alloc (by simp) _).alloc (by simp; omega) _
  have k0 : Blk (((w.alloc (.cells #[.slice sA u.shared.length sc, .slice lA u.locks.length lc, .slice gA u.graphs.length gc, .slice aA m.at_.length ac, .slice oA m.slots.length oc, .slice mA m.mem.length mc, .slice hA m.holders.length hc, .slice pA m.prints.length pc] 35)).alloc (.cells #[.slice none 0 0, .slice none 0 0, .slice none 0 0, .slice none 0 0, .slice none 0 0, .slice none 0 0, .slice none 0 0, .slice none 0 0] 35)).alloc (.cells #[.int .i64 0, .int .i64 0, .int .u8 0, .int .i64 0, .int .i64 0, .int .i64 0] 41)) w.heap.size 35 [.slice sA u.shared.length sc, .slice lA u.locks.length lc, .slice gA u.graphs.length gc, .slice aA m.at_.length ac, .slice oA m.slots.length oc, .slice mA m.mem.length mc, .slice hA m.holders.length hc, .slice pA m.prints.length pc] := ((Blk.new w _ _).alloc _).alloc _
  have k1 : Blk (((w.alloc (.cells #[.slice sA u.shared.length sc, .slice lA u.locks.length lc, .slice gA u.graphs.length gc, .slice aA m.at_.length ac, .slice oA m.slots.length oc, .slice mA m.mem.length mc, .slice hA m.holders.length hc, .slice pA m.prints.length pc] 35)).alloc (.cells #[.slice none 0 0, .slice none 0 0, .slice none 0 0, .slice none 0 0, .slice none 0 0, .slice none 0 0, .slice none 0 0, .slice none 0 0] 35)).alloc (.cells #[.int .i64 0, .int .i64 0, .int .u8 0, .int .i64 0, .int .i64 0, .int .i64 0] 41)) (w.heap.size + 1) 35 [.slice none 0 0, .slice none 0 0, .slice none 0 0, .slice none 0 0, .slice none 0 0, .slice none 0 0, .slice none 0 0, .slice none 0 0] := (Blk.of (heap_new (w.alloc _) _ _ (by simp)) rfl).alloc _
  have k2 : Blk (((w.alloc (.cells #[.slice sA u.shared.length sc, .slice lA u.locks.length lc, .slice gA u.graphs.length gc, .slice aA m.at_.length ac, .slice oA m.slots.length oc, .slice mA m.mem.length mc, .slice hA m.holders.length hc, .slice pA m.prints.length pc] 35)).alloc (.cells #[.slice none 0 0, .slice none 0 0, .slice none 0 0, .slice none 0 0, .slice none 0 0, .slice none 0 0, .slice none 0 0, .slice none 0 0] 35)).alloc (.cells #[.int .i64 0, .int .i64 0, .int .u8 0, .int .i64 0, .int .i64 0, .int .i64 0] 41)) (w.heap.size + 2) 41 [.int .i64 0, .int .i64 0, .int .u8 0, .int .i64 0, .int .i64 0, .int .i64 0] := Blk.of (heap_new ((w.alloc _).alloc _) _ _ (by simp)) rfl
  have HLD : Hid (∀ j v, ([.slice sA u.shared.length sc, .slice lA u.locks.length lc, .slice gA u.graphs.length gc, .slice aA m.at_.length ac, .slice oA m.slots.length oc, .slice mA m.mem.length mc, .slice hA m.holders.length hc, .slice pA m.prints.length pc] : List Value)[j]? = some v → (((w.alloc (.cells #[.slice sA u.shared.length sc, .slice lA u.locks.length lc, .slice gA u.graphs.length gc, .slice aA m.at_.length ac, .slice oA m.slots.length oc, .slice mA m.mem.length mc, .slice hA m.holders.length hc, .slice pA m.prints.length pc] 35)).alloc (.cells #[.slice none 0 0, .slice none 0 0, .slice none 0 0, .slice none 0 0, .slice none 0 0, .slice none 0 0, .slice none 0 0, .slice none 0 0] 35)).alloc (.cells #[.int .i64 0, .int .i64 0, .int .u8 0, .int .i64 0, .int .i64 0, .int .i64 0] 41)).cell? ⟨w.heap.size, 0 + j, none⟩ = some v) := Lib.hid fun j v hj => by rw [Nat.zero_add, k0.cell]; exact hj
  have hbar : barF u m t = 0 := by rw [hs.bar hok]; exact hb
  have HWY := Lib.hid (r7why_calls _ u m t _ ((h.mono (on_le _ _)).mono (cmap_below hB0)) hu hok)
  rw [hbar] at HWY
  have HB := Lib.hid (And.intro hB0 (And.intro k0 (And.intro k1 k2)))
  have HR := Lib.hid hr
  have HK := Lib.hid (And.intro hu (And.intro hz (And.intro hok (And.intro hmi (And.intro hno (And.intro hb hp))))))
  have HS := Lib.hid hs
  clear hB0 k0 k1 k2 h hu hz hok hmi hno hr hb hs hp hbar
  go_enter Tryz.func9, Tryz.ntmps9
  go_wp2_with (first
    | (refine wpList_load_at rfl 35 _ rfl w.heap.size 0 rfl [.slice sA u.shared.length sc, .slice lA u.locks.length lc, .slice gA u.graphs.length gc, .slice aA m.at_.length ac, .slice oA m.slots.length oc, .slice mA m.mem.length mc, .slice hA m.holders.length hc, .slice pA m.prints.length pc] _ HLD.out Tryz.underlying35 rfl (by kernel_rfl) ?_))
  refine HWY.out.mono ?_
  rintro e w1 ⟨rfl, hb1⟩
  have j0 := HB.out.2.1.below hb1 HB.out.2.1.lt
  have j1 := HB.out.2.2.1.below hb1 HB.out.2.2.1.lt
  have j2 := HB.out.2.2.2.below hb1 HB.out.2.2.2.lt
  have hbw := HB.out.1.trans (hb1.mono HB.out.1.size)
  have HL1 : Hid (∀ j v, ([.slice sA u.shared.length sc, .slice lA u.locks.length lc, .slice gA u.graphs.length gc, .slice aA m.at_.length ac, .slice oA m.slots.length oc, .slice mA m.mem.length mc, .slice hA m.holders.length hc, .slice pA m.prints.length pc] : List Value)[j]? = some v → w1.cell? ⟨w.heap.size, 0 + j, none⟩ = some v) := Lib.hid fun j v hj => by rw [Nat.zero_add, j0.cell]; exact hj
  have HCP := Lib.hid (r7copy_calls _ _ _ _ _ _ _ _ u m w1 ((HR.out.mono (on_le _ _)).mono (cmap_below hbw)) HK.out.2.2.1 HK.out.1 HK.out.2.1 (by have := HK.out.2.2.2.2.2.2; omega))
  have HJ := Lib.hid (And.intro hbw (And.intro j0 (And.intro j1 j2)))
  clear hb1 j0 j1 j2 HB HWY HLD hbw
  go_wp2_with (first
    | (refine wpList_load_at rfl 35 _ rfl w.heap.size 0 rfl [.slice sA u.shared.length sc, .slice lA u.locks.length lc, .slice gA u.graphs.length gc, .slice aA m.at_.length ac, .slice oA m.slots.length oc, .slice mA m.mem.length mc, .slice hA m.holders.length hc, .slice pA m.prints.length pc] _ HL1.out Tryz.underlying35 rfl (by kernel_rfl) ?_))
  refine HCP.out.mono ?_
  rintro e w2 ⟨va1, vo1, vm1, vh1, vp1, vs, rfl, hO, hb2⟩
  have j0 := HJ.out.2.1.below hb2 HJ.out.2.1.lt
  have j1 := HJ.out.2.2.1.below hb2 HJ.out.2.2.1.lt
  have j2 := HJ.out.2.2.2.below hb2 HJ.out.2.2.2.lt
  have hbw := HJ.out.1.trans (hb2.mono HJ.out.1.size)
  obtain ⟨aA1, ac1, rfl, -⟩ := own_slice hO.at_
  obtain ⟨oA1, oc1, rfl, -⟩ := own_slice hO.outer
  obtain ⟨mA1, mc1, rfl, -⟩ := own_slice hO.mem
  obtain ⟨hA1, hc1, rfl, -⟩ := own_slice hO.hold
  obtain ⟨pA1, pc1, rfl, -⟩ := own_slice hO.prints
  have HWS : Hid (w.heap.size + 3 ≤ w1.heap.size + 3) := Lib.hid (by have := HJ.out.1.size; omega)
  have HY := Lib.hid (And.intro hbw (And.intro j0 (And.intro j1 (And.intro j2 hO))))
  clear hb2 j0 j1 j2 hbw hO HJ HL1 HCP
  go_wp2_with (first
    | (refine stop_store 35 rfl ?_))
  refine Stop.intro ?_
  refine wpList_plain rfl fun K hK => wp_store_row 35 _ _ rfl w.heap.size ([.slice sA u.shared.length sc, .slice lA u.locks.length lc, .slice gA u.graphs.length gc, .slice aA1 m.at_.length ac1, .slice oA1 m.slots.length oc1, .slice mA1 m.mem.length mc1, .slice hA1 m.holders.length hc1, .slice pA1 m.prints.length pc1] : List Value).toArray rfl rfl 35 _ HY.out.2.1 (by kernel_rfl) rfl (by simp [Value.oneCell']) (hK _ _ ?_)
  have hz0 : Blk (w2.setRow w.heap.size ([.slice sA u.shared.length sc, .slice lA u.locks.length lc, .slice gA u.graphs.length gc, .slice aA1 m.at_.length ac1, .slice oA1 m.slots.length oc1, .slice mA1 m.mem.length mc1, .slice hA1 m.holders.length hc1, .slice pA1 m.prints.length pc1] : List Value).toArray) w.heap.size 35 [.slice sA u.shared.length sc, .slice lA u.locks.length lc, .slice gA u.graphs.length gc, .slice aA1 m.at_.length ac1, .slice oA1 m.slots.length oc1, .slice mA1 m.mem.length mc1, .slice hA1 m.holders.length hc1, .slice pA1 m.prints.length pc1] := Blk.setRow (w := w2) (cs' := [.slice sA u.shared.length sc, .slice lA u.locks.length lc, .slice gA u.graphs.length gc, .slice aA1 m.at_.length ac1, .slice oA1 m.slots.length oc1, .slice mA1 m.mem.length mc1, .slice hA1 m.holders.length hc1, .slice pA1 m.prints.length pc1]) HY.out.2.1
  have hz1 : Blk (w2.setRow w.heap.size ([.slice sA u.shared.length sc, .slice lA u.locks.length lc, .slice gA u.graphs.length gc, .slice aA1 m.at_.length ac1, .slice oA1 m.slots.length oc1, .slice mA1 m.mem.length mc1, .slice hA1 m.holders.length hc1, .slice pA1 m.prints.length pc1] : List Value).toArray) (w.heap.size + 1) 35 [.slice none 0 0, .slice none 0 0, .slice none 0 0, .slice none 0 0, .slice none 0 0, .slice none 0 0, .slice none 0 0, .slice none 0 0] := (heap_setRow_ne (by omega) _).trans HY.out.2.2.1
  have hz2 : Blk (w2.setRow w.heap.size ([.slice sA u.shared.length sc, .slice lA u.locks.length lc, .slice gA u.graphs.length gc, .slice aA1 m.at_.length ac1, .slice oA1 m.slots.length oc1, .slice mA1 m.mem.length mc1, .slice hA1 m.holders.length hc1, .slice pA1 m.prints.length pc1] : List Value).toArray) (w.heap.size + 2) 41 [.int .i64 0, .int .i64 0, .int .u8 0, .int .i64 0, .int .i64 0, .int .i64 0] := (heap_setRow_ne (by omega) _).trans HY.out.2.2.2.1
  have hbz : Below w.heap.size w (w2.setRow w.heap.size ([.slice sA u.shared.length sc, .slice lA u.locks.length lc, .slice gA u.graphs.length gc, .slice aA1 m.at_.length ac1, .slice oA1 m.slots.length oc1, .slice mA1 m.mem.length mc1, .slice hA1 m.holders.length hc1, .slice pA1 m.prints.length pc1] : List Value).toArray) := below_row HY.out.1 (by omega) _
  have hlt1 := HY.out.2.2.2.1.lt
  have hO2 := (HY.out.2.2.2.2.lower (b' := w.heap.size + 3) HWS.out).fr (FrW.setRow (S := fun q => q = w.heap.size) w2 rfl ([.slice sA u.shared.length sc, .slice lA u.locks.length lc, .slice gA u.graphs.length gc, .slice aA1 m.at_.length ac1, .slice oA1 m.slots.length oc1, .slice mA1 m.mem.length mc1, .slice hA1 m.holders.length hc1, .slice pA1 m.prints.length pc1] : List Value).toArray) (fun b hb e => by omega)
  obtain ⟨x2, hx2⟩ : ∃ x2, w2.setRow w.heap.size ([.slice sA u.shared.length sc, .slice lA u.locks.length lc, .slice gA u.graphs.length gc, .slice aA1 m.at_.length ac1, .slice oA1 m.slots.length oc1, .slice mA1 m.mem.length mc1, .slice hA1 m.holders.length hc1, .slice pA1 m.prints.length pc1] : List Value).toArray = x2 := ⟨_, rfl⟩
  rw [hx2] at hz0 hz1 hz2 hbz hO2 ⊢
  simp only [put_none]
  have hu0 : UnitV (cmap w) [.slice sA u.shared.length sc, .slice lA u.locks.length lc, .slice gA u.graphs.length gc] u := HR.out.unit.mono (on_le _ _)
  have hrs : RefS (cmap x2) (.slice sA u.shared.length sc) (.slice lA u.locks.length lc) (.slice gA u.graphs.length gc) (.slice aA1 m.at_.length ac1) (.slice oA1 m.slots.length oc1) (.slice mA1 m.mem.length mc1) (.slice hA1 m.holders.length hc1) (.slice pA1 m.prints.length pc1) u m :=
    (hO2.refS (S := fun _ => True) (hu0.mono fun b o v hv => on_mk (cmap_below hbz b o v hv) trivial) (fun _ _ => trivial)).mono (on_le _ _)
  have HNX := Lib.hid (rnext_calls _ u m t gr i n x2 ⟨_, _, _, _, _, _, _, _, rfl, hrs⟩ HS.out)
  have HLX : Hid (∀ j v, ([.slice sA u.shared.length sc, .slice lA u.locks.length lc, .slice gA u.graphs.length gc, .slice aA1 m.at_.length ac1, .slice oA1 m.slots.length oc1, .slice mA1 m.mem.length mc1, .slice hA1 m.holders.length hc1, .slice pA1 m.prints.length pc1] : List Value)[j]? = some v → x2.cell? ⟨w.heap.size, 0 + j, none⟩ = some v) := Lib.hid fun j v hj => by rw [Nat.zero_add, hz0.cell]; exact hj
  have HX := Lib.hid (And.intro hbz (And.intro hz0 (And.intro hz1 (And.intro hz2 hO2))))
  clear hz0 hz1 hz2 hbz hO2 hrs hx2 HY HWS
  have HU := Lib.hid hu0
  clear hu0
  go_wp2_with (first
    | (refine wpList_load_at rfl 35 _ rfl w.heap.size 0 rfl [.slice sA u.shared.length sc, .slice lA u.locks.length lc, .slice gA u.graphs.length gc, .slice aA1 m.at_.length ac1, .slice oA1 m.slots.length oc1, .slice mA1 m.mem.length mc1, .slice hA1 m.holders.length hc1, .slice pA1 m.prints.length pc1] _ HLX.out Tryz.underlying35 rfl (by kernel_rfl) ?_))
  refine HNX.out.mono ?_
  rintro e w3 ⟨rfl, hb3⟩
  have j0 := HX.out.2.1.below hb3 HX.out.2.1.lt
  have j1 := HX.out.2.2.1.below hb3 HX.out.2.2.1.lt
  have j2 := HX.out.2.2.2.1.below hb3 HX.out.2.2.2.1.lt
  have hbw := HX.out.1.trans (hb3.mono HX.out.1.size)
  have hO3 := HX.out.2.2.2.2.below hb3
  have h3lt := j2.lt
  have HY := Lib.hid (And.intro hbw (And.intro j0 (And.intro j1 (And.intro j2 hO3))))
  clear hb3 j0 j1 j2 hbw hO3 HX HNX HLX hlt1
  go_wp2_with (first
    | (refine stop_store 53 rfl ?_))
  refine Stop.intro ?_
  refine wpList_plain rfl fun K hK => wp_store_row 53 _ _ rfl w3.heap.size n.cells.toArray rfl rfl 53 _ (heap_new w3 _ _ rfl) (by kernel_rfl) rfl (by simp [Node.cells, Value.oneCell']) (hK _ _ ?_)
  simp only [put_none]
  obtain ⟨x4, hx4⟩ : ∃ x4, w3.alloc (.cells n.cells.toArray 53) = x4 := ⟨_, rfl⟩
  rw [World.setRow_alloc_new, hx4]
  have hbx : Below w3.heap.size w3 x4 := by rw [← hx4]; exact Below_alloc' w3 _
  have hnd : Blk x4 w3.heap.size 53 n.cells := by rw [← hx4]; exact Blk.new w3 _ _
  have j0 := HY.out.2.1.below hbx HY.out.2.1.lt
  have j1 := HY.out.2.2.1.below hbx HY.out.2.2.1.lt
  have j2 := HY.out.2.2.2.1.below hbx HY.out.2.2.2.1.lt
  have hbw := HY.out.1.trans (hbx.mono HY.out.1.size)
  have hO4 := HY.out.2.2.2.2.below hbx
  obtain ⟨ab, ac2, he, ca, -, hab, -⟩ := own_elem hO4.at_ (i := t) (x := .int .i64 i) (by unfold natsV; rw [List.getElem?_map, HS.out.pc]; rfl)
  injection he with he1 he2 he3
  subst he1 he3
  have hn3 : w.heap.size + 3 ≤ w3.heap.size := by have := HY.out.2.2.2.1.lt; omega
  have h4lt : x4.heap.size = w3.heap.size + 1 := by rw [← hx4]; simp
  have HX := Lib.hid (And.intro hbw (And.intro j0 (And.intro j1 (And.intro j2 (And.intro hnd (And.intro hO4 (And.intro hn3 h4lt)))))))
  have t0 : (0 : Int) ≤ t := by omega
  have t1 : (t : Int) < m.at_.length := by have := (List.getElem?_eq_some_iff.1 HS.out.pc).1; omega
  have g3 : ∀ z : XC (cNew x4 41 [.int .i64 0, .int .i64 0, .int .u8 0, .int .i64 0, .int .i64 0, .int .i64 0] [.int .i64 (t : Int), .int .i64 (i : Int), .int .u8 n.kind, .int .i64 n.thing, .int .i64 0, .int .i64 0] 11 12), z.w.cell? ⟨w.heap.size, 3, none⟩ = some (.slice (some ⟨ab, 0, none⟩) m.at_.length ac1) := fun z => ((cNew_below z).cell (p := ⟨w.heap.size, 3, none⟩) j0.lt).trans (j0.cell 3)
  have ga : ∀ z : XC (cNew x4 41 [.int .i64 0, .int .i64 0, .int .u8 0, .int .i64 0, .int .i64 0, .int .i64 0] [.int .i64 (t : Int), .int .i64 (i : Int), .int .u8 n.kind, .int .i64 n.thing, .int .i64 0, .int .i64 0] 11 12), z.w.cell? ⟨ab, t, none⟩ = some (.int .i64 i) := fun z => ((cNew_below z).cell (p := ⟨ab, t, none⟩) hab).trans ca
  have gk : ∀ z : XC (cNew x4 41 [.int .i64 0, .int .i64 0, .int .u8 0, .int .i64 0, .int .i64 0, .int .i64 0] [.int .i64 (t : Int), .int .i64 (i : Int), .int .u8 n.kind, .int .i64 n.thing, .int .i64 0, .int .i64 0] 11 12), z.w.cell? ⟨w3.heap.size, 0, none⟩ = some (.int .u8 n.kind) := fun z => ((cNew_below z).cell (p := ⟨w3.heap.size, 0, none⟩) hnd.lt).trans (hnd.cell 0)
  have gt : ∀ z : XC (cNew x4 41 [.int .i64 0, .int .i64 0, .int .u8 0, .int .i64 0, .int .i64 0, .int .i64 0] [.int .i64 (t : Int), .int .i64 (i : Int), .int .u8 n.kind, .int .i64 n.thing, .int .i64 0, .int .i64 0] 11 12), z.w.cell? ⟨w3.heap.size, 3, none⟩ = some (.int .i64 n.thing) := fun z => ((cNew_below z).cell (p := ⟨w3.heap.size, 3, none⟩) hnd.lt).trans (hnd.cell 3)
  haveI hne : Nonempty (XC (cNew x4 41 [.int .i64 0, .int .i64 0, .int .u8 0, .int .i64 0, .int .i64 0, .int .i64 0] [.int .i64 (t : Int), .int .i64 (i : Int), .int .u8 n.kind, .int .i64 n.thing, .int .i64 0, .int .i64 0] 11 12)) := XC.ne cNew_start
  clear hbx hnd j0 j1 j2 hbw hO4 he2 ca hab hn3 hx4 h4lt
  clear HY h3lt
  go_wp2
  refine wp_region_mix (cNew x4 41 [.int .i64 0, .int .i64 0, .int .u8 0, .int .i64 0, .int .i64 0, .int .i64 0] [.int .i64 (t : Int), .int .i64 (i : Int), .int .u8 n.kind, .int .i64 n.thing, .int .i64 0, .int .i64 0] 11 12) [11, 12] [0, 1, 2, 3, 4, 5, 6, 7, 8, 9, 10, 11, 12] (by kernel_rfl) (by kernel_rfl) (by kernel_rfl) cNew_start (cNew_hq rfl rfl) (cNew_hA rfl (by decide)) (dst_small (by rfl)) ?_
  iterate 11 (refine wpMix_read rfl rfl (fun K hK => ?_); go_simp; refine hK _ ?_; clear hK K)
  refine wpMix_act (some 9) rfl rfl rfl rfl (fun D A x hD _ _ hC => cNew_alloc rfl (.agg #[.int .i64 0, .int .i64 0, .int .u8 0, .int .i64 0, .int .i64 0, .int .i64 0]) rfl (fun _ => by kernel_rfl) (by decide) hD hC) (fun D A x hD hpre hC => ?_)
  rw [hC.2.1 hD]
  clear hpre hC hD x A D
  refine wpMix_act0 rfl rfl rfl rfl (fun D A x hD hp hpre hC => cNew_store (W := x4) (z := [.int .i64 0, .int .i64 0, .int .u8 0, .int .i64 0, .int .i64 0, .int .i64 0]) (cs := [.int .i64 (t : Int), .int .i64 (i : Int), .int .u8 n.kind, .int .i64 n.thing, .int .i64 0, .int .i64 0]) rfl rfl rfl (by kernel_rfl) rfl rfl (by decide) (hpre 11 (by simp)).1 hD hC) (fun D A x hD hpre hC => ?_)
  clear hpre hC hD x A D
  refine wpMix_nil (fun D A x hD hAA hC => ?_)
  obtain ⟨q2, rfl⟩ := cNew_end (hD 12 (by decide)) hC
  simp only [Act.put, List.setIfInBounds_toArray, List.set_cons_zero, List.set_cons_succ]
  clear g3 ga gk gt hne hAA hC hD A D
  have hsi : StI w ((x4.alloc (.cells #[.int .i64 (t : Int), .int .i64 (i : Int), .int .u8 n.kind, .int .i64 n.thing, .int .i64 0, .int .i64 0] 41)).drewN q2) (.slice sA u.shared.length sc) (.slice lA u.locks.length lc) (.slice gA u.graphs.length gc) (.slice (some ⟨ab, 0, none⟩) m.at_.length ac1) (.slice oA1 m.slots.length oc1) (.slice mA1 m.mem.length mc1) (.slice hA1 m.holders.length hc1) (.slice pA1 m.prints.length pc1) vs w3.heap.size x4.heap.size n ⟨t, i, n.kind, n.thing, 0, 0⟩ m := by
    have hb5 : Below x4.heap.size x4 ((x4.alloc (.cells #[.int .i64 (t : Int), .int .i64 (i : Int), .int .u8 n.kind, .int .i64 n.thing, .int .i64 0, .int .i64 0] 41)).drewN q2) := drewN_below q2 (Below_alloc' x4 _)
    exact ⟨HX.out.1.trans (hb5.mono HX.out.1.size), HX.out.2.1.below hb5 HX.out.2.1.lt, HX.out.2.2.1.below hb5 HX.out.2.2.1.lt, HX.out.2.2.2.1.below hb5 HX.out.2.2.2.1.lt, HX.out.2.2.2.2.1.below hb5 HX.out.2.2.2.2.1.lt, Blk.new x4 41 [.int .i64 (t : Int), .int .i64 (i : Int), .int .u8 n.kind, .int .i64 n.thing, .int .i64 0, .int .i64 0], HX.out.2.2.2.2.2.1.below hb5, HX.out.2.2.2.2.2.2.1, by have := HX.out.2.2.2.2.2.2; omega⟩
  obtain ⟨x5, hx5⟩ : ∃ x5, (x4.alloc (.cells #[.int .i64 (t : Int), .int .i64 (i : Int), .int .u8 n.kind, .int .i64 n.thing, .int .i64 0, .int .i64 0] 41)).drewN q2 = x5 := ⟨_, rfl⟩
  rw [hx5] at hsi ⊢
  have HSI := Lib.hid hsi
  have z0 : x5.cell? ⟨w3.heap.size, 0, none⟩ = some (.int .u8 n.kind) := hsi.nd.cell 0
  have z10 : x5.cell? ⟨w3.heap.size, 10, none⟩ = some (.int .i64 n.next) := hsi.nd.cell 10
  clear hsi hx5
  go_upto_block 0 with fail
  go_cut [10] (fun v10 wc => ∃ (d : Did) (vp2 : Value), v10 = .int .i64 (actN m t n) ∧ Hid (d = actD m t n ⟨t, i, n.kind, 0, 0, 0⟩) ∧ Hid (StI w wc (.slice sA u.shared.length sc) (.slice lA u.locks.length lc) (.slice gA u.graphs.length gc) (.slice (some ⟨ab, 0, none⟩) m.at_.length ac1) (.slice oA1 m.slots.length oc1) (.slice mA1 m.mem.length mc1) (.slice hA1 m.holders.length hc1) vp2 vs w3.heap.size x4.heap.size n d (actM m t n)))
  case first =>
    have hnd := ndF ((HK.out.1.graphs gr (List.mem_of_getElem? HS.out.gr)).nodes n (List.mem_of_getElem? HS.out.nd))
    have hk : n.kind = 1 ∨ n.kind = 2 ∨ n.kind = 3 ∨ n.kind = 4 ∨ n.kind = 5 ∨ n.kind = 6 ∨ n.kind = 7 ∨ n.kind = 8 := by
      have := hnd.kind
      have h9 : n.kind ≠ 9 := fun e => by have hb := HK.out.2.2.2.2.2.1; unfold barN at hb; rw [if_pos e] at hb; cases hb
      omega
    obtain ⟨l, hl⟩ : ∃ l, m.slots[t]? = some l := ⟨_, List.getElem?_eq_getElem (by rw [HK.out.2.2.1.slots, ← HK.out.2.2.1.at_]; exact (List.getElem?_eq_some_iff.1 HS.out.pc).1)⟩
    have hll : (l.length : Int) = gr.slots := HK.out.2.2.1.slot t gr l HS.out.gr hl
    have HND := Lib.hid (And.intro hnd (And.intro hl hll))
    have HVAL := Lib.hid (fun (wz : World) (d : Did) (hz : StI w wz (.slice sA u.shared.length sc) (.slice lA u.locks.length lc) (.slice gA u.graphs.length gc) (.slice (some ⟨ab, 0, none⟩) m.at_.length ac1) (.slice oA1 m.slots.length oc1) (.slice mA1 m.mem.length mc1) (.slice hA1 m.holders.length hc1) (.slice pA1 m.prints.length pc1) vs w3.heap.size x4.heap.size n d m) (ha : n.a.isSlot = true → 0 ≤ n.a.slot ∧ n.a.slot < l.length) => r7value_calls _ u m t n.a l wz ⟨_, _, _, _, _, _, _, _, rfl, hz.reads HU.out⟩ hl ha)
    have HRES := Lib.hid (fun (wz : World) (d : Did) (hz : StI w wz (.slice sA u.shared.length sc) (.slice lA u.locks.length lc) (.slice gA u.graphs.length gc) (.slice (some ⟨ab, 0, none⟩) m.at_.length ac1) (.slice oA1 m.slots.length oc1) (.slice mA1 m.mem.length mc1) (.slice hA1 m.holders.length hc1) (.slice pA1 m.prints.length pc1) vs w3.heap.size x4.heap.size n d m) (ha : n.a.isSlot = true → 0 ≤ n.a.slot ∧ n.a.slot < l.length) (hop : 0 ≤ n.op ∧ n.op < 19) (hb : twoB n.op = true → n.b.isSlot = true → 0 ≤ n.b.slot ∧ n.b.slot < l.length) => r7result_calls _ _ _ _ _ _ _ _ u m t n l wz (hz.reads HU.out) hl HK.out.2.2.2.1 HK.out.2.2.2.2.1 ha hop hb)
    clear hnd hl hll
    rcases hk with hk | hk | hk | hk | hk | hk | hk | hk
    · have HA := Lib.hid (act_1 (m := m) (t := t) hk ⟨t, i, n.kind, 0, 0, 0⟩)
      have c1 : (n.kind == 1) = true := by simp [hk]
      have HKD := Lib.hid hk
      clear hk
      have HLM : Hid (∀ j v, ([.slice sA u.shared.length sc, .slice lA u.locks.length lc, .slice gA u.graphs.length gc, .slice (some ⟨ab, 0, none⟩) m.at_.length ac1, .slice oA1 m.slots.length oc1, .slice mA1 m.mem.length mc1, .slice hA1 m.holders.length hc1, .slice pA1 m.prints.length pc1] : List Value)[j]? = some v → x5.cell? ⟨w.heap.size, 0 + j, none⟩ = some v) := Lib.hid fun j v hj => by rw [Nat.zero_add, HSI.out.b0.cell]; exact hj
      have HLN : Hid (∀ j v, n.cells[j]? = some v → x5.cell? ⟨w3.heap.size, 0 + j, none⟩ = some v) := Lib.hid fun j v hj => by rw [Nat.zero_add, HSI.out.nd.cell]; exact hj
      go_wp2_with (first
        | (refine wpList_load_at rfl 35 _ rfl w.heap.size 0 rfl [.slice sA u.shared.length sc, .slice lA u.locks.length lc, .slice gA u.graphs.length gc, .slice (some ⟨ab, 0, none⟩) m.at_.length ac1, .slice oA1 m.slots.length oc1, .slice mA1 m.mem.length mc1, .slice hA1 m.holders.length hc1, .slice pA1 m.prints.length pc1] _ HLM.out Tryz.underlying35 rfl (by kernel_rfl) ?_)
        | (refine wpList_load_at rfl 53 _ rfl w3.heap.size 0 rfl n.cells _ HLN.out Tryz.underlying53 rfl (by kernel_rfl) ?_))
      refine (HRES.out x5 _ HSI.out (fun e => by have := HND.out.1.a (by have := HKD.out; omega) e; have := HND.out.2.2; omega) (HND.out.1.op HKD.out) (fun e1 e2 => by have := HND.out.1.b HKD.out e1 e2; have := HND.out.2.2; omega)).mono ?_
      rintro e x6 ⟨rfl, hb6⟩
      have h6 := HSI.out.below hb6
      have y4 : x6.cell? ⟨x4.heap.size, 4, none⟩ = some (.int .i64 0) := h6.ac.cell 4
      have f4 : x6.frozen? ⟨x4.heap.size, 4, none⟩ = false := h6.ac.frozen 4
      have h7 := h6.tell (j := 4) (v := .int .i64 (setV m t n)) (d' := ⟨t, i, n.kind, n.thing, setV m t n, 0⟩) rfl
      have HS6 := Lib.hid h7
      clear hb6 h6 h7 HLM HLN
      go_upto_region 11 with fail
      have h7 := HS6.out
      obtain ⟨x7, hx⟩ : ∃ x, x6.setCell ⟨x4.heap.size, 4, none⟩ (.int .i64 (setV m t n)) = x := ⟨_, rfl⟩
      rw [hx] at h7 ⊢
      clear hx y4 f4 HS6
      have hsl := HND.out.1.slot (by have := HKD.out; omega)
      obtain ⟨js, hjs⟩ := Int.eq_ofNat_of_zero_le hsl.1
      have hjsl : js < l.length := by have := HND.out.2.2; omega
      obtain ⟨ob, oc, k, kc, xv, eo, s1, s2, s3, s4⟩ := h7.slotAt (t := t) (j := js) HND.out.2.1 hjsl
      injection eo with eo1 eo2 eo3
      subst eo1 eo3
      have y9 : x7.cell? ⟨w.heap.size, 4, none⟩ = some (.slice (some ⟨ob, 0, none⟩) m.slots.length oc1) := h7.b0.cell 4
      have y2 : x7.cell? ⟨w3.heap.size, 2, none⟩ = some (.int .i64 n.slot) := h7.nd.cell 2
      rw [hjs] at y2
      have ya : x7.cell? ⟨x4.heap.size, 4, none⟩ = some (.int .i64 (setV m t n)) := h7.ac.cell 4
      have j0 : (0 : Int) ≤ js := by omega
      have j1 : (js : Int) < l.length := by omega
      have o1 : (t : Int) < m.slots.length := by have := (List.getElem?_eq_some_iff.1 HND.out.2.1).1; omega
      have HJS := Lib.hid (And.intro hjs (And.intro s2 h7))
      clear hsl hjs hjsl eo2 s2 h7
      go_still_tail 10, (by kernel_rfl)
      go_wp2
      go_meet
      refine ⟨⟨t, i, n.kind, n.thing, setV m t n, 0⟩, .slice pA1 m.prints.length pc1, by rw [HA.out.2.2], Lib.hid (by rw [HA.out.2.1, HND.out.1.thing0 (by have := HKD.out; omega)]), Lib.hid ?_⟩
      rw [HA.out.1]
      unfold Mach.setSlot
      rw [HND.out.2.1, Option.getD_some, HJS.out.1, Int.toNat_natCast]
      exact (HJS.out.2.2.below (Below.refl _ _).drew).setSlot HJS.out.2.1 HND.out.2.1 _
    · have HA := Lib.hid (act_2 (m := m) (t := t) hk ⟨t, i, n.kind, 0, 0, 0⟩)
      have c1 : (n.kind == 1) = false := by simp [hk]
      have c2 : (n.kind == 2) = true := by simp [hk]
      have HKD := Lib.hid hk
      clear hk
      have hth := HND.out.1.var (by have := HKD.out; omega)
      obtain ⟨th, hth0⟩ := Int.eq_ofNat_of_zero_le hth.1
      have hthl : th < m.mem.length := by rw [HK.out.2.2.1.mem]; omega
      obtain ⟨vb, vcc, vx, he, q1, hvx, q2⟩ := HSI.out.varAt hthl
      injection he with he1 he2 he3
      subst he1 he3
      have y6 : x5.cell? ⟨w.heap.size, 5, none⟩ = some (.slice (some ⟨vb, 0, none⟩) m.mem.length mc1) := HSI.out.b0.cell 5
      have y3 : x5.cell? ⟨w3.heap.size, 3, none⟩ = some (.int .i64 n.thing) := HSI.out.nd.cell 3
      rw [hth0] at y3
      have b0 : (0 : Int) ≤ th := by omega
      have b1 : (th : Int) < m.mem.length := by omega
      have hvar : m.var n.thing = vx := by unfold Mach.var; rw [hth0, Int.toNat_natCast, hvx]; rfl
      have HT := Lib.hid (And.intro hth0 (And.intro hvar hthl))
      clear hth hth0 he2 hthl hvx hvar
      have y4 : x5.cell? ⟨x4.heap.size, 4, none⟩ = some (.int .i64 0) := HSI.out.ac.cell 4
      have f4 : x5.frozen? ⟨x4.heap.size, 4, none⟩ = false := HSI.out.ac.frozen 4
      go_upto_region 14 with fail
      have h7 := HSI.out.tell (j := 4) (v := .int .i64 vx) (d' := ⟨t, i, n.kind, n.thing, vx, 0⟩) rfl
      obtain ⟨x7, hx⟩ : ∃ x, x5.setCell ⟨x4.heap.size, 4, none⟩ (.int .i64 vx) = x := ⟨_, rfl⟩
      rw [hx] at h7 ⊢
      clear hx y4 f4 y3 y6 q1 q2
      have hsl := HND.out.1.slot (by have := HKD.out; omega)
      obtain ⟨js, hjs⟩ := Int.eq_ofNat_of_zero_le hsl.1
      have hjsl : js < l.length := by have := HND.out.2.2; omega
      obtain ⟨ob, oc, k, kc, xv, eo, s1, s2, s3, s4⟩ := h7.slotAt (t := t) (j := js) HND.out.2.1 hjsl
      injection eo with eo1 eo2 eo3
      subst eo1 eo3
      have y9 : x7.cell? ⟨w.heap.size, 4, none⟩ = some (.slice (some ⟨ob, 0, none⟩) m.slots.length oc1) := h7.b0.cell 4
      have y2 : x7.cell? ⟨w3.heap.size, 2, none⟩ = some (.int .i64 n.slot) := h7.nd.cell 2
      rw [hjs] at y2
      have ya : x7.cell? ⟨x4.heap.size, 4, none⟩ = some (.int .i64 vx) := h7.ac.cell 4
      have j0 : (0 : Int) ≤ js := by omega
      have j1 : (js : Int) < l.length := by omega
      have o1 : (t : Int) < m.slots.length := by have := (List.getElem?_eq_some_iff.1 HND.out.2.1).1; omega
      have HJS := Lib.hid (And.intro hjs (And.intro s2 h7))
      clear hsl hjs hjsl eo2 s2 h7
      go_still_tail 10, (by kernel_rfl)
      go_wp2
      go_meet
      refine ⟨⟨t, i, n.kind, n.thing, vx, 0⟩, .slice pA1 m.prints.length pc1, by rw [HA.out.2.2], Lib.hid (by rw [HA.out.2.1, HT.out.2.1]), Lib.hid ?_⟩
      rw [HA.out.1, HT.out.2.1]
      unfold Mach.setSlot
      rw [HND.out.2.1, Option.getD_some, HJS.out.1, Int.toNat_natCast]
      exact (HJS.out.2.2.below (Below.refl _ _).drew).setSlot HJS.out.2.1 HND.out.2.1 _
    · have HA := Lib.hid (act_3 (m := m) (t := t) hk ⟨t, i, n.kind, 0, 0, 0⟩)
      have c1 : (n.kind == 1) = false := by simp [hk]
      have c2 : (n.kind == 2) = false := by simp [hk]
      have c3 : (n.kind == 3) = true := by simp [hk]
      have HKD := Lib.hid hk
      clear hk
      have HLM : Hid (∀ j v, ([.slice sA u.shared.length sc, .slice lA u.locks.length lc, .slice gA u.graphs.length gc, .slice (some ⟨ab, 0, none⟩) m.at_.length ac1, .slice oA1 m.slots.length oc1, .slice mA1 m.mem.length mc1, .slice hA1 m.holders.length hc1, .slice pA1 m.prints.length pc1] : List Value)[j]? = some v → x5.cell? ⟨w.heap.size, 0 + j, none⟩ = some v) := Lib.hid fun j v hj => by rw [Nat.zero_add, HSI.out.b0.cell]; exact hj
      have HLV : Hid (∀ j v, ([.bool n.a.isSlot, .int .i64 n.a.slot, .int .i64 n.a.word] : List Value)[j]? = some v → x5.cell? ⟨w3.heap.size, 4 + j, none⟩ = some v) := Lib.hid fun j v hj => by
        rw [HSI.out.nd.cell]
        rcases j with _ | _ | _ | j
        · exact hj
        · exact hj
        · exact hj
        · simp at hj
      go_wp2_with (first
        | (refine wpList_load_at rfl 35 _ rfl w.heap.size 0 rfl [.slice sA u.shared.length sc, .slice lA u.locks.length lc, .slice gA u.graphs.length gc, .slice (some ⟨ab, 0, none⟩) m.at_.length ac1, .slice oA1 m.slots.length oc1, .slice mA1 m.mem.length mc1, .slice hA1 m.holders.length hc1, .slice pA1 m.prints.length pc1] _ HLM.out Tryz.underlying35 rfl (by kernel_rfl) ?_)
        | (refine wpList_load_at rfl 51 _ rfl w3.heap.size 4 rfl [.bool n.a.isSlot, .int .i64 n.a.slot, .int .i64 n.a.word] _ HLV.out Tryz.underlying51 rfl (by kernel_rfl) ?_))
      refine (HVAL.out x5 _ HSI.out (fun e => by have := HND.out.1.a (by have := HKD.out; omega) e; have := HND.out.2.2; omega)).mono ?_
      rintro e x7a ⟨rfl, hb6⟩
      have h7a := HSI.out.below hb6
      have y4 : x7a.cell? ⟨x4.heap.size, 4, none⟩ = some (.int .i64 0) := h7a.ac.cell 4
      have f4 : x7a.frozen? ⟨x4.heap.size, 4, none⟩ = false := h7a.ac.frozen 4
      have h7 := h7a.tell (j := 4) (v := .int .i64 (m.val t n.a)) (d' := ⟨t, i, n.kind, n.thing, m.val t n.a, 0⟩) rfl
      have HS6 := Lib.hid h7
      clear hb6 h7a h7 HLM HLV
      go_upto_region 17 with fail
      have h7 := HS6.out
      obtain ⟨x7, hx⟩ : ∃ x, x7a.setCell ⟨x4.heap.size, 4, none⟩ (.int .i64 (m.val t n.a)) = x := ⟨_, rfl⟩
      rw [hx] at h7 ⊢
      clear hx y4 f4 HS6
      have hth := HND.out.1.var (by have := HKD.out; omega)
      obtain ⟨th, hth0⟩ := Int.eq_ofNat_of_zero_le hth.1
      have hthl : th < m.mem.length := by rw [HK.out.2.2.1.mem]; omega
      obtain ⟨vb, vcc, vx, he, q1, hvx, q2⟩ := h7.varAt hthl
      injection he with he1 he2 he3
      subst he1 he3
      have y6 : x7.cell? ⟨w.heap.size, 5, none⟩ = some (.slice (some ⟨vb, 0, none⟩) m.mem.length mc1) := h7.b0.cell 5
      have y3 : x7.cell? ⟨w3.heap.size, 3, none⟩ = some (.int .i64 n.thing) := h7.nd.cell 3
      rw [hth0] at y3
      have b0 : (0 : Int) ≤ th := by omega
      have b1 : (th : Int) < m.mem.length := by omega
      have hvar : m.var n.thing = vx := by unfold Mach.var; rw [hth0, Int.toNat_natCast, hvx]; rfl
      have HT := Lib.hid (And.intro hth0 (And.intro hvar hthl))
      clear hth hth0 he2 hthl hvx hvar
      have ya : x7.cell? ⟨x4.heap.size, 4, none⟩ = some (.int .i64 (m.val t n.a)) := h7.ac.cell 4
      have H7 := Lib.hid h7
      clear h7
      go_wp2
      go_meet
      refine ⟨⟨t, i, n.kind, n.thing, m.val t n.a, 0⟩, .slice pA1 m.prints.length pc1, by rw [HA.out.2.2], Lib.hid (by rw [HA.out.2.1]), Lib.hid ?_⟩
      have := H7.out.setVar (j := th) rfl (m.val t n.a)
      rw [HA.out.1]
      unfold Mach.setVar
      rw [show n.thing.toNat = th by rw [HT.out.1]; rfl]
      exact this
    · have HA := Lib.hid (act_4 (m := m) (t := t) hk ⟨t, i, n.kind, 0, 0, 0⟩)
      have c1 : (n.kind == 1) = false := by simp [hk]
      have c2 : (n.kind == 2) = false := by simp [hk]
      have c3 : (n.kind == 3) = false := by simp [hk]
      have c4 : (n.kind == 4) = true := by simp [hk]
      have HKD := Lib.hid hk
      clear hk
      have hth := HND.out.1.var (by have := HKD.out; omega)
      obtain ⟨th, hth0⟩ := Int.eq_ofNat_of_zero_le hth.1
      have hthl : th < m.mem.length := by rw [HK.out.2.2.1.mem]; omega
      obtain ⟨vb, vcc, vx, he, q1, hvx, q2⟩ := HSI.out.varAt hthl
      injection he with he1 he2 he3
      subst he1 he3
      have y6 : x5.cell? ⟨w.heap.size, 5, none⟩ = some (.slice (some ⟨vb, 0, none⟩) m.mem.length mc1) := HSI.out.b0.cell 5
      have y3 : x5.cell? ⟨w3.heap.size, 3, none⟩ = some (.int .i64 n.thing) := HSI.out.nd.cell 3
      rw [hth0] at y3
      have b0 : (0 : Int) ≤ th := by omega
      have b1 : (th : Int) < m.mem.length := by omega
      have hvar : m.var n.thing = vx := by unfold Mach.var; rw [hth0, Int.toNat_natCast, hvx]; rfl
      have HT := Lib.hid (And.intro hth0 (And.intro hvar hthl))
      clear hth hth0 he2 hthl hvx hvar
      have y4 : x5.cell? ⟨x4.heap.size, 4, none⟩ = some (.int .i64 0) := HSI.out.ac.cell 4
      have f4 : x5.frozen? ⟨x4.heap.size, 4, none⟩ = false := HSI.out.ac.frozen 4
      go_upto_region 20 with fail
      have h6 := HSI.out.tell (j := 4) (v := .int .i64 vx) (d' := ⟨t, i, n.kind, n.thing, vx, 0⟩) rfl
      obtain ⟨x6, hx⟩ : ∃ x, x5.setCell ⟨x4.heap.size, 4, none⟩ (.int .i64 vx) = x := ⟨_, rfl⟩
      rw [hx] at h6 ⊢
      clear hx y4 f4 y3 y6 q1 q2
      have HLM : Hid (∀ j v, ([.slice sA u.shared.length sc, .slice lA u.locks.length lc, .slice gA u.graphs.length gc, .slice (some ⟨ab, 0, none⟩) m.at_.length ac1, .slice oA1 m.slots.length oc1, .slice (some ⟨vb, 0, none⟩) m.mem.length mc1, .slice hA1 m.holders.length hc1, .slice pA1 m.prints.length pc1] : List Value)[j]? = some v → x6.cell? ⟨w.heap.size, 0 + j, none⟩ = some v) := Lib.hid fun j v hj => by rw [Nat.zero_add, h6.b0.cell]; exact hj
      have HLV : Hid (∀ j v, ([.bool n.a.isSlot, .int .i64 n.a.slot, .int .i64 n.a.word] : List Value)[j]? = some v → x6.cell? ⟨w3.heap.size, 4 + j, none⟩ = some v) := Lib.hid fun j v hj => by
        rw [h6.nd.cell]
        rcases j with _ | _ | _ | j
        · exact hj
        · exact hj
        · exact hj
        · simp at hj
      go_wp2_with (first
        | (refine wpList_load_at rfl 35 _ rfl w.heap.size 0 rfl [.slice sA u.shared.length sc, .slice lA u.locks.length lc, .slice gA u.graphs.length gc, .slice (some ⟨ab, 0, none⟩) m.at_.length ac1, .slice oA1 m.slots.length oc1, .slice (some ⟨vb, 0, none⟩) m.mem.length mc1, .slice hA1 m.holders.length hc1, .slice pA1 m.prints.length pc1] _ HLM.out Tryz.underlying35 rfl (by kernel_rfl) ?_)
        | (refine wpList_load_at rfl 51 _ rfl w3.heap.size 4 rfl [.bool n.a.isSlot, .int .i64 n.a.slot, .int .i64 n.a.word] _ HLV.out Tryz.underlying51 rfl (by kernel_rfl) ?_))
      refine (HVAL.out x6 _ h6 (fun e => by have := HND.out.1.a (by have := HKD.out; omega) e; have := HND.out.2.2; omega)).mono ?_
      rintro e x7a ⟨rfl, hb6⟩
      have h7a := h6.below hb6
      have y4 : x7a.cell? ⟨x4.heap.size, 5, none⟩ = some (.int .i64 0) := h7a.ac.cell 5
      have f4 : x7a.frozen? ⟨x4.heap.size, 5, none⟩ = false := h7a.ac.frozen 5
      have h7 := h7a.tell (j := 5) (v := .int .i64 (m.val t n.a)) (d' := ⟨t, i, n.kind, n.thing, vx, m.val t n.a⟩) rfl
      have HS6 := Lib.hid h7
      clear hb6 h7a h7 HLM HLV
      go_upto_region 21 with fail
      have h7 := HS6.out
      obtain ⟨x7, hx⟩ : ∃ x, x7a.setCell ⟨x4.heap.size, 5, none⟩ (.int .i64 (m.val t n.a)) = x := ⟨_, rfl⟩
      rw [hx] at h7 ⊢
      clear hx y4 f4 HS6
      clear h6
      have y6 : x7.cell? ⟨w.heap.size, 5, none⟩ = some (.slice (some ⟨vb, 0, none⟩) m.mem.length mc1) := h7.b0.cell 5
      have y3 : x7.cell? ⟨w3.heap.size, 3, none⟩ = some (.int .i64 n.thing) := h7.nd.cell 3
      rw [HT.out.1] at y3
      obtain ⟨vb2, vcc2, vx2, he, q1, hvx2, q2⟩ := h7.varAt HT.out.2.2
      injection he with he1 he2 he3
      injection he1 with he1
      injection he1 with he1 _ _
      subst he1
      clear he2 he3 hvx2
      have ya : x7.cell? ⟨x4.heap.size, 5, none⟩ = some (.int .i64 (m.val t n.a)) := h7.ac.cell 5
      have H7 := Lib.hid (h7.setVar (j := th) rfl (m.val t n.a))
      clear h7
      go_upto_region 22 with fail
      have h8 := H7.out
      obtain ⟨x8, hx⟩ : ∃ x, x7.setCell ⟨vb, th, none⟩ (.int .i64 (m.val t n.a)) = x := ⟨_, rfl⟩
      rw [hx] at h8 ⊢
      clear hx y3 y6 q1 q2 ya H7
      have hsl := HND.out.1.slot (by have := HKD.out; omega)
      obtain ⟨js, hjs⟩ := Int.eq_ofNat_of_zero_le hsl.1
      have hjsl : js < l.length := by have := HND.out.2.2; omega
      obtain ⟨ob, oc, k, kc, xv, eo, s1, s2, s3, s4⟩ := h8.slotAt (t := t) (j := js) HND.out.2.1 hjsl
      injection eo with eo1 eo2 eo3
      subst eo1 eo3
      have y9 : x8.cell? ⟨w.heap.size, 4, none⟩ = some (.slice (some ⟨ob, 0, none⟩) m.slots.length oc1) := h8.b0.cell 4
      have y2 : x8.cell? ⟨w3.heap.size, 2, none⟩ = some (.int .i64 n.slot) := h8.nd.cell 2
      rw [hjs] at y2
      have ya : x8.cell? ⟨x4.heap.size, 4, none⟩ = some (.int .i64 vx) := h8.ac.cell 4
      have j0 : (0 : Int) ≤ js := by omega
      have j1 : (js : Int) < l.length := by omega
      have o1 : (t : Int) < m.slots.length := by have := (List.getElem?_eq_some_iff.1 HND.out.2.1).1; omega
      have HJS := Lib.hid (And.intro hjs (And.intro s2 h8))
      clear hsl hjs hjsl eo2 s2 h8
      go_still_tail 10, (by kernel_rfl)
      go_wp2
      go_meet
      refine ⟨⟨t, i, n.kind, n.thing, vx, m.val t n.a⟩, .slice pA1 m.prints.length pc1, by rw [HA.out.2.2], Lib.hid (by rw [HA.out.2.1, HT.out.2.1]), Lib.hid ?_⟩
      rw [HA.out.1, HT.out.2.1]
      unfold Mach.setVar
      unfold Mach.setSlot
      rw [HND.out.2.1, Option.getD_some, HJS.out.1, Int.toNat_natCast]
      rw [show n.thing.toNat = th by rw [HT.out.1]; rfl]
      exact (HJS.out.2.2.below (Below.refl _ _).drew).setSlot HJS.out.2.1 HND.out.2.1 _
    · have HA := Lib.hid (act_5 (m := m) (t := t) hk ⟨t, i, n.kind, 0, 0, 0⟩)
      have c1 : (n.kind == 1) = false := by simp [hk]
      have c2 : (n.kind == 2) = false := by simp [hk]
      have c3 : (n.kind == 3) = false := by simp [hk]
      have c4 : (n.kind == 4) = false := by simp [hk]
      have c5 : (n.kind == 5) = true := by simp [hk]
      have hth := HND.out.1.lock (by omega)
      obtain ⟨th, hth0⟩ := Int.eq_ofNat_of_zero_le hth.1
      have hthl : th < m.holders.length := by rw [HK.out.2.2.1.holders]; omega
      obtain ⟨hb, hcc, hx, he, q1, q2⟩ := HSI.out.holdAt hthl
      injection he with he1 he2 he3
      subst he1 he3
      have y6 : x5.cell? ⟨w.heap.size, 6, none⟩ = some (.slice (some ⟨hb, 0, none⟩) m.holders.length hc1) := HSI.out.b0.cell 6
      have y3 : x5.cell? ⟨w3.heap.size, 3, none⟩ = some (.int .i64 n.thing) := HSI.out.nd.cell 3
      rw [hth0] at y3
      have b0 : (0 : Int) ≤ th := by omega
      have b1 : (th : Int) < m.holders.length := by omega
      have HT := Lib.hid hth0
      clear hth hth0 he2 hthl hk
      go_wp2
      go_meet
      refine ⟨⟨t, i, n.kind, n.thing, 0, 0⟩, .slice pA1 m.prints.length pc1, by rw [HA.out.2.2], Lib.hid (by rw [HA.out.2.1]), Lib.hid ?_⟩
      have := HSI.out.setHolder (j := th) rfl t
      rw [HA.out.1]
      unfold Mach.setHolder
      rw [show n.thing.toNat = th by rw [HT.out]; rfl]
      exact this
    · have HA := Lib.hid (act_6 (m := m) (t := t) hk ⟨t, i, n.kind, 0, 0, 0⟩)
      have c1 : (n.kind == 1) = false := by simp [hk]
      have c2 : (n.kind == 2) = false := by simp [hk]
      have c3 : (n.kind == 3) = false := by simp [hk]
      have c4 : (n.kind == 4) = false := by simp [hk]
      have c5 : (n.kind == 5) = false := by simp [hk]
      have c6 : (n.kind == 6) = true := by simp [hk]
      have hth := HND.out.1.lock (by omega)
      obtain ⟨th, hth0⟩ := Int.eq_ofNat_of_zero_le hth.1
      have hthl : th < m.holders.length := by rw [HK.out.2.2.1.holders]; omega
      obtain ⟨hb, hcc, hx, he, q1, q2⟩ := HSI.out.holdAt hthl
      injection he with he1 he2 he3
      subst he1 he3
      have y6 : x5.cell? ⟨w.heap.size, 6, none⟩ = some (.slice (some ⟨hb, 0, none⟩) m.holders.length hc1) := HSI.out.b0.cell 6
      have y3 : x5.cell? ⟨w3.heap.size, 3, none⟩ = some (.int .i64 n.thing) := HSI.out.nd.cell 3
      rw [hth0] at y3
      have b0 : (0 : Int) ≤ th := by omega
      have b1 : (th : Int) < m.holders.length := by omega
      have HT := Lib.hid hth0
      clear hth hth0 he2 hthl hk
      go_wp2
      go_meet
      refine ⟨⟨t, i, n.kind, n.thing, 0, 0⟩, .slice pA1 m.prints.length pc1, by rw [HA.out.2.2], Lib.hid (by rw [HA.out.2.1]), Lib.hid ?_⟩
      have := HSI.out.setHolder (j := th) rfl (-1)
      rw [HA.out.1]
      unfold Mach.setHolder
      rw [show n.thing.toNat = th by rw [HT.out]; rfl]
      exact this
    · have HA := Lib.hid (act_7 (m := m) (t := t) hk ⟨t, i, n.kind, 0, 0, 0⟩)
      have c1 : (n.kind == 1) = false := by simp [hk]
      have c2 : (n.kind == 2) = false := by simp [hk]
      have c3 : (n.kind == 3) = false := by simp [hk]
      have c4 : (n.kind == 4) = false := by simp [hk]
      have c5 : (n.kind == 5) = false := by simp [hk]
      have c6 : (n.kind == 6) = false := by simp [hk]
      have c7 : (n.kind == 7) = true := by simp [hk]
      have HKD := Lib.hid hk
      clear hk
      have HLM : Hid (∀ j v, ([.slice sA u.shared.length sc, .slice lA u.locks.length lc, .slice gA u.graphs.length gc, .slice (some ⟨ab, 0, none⟩) m.at_.length ac1, .slice oA1 m.slots.length oc1, .slice mA1 m.mem.length mc1, .slice hA1 m.holders.length hc1, .slice pA1 m.prints.length pc1] : List Value)[j]? = some v → x5.cell? ⟨w.heap.size, 0 + j, none⟩ = some v) := Lib.hid fun j v hj => by rw [Nat.zero_add, HSI.out.b0.cell]; exact hj
      have HLV : Hid (∀ j v, ([.bool n.a.isSlot, .int .i64 n.a.slot, .int .i64 n.a.word] : List Value)[j]? = some v → x5.cell? ⟨w3.heap.size, 4 + j, none⟩ = some v) := Lib.hid fun j v hj => by
        rw [HSI.out.nd.cell]
        rcases j with _ | _ | _ | j
        · exact hj
        · exact hj
        · exact hj
        · simp at hj
      go_wp2_with (first
        | (refine wpList_load_at rfl 35 _ rfl w.heap.size 0 rfl [.slice sA u.shared.length sc, .slice lA u.locks.length lc, .slice gA u.graphs.length gc, .slice (some ⟨ab, 0, none⟩) m.at_.length ac1, .slice oA1 m.slots.length oc1, .slice mA1 m.mem.length mc1, .slice hA1 m.holders.length hc1, .slice pA1 m.prints.length pc1] _ HLM.out Tryz.underlying35 rfl (by kernel_rfl) ?_)
        | (refine wpList_load_at rfl 51 _ rfl w3.heap.size 4 rfl [.bool n.a.isSlot, .int .i64 n.a.slot, .int .i64 n.a.word] _ HLV.out Tryz.underlying51 rfl (by kernel_rfl) ?_))
      refine (HVAL.out x5 _ HSI.out (fun e => by have := HND.out.1.a (by have := HKD.out; omega) e; have := HND.out.2.2; omega)).mono ?_
      rintro e x7a ⟨rfl, hb6⟩
      have h7a := HSI.out.below hb6
      have y4 : x7a.cell? ⟨x4.heap.size, 4, none⟩ = some (.int .i64 0) := h7a.ac.cell 4
      have f4 : x7a.frozen? ⟨x4.heap.size, 4, none⟩ = false := h7a.ac.frozen 4
      have h7 := h7a.tell (j := 4) (v := .int .i64 (m.val t n.a)) (d' := ⟨t, i, n.kind, n.thing, m.val t n.a, 0⟩) rfl
      have HS6 := Lib.hid h7
      clear hb6 h7a h7 HLM HLV
      go_upto_region 29 with fail
      have h7 := HS6.out
      obtain ⟨x7, hx⟩ : ∃ x, x7a.setCell ⟨x4.heap.size, 4, none⟩ (.int .i64 (m.val t n.a)) = x := ⟨_, rfl⟩
      rw [hx] at h7 ⊢
      clear hx y4 f4 HS6
      have y7 : x7.cell? ⟨w.heap.size, 7, none⟩ = some (.slice pA1 m.prints.length pc1) := h7.b0.cell 7
      have ya : x7.cell? ⟨x4.heap.size, 4, none⟩ = some (.int .i64 (m.val t n.a)) := h7.ac.cell 4
      have H7 := Lib.hid h7
      clear h7
      go_wp2_with (first
        | (refine wpList_build_print rfl _ rfl _ _ rfl ?_)
        | (refine stop_append rfl ?_))
      refine Stop.intro ?_
      have h8 := H7.out.below (wy := x7.alloc (.cells #[.int .i64 (t : Int), .int .i64 (m.val t n.a)] 77)) (Below_alloc' x7 _)
      have hb8 := Blk.new x7 77 [.int .i64 (t : Int), .int .i64 (m.val t n.a)]
      refine app_one sl_print rfl _ _ rfl (w.heap.size + 3) _ m.prints.length (printsV m.prints) rfl h8.ro.prints x7.heap.size 0 1 [.int .i64 (t : Int), .int .i64 (m.val t n.a)] rfl rfl (fun j v hj => by rw [Nat.zero_add, hb8.cell]; exact hj) (by simp [Value.oneCell']) (by have := HK.out.2.2.2.2.2.2; omega) (by decide) (by have := h8.b2.lt; omega) ?_
      intro v' w' hown hgr hob
      obtain ⟨pA2, pc2, rfl, -⟩ := own_slice hown
      have hF : FrW (fun b => (Value.slice pA1 m.prints.length pc1).ownBlock = some b) (x7.alloc (.cells #[.int .i64 (t : Int), .int .i64 (m.val t n.a)] 77)) w' := FrW.grown hgr fun k e => e
      have k0 := h8.b0.fr hF (own_ne h8.ro.prints h8.b0 (by decide))
      have y8 : w'.cell? ⟨w.heap.size, 7, none⟩ = some (.slice pA1 m.prints.length pc1) := k0.cell 7
      have f8 : w'.frozen? ⟨w.heap.size, 7, none⟩ = false := k0.frozen 7
      have H9 := Lib.hid (h8.setPrints (p := ((t : Int), m.val t n.a)) hgr hown)
      clear hF k0 hown hgr hob h8 hb8 y7 ya
      go_wp2
      go_meet
      refine ⟨⟨t, i, n.kind, n.thing, m.val t n.a, 0⟩, .slice pA2 (m.prints.length + 1) pc2, by rw [HA.out.2.2], Lib.hid (by rw [HA.out.2.1, HND.out.1.thing0 (by have := HKD.out; omega)]), Lib.hid ?_⟩
      rw [HA.out.1]
      exact H9.out
    · have HA := Lib.hid (act_8 (m := m) (t := t) hk ⟨t, i, n.kind, 0, 0, 0⟩)
      have c1 : (n.kind == 1) = false := by simp [hk]
      have c2 : (n.kind == 2) = false := by simp [hk]
      have c3 : (n.kind == 3) = false := by simp [hk]
      have c4 : (n.kind == 4) = false := by simp [hk]
      have c5 : (n.kind == 5) = false := by simp [hk]
      have c6 : (n.kind == 6) = false := by simp [hk]
      have c7 : (n.kind == 7) = false := by simp [hk]
      have c8 : (n.kind == 8) = true := by simp [hk]
      have HKD := Lib.hid hk
      clear hk
      have HLM : Hid (∀ j v, ([.slice sA u.shared.length sc, .slice lA u.locks.length lc, .slice gA u.graphs.length gc, .slice (some ⟨ab, 0, none⟩) m.at_.length ac1, .slice oA1 m.slots.length oc1, .slice mA1 m.mem.length mc1, .slice hA1 m.holders.length hc1, .slice pA1 m.prints.length pc1] : List Value)[j]? = some v → x5.cell? ⟨w.heap.size, 0 + j, none⟩ = some v) := Lib.hid fun j v hj => by rw [Nat.zero_add, HSI.out.b0.cell]; exact hj
      have HLV : Hid (∀ j v, ([.bool n.a.isSlot, .int .i64 n.a.slot, .int .i64 n.a.word] : List Value)[j]? = some v → x5.cell? ⟨w3.heap.size, 4 + j, none⟩ = some v) := Lib.hid fun j v hj => by
        rw [HSI.out.nd.cell]
        rcases j with _ | _ | _ | j
        · exact hj
        · exact hj
        · exact hj
        · simp at hj
      go_wp2_with (first
        | (refine wpList_load_at rfl 35 _ rfl w.heap.size 0 rfl [.slice sA u.shared.length sc, .slice lA u.locks.length lc, .slice gA u.graphs.length gc, .slice (some ⟨ab, 0, none⟩) m.at_.length ac1, .slice oA1 m.slots.length oc1, .slice mA1 m.mem.length mc1, .slice hA1 m.holders.length hc1, .slice pA1 m.prints.length pc1] _ HLM.out Tryz.underlying35 rfl (by kernel_rfl) ?_)
        | (refine wpList_load_at rfl 51 _ rfl w3.heap.size 4 rfl [.bool n.a.isSlot, .int .i64 n.a.slot, .int .i64 n.a.word] _ HLV.out Tryz.underlying51 rfl (by kernel_rfl) ?_))
      refine (HVAL.out x5 _ HSI.out (fun e => by have := HND.out.1.a (by have := HKD.out; omega) e; have := HND.out.2.2; omega)).mono ?_
      rintro e x7a ⟨rfl, hb6⟩
      have h7a := HSI.out.below hb6
      have y4 : x7a.cell? ⟨x4.heap.size, 4, none⟩ = some (.int .i64 0) := h7a.ac.cell 4
      have f4 : x7a.frozen? ⟨x4.heap.size, 4, none⟩ = false := h7a.ac.frozen 4
      have h7 := h7a.tell (j := 4) (v := .int .i64 (m.val t n.a)) (d' := ⟨t, i, n.kind, n.thing, m.val t n.a, 0⟩) rfl
      have HS6 := Lib.hid h7
      clear hb6 h7a h7 HLM HLV
      go_upto_region 32 with fail
      have h7 := HS6.out
      obtain ⟨x7, hx⟩ : ∃ x, x7a.setCell ⟨x4.heap.size, 4, none⟩ (.int .i64 (m.val t n.a)) = x := ⟨_, rfl⟩
      rw [hx] at h7 ⊢
      clear hx y4 f4 HS6
      have ya : x7.cell? ⟨x4.heap.size, 4, none⟩ = some (.int .i64 (m.val t n.a)) := h7.ac.cell 4
      have y11 : x7.cell? ⟨w3.heap.size, 11, none⟩ = some (.int .i64 n.els) := h7.nd.cell 11
      have H7 := Lib.hid h7
      clear h7
      by_cases hz : m.val t n.a = 0
      · have e0 : (m.val t n.a == 0) = true := by simp [hz]
        have HZ := Lib.hid hz
        clear hz
        go_wp2
        go_meet
        refine ⟨⟨t, i, n.kind, n.thing, m.val t n.a, 0⟩, .slice pA1 m.prints.length pc1, by rw [HA.out.2.2, if_pos HZ.out], Lib.hid (by rw [HA.out.2.1, HND.out.1.thing0 (by have := HKD.out; omega)]), Lib.hid ?_⟩
        rw [HA.out.1]
        exact H7.out
      · have e0 : (m.val t n.a == 0) = false := by simp [hz]
        have HZ := Lib.hid hz
        clear hz
        go_wp2
        go_meet
        refine ⟨⟨t, i, n.kind, n.thing, m.val t n.a, 0⟩, .slice pA1 m.prints.length pc1, by rw [HA.out.2.2, if_neg HZ.out], Lib.hid (by rw [HA.out.2.1, HND.out.1.thing0 (by have := HKD.out; omega)]), Lib.hid ?_⟩
        rw [HA.out.1]
        exact H7.out
  case rest =>
    obtain ⟨d, vp2, rfl, HD, HSW⟩ := hcut
    obtain ⟨pA3, pc3, rfl, -⟩ := own_slice HSW.out.ro.prints
    have htl : t < m.at_.length := (List.getElem?_eq_some_iff.1 HS.out.pc).1
    have hal : (actM m t n).at_ = m.at_ := (actM_sizes HK.out.2.2.1 t n).1
    obtain ⟨b2, cc2, xx, he, s1, s2⟩ := HSW.out.atAt (j := t) (by rw [hal]; exact htl)
    injection he with he1 he2 he3
    injection he1 with he1
    injection he1 with he1 _ _
    subst he1
    clear he2 he3
    have y3 : wc.cell? ⟨w.heap.size, 3, none⟩ = some (.slice (some ⟨ab, 0, none⟩) m.at_.length ac1) := HSW.out.b0.cell 3
    have hnx : 0 ≤ actN m t n := by
      have hnd := ndF ((HK.out.1.graphs gr (List.mem_of_getElem? HS.out.gr)).nodes n (List.mem_of_getElem? HS.out.nd))
      have hk := hnd.kind
      have h9 : n.kind ≠ 9 := fun e => by have hb := HK.out.2.2.2.2.2.1; unfold barN at hb; rw [if_pos e] at hb; cases hb
      unfold actN
      split
      · rename_i h8; exact (hnd.els h8.1).1
      · exact (hnd.next (by omega)).1
    obtain ⟨N, hN⟩ := Int.eq_ofNat_of_zero_le hnx
    have HN := Lib.hid hN
    rw [hN]
    clear hnx hN htl z0 z10
    go_upto_region 35 with fail
    have h9 := HSW.out.setAt (j := t) rfl N
    obtain ⟨x9, hx⟩ : ∃ x, wc.setCell ⟨ab, t, none⟩ (.int .i64 N) = x := ⟨_, rfl⟩
    rw [hx] at h9 ⊢
    clear hx y3 s1 s2
    refine wp_act0 fun a0 ha0 => ?_
    have t2 : a0.eval (.tmp 2) = .pointer (some ⟨w.heap.size, 0, none⟩) := by rw [ha0]; rfl
    have t4 : a0.eval (.tmp 4) = .pointer (some ⟨w.heap.size + 1, 0, none⟩) := by rw [ha0]; rfl
    have t5 : a0.eval (.tmp 5) = .pointer (some ⟨w.heap.size + 1 + 1, 0, none⟩) := by rw [ha0]; rfl
    have t9 : a0.eval (.tmp 9) = .pointer (some ⟨x4.heap.size, 0, none⟩) := by rw [ha0]; rfl
    have hsz : a0.tmps.size = 174 := by rw [ha0]; rfl
    have HA0 := Lib.hid ha0; clear ha0
    refine wp_region_inv (R35 w x4.heap.size (.slice sA u.shared.length sc) (.slice lA u.locks.length lc) (.slice gA u.graphs.length gc) (.slice (some ⟨ab, 0, none⟩) m.at_.length ac1) (.slice oA1 m.slots.length oc1) (.slice mA1 m.mem.length mc1) (.slice hA1 m.holders.length hc1) (.slice pA3 (actM m t n).prints.length pc3) vs d { actM m t n with at_ := (actM m t n).at_.set t N } a0) (by kernel_rfl) (by kernel_rfl) ?start ?steps ?done
    case start => exact ⟨Fr.refl _ _, h9.bel.trans ((Below.refl _ x9).drew.mono h9.bel.size), h9.b0, h9.ac, h9.ro.below (Below.refl _ x9).drew, fun hd => (by cases hd), fun hd => (by cases hd), fun hd => (by cases hd), ⟨_, h9.b1, rfl, fun hd => (by cases hd)⟩, ⟨_, h9.b2, rfl, fun hd => (by cases hd)⟩⟩
    case steps =>
      refine steps_all ?_
      refine ⟨?_, ?_, ?_, ?_, ?_, trivial⟩
      · -- 0
        intro D a wx K hD hp h hK
        refine step_wp rfl ?_
        refine wp_load_at 35 _ rfl w.heap.size 0 ((h.fr.eval (j := 2) (by decide)).trans t2) [.slice sA u.shared.length sc, .slice lA u.locks.length lc, .slice gA u.graphs.length gc, .slice (some ⟨ab, 0, none⟩) m.at_.length ac1, .slice oA1 m.slots.length oc1, .slice mA1 m.mem.length mc1, .slice hA1 m.holders.length hc1, .slice pA3 (actM m t n).prints.length pc3] _ (fun j v hj => by rw [Nat.zero_add, h.b0.cell]; exact hj) Tryz.underlying35 rfl (by kernel_rfl) ?_
        exact hK _ _ ⟨h.fr.put (by decide) _, h.bel, h.b0, h.ac, h.ro, fun _ => h.fr.eval_put (by rw [hsz]; decide) _, by simpa [upD, eval_put_ne] using h.s1, by simpa [upD, eval_put_ne] using h.s4, by obtain ⟨z, q1, q2, q3⟩ := h.s2; exact ⟨z, q1, q2, fun hd => q3 (by rwa [upD_ne _ (by decide)] at hd)⟩, by obtain ⟨z, q1, q2, q3⟩ := h.s3; exact ⟨z, q1, q2, fun hd => q3 (by rwa [upD_ne _ (by decide)] at hd)⟩⟩
      · -- 1
        intro D a wx K hD hp h hK
        refine step_wp rfl ?_
        refine wp_load_at 41 _ rfl x4.heap.size 0 ((h.fr.eval (j := 9) (by decide)).trans t9) d.cells _ (fun j v hj => by rw [Nat.zero_add, h.ac.cell]; exact hj) Tryz.underlying41 rfl (by kernel_rfl) ?_
        exact hK _ _ ⟨h.fr.put (by decide) _, h.bel, h.b0, h.ac, h.ro, by simpa [upD, eval_put_ne] using h.s0, fun _ => h.fr.eval_put (by rw [hsz]; decide) _, by simpa [upD, eval_put_ne] using h.s4, by obtain ⟨z, q1, q2, q3⟩ := h.s2; exact ⟨z, q1, q2, fun hd => q3 (by rwa [upD_ne _ (by decide)] at hd)⟩, by obtain ⟨z, q1, q2, q3⟩ := h.s3; exact ⟨z, q1, q2, fun hd => q3 (by rwa [upD_ne _ (by decide)] at hd)⟩⟩
      · -- 2
        intro D a wx K hD hp h hK
        refine step_wp rfl ?_
        obtain ⟨z, q1, q2, -⟩ := h.s2
        have f1 := h.s0 (hp 0 (by decide))
        refine wp_store_row 35 _ _ rfl (w.heap.size + 1) ([.slice sA u.shared.length sc, .slice lA u.locks.length lc, .slice gA u.graphs.length gc, .slice (some ⟨ab, 0, none⟩) m.at_.length ac1, .slice oA1 m.slots.length oc1, .slice mA1 m.mem.length mc1, .slice hA1 m.holders.length hc1, .slice pA3 (actM m t n).prints.length pc3] : List Value).toArray ((h.fr.eval (j := 4) (by decide)).trans t4) f1 35 z.toArray q1 (by kernel_rfl) (by simp [q2]) (by simp [Value.oneCell']) ?_
        obtain ⟨y, p1, p2, p3⟩ := h.s3
        refine hK _ _ ⟨h.fr, below_row h.bel (by omega) _, (heap_setRow_ne (by omega) _).trans h.b0, (heap_setRow_ne (by have := h9.ab3; omega) _).trans h.ac, h.ro.fr (FrW.setRow (S := fun q => q = w.heap.size + 1) wx rfl _) (fun b hb e => by omega), by simpa [upD, put_none] using h.s0, by simpa [upD, put_none] using h.s1, by simpa [upD, put_none] using h.s4, ⟨_, Blk.setRow (cs' := [.slice sA u.shared.length sc, .slice lA u.locks.length lc, .slice gA u.graphs.length gc, .slice (some ⟨ab, 0, none⟩) m.at_.length ac1, .slice oA1 m.slots.length oc1, .slice mA1 m.mem.length mc1, .slice hA1 m.holders.length hc1, .slice pA3 (actM m t n).prints.length pc3]) q1, rfl, fun _ => rfl⟩, ⟨y, (heap_setRow_ne (by omega) _).trans p1, p2, fun hd => p3 (by rwa [upD_ne _ (by decide)] at hd)⟩⟩
      · -- 3
        intro D a wx K hD hp h hK
        refine step_wp rfl ?_
        obtain ⟨z, q1, q2, -⟩ := h.s3
        have f1 := h.s1 (hp 1 (by decide))
        refine wp_store_row 41 _ _ rfl (w.heap.size + 2) d.cells.toArray ((h.fr.eval (j := 5) (by decide)).trans t5) f1 41 z.toArray q1 (by kernel_rfl) (by simp [q2, Did.cells]) (by simp [Value.oneCell', Did.cells]) ?_
        obtain ⟨y, p1, p2, p3⟩ := h.s2
        refine hK _ _ ⟨h.fr, below_row h.bel (by omega) _, (heap_setRow_ne (by omega) _).trans h.b0, (heap_setRow_ne (by have := h9.ab3; omega) _).trans h.ac, h.ro.fr (FrW.setRow (S := fun q => q = w.heap.size + 2) wx rfl _) (fun b hb e => by omega), by simpa [upD, put_none] using h.s0, by simpa [upD, put_none] using h.s1, by simpa [upD, put_none] using h.s4, ⟨y, (heap_setRow_ne (by omega) _).trans p1, p2, fun hd => p3 (by rwa [upD_ne _ (by decide)] at hd)⟩, ⟨_, Blk.setRow (cs' := d.cells) q1, rfl, fun _ => rfl⟩⟩
      · -- 4
        intro D a wx K hD hp h hK
        refine step_wp rfl ?_
        refine wp_assign_at rfl ?_
        exact hK _ _ ⟨h.fr.put (by decide) _, h.bel, h.b0, h.ac, h.ro, by simpa [upD, eval_put_ne] using h.s0, by simpa [upD, eval_put_ne] using h.s1, fun _ => h.fr.eval_put (by rw [hsz]; decide) _, by obtain ⟨z, q1, q2, q3⟩ := h.s2; exact ⟨z, q1, q2, fun hd => q3 (by rwa [upD_ne _ (by decide)] at hd)⟩, by obtain ⟨z, q1, q2, q3⟩ := h.s3; exact ⟨z, q1, q2, fun hd => q3 (by rwa [upD_ne _ (by decide)] at hd)⟩⟩
    case done =>
      intro D a wz hall h
      have hd : ∀ i, i < 5 → D i = true := hall
      have hfin := (((h.fr.shut (by rw [hsz]; decide)).shut (by simp [Act.put, hsz])).shut (by simp [Act.put, hsz])).done
      rw [h.s0 (hd 0 (by decide)), h.s1 (hd 1 (by decide)), h.s4 (hd 4 (by decide))] at hfin
      obtain ⟨z, q1, -, q3⟩ := h.s2
      obtain rfl := q3 (hd 2 (by decide))
      obtain ⟨y, p1, -, p3⟩ := h.s3
      obtain rfl := p3 (hd 3 (by decide))
      rw [hfin, HA0.out]
      have HF := Lib.hid (And.intro h.bel h.ro)
      have e0 := q1.cell 0
      have e1 := q1.cell 1
      have e2 := q1.cell 2
      have e3 := q1.cell 3
      have e4 := q1.cell 4
      have e5 := q1.cell 5
      have e6 := q1.cell 6
      have e7 := q1.cell 7
      have f0 := p1.cell 0
      have f1 := p1.cell 1
      have f2 := p1.cell 2
      have f3 := p1.cell 3
      have f4 := p1.cell 4
      have f5 := p1.cell 5
      clear hfin HA0 h hall hd q1 p1 q3 p3 t2 t4 t5 t9 hsz h9
      simp only [Act.put, List.setIfInBounds_toArray, List.set_cons_zero, List.set_cons_succ]
      go_wp2
      refine bodyPost_ret (v := .tuple #[.agg ([.slice sA u.shared.length sc, .slice lA u.locks.length lc, .slice gA u.graphs.length gc, .slice (some ⟨ab, 0, none⟩) m.at_.length ac1, .slice oA1 m.slots.length oc1, .slice mA1 m.mem.length mc1, .slice hA1 m.holders.length hc1, .slice pA3 (actM m t n).prints.length pc3] : List Value).toArray, .agg d.cells.toArray, .int .i64 0]) (by simp [results, Tryz.results9, go_sem, Did.cells, e0, e1, e2, e3, e4, e5, e6, e7, f0, f1, f2, f3, f4, f5]) rfl ⟨[.slice sA u.shared.length sc, .slice lA u.locks.length lc, .slice gA u.graphs.length gc, .slice (some ⟨ab, 0, none⟩) m.at_.length ac1, .slice oA1 m.slots.length oc1, .slice mA1 m.mem.length mc1, .slice hA1 m.holders.length hc1, .slice pA3 (actM m t n).prints.length pc3], by rw [← HD.out], ⟨_, _, _, _, _, _, _, _, rfl, ?_⟩, HF.out.1⟩
      have hr2 := HF.out.2.refS (u := u) (S := fun b => S b ∨ w.heap.size ≤ b) (su := .slice sA u.shared.length sc) (lu := .slice lA u.locks.length lc) (gu := .slice gA u.graphs.length gc) (HR.out.unit.mono (on_keep (fun b hb hlt => HF.out.1.block b hlt) (fun b hb => .inl hb))) (fun b hb => .inr (by omega))
      have hal2 : (actM m t n).at_ = m.at_ := (actM_sizes HK.out.2.2.1 t n).1
      rw [hal2] at hr2
      rw [show (actN m t n).toNat = N by rw [HN.out]; rfl]
      exact hr2
end Go.Proofs.YtmkpjiahkepigaaGreat
/- The reference's Step, of whatever thread. -/
namespace Go.Proofs.YtmkpjiahkepigaaGreat
open Go Go.RowKit
theorem r7step_calls (cs : List Value) (u : Unit_) (m : Mach) (t : Int) (w : World) (S : Nat → Prop) (h : RefV (on w S) cs u m) (hu : RightU u) (hz : SizeU u) (huo : UOk u) (hs : Situ u m) (hp : m.prints.length < 4294967295) :
    Calls Tryz.prog 9 #[.agg cs.toArray, .int .i64 t] w fun e w' => ∃ cs', e = .returned (.tuple #[.agg cs'.toArray, .agg (stepD u m t).cells.toArray, .int .i64 (barF u m t)]) ∧ RefV (on w' (fun b => S b ∨ w.heap.size ≤ b)) cs' u (stepM u m t) ∧ Below w.heap.size w w' := by
  by_cases hb0 : barF u m t = 0
  · obtain ⟨t, rfl, ht⟩ := bar_out hs.ok (by rw [hb0]; decide)
    obtain ⟨gr, i, n, hst⟩ := stands_at hs.ok ht
    rw [hb0]
    rw [hst.bar hs.ok] at hb0
    rw [hst.step hs.ok hb0, hst.did hs.ok hb0]
    exact r7step_good cs u m t i gr n w S h hu hz hs.ok hs.mi hst (huo gr (List.mem_of_getElem? hst.gr) n (List.mem_of_getElem? hst.nd)) hb0 hp
  · exact r7step_bad cs u m t w S h hu hs.ok hb0
end Go.Proofs.YtmkpjiahkepigaaGreat
