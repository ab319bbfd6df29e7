import Derived.Test.YtmkpjiahkepigaaGreatP70
import Derived.Test.YtmkpjiahkepigaaGreatP40
import Derived.StillTailTactics
/- The reference's machine, a value of eight slices, read as Mach. -/
namespace Go.Proofs.YtmkpjiahkepigaaGreat
open Go Go.RowKit
structure RefS (mp : CM) (su lu gu va vo vm vh vp : Value) (u : Unit_) (m : Mach) : Prop where
  unit : UnitV mp [su, lu, gu] u
  at_ : Ints mp va (m.at_.map Int.ofNat)
  slots : Ints2 mp vo m.slots
  mem : Ints mp vm m.mem
  hold : Ints mp vh m.holders
  prints : PrintsV mp vp m.prints
def RefV (mp : CM) (cs : List Value) (u : Unit_) (m : Mach) : Prop := ∃ su lu gu va vo vm vh vp, cs = [su, lu, gu, va, vo, vm, vh, vp] ∧ RefS mp su lu gu va vo vm vh vp u m
theorem RefS.mono {mp mp' : CM} {su lu gu va vo vm vh vp : Value} {u : Unit_} {m : Mach} (h : RefS mp su lu gu va vo vm vh vp u m) (hm : mp.le mp') : RefS mp' su lu gu va vo vm vh vp u m :=
  ⟨h.unit.mono hm, h.at_.mono hm, h.slots.mono hm, h.mem.mono hm, h.hold.mono hm, h.prints.mono hm⟩
theorem RefV.mono {mp mp' : CM} {cs : List Value} {u : Unit_} {m : Mach} (h : RefV mp cs u m) (hm : mp.le mp') : RefV mp' cs u m := by
  obtain ⟨su, lu, gu, va, vo, vm, vh, vp, e, h⟩ := h
  exact ⟨su, lu, gu, va, vo, vm, vh, vp, e, h.mono hm⟩
/-- Where a thread stands, in cells. -/
structure RefAt (mp : CM) (gu va : Value) (u : Unit_) (m : Mach) (t : Nat) (g : Graph) (i : Nat) (n : Node) (gb go_ gc ab ao ac nb no nc : Nat) : Prop where
  gu : gu = .slice (some ⟨gb, go_, none⟩) u.graphs.length gc
  va : va = .slice (some ⟨ab, ao, none⟩) m.at_.length ac
  cg : mp gb (go_ + t * 4 + 3) = some (.slice (some ⟨nb, no, none⟩) g.nodes.length nc)
  ca : mp ab (ao + t) = some (.int .i64 (i : Int))
  cn : ∀ j v, n.cells[j]? = some v → mp nb (no + i * 13 + j) = some v
theorem RefS.stands {mp : CM} {su lu gu va vo vm vh vp : Value} {u : Unit_} {m : Mach} (h : RefS mp su lu gu va vo vm vh vp u m) {t : Nat} {g : Graph} {i : Nat} {n : Node} (hs : Stands u m t g i n) : ∃ gb go_ gc ab ao ac nb no nc, RefAt mp gu va u m t g i n gb go_ gc ab ao ac nb no nc := by
  obtain ⟨_, _, _, e, -, -, hg⟩ := h.unit
  injection e with _ e
  injection e with _ e
  injection e with e _
  subst e
  obtain ⟨gA, gc, rfl, -⟩ := id hg
  obtain ⟨aA, ac, rfl, -⟩ := id h.at_
  obtain ⟨gb, go_, rfl, c1, ⟨v1, rfl, hn1⟩, hg1⟩ := hg.at_ hs.gr
  obtain ⟨A1, nc, rfl, -⟩ := id hn1
  obtain ⟨nb, no, rfl, hx⟩ := hn1.at_ hs.nd
  obtain ⟨ab, ao, rfl, ha⟩ := h.at_.at_ (i := t) (x := (i : Int)) (by rw [List.getElem?_map, hs.pc]; rfl)
  rw [Nat.mul_one] at ha
  exact ⟨gb, go_, gc, ab, ao, ac, nb, no, nc, rfl, by rw [List.length_map], hg1 3 _ rfl, ha, hx⟩
end Go.Proofs.YtmkpjiahkepigaaGreat
/- The reference's Next. -/
namespace Go.Proofs.YtmkpjiahkepigaaGreat
open Go Go.RowKit
set_option maxRecDepth 100000 in
set_option maxHeartbeats 2000000 in
theorem rnext_calls (cs : List Value) (u : Unit_) (m : Mach) (t : Nat) (g : Graph) (i : Nat) (n : Node) (w : World) (h : RefV (cmap w) cs u m) (hs : Stands u m t g i n) :
    Calls Tryz.prog 36 #[.agg cs.toArray, .int .i64 (t : Int)] w fun e w' => e = .returned (.agg n.cells.toArray) ∧ Below w.heap.size w w' := by
  obtain ⟨su, lu, gu, va, vo, vm, vh, vp, rfl, hr⟩ := h
  obtain ⟨gb, go_, gc, ab, ao, ac, nb, no, nc, hA⟩ := hr.stands hs
  obtain ⟨rfl, rfl, cg, ca, cn⟩ := hA
  have t0 : (0 : Int) ≤ t := by omega
  have t1 : (t : Int) < u.graphs.length := by have := (List.getElem?_eq_some_iff.1 hs.gr).1; omega
  have t2 : (t : Int) < m.at_.length := by have := (List.getElem?_eq_some_iff.1 hs.pc).1; omega
  have i0 : (0 : Int) ≤ i := by omega
  have i1 : (i : Int) < g.nodes.length := by have := (List.getElem?_eq_some_iff.1 hs.nd).1; omega
  obtain ⟨wn, hwn⟩ : ∃ wn, (w.alloc (.cells #[su, lu, .slice (some ⟨gb, go_, none⟩) u.graphs.length gc, .slice (some ⟨ab, ao, none⟩) m.at_.length ac, vo, vm, vh, vp] 35)).alloc (.cells #[.int .u8 0, .int .u8 0, .int .i64 0, .int .i64 0, .bool false, .int .i64 0, .int .i64 0, .bool false, .int .i64 0, .int .i64 0, .int .i64 0, .int .i64 0, .int .i64 0] 53) = wn := ⟨_, rfl⟩
  have hb : Below w.heap.size w wn := by rw [← hwn]; exact (Below_alloc' w _).alloc (by simp) _
  have hx : Blk wn w.heap.size 35 [su, lu, .slice (some ⟨gb, go_, none⟩) u.graphs.length gc, .slice (some ⟨ab, ao, none⟩) m.at_.length ac, vo, vm, vh, vp] := by rw [← hwn]; exact (Blk.new w _ _).alloc _
  have hy : Blk wn (w.heap.size + 1) 53 [.int .u8 0, .int .u8 0, .int .i64 0, .int .i64 0, .bool false, .int .i64 0, .int .i64 0, .bool false, .int .i64 0, .int .i64 0, .int .i64 0, .int .i64 0, .int .i64 0] := by rw [← hwn]; exact Blk.of (heap_new (w.alloc _) _ _ (by simp)) rfl
  have q2 := hx.cell 2
  have q3 := hx.cell 3
  have k3 : wn.cell? ⟨gb, go_ + t * 4 + 3, none⟩ = some (.slice (some ⟨nb, no, none⟩) g.nodes.length nc) := cmap_below hb _ _ _ cg
  have k4 : wn.cell? ⟨ab, ao + t, none⟩ = some (.int .i64 (i : Int)) := cmap_below hb _ _ _ ca
  obtain ⟨d0, d1, d2, d3, d4, d5, d6, d7, d8, d9, d10, d11, d12⟩ := node13 (w := wn) (b := nb) (o := no + i * 13) (n := n) (fun j v hj => cmap_below hb _ _ _ (cn j v hj))
  have HW := Lib.hid hwn
  have HB := Lib.hid hb
  have HY := Lib.hid hy
  clear cg ca cn hx hy hb hwn hr
  go_enter Tryz.func36, Tryz.ntmps36
  go_wp2
  rw [HW.out]
  go_still_tail 14, (by kernel_rfl)
  change wpList _ _ _ _ _ (World.drew wn)
  refine wpList_plain rfl fun K hK => wp_store_row 53 _ _ rfl (w.heap.size + 1) n.cells.toArray rfl rfl 53 _ HY.out (by kernel_rfl) rfl (by simp [Node.cells, Value.oneCell']) (hK _ _ ?_)
  have hz : Blk ((World.drew wn).setRow (w.heap.size + 1) n.cells.toArray) (w.heap.size + 1) 53 n.cells := Blk.setRow (w := World.drew wn) (cs' := n.cells) HY.out
  have hbz : Below w.heap.size w ((World.drew wn).setRow (w.heap.size + 1) n.cells.toArray) := below_row (HB.out.trans (Below.refl _ wn).drew) (by omega) _
  have e0 := hz.cell 0
  have e1 := hz.cell 1
  have e2 := hz.cell 2
  have e3 := hz.cell 3
  have e4 := hz.cell 4
  have e5 := hz.cell 5
  have e6 := hz.cell 6
  have e7 := hz.cell 7
  have e8 := hz.cell 8
  have e9 := hz.cell 9
  have e10 := hz.cell 10
  have e11 := hz.cell 11
  have e12 := hz.cell 12
  have HF := Lib.hid hbz
  clear hz hbz
  obtain ⟨wz, hwz⟩ : ∃ wz, (World.drew wn).setRow (w.heap.size + 1) n.cells.toArray = wz := ⟨_, rfl⟩
  rw [hwz] at HF e0 e1 e2 e3 e4 e5 e6 e7 e8 e9 e10 e11 e12 ⊢
  simp only [put_none]
  clear hwz d0 d1 d2 d3 d4 d5 d6 d7 d8 d9 d10 d11 d12 q2 q3 k3 k4
  go_wp2
  exact bodyPost_ret (v := .agg n.cells.toArray) (by simp [results, Tryz.results36, go_sem, e0, e1, e2, e3, e4, e5, e6, e7, e8, e9, e10, e11, e12, Node.cells]) rfl ⟨rfl, HF.out⟩
end Go.Proofs.YtmkpjiahkepigaaGreat
/- The reference's Why and value. -/
namespace Go.Proofs.YtmkpjiahkepigaaGreat
open Go Go.RowKit
set_option maxRecDepth 100000 in
set_option maxHeartbeats 2000000 in
theorem r7value_calls (cs : List Value) (u : Unit_) (m : Mach) (t : Nat) (v : Val) (l : List Int) (w : World) (h : RefV (cmap w) cs u m) (hl : m.slots[t]? = some l) (hv : v.isSlot = true → 0 ≤ v.slot ∧ v.slot < l.length) :
    Calls Tryz.prog 38 #[.agg cs.toArray, .int .i64 (t : Int), .agg #[.bool v.isSlot, .int .i64 v.slot, .int .i64 v.word]] w fun e w' => e = .returned (.int .i64 (m.val t v)) ∧ Below w.heap.size w w' := by
  obtain ⟨su, lu, gu, va, vo, vm, vh, vp, rfl, hr⟩ := h
  obtain ⟨vs, vsl, vw⟩ := v
  simp only at hv
  have hb : Below w.heap.size w ((w.alloc (.cells #[su, lu, gu, va, vo, vm, vh, vp] 35)).alloc (.cells #[.bool vs, .int .i64 vsl, .int .i64 vw] 51)) := (Below_alloc' w _).alloc (by simp) _
  have HB := Lib.hid hb
  cases vs with
  | false =>
    have e : m.val t ⟨false, vsl, vw⟩ = vw := rfl
    rw [e]
    clear hv hr hb
    go_enter Tryz.func38, Tryz.ntmps38
    go_wp2
    go_ret
    exact ⟨rfl, HB.out⟩
  | true =>
    obtain ⟨j, rfl⟩ := Int.eq_ofNat_of_zero_le (hv rfl).1
    have hj : j < l.length := by have := (hv rfl).2; omega
    obtain ⟨x, hx⟩ : ∃ x, l[j]? = some x := ⟨_, List.getElem?_eq_getElem hj⟩
    have e : m.val t ⟨true, (j : Int), vw⟩ = x := by
      unfold Mach.val Mach.slot
      rw [if_pos rfl, hl]
      simp [hx]
    rw [e]
    obtain ⟨oA, oc, rfl, -⟩ := id hr.slots
    obtain ⟨ob, oo, rfl, v1, hv1, hi1⟩ := hr.slots.at_ hl
    obtain ⟨lA, lc, rfl, -⟩ := id hi1
    obtain ⟨lb, lo, rfl, hxc⟩ := hi1.at_ hx
    rw [Nat.mul_one] at hv1 hxc
    have t0 : (0 : Int) ≤ t := by omega
    have t1 : (t : Int) < m.slots.length := by have := (List.getElem?_eq_some_iff.1 hl).1; omega
    have j0 : (0 : Int) ≤ j := by omega
    have j1 : (j : Int) < l.length := by omega
    obtain ⟨wn, hwn⟩ : ∃ wn, (w.alloc (.cells #[su, lu, gu, va, .slice (some ⟨ob, oo, none⟩) m.slots.length oc, vm, vh, vp] 35)).alloc (.cells #[.bool true, .int .i64 (j : Int), .int .i64 vw] 51) = wn := ⟨_, rfl⟩
    have hbn : Below w.heap.size w wn := by rw [← hwn]; exact hb
    have hx0 : Blk wn w.heap.size 35 [su, lu, gu, va, .slice (some ⟨ob, oo, none⟩) m.slots.length oc, vm, vh, vp] := by rw [← hwn]; exact (Blk.new w _ _).alloc _
    have hy0 : Blk wn (w.heap.size + 1) 51 [.bool true, .int .i64 (j : Int), .int .i64 vw] := by rw [← hwn]; exact Blk.of (heap_new (w.alloc _) _ _ (by simp)) rfl
    have q4 := hx0.cell 4
    have p0 := hy0.cell 0
    have p1 := hy0.cell 1
    have k1 : wn.cell? ⟨ob, oo + t, none⟩ = some (.slice (some ⟨lb, lo, none⟩) l.length lc) := cmap_below hbn _ _ _ hv1
    have k2 : wn.cell? ⟨lb, lo + j, none⟩ = some (.int .i64 x) := cmap_below hbn _ _ _ hxc
    have HBN := Lib.hid hbn
    have HW := Lib.hid hwn
    clear hv1 hxc hi1 hr hv hb HB hx0 hy0 hbn hwn hj e hl hx
    go_enter Tryz.func38, Tryz.ntmps38
    go_upto_region 1 with fail
    rw [HW.out]
    go_wp2_with fail
    go_quiet (fail)
    go_wp2
    go_ret
    exact ⟨rfl, HBN.out.trans ((Below_drewN wn _).mono HBN.out.size)⟩
set_option maxRecDepth 100000 in
set_option maxHeartbeats 2000000 in
theorem r7why_calls (cs : List Value) (u : Unit_) (m : Mach) (t : Int) (w : World) (h : RefV (cmap w) cs u m) (hu : RightU u) (hok : MachOk u m) :
    Calls Tryz.prog 34 #[.agg cs.toArray, .int .i64 t] w fun e w' => e = .returned (.int .i64 (barF u m t)) ∧ Below w.heap.size w w' := by
  have h0 := h
  obtain ⟨su, lu, gu, va, vo, vm, vh, vp, rfl, hr⟩ := h
  obtain ⟨aA, ac, rfl, -⟩ := id hr.at_
  obtain ⟨hA, hc, rfl, -⟩ := id hr.hold
  rw [List.length_map] at *
  by_cases hr0 : t < 0 ∨ (u.graphs.length : Int) ≤ t
  · rw [bar_in hok hr0]
    have hl : m.at_.length = u.graphs.length := hok.at_
    have HB := Lib.hid (Below_alloc' w (.cells #[su, lu, gu, .slice aA m.at_.length ac, vo, vm, .slice hA m.holders.length hc, vp] 35))
    by_cases hn : t < 0
    · have d0 : decide (t < 0) = true := decide_eq_true hn
      clear hr h0 hl hr0
      go_enter Tryz.func34, Tryz.ntmps34
      go_wp2
      go_ret
      exact ⟨rfl, HB.out⟩
    · have d0 : decide (t < 0) = false := decide_eq_false hn
      have d1 : decide (t ≥ (m.at_.length : Int)) = true := decide_eq_true (by omega)
      clear hr h0 hl hr0
      go_enter Tryz.func34, Tryz.ntmps34
      go_wp2
      go_ret
      exact ⟨rfl, HB.out⟩
  · obtain ⟨k, rfl⟩ := Int.eq_ofNat_of_zero_le (show 0 ≤ t by omega)
    have hk : k < u.graphs.length := by omega
    obtain ⟨g, i, n, hs⟩ := stands_at hok hk
    rw [hs.bar hok]
    have hl : m.at_.length = u.graphs.length := hok.at_
    have d0 : decide ((k : Int) < 0) = false := decide_eq_false (by omega)
    have d1 : decide ((k : Int) ≥ (m.at_.length : Int)) = false := decide_eq_false (by omega)
    have k1 : (k : Int) < m.at_.length := by omega
    have k2 : ¬ ((m.at_.length : Int) ≤ k) := by omega
    have k3 : k < m.at_.length := by omega
    have k4 : ¬ (m.at_.length ≤ k) := by omega
    have hnF := ndF ((hu.graphs g (List.mem_of_getElem? hs.gr)).nodes n (List.mem_of_getElem? hs.nd))
    have hB0 := Below_alloc' w (.cells #[su, lu, gu, .slice aA m.at_.length ac, vo, vm, .slice hA m.holders.length hc, vp] 35)
    have hx0 := Blk.new w 35 [su, lu, gu, .slice aA m.at_.length ac, vo, vm, .slice hA m.holders.length hc, vp]
    have HL : ∀ wr, Blk wr w.heap.size 35 [su, lu, gu, .slice aA m.at_.length ac, vo, vm, .slice hA m.holders.length hc, vp] → Hid (∀ j v, ([su, lu, gu, .slice aA m.at_.length ac, vo, vm, .slice hA m.holders.length hc, vp] : List Value)[j]? = some v → wr.cell? ⟨w.heap.size, 0 + j, none⟩ = some v) := fun wr h => Lib.hid fun j v hj => by rw [Nat.zero_add, h.cell]; exact hj
    have HLD := HL _ hx0
    have HNX := Lib.hid (rnext_calls _ u m k g i n _ (h0.mono (cmap_below hB0)) hs)
    have HH := Lib.hid (And.intro hr.hold (And.intro hnF hok))
    have HX := Lib.hid (And.intro hx0 hB0)
    clear hr h0 hl hr0 hnF hk hB0 hx0 HL
    obtain ⟨nk, nop, nsl, nth, ⟨a1, a2, a3⟩, ⟨b1, b2, b3⟩, nn, ne_, no⟩ := n
    unfold Node.cells at HNX
    by_cases h9 : nk = 9
    · subst h9
      have e9 : barN m ⟨9, nop, nsl, nth, ⟨a1, a2, a3⟩, ⟨b1, b2, b3⟩, nn, ne_, no⟩ = 70 := rfl
      rw [e9]
      clear e9
      go_enter Tryz.func34, Tryz.ntmps34
      go_wp2_with (first
        | (refine wpList_load_at rfl 35 _ rfl w.heap.size 0 rfl _ _ HLD.out Tryz.underlying35 rfl (by kernel_rfl) ?_))
      refine HNX.out.mono ?_
      rintro e w2 ⟨rfl, hb2⟩
      have HB := Lib.hid ((HX.out.2.trans (hb2.mono HX.out.2.size)).alloc (by have h1 := HX.out.2.size; have h2 := hb2.size; omega) (.cells #[.int .u8 9, .int .u8 nop, .int .i64 nsl, .int .i64 nth, .bool a1, .int .i64 a2, .int .i64 a3, .bool b1, .int .i64 b2, .int .i64 b3, .int .i64 nn, .int .i64 ne_, .int .i64 no] 53))
      clear hb2
      go_wp2
      go_ret
      exact ⟨rfl, HB.out⟩
    · have q9 : (nk == 9) = false := by simp [h9]
      have HOK := Lib.hid HH.out.2.2.holders
      by_cases h5 : nk = 5
      · subst h5
        have hth := HH.out.2.1.lock (.inl rfl)
        simp only at hth
        obtain ⟨q, rfl⟩ := Int.eq_ofNat_of_zero_le hth.1
        have hq : q < m.holders.length := by have := HOK.out; omega
        obtain ⟨x, hx⟩ : ∃ x, m.holders[q]? = some x := ⟨_, List.getElem?_eq_getElem hq⟩
        obtain ⟨hb, ho, rfl, hxc⟩ := HH.out.1.at_ hx
        rw [Nat.mul_one] at hxc
        obtain ⟨r, hr⟩ : ∃ r, decide (x ≥ 0) = r := ⟨_, rfl⟩
        have e5 : barN m ⟨5, nop, nsl, q, ⟨a1, a2, a3⟩, ⟨b1, b2, b3⟩, nn, ne_, no⟩ = if r = true then 71 else 0 := by
          unfold barN
          simp only [Int.toNat_natCast, hx, ← hr]
          by_cases hx0 : 0 ≤ x <;> simp [hx0]
        rw [e5]
        have z0 : (0 : Int) ≤ q := by omega
        have z1 : (q : Int) < m.holders.length := by omega
        have HXC := Lib.hid hxc
        clear e5 hth hx hxc h9 HH hq
        cases r
        all_goals (
          go_enter Tryz.func34, Tryz.ntmps34
          go_wp2_with (first
            | (refine wpList_load_at rfl 35 _ rfl w.heap.size 0 rfl _ _ HLD.out Tryz.underlying35 rfl (by kernel_rfl) ?_))
          refine HNX.out.mono ?_
          rintro e w2 ⟨rfl, hb2⟩
          have hbb := HX.out.2.trans (hb2.mono HX.out.2.size)
          have hbz := hbb.alloc (by have h1 := hbb.size; omega) (.cells #[.int .u8 5, .int .u8 nop, .int .i64 nsl, .int .i64 (q : Int), .bool a1, .int .i64 a2, .int .i64 a3, .bool b1, .int .i64 b2, .int .i64 b3, .int .i64 nn, .int .i64 ne_, .int .i64 no] 53)
          have c4 := (((HX.out.1.below hb2 HX.out.1.lt).alloc (.cells #[.int .u8 5, .int .u8 nop, .int .i64 nsl, .int .i64 (q : Int), .bool a1, .int .i64 a2, .int .i64 a3, .bool b1, .int .i64 b2, .int .i64 b3, .int .i64 nn, .int .i64 ne_, .int .i64 no] 53))).cell 6
          have c5 := cmap_below hbz _ _ _ HXC.out
          have c5 : (w2.alloc (.cells #[.int .u8 5, .int .u8 nop, .int .i64 nsl, .int .i64 (q : Int), .bool a1, .int .i64 a2, .int .i64 a3, .bool b1, .int .i64 b2, .int .i64 b3, .int .i64 nn, .int .i64 ne_, .int .i64 no] 53)).cell? ⟨hb, ho + q, none⟩ = some (.int .i64 x) := c5
          have HB := Lib.hid hbz
          clear hb2 hbb hbz
          go_wp2
          go_ret
          exact ⟨rfl, HB.out⟩)
      · have q5 : (nk == 5) = false := by simp [h5]
        have e0 : barN m ⟨nk, nop, nsl, nth, ⟨a1, a2, a3⟩, ⟨b1, b2, b3⟩, nn, ne_, no⟩ = 0 := by unfold barN; simp [h9, h5]
        rw [e0]
        clear e0 h5 h9 HH
        go_enter Tryz.func34, Tryz.ntmps34
        go_wp2_with (first
          | (refine wpList_load_at rfl 35 _ rfl w.heap.size 0 rfl _ _ HLD.out Tryz.underlying35 rfl (by kernel_rfl) ?_))
        refine HNX.out.mono ?_
        rintro e w2 ⟨rfl, hb2⟩
        have HB := Lib.hid ((HX.out.2.trans (hb2.mono HX.out.2.size)).alloc (by have h1 := HX.out.2.size; have h2 := hb2.size; omega) (.cells #[.int .u8 nk, .int .u8 nop, .int .i64 nsl, .int .i64 nth, .bool a1, .int .i64 a2, .int .i64 a3, .bool b1, .int .i64 b2, .int .i64 b3, .int .i64 nn, .int .i64 ne_, .int .i64 no] 53))
        clear hb2
        go_wp2
        go_ret
        exact ⟨rfl, HB.out⟩
end Go.Proofs.YtmkpjiahkepigaaGreat
