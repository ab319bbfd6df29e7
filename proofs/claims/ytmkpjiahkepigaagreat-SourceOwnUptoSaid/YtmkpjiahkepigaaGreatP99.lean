import Derived.Test.YtmkpjiahkepigaaGreatP97
import Derived.Test.YtmkpjiahkepigaaGreatP71
import Derived.Test.YtmkpjiahkepigaaGreatP09
/- The reference's machine in the making: rows that grow at their ends. -/
namespace Go.Proofs.YtmkpjiahkepigaaGreat
open Go Go.RowKit
section
variable {w w' : World} {base : Nat} {va vo vm vh vp : Value} {vs : List Value} {m : Mach}
theorem RefO.addAt {va' : Value} {a : Nat} (h : RefO w base va vo vm vh vp vs m) (hg : w.grownBy w' va.ownBlock) (ho : w'.ownsRow base 3 1 va' (m.at_.length + 1) (natsV m.at_ ++ [.int .i64 a])) (hob : va'.ownBlock = va.ownBlock ∨ va'.ownBlock = some w.heap.size) :
    RefO w' base va' vo vm vh vp vs { m with at_ := m.at_ ++ [a] } := by
  have far : ∀ {n s : Nat} {t : TypeId} {v : Value} {xs : List Value}, w.ownsRow base t s v n xs → t ≠ 3 → w'.ownsRow base t s v n xs := fun k hne => own_grown k hg fun q hq e => own_nes k h.at_ hne e hq
  refine ⟨?_, far h.mem (by decide), own_grown h.hold hg fun q hq e => h.athold q e hq, far h.prints (by decide), far h.outer (by decide), fun t v l a b => far (h.slot t v l a b) (by decide), h.apart, h.memsl, fun k hk hk2 => ?_⟩
  · have : natsV (m.at_ ++ [a]) = natsV m.at_ ++ [.int .i64 a] := by simp [natsV]
    rw [this, List.length_append, List.length_singleton]
    exact ho
  · rcases hob with e | e
    · rw [e] at hk; exact h.athold k hk hk2
    · rw [e] at hk; injection hk with hk; have := (h.hold.lt k hk2).2; omega
theorem RefO.addHold {vh' : Value} {a : Int} (h : RefO w base va vo vm vh vp vs m) (hg : w.grownBy w' vh.ownBlock) (ho : w'.ownsRow base 3 1 vh' (m.holders.length + 1) (i64sV m.holders ++ [.int .i64 a])) (hob : vh'.ownBlock = vh.ownBlock ∨ vh'.ownBlock = some w.heap.size) :
    RefO w' base va vo vm vh' vp vs { m with holders := m.holders ++ [a] } := by
  have far : ∀ {n s : Nat} {t : TypeId} {v : Value} {xs : List Value}, w.ownsRow base t s v n xs → t ≠ 3 → w'.ownsRow base t s v n xs := fun k hne => own_grown k hg fun q hq e => own_nes k h.hold hne e hq
  refine ⟨own_grown h.at_ hg fun q hq e => h.athold q hq e, far h.mem (by decide), ?_, far h.prints (by decide), far h.outer (by decide), fun t v l a b => far (h.slot t v l a b) (by decide), h.apart, h.memsl, fun k hk hk2 => ?_⟩
  · have : i64sV (m.holders ++ [a]) = i64sV m.holders ++ [.int .i64 a] := by simp [i64sV]
    rw [this, List.length_append, List.length_singleton]
    exact ho
  · rcases hob with e | e
    · rw [e] at hk2; exact h.athold k hk hk2
    · rw [e] at hk2; injection hk2 with hk2; have := (h.at_.lt k hk).2; omega
theorem RefO.slotLt (h : RefO w base va vo vm vh vp vs m) {t k : Nat} {v : Value} (hv : vs[t]? = some v) (hk : v.ownBlock = some k) : k < w.heap.size := by
  have ht := (List.getElem?_eq_some_iff.1 hv).1
  have hlen : t < m.slots.length := by rw [← h.len]; exact ht
  exact ((h.slot t v _ hv (List.getElem?_eq_getElem hlen)).lt k hk).2
theorem RefO.addMem {vm' : Value} {a : Int} (h : RefO w base va vo vm vh vp vs m) (hg : w.grownBy w' vm.ownBlock) (ho : w'.ownsRow base 2 1 vm' (m.mem.length + 1) (i64sV m.mem ++ [.int .i64 a])) (hob : vm'.ownBlock = vm.ownBlock ∨ vm'.ownBlock = some w.heap.size) :
    RefO w' base va vo vm' vh vp vs { m with mem := m.mem ++ [a] } := by
  have far : ∀ {n s : Nat} {t : TypeId} {v : Value} {xs : List Value}, w.ownsRow base t s v n xs → t ≠ 2 → w'.ownsRow base t s v n xs := fun k hne => own_grown k hg fun q hq e => own_nes k h.mem hne e hq
  refine ⟨far h.at_ (by decide), ?_, far h.hold (by decide), far h.prints (by decide), far h.outer (by decide), fun t v l a b => own_grown (h.slot t v l a b) hg fun q hq e => h.memsl t v q a e hq, h.apart, fun t v k hv hk hk2 => ?_, h.athold⟩
  · have : i64sV (m.mem ++ [a]) = i64sV m.mem ++ [.int .i64 a] := by simp [i64sV]
    rw [this, List.length_append, List.length_singleton]
    exact ho
  · rcases hob with e | e
    · rw [e] at hk; exact h.memsl t v k hv hk hk2
    · rw [e] at hk; injection hk with hk; have := h.slotLt hv hk2; omega
/-- A thread's slots, made in a block of their own, are put behind the others'. -/
theorem RefO.addSlot {y x0 x1 : World} {vo' sv : Value} {l : List Int} (h : RefO y base va vo vm vh vp vs m) (hb : Below y.heap.size y x0) (hg : x0.grownBy x1 vo.ownBlock) (ho : x1.ownsRow base 32 1 vo' (m.slots.length + 1) (vs ++ [sv])) (hs : x0.ownsRow y.heap.size 2 1 sv l.length (i64sV l)) (hbs : base ≤ y.heap.size) :
    RefO x1 base va vo' vm vh vp (vs ++ [sv]) { m with slots := m.slots ++ [l] } := by
  have h0 := h.below hb
  have far : ∀ {b n s : Nat} {t : TypeId} {v : Value} {xs : List Value}, x0.ownsRow b t s v n xs → t ≠ 32 → x1.ownsRow b t s v n xs := fun k hne => own_grown k hg fun q hq e => own_nes k h0.outer hne e hq
  have new : ∀ k, sv.ownBlock = some k → y.heap.size ≤ k := fun k hk => own_lt hs k hk
  refine ⟨far h0.at_ (by decide), far h0.mem (by decide), far h0.hold (by decide), far h0.prints (by decide), ?_, fun t v l' a b => ?_, fun t t' v v' k a b c d => ?_, fun t v k a b c => ?_, h.athold⟩
  · rw [List.length_append, List.length_singleton]; exact ho
  · rw [List.getElem?_append] at a b
    have hl := h.len
    split at a
    · rename_i hlt
      rw [if_pos (by omega)] at b
      exact far (h0.slot t v l' a b) (by decide)
    · rename_i hlt
      rw [if_neg (by omega)] at b
      have e0 : t - vs.length = 0 := by have := (List.getElem?_eq_some_iff.1 a).1; simp at this; omega
      have e1 : t - m.slots.length = 0 := by omega
      rw [e0] at a; injection a with a; subst a
      rw [e1] at b; injection b with b; subst b
      exact far (own_base hs hbs) (by decide)
  · rw [List.getElem?_append] at a b
    split at a <;> split at b
    · exact h.apart t t' v v' k a b c d
    · have e0 : t' - vs.length = 0 := by have := (List.getElem?_eq_some_iff.1 b).1; simp at this; omega
      rw [e0] at b; injection b with b; subst b
      have := h.slotLt a c; have := new k d; omega
    · have e0 : t - vs.length = 0 := by have := (List.getElem?_eq_some_iff.1 a).1; simp at this; omega
      rw [e0] at a; injection a with a; subst a
      have := h.slotLt b d; have := new k c; omega
    · have := (List.getElem?_eq_some_iff.1 a).1; have := (List.getElem?_eq_some_iff.1 b).1; simp at *; omega
  · rw [List.getElem?_append] at a
    split at a
    · exact h.memsl t v k a b c
    · have e0 : t - vs.length = 0 := by have := (List.getElem?_eq_some_iff.1 a).1; simp at this; omega
      rw [e0] at a; injection a with a; subst a
      have := (h.mem.lt k b).2; have := new k c; omega
theorem RefO.nil (w : World) (base : Nat) : RefO w base (.slice none 0 0) (.slice none 0 0) (.slice none 0 0) (.slice none 0 0) (.slice none 0 0) [] ⟨[], [], [], [], []⟩ :=
  ⟨World.ownsRow_nil _ _ _ _, World.ownsRow_nil _ _ _ _, World.ownsRow_nil _ _ _ _, World.ownsRow_nil _ _ _ _, World.ownsRow_nil _ _ _ _, fun _ _ _ h => by simp at h, fun _ _ _ _ _ h => by simp at h, fun _ _ _ h => by simp at h, fun _ h => by cases h⟩
/-- The machine that New makes. -/
structure NwI (w wr : World) (k7 : Nat) (c0 c1 c2 va vo vm vh : Value) (vs : List Value) (m : Mach) : Prop where
  bel : Below w.heap.size w wr
  b0 : Blk wr w.heap.size 25 [c0, c1, c2]
  b1 : Blk wr (w.heap.size + 1) 35 nil8
  b7 : Blk wr k7 35 [c0, c1, c2, va, vo, vm, vh, .slice none 0 0]
  k7l : w.heap.size + 2 ≤ k7
  ro : RefO wr (k7 + 1) va vo vm vh (.slice none 0 0) vs m
end
section
variable {w wr wy : World} {k7 : Nat} {c0 c1 c2 va vo vm vh va' vo' vm' vh' : Value} {vs vs' : List Value} {m m' : Mach}
theorem NwI.below (h : NwI w wr k7 c0 c1 c2 va vo vm vh vs m) (hb : Below wr.heap.size wr wy) : NwI w wy k7 c0 c1 c2 va vo vm vh vs m :=
  ⟨h.bel.trans (hb.mono h.bel.size), h.b0.below hb h.b0.lt, h.b1.below hb h.b1.lt, h.b7.below hb h.b7.lt, h.k7l, h.ro.below hb⟩
theorem NwI.fr7 (h : NwI w wr k7 c0 c1 c2 va vo vm vh vs m) {row : Value} (hf : FrW (fun q => row.ownBlock = some q) wr wy) (hrow : ∀ q, row.ownBlock = some q → k7 + 1 ≤ q) : Blk wy k7 35 [c0, c1, c2, va, vo, vm, vh, .slice none 0 0] :=
  h.b7.fr hf fun e => by have := hrow _ e; omega
theorem NwI.put (h : NwI w wr k7 c0 c1 c2 va vo vm vh vs m) {row v' : Value} {j : Nat} (hf : FrW (fun q => row.ownBlock = some q) wr wy) (hrow : ∀ q, row.ownBlock = some q → k7 + 1 ≤ q) (hr : RefO wy (k7 + 1) va' vo' vm' vh' (.slice none 0 0) vs' m')
    (hc : [c0, c1, c2, va, vo, vm, vh, Value.slice none 0 0].set j v' = [c0, c1, c2, va', vo', vm', vh', .slice none 0 0]) : NwI w (wy.setCell ⟨k7, j, none⟩ v') k7 c0 c1 c2 va' vo' vm' vh' vs' m' := by
  have hk := h.k7l
  have k7b := h.fr7 hf hrow
  refine ⟨(h.bel.trans (hf.grow w.heap.size h.bel.size fun k hk => by have := hrow k hk; omega)).setCell (by show _ ≤ k7; omega) _, (h.b0.fr hf fun e => by have := hrow _ e; omega).far (fun e => by have e : w.heap.size = k7 := e; omega) _, (h.b1.fr hf fun e => by have := hrow _ e; omega).far (fun e => by have e : w.heap.size + 1 = k7 := e; omega) _, ?_, h.k7l, hr.far k7b (by decide) j v'⟩
  rw [← hc]
  exact k7b.set_ j v'
end
end Go.Proofs.YtmkpjiahkepigaaGreat
/- The reference's New. -/
namespace Go.Proofs.YtmkpjiahkepigaaGreat
open Go Go.RowKit
attribute [local go_sem] readAtW readUpon
set_option maxRecDepth 100000 in
set_option maxHeartbeats 8000000 in
theorem r7new_good (u : Unit_) (cs : List Value) (w : World) (S : Nat → Prop) (hu : UnitV (on w S) cs u) (hok : UOk u) (hc : checkF u = none) :
    Calls Tryz.prog 7 #[.agg cs.toArray] w fun e w' => ∃ cs', e = .returned (.tuple #[.agg cs'.toArray, .int .i64 0]) ∧ RefV (on w' (fun b => S b ∨ w.heap.size ≤ b)) cs' u (startM u) ∧ Below w.heap.size w w' := by
  have hr := checkF_none hc
  have hz := checkF_sizes hc
  have hchk := fun wr (h : UnitV (cmap wr) cs u) => check2_calls u cs wr h hok
  rw [hc] at hchk
  have hu0 := hu
  obtain ⟨su, lu, gu, rfl, hs, hl, hg⟩ := hu0
  obtain ⟨sA, sc, rfl, -, -, -⟩ := id hs
  obtain ⟨lA, lc, rfl, -, -, -⟩ := id hl
  obtain ⟨gA, gc, rfl, -, -, -⟩ := id hg
  have nS := hr.shared
  have nL := hr.locks
  have nG := hr.threads
  have hb0 : Below w.heap.size w ((w.alloc (.cells #[.slice sA u.shared.length sc, .slice lA u.locks.length lc, .slice gA u.graphs.length gc] 25)).alloc (.cells #[.slice none 0 0, .slice none 0 0, .slice none 0 0, .slice none 0 0, .slice none 0 0, .slice none 0 0, .slice none 0 0, .slice none 0 0] 35)) := (Below_alloc' w _).alloc (by simp) _
  have hx0 : Blk ((w.alloc (.cells #[.slice sA u.shared.length sc, .slice lA u.locks.length lc, .slice gA u.graphs.length gc] 25)).alloc (.cells #[.slice none 0 0, .slice none 0 0, .slice none 0 0, .slice none 0 0, .slice none 0 0, .slice none 0 0, .slice none 0 0, .slice none 0 0] 35)) w.heap.size 25 [.slice sA u.shared.length sc, .slice lA u.locks.length lc, .slice gA u.graphs.length gc] := (Blk.new w _ _).alloc _
  have hx1 : Blk ((w.alloc (.cells #[.slice sA u.shared.length sc, .slice lA u.locks.length lc, .slice gA u.graphs.length gc] 25)).alloc (.cells #[.slice none 0 0, .slice none 0 0, .slice none 0 0, .slice none 0 0, .slice none 0 0, .slice none 0 0, .slice none 0 0, .slice none 0 0] 35)) (w.heap.size + 1) 35 nil8 := Blk.of (heap_new (w.alloc _) _ _ (by simp)) rfl
  have hlow : (on w S).le (cmap w) := on_le _ _
  have HLD : Hid (∀ j v, ([.slice sA u.shared.length sc, .slice lA u.locks.length lc, .slice gA u.graphs.length gc] : List Value)[j]? = some v → ((w.alloc (.cells #[.slice sA u.shared.length sc, .slice lA u.locks.length lc, .slice gA u.graphs.length gc] 25)).alloc (.cells #[.slice none 0 0, .slice none 0 0, .slice none 0 0, .slice none 0 0, .slice none 0 0, .slice none 0 0, .slice none 0 0, .slice none 0 0] 35)).cell? ⟨w.heap.size, 0 + j, none⟩ = some v) := Lib.hid fun j v hj => by rw [Nat.zero_add, hx0.cell]; exact hj
  have HC := Lib.hid (hchk _ ((hu.mono hlow).mono (cmap_below hb0)))
  have HB := Lib.hid (And.intro hb0 (And.intro hx0 hx1))
  have HU := Lib.hid (And.intro hu (And.intro (hs.mono hlow) (And.intro (hl.mono hlow) (And.intro (hg.mono hlow) (And.intro hr hz)))))
  clear hu hok hc hchk hr hz hs hl hg hb0 hx0 hx1 hlow
  go_enter Tryz.func7, Tryz.ntmps7
  go_wp2_with (first
    | (refine wpList_load_at rfl 25 _ rfl w.heap.size 0 rfl _ _ HLD.out Tryz.underlying25 rfl (by kernel_rfl) ?_))
  refine HC.out.mono ?_
  rintro e w1 ⟨rfl, hb1⟩
  unfold checkV
  have h0 := HB.out.2.1.below hb1 HB.out.2.1.lt
  have h1 := HB.out.2.2.below hb1 HB.out.2.2.lt
  have hlt1 := h1.lt
  have HLD1 : Hid (∀ j v, ([.slice sA u.shared.length sc, .slice lA u.locks.length lc, .slice gA u.graphs.length gc] : List Value)[j]? = some v → w1.cell? ⟨w.heap.size, 0 + j, none⟩ = some v) := Lib.hid fun j v hj => by rw [Nat.zero_add, h0.cell]; exact hj
  have HJ := Lib.hid (And.intro (HB.out.1.trans (hb1.mono HB.out.1.size)) (And.intro h0 h1))
  clear hb1 h0 h1 HB HC HLD
  go_upto_region 5 with (first
    | (refine wpList_load_at rfl 25 _ rfl w.heap.size 0 rfl _ _ HLD1.out Tryz.underlying25 rfl (by kernel_rfl) ?_))
  have hI : NwI w (w1.alloc (.cells #[.slice sA u.shared.length sc, .slice lA u.locks.length lc, .slice gA u.graphs.length gc, .slice none 0 0, .slice none 0 0, .slice none 0 0, .slice none 0 0, .slice none 0 0] 35)) w1.heap.size (.slice sA u.shared.length sc) (.slice lA u.locks.length lc) (.slice gA u.graphs.length gc) (.slice none 0 0) (.slice none 0 0) (.slice none 0 0) (.slice none 0 0) [] ⟨[], [], [], [], []⟩ :=
    ⟨HJ.out.1.trans ((Below_alloc' w1 _).mono HJ.out.1.size), HJ.out.2.1.alloc _, HJ.out.2.2.alloc _, Blk.new w1 _ _, by omega, RefO.nil _ _⟩
  obtain ⟨k7, hk7⟩ : ∃ k, w1.heap.size = k := ⟨_, rfl⟩
  obtain ⟨x1, hx1⟩ : ∃ x, w1.alloc (.cells #[.slice sA u.shared.length sc, .slice lA u.locks.length lc, .slice gA u.graphs.length gc, .slice none 0 0, .slice none 0 0, .slice none 0 0, .slice none 0 0, .slice none 0 0] 35) = x := ⟨_, rfl⟩
  rw [hx1, hk7] at hI
  have HI0 := Lib.hid hI
  have HXK := Lib.hid (And.intro hx1 hk7)
  have g2 : x1.cell? ⟨w.heap.size, 2, none⟩ = some (.slice gA u.graphs.length gc) := hI.b0.cell 2
  clear hI hx1 hk7 hlt1 HJ HLD1
  first | rw [HXK.out.1, HXK.out.2] | (rw [HXK.out.1]) | skip
  clear HXK
  go_wp2
  go_loopw [27, 9] (fun v27 _ wr => ∃ (k : Nat) (va vo : Value) (vs : List Value), v27 = .int .i64 k ∧ k ≤ u.graphs.length ∧ Hid (NwI w wr k7 (.slice sA u.shared.length sc) (.slice lA u.locks.length lc) (.slice gA u.graphs.length gc) va vo (.slice none 0 0) (.slice none 0 0) vs ⟨(u.graphs.take k).map fun _ => 0, (u.graphs.take k).map slots0, [], [], []⟩)) (fun v27 _ _ => u.graphs.length - (intOf v27).toNat)
  case atStart => exact ⟨0, _, _, _, rfl, by omega, HI0⟩
  case round =>
    clear g2
    obtain ⟨k, va, vo, vs, rfl, hk, HI⟩ := hrel
    by_cases hlt : k < u.graphs.length
    · obtain ⟨gx, hgx⟩ : ∃ gx, u.graphs[k]? = some gx := ⟨_, List.getElem?_eq_getElem hlt⟩
      have hgm := List.mem_of_getElem? hgx
      obtain ⟨gb, go, rfl, gcs, ⟨nv, rfl, hnodes⟩, hcells⟩ := HU.out.2.2.2.1.at_ hgx
      obtain ⟨nA, nc, rfl, -⟩ := id hnodes
      have hslots := HU.out.2.2.2.2.2.slots gx hgm
      obtain ⟨ns, hns⟩ := Int.eq_ofNat_of_zero_le hslots.1
      have hnsl : ns ≤ 4160 := by omega
      rw [hns] at hcells
      have hcw := (cmap_below HI.out.bel)
      have HLG : Hid (∀ j v, ([.string gx.name, .int .i64 gx.locals, .int .i64 (ns : Int), .slice nA gx.nodes.length nc] : List Value)[j]? = some v → wr.cell? ⟨gb, go + k * 4 + j, none⟩ = some v) := Lib.hid fun j v hv => hcw _ _ _ (hcells j v hv)
      have hlen : ((u.graphs.take k).map fun _ => (0 : Nat)).length = k := by rw [List.length_map, List.length_take]; omega
      have hlen2 : ((u.graphs.take k).map slots0).length = k := by rw [List.length_map, List.length_take]; omega
      have hoa := HI.out.ro.at_
      rw [hlen] at hoa
      obtain ⟨aA, ac, rfl, -⟩ := own_slice hoa
      have hoo := HI.out.ro.outer
      rw [hlen2] at hoo
      obtain ⟨oA, oc, rfl, -⟩ := own_slice hoo
      have hbx := Below_alloc' wr (.cells #[.string gx.name, .int .i64 gx.locals, .int .i64 (ns : Int), .slice nA gx.nodes.length nc] 73)
      have hx2 := Blk.new wr 73 [.string gx.name, .int .i64 gx.locals, .int .i64 (ns : Int), .slice nA gx.nodes.length nc]
      have hI1 := HI.out.below hbx
      have y3 : (wr.alloc (.cells #[.string gx.name, .int .i64 gx.locals, .int .i64 (ns : Int), .slice nA gx.nodes.length nc] 73)).cell? ⟨k7, 3, none⟩ = some (.slice aA k ac) := hI1.b7.cell 3
      have HX := Lib.hid (And.intro hgx (And.intro hns (And.intro hnsl (And.intro hlen hlen2))))
      have HH := Lib.hid (And.intro hI1 (And.intro hx2 (show wr.heap.size < (wr.alloc (.cells #[.string gx.name, .int .i64 gx.locals, .int .i64 (ns : Int), .slice nA gx.nodes.length nc] 73)).heap.size by simp)))
      have i0 : (0 : Int) ≤ k := by omega
      have i1 : (k : Int) < u.graphs.length := by omega
      clear hgx hgm hcells hnodes hslots hns hnsl hcw hlen hlen2 hoa hoo hbx hx2 hI1
      go_wp2_with (first
        | (refine wpList_load_at rfl 73 _ rfl gb (go + k * 4) rfl _ _ HLG.out Tryz.underlying73 rfl (by kernel_rfl) ?_)
        | (refine stop_append rfl ?_))
      refine Stop.intro ?_
      have hI2 := HH.out.1.below (Below_alloc' _ (.cells #[.int .i64 0] 3))
      have hoa := hI2.ro.at_
      rw [HX.out.2.2.2.1] at hoa
      have hgb7 : k7 + 1 ≤ (wr.alloc (.cells #[.string gx.name, .int .i64 gx.locals, .int .i64 (ns : Int), .slice nA gx.nodes.length nc] 73)).heap.size := HH.out.1.b7.lt
      refine app_one sl_int rfl _ _ rfl (k7 + 1) _ k (natsV ((u.graphs.take k).map fun _ => 0)) rfl hoa (wr.heap.size + 1) 0 1 [.int .i64 0] rfl rfl (fun j v hj => by rw [Nat.zero_add, (show Blk _ (wr.heap.size + 1) 3 [.int .i64 0] from Blk.of (heap_new (wr.alloc _) _ _ (by simp)) rfl).cell]; exact hj) (by simp [Value.oneCell']) (by omega) (by decide) (by have := hI2.b7.lt; omega) ?_
      intro v' w' hown hgr hob
      obtain ⟨aA2, ac2, rfl, -⟩ := own_slice hown
      have hF : FrW (fun b => (Value.slice aA k ac).ownBlock = some b) _ w' := FrW.grown hgr fun k e => e
      have hrow : ∀ q, (Value.slice aA k ac).ownBlock = some q → k7 + 1 ≤ q := fun q hq => own_lt hI2.ro.at_ q hq
      have hr2 := hI2.ro.addAt (a := 0) hgr (by rw [HX.out.2.2.2.1]; exact hown) hob
      have k0 := hI2.fr7 hF hrow
      have y4 : w'.cell? ⟨k7, 3, none⟩ = some (.slice aA k ac) := k0.cell 3
      have f4 : w'.frozen? ⟨k7, 3, none⟩ = false := k0.frozen 3
      have hI3 := hI2.put (j := 3) hF hrow hr2 rfl
      have hx3 : Blk (w'.setCell ⟨k7, 3, none⟩ (.slice aA2 (k + 1) ac2)) wr.heap.size 73 [.string gx.name, .int .i64 gx.locals, .int .i64 (ns : Int), .slice nA gx.nodes.length nc] := ((HH.out.2.1.alloc _).fr hF (own_ne hoa (HH.out.2.1.alloc _) (by decide))).far (fun e => row_types (HH.out.2.1) (HH.out.1.b7) (by decide) e) _
      have HI3 := Lib.hid (And.intro hI3 hx3)
      clear hF hrow hr2 k0 hown hgr hob hI2 hoa hI3 hx3 y3 hgb7
      go_upto_region 9 with fail
      obtain ⟨y, hy⟩ : ∃ y, w'.setCell ⟨k7, 3, none⟩ (.slice aA2 (k + 1) ac2) = y := ⟨_, rfl⟩
      obtain ⟨bx, hbx⟩ : ∃ b, wr.heap.size = b := ⟨_, rfl⟩
      rw [hy, hbx] at HI3
      have HE := Lib.hid (And.intro hy hbx)
      clear hy hbx y4 f4 HH
      rw [HE.out.1, HE.out.2]
      have hmk := fun w => mk_run (P := Tryz.prog) sl_i64 rfl ns (by have := HX.out.2.2.1; omega) (by decide) w
      have HMK := Lib.hid hmk; clear hmk
      have hoo := HI3.out.1.ro.outer
      rw [HX.out.2.2.2.2] at hoo
      have hrow : ∀ q, (Value.slice oA k oc).ownBlock = some q → k7 + 1 ≤ q := fun q hq => own_lt hoo q hq
      have n7 : ¬ (Value.slice oA k oc).ownBlock = some k7 := own_ne hoo HI3.out.1.b7 (by decide)
      have fz : ∀ z : XC (cAm y (k7 + 1) 32 1 (.slice oA k oc) k vs (fun v => [v]) k7 4 2 (zerosV ns) ns 4 5 6 8) [8], FrW (fun q => (Value.slice oA k oc).ownBlock = some q) y z.w := fun z => AmC.fr z.2.1 (z.2.2 8 (by simp))
      have f4 : ∀ z : XC (cAm y (k7 + 1) 32 1 (.slice oA k oc) k vs (fun v => [v]) k7 4 2 (zerosV ns) ns 4 5 6 8) [8], z.w.cell? ⟨k7, 4, none⟩ = some (.slice oA k oc) := fun z => (fz z).cell (p := ⟨k7, 4, none⟩) (HI3.out.1.b7.cell 4) n7
      have fb : ∀ z : XC (cAm y (k7 + 1) 32 1 (.slice oA k oc) k vs (fun v => [v]) k7 4 2 (zerosV ns) ns 4 5 6 8) [8], z.w.cell? ⟨bx, 2, none⟩ = some (.int .i64 (ns : Int)) := fun z => (fz z).cell (p := ⟨bx, 2, none⟩) (HI3.out.2.cell 2) (own_ne hoo HI3.out.2 (by decide))
      haveI hne : Nonempty (XC (cAm y (k7 + 1) 32 1 (.slice oA k oc) k vs (fun v => [v]) k7 4 2 (zerosV ns) ns 4 5 6 8) [8]) := XC.ne (cAm_start (y := y))
      have HOO := Lib.hid hoo
      clear fz hoo
      refine wp_region_mixF (cAm y (k7 + 1) 32 1 (.slice oA k oc) k vs (fun v => [v]) k7 4 2 (zerosV ns) ns 4 5 6 8) [4, 5, 6, 8] [0, 1, 2, 3, 4, 5, 6, 7, 8] [8] (by kernel_rfl) (by kernel_rfl) (by kernel_rfl) (by kernel_rfl) cAm_start cAm_hq (cAm_hA (by decide) (by decide) (by decide)) (dst_small (by rfl)) ?_
      iterate 4 (refine wpMix_read rfl rfl (fun K hK => ?_); go_simp; refine hK _ ?_; clear hK K)
      refine wpMix_act (some 40) rfl rfl rfl rfl (fun D A z hD hp hpre hC => cAm_make (by decide) (by decide) (by decide) (by decide) (by decide) (by decide) rfl (HMK.out _) hD hC) (fun D A z hD hpre hC => ?_)
      obtain ⟨kb, hkb, -⟩ := AmC.r0 hC hD
      rw [hkb]
      clear hpre hC hD hkb z A D
      refine wpMix_act (some 41) rfl rfl rfl rfl (fun D A z hD hp hpre hC => cAm_build (by decide) (by decide) (by decide) (by decide) (by decide) (by decide) rfl (by rw [(hpre 4 (by simp)).2]; simp only [List.map_toArray, List.map_cons, List.map_nil]; exact run_build_sl _ _ _ _) hD (hpre 4 (by simp)).1 hC) (fun D A z hD hpre hC => ?_)
      obtain ⟨nb4, hnb, -⟩ := AmC.r1 hC hD
      rw [hnb]
      clear hpre hC hD hnb z A D
      refine wpMix_act (some 42) rfl rfl rfl rfl (fun D A z hD hp hpre hC => cAm_append (by decide) (by decide) (by decide) (by decide) (by decide) (by decide) sl_i64s (by have := HI3.out.1.b7.lt; omega) (fun x hx => ownsRow_fr HOO.out (FrW.of_below (fun _ => False) hx) (fun _ _ => id)) rfl rfl rfl (by omega) (by unfold maxLen; omega) rfl (by obtain ⟨kb', hkb', -⟩ := AmC.r0 hC (AmC.o1 hC (hpre 5 (by simp)).1); rw [hkb']; simp [Value.oneCell']) hD (hpre 5 (by simp)).1 (hpre 5 (by simp)).2 hC) (fun D A z hD hpre hC => ?_)
      obtain ⟨nb5, cap5, hnb, -⟩ := AmC.r2 hC hD
      rw [hnb]
      clear hpre hC hD hnb z A D
      iterate 1 (refine wpMix_read rfl rfl (fun K hK => ?_); go_simp; refine hK _ ?_; clear hK K)
      refine wpMix_act0 rfl rfl rfl rfl (fun D A z hD hp hpre hC => cAm_store (by decide) (by decide) (by decide) (by decide) (by decide) (by decide) HI3.out.1.b7 (by simp) n7 (by kernel_rfl) rfl rfl rfl hD (hpre 6 (by simp)).1 (hpre 6 (by simp)).2 hC) (fun D A z hD hpre hC => ?_)
      clear hpre hC hD z A D
      refine wpMix_nil (fun D A z hD hAA hC => ?_)
      obtain ⟨nb6, cap6, x0', x1', hap, rfl, kb6, q1, q2, q3⟩ := AmC.fin hC (hD 8 (by decide))
      rw [q1] at hap
      clear hAA hC hD D f4 fb hne q1 A
      have hsv : x0'.ownsRow y.heap.size 2 1 (.slice (some ⟨kb6, 0, none⟩) ns ns) (slots0 gx).length (i64sV (slots0 gx)) := by
        have : slots0 gx = List.replicate ns 0 := by unfold slots0; rw [HX.out.2.1, Int.toNat_natCast]
        rw [this, List.length_replicate, ← zeros_ints]
        exact own_of_blk q3 q2 (by simp [zerosV]) (by unfold maxLen; have := HX.out.2.2.1; omega)
      have hr5 := HI3.out.1.ro.addSlot (l := slots0 gx) hap.bel hap.gr (by rw [HX.out.2.2.2.2]; exact hap.own) hsv (by have := HI3.out.1.b7.lt; omega)
      have hI5 := HI3.out.1.put (j := 4) hap.fr hrow hr5 rfl
      have htk : u.graphs.take (k + 1) = u.graphs.take k ++ [gx] := by rw [List.take_add_one, HX.out.1]; rfl
      have ht1 : ((u.graphs.take k).map fun _ => (0 : Nat)) ++ [0] = (u.graphs.take (k + 1)).map fun _ => 0 := by rw [htk, List.map_append]; rfl
      have ht2 : (u.graphs.take k).map slots0 ++ [slots0 gx] = (u.graphs.take (k + 1)).map slots0 := by rw [htk, List.map_append]; rfl
      simp only [ht1, ht2] at hI5
      have HP := Lib.hid hI5
      clear hsv hr5 hI5 htk ht1 ht2 hap q2 q3 hrow n7
      go_wp2
      go_roundw
      case rel => exact ⟨k + 1, _, _, _, by go_num, by omega, HP⟩
      case measure => simp [intOf]; omega
    · obtain rfl : k = u.graphs.length := by omega
      have nk : ¬ ((u.graphs.length : Int) < u.graphs.length) := by omega
      have hI := HI.out
      rw [List.take_length] at hI
      have g0 : wr.cell? ⟨w.heap.size, 0, none⟩ = some (.slice sA u.shared.length sc) := hI.b0.cell 0
      have HI1 := Lib.hid hI
      clear hk hlt hI HI
      go_wp2
      obtain ⟨wo, rfl⟩ : ∃ wo : World, wo = wr := ⟨_, rfl⟩
      go_loopw [48, 11] (fun v48 _ wr => ∃ (k : Nat) (vm : Value), v48 = .int .i64 k ∧ k ≤ u.shared.length ∧ Hid (NwI w wr k7 (.slice sA u.shared.length sc) (.slice lA u.locks.length lc) (.slice gA u.graphs.length gc) va vo vm (.slice none 0 0) vs ⟨u.graphs.map fun _ => 0, u.graphs.map slots0, (u.shared.take k).map (fun d : Decl => d.word), [], []⟩)) (fun v48 _ _ => u.shared.length - (intOf v48).toNat)
      case atStart => exact ⟨0, _, rfl, by omega, HI1⟩
      case round =>
        clear g0 HI1
        obtain ⟨k, vm, rfl, hk, HI⟩ := hrel
        by_cases hlt : k < u.shared.length
        · obtain ⟨d, hd⟩ : ∃ d, u.shared[k]? = some d := ⟨_, List.getElem?_eq_getElem hlt⟩
          obtain ⟨db, do_, rfl, hdc⟩ := HU.out.2.1.at_ hd
          have hcw := cmap_below HI.out.bel
          have HLG : Hid (∀ j v, d.cells[j]? = some v → wr.cell? ⟨db, do_ + k * 3 + j, none⟩ = some v) := Lib.hid fun j v hv => hcw _ _ _ (row_decl.dn _ _ _ _ hdc j v hv)
          unfold Decl.cells at HLG
          have hlen : ((u.shared.take k).map (fun d : Decl => d.word)).length = k := by rw [List.length_map, List.length_take]; omega
          have hom := HI.out.ro.mem
          rw [hlen] at hom
          obtain ⟨mA, mc, rfl, -⟩ := own_slice hom
          have hbx := Below_alloc' wr (.cells #[.string d.name, .int .i64 d.word, .int .i64 d.at_] 75)
          have hx2 := Blk.new wr 75 [.string d.name, .int .i64 d.word, .int .i64 d.at_]
          have hI1 := HI.out.below hbx
          have y5 : (wr.alloc (.cells #[.string d.name, .int .i64 d.word, .int .i64 d.at_] 75)).cell? ⟨k7, 5, none⟩ = some (.slice mA k mc) := hI1.b7.cell 5
          have HX := Lib.hid (And.intro hd hlen)
          have HH := Lib.hid (And.intro hI1 hx2)
          have n7 : k7 ≠ wr.heap.size := by have := HI.out.b7.lt; omega
          have i0 : (0 : Int) ≤ k := by omega
          have i1 : (k : Int) < u.shared.length := by omega
          clear hd hdc hcw hlen hom hbx hx2 hI1
          go_wp2_with (first
            | (refine wpList_load_at rfl 75 _ rfl db (do_ + k * 3) rfl _ _ HLG.out Tryz.underlying75 rfl (by kernel_rfl) ?_)
            | (refine stop_append rfl ?_))
          refine Stop.intro ?_
          have hI2 := HH.out.1.below (Below_alloc' _ (.cells #[.int .i64 d.word] 2))
          have hom := hI2.ro.mem
          rw [HX.out.2] at hom
          refine app_one sl_i64 rfl _ _ rfl (k7 + 1) _ k (i64sV ((u.shared.take k).map (fun d : Decl => d.word))) rfl hom (wr.heap.size + 1) 0 1 [.int .i64 d.word] rfl rfl (fun j v hj => by rw [Nat.zero_add, (show Blk _ (wr.heap.size + 1) 2 [.int .i64 d.word] from Blk.of (heap_new (wr.alloc _) _ _ (by simp)) rfl).cell]; exact hj) (by simp [Value.oneCell']) (by omega) (by decide) (by have := hI2.b7.lt; omega) ?_
          intro v' w' hown hgr hob
          obtain ⟨mA2, mc2, rfl, -⟩ := own_slice hown
          have hF : FrW (fun b => (Value.slice mA k mc).ownBlock = some b) _ w' := FrW.grown hgr fun k e => e
          have hrow : ∀ q, (Value.slice mA k mc).ownBlock = some q → k7 + 1 ≤ q := fun q hq => own_lt hI2.ro.mem q hq
          have hr2 := hI2.ro.addMem (a := d.word) hgr (by rw [HX.out.2]; exact hown) hob
          have k0 := hI2.fr7 hF hrow
          have y4 : w'.cell? ⟨k7, 5, none⟩ = some (.slice mA k mc) := k0.cell 5
          have f4 : w'.frozen? ⟨k7, 5, none⟩ = false := k0.frozen 5
          have hI3 := hI2.put (j := 5) hF hrow hr2 rfl
          have htk : ((u.shared.take k).map (fun d : Decl => d.word)) ++ [d.word] = (u.shared.take (k + 1)).map (fun d : Decl => d.word) := by rw [List.take_add_one, HX.out.1, List.map_append]; rfl
          simp only [htk] at hI3
          have HP := Lib.hid hI3
          clear hF hrow hr2 k0 hown hgr hob hI2 hom hI3 y5 htk
          go_wp2
          go_roundw
          case rel => exact ⟨k + 1, _, by go_num, by omega, HP⟩
          case measure => simp [intOf]; omega
        · obtain rfl : k = u.shared.length := by omega
          have nk : ¬ ((u.shared.length : Int) < u.shared.length) := by omega
          have hI := HI.out
          rw [List.take_length] at hI
          have g1 : wr.cell? ⟨w.heap.size, 1, none⟩ = some (.slice lA u.locks.length lc) := hI.b0.cell 1
          have HI1 := Lib.hid hI
          clear hk hlt hI HI
          go_wp2
          obtain ⟨wo, rfl⟩ : ∃ wo : World, wo = wr := ⟨_, rfl⟩
          go_loopw [63] (fun v63 wr => ∃ (k : Nat) (vh : Value), v63 = .int .i64 k ∧ k ≤ u.locks.length ∧ Hid (NwI w wr k7 (.slice sA u.shared.length sc) (.slice lA u.locks.length lc) (.slice gA u.graphs.length gc) va vo vm vh vs ⟨u.graphs.map fun _ => 0, u.graphs.map slots0, u.shared.map (fun d : Decl => d.word), (u.locks.take k).map (fun _ => -1), []⟩)) (fun v63 _ => u.locks.length - (intOf v63).toNat)
          case atStart => exact ⟨0, _, rfl, by omega, HI1⟩
          case round =>
            clear g1 HI1
            obtain ⟨k, vh, rfl, hk, HI⟩ := hrel
            by_cases hlt : k < u.locks.length
            · obtain ⟨d, hd⟩ : ∃ d, u.locks[k]? = some d := ⟨_, List.getElem?_eq_getElem hlt⟩
              have hlen : ((u.locks.take k).map (fun _ => (-1 : Int))).length = k := by rw [List.length_map, List.length_take]; omega
              have hom := HI.out.ro.hold
              rw [hlen] at hom
              obtain ⟨hA, hc, rfl, -⟩ := own_slice hom
              have y6 : wr.cell? ⟨k7, 6, none⟩ = some (.slice hA k hc) := HI.out.b7.cell 6
              have HX := Lib.hid (And.intro hd hlen)
              have i0 : (0 : Int) ≤ k := by omega
              have i1 : (k : Int) < u.locks.length := by omega
              clear hd hlen hom
              go_wp2_with (refine stop_append rfl ?_)
              refine Stop.intro ?_
              have hI2 := HI.out.below (Below_alloc' _ (.cells #[.int .i64 (-1)] 3))
              have hom := hI2.ro.hold
              rw [HX.out.2] at hom
              refine app_one sl_int rfl _ _ rfl (k7 + 1) _ k (i64sV ((u.locks.take k).map (fun _ => (-1 : Int)))) rfl hom wr.heap.size 0 1 [.int .i64 (-1)] rfl rfl (cell_new1 _ _ _ _ (by simp)) (by simp [Value.oneCell']) (by omega) (by decide) (by have := hI2.b7.lt; omega) ?_
              intro v' w' hown hgr hob
              obtain ⟨hA2, hc2, rfl, -⟩ := own_slice hown
              have hF : FrW (fun b => (Value.slice hA k hc).ownBlock = some b) _ w' := FrW.grown hgr fun k e => e
              have hrow : ∀ q, (Value.slice hA k hc).ownBlock = some q → k7 + 1 ≤ q := fun q hq => own_lt hI2.ro.hold q hq
              have hr2 := hI2.ro.addHold (a := -1) hgr (by rw [HX.out.2]; exact hown) hob
              have k0 := hI2.fr7 hF hrow
              have y4 : w'.cell? ⟨k7, 6, none⟩ = some (.slice hA k hc) := k0.cell 6
              have f4 : w'.frozen? ⟨k7, 6, none⟩ = false := k0.frozen 6
              have hI3 := hI2.put (j := 6) hF hrow hr2 rfl
              have htk : ((u.locks.take k).map (fun _ => (-1 : Int))) ++ [-1] = (u.locks.take (k + 1)).map (fun _ => -1) := by rw [List.take_add_one, HX.out.1, List.map_append]; rfl
              simp only [htk] at hI3
              have HP := Lib.hid hI3
              clear hF hrow hr2 k0 hown hgr hob hI2 hom hI3 y6 htk
              go_wp2
              go_roundw
              case rel => exact ⟨k + 1, _, by go_num, by omega, HP⟩
              case measure => simp [intOf]; omega
            · obtain rfl : k = u.locks.length := by omega
              have nk : ¬ ((u.locks.length : Int) < u.locks.length) := by omega
              have hI := HI.out
              rw [List.take_length] at hI
              obtain ⟨aA, ac, rfl, -⟩ := own_slice hI.ro.at_
              obtain ⟨oA, oc, rfl, -⟩ := own_slice hI.ro.outer
              obtain ⟨mA, mc, rfl, -⟩ := own_slice hI.ro.mem
              obtain ⟨hA, hc, rfl, -⟩ := own_slice hI.ro.hold
              simp only [List.length_map] at hI
              have HLM : Hid (∀ j v, ([.slice sA u.shared.length sc, .slice lA u.locks.length lc, .slice gA u.graphs.length gc, .slice aA u.graphs.length ac, .slice oA u.graphs.length oc, .slice mA u.shared.length mc, .slice hA u.locks.length hc, .slice none 0 0] : List Value)[j]? = some v → wr.cell? ⟨k7, 0 + j, none⟩ = some v) := Lib.hid fun j v hj => by rw [Nat.zero_add, hI.b7.cell]; exact hj
              have HI1 := Lib.hid hI
              clear hk hlt hI HI
              simp only [List.length_map]
              go_wp2_with (first
                | (refine wpList_load_at rfl 35 _ rfl k7 0 rfl [.slice sA u.shared.length sc, .slice lA u.locks.length lc, .slice gA u.graphs.length gc, .slice aA u.graphs.length ac, .slice oA u.graphs.length oc, .slice mA u.shared.length mc, .slice hA u.locks.length hc, .slice none 0 0] _ HLM.out Tryz.underlying35 rfl (by kernel_rfl) ?_)
                | (refine stop_store 35 rfl ?_))
              refine Stop.intro ?_
              refine wpList_plain rfl fun K hK => wp_store_row 35 _ _ rfl (w.heap.size + 1) ([.slice sA u.shared.length sc, .slice lA u.locks.length lc, .slice gA u.graphs.length gc, .slice aA u.graphs.length ac, .slice oA u.graphs.length oc, .slice mA u.shared.length mc, .slice hA u.locks.length hc, .slice none 0 0] : List Value).toArray rfl rfl 35 _ HI1.out.b1 (by kernel_rfl) rfl (by simp [Value.oneCell']) (hK _ _ ?_)
              have hz1 : Blk (wr.setRow (w.heap.size + 1) ([.slice sA u.shared.length sc, .slice lA u.locks.length lc, .slice gA u.graphs.length gc, .slice aA u.graphs.length ac, .slice oA u.graphs.length oc, .slice mA u.shared.length mc, .slice hA u.locks.length hc, .slice none 0 0] : List Value).toArray) (w.heap.size + 1) 35 [.slice sA u.shared.length sc, .slice lA u.locks.length lc, .slice gA u.graphs.length gc, .slice aA u.graphs.length ac, .slice oA u.graphs.length oc, .slice mA u.shared.length mc, .slice hA u.locks.length hc, .slice none 0 0] := Blk.setRow (w := wr) (cs' := [.slice sA u.shared.length sc, .slice lA u.locks.length lc, .slice gA u.graphs.length gc, .slice aA u.graphs.length ac, .slice oA u.graphs.length oc, .slice mA u.shared.length mc, .slice hA u.locks.length hc, .slice none 0 0]) HI1.out.b1
              have hbz : Below w.heap.size w (wr.setRow (w.heap.size + 1) ([.slice sA u.shared.length sc, .slice lA u.locks.length lc, .slice gA u.graphs.length gc, .slice aA u.graphs.length ac, .slice oA u.graphs.length oc, .slice mA u.shared.length mc, .slice hA u.locks.length hc, .slice none 0 0] : List Value).toArray) := below_row HI1.out.bel (by omega) _
              have hO := HI1.out.ro.fr (FrW.setRow (S := fun q => q = w.heap.size + 1) wr rfl ([.slice sA u.shared.length sc, .slice lA u.locks.length lc, .slice gA u.graphs.length gc, .slice aA u.graphs.length ac, .slice oA u.graphs.length oc, .slice mA u.shared.length mc, .slice hA u.locks.length hc, .slice none 0 0] : List Value).toArray) (fun b hb e => by have := HI1.out.k7l; omega)
              obtain ⟨x1, hx1⟩ : ∃ x1, wr.setRow (w.heap.size + 1) ([.slice sA u.shared.length sc, .slice lA u.locks.length lc, .slice gA u.graphs.length gc, .slice aA u.graphs.length ac, .slice oA u.graphs.length oc, .slice mA u.shared.length mc, .slice hA u.locks.length hc, .slice none 0 0] : List Value).toArray = x1 := ⟨_, rfl⟩
              rw [hx1] at hz1 hbz hO ⊢
              simp only [put_none]
              have HF := Lib.hid (And.intro hbz hO)
              have e0 := hz1.cell 0
              have e1 := hz1.cell 1
              have e2 := hz1.cell 2
              have e3 := hz1.cell 3
              have e4 := hz1.cell 4
              have e5 := hz1.cell 5
              have e6 := hz1.cell 6
              have e7 := hz1.cell 7
              clear hx1 hz1 hbz hO
              go_wp2
              refine bodyPost_ret (v := .tuple #[.agg ([.slice sA u.shared.length sc, .slice lA u.locks.length lc, .slice gA u.graphs.length gc, .slice aA u.graphs.length ac, .slice oA u.graphs.length oc, .slice mA u.shared.length mc, .slice hA u.locks.length hc, .slice none 0 0] : List Value).toArray, .int .i64 0]) (by simp [results, Tryz.results7, go_sem, e0, e1, e2, e3, e4, e5, e6, e7]) rfl ⟨[.slice sA u.shared.length sc, .slice lA u.locks.length lc, .slice gA u.graphs.length gc, .slice aA u.graphs.length ac, .slice oA u.graphs.length oc, .slice mA u.shared.length mc, .slice hA u.locks.length hc, .slice none 0 0], rfl, ⟨_, _, _, _, _, _, _, _, rfl, ?_⟩, HF.out.1⟩
              exact HF.out.2.refS (u := u) (S := fun b => S b ∨ w.heap.size ≤ b) (su := .slice sA u.shared.length sc) (lu := .slice lA u.locks.length lc) (gu := .slice gA u.graphs.length gc) (HU.out.1.mono (on_keep (fun b hb hlt => HF.out.1.block b hlt) (fun b hb => .inl hb))) (fun b hb => .inr (by have := HI1.out.k7l; omega))
end Go.Proofs.YtmkpjiahkepigaaGreat
