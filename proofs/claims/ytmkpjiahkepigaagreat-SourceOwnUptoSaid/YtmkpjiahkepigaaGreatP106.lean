import Derived.Test.YtmkpjiahkepigaaGreatP100
import Derived.Test.YtmkpjiahkepigaaGreatP105
import Derived.Test.YtmkpjiahkepigaaGreatP104
/- The walk of the law SourceOwn. -/
namespace Go.Proofs.YtmkpjiahkepigaaGreat
open Go Go.RowKit
theorem slotsOf_le {u : Unit_} {m : Mach} (hok : MachOk u m) (hz : SizeU u) (t : Int) : (m.slotsOf t).length ≤ 4160 := by
  unfold Mach.slotsOf
  split
  · cases h : m.slots[t.toNat]? with
    | none => simp
    | some l => exact slots_le hok hz l (List.mem_of_getElem? h)
  · simp
set_option maxRecDepth 100000 in
set_option maxHeartbeats 8000000 in
theorem own_bad (u : Unit_) (cs : List Value) (v1 : Value) (w : World) (hu : UnitV (cmap w) cs u) (hok : UOk u) (hc : checkF u ≠ none) (hus : USz u) :
    Calls Tryz.prog 5 #[.agg cs.toArray, v1] w fun e w' => e = .returned (.bool true) ∧ Below w.heap.size w w' := by
  have hu0 := hu
  obtain ⟨su, lu, gu, rfl, -, -, -⟩ := hu0
  have hB0 := Below_alloc' w (.cells #[su, lu, gu] 25)
  have hx0 := Blk.new w 25 [su, lu, gu]
  have HB0 := Lib.hid (And.intro hB0 hx0)
  have HN := Lib.hid (fun w => step_nil 0 w)
  have HU := Lib.hid (And.intro hu (And.intro hok (And.intro hc hus)))
  clear hu hok hc hus hB0 hx0
  go_enter Tryz.func5, Tryz.ntmps5
  go_wp2_with fail
  refine (HN.out _).mono ?_
  rintro e w1 ⟨rfl, hb1⟩
  have HB1 := Lib.hid (And.intro (HB0.out.1.trans (hb1.mono HB0.out.1.size)) (HB0.out.2.below hb1 HB0.out.2.lt))
  clear hb1 HB0 HN
  go_wp2_with (first
    | (refine stop_store 41 rfl ?_))
  refine Stop.intro ?_
  refine wpList_plain rfl fun K hK => wp_store_row 41 _ _ rfl w1.heap.size #[.int .i64 0, .int .i64 0, .int .u8 0, .int .i64 0, .int .i64 0, .int .i64 0] rfl rfl 41 _ (heap_new w1 _ _ rfl) (by kernel_rfl) rfl (by simp [Value.oneCell']) (hK _ _ ?_)
  simp only [put_none]
  obtain ⟨B6, hB6⟩ : ∃ b, w1.heap.size = b := ⟨_, rfl⟩
  obtain ⟨x2, hx2⟩ : ∃ x, w1.alloc (.cells #[.int .i64 0, .int .i64 0, .int .u8 0, .int .i64 0, .int .i64 0, .int .i64 0] 41) = x := ⟨_, rfl⟩
  have h2 : Below w1.heap.size w1 x2 := by rw [← hx2]; exact Below_alloc' w1 _
  have k2 : Blk x2 B6 41 did0.cells := by rw [← hx2, ← hB6]; exact Blk.new w1 41 did0.cells
  rw [World.setRow_alloc_new, hx2, hB6]
  have HB2 := Lib.hid (And.intro (HB1.out.1.trans (h2.mono HB1.out.1.size)) (And.intro (HB1.out.2.below h2 HB1.out.2.lt) k2))
  clear hx2 hB6 h2 k2 HB1
  go_wp2_with fail
  refine (run_nil _).mono ?_
  rintro e w3 ⟨rfl, hw3⟩
  have h3 : Below x2.heap.size x2 w3 := by rw [hw3]; exact Below_alloc' x2 _
  have HB3 := Lib.hid (And.intro (HB2.out.1.trans (h3.mono HB2.out.1.size)) (And.intro (HB2.out.2.1.below h3 HB2.out.2.1.lt) (HB2.out.2.2.below h3 HB2.out.2.2.lt)))
  clear hw3 h3 HB2
  go_wp2_with fail
  refine (adv_nil _ _ _ _).mono ?_
  rintro e w4 ⟨rfl, hw4⟩
  obtain rfl : w3 = w4 := hw4.symm
  go_wp2_with fail
  refine (lives7_calls _).mono ?_
  rintro e w5 ⟨rfl, hb5⟩
  have kB5 : Blk w5 B6 41 did0.cells := HB3.out.2.2.below hb5 HB3.out.2.2.lt
  have p0 : w5.cell? ⟨B6, 0, none⟩ = some (.int .i64 0) := kB5.cell 0
  have p1 : w5.cell? ⟨B6, 1, none⟩ = some (.int .i64 0) := kB5.cell 1
  have p2 : w5.cell? ⟨B6, 2, none⟩ = some (.int .u8 0) := kB5.cell 2
  have p3 : w5.cell? ⟨B6, 3, none⟩ = some (.int .i64 0) := kB5.cell 3
  have p4 : w5.cell? ⟨B6, 4, none⟩ = some (.int .i64 0) := kB5.cell 4
  have p5 : w5.cell? ⟨B6, 5, none⟩ = some (.int .i64 0) := kB5.cell 5
  have heq := eq_acted did0
  simp only [did0] at heq
  have hm : Tryz.prog.eqGuardType Tryz.prog.depth 41 = false := by kernel_rfl
  have HB5 := Lib.hid (And.intro (HB3.out.1.trans (hb5.mono HB3.out.1.size)) (HB3.out.2.1.below hb5 HB3.out.2.1.lt))
  clear hb5 kB5 HB3
  go_wp2_with fail
  refine (copy_nil _).mono ?_
  rintro e wq ⟨rfl, hq⟩
  obtain rfl : w5 = wq := hq.symm
  clear p0 p1 p2 p3 p4 p5 heq hm
  go_wp2_with fail
  refine (at_nil 0 _).mono ?_
  rintro e w6 ⟨rfl, q1, hq1⟩
  have hb6 : Below w5.heap.size w5 w6 := by rw [hq1]; exact Below_drewN w5 q1
  have HB6 := Lib.hid (And.intro (HB5.out.1.trans (hb6.mono HB5.out.1.size)) (HB5.out.2.below hb6 HB5.out.2.lt))
  clear hq1 hb6 HB5
  go_wp2_with fail
  refine (ended_nil _).mono ?_
  rintro e wq ⟨rfl, hq⟩
  obtain rfl : w6 = wq := hq.symm
  go_wp2_with fail
  refine (blocked_nil _).mono ?_
  rintro e wq ⟨rfl, hq⟩
  obtain rfl : w6 = wq := hq.symm
  go_wp2_with fail
  refine (can_nil 0 _).mono ?_
  rintro e wq ⟨rfl, hq⟩
  obtain rfl : w6 = wq := hq.symm
  go_wp2_with fail
  refine (memory_nil _).mono ?_
  rintro e wq ⟨rfl, hq⟩
  obtain rfl : w6 = wq := hq.symm
  go_wp2_with fail
  refine (slots_nil 0 _).mono ?_
  rintro e wz ⟨rfl, q1, hq1⟩
  have hb7 : Below w6.heap.size w6 wz := by rw [hq1]; exact Below_drewN w6 q1
  have HBZ := Lib.hid (And.intro (HB6.out.1.trans (hb7.mono HB6.out.1.size)) (HB6.out.2.below hb7 HB6.out.2.lt))
  clear hq1 hb7 HB6
  go_wp2_with fail
  refine (holder_nil 0 _).mono ?_
  rintro e wq ⟨rfl, hq⟩
  obtain rfl : wz = wq := hq.symm
  go_wp2_with fail
  refine (prints_nil _).mono ?_
  rintro e wq ⟨rfl, hq⟩
  obtain rfl : wz = wq := hq.symm
  go_wp2_with fail
  refine (key_nil _).mono ?_
  rintro e wq ⟨rfl, hq⟩
  obtain rfl : wz = wq := hq.symm
  have HLD : Hid (∀ j v, ([su, lu, gu] : List Value)[j]? = some v → wz.cell? ⟨w.heap.size, 0 + j, none⟩ = some v) := Lib.hid fun j v hj => by rw [Nat.zero_add, (HBZ.out.2).cell]; exact hj
  go_wp2_with (first
    | (refine wpList_load_at rfl 25 _ rfl w.heap.size 0 rfl _ _ HLD.out Tryz.underlying25 rfl (by kernel_rfl) ?_))
  refine (copyUnitP_calls _ u wz (HU.out.1.mono (cmap_below HBZ.out.1)) HU.out.2.2.2).mono ?_
  rintro e w5 ⟨csO, rfl, hacc, hb5⟩
  obtain ⟨sA, sc, lO, gA, gc, rfl, hown⟩ := hacc.own
  have huO := hacc.acc.unit
  have HC5 := Lib.hid (And.intro (HBZ.out.1.trans (hb5.mono HBZ.out.1.size)) (And.intro (HBZ.out.2.below hb5 HBZ.out.2.lt) (And.intro hown (And.intro huO hb5.size))))
  clear hacc hown huO hb5 HLD
  go_wp2_with (first
    | (refine stop_store 25 rfl ?_))
  refine Stop.intro ?_
  obtain ⟨lA, lc, hlO, -⟩ := (show ∃ lA lc, lO = .slice lA u.locks.length lc ∧ True from by
    obtain ⟨_, _, _, e, -, ⟨lA, lc, hl, -⟩, -⟩ := HC5.out.2.2.2.1
    injection e with _ e
    injection e with e _
    exact ⟨lA, lc, e.trans hl, trivial⟩)
  subst hlO
  refine wpList_plain rfl fun K hK => wp_store_row 25 _ _ rfl w5.heap.size ([.slice sA u.shared.length sc, .slice lA u.locks.length lc, .slice gA u.graphs.length gc] : List Value).toArray rfl rfl 25 _ (heap_new w5 _ _ rfl) (by kernel_rfl) rfl (by simp [Value.oneCell']) (hK _ _ ?_)
  simp only [put_none]
  obtain ⟨K, hK⟩ : ∃ k, w5.heap.size = k := ⟨_, rfl⟩
  obtain ⟨x6, hx6⟩ : ∃ x, w5.alloc (.cells ([.slice sA u.shared.length sc, .slice lA u.locks.length lc, .slice gA u.graphs.length gc] : List Value).toArray 25) = x := ⟨_, rfl⟩
  have h6 : Below w5.heap.size w5 x6 := by rw [← hx6]; exact Below_alloc' w5 _
  have k6 : Blk x6 K 25 [.slice sA u.shared.length sc, .slice lA u.locks.length lc, .slice gA u.graphs.length gc] := by rw [← hx6, ← hK]; exact Blk.new w5 25 [.slice sA u.shared.length sc, .slice lA u.locks.length lc, .slice gA u.graphs.length gc]
  have hown6 : OwnU wz.heap.size K x6 sA gA u := by
    have := HC5.out.2.2.1.fr (w' := x6) (fun q hq => h6.block q hq)
    rwa [hK] at this
  have hu6 : UnitV (cmap x6) [.slice sA u.shared.length sc, .slice lA u.locks.length lc, .slice gA u.graphs.length gc] u := (HC5.out.2.2.2.1.mono (part_le _ _ _)).mono (cmap_below h6)
  rw [World.setRow_alloc_new, hx6, hK]
  have hKz : wz.heap.size ≤ K := by rw [← hK]; exact HC5.out.2.2.2.2
  have hwz : w.heap.size < wz.heap.size := HBZ.out.2.lt
  have HC6 := Lib.hid (And.intro (HC5.out.1.trans (h6.mono HC5.out.1.size)) (And.intro (HC5.out.2.1.below h6 HC5.out.2.1.lt) (And.intro hown6 (And.intro hu6 (And.intro k6 (And.intro hKz hwz))))))
  have HL6 : Hid (∀ j v, ([.slice sA u.shared.length sc, .slice lA u.locks.length lc, .slice gA u.graphs.length gc] : List Value)[j]? = some v → x6.cell? ⟨K, 0 + j, none⟩ = some v) := Lib.hid fun j v hj => by rw [Nat.zero_add, (k6).cell]; exact hj
  clear hx6 hK h6 k6 hown6 hu6 HC5 hKz hwz HBZ
  go_wp2_with (first
    | (refine wpList_load_at rfl 25 _ rfl K 0 rfl _ _ HL6.out Tryz.underlying25 rfl (by kernel_rfl) ?_))
  refine (new_bad u _ _ HC6.out.2.2.2.1 HU.out.2.1 HU.out.2.2.1).mono ?_
  rintro e w7 ⟨rfl, hb7⟩
  have HF := Lib.hid (HC6.out.1.trans (hb7.mono HC6.out.1.size))
  clear hb7 HL6
  go_wp2
  go_ret
  exact ⟨rfl, HF.out⟩
set_option maxRecDepth 100000 in
set_option maxHeartbeats 16000000 in
theorem own_good (u : Unit_) (cs : List Value) (A : Option Addr) (c : Nat) (l : List Int) (w : World) (hu : UnitV (cmap w) cs u) (hok : UOk u) (hso : SOk u) (hus : USz u) (hv : Ints (cmap w) (.slice A l.length c) l) (hl : l.length ≤ 1048576) (hc : checkF u = none) :
    Calls Tryz.prog 5 #[.agg cs.toArray, .slice A l.length c] w fun e w' => e = .returned (.bool true) ∧ Below w.heap.size w w' := by
  have hu0 := hu
  obtain ⟨su, lu, gu, rfl, -, -, -⟩ := hu0
  have hB0 := Below_alloc' w (.cells #[su, lu, gu] 25)
  have hx0 := Blk.new w 25 [su, lu, gu]
  have HB0 := Lib.hid (And.intro hB0 hx0)
  have HN := Lib.hid (fun w => step_nil 0 w)
  have HU := Lib.hid (And.intro hu (And.intro hok (And.intro hc hus)))
  have HK := Lib.hid (And.intro (checkF_none hc) (And.intro hok (And.intro (checkF_sizes hc) (start_situ hc hso))))
  have HV := Lib.hid hv
  clear hu hok hc hus hB0 hx0 hso hv
  go_enter Tryz.func5, Tryz.ntmps5
  go_wp2_with fail
  refine (HN.out _).mono ?_
  rintro e w1 ⟨rfl, hb1⟩
  have HB1 := Lib.hid (And.intro (HB0.out.1.trans (hb1.mono HB0.out.1.size)) (HB0.out.2.below hb1 HB0.out.2.lt))
  clear hb1 HB0 HN
  go_wp2_with (first
    | (refine stop_store 41 rfl ?_))
  refine Stop.intro ?_
  refine wpList_plain rfl fun K hK => wp_store_row 41 _ _ rfl w1.heap.size #[.int .i64 0, .int .i64 0, .int .u8 0, .int .i64 0, .int .i64 0, .int .i64 0] rfl rfl 41 _ (heap_new w1 _ _ rfl) (by kernel_rfl) rfl (by simp [Value.oneCell']) (hK _ _ ?_)
  simp only [put_none]
  obtain ⟨B6, hB6⟩ : ∃ b, w1.heap.size = b := ⟨_, rfl⟩
  obtain ⟨x2, hx2⟩ : ∃ x, w1.alloc (.cells #[.int .i64 0, .int .i64 0, .int .u8 0, .int .i64 0, .int .i64 0, .int .i64 0] 41) = x := ⟨_, rfl⟩
  have h2 : Below w1.heap.size w1 x2 := by rw [← hx2]; exact Below_alloc' w1 _
  have k2 : Blk x2 B6 41 did0.cells := by rw [← hx2, ← hB6]; exact Blk.new w1 41 did0.cells
  rw [World.setRow_alloc_new, hx2, hB6]
  have HB2 := Lib.hid (And.intro (HB1.out.1.trans (h2.mono HB1.out.1.size)) (And.intro (HB1.out.2.below h2 HB1.out.2.lt) k2))
  clear hx2 hB6 h2 k2 HB1
  go_wp2_with fail
  refine (run_nil _).mono ?_
  rintro e w3 ⟨rfl, hw3⟩
  have h3 : Below x2.heap.size x2 w3 := by rw [hw3]; exact Below_alloc' x2 _
  have HB3 := Lib.hid (And.intro (HB2.out.1.trans (h3.mono HB2.out.1.size)) (And.intro (HB2.out.2.1.below h3 HB2.out.2.1.lt) (HB2.out.2.2.below h3 HB2.out.2.2.lt)))
  clear hw3 h3 HB2
  go_wp2_with fail
  refine (adv_nil _ _ _ _).mono ?_
  rintro e w4 ⟨rfl, hw4⟩
  obtain rfl : w3 = w4 := hw4.symm
  go_wp2_with fail
  refine (lives7_calls _).mono ?_
  rintro e w5 ⟨rfl, hb5⟩
  have kB5 : Blk w5 B6 41 did0.cells := HB3.out.2.2.below hb5 HB3.out.2.2.lt
  have p0 : w5.cell? ⟨B6, 0, none⟩ = some (.int .i64 0) := kB5.cell 0
  have p1 : w5.cell? ⟨B6, 1, none⟩ = some (.int .i64 0) := kB5.cell 1
  have p2 : w5.cell? ⟨B6, 2, none⟩ = some (.int .u8 0) := kB5.cell 2
  have p3 : w5.cell? ⟨B6, 3, none⟩ = some (.int .i64 0) := kB5.cell 3
  have p4 : w5.cell? ⟨B6, 4, none⟩ = some (.int .i64 0) := kB5.cell 4
  have p5 : w5.cell? ⟨B6, 5, none⟩ = some (.int .i64 0) := kB5.cell 5
  have heq := eq_acted did0
  simp only [did0] at heq
  have hm : Tryz.prog.eqGuardType Tryz.prog.depth 41 = false := by kernel_rfl
  have HB5 := Lib.hid (And.intro (HB3.out.1.trans (hb5.mono HB3.out.1.size)) (HB3.out.2.1.below hb5 HB3.out.2.1.lt))
  clear hb5 kB5 HB3
  go_wp2_with fail
  refine (copy_nil _).mono ?_
  rintro e wq ⟨rfl, hq⟩
  obtain rfl : w5 = wq := hq.symm
  clear p0 p1 p2 p3 p4 p5 heq hm
  go_wp2_with fail
  refine (at_nil 0 _).mono ?_
  rintro e w6 ⟨rfl, q1, hq1⟩
  have hb6 : Below w5.heap.size w5 w6 := by rw [hq1]; exact Below_drewN w5 q1
  have HB6 := Lib.hid (And.intro (HB5.out.1.trans (hb6.mono HB5.out.1.size)) (HB5.out.2.below hb6 HB5.out.2.lt))
  clear hq1 hb6 HB5
  go_wp2_with fail
  refine (ended_nil _).mono ?_
  rintro e wq ⟨rfl, hq⟩
  obtain rfl : w6 = wq := hq.symm
  go_wp2_with fail
  refine (blocked_nil _).mono ?_
  rintro e wq ⟨rfl, hq⟩
  obtain rfl : w6 = wq := hq.symm
  go_wp2_with fail
  refine (can_nil 0 _).mono ?_
  rintro e wq ⟨rfl, hq⟩
  obtain rfl : w6 = wq := hq.symm
  go_wp2_with fail
  refine (memory_nil _).mono ?_
  rintro e wq ⟨rfl, hq⟩
  obtain rfl : w6 = wq := hq.symm
  go_wp2_with fail
  refine (slots_nil 0 _).mono ?_
  rintro e wz ⟨rfl, q1, hq1⟩
  have hb7 : Below w6.heap.size w6 wz := by rw [hq1]; exact Below_drewN w6 q1
  have HBZ := Lib.hid (And.intro (HB6.out.1.trans (hb7.mono HB6.out.1.size)) (HB6.out.2.below hb7 HB6.out.2.lt))
  clear hq1 hb7 HB6
  go_wp2_with fail
  refine (holder_nil 0 _).mono ?_
  rintro e wq ⟨rfl, hq⟩
  obtain rfl : wz = wq := hq.symm
  go_wp2_with fail
  refine (prints_nil _).mono ?_
  rintro e wq ⟨rfl, hq⟩
  obtain rfl : wz = wq := hq.symm
  go_wp2_with fail
  refine (key_nil _).mono ?_
  rintro e wq ⟨rfl, hq⟩
  obtain rfl : wz = wq := hq.symm
  have HLD : Hid (∀ j v, ([su, lu, gu] : List Value)[j]? = some v → wz.cell? ⟨w.heap.size, 0 + j, none⟩ = some v) := Lib.hid fun j v hj => by rw [Nat.zero_add, (HBZ.out.2).cell]; exact hj
  go_wp2_with (first
    | (refine wpList_load_at rfl 25 _ rfl w.heap.size 0 rfl _ _ HLD.out Tryz.underlying25 rfl (by kernel_rfl) ?_))
  refine (copyUnitP_calls _ u wz (HU.out.1.mono (cmap_below HBZ.out.1)) HU.out.2.2.2).mono ?_
  rintro e w5 ⟨csO, rfl, hacc, hb5⟩
  obtain ⟨sA, sc, lO, gA, gc, rfl, hown⟩ := hacc.own
  have huO := hacc.acc.unit
  have HC5 := Lib.hid (And.intro (HBZ.out.1.trans (hb5.mono HBZ.out.1.size)) (And.intro (HBZ.out.2.below hb5 HBZ.out.2.lt) (And.intro hown (And.intro huO hb5.size))))
  clear hacc hown huO hb5 HLD
  go_wp2_with (first
    | (refine stop_store 25 rfl ?_))
  refine Stop.intro ?_
  obtain ⟨lA, lc, hlO, -⟩ := (show ∃ lA lc, lO = .slice lA u.locks.length lc ∧ True from by
    obtain ⟨_, _, _, e, -, ⟨lA, lc, hl, -⟩, -⟩ := HC5.out.2.2.2.1
    injection e with _ e
    injection e with e _
    exact ⟨lA, lc, e.trans hl, trivial⟩)
  subst hlO
  refine wpList_plain rfl fun K hK => wp_store_row 25 _ _ rfl w5.heap.size ([.slice sA u.shared.length sc, .slice lA u.locks.length lc, .slice gA u.graphs.length gc] : List Value).toArray rfl rfl 25 _ (heap_new w5 _ _ rfl) (by kernel_rfl) rfl (by simp [Value.oneCell']) (hK _ _ ?_)
  simp only [put_none]
  obtain ⟨K, hK⟩ : ∃ k, w5.heap.size = k := ⟨_, rfl⟩
  obtain ⟨x6, hx6⟩ : ∃ x, w5.alloc (.cells ([.slice sA u.shared.length sc, .slice lA u.locks.length lc, .slice gA u.graphs.length gc] : List Value).toArray 25) = x := ⟨_, rfl⟩
  have h6 : Below w5.heap.size w5 x6 := by rw [← hx6]; exact Below_alloc' w5 _
  have k6 : Blk x6 K 25 [.slice sA u.shared.length sc, .slice lA u.locks.length lc, .slice gA u.graphs.length gc] := by rw [← hx6, ← hK]; exact Blk.new w5 25 [.slice sA u.shared.length sc, .slice lA u.locks.length lc, .slice gA u.graphs.length gc]
  have hown6 : OwnU wz.heap.size K x6 sA gA u := by
    have := HC5.out.2.2.1.fr (w' := x6) (fun q hq => h6.block q hq)
    rwa [hK] at this
  have hu6 : UnitV (cmap x6) [.slice sA u.shared.length sc, .slice lA u.locks.length lc, .slice gA u.graphs.length gc] u := (HC5.out.2.2.2.1.mono (part_le _ _ _)).mono (cmap_below h6)
  rw [World.setRow_alloc_new, hx6, hK]
  have hKz : wz.heap.size ≤ K := by rw [← hK]; exact HC5.out.2.2.2.2
  have hwz : w.heap.size < wz.heap.size := HBZ.out.2.lt
  have HC6 := Lib.hid (And.intro (HC5.out.1.trans (h6.mono HC5.out.1.size)) (And.intro (HC5.out.2.1.below h6 HC5.out.2.1.lt) (And.intro hown6 (And.intro hu6 (And.intro k6 (And.intro hKz hwz))))))
  have HL6 : Hid (∀ j v, ([.slice sA u.shared.length sc, .slice lA u.locks.length lc, .slice gA u.graphs.length gc] : List Value)[j]? = some v → x6.cell? ⟨K, 0 + j, none⟩ = some v) := Lib.hid fun j v hj => by rw [Nat.zero_add, (k6).cell]; exact hj
  clear hx6 hK h6 k6 hown6 hu6 HC5 hKz hwz HBZ
  go_wp2_with (first
    | (refine wpList_load_at rfl 25 _ rfl K 0 rfl _ _ HL6.out Tryz.underlying25 rfl (by kernel_rfl) ?_))
  refine (new_good u _ _ HC6.out.2.2.2.1 HU.out.2.1 HU.out.2.2.1).mono ?_
  rintro e w8 ⟨g, L, R, rfl, hM, hR, hmu, hb8⟩
  have hK6 : K < x6.heap.size := HC6.out.2.2.2.2.1.lt
  have hown8 : OwnU wz.heap.size K w8 sA gA u := HC6.out.2.2.1.fr fun q hq => hb8.block q (by omega)
  have hb08 := HC6.out.1.trans (hb8.mono HC6.out.1.size)
  have kw8 := HC6.out.2.1.below hb8 HC6.out.2.1.lt
  have kK8 := HC6.out.2.2.2.2.1.below hb8 HC6.out.2.2.2.2.1.lt
  have HM := Lib.hid (And.intro hM (And.intro (fun q (hq : R q) => (And.intro (show K < q from Nat.lt_of_lt_of_le hK6 (hR q hq).1) (hR q hq).2)) (And.intro (fun q (hq : L.mut g q) => (show K < q from Nat.lt_of_lt_of_le hK6 (hmu q hq))) (And.intro hb08 (And.intro kw8 (And.intro kK8 (And.intro HC6.out.2.2.2.2.2.1 HC6.out.2.2.2.2.2.2)))))))
  have HO8 := Lib.hid (And.intro (FrW.refl (fun q => wz.heap.size ≤ q ∧ q < K) w8) hown8)
  have c2 : w8.cell? ⟨K, 2, none⟩ = some (.slice gA u.graphs.length gc) := kK8.cell 2
  have nG := HK.out.1.threads
  have nS := HK.out.1.shared
  clear hM hR hmu hb8 hK6 hown8 hb08 kw8 kK8 HC6 HL6
  go_wp2
  go_loopw [139, 15, 16] (fun v139 _ _ wr => ∃ k : Nat, v139 = .int .i64 k ∧ k ≤ u.graphs.length ∧ Hid (FrW (fun q => wz.heap.size ≤ q ∧ q < K) w8 wr ∧ OwnU wz.heap.size K wr sA gA u)) (fun v139 _ _ _ => u.graphs.length - (intOf v139).toNat)
  case atStart => exact ⟨0, rfl, by omega, HO8⟩
  case round =>
    clear c2 HO8
    obtain ⟨k, rfl, hk, HO⟩ := hrel
    by_cases hlt : k < u.graphs.length
    · obtain ⟨gr, hgr⟩ : ∃ gr, u.graphs[k]? = some gr := ⟨_, List.getElem?_eq_getElem hlt⟩
      obtain ⟨gb, nA, nc, hgA, hgbK, hcell, -⟩ := HO.out.2.gr k gr hgr
      subst hgA
      have kK : Blk wr K 25 [.slice sA u.shared.length sc, .slice lA u.locks.length lc, .slice (some ⟨gb, 0, none⟩) u.graphs.length gc] := HM.out.2.2.2.2.2.1.fr HO.out.1 (fun e => by have e : wz.heap.size ≤ K ∧ K < K := e; omega)
      have c2 : wr.cell? ⟨K, 2, none⟩ = some (.slice (some ⟨gb, 0, none⟩) u.graphs.length gc) := kK.cell 2
      have hmost : gr.nodes.length ≤ 1048576 := by have := (HK.out.1.graphs gr (List.mem_of_getElem? hgr)).whole.most; omega
      have HGR := Lib.hid hgr
      have k0 : (0 : Int) ≤ k := by omega
      have k1 : (k : Int) < u.graphs.length := by omega
      obtain ⟨nN, hnN⟩ : ∃ n, gr.nodes.length = n := ⟨_, rfl⟩
      rw [hnN] at hcell hmost
      have HNN := Lib.hid hnN
      clear hgr hgbK kK hnN
      go_wp2
      obtain ⟨wo, rfl⟩ : ∃ wo : World, wo = wr := ⟨_, rfl⟩
      go_loopw [149, 16] (fun v149 _ wr => ∃ j : Nat, v149 = .int .i64 j ∧ j ≤ nN ∧ Hid (FrW (fun q => wz.heap.size ≤ q ∧ q < K) w8 wr ∧ OwnU wz.heap.size K wr sA (some ⟨gb, 0, none⟩) u)) (fun v149 _ _ => nN - (intOf v149).toNat)
      case atStart => exact ⟨0, rfl, by omega, HO⟩
      case round =>
        clear c2 hcell HO
        obtain ⟨j, rfl, hj, HO⟩ := hrel
        by_cases hjl : j < nN
        · obtain ⟨gb', nA', nc', hgA', -, hcell, hnd⟩ := HO.out.2.gr k gr HGR.out
          injection hgA' with hgA'
          injection hgA' with hgA' _ _
          subst hgA'
          obtain ⟨b, o, rfl, hbB, hbK, hgbb, cur, T, hcur, hfit⟩ := hnd j (by rw [HNN.out]; exact hjl)
          rw [HNN.out] at hcell
          have kK : Blk wr K 25 [.slice sA u.shared.length sc, .slice lA u.locks.length lc, .slice (some ⟨gb, 0, none⟩) u.graphs.length gc] := HM.out.2.2.2.2.2.1.fr HO.out.1 (fun e => by have e : wz.heap.size ≤ K ∧ K < K := e; omega)
          have c2 : wr.cell? ⟨K, 2, none⟩ = some (.slice (some ⟨gb, 0, none⟩) u.graphs.length gc) := kK.cell 2
          have j0 : (0 : Int) ≤ j := by omega
          have j1 : (j : Int) < nN := by omega
          have HC := Lib.hid (And.intro hcur (And.intro hfit (And.intro hbB (And.intro hbK hgbb))))
          clear hcur hfit hbB hbK hgbb kK hnd
          go_wp2_with (first
            | (refine stop_store 53 rfl ?_))
          refine Stop.intro ?_
          refine wpList_store_part rfl 53 _ _ rfl b (o + j * 13) #[.int .u8 0, .int .u8 0, .int .i64 0, .int .i64 0, .bool false, .int .i64 0, .int .i64 0, .bool false, .int .i64 0, .int .i64 0, .int .i64 0, .int .i64 0, .int .i64 0] rfl rfl T cur HC.out.1 (by kernel_rfl) (by have := HC.out.2.1; simp; omega) (by simp [Value.oneCell']) (fun row hrow => ?_)
          simp only [put_none]
          have HO2 : Hid (FrW (fun q => wz.heap.size ≤ q ∧ q < K) w8 (wr.setRow b row) ∧ OwnU wz.heap.size K (wr.setRow b row) sA (some ⟨gb, 0, none⟩) u) := Lib.hid ⟨HO.out.1.trans (FrW.setRow wr ⟨HC.out.2.2.1, HC.out.2.2.2.1⟩ row), HO.out.2.put HC.out.1 hrow (fun e => by injection e with e; exact HC.out.2.2.2.2 e)⟩
          clear HC c2 hcell hrow
          go_wp2
          go_roundw
          case rel => exact ⟨j + 1, by go_num, by omega, HO2⟩
          case measure => simp [intOf]; omega
        · obtain rfl : nN = j := by omega
          have nj : ¬ ((nN : Int) < nN) := by omega
          go_wp2
          go_roundw
          case rel => exact ⟨k + 1, by go_num, by omega, HO⟩
          case measure => simp [intOf]; omega
    · obtain rfl : k = u.graphs.length := by omega
      have nk : ¬ ((u.graphs.length : Int) < u.graphs.length) := by omega
      have kK : Blk wr K 25 [.slice sA u.shared.length sc, .slice lA u.locks.length lc, .slice gA u.graphs.length gc] := HM.out.2.2.2.2.2.1.fr HO.out.1 (fun e => by have e : wz.heap.size ≤ K ∧ K < K := e; omega)
      have c0 : wr.cell? ⟨K, 0, none⟩ = some (.slice sA u.shared.length sc) := kK.cell 0
      have HO1 := HO
      clear hk hlt HO kK
      go_wp2
      obtain ⟨wo, rfl⟩ : ∃ wo : World, wo = wr := ⟨_, rfl⟩
      go_loopw [166, 17] (fun v166 _ wr => ∃ j : Nat, v166 = .int .i64 j ∧ j ≤ u.shared.length ∧ Hid (FrW (fun q => wz.heap.size ≤ q ∧ q < K) w8 wr ∧ OwnU wz.heap.size K wr sA gA u)) (fun v166 _ _ => u.shared.length - (intOf v166).toNat)
      case atStart => exact ⟨0, rfl, by omega, HO1⟩
      case round =>
        clear c0 HO1
        obtain ⟨j, rfl, hj, HO⟩ := hrel
        by_cases hjl : j < u.shared.length
        · obtain ⟨b, o, rfl, hbB, hbK, hgbb, cur, T, hcur, hfit⟩ := HO.out.2.sh j hjl
          have kK : Blk wr K 25 [.slice (some ⟨b, o, none⟩) u.shared.length sc, .slice lA u.locks.length lc, .slice gA u.graphs.length gc] := HM.out.2.2.2.2.2.1.fr HO.out.1 (fun e => by have e : wz.heap.size ≤ K ∧ K < K := e; omega)
          have c0 : wr.cell? ⟨K, 0, none⟩ = some (.slice (some ⟨b, o, none⟩) u.shared.length sc) := kK.cell 0
          have j0 : (0 : Int) ≤ j := by omega
          have j1 : (j : Int) < u.shared.length := by omega
          have HC := Lib.hid (And.intro hcur (And.intro hfit (And.intro hbB (And.intro hbK hgbb))))
          clear hcur hfit hbB hbK hgbb kK
          go_wp2_with (first
            | (refine stop_store 75 rfl ?_))
          refine Stop.intro ?_
          refine wpList_store_part rfl 75 _ _ rfl b (o + j * 3) #[.string ⟨#[]⟩, .int .i64 0, .int .i64 0] rfl rfl T cur HC.out.1 (by kernel_rfl) (by have := HC.out.2.1; simp; omega) (by simp [Value.oneCell']) (fun row hrow => ?_)
          simp only [put_none]
          have HO2 : Hid (FrW (fun q => wz.heap.size ≤ q ∧ q < K) w8 (wr.setRow b row) ∧ OwnU wz.heap.size K (wr.setRow b row) (some ⟨b, o, none⟩) gA u) := Lib.hid ⟨HO.out.1.trans (FrW.setRow wr ⟨HC.out.2.2.1, HC.out.2.2.2.1⟩ row), HO.out.2.put HC.out.1 hrow HC.out.2.2.2.2⟩
          clear HC c0 hrow
          go_wp2
          go_roundw
          case rel => exact ⟨j + 1, by go_num, by omega, HO2⟩
          case measure => simp [intOf]; omega
        · obtain rfl : j = u.shared.length := by omega
          have nj : ¬ ((u.shared.length : Int) < u.shared.length) := by omega
          have hwr : w8.heap.size ≤ wr.heap.size := HO.out.1.size
          have hMr : MachB wr R g L u (startM u) := HM.out.1.fr HO.out.1 (fun q hq e => by have := HM.out.2.2.1 q hq; have := e.2; omega) (fun q hq e => by have := (HM.out.2.1 q hq).1; have := e.2; omega)
          have hbr : Below w.heap.size w wr := HM.out.2.2.2.1.trans (HO.out.1.grow w.heap.size HM.out.2.2.2.1.size (fun q hq => by have := HM.out.2.2.2.2.2.2.2; have := hq.1; omega))
          have kwr : Blk wr w.heap.size 25 [su, lu, gu] := HM.out.2.2.2.2.1.fr HO.out.1 (fun e => by have := HM.out.2.2.2.2.2.2.2; have := e.1; omega)
          have HLU : Hid (∀ j v, ([su, lu, gu] : List Value)[j]? = some v → wr.cell? ⟨w.heap.size, 0 + j, none⟩ = some v) := Lib.hid fun j v hj => by rw [Nat.zero_add, (kwr).cell]; exact hj
          have HMR := Lib.hid (And.intro hMr (And.intro (fun q (hq : R q) => (Nat.lt_of_lt_of_le (HM.out.2.1 q hq).2 hwr : q < wr.heap.size)) (And.intro (fun q (hq : L.mut g q) => (show w.heap.size ≤ q from by have h1 := HM.out.2.2.1 q hq; have h2 := HM.out.2.2.2.2.2.2.1; have h3 := HM.out.2.2.2.2.2.2.2; omega)) hbr)))
          clear hj hjl HO hwr hMr hbr kwr HM
          go_wp2_with (first
            | (refine wpList_load_at rfl 25 _ rfl w.heap.size 0 rfl _ _ HLU.out Tryz.underlying25 rfl (by kernel_rfl) ?_))
          refine (r7new_good u _ _ (fun q => q < w.heap.size) (HU.out.1.mono (on_low HMR.out.2.2.2)) HU.out.2.1 HU.out.2.2.1).mono ?_
          rintro e w3 ⟨cs0, rfl, hr3, hb3⟩
          obtain ⟨su0, lu0, gu0, va, vo, vm, vh, vp, rfl, -⟩ := id hr3
          have ONE0 := ref_oneA hr3
          have HR3 := Lib.hid (And.intro hr3 hb3)
          clear hr3 hb3 HLU
          go_wp2_with (first
            | (refine stop_store 35 rfl ?_))
          refine Stop.intro ?_
          refine wpList_plain rfl fun K hK => wp_store_row 35 _ _ rfl w3.heap.size ([su0, lu0, gu0, va, vo, vm, vh, vp] : List Value).toArray rfl rfl 35 _ (heap_new w3 _ _ rfl) (by kernel_rfl) rfl ONE0 (hK _ _ ?_)
          simp only [put_none]
          obtain ⟨k7, hk7⟩ : ∃ k7, w3.heap.size = k7 := ⟨_, rfl⟩
          obtain ⟨x4, hx4⟩ : ∃ x4, w3.alloc (.cells ([su0, lu0, gu0, va, vo, vm, vh, vp] : List Value).toArray 35) = x4 := ⟨_, rfl⟩
          have h4 : Below w3.heap.size w3 x4 := by rw [← hx4]; exact Below_alloc' w3 _
          have hk4 : Blk x4 k7 35 [su0, lu0, gu0, va, vo, vm, vh, vp] := by rw [← hx4, ← hk7]; exact Blk.new w3 _ _
          have hA4 : SrAt w x4 R g L u k7 (fun q => q < w.heap.size ∨ (wr.heap.size ≤ q ∧ q < w3.heap.size)) [su0, lu0, gu0, va, vo, vm, vh, vp] (startM u) 0 := by
            have hb3 := HR3.out.2
            have hb24 : Below wr.heap.size wr x4 := hb3.trans (h4.mono hb3.size)
            have hw2 := HMR.out.2.2.2.size
            have hs3 := hb3.size
            have hs4 := h4.size
            refine ⟨⟨⟨L.pv, HMR.out.1.below hb24, fun q hq => ⟨HMR.out.2.2.1 q hq, fun e => ?_⟩⟩, fun q hq => ?_, HMR.out.2.2.2.trans (hb24.mono hw2), fun q hq => ?_⟩, ?_, hk4, fun e => ?_, by omega, fun q hq => ?_, HK.out.2.2.2, PrI.start u, by simp [startM]⟩
            · have h1 := HMR.out.1.lt hq
              have h2 := HMR.out.2.2.1 q hq
              rcases e with e | e <;> omega
            · have := HMR.out.2.1 q hq; omega
            · rcases hq with e | e <;> omega
            · refine HR3.out.1.mono ?_
              intro b o v hv
              obtain ⟨h1, h2⟩ := on_at hv
              have hlt := World.block_lt_of_cell? w3 ⟨b, o, none⟩ h1
              have hlt2 : b < w3.heap.size := hlt
              refine on_mk ((h4.cell (p := ⟨b, o, none⟩) hlt2).trans h1) ?_
              rcases h2 with e | e
              · exact .inl e
              · exact .inr ⟨e, hlt2⟩
            · have e : k7 < w.heap.size ∨ (wr.heap.size ≤ k7 ∧ k7 < w3.heap.size) := e
              omega
            · have := HMR.out.2.1 q hq; omega
          rw [World.setRow_alloc_new, hx4, hk7]
          have HA5 := Lib.hid hA4
          clear hx4 hk7 h4 hk4 hA4 HR3 HMR ONE0
          go_wp2
          obtain ⟨wo, rfl⟩ : ∃ wo : World, wo = wr := ⟨_, rfl⟩
          go_loopw [182, 21, 22, 23, 24, 25, 26, 27, 28, 29] (fun i _ _ _ _ _ _ _ _ _ wr => ∃ (k : Nat) (mk : Mach) (cs' : List Value) (Z : Nat → Prop), i = .int .i64 k ∧ k ≤ l.length ∧ Hid (SrAt w wr R g L u k7 Z cs' mk k)) (fun i _ _ _ _ _ _ _ _ _ _ => l.length - (intOf i).toNat)
          case atStart => exact ⟨0, _, _, _, rfl, by omega, HA5⟩
          case round =>
            clear HA5
            obtain ⟨k, mk, csk, Z, rfl, hk, HH⟩ := hrel
            obtain ⟨su1, lu1, gu1, va1, vo1, vm1, vh1, vp1, rfl, -⟩ := id HH.out.ref
            by_cases hlt : k < l.length
            · obtain ⟨t, ht⟩ : ∃ t, l[k]? = some t := ⟨_, List.getElem?_eq_getElem hlt⟩
              obtain ⟨sb, so, rfl, hsc⟩ := (HV.out.mono (cmap_below HH.out.a.bel)).at_ ht
              rw [Nat.mul_one] at hsc
              have hcs : wr.cell? ⟨sb, so + k, none⟩ = some (.int .i64 t) := hsc
              have i0 : (0 : Int) ≤ k := by omega
              have i1 : (k : Int) < l.length := by omega
              have HLM : Hid (∀ j v, ([su1, lu1, gu1, va1, vo1, vm1, vh1, vp1] : List Value)[j]? = some v → wr.cell? ⟨k7, 0 + j, none⟩ = some v) := Lib.hid fun j v hj => by rw [Nat.zero_add, (HH.out.b7).cell]; exact hj
              have HST := Lib.hid (r7step_calls _ u mk t wr Z HH.out.ref HK.out.1 HK.out.2.2.1 HK.out.2.1 HH.out.situ (by have := HH.out.pr; omega))
              obtain ⟨bv, hbv⟩ : ∃ b, barF u mk t = b := ⟨_, rfl⟩
              obtain ⟨d, hd⟩ : ∃ d, stepD u mk t = d := ⟨_, rfl⟩
              rw [hbv, hd] at HST
              have HBD := Lib.hid (And.intro hbv hd)
              clear hsc ht hbv hd
              go_wp2_with (first
                | (refine wpList_load_at rfl 35 _ rfl k7 0 rfl _ _ HLM.out Tryz.underlying35 rfl (by kernel_rfl) ?_))
              refine HST.out.mono ?_
              rintro e w6 ⟨cs2, rfl, hr6, hb6⟩
              obtain ⟨su2, lu2, gu2, va2, vo2, vm2, vh2, vp2, rfl, -⟩ := id hr6
              have ONEF := ref_oneA hr6
              have HR6 := Lib.hid (And.intro hr6 hb6)
              clear hr6 hb6 HLM HST hcs
              go_wp2_with (first
                | (refine stop_store 35 rfl ?_)
                | (refine stop_store 41 rfl ?_))
              refine Stop.intro ?_
              have ka : Blk ((w6.alloc (.cells #[.slice none 0 0, .slice none 0 0, .slice none 0 0, .slice none 0 0, .slice none 0 0, .slice none 0 0, .slice none 0 0, .slice none 0 0] 35)).alloc (.cells #[.int .i64 0, .int .i64 0, .int .u8 0, .int .i64 0, .int .i64 0, .int .i64 0] 41)) w6.heap.size 35 [.slice none 0 0, .slice none 0 0, .slice none 0 0, .slice none 0 0, .slice none 0 0, .slice none 0 0, .slice none 0 0, .slice none 0 0] := (Blk.new w6 _ _).alloc _
              have kb : Blk ((w6.alloc (.cells #[.slice none 0 0, .slice none 0 0, .slice none 0 0, .slice none 0 0, .slice none 0 0, .slice none 0 0, .slice none 0 0, .slice none 0 0] 35)).alloc (.cells #[.int .i64 0, .int .i64 0, .int .u8 0, .int .i64 0, .int .i64 0, .int .i64 0] 41)) (w6.heap.size + 1) 41 [.int .i64 0, .int .i64 0, .int .u8 0, .int .i64 0, .int .i64 0, .int .i64 0] := Blk.of (heap_new (w6.alloc _) _ _ (by simp)) rfl
              have kz : Below w6.heap.size w6 ((w6.alloc (.cells #[.slice none 0 0, .slice none 0 0, .slice none 0 0, .slice none 0 0, .slice none 0 0, .slice none 0 0, .slice none 0 0, .slice none 0 0] 35)).alloc (.cells #[.int .i64 0, .int .i64 0, .int .u8 0, .int .i64 0, .int .i64 0, .int .i64 0] 41)) := (Below_alloc' w6 _).alloc (by simp) _
              refine wpList_plain rfl fun K hK => wp_store_row 35 _ _ rfl w6.heap.size ([su2, lu2, gu2, va2, vo2, vm2, vh2, vp2] : List Value).toArray rfl rfl 35 _ ka (by kernel_rfl) rfl ONEF (hK _ _ ?_)
              have ka1 : Blk (((w6.alloc (.cells #[.slice none 0 0, .slice none 0 0, .slice none 0 0, .slice none 0 0, .slice none 0 0, .slice none 0 0, .slice none 0 0, .slice none 0 0] 35)).alloc (.cells #[.int .i64 0, .int .i64 0, .int .u8 0, .int .i64 0, .int .i64 0, .int .i64 0] 41)).setRow w6.heap.size ([su2, lu2, gu2, va2, vo2, vm2, vh2, vp2] : List Value).toArray) w6.heap.size 35 [su2, lu2, gu2, va2, vo2, vm2, vh2, vp2] := Blk.setRow (cs' := [su2, lu2, gu2, va2, vo2, vm2, vh2, vp2]) ka
              have kb1 : Blk (((w6.alloc (.cells #[.slice none 0 0, .slice none 0 0, .slice none 0 0, .slice none 0 0, .slice none 0 0, .slice none 0 0, .slice none 0 0, .slice none 0 0] 35)).alloc (.cells #[.int .i64 0, .int .i64 0, .int .u8 0, .int .i64 0, .int .i64 0, .int .i64 0] 41)).setRow w6.heap.size ([su2, lu2, gu2, va2, vo2, vm2, vh2, vp2] : List Value).toArray) (w6.heap.size + 1) 41 [.int .i64 0, .int .i64 0, .int .u8 0, .int .i64 0, .int .i64 0, .int .i64 0] := (heap_setRow_ne (by omega) _).trans kb
              have kz1 : Below w6.heap.size w6 (((w6.alloc (.cells #[.slice none 0 0, .slice none 0 0, .slice none 0 0, .slice none 0 0, .slice none 0 0, .slice none 0 0, .slice none 0 0, .slice none 0 0] 35)).alloc (.cells #[.int .i64 0, .int .i64 0, .int .u8 0, .int .i64 0, .int .i64 0, .int .i64 0] 41)).setRow w6.heap.size ([su2, lu2, gu2, va2, vo2, vm2, vh2, vp2] : List Value).toArray) := below_row kz (Nat.le_refl _) _
              obtain ⟨x7, hx7⟩ : ∃ x, ((w6.alloc (.cells #[.slice none 0 0, .slice none 0 0, .slice none 0 0, .slice none 0 0, .slice none 0 0, .slice none 0 0, .slice none 0 0, .slice none 0 0] 35)).alloc (.cells #[.int .i64 0, .int .i64 0, .int .u8 0, .int .i64 0, .int .i64 0, .int .i64 0] 41)).setRow w6.heap.size ([su2, lu2, gu2, va2, vo2, vm2, vh2, vp2] : List Value).toArray = x := ⟨_, rfl⟩
              rw [hx7] at ka1 kb1 kz1 ⊢
              simp only [put_none]
              refine wpList_plain rfl fun K hK => wp_store_row 41 _ _ rfl (w6.heap.size + 1) d.cells.toArray rfl rfl 41 _ kb1 (by kernel_rfl) rfl (by simp [Did.cells, Value.oneCell']) (hK _ _ ?_)
              have ka2 : Blk (x7.setRow (w6.heap.size + 1) d.cells.toArray) w6.heap.size 35 [su2, lu2, gu2, va2, vo2, vm2, vh2, vp2] := (heap_setRow_ne (by omega) _).trans ka1
              have kz2 : Below w6.heap.size w6 (x7.setRow (w6.heap.size + 1) d.cells.toArray) := below_row kz1 (by omega) _
              obtain ⟨x8, hx8⟩ : ∃ x, x7.setRow (w6.heap.size + 1) d.cells.toArray = x := ⟨_, rfl⟩
              rw [hx8] at ka2 kz2 ⊢
              simp only [put_none]
              clear ka kb kz ka1 kb1 kz1 hx7 hx8
              have HLM2 : Hid (∀ j v, ([su2, lu2, gu2, va2, vo2, vm2, vh2, vp2] : List Value)[j]? = some v → x8.cell? ⟨w6.heap.size, 0 + j, none⟩ = some v) := Lib.hid fun j v hj => by rw [Nat.zero_add, (ka2).cell]; exact hj
              have hS := HH.out.refStep HR6.out.2 kz2 HR6.out.1
              have k78 : Blk x8 k7 35 [su1, lu1, gu1, va1, vo1, vm1, vh1, vp1] := HH.out.b7.below (HR6.out.2.trans (kz2.mono HR6.out.2.size)) HH.out.b7.lt
              have HS8 := Lib.hid (And.intro hS k78)
              clear ka2 kz2 hS k78
              go_wp2_with (first
                | (refine wpList_load_at rfl 35 _ rfl w6.heap.size 0 rfl _ _ HLM2.out Tryz.underlying35 rfl (by kernel_rfl) ?_)
                | (refine stop_store 35 rfl ?_))
              refine Stop.intro ?_
              refine wpList_plain rfl fun K hK => wp_store_row 35 _ _ rfl k7 ([su2, lu2, gu2, va2, vo2, vm2, vh2, vp2] : List Value).toArray rfl rfl 35 _ HS8.out.2 (by kernel_rfl) rfl ONEF (hK _ _ ?_)
              have hS := HS8.out.1
              obtain ⟨x9, hx9⟩ : ∃ x, x8.setRow k7 ([su2, lu2, gu2, va2, vo2, vm2, vh2, vp2] : List Value).toArray = x := ⟨_, rfl⟩
              rw [hx9] at hS ⊢
              simp only [put_none]
              obtain ⟨pv, k1, k2⟩ := hS.1.ex
              have hst := step_calls t k1 HH.out.situ.ok HH.out.situ.mi HK.out.1 HK.out.2.1 (by have := HH.out.pr; omega) hS.1.rl
              rw [HBD.out.1, HBD.out.2] at hst
              have HSC := Lib.hid hst
              have HS9 := Lib.hid (And.intro hS (And.intro k1 k2))
              clear hS k1 k2 hst hx9 HS8 HR6 HLM2
              go_wp2_with fail
              refine HSC.out.mono ?_
              rintro e w10 ⟨rfl, hmade⟩
              have hmd := HS9.out.1.1.made HS9.out.2.2 hmade
              have k710 : Blk w10 k7 35 [su2, lu2, gu2, va2, vo2, vm2, vh2, vp2] := HS9.out.1.2.2.1.fr hmade.fr (HS9.out.2.1.notmut HS9.out.1.2.2.1 (by decide) (by decide) (by decide) (by decide))
              have hA10 : SrAt w w10 R g L u k7 _ [su2, lu2, gu2, va2, vo2, vm2, vh2, vp2] (stepM u mk t) (k + 1) :=
                ⟨hmd.1, HS9.out.1.2.1.mono hmd.2, k710, HS9.out.1.2.2.2, HH.out.ge, HH.out.rk, HH.out.situ.step HK.out.1 HK.out.2.1 t, HH.out.pri.step HK.out.1 HK.out.2.1 HH.out.situ t, by have := stepM_pr u mk t; have := HH.out.pr; omega⟩
              have HA10 := Lib.hid hA10
              clear hmd hmade k710 hA10 HS9 HSC
              go_wp2_with (first
                | (refine stop_store 41 rfl ?_))
              refine Stop.intro ?_
              refine wpList_plain rfl fun K hK => wp_store_row 41 _ _ rfl w10.heap.size d.cells.toArray rfl rfl 41 _ (heap_new w10 _ _ rfl) (by kernel_rfl) rfl (by simp [Did.cells, Value.oneCell']) (hK _ _ ?_)
              simp only [put_none]
              obtain ⟨x11, hx11⟩ : ∃ x, w10.alloc (.cells d.cells.toArray 41) = x := ⟨_, rfl⟩
              rw [World.setRow_alloc_new, hx11]
              have hb11 : Below w10.heap.size w10 x11 := by rw [← hx11]; exact Below_alloc' w10 _
              have hA11 := HA10.out.below hb11
              obtain ⟨pv, hM, hmu⟩ := hA11.a.ex
              obtain ⟨mq, hmq⟩ : ∃ m, stepM u mk t = m := ⟨_, rfl⟩
              rw [hmq] at hM hA11
              have HMQ := Lib.hid (fun wx (hb : Below x11.heap.size x11 wx) => hM.below hb)
              have HOKQ := Lib.hid (And.intro hA11.situ.ok (And.intro HK.out.2.2.1 hA11.pr))
              obtain ⟨nM, hnM⟩ : ∃ n, mq.mem.length = n := ⟨_, rfl⟩
              obtain ⟨nP, hnP⟩ : ∃ n, mq.prints.length = n := ⟨_, rfl⟩
              obtain ⟨nT, hnT⟩ : ∃ n, (mq.slotsOf t).length = n := ⟨_, rfl⟩
              have bM : nM ≤ 64 := by rw [← hnM, hA11.situ.ok.mem]; exact HK.out.1.shared
              have bP : nP ≤ 1048577 := by have := hA11.pr; omega
              have bT : nT ≤ 4160 := by rw [← hnT]; exact slotsOf_le hA11.situ.ok HK.out.2.2.1 t
              have HNP := Lib.hid (And.intro hnM (And.intro hnP hnT))
              have HMC := Lib.hid (fun wx (hb : Below x11.heap.size x11 wx) => memoryP_calls (hM.below hb) (by omega))
              have HPC := Lib.hid (fun wx (hb : Below x11.heap.size x11 wx) => printsP_calls (hM.below hb) (by omega))
              have HTC := Lib.hid (fun wx (hb : Below x11.heap.size x11 wx) => slotsP_calls t (hM.below hb) hA11.situ.ok HK.out.2.2.1)
              rw [hnM] at HMC
              rw [hnP] at HPC
              rw [hnT] at HTC
              have HA11 := Lib.hid hA11
              have hbb : (bv != bv) = false := by simp
              clear hx11 hb11 hA11 hM hmu HA10 hmq hnM hnP hnT HMQ HOKQ
              go_wp2_with fail
              refine (HMC.out x11 (Below.refl _ _)).mono ?_
              rintro e w12 ⟨qA, qc, rfl, -, hb12⟩
              have HBm := Lib.hid hb12
              clear hb12
              go_wp2
              obtain ⟨wo, rfl⟩ : ∃ wo : World, wo = wr := ⟨_, rfl⟩
              go_loopw [206, 27] (fun v206 _ wr => ∃ j : Nat, v206 = .int .i64 j ∧ j ≤ nM ∧ Hid (Below x11.heap.size x11 wr)) (fun v206 _ _ => nM - (intOf v206).toNat)
              case atStart => exact ⟨0, rfl, by omega, HBm⟩
              case round =>
                clear HBm
                obtain ⟨j, rfl, hj, HB⟩ := hrel
                by_cases hjl : j < nM
                · have HP := Lib.hid (HMC.out wr HB.out)
                  have j0 : (0 : Int) ≤ j := by omega
                  have j1 : (j : Int) < nM := by omega
                  go_wp2_with fail
                  refine HP.out.mono ?_
                  rintro e wq ⟨qA, qc, rfl, hqi, hqb⟩
                  obtain ⟨x, hx⟩ : ∃ x, mq.mem[j]? = some x := ⟨_, List.getElem?_eq_getElem (by rw [HNP.out.1]; exact hjl)⟩
                  obtain ⟨qb, qo, rfl, hqc⟩ := hqi.at_ hx
                  obtain ⟨p1, p2, p3, p4⟩ := partP_at hqc
                  rw [Nat.mul_one] at p1
                  have y1 : wq.cell? ⟨qb, qo + j, none⟩ = some (.int .i64 x) := p1
                  have f1 : wq.frozen? ⟨qb, qo + j, none⟩ = false := p4.frozen _
                  have HB2 : Hid (Below x11.heap.size x11 (wq.setCell ⟨qb, qo + j, none⟩ (.int .i64 77))) := Lib.hid ((HB.out.trans (hqb.mono HB.out.size)).setCell (by have := HB.out.size; show _ ≤ qb; omega) _)
                  clear hx hqi hqb hqc p1 p2 p3 p4 HP
                  go_wp2
                  go_roundw
                  case rel => exact ⟨j + 1, by go_num, by omega, HB2⟩
                  case measure => simp [intOf]; omega
                · obtain rfl : nM = j := by omega
                  have nj : ¬ ((nM : Int) < nM) := by omega
                  have HB5 := HB
                  clear hj hjl HB
                  go_wp2_with fail
                  refine (HPC.out wr HB5.out).mono ?_
                  rintro e w13 ⟨qA, qc, rfl, -, hb13⟩
                  have HBp := Lib.hid (HB5.out.trans (hb13.mono HB5.out.size))
                  clear hb13 HB5
                  go_wp2
                  obtain ⟨wo2, rfl⟩ : ∃ wo : World, wo = wr := ⟨_, rfl⟩
                  go_loopw [217, 28] (fun v217 _ wr => ∃ j : Nat, v217 = .int .i64 j ∧ j ≤ nP ∧ Hid (Below x11.heap.size x11 wr)) (fun v217 _ _ => nP - (intOf v217).toNat)
                  case atStart => exact ⟨0, rfl, by omega, HBp⟩
                  case round =>
                    clear HBp
                    obtain ⟨j, rfl, hj, HB⟩ := hrel
                    by_cases hjl : j < nP
                    · have HP := Lib.hid (HPC.out wr HB.out)
                      have j0 : (0 : Int) ≤ j := by omega
                      have j1 : (j : Int) < nP := by omega
                      go_wp2_with fail
                      refine HP.out.mono ?_
                      rintro e wq ⟨qA, qc, rfl, hqi, hqb⟩
                      obtain ⟨x, hx⟩ : ∃ x, mq.prints[j]? = some x := ⟨_, List.getElem?_eq_getElem (by rw [HNP.out.2.1]; exact hjl)⟩
                      obtain ⟨qb, qo, rfl, hq1, hq2⟩ := hqi.at_ hx
                      obtain ⟨p1, p2, p3, p4⟩ := partP_at hq2
                      obtain ⟨cur, T, hcur, hfit⟩ := Wr.mk p1 p4
                      have HC := Lib.hid (And.intro hcur (And.intro hfit (And.intro p2 (HB.out.trans (hqb.mono HB.out.size)))))
                      clear hx hqi hqb hq1 hq2 p1 p2 p3 p4 hcur hfit HP
                      go_wp2_with (first
                        | (refine stop_store 77 rfl ?_))
                      refine Stop.intro ?_
                      refine wpList_store_part rfl 77 _ _ rfl qb (qo + j * 2) #[.int .i64 0, .int .i64 0] rfl rfl T cur HC.out.1 (by kernel_rfl) (by have := HC.out.2.1; simp; omega) (by simp [Value.oneCell']) (fun row hrow => ?_)
                      simp only [put_none]
                      have HB2 : Hid (Below x11.heap.size x11 (wq.setRow qb row)) := Lib.hid (below_row HC.out.2.2.2 (by have := HC.out.2.2.1; have := HB.out.size; omega) _)
                      clear HC hrow
                      go_wp2
                      go_roundw
                      case rel => exact ⟨j + 1, by go_num, by omega, HB2⟩
                      case measure => simp [intOf]; omega
                    · obtain rfl : nP = j := by omega
                      have nj : ¬ ((nP : Int) < nP) := by omega
                      have HB5 := HB
                      clear hj hjl HB
                      go_wp2_with fail
                      refine (HTC.out wr HB5.out).mono ?_
                      rintro e w14 ⟨qA, qc, rfl, -, hb14⟩
                      have HBt := Lib.hid (HB5.out.trans (hb14.mono HB5.out.size))
                      clear hb14 HB5
                      go_wp2
                      obtain ⟨wo3, rfl⟩ : ∃ wo : World, wo = wr := ⟨_, rfl⟩
                      go_loopw [230, 29] (fun v230 _ wr => ∃ j : Nat, v230 = .int .i64 j ∧ j ≤ nT ∧ Hid (Below x11.heap.size x11 wr)) (fun v230 _ _ => nT - (intOf v230).toNat)
                      case atStart => exact ⟨0, rfl, by omega, HBt⟩
                      case round =>
                        clear HBt
                        obtain ⟨j, rfl, hj, HB⟩ := hrel
                        by_cases hjl : j < nT
                        · have HP := Lib.hid (HTC.out wr HB.out)
                          have j0 : (0 : Int) ≤ j := by omega
                          have j1 : (j : Int) < nT := by omega
                          go_wp2_with fail
                          refine HP.out.mono ?_
                          rintro e wq ⟨qA, qc, rfl, hqi, hqb⟩
                          obtain ⟨x, hx⟩ : ∃ x, (mq.slotsOf t)[j]? = some x := ⟨_, List.getElem?_eq_getElem (by rw [HNP.out.2.2]; exact hjl)⟩
                          obtain ⟨qb, qo, rfl, hqc⟩ := hqi.at_ hx
                          obtain ⟨p1, p2, p3, p4⟩ := partP_at hqc
                          rw [Nat.mul_one] at p1
                          have y1 : wq.cell? ⟨qb, qo + j, none⟩ = some (.int .i64 x) := p1
                          have f1 : wq.frozen? ⟨qb, qo + j, none⟩ = false := p4.frozen _
                          have HB2 : Hid (Below x11.heap.size x11 (wq.setCell ⟨qb, qo + j, none⟩ (.int .i64 77))) := Lib.hid ((HB.out.trans (hqb.mono HB.out.size)).setCell (by have := HB.out.size; show _ ≤ qb; omega) _)
                          clear hx hqi hqb hqc p1 p2 p3 p4 HP
                          go_wp2
                          go_roundw
                          case rel => exact ⟨j + 1, by go_num, by omega, HB2⟩
                          case measure => simp [intOf]; omega
                        · obtain rfl : nT = j := by omega
                          have nj : ¬ ((nT : Int) < nT) := by omega
                          have HA14 := Lib.hid (HA11.out.below HB.out)
                          clear hj hjl
                          go_wp2
                          go_roundw
                          case rel => exact ⟨k + 1, _, _, _, by go_num, by omega, HA14⟩
                          case measure => simp [intOf]; omega
            · obtain rfl : k = l.length := by omega
              have ng : ¬ ((l.length : Int) < l.length) := by omega
              have HLM : Hid (∀ j v, ([su1, lu1, gu1, va1, vo1, vm1, vh1, vp1] : List Value)[j]? = some v → wr.cell? ⟨k7, 0 + j, none⟩ = some v) := Lib.hid fun j v hj => by rw [Nat.zero_add, (HH.out.b7).cell]; exact hj
              obtain ⟨pv, hM, hmu⟩ := HH.out.a.ex
              have HSM := Lib.hid (same7_calls _ u _ wr R g _ hM (HH.out.ref.mono (on_le _ _)) HK.out.1 HK.out.2.2.1 HH.out.situ HH.out.pri (by have := HH.out.pr; omega))
              have HBL := Lib.hid HH.out.a.bel
              clear hM hmu hk hlt
              go_wp2_with (first
                | (refine wpList_load_at rfl 35 _ rfl k7 0 rfl _ _ HLM.out Tryz.underlying35 rfl (by kernel_rfl) ?_))
              refine HSM.out.mono ?_
              rintro e w12 ⟨rfl, hb12⟩
              have HF := Lib.hid (HBL.out.trans (hb12.mono HBL.out.size))
              clear hb12
              go_wp2
              go_ret
              exact ⟨rfl, HF.out⟩
theorem sourceOwn_calls (w : World) (cs : List Value) (u : Unit_) (A : Option Addr) (c : Nat) (l : List Int) (hu : UnitV (cmap w) cs u) (hok : UOk u) (hso : SOk u) (hus : USz u) (hv : Ints (cmap w) (.slice A l.length c) l) (_hi : ∀ x ∈ l, i64 x) (hl : l.length ≤ 1048576) :
    Calls Tryz.prog 5 #[.agg cs.toArray, .slice A l.length c] w fun e w' => e = .returned (.bool true) ∧ Below w.heap.size w w' := by
  cases hc : checkF u with
  | none => exact own_good u cs A c l w hu hok hso hus hv hl hc
  | some p => exact own_bad u cs _ w hu hok (by rw [hc]; simp) hus
end Go.Proofs.YtmkpjiahkepigaaGreat
