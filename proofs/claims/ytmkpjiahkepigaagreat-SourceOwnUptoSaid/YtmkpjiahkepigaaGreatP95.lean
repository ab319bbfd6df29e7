import Derived.Test.YtmkpjiahkepigaaGreatP93
import Derived.Test.YtmkpjiahkepigaaGreatP94
/- A machine is as the book says: the law's own comparison. -/
namespace Go.Proofs.YtmkpjiahkepigaaGreat
open Go Go.RowKit
def slS1 : List Nat := [9, 10, 11, 12, 13, 14, 15, 16, 17, 18, 19, 20, 21, 22, 23, 24, 25, 26, 27, 28, 29, 30, 31, 32, 33, 34, 35, 36, 37, 38, 39, 40, 41, 42, 43, 44, 45, 46, 47, 48, 49, 50, 51, 52, 53, 54, 55, 56, 57, 58, 59, 60, 61, 62, 63, 64, 65, 66, 67, 68, 69, 70, 71, 72, 73, 74, 75, 76, 77, 78, 79, 80, 81, 82, 83, 84, 85, 86, 87, 88, 89]
def slS6 : List Nat := [98, 99, 100, 101, 102, 103, 104, 105, 106, 107, 108, 109, 110, 111, 112, 113, 114, 115, 116, 117, 118, 119, 120, 121, 122, 123, 124]
set_option maxRecDepth 100000 in
set_option maxHeartbeats 8000000 in
theorem same7_calls (cs : List Value) (u : Unit_) (m : Mach) (w : World) (R : Nat → Prop) (g : Nat) (L : Lay) (hM : MachB w R g L u m) (hR : RefV (cmap w) cs u m) (hu : RightU u) (hz : SizeU u) (hs : Situ u m) (hP : PrI m) (hp : m.prints.length ≤ 4294967296) :
    Calls Tryz.prog 11 #[.pointer (some ⟨g, 0, none⟩), .agg cs.toArray] w fun e w' => e = .returned (.bool true) ∧ Below w.heap.size w w' := by
  have h0 := hR
  obtain ⟨su, lu, gu, va, vo, vm, vh, vp, rfl, hr⟩ := hR
  obtain ⟨aA, ac, rfl, -⟩ := id hr.at_
  obtain ⟨oA, oc, rfl, -⟩ := id hr.slots
  obtain ⟨mA, mc, rfl, -⟩ := id hr.mem
  obtain ⟨hA, hc, rfl, -⟩ := id hr.hold
  obtain ⟨pA, pc, rfl, -⟩ := id hr.prints
  rw [List.length_map] at *
  have hok := hs.ok
  have ht8 : m.at_.length ≤ 8 := by rw [hok.at_]; exact hu.threads
  have hh16 : m.holders.length ≤ 16 := by rw [hok.holders]; exact hu.locks
  have hst : m.slots.length = m.at_.length := by rw [hok.slots, hok.at_]
  have hb0 := Below_alloc' w (.cells #[su, lu, gu, .slice aA m.at_.length ac, .slice oA m.slots.length oc, .slice mA m.mem.length mc, .slice hA m.holders.length hc, .slice pA m.prints.length pc] 35)
  have hx0 := Blk.new w 35 [su, lu, gu, .slice aA m.at_.length ac, .slice oA m.slots.length oc, .slice mA m.mem.length mc, .slice hA m.holders.length hc, .slice pA m.prints.length pc]
  obtain ⟨w0, hw0⟩ : ∃ w0, w.alloc (.cells #[su, lu, gu, .slice aA m.at_.length ac, .slice oA m.slots.length oc, .slice mA m.mem.length mc, .slice hA m.holders.length hc, .slice pA m.prints.length pc] 35) = w0 := ⟨_, rfl⟩
  rw [show ([su, lu, gu, .slice aA m.at_.length ac, .slice oA m.slots.length oc, .slice mA m.mem.length mc, .slice hA m.holders.length hc, .slice pA m.prints.length pc] : List Value).toArray = #[su, lu, gu, .slice aA m.at_.length ac, .slice oA m.slots.length oc, .slice mA m.mem.length mc, .slice hA m.holders.length hc, .slice pA m.prints.length pc] from rfl, hw0] at hx0
  rw [hw0] at hb0
  have hM0 := hM.below hb0
  have hRV : RefV (cmap w0) [su, lu, gu, .slice aA m.at_.length ac, .slice oA m.slots.length oc, .slice mA m.mem.length mc, .slice hA m.holders.length hc, .slice pA m.prints.length pc] u m := h0.mono (cmap_below hb0)
  obtain ⟨eb, heb⟩ : ∃ b, endedF u m = b := ⟨_, rfl⟩
  obtain ⟨bl, hbl⟩ : ∃ b, blockedF u m = b := ⟨_, rfl⟩
  obtain ⟨KB, hK⟩ : ∃ K : ByteArray, ⟨(keyL m).toArray⟩ = K := ⟨_, rfl⟩
  have HM := Lib.hid (fun wx (hb : Below w0.heap.size w0 wx) => hM0.below hb)
  have HRf := Lib.hid (fun wx (hb : Below w0.heap.size w0 wx) => hRV.mono (cmap_below hb))
  have HE := Lib.hid (And.intro (fun wx (hb : Below w0.heap.size w0 wx) => ended_calls (hM0.below hb) hok hu (by omega)) (fun wx (hb : Below w0.heap.size w0 wx) => r7ended_calls _ u m wx (hRV.mono (cmap_below hb)) hu hok))
  have HBL := Lib.hid (And.intro (fun wx (hb : Below w0.heap.size w0 wx) => blocked_calls (hM0.below hb) hok hu (by omega)) (fun wx (hb : Below w0.heap.size w0 wx) => r7blocked_calls _ u m wx (hRV.mono (cmap_below hb)) hu hok))
  rw [heb] at HE
  rw [hbl] at HBL
  have HKY := Lib.hid (And.intro (fun wx (hb : Below w0.heap.size w0 wx) => keyS_calls (hM0.below hb) hs hP hu hz hp) (fun wx (hb : Below w0.heap.size w0 wx) => rkey_calls _ u m wx (hRV.mono (cmap_below hb)) (hs.keyI hu hP) hst ht8 (slots_le hok hz) (by rw [hok.mem]; exact hu.shared) hh16 hp))
  have HKE := Lib.hid hK
  have HOK := Lib.hid (And.intro hok hz)
  have HOK2 := Lib.hid hu
  have HSZ := Lib.hid (And.intro (show m.mem.length * 8 ≤ 140737488355328 by have := hok.mem; have := hu.shared; omega) (And.intro (show m.prints.length * 16 ≤ 140737488355328 by omega) (And.intro ht8 (And.intro hh16 hst))))
  have HR := Lib.hid (And.intro hr.mem hr.prints)
  have HRS := Lib.hid hr
  have HNG := Lib.hid (And.intro (show m.where_ (-1) = -1 by unfold Mach.where_; rw [if_neg (by omega)]) (And.intro (show m.where_ (m.at_.length : Int) = -1 by unfold Mach.where_; rw [if_neg (by omega)]) (And.intro (show m.holder (-1) = -1 by unfold Mach.holder; rw [if_neg (by omega)]) (And.intro (show m.holder (m.holders.length : Int) = -1 by unfold Mach.holder; rw [if_neg (by omega)]) (And.intro (show m.slotsOf (-1) = [] by unfold Mach.slotsOf; rw [if_neg (by omega)]) (show m.slotsOf (m.at_.length : Int) = [] by unfold Mach.slotsOf; rw [if_neg (by omega)]))))))
  have HB := Lib.hid hx0
  have HBW := Lib.hid hb0
  have HW := Lib.hid hw0
  clear hM h0 hr hu hz hs hP hp hok ht8 hh16 hst hb0 hx0 hw0 hM0 hRV heb hbl hK
  go_enter Tryz.func11, Tryz.ntmps11
  go_upto_region 1 with fail
  rw [HW.out]
  refine wp_act0 fun a0 ha0 => ?_
  have t0 : a0.eval (.tmp 0) = .pointer (some ⟨g, 0, none⟩) := by rw [ha0]; rfl
  have t3 : a0.eval (.tmp 3) = .pointer (some ⟨w.heap.size, 0, none⟩) := by rw [ha0]; rfl
  have hsz : a0.tmps.size = 140 := by rw [ha0]; rfl
  have HA0 := Lib.hid ha0; clear ha0
  refine wp_region_val [(9, .is (.pointer (some ⟨g, 0, none⟩))), (10, .is (.bool false)), (11, .is (.bool false)), (12, .is (.pointer (some ⟨g, 0, none⟩))), (13, .is (.bool eb)), (14, .is (.agg #[su, lu, gu, .slice aA m.at_.length ac, .slice oA m.slots.length oc, .slice mA m.mem.length mc, .slice hA m.holders.length hc, .slice pA m.prints.length pc])), (15, .is (.bool eb)), (16, .is (.bool false)), (17, .is (.bool false)), (18, .is (.bool false)), (19, .is (.pointer (some ⟨g, 0, none⟩))), (20, .ints bl), (21, .is (.agg #[su, lu, gu, .slice aA m.at_.length ac, .slice oA m.slots.length oc, .slice mA m.mem.length mc, .slice hA m.holders.length hc, .slice pA m.prints.length pc])), (22, .ints bl), (23, .is (.bool true)), (24, .is (.bool false)), (25, .is (.bool false)), (26, .is (.bool false)), (27, .is (.pointer (some ⟨g, 0, none⟩))), (28, .ints m.mem), (29, .is (.pointer (some ⟨w.heap.size, 5, none⟩))), (30, .ints m.mem), (31, .is (.bool true)), (32, .is (.bool false)), (33, .is (.bool false)), (34, .is (.bool false)), (35, .is (.pointer (some ⟨g, 0, none⟩))), (36, .prints m.prints), (37, .is (.pointer (some ⟨w.heap.size, 7, none⟩))), (38, .prints m.prints), (39, .is (.bool true)), (40, .is (.bool false)), (41, .is (.bool false)), (42, .is (.bool false)), (43, .is (.pointer (some ⟨g, 0, none⟩))), (44, .is (.string KB)), (45, .is (.agg #[su, lu, gu, .slice aA m.at_.length ac, .slice oA m.slots.length oc, .slice mA m.mem.length mc, .slice hA m.holders.length hc, .slice pA m.prints.length pc])), (46, .is (.string KB)), (47, .is (.bool false)), (48, .is (.bool false)), (49, .is (.bool false)), (50, .is (.pointer (some ⟨g, 0, none⟩))), (51, .is (.int .i64 (-1))), (52, .is (.bool false)), (53, .is (.bool false)), (54, .is (.bool false)), (55, .is (.pointer (some ⟨g, 0, none⟩))), (56, .is (.pointer (some ⟨w.heap.size, 3, none⟩))), (57, .is (.slice aA m.at_.length ac)), (58, .is (.int .i64 (m.at_.length))), (59, .is (.int .i64 (-1))), (60, .is (.bool false)), (61, .is (.bool false)), (62, .is (.bool false)), (63, .is (.pointer (some ⟨g, 0, none⟩))), (64, .is (.int .i64 (-1))), (65, .is (.bool false)), (66, .is (.bool false)), (67, .is (.bool false)), (68, .is (.pointer (some ⟨g, 0, none⟩))), (69, .is (.pointer (some ⟨w.heap.size, 6, none⟩))), (70, .is (.slice hA m.holders.length hc)), (71, .is (.int .i64 (m.holders.length))), (72, .is (.int .i64 (-1))), (73, .is (.bool false)), (74, .is (.bool false)), (75, .is (.bool false)), (76, .is (.pointer (some ⟨g, 0, none⟩))), (77, .ints []), (78, .is (.int .i64 0)), (79, .is (.bool false)), (80, .is (.bool false)), (81, .is (.bool false)), (82, .is (.pointer (some ⟨g, 0, none⟩))), (83, .is (.pointer (some ⟨w.heap.size, 3, none⟩))), (84, .is (.slice aA m.at_.length ac)), (85, .is (.int .i64 (m.at_.length))), (86, .ints []), (87, .is (.int .i64 0)), (88, .is (.bool false)), (89, .is (.bool false))] (by kernel_rfl) (by kernel_rfl) ?steps ?done
  case steps =>
    refine ⟨?_, ?_, ?_, ?_, ?_, ?_, ?_, ?_, ?_, ?_, ?_, ?_, ?_, ?_, ?_, ?_, ?_, ?_, ?_, ?_, ?_, ?_, ?_, ?_, ?_, ?_, ?_, ?_, ?_, ?_, ?_, ?_, ?_, ?_, ?_, ?_, ?_, ?_, ?_, ?_, ?_, ?_, ?_, ?_, ?_, ?_, ?_, ?_, ?_, ?_, ?_, ?_, ?_, ?_, ?_, ?_, ?_, ?_, ?_, ?_, ?_, ?_, ?_, ?_, ?_, ?_, ?_, ?_, ?_, ?_, ?_, ?_, ?_, ?_, ?_, ?_, ?_, ?_, ?_, ?_, ?_, trivial⟩
    · -- 0
      refine JV.step (slots := slS1) rfl (by decide) (by rw [hsz]; decide) (9, .is (.pointer (some ⟨g, 0, none⟩))) rfl rfl rfl ?_
      intro D a wx K hD hp h hK
      have hfr : Fr slS1 a0 a := h.fr
      refine step_wp rfl ?_
      refine wp_move_on hK rfl ?_
      exact (hfr.eval (j := 0) (by decide)).trans t0
    · -- 1
      refine JV.step (slots := slS1) rfl (by decide) (by rw [hsz]; decide) (10, .is (.bool false)) rfl rfl rfl ?_
      intro D a wx K hD hp h hK
      have hfr : Fr slS1 a0 a := h.fr
      refine step_wp rfl ?_
      have q0 : a.eval (.tmp 9) = .pointer (some ⟨g, 0, none⟩) := h.val 0 _ rfl (hp 0 (by decide))
      have c0 : a.eval (.const (.pointer none)) = .pointer none := rfl
      refine wp_val_on hK (by clear hfr; generalize a.eval = ρ at *; go_simp)
    · -- 2
      refine JV.step (slots := slS1) rfl (by decide) (by rw [hsz]; decide) (11, .is (.bool false)) rfl rfl rfl ?_
      intro D a wx K hD hp h hK
      have hfr : Fr slS1 a0 a := h.fr
      refine step_wp rfl ?_
      have q0 : a.eval (.tmp 10) = .bool false := h.val 1 _ rfl (hp 1 (by decide))
      refine wp_move_on hK rfl ?_
      exact q0
    · -- 3
      refine JV.step (slots := slS1) rfl (by decide) (by rw [hsz]; decide) (12, .is (.pointer (some ⟨g, 0, none⟩))) rfl rfl rfl ?_
      intro D a wx K hD hp h hK
      have hfr : Fr slS1 a0 a := h.fr
      refine step_wp_g rfl rfl (show a.eval (.tmp 11) = .bool false from h.val 2 _ rfl (hp 2 (by decide))) ?_
      refine wp_move_on hK rfl ?_
      exact (hfr.eval (j := 0) (by decide)).trans t0
    · -- 4
      refine JV.step (slots := slS1) rfl (by decide) (by rw [hsz]; decide) (13, .is (.bool eb)) rfl rfl rfl ?_
      intro D a wx K hD hp h hK
      have hfr : Fr slS1 a0 a := h.fr
      refine step_wp_g rfl rfl (show a.eval (.tmp 11) = .bool false from h.val 2 _ rfl (hp 2 (by decide))) ?_
      have q0 : a.eval (.tmp 12) = .pointer (some ⟨g, 0, none⟩) := h.val 3 _ rfl (hp 3 (by decide))
      refine wp_call_on hK Tryz.func20 (by kernel_rfl) (by kernel_rfl) rfl #[.pointer (some ⟨g, 0, none⟩)] (by simp only [List.map_toArray, List.map_cons, List.map_nil, q0]) ?_
      refine (HE.out.1 wx h.below).mono ?_
      rintro e w' ⟨rfl, hb⟩
      exact ⟨_, rfl, hb, rfl⟩
    · -- 5
      refine JV.step (slots := slS1) rfl (by decide) (by rw [hsz]; decide) (14, .is (.agg #[su, lu, gu, .slice aA m.at_.length ac, .slice oA m.slots.length oc, .slice mA m.mem.length mc, .slice hA m.holders.length hc, .slice pA m.prints.length pc])) rfl rfl rfl ?_
      intro D a wx K hD hp h hK
      have hfr : Fr slS1 a0 a := h.fr
      refine step_wp_g rfl rfl (show a.eval (.tmp 11) = .bool false from h.val 2 _ rfl (hp 2 (by decide))) ?_
      refine wp_load_on hK 35 _ rfl w.heap.size 0 ((hfr.eval (j := 3) (by decide)).trans t3) _ (fun j v hj => by rw [Nat.zero_add, (HB.out.below h.below HB.out.lt).cell]; exact hj) Tryz.underlying35 rfl (by kernel_rfl)
    · -- 6
      refine JV.step (slots := slS1) rfl (by decide) (by rw [hsz]; decide) (15, .is (.bool eb)) rfl rfl rfl ?_
      intro D a wx K hD hp h hK
      have hfr : Fr slS1 a0 a := h.fr
      refine step_wp_g rfl rfl (show a.eval (.tmp 11) = .bool false from h.val 2 _ rfl (hp 2 (by decide))) ?_
      have q0 : a.eval (.tmp 14) = .agg #[su, lu, gu, .slice aA m.at_.length ac, .slice oA m.slots.length oc, .slice mA m.mem.length mc, .slice hA m.holders.length hc, .slice pA m.prints.length pc] := h.val 5 _ rfl (hp 5 (by decide))
      refine wp_call_on hK Tryz.func41 (by kernel_rfl) (by kernel_rfl) rfl #[.agg #[su, lu, gu, .slice aA m.at_.length ac, .slice oA m.slots.length oc, .slice mA m.mem.length mc, .slice hA m.holders.length hc, .slice pA m.prints.length pc]] (by simp only [List.map_toArray, List.map_cons, List.map_nil, q0]) ?_
      refine (HE.out.2 wx h.below).mono ?_
      rintro e w' ⟨rfl, hb⟩
      exact ⟨_, rfl, hb, rfl⟩
    · -- 7
      refine JV.step (slots := slS1) rfl (by decide) (by rw [hsz]; decide) (16, .is (.bool false)) rfl rfl rfl ?_
      intro D a wx K hD hp h hK
      have hfr : Fr slS1 a0 a := h.fr
      refine step_wp_g rfl rfl (show a.eval (.tmp 11) = .bool false from h.val 2 _ rfl (hp 2 (by decide))) ?_
      have q0 : a.eval (.tmp 13) = .bool eb := h.val 4 _ rfl (hp 4 (by decide))
      have q1 : a.eval (.tmp 15) = .bool eb := h.val 6 _ rfl (hp 6 (by decide))
      have z0 : (eb != eb) = false := by simp
      refine wp_val_on hK (by clear hfr; generalize a.eval = ρ at *; go_simp)
    · -- 8
      refine JV.step (slots := slS1) rfl (by decide) (by rw [hsz]; decide) (17, .is (.bool false)) rfl rfl rfl ?_
      intro D a wx K hD hp h hK
      have hfr : Fr slS1 a0 a := h.fr
      refine step_wp rfl ?_
      have q0 : a.eval (.tmp 11) = .bool false := h.val 2 _ rfl (hp 2 (by decide))
      have q1 : a.eval (.tmp 16) = .bool false := h.val 7 _ rfl (hp 7 (by decide))
      have c0 : a.eval (.const (.bool true)) = .bool true := rfl
      refine wp_val_on hK (by clear hfr; generalize a.eval = ρ at *; go_simp)
    · -- 9
      refine JV.step (slots := slS1) rfl (by decide) (by rw [hsz]; decide) (18, .is (.bool false)) rfl rfl rfl ?_
      intro D a wx K hD hp h hK
      have hfr : Fr slS1 a0 a := h.fr
      refine step_wp rfl ?_
      have q0 : a.eval (.tmp 17) = .bool false := h.val 8 _ rfl (hp 8 (by decide))
      refine wp_move_on hK rfl ?_
      exact q0
    · -- 10
      refine JV.step (slots := slS1) rfl (by decide) (by rw [hsz]; decide) (19, .is (.pointer (some ⟨g, 0, none⟩))) rfl rfl rfl ?_
      intro D a wx K hD hp h hK
      have hfr : Fr slS1 a0 a := h.fr
      refine step_wp_g rfl rfl (show a.eval (.tmp 18) = .bool false from h.val 9 _ rfl (hp 9 (by decide))) ?_
      refine wp_move_on hK rfl ?_
      exact (hfr.eval (j := 0) (by decide)).trans t0
    · -- 11
      refine JV.step (slots := slS1) rfl (by decide) (by rw [hsz]; decide) (20, .ints bl) rfl rfl rfl ?_
      intro D a wx K hD hp h hK
      have hfr : Fr slS1 a0 a := h.fr
      refine step_wp_g rfl rfl (show a.eval (.tmp 18) = .bool false from h.val 9 _ rfl (hp 9 (by decide))) ?_
      have q0 : a.eval (.tmp 19) = .pointer (some ⟨g, 0, none⟩) := h.val 10 _ rfl (hp 10 (by decide))
      refine wp_call_on hK Tryz.func21 (by kernel_rfl) (by kernel_rfl) rfl #[.pointer (some ⟨g, 0, none⟩)] (by simp only [List.map_toArray, List.map_cons, List.map_nil, q0]) ?_
      refine (HBL.out.1 wx h.below).mono ?_
      rintro e w' ⟨A, c, rfl, hi, hb⟩
      exact ⟨_, rfl, hb, A, c, rfl, hi.mono (part_le _ _ _)⟩
    · -- 12
      refine JV.step (slots := slS1) rfl (by decide) (by rw [hsz]; decide) (21, .is (.agg #[su, lu, gu, .slice aA m.at_.length ac, .slice oA m.slots.length oc, .slice mA m.mem.length mc, .slice hA m.holders.length hc, .slice pA m.prints.length pc])) rfl rfl rfl ?_
      intro D a wx K hD hp h hK
      have hfr : Fr slS1 a0 a := h.fr
      refine step_wp_g rfl rfl (show a.eval (.tmp 18) = .bool false from h.val 9 _ rfl (hp 9 (by decide))) ?_
      refine wp_load_on hK 35 _ rfl w.heap.size 0 ((hfr.eval (j := 3) (by decide)).trans t3) _ (fun j v hj => by rw [Nat.zero_add, (HB.out.below h.below HB.out.lt).cell]; exact hj) Tryz.underlying35 rfl (by kernel_rfl)
    · -- 13
      refine JV.step (slots := slS1) rfl (by decide) (by rw [hsz]; decide) (22, .ints bl) rfl rfl rfl ?_
      intro D a wx K hD hp h hK
      have hfr : Fr slS1 a0 a := h.fr
      refine step_wp_g rfl rfl (show a.eval (.tmp 18) = .bool false from h.val 9 _ rfl (hp 9 (by decide))) ?_
      have q0 : a.eval (.tmp 21) = .agg #[su, lu, gu, .slice aA m.at_.length ac, .slice oA m.slots.length oc, .slice mA m.mem.length mc, .slice hA m.holders.length hc, .slice pA m.prints.length pc] := h.val 12 _ rfl (hp 12 (by decide))
      refine wp_call_on hK Tryz.func43 (by kernel_rfl) (by kernel_rfl) rfl #[.agg #[su, lu, gu, .slice aA m.at_.length ac, .slice oA m.slots.length oc, .slice mA m.mem.length mc, .slice hA m.holders.length hc, .slice pA m.prints.length pc]] (by simp only [List.map_toArray, List.map_cons, List.map_nil, q0]) ?_
      refine (HBL.out.2 wx h.below).mono ?_
      rintro e w' ⟨A, c, rfl, hi, hb⟩
      exact ⟨_, rfl, hb, A, c, rfl, hi.mono (part_le _ _ _)⟩
    · -- 14
      refine JV.step (slots := slS1) rfl (by decide) (by rw [hsz]; decide) (23, .is (.bool true)) rfl rfl rfl ?_
      intro D a wx K hD hp h hK
      have hfr : Fr slS1 a0 a := h.fr
      refine step_wp_g rfl rfl (show a.eval (.tmp 18) = .bool false from h.val 9 _ rfl (hp 9 (by decide))) ?_
      obtain ⟨A1, c1, e1, i1⟩ := h.val 11 _ rfl (hp 11 (by decide))
      obtain ⟨A2, c2, e2, i2⟩ := h.val 13 _ rfl (hp 13 (by decide))
      have e1 : a.eval (.tmp 20) = _ := e1
      have e2 : a.eval (.tmp 22) = _ := e2
      refine wp_call_on hK Tryz.func42 (by kernel_rfl) (by kernel_rfl) rfl _ (by simp only [List.map_toArray, List.map_cons, List.map_nil]; rfl) ?_
      refine (r7ints_calls _ _ _ wx i1 i2).mono ?_
      rintro e w' ⟨rfl, q, rfl⟩
      exact ⟨_, rfl, Below_drewN wx q, rfl⟩
    · -- 15
      refine JV.step (slots := slS1) rfl (by decide) (by rw [hsz]; decide) (24, .is (.bool false)) rfl rfl rfl ?_
      intro D a wx K hD hp h hK
      have hfr : Fr slS1 a0 a := h.fr
      refine step_wp_g rfl rfl (show a.eval (.tmp 18) = .bool false from h.val 9 _ rfl (hp 9 (by decide))) ?_
      have q0 : a.eval (.tmp 23) = .bool true := h.val 14 _ rfl (hp 14 (by decide))
      refine wp_val_on hK (by clear hfr; generalize a.eval = ρ at *; go_simp)
    · -- 16
      refine JV.step (slots := slS1) rfl (by decide) (by rw [hsz]; decide) (25, .is (.bool false)) rfl rfl rfl ?_
      intro D a wx K hD hp h hK
      have hfr : Fr slS1 a0 a := h.fr
      refine step_wp rfl ?_
      have q0 : a.eval (.tmp 18) = .bool false := h.val 9 _ rfl (hp 9 (by decide))
      have q1 : a.eval (.tmp 24) = .bool false := h.val 15 _ rfl (hp 15 (by decide))
      have c0 : a.eval (.const (.bool true)) = .bool true := rfl
      refine wp_val_on hK (by clear hfr; generalize a.eval = ρ at *; go_simp)
    · -- 17
      refine JV.step (slots := slS1) rfl (by decide) (by rw [hsz]; decide) (26, .is (.bool false)) rfl rfl rfl ?_
      intro D a wx K hD hp h hK
      have hfr : Fr slS1 a0 a := h.fr
      refine step_wp rfl ?_
      have q0 : a.eval (.tmp 25) = .bool false := h.val 16 _ rfl (hp 16 (by decide))
      refine wp_move_on hK rfl ?_
      exact q0
    · -- 18
      refine JV.step (slots := slS1) rfl (by decide) (by rw [hsz]; decide) (27, .is (.pointer (some ⟨g, 0, none⟩))) rfl rfl rfl ?_
      intro D a wx K hD hp h hK
      have hfr : Fr slS1 a0 a := h.fr
      refine step_wp_g rfl rfl (show a.eval (.tmp 26) = .bool false from h.val 17 _ rfl (hp 17 (by decide))) ?_
      refine wp_move_on hK rfl ?_
      exact (hfr.eval (j := 0) (by decide)).trans t0
    · -- 19
      refine JV.step (slots := slS1) rfl (by decide) (by rw [hsz]; decide) (28, .ints m.mem) rfl rfl rfl ?_
      intro D a wx K hD hp h hK
      have hfr : Fr slS1 a0 a := h.fr
      refine step_wp_g rfl rfl (show a.eval (.tmp 26) = .bool false from h.val 17 _ rfl (hp 17 (by decide))) ?_
      have q0 : a.eval (.tmp 27) = .pointer (some ⟨g, 0, none⟩) := h.val 18 _ rfl (hp 18 (by decide))
      refine wp_call_on hK Tryz.func23 (by kernel_rfl) (by kernel_rfl) rfl #[.pointer (some ⟨g, 0, none⟩)] (by simp only [List.map_toArray, List.map_cons, List.map_nil, q0]) ?_
      refine (memory_calls (HM.out wx h.below) HSZ.out.1).mono ?_
      rintro e w' ⟨A, c, rfl, hi, hb⟩
      exact ⟨_, rfl, hb, A, c, rfl, hi.mono (part_le _ _ _)⟩
    · -- 20
      refine JV.step (slots := slS1) rfl (by decide) (by rw [hsz]; decide) (29, .is (.pointer (some ⟨w.heap.size, 5, none⟩))) rfl rfl rfl ?_
      intro D a wx K hD hp h hK
      have hfr : Fr slS1 a0 a := h.fr
      refine step_wp_g rfl rfl (show a.eval (.tmp 26) = .bool false from h.val 17 _ rfl (hp 17 (by decide))) ?_
      have r3 := (hfr.eval (j := 3) (by decide)).trans t3
      refine wp_val_on hK (by clear hfr; generalize a.eval = ρ at *; go_simp)
    · -- 21
      refine JV.step (slots := slS1) rfl (by decide) (by rw [hsz]; decide) (30, .ints m.mem) rfl rfl rfl ?_
      intro D a wx K hD hp h hK
      have hfr : Fr slS1 a0 a := h.fr
      refine step_wp_g rfl rfl (show a.eval (.tmp 26) = .bool false from h.val 17 _ rfl (hp 17 (by decide))) ?_
      have q0 : a.eval (.tmp 29) = .pointer (some ⟨w.heap.size, 5, none⟩) := h.val 20 _ rfl (hp 20 (by decide))
      have z0 : wx.cell? ⟨w.heap.size, 5, none⟩ = some (.slice mA m.mem.length mc) := (HB.out.below h.below HB.out.lt).cell 5
      refine wp_val_at (.slice mA m.mem.length mc) (by clear hfr; generalize a.eval = ρ at *; go_simp) ?_
      exact hK _ _ (Below.refl _ wx) ⟨_, _, rfl, HR.out.1.mono (cmap_below (HBW.out.trans (h.below.mono HBW.out.size)))⟩
    · -- 22
      refine JV.step (slots := slS1) rfl (by decide) (by rw [hsz]; decide) (31, .is (.bool true)) rfl rfl rfl ?_
      intro D a wx K hD hp h hK
      have hfr : Fr slS1 a0 a := h.fr
      refine step_wp_g rfl rfl (show a.eval (.tmp 26) = .bool false from h.val 17 _ rfl (hp 17 (by decide))) ?_
      obtain ⟨A1, c1, e1, i1⟩ := h.val 19 _ rfl (hp 19 (by decide))
      obtain ⟨A2, c2, e2, i2⟩ := h.val 21 _ rfl (hp 21 (by decide))
      have e1 : a.eval (.tmp 28) = _ := e1
      have e2 : a.eval (.tmp 30) = _ := e2
      refine wp_call_on hK Tryz.func44 (by kernel_rfl) (by kernel_rfl) rfl _ (by simp only [List.map_toArray, List.map_cons, List.map_nil]; rfl) ?_
      refine (r7words_calls _ _ _ wx i1 i2).mono ?_
      rintro e w' ⟨rfl, q, rfl⟩
      exact ⟨_, rfl, Below_drewN wx q, rfl⟩
    · -- 23
      refine JV.step (slots := slS1) rfl (by decide) (by rw [hsz]; decide) (32, .is (.bool false)) rfl rfl rfl ?_
      intro D a wx K hD hp h hK
      have hfr : Fr slS1 a0 a := h.fr
      refine step_wp_g rfl rfl (show a.eval (.tmp 26) = .bool false from h.val 17 _ rfl (hp 17 (by decide))) ?_
      have q0 : a.eval (.tmp 31) = .bool true := h.val 22 _ rfl (hp 22 (by decide))
      refine wp_val_on hK (by clear hfr; generalize a.eval = ρ at *; go_simp)
    · -- 24
      refine JV.step (slots := slS1) rfl (by decide) (by rw [hsz]; decide) (33, .is (.bool false)) rfl rfl rfl ?_
      intro D a wx K hD hp h hK
      have hfr : Fr slS1 a0 a := h.fr
      refine step_wp rfl ?_
      have q0 : a.eval (.tmp 26) = .bool false := h.val 17 _ rfl (hp 17 (by decide))
      have q1 : a.eval (.tmp 32) = .bool false := h.val 23 _ rfl (hp 23 (by decide))
      have c0 : a.eval (.const (.bool true)) = .bool true := rfl
      refine wp_val_on hK (by clear hfr; generalize a.eval = ρ at *; go_simp)
    · -- 25
      refine JV.step (slots := slS1) rfl (by decide) (by rw [hsz]; decide) (34, .is (.bool false)) rfl rfl rfl ?_
      intro D a wx K hD hp h hK
      have hfr : Fr slS1 a0 a := h.fr
      refine step_wp rfl ?_
      have q0 : a.eval (.tmp 33) = .bool false := h.val 24 _ rfl (hp 24 (by decide))
      refine wp_move_on hK rfl ?_
      exact q0
    · -- 26
      refine JV.step (slots := slS1) rfl (by decide) (by rw [hsz]; decide) (35, .is (.pointer (some ⟨g, 0, none⟩))) rfl rfl rfl ?_
      intro D a wx K hD hp h hK
      have hfr : Fr slS1 a0 a := h.fr
      refine step_wp_g rfl rfl (show a.eval (.tmp 34) = .bool false from h.val 25 _ rfl (hp 25 (by decide))) ?_
      refine wp_move_on hK rfl ?_
      exact (hfr.eval (j := 0) (by decide)).trans t0
    · -- 27
      refine JV.step (slots := slS1) rfl (by decide) (by rw [hsz]; decide) (36, .prints m.prints) rfl rfl rfl ?_
      intro D a wx K hD hp h hK
      have hfr : Fr slS1 a0 a := h.fr
      refine step_wp_g rfl rfl (show a.eval (.tmp 34) = .bool false from h.val 25 _ rfl (hp 25 (by decide))) ?_
      have q0 : a.eval (.tmp 35) = .pointer (some ⟨g, 0, none⟩) := h.val 26 _ rfl (hp 26 (by decide))
      refine wp_call_on hK Tryz.func26 (by kernel_rfl) (by kernel_rfl) rfl #[.pointer (some ⟨g, 0, none⟩)] (by simp only [List.map_toArray, List.map_cons, List.map_nil, q0]) ?_
      refine (prints_calls (HM.out wx h.below) HSZ.out.2.1).mono ?_
      rintro e w' ⟨A, c, rfl, hi, hb⟩
      exact ⟨_, rfl, hb, A, c, rfl, hi.mono (part_le _ _ _)⟩
    · -- 28
      refine JV.step (slots := slS1) rfl (by decide) (by rw [hsz]; decide) (37, .is (.pointer (some ⟨w.heap.size, 7, none⟩))) rfl rfl rfl ?_
      intro D a wx K hD hp h hK
      have hfr : Fr slS1 a0 a := h.fr
      refine step_wp_g rfl rfl (show a.eval (.tmp 34) = .bool false from h.val 25 _ rfl (hp 25 (by decide))) ?_
      have r3 := (hfr.eval (j := 3) (by decide)).trans t3
      refine wp_val_on hK (by clear hfr; generalize a.eval = ρ at *; go_simp)
    · -- 29
      refine JV.step (slots := slS1) rfl (by decide) (by rw [hsz]; decide) (38, .prints m.prints) rfl rfl rfl ?_
      intro D a wx K hD hp h hK
      have hfr : Fr slS1 a0 a := h.fr
      refine step_wp_g rfl rfl (show a.eval (.tmp 34) = .bool false from h.val 25 _ rfl (hp 25 (by decide))) ?_
      have q0 : a.eval (.tmp 37) = .pointer (some ⟨w.heap.size, 7, none⟩) := h.val 28 _ rfl (hp 28 (by decide))
      have z0 : wx.cell? ⟨w.heap.size, 7, none⟩ = some (.slice pA m.prints.length pc) := (HB.out.below h.below HB.out.lt).cell 7
      refine wp_val_at (.slice pA m.prints.length pc) (by clear hfr; generalize a.eval = ρ at *; go_simp) ?_
      exact hK _ _ (Below.refl _ wx) ⟨_, _, rfl, HR.out.2.mono (cmap_below (HBW.out.trans (h.below.mono HBW.out.size)))⟩
    · -- 30
      refine JV.step (slots := slS1) rfl (by decide) (by rw [hsz]; decide) (39, .is (.bool true)) rfl rfl rfl ?_
      intro D a wx K hD hp h hK
      have hfr : Fr slS1 a0 a := h.fr
      refine step_wp_g rfl rfl (show a.eval (.tmp 34) = .bool false from h.val 25 _ rfl (hp 25 (by decide))) ?_
      obtain ⟨A1, c1, e1, i1⟩ := h.val 27 _ rfl (hp 27 (by decide))
      obtain ⟨A2, c2, e2, i2⟩ := h.val 29 _ rfl (hp 29 (by decide))
      have e1 : a.eval (.tmp 36) = _ := e1
      have e2 : a.eval (.tmp 38) = _ := e2
      refine wp_call_on hK Tryz.func45 (by kernel_rfl) (by kernel_rfl) rfl _ (by simp only [List.map_toArray, List.map_cons, List.map_nil]; rfl) ?_
      refine (r7printed_calls _ _ _ wx i1 i2).mono ?_
      rintro e w' ⟨rfl, q, rfl⟩
      exact ⟨_, rfl, Below_drewN wx q, rfl⟩
    · -- 31
      refine JV.step (slots := slS1) rfl (by decide) (by rw [hsz]; decide) (40, .is (.bool false)) rfl rfl rfl ?_
      intro D a wx K hD hp h hK
      have hfr : Fr slS1 a0 a := h.fr
      refine step_wp_g rfl rfl (show a.eval (.tmp 34) = .bool false from h.val 25 _ rfl (hp 25 (by decide))) ?_
      have q0 : a.eval (.tmp 39) = .bool true := h.val 30 _ rfl (hp 30 (by decide))
      refine wp_val_on hK (by clear hfr; generalize a.eval = ρ at *; go_simp)
    · -- 32
      refine JV.step (slots := slS1) rfl (by decide) (by rw [hsz]; decide) (41, .is (.bool false)) rfl rfl rfl ?_
      intro D a wx K hD hp h hK
      have hfr : Fr slS1 a0 a := h.fr
      refine step_wp rfl ?_
      have q0 : a.eval (.tmp 34) = .bool false := h.val 25 _ rfl (hp 25 (by decide))
      have q1 : a.eval (.tmp 40) = .bool false := h.val 31 _ rfl (hp 31 (by decide))
      have c0 : a.eval (.const (.bool true)) = .bool true := rfl
      refine wp_val_on hK (by clear hfr; generalize a.eval = ρ at *; go_simp)
    · -- 33
      refine JV.step (slots := slS1) rfl (by decide) (by rw [hsz]; decide) (42, .is (.bool false)) rfl rfl rfl ?_
      intro D a wx K hD hp h hK
      have hfr : Fr slS1 a0 a := h.fr
      refine step_wp rfl ?_
      have q0 : a.eval (.tmp 41) = .bool false := h.val 32 _ rfl (hp 32 (by decide))
      refine wp_move_on hK rfl ?_
      exact q0
    · -- 34
      refine JV.step (slots := slS1) rfl (by decide) (by rw [hsz]; decide) (43, .is (.pointer (some ⟨g, 0, none⟩))) rfl rfl rfl ?_
      intro D a wx K hD hp h hK
      have hfr : Fr slS1 a0 a := h.fr
      refine step_wp_g rfl rfl (show a.eval (.tmp 42) = .bool false from h.val 33 _ rfl (hp 33 (by decide))) ?_
      refine wp_move_on hK rfl ?_
      exact (hfr.eval (j := 0) (by decide)).trans t0
    · -- 35
      refine JV.step (slots := slS1) rfl (by decide) (by rw [hsz]; decide) (44, .is (.string KB)) rfl rfl rfl ?_
      intro D a wx K hD hp h hK
      have hfr : Fr slS1 a0 a := h.fr
      refine step_wp_g rfl rfl (show a.eval (.tmp 42) = .bool false from h.val 33 _ rfl (hp 33 (by decide))) ?_
      have q0 : a.eval (.tmp 43) = .pointer (some ⟨g, 0, none⟩) := h.val 34 _ rfl (hp 34 (by decide))
      refine wp_call_on hK Tryz.func27 (by kernel_rfl) (by kernel_rfl) rfl #[.pointer (some ⟨g, 0, none⟩)] (by simp only [List.map_toArray, List.map_cons, List.map_nil, q0]) ?_
      refine (HKY.out.1 wx h.below).mono ?_
      rintro e w' ⟨rfl, hb⟩
      exact ⟨_, rfl, hb, congrArg Value.string HKE.out⟩
    · -- 36
      refine JV.step (slots := slS1) rfl (by decide) (by rw [hsz]; decide) (45, .is (.agg #[su, lu, gu, .slice aA m.at_.length ac, .slice oA m.slots.length oc, .slice mA m.mem.length mc, .slice hA m.holders.length hc, .slice pA m.prints.length pc])) rfl rfl rfl ?_
      intro D a wx K hD hp h hK
      have hfr : Fr slS1 a0 a := h.fr
      refine step_wp_g rfl rfl (show a.eval (.tmp 42) = .bool false from h.val 33 _ rfl (hp 33 (by decide))) ?_
      refine wp_load_on hK 35 _ rfl w.heap.size 0 ((hfr.eval (j := 3) (by decide)).trans t3) _ (fun j v hj => by rw [Nat.zero_add, (HB.out.below h.below HB.out.lt).cell]; exact hj) Tryz.underlying35 rfl (by kernel_rfl)
    · -- 37
      refine JV.step (slots := slS1) rfl (by decide) (by rw [hsz]; decide) (46, .is (.string KB)) rfl rfl rfl ?_
      intro D a wx K hD hp h hK
      have hfr : Fr slS1 a0 a := h.fr
      refine step_wp_g rfl rfl (show a.eval (.tmp 42) = .bool false from h.val 33 _ rfl (hp 33 (by decide))) ?_
      have q0 : a.eval (.tmp 45) = .agg #[su, lu, gu, .slice aA m.at_.length ac, .slice oA m.slots.length oc, .slice mA m.mem.length mc, .slice hA m.holders.length hc, .slice pA m.prints.length pc] := h.val 36 _ rfl (hp 36 (by decide))
      refine wp_call_on hK Tryz.func46 (by kernel_rfl) (by kernel_rfl) rfl #[.agg #[su, lu, gu, .slice aA m.at_.length ac, .slice oA m.slots.length oc, .slice mA m.mem.length mc, .slice hA m.holders.length hc, .slice pA m.prints.length pc]] (by simp only [List.map_toArray, List.map_cons, List.map_nil, q0]) ?_
      refine (HKY.out.2 wx h.below).mono ?_
      rintro e w' ⟨rfl, hb⟩
      exact ⟨_, rfl, hb, congrArg Value.string HKE.out⟩
    · -- 38
      refine JV.step (slots := slS1) rfl (by decide) (by rw [hsz]; decide) (47, .is (.bool false)) rfl rfl rfl ?_
      intro D a wx K hD hp h hK
      have hfr : Fr slS1 a0 a := h.fr
      refine step_wp_g rfl rfl (show a.eval (.tmp 42) = .bool false from h.val 33 _ rfl (hp 33 (by decide))) ?_
      have q0 : a.eval (.tmp 44) = .string KB := h.val 35 _ rfl (hp 35 (by decide))
      have q1 : a.eval (.tmp 46) = .string KB := h.val 37 _ rfl (hp 37 (by decide))
      refine wp_val_on hK (by clear hfr; generalize a.eval = ρ at *; go_simp)
    · -- 39
      refine JV.step (slots := slS1) rfl (by decide) (by rw [hsz]; decide) (48, .is (.bool false)) rfl rfl rfl ?_
      intro D a wx K hD hp h hK
      have hfr : Fr slS1 a0 a := h.fr
      refine step_wp rfl ?_
      have q0 : a.eval (.tmp 42) = .bool false := h.val 33 _ rfl (hp 33 (by decide))
      have q1 : a.eval (.tmp 47) = .bool false := h.val 38 _ rfl (hp 38 (by decide))
      have c0 : a.eval (.const (.bool true)) = .bool true := rfl
      refine wp_val_on hK (by clear hfr; generalize a.eval = ρ at *; go_simp)
    · -- 40
      refine JV.step (slots := slS1) rfl (by decide) (by rw [hsz]; decide) (49, .is (.bool false)) rfl rfl rfl ?_
      intro D a wx K hD hp h hK
      have hfr : Fr slS1 a0 a := h.fr
      refine step_wp rfl ?_
      have q0 : a.eval (.tmp 48) = .bool false := h.val 39 _ rfl (hp 39 (by decide))
      refine wp_move_on hK rfl ?_
      exact q0
    · -- 41
      refine JV.step (slots := slS1) rfl (by decide) (by rw [hsz]; decide) (50, .is (.pointer (some ⟨g, 0, none⟩))) rfl rfl rfl ?_
      intro D a wx K hD hp h hK
      have hfr : Fr slS1 a0 a := h.fr
      refine step_wp_g rfl rfl (show a.eval (.tmp 49) = .bool false from h.val 40 _ rfl (hp 40 (by decide))) ?_
      refine wp_move_on hK rfl ?_
      exact (hfr.eval (j := 0) (by decide)).trans t0
    · -- 42
      refine JV.step (slots := slS1) rfl (by decide) (by rw [hsz]; decide) (51, .is (.int .i64 (-1))) rfl rfl rfl ?_
      intro D a wx K hD hp h hK
      have hfr : Fr slS1 a0 a := h.fr
      refine step_wp_g rfl rfl (show a.eval (.tmp 49) = .bool false from h.val 40 _ rfl (hp 40 (by decide))) ?_
      have q0 : a.eval (.tmp 50) = .pointer (some ⟨g, 0, none⟩) := h.val 41 _ rfl (hp 41 (by decide))
      have q1 : a.eval (.const (.int .i64 (-1))) = .int .i64 (-1) := rfl
      refine wp_call_on hK Tryz.func19 (by kernel_rfl) (by kernel_rfl) rfl #[.pointer (some ⟨g, 0, none⟩), .int .i64 (-1)] (by simp only [List.map_toArray, List.map_cons, List.map_nil, q0, q1]) ?_
      refine (at_calls (-1) (HM.out wx h.below)).mono ?_
      rintro e w' ⟨rfl, q, rfl⟩
      exact ⟨_, rfl, Below_drewN wx q, congrArg (Value.int .i64) HNG.out.1⟩
    · -- 43
      refine JV.step (slots := slS1) rfl (by decide) (by rw [hsz]; decide) (52, .is (.bool false)) rfl rfl rfl ?_
      intro D a wx K hD hp h hK
      have hfr : Fr slS1 a0 a := h.fr
      refine step_wp_g rfl rfl (show a.eval (.tmp 49) = .bool false from h.val 40 _ rfl (hp 40 (by decide))) ?_
      have q0 : a.eval (.tmp 51) = .int .i64 (-1) := h.val 42 _ rfl (hp 42 (by decide))
      have c0 : a.eval (.const (.int .i64 (-1))) = .int .i64 (-1) := rfl
      refine wp_val_on hK (by clear hfr; generalize a.eval = ρ at *; go_simp)
    · -- 44
      refine JV.step (slots := slS1) rfl (by decide) (by rw [hsz]; decide) (53, .is (.bool false)) rfl rfl rfl ?_
      intro D a wx K hD hp h hK
      have hfr : Fr slS1 a0 a := h.fr
      refine step_wp rfl ?_
      have q0 : a.eval (.tmp 49) = .bool false := h.val 40 _ rfl (hp 40 (by decide))
      have q1 : a.eval (.tmp 52) = .bool false := h.val 43 _ rfl (hp 43 (by decide))
      have c0 : a.eval (.const (.bool true)) = .bool true := rfl
      refine wp_val_on hK (by clear hfr; generalize a.eval = ρ at *; go_simp)
    · -- 45
      refine JV.step (slots := slS1) rfl (by decide) (by rw [hsz]; decide) (54, .is (.bool false)) rfl rfl rfl ?_
      intro D a wx K hD hp h hK
      have hfr : Fr slS1 a0 a := h.fr
      refine step_wp rfl ?_
      have q0 : a.eval (.tmp 53) = .bool false := h.val 44 _ rfl (hp 44 (by decide))
      refine wp_move_on hK rfl ?_
      exact q0
    · -- 46
      refine JV.step (slots := slS1) rfl (by decide) (by rw [hsz]; decide) (55, .is (.pointer (some ⟨g, 0, none⟩))) rfl rfl rfl ?_
      intro D a wx K hD hp h hK
      have hfr : Fr slS1 a0 a := h.fr
      refine step_wp_g rfl rfl (show a.eval (.tmp 54) = .bool false from h.val 45 _ rfl (hp 45 (by decide))) ?_
      refine wp_move_on hK rfl ?_
      exact (hfr.eval (j := 0) (by decide)).trans t0
    · -- 47
      refine JV.step (slots := slS1) rfl (by decide) (by rw [hsz]; decide) (56, .is (.pointer (some ⟨w.heap.size, 3, none⟩))) rfl rfl rfl ?_
      intro D a wx K hD hp h hK
      have hfr : Fr slS1 a0 a := h.fr
      refine step_wp_g rfl rfl (show a.eval (.tmp 54) = .bool false from h.val 45 _ rfl (hp 45 (by decide))) ?_
      have r3 := (hfr.eval (j := 3) (by decide)).trans t3
      refine wp_val_on hK (by clear hfr; generalize a.eval = ρ at *; go_simp)
    · -- 48
      refine JV.step (slots := slS1) rfl (by decide) (by rw [hsz]; decide) (57, .is (.slice aA m.at_.length ac)) rfl rfl rfl ?_
      intro D a wx K hD hp h hK
      have hfr : Fr slS1 a0 a := h.fr
      refine step_wp_g rfl rfl (show a.eval (.tmp 54) = .bool false from h.val 45 _ rfl (hp 45 (by decide))) ?_
      have q0 : a.eval (.tmp 56) = .pointer (some ⟨w.heap.size, 3, none⟩) := h.val 47 _ rfl (hp 47 (by decide))
      have z0 : wx.cell? ⟨w.heap.size, 3, none⟩ = some (.slice aA m.at_.length ac) := (HB.out.below h.below HB.out.lt).cell 3
      refine wp_val_on hK (by clear hfr; generalize a.eval = ρ at *; go_simp)
    · -- 49
      refine JV.step (slots := slS1) rfl (by decide) (by rw [hsz]; decide) (58, .is (.int .i64 (m.at_.length))) rfl rfl rfl ?_
      intro D a wx K hD hp h hK
      have hfr : Fr slS1 a0 a := h.fr
      refine step_wp_g rfl rfl (show a.eval (.tmp 54) = .bool false from h.val 45 _ rfl (hp 45 (by decide))) ?_
      have q0 : a.eval (.tmp 57) = .slice aA m.at_.length ac := h.val 48 _ rfl (hp 48 (by decide))
      refine wp_val_on hK (by clear hfr; generalize a.eval = ρ at *; go_simp)
    · -- 50
      refine JV.step (slots := slS1) rfl (by decide) (by rw [hsz]; decide) (59, .is (.int .i64 (-1))) rfl rfl rfl ?_
      intro D a wx K hD hp h hK
      have hfr : Fr slS1 a0 a := h.fr
      refine step_wp_g rfl rfl (show a.eval (.tmp 54) = .bool false from h.val 45 _ rfl (hp 45 (by decide))) ?_
      have q0 : a.eval (.tmp 55) = .pointer (some ⟨g, 0, none⟩) := h.val 46 _ rfl (hp 46 (by decide))
      have q1 : a.eval (.tmp 58) = .int .i64 (m.at_.length) := h.val 49 _ rfl (hp 49 (by decide))
      refine wp_call_on hK Tryz.func19 (by kernel_rfl) (by kernel_rfl) rfl #[.pointer (some ⟨g, 0, none⟩), .int .i64 (m.at_.length)] (by simp only [List.map_toArray, List.map_cons, List.map_nil, q0, q1]) ?_
      refine (at_calls (m.at_.length) (HM.out wx h.below)).mono ?_
      rintro e w' ⟨rfl, q, rfl⟩
      exact ⟨_, rfl, Below_drewN wx q, congrArg (Value.int .i64) HNG.out.2.1⟩
    · -- 51
      refine JV.step (slots := slS1) rfl (by decide) (by rw [hsz]; decide) (60, .is (.bool false)) rfl rfl rfl ?_
      intro D a wx K hD hp h hK
      have hfr : Fr slS1 a0 a := h.fr
      refine step_wp_g rfl rfl (show a.eval (.tmp 54) = .bool false from h.val 45 _ rfl (hp 45 (by decide))) ?_
      have q0 : a.eval (.tmp 59) = .int .i64 (-1) := h.val 50 _ rfl (hp 50 (by decide))
      have c0 : a.eval (.const (.int .i64 (-1))) = .int .i64 (-1) := rfl
      refine wp_val_on hK (by clear hfr; generalize a.eval = ρ at *; go_simp)
    · -- 52
      refine JV.step (slots := slS1) rfl (by decide) (by rw [hsz]; decide) (61, .is (.bool false)) rfl rfl rfl ?_
      intro D a wx K hD hp h hK
      have hfr : Fr slS1 a0 a := h.fr
      refine step_wp rfl ?_
      have q0 : a.eval (.tmp 54) = .bool false := h.val 45 _ rfl (hp 45 (by decide))
      have q1 : a.eval (.tmp 60) = .bool false := h.val 51 _ rfl (hp 51 (by decide))
      have c0 : a.eval (.const (.bool true)) = .bool true := rfl
      refine wp_val_on hK (by clear hfr; generalize a.eval = ρ at *; go_simp)
    · -- 53
      refine JV.step (slots := slS1) rfl (by decide) (by rw [hsz]; decide) (62, .is (.bool false)) rfl rfl rfl ?_
      intro D a wx K hD hp h hK
      have hfr : Fr slS1 a0 a := h.fr
      refine step_wp rfl ?_
      have q0 : a.eval (.tmp 61) = .bool false := h.val 52 _ rfl (hp 52 (by decide))
      refine wp_move_on hK rfl ?_
      exact q0
    · -- 54
      refine JV.step (slots := slS1) rfl (by decide) (by rw [hsz]; decide) (63, .is (.pointer (some ⟨g, 0, none⟩))) rfl rfl rfl ?_
      intro D a wx K hD hp h hK
      have hfr : Fr slS1 a0 a := h.fr
      refine step_wp_g rfl rfl (show a.eval (.tmp 62) = .bool false from h.val 53 _ rfl (hp 53 (by decide))) ?_
      refine wp_move_on hK rfl ?_
      exact (hfr.eval (j := 0) (by decide)).trans t0
    · -- 55
      refine JV.step (slots := slS1) rfl (by decide) (by rw [hsz]; decide) (64, .is (.int .i64 (-1))) rfl rfl rfl ?_
      intro D a wx K hD hp h hK
      have hfr : Fr slS1 a0 a := h.fr
      refine step_wp_g rfl rfl (show a.eval (.tmp 62) = .bool false from h.val 53 _ rfl (hp 53 (by decide))) ?_
      have q0 : a.eval (.tmp 63) = .pointer (some ⟨g, 0, none⟩) := h.val 54 _ rfl (hp 54 (by decide))
      have q1 : a.eval (.const (.int .i64 (-1))) = .int .i64 (-1) := rfl
      refine wp_call_on hK Tryz.func25 (by kernel_rfl) (by kernel_rfl) rfl #[.pointer (some ⟨g, 0, none⟩), .int .i64 (-1)] (by simp only [List.map_toArray, List.map_cons, List.map_nil, q0, q1]) ?_
      refine (holder_calls (-1) (HM.out wx h.below)).mono ?_
      rintro e w' ⟨rfl, rfl⟩
      exact ⟨_, rfl, Below.refl _ _, congrArg (Value.int .i64) HNG.out.2.2.1⟩
    · -- 56
      refine JV.step (slots := slS1) rfl (by decide) (by rw [hsz]; decide) (65, .is (.bool false)) rfl rfl rfl ?_
      intro D a wx K hD hp h hK
      have hfr : Fr slS1 a0 a := h.fr
      refine step_wp_g rfl rfl (show a.eval (.tmp 62) = .bool false from h.val 53 _ rfl (hp 53 (by decide))) ?_
      have q0 : a.eval (.tmp 64) = .int .i64 (-1) := h.val 55 _ rfl (hp 55 (by decide))
      have c0 : a.eval (.const (.int .i64 (-1))) = .int .i64 (-1) := rfl
      refine wp_val_on hK (by clear hfr; generalize a.eval = ρ at *; go_simp)
    · -- 57
      refine JV.step (slots := slS1) rfl (by decide) (by rw [hsz]; decide) (66, .is (.bool false)) rfl rfl rfl ?_
      intro D a wx K hD hp h hK
      have hfr : Fr slS1 a0 a := h.fr
      refine step_wp rfl ?_
      have q0 : a.eval (.tmp 62) = .bool false := h.val 53 _ rfl (hp 53 (by decide))
      have q1 : a.eval (.tmp 65) = .bool false := h.val 56 _ rfl (hp 56 (by decide))
      have c0 : a.eval (.const (.bool true)) = .bool true := rfl
      refine wp_val_on hK (by clear hfr; generalize a.eval = ρ at *; go_simp)
    · -- 58
      refine JV.step (slots := slS1) rfl (by decide) (by rw [hsz]; decide) (67, .is (.bool false)) rfl rfl rfl ?_
      intro D a wx K hD hp h hK
      have hfr : Fr slS1 a0 a := h.fr
      refine step_wp rfl ?_
      have q0 : a.eval (.tmp 66) = .bool false := h.val 57 _ rfl (hp 57 (by decide))
      refine wp_move_on hK rfl ?_
      exact q0
    · -- 59
      refine JV.step (slots := slS1) rfl (by decide) (by rw [hsz]; decide) (68, .is (.pointer (some ⟨g, 0, none⟩))) rfl rfl rfl ?_
      intro D a wx K hD hp h hK
      have hfr : Fr slS1 a0 a := h.fr
      refine step_wp_g rfl rfl (show a.eval (.tmp 67) = .bool false from h.val 58 _ rfl (hp 58 (by decide))) ?_
      refine wp_move_on hK rfl ?_
      exact (hfr.eval (j := 0) (by decide)).trans t0
    · -- 60
      refine JV.step (slots := slS1) rfl (by decide) (by rw [hsz]; decide) (69, .is (.pointer (some ⟨w.heap.size, 6, none⟩))) rfl rfl rfl ?_
      intro D a wx K hD hp h hK
      have hfr : Fr slS1 a0 a := h.fr
      refine step_wp_g rfl rfl (show a.eval (.tmp 67) = .bool false from h.val 58 _ rfl (hp 58 (by decide))) ?_
      have r3 := (hfr.eval (j := 3) (by decide)).trans t3
      refine wp_val_on hK (by clear hfr; generalize a.eval = ρ at *; go_simp)
    · -- 61
      refine JV.step (slots := slS1) rfl (by decide) (by rw [hsz]; decide) (70, .is (.slice hA m.holders.length hc)) rfl rfl rfl ?_
      intro D a wx K hD hp h hK
      have hfr : Fr slS1 a0 a := h.fr
      refine step_wp_g rfl rfl (show a.eval (.tmp 67) = .bool false from h.val 58 _ rfl (hp 58 (by decide))) ?_
      have q0 : a.eval (.tmp 69) = .pointer (some ⟨w.heap.size, 6, none⟩) := h.val 60 _ rfl (hp 60 (by decide))
      have z0 : wx.cell? ⟨w.heap.size, 6, none⟩ = some (.slice hA m.holders.length hc) := (HB.out.below h.below HB.out.lt).cell 6
      refine wp_val_on hK (by clear hfr; generalize a.eval = ρ at *; go_simp)
    · -- 62
      refine JV.step (slots := slS1) rfl (by decide) (by rw [hsz]; decide) (71, .is (.int .i64 (m.holders.length))) rfl rfl rfl ?_
      intro D a wx K hD hp h hK
      have hfr : Fr slS1 a0 a := h.fr
      refine step_wp_g rfl rfl (show a.eval (.tmp 67) = .bool false from h.val 58 _ rfl (hp 58 (by decide))) ?_
      have q0 : a.eval (.tmp 70) = .slice hA m.holders.length hc := h.val 61 _ rfl (hp 61 (by decide))
      refine wp_val_on hK (by clear hfr; generalize a.eval = ρ at *; go_simp)
    · -- 63
      refine JV.step (slots := slS1) rfl (by decide) (by rw [hsz]; decide) (72, .is (.int .i64 (-1))) rfl rfl rfl ?_
      intro D a wx K hD hp h hK
      have hfr : Fr slS1 a0 a := h.fr
      refine step_wp_g rfl rfl (show a.eval (.tmp 67) = .bool false from h.val 58 _ rfl (hp 58 (by decide))) ?_
      have q0 : a.eval (.tmp 68) = .pointer (some ⟨g, 0, none⟩) := h.val 59 _ rfl (hp 59 (by decide))
      have q1 : a.eval (.tmp 71) = .int .i64 (m.holders.length) := h.val 62 _ rfl (hp 62 (by decide))
      refine wp_call_on hK Tryz.func25 (by kernel_rfl) (by kernel_rfl) rfl #[.pointer (some ⟨g, 0, none⟩), .int .i64 (m.holders.length)] (by simp only [List.map_toArray, List.map_cons, List.map_nil, q0, q1]) ?_
      refine (holder_calls (m.holders.length) (HM.out wx h.below)).mono ?_
      rintro e w' ⟨rfl, rfl⟩
      exact ⟨_, rfl, Below.refl _ _, congrArg (Value.int .i64) HNG.out.2.2.2.1⟩
    · -- 64
      refine JV.step (slots := slS1) rfl (by decide) (by rw [hsz]; decide) (73, .is (.bool false)) rfl rfl rfl ?_
      intro D a wx K hD hp h hK
      have hfr : Fr slS1 a0 a := h.fr
      refine step_wp_g rfl rfl (show a.eval (.tmp 67) = .bool false from h.val 58 _ rfl (hp 58 (by decide))) ?_
      have q0 : a.eval (.tmp 72) = .int .i64 (-1) := h.val 63 _ rfl (hp 63 (by decide))
      have c0 : a.eval (.const (.int .i64 (-1))) = .int .i64 (-1) := rfl
      refine wp_val_on hK (by clear hfr; generalize a.eval = ρ at *; go_simp)
    · -- 65
      refine JV.step (slots := slS1) rfl (by decide) (by rw [hsz]; decide) (74, .is (.bool false)) rfl rfl rfl ?_
      intro D a wx K hD hp h hK
      have hfr : Fr slS1 a0 a := h.fr
      refine step_wp rfl ?_
      have q0 : a.eval (.tmp 67) = .bool false := h.val 58 _ rfl (hp 58 (by decide))
      have q1 : a.eval (.tmp 73) = .bool false := h.val 64 _ rfl (hp 64 (by decide))
      have c0 : a.eval (.const (.bool true)) = .bool true := rfl
      refine wp_val_on hK (by clear hfr; generalize a.eval = ρ at *; go_simp)
    · -- 66
      refine JV.step (slots := slS1) rfl (by decide) (by rw [hsz]; decide) (75, .is (.bool false)) rfl rfl rfl ?_
      intro D a wx K hD hp h hK
      have hfr : Fr slS1 a0 a := h.fr
      refine step_wp rfl ?_
      have q0 : a.eval (.tmp 74) = .bool false := h.val 65 _ rfl (hp 65 (by decide))
      refine wp_move_on hK rfl ?_
      exact q0
    · -- 67
      refine JV.step (slots := slS1) rfl (by decide) (by rw [hsz]; decide) (76, .is (.pointer (some ⟨g, 0, none⟩))) rfl rfl rfl ?_
      intro D a wx K hD hp h hK
      have hfr : Fr slS1 a0 a := h.fr
      refine step_wp_g rfl rfl (show a.eval (.tmp 75) = .bool false from h.val 66 _ rfl (hp 66 (by decide))) ?_
      refine wp_move_on hK rfl ?_
      exact (hfr.eval (j := 0) (by decide)).trans t0
    · -- 68
      refine JV.step (slots := slS1) rfl (by decide) (by rw [hsz]; decide) (77, .ints []) rfl rfl rfl ?_
      intro D a wx K hD hp h hK
      have hfr : Fr slS1 a0 a := h.fr
      refine step_wp_g rfl rfl (show a.eval (.tmp 75) = .bool false from h.val 66 _ rfl (hp 66 (by decide))) ?_
      have q0 : a.eval (.tmp 76) = .pointer (some ⟨g, 0, none⟩) := h.val 67 _ rfl (hp 67 (by decide))
      have q1 : a.eval (.const (.int .i64 (-1))) = .int .i64 (-1) := rfl
      refine wp_call_on hK Tryz.func24 (by kernel_rfl) (by kernel_rfl) rfl #[.pointer (some ⟨g, 0, none⟩), .int .i64 (-1)] (by simp only [List.map_toArray, List.map_cons, List.map_nil, q0, q1]) ?_
      refine (slots_calls (-1) (HM.out wx h.below) HOK.out.1 HOK.out.2).mono ?_
      rintro e w' ⟨A, c, rfl, hi, hb⟩
      rw [HNG.out.2.2.2.2.1] at hi ⊢
      exact ⟨_, rfl, hb, A, c, rfl, hi⟩
    · -- 69
      refine JV.step (slots := slS1) rfl (by decide) (by rw [hsz]; decide) (78, .is (.int .i64 0)) rfl rfl rfl ?_
      intro D a wx K hD hp h hK
      have hfr : Fr slS1 a0 a := h.fr
      refine step_wp_g rfl rfl (show a.eval (.tmp 75) = .bool false from h.val 66 _ rfl (hp 66 (by decide))) ?_
      obtain ⟨A1, c1, e1, i1⟩ := h.val 68 _ rfl (hp 68 (by decide))
      have e1 : a.eval (.tmp 77) = .slice A1 0 c1 := e1
      refine wp_val_on hK (by clear i1 hfr; generalize a.eval = ρ at *; go_simp)
    · -- 70
      refine JV.step (slots := slS1) rfl (by decide) (by rw [hsz]; decide) (79, .is (.bool false)) rfl rfl rfl ?_
      intro D a wx K hD hp h hK
      have hfr : Fr slS1 a0 a := h.fr
      refine step_wp_g rfl rfl (show a.eval (.tmp 75) = .bool false from h.val 66 _ rfl (hp 66 (by decide))) ?_
      have q0 : a.eval (.tmp 78) = .int .i64 0 := h.val 69 _ rfl (hp 69 (by decide))
      have c0 : a.eval (.const (.int .i64 0)) = .int .i64 0 := rfl
      refine wp_val_on hK (by clear hfr; generalize a.eval = ρ at *; go_simp)
    · -- 71
      refine JV.step (slots := slS1) rfl (by decide) (by rw [hsz]; decide) (80, .is (.bool false)) rfl rfl rfl ?_
      intro D a wx K hD hp h hK
      have hfr : Fr slS1 a0 a := h.fr
      refine step_wp rfl ?_
      have q0 : a.eval (.tmp 75) = .bool false := h.val 66 _ rfl (hp 66 (by decide))
      have q1 : a.eval (.tmp 79) = .bool false := h.val 70 _ rfl (hp 70 (by decide))
      have c0 : a.eval (.const (.bool true)) = .bool true := rfl
      refine wp_val_on hK (by clear hfr; generalize a.eval = ρ at *; go_simp)
    · -- 72
      refine JV.step (slots := slS1) rfl (by decide) (by rw [hsz]; decide) (81, .is (.bool false)) rfl rfl rfl ?_
      intro D a wx K hD hp h hK
      have hfr : Fr slS1 a0 a := h.fr
      refine step_wp rfl ?_
      have q0 : a.eval (.tmp 80) = .bool false := h.val 71 _ rfl (hp 71 (by decide))
      refine wp_move_on hK rfl ?_
      exact q0
    · -- 73
      refine JV.step (slots := slS1) rfl (by decide) (by rw [hsz]; decide) (82, .is (.pointer (some ⟨g, 0, none⟩))) rfl rfl rfl ?_
      intro D a wx K hD hp h hK
      have hfr : Fr slS1 a0 a := h.fr
      refine step_wp_g rfl rfl (show a.eval (.tmp 81) = .bool false from h.val 72 _ rfl (hp 72 (by decide))) ?_
      refine wp_move_on hK rfl ?_
      exact (hfr.eval (j := 0) (by decide)).trans t0
    · -- 74
      refine JV.step (slots := slS1) rfl (by decide) (by rw [hsz]; decide) (83, .is (.pointer (some ⟨w.heap.size, 3, none⟩))) rfl rfl rfl ?_
      intro D a wx K hD hp h hK
      have hfr : Fr slS1 a0 a := h.fr
      refine step_wp_g rfl rfl (show a.eval (.tmp 81) = .bool false from h.val 72 _ rfl (hp 72 (by decide))) ?_
      have r3 := (hfr.eval (j := 3) (by decide)).trans t3
      refine wp_val_on hK (by clear hfr; generalize a.eval = ρ at *; go_simp)
    · -- 75
      refine JV.step (slots := slS1) rfl (by decide) (by rw [hsz]; decide) (84, .is (.slice aA m.at_.length ac)) rfl rfl rfl ?_
      intro D a wx K hD hp h hK
      have hfr : Fr slS1 a0 a := h.fr
      refine step_wp_g rfl rfl (show a.eval (.tmp 81) = .bool false from h.val 72 _ rfl (hp 72 (by decide))) ?_
      have q0 : a.eval (.tmp 83) = .pointer (some ⟨w.heap.size, 3, none⟩) := h.val 74 _ rfl (hp 74 (by decide))
      have z0 : wx.cell? ⟨w.heap.size, 3, none⟩ = some (.slice aA m.at_.length ac) := (HB.out.below h.below HB.out.lt).cell 3
      refine wp_val_on hK (by clear hfr; generalize a.eval = ρ at *; go_simp)
    · -- 76
      refine JV.step (slots := slS1) rfl (by decide) (by rw [hsz]; decide) (85, .is (.int .i64 (m.at_.length))) rfl rfl rfl ?_
      intro D a wx K hD hp h hK
      have hfr : Fr slS1 a0 a := h.fr
      refine step_wp_g rfl rfl (show a.eval (.tmp 81) = .bool false from h.val 72 _ rfl (hp 72 (by decide))) ?_
      have q0 : a.eval (.tmp 84) = .slice aA m.at_.length ac := h.val 75 _ rfl (hp 75 (by decide))
      refine wp_val_on hK (by clear hfr; generalize a.eval = ρ at *; go_simp)
    · -- 77
      refine JV.step (slots := slS1) rfl (by decide) (by rw [hsz]; decide) (86, .ints []) rfl rfl rfl ?_
      intro D a wx K hD hp h hK
      have hfr : Fr slS1 a0 a := h.fr
      refine step_wp_g rfl rfl (show a.eval (.tmp 81) = .bool false from h.val 72 _ rfl (hp 72 (by decide))) ?_
      have q0 : a.eval (.tmp 82) = .pointer (some ⟨g, 0, none⟩) := h.val 73 _ rfl (hp 73 (by decide))
      have q1 : a.eval (.tmp 85) = .int .i64 (m.at_.length) := h.val 76 _ rfl (hp 76 (by decide))
      refine wp_call_on hK Tryz.func24 (by kernel_rfl) (by kernel_rfl) rfl #[.pointer (some ⟨g, 0, none⟩), .int .i64 (m.at_.length)] (by simp only [List.map_toArray, List.map_cons, List.map_nil, q0, q1]) ?_
      refine (slots_calls (m.at_.length) (HM.out wx h.below) HOK.out.1 HOK.out.2).mono ?_
      rintro e w' ⟨A, c, rfl, hi, hb⟩
      rw [HNG.out.2.2.2.2.2] at hi ⊢
      exact ⟨_, rfl, hb, A, c, rfl, hi⟩
    · -- 78
      refine JV.step (slots := slS1) rfl (by decide) (by rw [hsz]; decide) (87, .is (.int .i64 0)) rfl rfl rfl ?_
      intro D a wx K hD hp h hK
      have hfr : Fr slS1 a0 a := h.fr
      refine step_wp_g rfl rfl (show a.eval (.tmp 81) = .bool false from h.val 72 _ rfl (hp 72 (by decide))) ?_
      obtain ⟨A1, c1, e1, i1⟩ := h.val 77 _ rfl (hp 77 (by decide))
      have e1 : a.eval (.tmp 86) = .slice A1 0 c1 := e1
      refine wp_val_on hK (by clear i1 hfr; generalize a.eval = ρ at *; go_simp)
    · -- 79
      refine JV.step (slots := slS1) rfl (by decide) (by rw [hsz]; decide) (88, .is (.bool false)) rfl rfl rfl ?_
      intro D a wx K hD hp h hK
      have hfr : Fr slS1 a0 a := h.fr
      refine step_wp_g rfl rfl (show a.eval (.tmp 81) = .bool false from h.val 72 _ rfl (hp 72 (by decide))) ?_
      have q0 : a.eval (.tmp 87) = .int .i64 0 := h.val 78 _ rfl (hp 78 (by decide))
      have c0 : a.eval (.const (.int .i64 0)) = .int .i64 0 := rfl
      refine wp_val_on hK (by clear hfr; generalize a.eval = ρ at *; go_simp)
    · -- 80
      refine JV.step (slots := slS1) rfl (by decide) (by rw [hsz]; decide) (89, .is (.bool false)) rfl rfl rfl ?_
      intro D a wx K hD hp h hK
      have hfr : Fr slS1 a0 a := h.fr
      refine step_wp rfl ?_
      have q0 : a.eval (.tmp 81) = .bool false := h.val 72 _ rfl (hp 72 (by decide))
      have q1 : a.eval (.tmp 88) = .bool false := h.val 79 _ rfl (hp 79 (by decide))
      have c0 : a.eval (.const (.bool true)) = .bool true := rfl
      refine wp_val_on hK (by clear hfr; generalize a.eval = ρ at *; go_simp)
  case done =>
    intro D a wz hall h
    have hd : ∀ i, i < 81 → D i = true := hall
    have hfin := Fr.all (slots := slS1) h.fr (by rw [hsz]; decide)
    obtain ⟨X11, Y11, v11, -⟩ := h.val 11 _ rfl (hd 11 (by decide))
    have v11 : a.eval (.tmp 20) = _ := v11
    obtain ⟨X13, Y13, v13, -⟩ := h.val 13 _ rfl (hd 13 (by decide))
    have v13 : a.eval (.tmp 22) = _ := v13
    obtain ⟨X19, Y19, v19, -⟩ := h.val 19 _ rfl (hd 19 (by decide))
    have v19 : a.eval (.tmp 28) = _ := v19
    obtain ⟨X21, Y21, v21, -⟩ := h.val 21 _ rfl (hd 21 (by decide))
    have v21 : a.eval (.tmp 30) = _ := v21
    obtain ⟨X27, Y27, v27, -⟩ := h.val 27 _ rfl (hd 27 (by decide))
    have v27 : a.eval (.tmp 36) = _ := v27
    obtain ⟨X29, Y29, v29, -⟩ := h.val 29 _ rfl (hd 29 (by decide))
    have v29 : a.eval (.tmp 38) = _ := v29
    obtain ⟨X68, Y68, v68, -⟩ := h.val 68 _ rfl (hd 68 (by decide))
    have v68 : a.eval (.tmp 77) = _ := v68
    obtain ⟨X77, Y77, v77, -⟩ := h.val 77 _ rfl (hd 77 (by decide))
    have v77 : a.eval (.tmp 86) = _ := v77
    simp only [putAll, slS1] at hfin
    rw [(show a.eval (.tmp 9) = .pointer (some ⟨g, 0, none⟩) from h.val 0 _ rfl (hd 0 (by decide))), (show a.eval (.tmp 10) = .bool false from h.val 1 _ rfl (hd 1 (by decide))), (show a.eval (.tmp 11) = .bool false from h.val 2 _ rfl (hd 2 (by decide))), (show a.eval (.tmp 12) = .pointer (some ⟨g, 0, none⟩) from h.val 3 _ rfl (hd 3 (by decide))), (show a.eval (.tmp 13) = .bool eb from h.val 4 _ rfl (hd 4 (by decide))), (show a.eval (.tmp 14) = .agg #[su, lu, gu, .slice aA m.at_.length ac, .slice oA m.slots.length oc, .slice mA m.mem.length mc, .slice hA m.holders.length hc, .slice pA m.prints.length pc] from h.val 5 _ rfl (hd 5 (by decide))), (show a.eval (.tmp 15) = .bool eb from h.val 6 _ rfl (hd 6 (by decide))), (show a.eval (.tmp 16) = .bool false from h.val 7 _ rfl (hd 7 (by decide))), (show a.eval (.tmp 17) = .bool false from h.val 8 _ rfl (hd 8 (by decide))), (show a.eval (.tmp 18) = .bool false from h.val 9 _ rfl (hd 9 (by decide))), (show a.eval (.tmp 19) = .pointer (some ⟨g, 0, none⟩) from h.val 10 _ rfl (hd 10 (by decide))), v11, (show a.eval (.tmp 21) = .agg #[su, lu, gu, .slice aA m.at_.length ac, .slice oA m.slots.length oc, .slice mA m.mem.length mc, .slice hA m.holders.length hc, .slice pA m.prints.length pc] from h.val 12 _ rfl (hd 12 (by decide))), v13, (show a.eval (.tmp 23) = .bool true from h.val 14 _ rfl (hd 14 (by decide))), (show a.eval (.tmp 24) = .bool false from h.val 15 _ rfl (hd 15 (by decide))), (show a.eval (.tmp 25) = .bool false from h.val 16 _ rfl (hd 16 (by decide))), (show a.eval (.tmp 26) = .bool false from h.val 17 _ rfl (hd 17 (by decide))), (show a.eval (.tmp 27) = .pointer (some ⟨g, 0, none⟩) from h.val 18 _ rfl (hd 18 (by decide))), v19, (show a.eval (.tmp 29) = .pointer (some ⟨w.heap.size, 5, none⟩) from h.val 20 _ rfl (hd 20 (by decide))), v21, (show a.eval (.tmp 31) = .bool true from h.val 22 _ rfl (hd 22 (by decide))), (show a.eval (.tmp 32) = .bool false from h.val 23 _ rfl (hd 23 (by decide))), (show a.eval (.tmp 33) = .bool false from h.val 24 _ rfl (hd 24 (by decide))), (show a.eval (.tmp 34) = .bool false from h.val 25 _ rfl (hd 25 (by decide))), (show a.eval (.tmp 35) = .pointer (some ⟨g, 0, none⟩) from h.val 26 _ rfl (hd 26 (by decide))), v27, (show a.eval (.tmp 37) = .pointer (some ⟨w.heap.size, 7, none⟩) from h.val 28 _ rfl (hd 28 (by decide))), v29, (show a.eval (.tmp 39) = .bool true from h.val 30 _ rfl (hd 30 (by decide))), (show a.eval (.tmp 40) = .bool false from h.val 31 _ rfl (hd 31 (by decide))), (show a.eval (.tmp 41) = .bool false from h.val 32 _ rfl (hd 32 (by decide))), (show a.eval (.tmp 42) = .bool false from h.val 33 _ rfl (hd 33 (by decide))), (show a.eval (.tmp 43) = .pointer (some ⟨g, 0, none⟩) from h.val 34 _ rfl (hd 34 (by decide))), (show a.eval (.tmp 44) = .string KB from h.val 35 _ rfl (hd 35 (by decide))), (show a.eval (.tmp 45) = .agg #[su, lu, gu, .slice aA m.at_.length ac, .slice oA m.slots.length oc, .slice mA m.mem.length mc, .slice hA m.holders.length hc, .slice pA m.prints.length pc] from h.val 36 _ rfl (hd 36 (by decide))), (show a.eval (.tmp 46) = .string KB from h.val 37 _ rfl (hd 37 (by decide))), (show a.eval (.tmp 47) = .bool false from h.val 38 _ rfl (hd 38 (by decide))), (show a.eval (.tmp 48) = .bool false from h.val 39 _ rfl (hd 39 (by decide))), (show a.eval (.tmp 49) = .bool false from h.val 40 _ rfl (hd 40 (by decide))), (show a.eval (.tmp 50) = .pointer (some ⟨g, 0, none⟩) from h.val 41 _ rfl (hd 41 (by decide))), (show a.eval (.tmp 51) = .int .i64 (-1) from h.val 42 _ rfl (hd 42 (by decide))), (show a.eval (.tmp 52) = .bool false from h.val 43 _ rfl (hd 43 (by decide))), (show a.eval (.tmp 53) = .bool false from h.val 44 _ rfl (hd 44 (by decide))), (show a.eval (.tmp 54) = .bool false from h.val 45 _ rfl (hd 45 (by decide))), (show a.eval (.tmp 55) = .pointer (some ⟨g, 0, none⟩) from h.val 46 _ rfl (hd 46 (by decide))), (show a.eval (.tmp 56) = .pointer (some ⟨w.heap.size, 3, none⟩) from h.val 47 _ rfl (hd 47 (by decide))), (show a.eval (.tmp 57) = .slice aA m.at_.length ac from h.val 48 _ rfl (hd 48 (by decide))), (show a.eval (.tmp 58) = .int .i64 (m.at_.length) from h.val 49 _ rfl (hd 49 (by decide))), (show a.eval (.tmp 59) = .int .i64 (-1) from h.val 50 _ rfl (hd 50 (by decide))), (show a.eval (.tmp 60) = .bool false from h.val 51 _ rfl (hd 51 (by decide))), (show a.eval (.tmp 61) = .bool false from h.val 52 _ rfl (hd 52 (by decide))), (show a.eval (.tmp 62) = .bool false from h.val 53 _ rfl (hd 53 (by decide))), (show a.eval (.tmp 63) = .pointer (some ⟨g, 0, none⟩) from h.val 54 _ rfl (hd 54 (by decide))), (show a.eval (.tmp 64) = .int .i64 (-1) from h.val 55 _ rfl (hd 55 (by decide))), (show a.eval (.tmp 65) = .bool false from h.val 56 _ rfl (hd 56 (by decide))), (show a.eval (.tmp 66) = .bool false from h.val 57 _ rfl (hd 57 (by decide))), (show a.eval (.tmp 67) = .bool false from h.val 58 _ rfl (hd 58 (by decide))), (show a.eval (.tmp 68) = .pointer (some ⟨g, 0, none⟩) from h.val 59 _ rfl (hd 59 (by decide))), (show a.eval (.tmp 69) = .pointer (some ⟨w.heap.size, 6, none⟩) from h.val 60 _ rfl (hd 60 (by decide))), (show a.eval (.tmp 70) = .slice hA m.holders.length hc from h.val 61 _ rfl (hd 61 (by decide))), (show a.eval (.tmp 71) = .int .i64 (m.holders.length) from h.val 62 _ rfl (hd 62 (by decide))), (show a.eval (.tmp 72) = .int .i64 (-1) from h.val 63 _ rfl (hd 63 (by decide))), (show a.eval (.tmp 73) = .bool false from h.val 64 _ rfl (hd 64 (by decide))), (show a.eval (.tmp 74) = .bool false from h.val 65 _ rfl (hd 65 (by decide))), (show a.eval (.tmp 75) = .bool false from h.val 66 _ rfl (hd 66 (by decide))), (show a.eval (.tmp 76) = .pointer (some ⟨g, 0, none⟩) from h.val 67 _ rfl (hd 67 (by decide))), v68, (show a.eval (.tmp 78) = .int .i64 0 from h.val 69 _ rfl (hd 69 (by decide))), (show a.eval (.tmp 79) = .bool false from h.val 70 _ rfl (hd 70 (by decide))), (show a.eval (.tmp 80) = .bool false from h.val 71 _ rfl (hd 71 (by decide))), (show a.eval (.tmp 81) = .bool false from h.val 72 _ rfl (hd 72 (by decide))), (show a.eval (.tmp 82) = .pointer (some ⟨g, 0, none⟩) from h.val 73 _ rfl (hd 73 (by decide))), (show a.eval (.tmp 83) = .pointer (some ⟨w.heap.size, 3, none⟩) from h.val 74 _ rfl (hd 74 (by decide))), (show a.eval (.tmp 84) = .slice aA m.at_.length ac from h.val 75 _ rfl (hd 75 (by decide))), (show a.eval (.tmp 85) = .int .i64 (m.at_.length) from h.val 76 _ rfl (hd 76 (by decide))), v77, (show a.eval (.tmp 87) = .int .i64 0 from h.val 78 _ rfl (hd 78 (by decide))), (show a.eval (.tmp 88) = .bool false from h.val 79 _ rfl (hd 79 (by decide))), (show a.eval (.tmp 89) = .bool false from h.val 80 _ rfl (hd 80 (by decide)))] at hfin
    have HBZ := Lib.hid h.below
    rw [hfin, HA0.out]
    clear hfin HA0 h hall hd t0 t3 hsz v11 v13 v19 v21 v27 v29 v68 v77
    simp only [Act.put, List.setIfInBounds_toArray, List.set_cons_zero, List.set_cons_succ]
    have y3 : wz.cell? ⟨w.heap.size, 3, none⟩ = some (.slice aA m.at_.length ac) := (HB.out.below HBZ.out HB.out.lt).cell 3
    go_wp2
    go_loopw [93, 5, 6] (fun v93 _ _ wr => ∃ k : Nat, v93 = .int .i64 k ∧ k ≤ m.at_.length ∧ Hid (Below w0.heap.size w0 wr)) (fun v93 _ _ _ => m.at_.length - (intOf v93).toNat)
    case atStart => exact ⟨0, rfl, by omega, HBZ⟩
    case round =>
      clear y3
      obtain ⟨k, rfl, hk, HBR⟩ := hrel
      have nA : m.at_.length ≤ 8 := HSZ.out.2.2.1
      by_cases hlt : k < m.at_.length
      · obtain ⟨i, hi⟩ : ∃ i, m.at_[k]? = some i := ⟨_, List.getElem?_eq_getElem hlt⟩
        obtain ⟨l, hl⟩ : ∃ l, m.slots[k]? = some l := ⟨_, List.getElem?_eq_getElem (by rw [HSZ.out.2.2.2.2]; exact hlt)⟩
        have hw : m.where_ (k : Int) = i := by unfold Mach.where_; rw [if_pos (by omega), Int.toNat_natCast, hi]; rfl
        have hso : m.slotsOf (k : Int) = l := by unfold Mach.slotsOf; rw [if_pos (by omega), Int.toNat_natCast, hl]; rfl
        obtain ⟨bv, hbv⟩ : ∃ b, barF u m (k : Int) = b := ⟨_, rfl⟩
        have hbw := HBW.out.trans (HBR.out.mono HBW.out.size)
        obtain ⟨ab, ao, rfl, hac⟩ := HRS.out.at_.at_ (i := k) (x := (i : Int)) (by rw [List.getElem?_map, hi]; rfl)
        rw [Nat.mul_one] at hac
        have a1 : wr.cell? ⟨ab, ao + k, none⟩ = some (.int .i64 (i : Int)) := cmap_below hbw _ _ _ hac
        obtain ⟨ob, oo, rfl, lv, hlc, hlv⟩ := HRS.out.slots.at_ hl
        obtain ⟨lA, lc, rfl, -⟩ := id hlv
        rw [Nat.mul_one] at hlc
        have hl1 : cmap wr ob (oo + k) = some (.slice lA l.length lc) := cmap_below hbw _ _ _ hlc
        have HK := Lib.hid (And.intro hw (And.intro hbv (And.intro hso (And.intro hl1 (hlv.mono (cmap_below hbw))))))
        have k0 : (0 : Int) ≤ k := by omega
        have k1 : (k : Int) < m.at_.length := by omega
        have k2 : (k : Int) < m.slots.length := by rw [HSZ.out.2.2.2.2]; exact k1
        have HMk := Lib.hid (fun wx (hb : Below wr.heap.size wr wx) => HM.out wx (HBR.out.trans (hb.mono HBR.out.size)))
        have HRk := Lib.hid (fun wx (hb : Below wr.heap.size wr wx) => HRf.out wx (HBR.out.trans (hb.mono HBR.out.size)))
        have HBk := Lib.hid (HB.out.below HBR.out HB.out.lt)
        clear hi hl hw hso hbv hac hlc hlv hl1 hbw
        go_upto_region 6 with fail
        refine wp_act0 fun a0 ha0 => ?_
        have t0 : a0.eval (.tmp 0) = .pointer (some ⟨g, 0, none⟩) := by rw [ha0]; rfl
        have t3 : a0.eval (.tmp 3) = .pointer (some ⟨w.heap.size, 0, none⟩) := by rw [ha0]; rfl
        have t5 : a0.eval (.tmp 5) = .int .i64 (k : Int) := by rw [ha0]; rfl
        have t6 : a0.eval (.tmp 6) = .int .i64 (i : Int) := by rw [ha0]; rfl
        have hsz : a0.tmps.size = 140 := by rw [ha0]; rfl
        have HA0 := Lib.hid ha0; clear ha0
        refine wp_region_val [(98, .is (.pointer (some ⟨g, 0, none⟩))), (99, .is (.int .i64 (k : Int))), (100, .is (.int .i64 (i : Int))), (101, .is (.int .i64 (i : Int))), (102, .is (.bool false)), (103, .is (.bool false)), (104, .is (.pointer (some ⟨g, 0, none⟩))), (105, .is (.int .i64 (k : Int))), (106, .is (.bool (bv == 0))), (107, .is (.agg #[su, lu, gu, .slice (some ⟨ab, ao, none⟩) m.at_.length ac, .slice (some ⟨ob, oo, none⟩) m.slots.length oc, .slice mA m.mem.length mc, .slice hA m.holders.length hc, .slice pA m.prints.length pc])), (108, .is (.int .i64 (k : Int))), (109, .is (.int .i64 bv)), (110, .is (.bool (bv == 0))), (111, .is (.bool false)), (112, .is (.bool false)), (113, .is (.bool false)), (114, .is (.pointer (some ⟨g, 0, none⟩))), (115, .is (.int .i64 (k : Int))), (116, .ints l), (117, .is (.pointer (some ⟨w.heap.size, 4, none⟩))), (118, .is (.slice (some ⟨ob, oo, none⟩) m.slots.length oc)), (119, .is (.int .i64 (k : Int))), (120, .is (.pointer (some ⟨ob, oo + k, none⟩))), (121, .ints l), (122, .is (.bool true)), (123, .is (.bool false)), (124, .is (.bool false))] (by kernel_rfl) (by kernel_rfl) ?steps ?done
        case steps =>
          refine ⟨?_, ?_, ?_, ?_, ?_, ?_, ?_, ?_, ?_, ?_, ?_, ?_, ?_, ?_, ?_, ?_, ?_, ?_, ?_, ?_, ?_, ?_, ?_, ?_, ?_, ?_, ?_, trivial⟩
          · -- 0
            refine JV.step (slots := slS6) rfl (by decide) (by rw [hsz]; decide) (98, .is (.pointer (some ⟨g, 0, none⟩))) rfl rfl rfl ?_
            intro D a wx K hD hp h hK
            have hfr : Fr slS6 a0 a := h.fr
            refine step_wp rfl ?_
            refine wp_move_on hK rfl ?_
            exact (hfr.eval (j := 0) (by decide)).trans t0
          · -- 1
            refine JV.step (slots := slS6) rfl (by decide) (by rw [hsz]; decide) (99, .is (.int .i64 (k : Int))) rfl rfl rfl ?_
            intro D a wx K hD hp h hK
            have hfr : Fr slS6 a0 a := h.fr
            refine step_wp rfl ?_
            refine wp_move_on hK rfl ?_
            exact (hfr.eval (j := 5) (by decide)).trans t5
          · -- 2
            refine JV.step (slots := slS6) rfl (by decide) (by rw [hsz]; decide) (100, .is (.int .i64 (i : Int))) rfl rfl rfl ?_
            intro D a wx K hD hp h hK
            have hfr : Fr slS6 a0 a := h.fr
            refine step_wp rfl ?_
            have q0 : a.eval (.tmp 98) = .pointer (some ⟨g, 0, none⟩) := h.val 0 _ rfl (hp 0 (by decide))
            have q1 : a.eval (.tmp 99) = .int .i64 (k : Int) := h.val 1 _ rfl (hp 1 (by decide))
            refine wp_call_on hK Tryz.func19 (by kernel_rfl) (by kernel_rfl) rfl #[.pointer (some ⟨g, 0, none⟩), .int .i64 (k : Int)] (by simp only [List.map_toArray, List.map_cons, List.map_nil, q0, q1]) ?_
            refine (at_calls (k : Int) (HMk.out wx h.below)).mono ?_
            rintro e w' ⟨rfl, q, rfl⟩
            exact ⟨_, rfl, Below_drewN wx q, congrArg (Value.int .i64) HK.out.1⟩
          · -- 3
            refine JV.step (slots := slS6) rfl (by decide) (by rw [hsz]; decide) (101, .is (.int .i64 (i : Int))) rfl rfl rfl ?_
            intro D a wx K hD hp h hK
            have hfr : Fr slS6 a0 a := h.fr
            refine step_wp rfl ?_
            refine wp_move_on hK rfl ?_
            exact (hfr.eval (j := 6) (by decide)).trans t6
          · -- 4
            refine JV.step (slots := slS6) rfl (by decide) (by rw [hsz]; decide) (102, .is (.bool false)) rfl rfl rfl ?_
            intro D a wx K hD hp h hK
            have hfr : Fr slS6 a0 a := h.fr
            refine step_wp rfl ?_
            have q0 : a.eval (.tmp 100) = .int .i64 (i : Int) := h.val 2 _ rfl (hp 2 (by decide))
            have q1 : a.eval (.tmp 101) = .int .i64 (i : Int) := h.val 3 _ rfl (hp 3 (by decide))
            refine wp_val_on hK (by clear hfr; generalize a.eval = ρ at *; go_simp)
          · -- 5
            refine JV.step (slots := slS6) rfl (by decide) (by rw [hsz]; decide) (103, .is (.bool false)) rfl rfl rfl ?_
            intro D a wx K hD hp h hK
            have hfr : Fr slS6 a0 a := h.fr
            refine step_wp rfl ?_
            have q0 : a.eval (.tmp 102) = .bool false := h.val 4 _ rfl (hp 4 (by decide))
            refine wp_move_on hK rfl ?_
            exact q0
          · -- 6
            refine JV.step (slots := slS6) rfl (by decide) (by rw [hsz]; decide) (104, .is (.pointer (some ⟨g, 0, none⟩))) rfl rfl rfl ?_
            intro D a wx K hD hp h hK
            have hfr : Fr slS6 a0 a := h.fr
            refine step_wp_g rfl rfl (show a.eval (.tmp 103) = .bool false from h.val 5 _ rfl (hp 5 (by decide))) ?_
            refine wp_move_on hK rfl ?_
            exact (hfr.eval (j := 0) (by decide)).trans t0
          · -- 7
            refine JV.step (slots := slS6) rfl (by decide) (by rw [hsz]; decide) (105, .is (.int .i64 (k : Int))) rfl rfl rfl ?_
            intro D a wx K hD hp h hK
            have hfr : Fr slS6 a0 a := h.fr
            refine step_wp_g rfl rfl (show a.eval (.tmp 103) = .bool false from h.val 5 _ rfl (hp 5 (by decide))) ?_
            refine wp_move_on hK rfl ?_
            exact (hfr.eval (j := 5) (by decide)).trans t5
          · -- 8
            refine JV.step (slots := slS6) rfl (by decide) (by rw [hsz]; decide) (106, .is (.bool (bv == 0))) rfl rfl rfl ?_
            intro D a wx K hD hp h hK
            have hfr : Fr slS6 a0 a := h.fr
            refine step_wp_g rfl rfl (show a.eval (.tmp 103) = .bool false from h.val 5 _ rfl (hp 5 (by decide))) ?_
            have q0 : a.eval (.tmp 104) = .pointer (some ⟨g, 0, none⟩) := h.val 6 _ rfl (hp 6 (by decide))
            have q1 : a.eval (.tmp 105) = .int .i64 (k : Int) := h.val 7 _ rfl (hp 7 (by decide))
            refine wp_call_on hK Tryz.func22 (by kernel_rfl) (by kernel_rfl) rfl #[.pointer (some ⟨g, 0, none⟩), .int .i64 (k : Int)] (by simp only [List.map_toArray, List.map_cons, List.map_nil, q0, q1]) ?_
            refine (can_calls (k : Int) (HMk.out wx h.below) HOK.out.1 HOK2.out).mono ?_
            rintro e w' ⟨rfl, hb⟩
            exact ⟨_, rfl, hb, by rw [HK.out.2.1]; rfl⟩
          · -- 9
            refine JV.step (slots := slS6) rfl (by decide) (by rw [hsz]; decide) (107, .is (.agg #[su, lu, gu, .slice (some ⟨ab, ao, none⟩) m.at_.length ac, .slice (some ⟨ob, oo, none⟩) m.slots.length oc, .slice mA m.mem.length mc, .slice hA m.holders.length hc, .slice pA m.prints.length pc])) rfl rfl rfl ?_
            intro D a wx K hD hp h hK
            have hfr : Fr slS6 a0 a := h.fr
            refine step_wp_g rfl rfl (show a.eval (.tmp 103) = .bool false from h.val 5 _ rfl (hp 5 (by decide))) ?_
            refine wp_load_on hK 35 _ rfl w.heap.size 0 ((hfr.eval (j := 3) (by decide)).trans t3) _ (fun j v hj => by rw [Nat.zero_add, (HBk.out.below h.below HBk.out.lt).cell]; exact hj) Tryz.underlying35 rfl (by kernel_rfl)
          · -- 10
            refine JV.step (slots := slS6) rfl (by decide) (by rw [hsz]; decide) (108, .is (.int .i64 (k : Int))) rfl rfl rfl ?_
            intro D a wx K hD hp h hK
            have hfr : Fr slS6 a0 a := h.fr
            refine step_wp_g rfl rfl (show a.eval (.tmp 103) = .bool false from h.val 5 _ rfl (hp 5 (by decide))) ?_
            refine wp_move_on hK rfl ?_
            exact (hfr.eval (j := 5) (by decide)).trans t5
          · -- 11
            refine JV.step (slots := slS6) rfl (by decide) (by rw [hsz]; decide) (109, .is (.int .i64 bv)) rfl rfl rfl ?_
            intro D a wx K hD hp h hK
            have hfr : Fr slS6 a0 a := h.fr
            refine step_wp_g rfl rfl (show a.eval (.tmp 103) = .bool false from h.val 5 _ rfl (hp 5 (by decide))) ?_
            have q0 : a.eval (.tmp 107) = .agg #[su, lu, gu, .slice (some ⟨ab, ao, none⟩) m.at_.length ac, .slice (some ⟨ob, oo, none⟩) m.slots.length oc, .slice mA m.mem.length mc, .slice hA m.holders.length hc, .slice pA m.prints.length pc] := h.val 9 _ rfl (hp 9 (by decide))
            have q1 : a.eval (.tmp 108) = .int .i64 (k : Int) := h.val 10 _ rfl (hp 10 (by decide))
            refine wp_call_on hK Tryz.func34 (by kernel_rfl) (by kernel_rfl) rfl #[.agg #[su, lu, gu, .slice (some ⟨ab, ao, none⟩) m.at_.length ac, .slice (some ⟨ob, oo, none⟩) m.slots.length oc, .slice mA m.mem.length mc, .slice hA m.holders.length hc, .slice pA m.prints.length pc], .int .i64 (k : Int)] (by simp only [List.map_toArray, List.map_cons, List.map_nil, q0, q1]) ?_
            refine (r7why_calls [su, lu, gu, .slice (some ⟨ab, ao, none⟩) m.at_.length ac, .slice (some ⟨ob, oo, none⟩) m.slots.length oc, .slice mA m.mem.length mc, .slice hA m.holders.length hc, .slice pA m.prints.length pc] u m (k : Int) wx (HRk.out wx h.below) HOK2.out HOK.out.1).mono ?_
            rintro e w' ⟨rfl, hb⟩
            exact ⟨_, rfl, hb, by rw [HK.out.2.1]; rfl⟩
          · -- 12
            refine JV.step (slots := slS6) rfl (by decide) (by rw [hsz]; decide) (110, .is (.bool (bv == 0))) rfl rfl rfl ?_
            intro D a wx K hD hp h hK
            have hfr : Fr slS6 a0 a := h.fr
            refine step_wp_g rfl rfl (show a.eval (.tmp 103) = .bool false from h.val 5 _ rfl (hp 5 (by decide))) ?_
            have q0 : a.eval (.tmp 109) = .int .i64 bv := h.val 11 _ rfl (hp 11 (by decide))
            have c0 : a.eval (.const (.int .i64 0)) = .int .i64 0 := rfl
            refine wp_val_on hK (by clear hfr; generalize a.eval = ρ at *; go_simp)
          · -- 13
            refine JV.step (slots := slS6) rfl (by decide) (by rw [hsz]; decide) (111, .is (.bool false)) rfl rfl rfl ?_
            intro D a wx K hD hp h hK
            have hfr : Fr slS6 a0 a := h.fr
            refine step_wp_g rfl rfl (show a.eval (.tmp 103) = .bool false from h.val 5 _ rfl (hp 5 (by decide))) ?_
            have q0 : a.eval (.tmp 106) = .bool (bv == 0) := h.val 8 _ rfl (hp 8 (by decide))
            have q1 : a.eval (.tmp 110) = .bool (bv == 0) := h.val 12 _ rfl (hp 12 (by decide))
            have z0 : ((bv == 0) != (bv == 0)) = false := by simp
            refine wp_val_on hK (by clear hfr; generalize a.eval = ρ at *; go_simp)
          · -- 14
            refine JV.step (slots := slS6) rfl (by decide) (by rw [hsz]; decide) (112, .is (.bool false)) rfl rfl rfl ?_
            intro D a wx K hD hp h hK
            have hfr : Fr slS6 a0 a := h.fr
            refine step_wp rfl ?_
            have q0 : a.eval (.tmp 103) = .bool false := h.val 5 _ rfl (hp 5 (by decide))
            have q1 : a.eval (.tmp 111) = .bool false := h.val 13 _ rfl (hp 13 (by decide))
            have c0 : a.eval (.const (.bool true)) = .bool true := rfl
            refine wp_val_on hK (by clear hfr; generalize a.eval = ρ at *; go_simp)
          · -- 15
            refine JV.step (slots := slS6) rfl (by decide) (by rw [hsz]; decide) (113, .is (.bool false)) rfl rfl rfl ?_
            intro D a wx K hD hp h hK
            have hfr : Fr slS6 a0 a := h.fr
            refine step_wp rfl ?_
            have q0 : a.eval (.tmp 112) = .bool false := h.val 14 _ rfl (hp 14 (by decide))
            refine wp_move_on hK rfl ?_
            exact q0
          · -- 16
            refine JV.step (slots := slS6) rfl (by decide) (by rw [hsz]; decide) (114, .is (.pointer (some ⟨g, 0, none⟩))) rfl rfl rfl ?_
            intro D a wx K hD hp h hK
            have hfr : Fr slS6 a0 a := h.fr
            refine step_wp_g rfl rfl (show a.eval (.tmp 113) = .bool false from h.val 15 _ rfl (hp 15 (by decide))) ?_
            refine wp_move_on hK rfl ?_
            exact (hfr.eval (j := 0) (by decide)).trans t0
          · -- 17
            refine JV.step (slots := slS6) rfl (by decide) (by rw [hsz]; decide) (115, .is (.int .i64 (k : Int))) rfl rfl rfl ?_
            intro D a wx K hD hp h hK
            have hfr : Fr slS6 a0 a := h.fr
            refine step_wp_g rfl rfl (show a.eval (.tmp 113) = .bool false from h.val 15 _ rfl (hp 15 (by decide))) ?_
            refine wp_move_on hK rfl ?_
            exact (hfr.eval (j := 5) (by decide)).trans t5
          · -- 18
            refine JV.step (slots := slS6) rfl (by decide) (by rw [hsz]; decide) (116, .ints l) rfl rfl rfl ?_
            intro D a wx K hD hp h hK
            have hfr : Fr slS6 a0 a := h.fr
            refine step_wp_g rfl rfl (show a.eval (.tmp 113) = .bool false from h.val 15 _ rfl (hp 15 (by decide))) ?_
            have q0 : a.eval (.tmp 114) = .pointer (some ⟨g, 0, none⟩) := h.val 16 _ rfl (hp 16 (by decide))
            have q1 : a.eval (.tmp 115) = .int .i64 (k : Int) := h.val 17 _ rfl (hp 17 (by decide))
            refine wp_call_on hK Tryz.func24 (by kernel_rfl) (by kernel_rfl) rfl #[.pointer (some ⟨g, 0, none⟩), .int .i64 (k : Int)] (by simp only [List.map_toArray, List.map_cons, List.map_nil, q0, q1]) ?_
            refine (slots_calls (k : Int) (HMk.out wx h.below) HOK.out.1 HOK.out.2).mono ?_
            rintro e w' ⟨A, c, rfl, hi, hb⟩
            rw [HK.out.2.2.1] at hi ⊢
            exact ⟨_, rfl, hb, A, c, rfl, hi⟩
          · -- 19
            refine JV.step (slots := slS6) rfl (by decide) (by rw [hsz]; decide) (117, .is (.pointer (some ⟨w.heap.size, 4, none⟩))) rfl rfl rfl ?_
            intro D a wx K hD hp h hK
            have hfr : Fr slS6 a0 a := h.fr
            refine step_wp_g rfl rfl (show a.eval (.tmp 113) = .bool false from h.val 15 _ rfl (hp 15 (by decide))) ?_
            have r3 := (hfr.eval (j := 3) (by decide)).trans t3
            refine wp_val_on hK (by clear hfr; generalize a.eval = ρ at *; go_simp)
          · -- 20
            refine JV.step (slots := slS6) rfl (by decide) (by rw [hsz]; decide) (118, .is (.slice (some ⟨ob, oo, none⟩) m.slots.length oc)) rfl rfl rfl ?_
            intro D a wx K hD hp h hK
            have hfr : Fr slS6 a0 a := h.fr
            refine step_wp_g rfl rfl (show a.eval (.tmp 113) = .bool false from h.val 15 _ rfl (hp 15 (by decide))) ?_
            have q0 : a.eval (.tmp 117) = .pointer (some ⟨w.heap.size, 4, none⟩) := h.val 19 _ rfl (hp 19 (by decide))
            have z0 : wx.cell? ⟨w.heap.size, 4, none⟩ = some (.slice (some ⟨ob, oo, none⟩) m.slots.length oc) := (HBk.out.below h.below HBk.out.lt).cell 4
            refine wp_val_on hK (by clear hfr; generalize a.eval = ρ at *; go_simp)
          · -- 21
            refine JV.step (slots := slS6) rfl (by decide) (by rw [hsz]; decide) (119, .is (.int .i64 (k : Int))) rfl rfl rfl ?_
            intro D a wx K hD hp h hK
            have hfr : Fr slS6 a0 a := h.fr
            refine step_wp_g rfl rfl (show a.eval (.tmp 113) = .bool false from h.val 15 _ rfl (hp 15 (by decide))) ?_
            refine wp_move_on hK rfl ?_
            exact (hfr.eval (j := 5) (by decide)).trans t5
          · -- 22
            refine JV.step (slots := slS6) rfl (by decide) (by rw [hsz]; decide) (120, .is (.pointer (some ⟨ob, oo + k, none⟩))) rfl rfl rfl ?_
            intro D a wx K hD hp h hK
            have hfr : Fr slS6 a0 a := h.fr
            refine step_wp_g rfl rfl (show a.eval (.tmp 113) = .bool false from h.val 15 _ rfl (hp 15 (by decide))) ?_
            have q0 : a.eval (.tmp 118) = .slice (some ⟨ob, oo, none⟩) m.slots.length oc := h.val 20 _ rfl (hp 20 (by decide))
            have q1 : a.eval (.tmp 119) = .int .i64 (k : Int) := h.val 21 _ rfl (hp 21 (by decide))
            refine wp_val_on hK (by clear hfr; generalize a.eval = ρ at *; go_simp)
          · -- 23
            refine JV.step (slots := slS6) rfl (by decide) (by rw [hsz]; decide) (121, .ints l) rfl rfl rfl ?_
            intro D a wx K hD hp h hK
            have hfr : Fr slS6 a0 a := h.fr
            refine step_wp_g rfl rfl (show a.eval (.tmp 113) = .bool false from h.val 15 _ rfl (hp 15 (by decide))) ?_
            have q0 : a.eval (.tmp 120) = .pointer (some ⟨ob, oo + k, none⟩) := h.val 22 _ rfl (hp 22 (by decide))
            have z0 : wx.cell? ⟨ob, oo + k, none⟩ = some (.slice lA l.length lc) := cmap_below h.below _ _ _ HK.out.2.2.2.1
            refine wp_val_at (.slice lA l.length lc) (by clear hfr; generalize a.eval = ρ at *; go_simp) ?_
            exact hK _ _ (Below.refl _ wx) ⟨_, _, rfl, HK.out.2.2.2.2.mono (cmap_below h.below)⟩
          · -- 24
            refine JV.step (slots := slS6) rfl (by decide) (by rw [hsz]; decide) (122, .is (.bool true)) rfl rfl rfl ?_
            intro D a wx K hD hp h hK
            have hfr : Fr slS6 a0 a := h.fr
            refine step_wp_g rfl rfl (show a.eval (.tmp 113) = .bool false from h.val 15 _ rfl (hp 15 (by decide))) ?_
            obtain ⟨A1, c1, e1, i1⟩ := h.val 18 _ rfl (hp 18 (by decide))
            obtain ⟨A2, c2, e2, i2⟩ := h.val 23 _ rfl (hp 23 (by decide))
            refine wp_call_on hK Tryz.func44 (by kernel_rfl) (by kernel_rfl) rfl _ (by simp only [List.map_toArray, List.map_cons, List.map_nil]; rfl) ?_
            refine (r7words_calls _ _ _ wx i1 i2).mono ?_
            rintro e w' ⟨rfl, q, rfl⟩
            exact ⟨_, rfl, Below_drewN wx q, rfl⟩
          · -- 25
            refine JV.step (slots := slS6) rfl (by decide) (by rw [hsz]; decide) (123, .is (.bool false)) rfl rfl rfl ?_
            intro D a wx K hD hp h hK
            have hfr : Fr slS6 a0 a := h.fr
            refine step_wp_g rfl rfl (show a.eval (.tmp 113) = .bool false from h.val 15 _ rfl (hp 15 (by decide))) ?_
            have q0 : a.eval (.tmp 122) = .bool true := h.val 24 _ rfl (hp 24 (by decide))
            refine wp_val_on hK (by clear hfr; generalize a.eval = ρ at *; go_simp)
          · -- 26
            refine JV.step (slots := slS6) rfl (by decide) (by rw [hsz]; decide) (124, .is (.bool false)) rfl rfl rfl ?_
            intro D a wx K hD hp h hK
            have hfr : Fr slS6 a0 a := h.fr
            refine step_wp rfl ?_
            have q0 : a.eval (.tmp 113) = .bool false := h.val 15 _ rfl (hp 15 (by decide))
            have q1 : a.eval (.tmp 123) = .bool false := h.val 25 _ rfl (hp 25 (by decide))
            have c0 : a.eval (.const (.bool true)) = .bool true := rfl
            refine wp_val_on hK (by clear hfr; generalize a.eval = ρ at *; go_simp)
        case done =>
          intro D a wz hall h
          have hd : ∀ i, i < 27 → D i = true := hall
          have hfin := Fr.all (slots := slS6) h.fr (by rw [hsz]; decide)
          obtain ⟨X18, Y18, v18, -⟩ := h.val 18 _ rfl (hd 18 (by decide))
          have v18 : a.eval (.tmp 116) = _ := v18
          obtain ⟨X23, Y23, v23, -⟩ := h.val 23 _ rfl (hd 23 (by decide))
          have v23 : a.eval (.tmp 121) = _ := v23
          simp only [putAll, slS6] at hfin
          rw [(show a.eval (.tmp 98) = .pointer (some ⟨g, 0, none⟩) from h.val 0 _ rfl (hd 0 (by decide))), (show a.eval (.tmp 99) = .int .i64 (k : Int) from h.val 1 _ rfl (hd 1 (by decide))), (show a.eval (.tmp 100) = .int .i64 (i : Int) from h.val 2 _ rfl (hd 2 (by decide))), (show a.eval (.tmp 101) = .int .i64 (i : Int) from h.val 3 _ rfl (hd 3 (by decide))), (show a.eval (.tmp 102) = .bool false from h.val 4 _ rfl (hd 4 (by decide))), (show a.eval (.tmp 103) = .bool false from h.val 5 _ rfl (hd 5 (by decide))), (show a.eval (.tmp 104) = .pointer (some ⟨g, 0, none⟩) from h.val 6 _ rfl (hd 6 (by decide))), (show a.eval (.tmp 105) = .int .i64 (k : Int) from h.val 7 _ rfl (hd 7 (by decide))), (show a.eval (.tmp 106) = .bool (bv == 0) from h.val 8 _ rfl (hd 8 (by decide))), (show a.eval (.tmp 107) = .agg #[su, lu, gu, .slice (some ⟨ab, ao, none⟩) m.at_.length ac, .slice (some ⟨ob, oo, none⟩) m.slots.length oc, .slice mA m.mem.length mc, .slice hA m.holders.length hc, .slice pA m.prints.length pc] from h.val 9 _ rfl (hd 9 (by decide))), (show a.eval (.tmp 108) = .int .i64 (k : Int) from h.val 10 _ rfl (hd 10 (by decide))), (show a.eval (.tmp 109) = .int .i64 bv from h.val 11 _ rfl (hd 11 (by decide))), (show a.eval (.tmp 110) = .bool (bv == 0) from h.val 12 _ rfl (hd 12 (by decide))), (show a.eval (.tmp 111) = .bool false from h.val 13 _ rfl (hd 13 (by decide))), (show a.eval (.tmp 112) = .bool false from h.val 14 _ rfl (hd 14 (by decide))), (show a.eval (.tmp 113) = .bool false from h.val 15 _ rfl (hd 15 (by decide))), (show a.eval (.tmp 114) = .pointer (some ⟨g, 0, none⟩) from h.val 16 _ rfl (hd 16 (by decide))), (show a.eval (.tmp 115) = .int .i64 (k : Int) from h.val 17 _ rfl (hd 17 (by decide))), v18, (show a.eval (.tmp 117) = .pointer (some ⟨w.heap.size, 4, none⟩) from h.val 19 _ rfl (hd 19 (by decide))), (show a.eval (.tmp 118) = .slice (some ⟨ob, oo, none⟩) m.slots.length oc from h.val 20 _ rfl (hd 20 (by decide))), (show a.eval (.tmp 119) = .int .i64 (k : Int) from h.val 21 _ rfl (hd 21 (by decide))), (show a.eval (.tmp 120) = .pointer (some ⟨ob, oo + k, none⟩) from h.val 22 _ rfl (hd 22 (by decide))), v23, (show a.eval (.tmp 122) = .bool true from h.val 24 _ rfl (hd 24 (by decide))), (show a.eval (.tmp 123) = .bool false from h.val 25 _ rfl (hd 25 (by decide))), (show a.eval (.tmp 124) = .bool false from h.val 26 _ rfl (hd 26 (by decide)))] at hfin
          have HBZ2 := Lib.hid (HBR.out.trans (h.below.mono HBR.out.size))
          rw [hfin, HA0.out]
          clear hfin HA0 h hall hd t0 t3 t5 t6 hsz v18 v23
          simp only [Act.put, List.setIfInBounds_toArray, List.set_cons_zero, List.set_cons_succ]
          go_wp2
          go_roundw
          case rel => exact ⟨k + 1, by go_num, by omega, HBZ2⟩
          case measure => simp [intOf]; omega
      · obtain rfl : k = m.at_.length := by omega
        have nk : ¬ ((m.at_.length : Int) < m.at_.length) := by omega
        have y6 : wr.cell? ⟨w.heap.size, 6, none⟩ = some (.slice hA m.holders.length hc) := (HB.out.below HBR.out HB.out.lt).cell 6
        have HBR1 := HBR
        clear hk hlt HBR
        go_wp2
        obtain ⟨wo, rfl⟩ : ∃ wo : World, wo = wr := ⟨_, rfl⟩
        go_loopw [129, 7, 8] (fun v129 _ _ wr => ∃ k : Nat, v129 = .int .i64 k ∧ k ≤ m.holders.length ∧ Hid (Below w0.heap.size w0 wr)) (fun v129 _ _ _ => m.holders.length - (intOf v129).toNat)
        case atStart => exact ⟨0, rfl, by omega, HBR1⟩
        case round =>
          clear y6 HBR1
          obtain ⟨k, rfl, hk, HBR⟩ := hrel
          have nH : m.holders.length ≤ 16 := HSZ.out.2.2.2.1
          by_cases hlt : k < m.holders.length
          · obtain ⟨x, hx⟩ : ∃ x, m.holders[k]? = some x := ⟨_, List.getElem?_eq_getElem hlt⟩
            have hho : m.holder (k : Int) = x := by unfold Mach.holder; rw [if_pos (by omega), Int.toNat_natCast, hx]; rfl
            have hbw := HBW.out.trans (HBR.out.mono HBW.out.size)
            obtain ⟨hb_, ho_, rfl, hxc⟩ := HRS.out.hold.at_ hx
            rw [Nat.mul_one] at hxc
            have a1 : wr.cell? ⟨hb_, ho_ + k, none⟩ = some (.int .i64 x) := cmap_below hbw _ _ _ hxc
            have HHO := Lib.hid (holder_calls (k : Int) (HM.out wr HBR.out))
            rw [hho] at HHO
            have hne : (x != x) = false := by simp
            have k0 : (0 : Int) ≤ k := by omega
            have k1 : (k : Int) < m.holders.length := by omega
            clear hx hho hbw hxc
            go_wp2_with fail
            refine HHO.out.mono ?_
            rintro e w1 ⟨rfl, hw1⟩
            obtain rfl : wr = w1 := hw1.symm
            go_wp2
            go_roundw
            case rel => exact ⟨k + 1, by go_num, by omega, HBR⟩
            case measure => simp [intOf]; omega
          · obtain rfl : k = m.holders.length := by omega
            have nk : ¬ ((m.holders.length : Int) < m.holders.length) := by omega
            go_wp2
            go_ret
            exact ⟨rfl, HBW.out.trans (HBR.out.mono HBW.out.size)⟩
end Go.Proofs.YtmkpjiahkepigaaGreat
