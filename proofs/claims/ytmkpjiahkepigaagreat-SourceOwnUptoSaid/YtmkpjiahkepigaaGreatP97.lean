import Derived.Test.YtmkpjiahkepigaaGreatP65
import Derived.Test.YtmkpjiahkepigaaGreatP02
import Derived.Test.YtmkpjiahkepigaaGreatP92
import Derived.Test.YtmkpjiahkepigaaGreatP62
import Derived.Test.YtmkpjiahkepigaaGreatP96
/- The reference's operators. -/
namespace Go.Proofs.YtmkpjiahkepigaaGreat
open Go Go.RowKit
theorem ofInt_wrap (b : Int) : BitVec.ofInt 64 (IntKind.u64.wrap b) = BitVec.ofInt 64 b := by
  rw [IntKind.wrap_u64]
  apply BitVec.eq_of_toNat_eq
  rw [BitVec.toNat_ofInt, BitVec.toNat_ofInt]
  omega
theorem sh_eq (b : Int) : IntKind.u64.wrap (bits .and .i64 b 63) = bits .and .u64 (IntKind.u64.wrap b) 63 := by
  have hx : (BitVec.ofInt 64 b &&& BitVec.ofInt 64 63).toNat ≤ 63 := by
    rw [BitVec.toNat_and]
    exact Nat.and_le_right
  show IntKind.u64.wrap (IntKind.i64.wrap ((BitVec.ofInt 64 b &&& BitVec.ofInt 64 63).toNat : Int)) = IntKind.u64.wrap ((BitVec.ofInt 64 (IntKind.u64.wrap b) &&& BitVec.ofInt 64 63).toNat : Int)
  rw [ofInt_wrap]
  generalize (BitVec.ofInt 64 b &&& BitVec.ofInt 64 63).toNat = x at hx
  rw [IntKind.wrap_i64, IntKind.wrap_u64, IntKind.wrap_u64]
  omega
theorem r_truth (b : Bool) (w : World) : Calls Tryz.prog 90 #[.bool b] w fun e w' => e = .returned (.tuple #[.int .i64 (b2w b), .int .i64 0]) ∧ w' = w := by
  cases b
  all_goals (
    go_enter Tryz.func90, Tryz.ntmps90
    go_wp2
    go_ret2
    exact ⟨rfl, rfl⟩)
theorem r_div (a b : Int) (ha : i64 a) (hb : i64 b) (w : World) : Calls Tryz.prog 89 #[.int .i64 a, .int .i64 b] w fun e w' => e = .returned (.int .i64 (divF a b)) ∧ w' = w := by
  obtain ⟨ha0, ha1⟩ := ha
  obtain ⟨hb0, hb1⟩ := hb
  by_cases h0 : b = 0
  · subst h0
    go_enter Tryz.func89, Tryz.ntmps89
    go_wp2
    go_ret
    exact ⟨rfl, rfl⟩
  · by_cases h1 : b = -1
    · subst h1
      go_enter Tryz.func89, Tryz.ntmps89
      go_wp2
      go_ret
      refine ⟨ret_i ?_, rfl⟩
      simp [divF]
    · have e0 : (b == 0) = false := by simp [h0]
      have e1 : (b == -1) = false := by simp [h1]
      go_enter Tryz.func89, Tryz.ntmps89
      go_wp2
      go_ret
      refine ⟨ret_i ?_, rfl⟩
      simp [divF, h0, h1]
theorem ret_t {a b : Int} (h : a = b) : Ending.returned (.tuple #[.int .i64 a, .int .i64 0]) = .returned (.tuple #[.int .i64 b, .int .i64 0]) := by rw [h]
theorem r_do1 (a b : Int) (ha : i64 a) (hb : i64 b) (w : World) : Calls Tryz.prog 63 #[.int .u8 1, .int .i64 a, .int .i64 b] w fun e w' => e = .returned (.tuple #[.int .i64 (doF 1 a b), .int .i64 0]) ∧ w' = w := by
  obtain ⟨ha0, ha1⟩ := ha
  obtain ⟨hb0, hb1⟩ := hb
  go_enter Tryz.func63, Tryz.ntmps63
  go_wp2
  go_ret2
  refine ⟨ret_t ?_, rfl⟩
  simp [doF]
theorem r_do2 (a b : Int) (ha : i64 a) (hb : i64 b) (w : World) : Calls Tryz.prog 63 #[.int .u8 2, .int .i64 a, .int .i64 b] w fun e w' => e = .returned (.tuple #[.int .i64 (doF 2 a b), .int .i64 0]) ∧ w' = w := by
  obtain ⟨ha0, ha1⟩ := ha
  obtain ⟨hb0, hb1⟩ := hb
  go_enter Tryz.func63, Tryz.ntmps63
  go_wp2
  go_ret2
  refine ⟨ret_t ?_, rfl⟩
  simp [doF]
theorem r_do3 (a b : Int) (ha : i64 a) (hb : i64 b) (w : World) : Calls Tryz.prog 63 #[.int .u8 3, .int .i64 a, .int .i64 b] w fun e w' => e = .returned (.tuple #[.int .i64 (doF 3 a b), .int .i64 0]) ∧ w' = w := by
  obtain ⟨ha0, ha1⟩ := ha
  obtain ⟨hb0, hb1⟩ := hb
  go_enter Tryz.func63, Tryz.ntmps63
  go_wp2
  go_ret2
  refine ⟨ret_t ?_, rfl⟩
  simp [doF]
theorem r_do4 (a b : Int) (ha : i64 a) (hb : i64 b) (w : World) : Calls Tryz.prog 63 #[.int .u8 4, .int .i64 a, .int .i64 b] w fun e w' => e = .returned (.tuple #[.int .i64 (doF 4 a b), .int .i64 0]) ∧ w' = w := by
  have HQ := Lib.hid (r_div a b ha hb)
  clear ha hb
  go_enter Tryz.func63, Tryz.ntmps63
  go_wp2_with (first | (go_at_call 89; refine (HQ.out _).mono ?_; rintro e w3 ⟨rfl, rfl⟩))
  go_ret2
  refine ⟨ret_t ?_, rfl⟩
  simp [doF]
theorem r_do5 (a b : Int) (ha : i64 a) (hb : i64 b) (w : World) : Calls Tryz.prog 63 #[.int .u8 5, .int .i64 a, .int .i64 b] w fun e w' => e = .returned (.tuple #[.int .i64 (doF 5 a b), .int .i64 0]) ∧ w' = w := by
  have HQ := Lib.hid (r_div a b ha hb)
  clear ha hb
  by_cases h0 : b = 0
  · subst h0
    go_enter Tryz.func63, Tryz.ntmps63
    go_wp2
    go_ret2
    exact ⟨rfl, rfl⟩
  · have e0 : (b == 0) = false := by simp [h0]
    go_enter Tryz.func63, Tryz.ntmps63
    go_wp2_with (first | (go_at_call 89; refine (HQ.out _).mono ?_; rintro e w3 ⟨rfl, rfl⟩))
    go_ret2
    refine ⟨ret_t ?_, rfl⟩
    simp [doF, h0]
theorem r_do6 (a b : Int) (ha : i64 a) (hb : i64 b) (w : World) : Calls Tryz.prog 63 #[.int .u8 6, .int .i64 a, .int .i64 b] w fun e w' => e = .returned (.tuple #[.int .i64 (doF 6 a b), .int .i64 0]) ∧ w' = w := by
  obtain ⟨ha0, ha1⟩ := ha
  obtain ⟨hb0, hb1⟩ := hb
  go_enter Tryz.func63, Tryz.ntmps63
  go_wp2
  go_ret2
  refine ⟨ret_t ?_, rfl⟩
  simp [doF]
theorem r_do7 (a b : Int) (ha : i64 a) (hb : i64 b) (w : World) : Calls Tryz.prog 63 #[.int .u8 7, .int .i64 a, .int .i64 b] w fun e w' => e = .returned (.tuple #[.int .i64 (doF 7 a b), .int .i64 0]) ∧ w' = w := by
  obtain ⟨ha0, ha1⟩ := ha
  obtain ⟨hb0, hb1⟩ := hb
  go_enter Tryz.func63, Tryz.ntmps63
  go_wp2
  go_ret2
  refine ⟨ret_t ?_, rfl⟩
  simp [doF]
theorem r_do8 (a b : Int) (ha : i64 a) (hb : i64 b) (w : World) : Calls Tryz.prog 63 #[.int .u8 8, .int .i64 a, .int .i64 b] w fun e w' => e = .returned (.tuple #[.int .i64 (doF 8 a b), .int .i64 0]) ∧ w' = w := by
  obtain ⟨ha0, ha1⟩ := ha
  obtain ⟨hb0, hb1⟩ := hb
  go_enter Tryz.func63, Tryz.ntmps63
  go_wp2
  go_ret2
  refine ⟨ret_t ?_, rfl⟩
  simp [doF]
theorem r_do9 (a b : Int) (_ha : i64 a) (_hb : i64 b) (w : World) : Calls Tryz.prog 63 #[.int .u8 9, .int .i64 a, .int .i64 b] w fun e w' => e = .returned (.tuple #[.int .i64 (doF 9 a b), .int .i64 0]) ∧ w' = w := by
  have hsh : ∀ w, (Op.shift .shl .i64 a .u64 (IntKind.u64.wrap (bits .and .i64 b 63))).run Tryz.prog w = .ok (.int .i64 (doF 9 a b)) w := fun w => by rw [sh_eq]; exact run_shl a b w
  clear _ha _hb
  go_enter Tryz.func63, Tryz.ntmps63
  go_wp2
  go_ret2
  refine ⟨ret_t ?_, rfl⟩
  rw [sh_eq]
  simp only [doF, shN]
  simp [IntWalk.i64_left]
theorem r_do10 (a b : Int) (_ha : i64 a) (_hb : i64 b) (w : World) : Calls Tryz.prog 63 #[.int .u8 10, .int .i64 a, .int .i64 b] w fun e w' => e = .returned (.tuple #[.int .i64 (doF 10 a b), .int .i64 0]) ∧ w' = w := by
  have hsh : ∀ w, (Op.shift .shr .i64 a .u64 (IntKind.u64.wrap (bits .and .i64 b 63))).run Tryz.prog w = .ok (.int .i64 (doF 10 a b)) w := fun w => by rw [sh_eq]; exact run_shr a b w
  clear _ha _hb
  go_enter Tryz.func63, Tryz.ntmps63
  go_wp2
  go_ret2
  refine ⟨ret_t ?_, rfl⟩
  rw [sh_eq]
  simp only [doF, shN]
  simp; exact (Int.fdiv_eq_ediv_of_nonneg _ (Int.le_of_lt (Int.pow_pos (by decide)))).symm
theorem r_do11 (a b : Int) (_ha : i64 a) (_hb : i64 b) (w : World) : Calls Tryz.prog 63 #[.int .u8 11, .int .i64 a, .int .i64 b] w fun e w' => e = .returned (.tuple #[.int .i64 (doF 11 a b), .int .i64 0]) ∧ w' = w := by
  clear _ha _hb
  go_enter Tryz.func63, Tryz.ntmps63
  go_wp2_with (first | (go_at_call 90; refine (r_truth _ _).mono ?_; rintro e w3 ⟨rfl, rfl⟩))
  go_ret2
  refine ⟨ret_t ?_, rfl⟩
  simp [doF]
theorem r_do12 (a b : Int) (_ha : i64 a) (_hb : i64 b) (w : World) : Calls Tryz.prog 63 #[.int .u8 12, .int .i64 a, .int .i64 b] w fun e w' => e = .returned (.tuple #[.int .i64 (doF 12 a b), .int .i64 0]) ∧ w' = w := by
  clear _ha _hb
  go_enter Tryz.func63, Tryz.ntmps63
  go_wp2_with (first | (go_at_call 90; refine (r_truth _ _).mono ?_; rintro e w3 ⟨rfl, rfl⟩))
  go_ret2
  refine ⟨ret_t ?_, rfl⟩
  simp [doF]
theorem r_do13 (a b : Int) (_ha : i64 a) (_hb : i64 b) (w : World) : Calls Tryz.prog 63 #[.int .u8 13, .int .i64 a, .int .i64 b] w fun e w' => e = .returned (.tuple #[.int .i64 (doF 13 a b), .int .i64 0]) ∧ w' = w := by
  clear _ha _hb
  go_enter Tryz.func63, Tryz.ntmps63
  go_wp2_with (first | (go_at_call 90; refine (r_truth _ _).mono ?_; rintro e w3 ⟨rfl, rfl⟩))
  go_ret2
  refine ⟨ret_t ?_, rfl⟩
  simp [doF]
theorem r_do14 (a b : Int) (_ha : i64 a) (_hb : i64 b) (w : World) : Calls Tryz.prog 63 #[.int .u8 14, .int .i64 a, .int .i64 b] w fun e w' => e = .returned (.tuple #[.int .i64 (doF 14 a b), .int .i64 0]) ∧ w' = w := by
  clear _ha _hb
  go_enter Tryz.func63, Tryz.ntmps63
  go_wp2_with (first | (go_at_call 90; refine (r_truth _ _).mono ?_; rintro e w3 ⟨rfl, rfl⟩))
  go_ret2
  refine ⟨ret_t ?_, rfl⟩
  simp [doF]
theorem r_do15 (a b : Int) (_ha : i64 a) (_hb : i64 b) (w : World) : Calls Tryz.prog 63 #[.int .u8 15, .int .i64 a, .int .i64 b] w fun e w' => e = .returned (.tuple #[.int .i64 (doF 15 a b), .int .i64 0]) ∧ w' = w := by
  clear _ha _hb
  go_enter Tryz.func63, Tryz.ntmps63
  go_wp2_with (first | (go_at_call 90; refine (r_truth _ _).mono ?_; rintro e w3 ⟨rfl, rfl⟩))
  go_ret2
  refine ⟨ret_t ?_, rfl⟩
  simp [doF]
theorem r_do16 (a b : Int) (_ha : i64 a) (_hb : i64 b) (w : World) : Calls Tryz.prog 63 #[.int .u8 16, .int .i64 a, .int .i64 b] w fun e w' => e = .returned (.tuple #[.int .i64 (doF 16 a b), .int .i64 0]) ∧ w' = w := by
  clear _ha _hb
  go_enter Tryz.func63, Tryz.ntmps63
  go_wp2_with (first | (go_at_call 90; refine (r_truth _ _).mono ?_; rintro e w3 ⟨rfl, rfl⟩))
  go_ret2
  refine ⟨ret_t ?_, rfl⟩
  simp [doF]
theorem r_do (k a b : Int) (hk : twoB k = true) (ha : i64 a) (hb : i64 b) (w : World) : Calls Tryz.prog 63 #[.int .u8 k, .int .i64 a, .int .i64 b] w fun e w' => e = .returned (.tuple #[.int .i64 (doF k a b), .int .i64 0]) ∧ w' = w := by
  have hk2 : k = 1 ∨ k = 2 ∨ k = 3 ∨ k = 4 ∨ k = 5 ∨ k = 6 ∨ k = 7 ∨ k = 8 ∨ k = 9 ∨ k = 10 ∨ k = 11 ∨ k = 12 ∨ k = 13 ∨ k = 14 ∨ k = 15 ∨ k = 16 := by
    unfold twoB at hk
    simp at hk
    omega
  rcases hk2 with rfl | rfl | rfl | rfl | rfl | rfl | rfl | rfl | rfl | rfl | rfl | rfl | rfl | rfl | rfl | rfl
  · exact r_do1 a b ha hb w
  · exact r_do2 a b ha hb w
  · exact r_do3 a b ha hb w
  · exact r_do4 a b ha hb w
  · exact r_do5 a b ha hb w
  · exact r_do6 a b ha hb w
  · exact r_do7 a b ha hb w
  · exact r_do8 a b ha hb w
  · exact r_do9 a b ha hb w
  · exact r_do10 a b ha hb w
  · exact r_do11 a b ha hb w
  · exact r_do12 a b ha hb w
  · exact r_do13 a b ha hb w
  · exact r_do14 a b ha hb w
  · exact r_do15 a b ha hb w
  · exact r_do16 a b ha hb w
theorem r_one (k a : Int) (hk : k = 17 ∨ k = 18) (w : World) : Calls Tryz.prog 64 #[.int .u8 k, .int .i64 a] w fun e w' => e = .returned (.tuple #[.int .i64 (oneF k a), .int .i64 0]) ∧ w' = w := by
  rcases hk with rfl | rfl
  · go_enter Tryz.func64, Tryz.ntmps64
    go_wp2
    go_ret2
    refine ⟨ret_t ?_, rfl⟩
    simp [oneF]
  · go_enter Tryz.func64, Tryz.ntmps64
    go_wp2_with (first | (go_at_call 90; refine (r_truth _ _).mono ?_; rintro e w3 ⟨rfl, rfl⟩))
    go_ret2
    refine ⟨ret_t ?_, rfl⟩
    simp [oneF]
end Go.Proofs.YtmkpjiahkepigaaGreat
/- What a NodeSet's slot gets, by the reference. -/
namespace Go.Proofs.YtmkpjiahkepigaaGreat
open Go Go.RowKit
attribute [local go_sem] readAtW readUpon
set_option maxRecDepth 100000 in
set_option maxHeartbeats 2000000 in
theorem r7result_calls (su lu gu va vo vm vh vp : Value) (u : Unit_) (m : Mach) (t : Nat) (n : Node) (l : List Int) (w : World) (h : RefS (cmap w) su lu gu va vo vm vh vp u m) (hl : m.slots[t]? = some l) (hmi : MachI m) (hno : Node.ok n)
    (ha : n.a.isSlot = true → 0 ≤ n.a.slot ∧ n.a.slot < l.length) (hop : 0 ≤ n.op ∧ n.op < 19) (hb : twoB n.op = true → n.b.isSlot = true → 0 ≤ n.b.slot ∧ n.b.slot < l.length) :
    Calls Tryz.prog 37 #[.agg #[su, lu, gu, va, vo, vm, vh, vp], .int .i64 (t : Int), .agg n.cells.toArray] w fun e w' => e = .returned (.int .i64 (setV m t n)) ∧ Below w.heap.size w w' := by
  obtain ⟨sv, lv, gv, e, ⟨sA, sc, hs, -⟩, ⟨lA, lc, hlk, -⟩, ⟨gA, gc, hg, -⟩⟩ := id h.unit
  injection e with e1 e
  injection e with e2 e
  injection e with e3 _
  subst e1 e2 e3 hs hlk hg
  obtain ⟨aA, ac, rfl, -⟩ := id h.at_
  obtain ⟨oA, oc, rfl, -⟩ := id h.slots
  obtain ⟨mA, mc, rfl, -⟩ := id h.mem
  obtain ⟨hA, hc, rfl, -⟩ := id h.hold
  obtain ⟨pA, pc, rfl, -⟩ := id h.prints
  obtain ⟨nk, nop, nsl, nth, ⟨a1, a2, a3⟩, ⟨b1, b2, b3⟩, nn, ne_, no⟩ := n
  rw [List.length_map] at *
  have hval : ∀ (v : Val) (w1 : World), Below w.heap.size w w1 → (v.isSlot = true → 0 ≤ v.slot ∧ v.slot < l.length) → Calls Tryz.prog 38 #[.agg #[.slice sA u.shared.length sc, .slice lA u.locks.length lc, .slice gA u.graphs.length gc, .slice aA m.at_.length ac, .slice oA m.slots.length oc, .slice mA m.mem.length mc, .slice hA m.holders.length hc, .slice pA m.prints.length pc], .int .i64 (t : Int), .agg #[.bool v.isSlot, .int .i64 v.slot, .int .i64 v.word]] w1 fun e w' => e = .returned (.int .i64 (m.val t v)) ∧ Below w1.heap.size w1 w' :=
    fun v w1 hb hv => r7value_calls _ u m t v l w1 ⟨_, _, _, _, _, _, _, _, rfl, h.mono (cmap_below hb)⟩ hl hv
  have hbw : Below w.heap.size w ((w.alloc (.cells #[.slice sA u.shared.length sc, .slice lA u.locks.length lc, .slice gA u.graphs.length gc, .slice aA m.at_.length ac, .slice oA m.slots.length oc, .slice mA m.mem.length mc, .slice hA m.holders.length hc, .slice pA m.prints.length pc] 35)).alloc (.cells #[.int .u8 nk, .int .u8 nop, .int .i64 nsl, .int .i64 nth, .bool a1, .int .i64 a2, .int .i64 a3, .bool b1, .int .i64 b2, .int .i64 b3, .int .i64 nn, .int .i64 ne_, .int .i64 no] 53)) := (Below_alloc' w _).alloc (by simp) _
  have hk0 : Blk ((w.alloc (.cells #[.slice sA u.shared.length sc, .slice lA u.locks.length lc, .slice gA u.graphs.length gc, .slice aA m.at_.length ac, .slice oA m.slots.length oc, .slice mA m.mem.length mc, .slice hA m.holders.length hc, .slice pA m.prints.length pc] 35)).alloc (.cells #[.int .u8 nk, .int .u8 nop, .int .i64 nsl, .int .i64 nth, .bool a1, .int .i64 a2, .int .i64 a3, .bool b1, .int .i64 b2, .int .i64 b3, .int .i64 nn, .int .i64 ne_, .int .i64 no] 53)) w.heap.size 35 [.slice sA u.shared.length sc, .slice lA u.locks.length lc, .slice gA u.graphs.length gc, .slice aA m.at_.length ac, .slice oA m.slots.length oc, .slice mA m.mem.length mc, .slice hA m.holders.length hc, .slice pA m.prints.length pc] := (Blk.new w _ _).alloc _
  have hk1 : Blk ((w.alloc (.cells #[.slice sA u.shared.length sc, .slice lA u.locks.length lc, .slice gA u.graphs.length gc, .slice aA m.at_.length ac, .slice oA m.slots.length oc, .slice mA m.mem.length mc, .slice hA m.holders.length hc, .slice pA m.prints.length pc] 35)).alloc (.cells #[.int .u8 nk, .int .u8 nop, .int .i64 nsl, .int .i64 nth, .bool a1, .int .i64 a2, .int .i64 a3, .bool b1, .int .i64 b2, .int .i64 b3, .int .i64 nn, .int .i64 ne_, .int .i64 no] 53)) (w.heap.size + 1) 53 [.int .u8 nk, .int .u8 nop, .int .i64 nsl, .int .i64 nth, .bool a1, .int .i64 a2, .int .i64 a3, .bool b1, .int .i64 b2, .int .i64 b3, .int .i64 nn, .int .i64 ne_, .int .i64 no] := Blk.of (heap_new (w.alloc _) _ _ (by simp)) rfl
  have HB := Lib.hid (And.intro hbw (And.intro hk0 hk1))
  obtain ⟨x, hx⟩ : ∃ x, m.val t ⟨a1, a2, a3⟩ = x := ⟨_, rfl⟩
  have hxi : i64 x := by rw [← hx]; exact hmi.val t hno.a
  have hva := hval ⟨a1, a2, a3⟩ _ hbw ha
  rw [hx] at hva
  have HVA := Lib.hid hva
  have HVB := Lib.hid (fun (w1 : World) (hb1 : Below w.heap.size w w1) (hv : b1 = true → 0 ≤ b2 ∧ b2 < l.length) => hval ⟨b1, b2, b3⟩ w1 hb1 hv)
  have HBB := Lib.hid hb
  have hzi : i64 (m.val t ⟨b1, b2, b3⟩) := hmi.val t hno.b
  obtain ⟨z, hz⟩ : ∃ z, m.val t ⟨b1, b2, b3⟩ = z := ⟨_, rfl⟩
  rw [hz] at hzi HVB
  have hv : setV m t ⟨nk, nop, nsl, nth, ⟨a1, a2, a3⟩, ⟨b1, b2, b3⟩, nn, ne_, no⟩ = if twoB nop then doF nop x z else if nop = 0 then x else oneF nop x := by unfold setV; simp only; rw [hx, hz]
  rw [hv]
  have HXI := Lib.hid (And.intro hxi hzi)
  clear hva hval hbw hk0 hk1 h hl hmi hno ha hb hx hz hv hxi hzi
  simp only at hop
  unfold Node.cells
  by_cases h0 : nop = 0
  · subst h0
    have e0 : twoB 0 = false := by decide
    rw [e0]
    simp only [Bool.false_eq_true, if_false, if_true]
    clear hop e0
    go_enter Tryz.func37, Tryz.ntmps37
    go_wp2_with fail
    refine HVA.out.mono ?_
    rintro e w1 ⟨rfl, hb1⟩
    have q1 : w1.cell? ⟨w.heap.size + 1, 1, none⟩ = some (.int .u8 0) := (HB.out.2.2.below hb1 HB.out.2.2.lt).cell 1
    have HF := Lib.hid (HB.out.1.trans (hb1.mono HB.out.1.size))
    clear hb1
    go_wp2
    go_ret
    exact ⟨rfl, HF.out⟩
  · have e0 : (nop == 0) = false := by simp [h0]
    by_cases h2 : twoB nop = true
    · rw [if_pos h2]
      go_enter Tryz.func37, Tryz.ntmps37
      go_wp2_with fail
      refine HVA.out.mono ?_
      rintro e w1 ⟨rfl, hb1⟩
      have hk0 := HB.out.2.1.below hb1 HB.out.2.1.lt
      have hk1 := HB.out.2.2.below hb1 HB.out.2.2.lt
      have q1 : w1.cell? ⟨w.heap.size + 1, 1, none⟩ = some (.int .u8 nop) := hk1.cell 1
      have HF := Lib.hid (And.intro (HB.out.1.trans (hb1.mono HB.out.1.size)) (And.intro hk0 hk1))
      clear hb1 hk0 hk1
      go_wp2_with (first | (go_at_call 62; refine (two2_calls _ _).mono ?_; rintro e w2 ⟨rfl, rfl⟩; rw [h2]))
      haveI hne : Nonempty (XC (cCall w1 [(7, .int .i64 z), (8, .tuple #[.int .i64 (doF nop x z), .int .i64 0])])) := XC.ne cCall_start
      have f1 : ∀ y : XC (cCall w1 [(7, .int .i64 z), (8, .tuple #[.int .i64 (doF nop x z), .int .i64 0])]), y.w.cell? ⟨w.heap.size + 1, 1, none⟩ = some (.int .u8 nop) := fun y => ((cCall_below y).cell (p := ⟨w.heap.size + 1, 1, none⟩) HF.out.2.2.lt).trans q1
      have HM : Hid (∀ y : XC (cCall w1 [(7, .int .i64 z), (8, .tuple #[.int .i64 (doF nop x z), .int .i64 0])]), ∀ j v, ([.slice sA u.shared.length sc, .slice lA u.locks.length lc, .slice gA u.graphs.length gc, .slice aA m.at_.length ac, .slice oA m.slots.length oc, .slice mA m.mem.length mc, .slice hA m.holders.length hc, .slice pA m.prints.length pc] : List Value)[j]? = some v → y.w.cell? ⟨w.heap.size, 0 + j, none⟩ = some v) := Lib.hid fun y j v hj => ((cCall_below y).cell (p := ⟨w.heap.size, 0 + j, none⟩) HF.out.2.1.lt).trans (by rw [Nat.zero_add, HF.out.2.1.cell]; exact hj)
      have HN : Hid (∀ y : XC (cCall w1 [(7, .int .i64 z), (8, .tuple #[.int .i64 (doF nop x z), .int .i64 0])]), ∀ j v, ([.bool b1, .int .i64 b2, .int .i64 b3] : List Value)[j]? = some v → y.w.cell? ⟨w.heap.size + 1, 7 + j, none⟩ = some v) := Lib.hid fun y j v hj => ((cCall_below y).cell (p := ⟨w.heap.size + 1, 7 + j, none⟩) HF.out.2.2.lt).trans (by
        rw [HF.out.2.2.cell]
        match j, hj with
        | 0, hj => exact hj
        | 1, hj => exact hj
        | 2, hj => exact hj)
      refine wp_region_mix (cCall w1 [(7, .int .i64 z), (8, .tuple #[.int .i64 (doF nop x z), .int .i64 0])]) [7, 8] [0, 1, 2, 3, 4, 5, 6, 7, 8, 9, 10, 11, 12, 13] (by kernel_rfl) (by kernel_rfl) (by kernel_rfl) cCall_start (cCall_hq rfl) (cCall_hA (by kernel_rfl)) (dst_small (by rfl)) ?_
      iterate 3 (refine wpMix_read rfl rfl (fun K hK => ?_); go_simp; refine hK _ ?_; clear hK K)
      refine wpMix_load (some 28) rfl rfl rfl rfl 35 _ rfl w.heap.size 0 rfl [.slice sA u.shared.length sc, .slice lA u.locks.length lc, .slice gA u.graphs.length gc, .slice aA m.at_.length ac, .slice oA m.slots.length oc, .slice mA m.mem.length mc, .slice hA m.holders.length hc, .slice pA m.prints.length pc] _ HM.out Tryz.underlying35 rfl (by kernel_rfl) ?_
      iterate 2 (refine wpMix_read rfl rfl (fun K hK => ?_); go_simp; refine hK _ ?_; clear hK K)
      refine wpMix_load (some 31) rfl rfl rfl rfl 51 _ rfl (w.heap.size + 1) 7 rfl [.bool b1, .int .i64 b2, .int .i64 b3] _ HN.out Tryz.underlying51 rfl (by kernel_rfl) ?_
      refine wpMix_act (some 32) rfl rfl rfl rfl (fun D A y hD hp hpre hC => cCall_call Tryz.func38 (by kernel_rfl) (by kernel_rfl) rfl #[.agg #[.slice sA u.shared.length sc, .slice lA u.locks.length lc, .slice gA u.graphs.length gc, .slice aA m.at_.length ac, .slice oA m.slots.length oc, .slice mA m.mem.length mc, .slice hA m.holders.length hc, .slice pA m.prints.length pc], .int .i64 (t : Int), .agg #[.bool b1, .int .i64 b2, .int .i64 b3]] (by simp only [List.map_toArray, List.map_cons, List.map_nil]; rfl) (v := .int .i64 z) hC (fun p hp he => by simp at hp; rcases hp with rfl | rfl <;> first | rfl | (simp at he; done)) (fun hb => HVB.out y (HF.out.1.trans (hb.mono HF.out.1.size)) (HBB.out h2))) (fun D A y hD hpre hC => ?_)
      rw [show A 7 = .int .i64 z from hC.2 (7, _) (by simp) hD]
      clear hpre hC hD y A D
      refine wpMix_act (some 33) rfl rfl rfl rfl (fun D A y hD hp hpre hC => cCall_call Tryz.func63 (by kernel_rfl) (by kernel_rfl) rfl #[.int .u8 nop, .int .i64 x, .int .i64 z] (by simp only [List.map_toArray, List.map_cons, List.map_nil]; rfl) (v := .tuple #[.int .i64 (doF nop x z), .int .i64 0]) hC (fun p hp he => by simp at hp; rcases hp with rfl | rfl <;> first | rfl | (simp at he; done)) (fun _ => (r_do nop x z h2 HXI.out.1 HXI.out.2 _).mono fun e w' ⟨h1, h2⟩ => ⟨h1, by rw [h2]; exact Below.refl _ _⟩)) (fun D A y hD hpre hC => ?_)
      rw [show A 8 = .tuple #[.int .i64 (doF nop x z), .int .i64 0] from hC.2 (8, _) (by simp) hD]
      clear hpre hC hD y A D
      iterate 5 (refine wpMix_read rfl rfl (fun K hK => ?_); go_simp; refine hK _ ?_; clear hK K)
      refine wpMix_nil (fun D A y hD hAA hC => ?_)
      have HZ := Lib.hid hC.1
      clear hAA hC hD D A f1 HM HN hne
      go_wp2
      go_ret
      exact ⟨rfl, HF.out.1.trans (HZ.out.mono HF.out.1.size)⟩
    · have hk : nop = 17 ∨ nop = 18 := by unfold twoB at h2; simp at h2; omega
      have h2' : twoB nop = false := by simpa using h2
      rw [if_neg h2, if_neg h0]
      go_enter Tryz.func37, Tryz.ntmps37
      go_wp2_with fail
      refine HVA.out.mono ?_
      rintro e w1 ⟨rfl, hb1⟩
      have q1 : w1.cell? ⟨w.heap.size + 1, 1, none⟩ = some (.int .u8 nop) := (HB.out.2.2.below hb1 HB.out.2.2.lt).cell 1
      have HF := Lib.hid (HB.out.1.trans (hb1.mono HB.out.1.size))
      clear hb1
      go_wp2_with (first
        | (go_at_call 62; refine (two2_calls _ _).mono ?_; rintro e w2 ⟨rfl, rfl⟩; rw [h2'])
        | (go_at_call 64; refine (r_one _ _ hk _).mono ?_; rintro e w2 ⟨rfl, rfl⟩))
      go_ret
      exact ⟨rfl, HF.out⟩
end Go.Proofs.YtmkpjiahkepigaaGreat
/- What holds while the reference steps: the copy that it writes, the node, what is told. -/
namespace Go.Proofs.YtmkpjiahkepigaaGreat
open Go Go.RowKit
def nil8 : List Value := [.slice none 0 0, .slice none 0 0, .slice none 0 0, .slice none 0 0, .slice none 0 0, .slice none 0 0, .slice none 0 0, .slice none 0 0]
def did0 : Did := ⟨0, 0, 0, 0, 0, 0⟩
theorem RefO.lower {w : World} {base b' : Nat} {va vo vm vh vp : Value} {vs : List Value} {m : Mach} (h : RefO w base va vo vm vh vp vs m) (hb : b' ≤ base) : RefO w b' va vo vm vh vp vs m :=
  ⟨own_base h.at_ hb, own_base h.mem hb, own_base h.hold hb, own_base h.prints hb, own_base h.outer hb, fun t v l h1 h2 => own_base (h.slot t v l h1 h2) hb, h.apart, h.memsl, h.athold⟩
structure StI (w wx : World) (c0 c1 c2 va vo vm vh vp : Value) (vs : List Value) (nb ab : Nat) (n : Node) (d : Did) (m : Mach) : Prop where
  bel : Below w.heap.size w wx
  b0 : Blk wx w.heap.size 35 [c0, c1, c2, va, vo, vm, vh, vp]
  b1 : Blk wx (w.heap.size + 1) 35 nil8
  b2 : Blk wx (w.heap.size + 2) 41 did0.cells
  nd : Blk wx nb 53 n.cells
  ac : Blk wx ab 41 d.cells
  ro : RefO wx (w.heap.size + 3) va vo vm vh vp vs m
  nb3 : w.heap.size + 3 ≤ nb
  ab3 : w.heap.size + 3 ≤ ab
section
variable {w wx wy : World} {c0 c1 c2 va vo vm vh vp : Value} {vs : List Value} {nb ab : Nat} {n : Node} {d : Did} {m : Mach} {u : Unit_}
theorem StI.below (h : StI w wx c0 c1 c2 va vo vm vh vp vs nb ab n d m) (hb : Below wx.heap.size wx wy) : StI w wy c0 c1 c2 va vo vm vh vp vs nb ab n d m :=
  ⟨h.bel.trans (hb.mono h.bel.size), h.b0.below hb h.b0.lt, h.b1.below hb h.b1.lt, h.b2.below hb h.b2.lt, h.nd.below hb h.nd.lt, h.ac.below hb h.ac.lt, h.ro.below hb, h.nb3, h.ab3⟩
/-- What is told is written. -/
theorem StI.tell (h : StI w wx c0 c1 c2 va vo vm vh vp vs nb ab n d m) {j : Nat} {v : Value} {d' : Did} (hd : d.cells.set j v = d'.cells) : StI w (wx.setCell ⟨ab, j, none⟩ v) c0 c1 c2 va vo vm vh vp vs nb ab n d' m :=
  ⟨h.bel.setCell (by have := h.ab3; show _ ≤ ab; omega) v, h.b0.far (fun e => row_types h.b0 h.ac (by decide) e) v, h.b1.far (fun e => row_types h.b1 h.ac (by decide) e) v, h.b2.far (fun e => by have := h.ab3; have e : w.heap.size + 2 = ab := e; omega) v, h.nd.far (fun e => row_types h.nd h.ac (by decide) e) v, by rw [← hd]; exact h.ac.set_ j v, h.ro.far h.ac (by decide) j v, h.nb3, h.ab3⟩
/-- A cell of a row of ints is written. -/
theorem StI.cell (h : StI w wx c0 c1 c2 va vo vm vh vp vs nb ab n d m) {k j : Nat} {v : Value} {m' : Mach} (hk : w.heap.size + 3 ≤ k) {T : TypeId} {cur : Array Value} (hT : T ≠ 53 ∧ T ≠ 41) (hc : wx.heap[k]? = some (.cells cur T (0, 0))) (hr : RefO (wx.setCell ⟨k, j, none⟩ v) (w.heap.size + 3) va vo vm vh vp vs m') : StI w (wx.setCell ⟨k, j, none⟩ v) c0 c1 c2 va vo vm vh vp vs nb ab n d m' :=
  ⟨h.bel.setCell (by show _ ≤ k; omega) v, h.b0.far (fun e => by have e : w.heap.size = k := e; omega) v, h.b1.far (fun e => by have e : w.heap.size + 1 = k := e; omega) v, h.b2.far (fun e => by have e : w.heap.size + 2 = k := e; omega) v, h.nd.far (fun e => row_types h.nd hc hT.1.symm e) v, h.ac.far (fun e => row_types h.ac hc hT.2.symm e) v, hr, h.nb3, h.ab3⟩
theorem StI.setSlot (h : StI w wx c0 c1 c2 va vo vm vh vp vs nb ab n d m) {t k j q c : Nat} {l : List Int} (hv : vs[t]? = some (.slice (some ⟨k, 0, none⟩) q c)) (hl : m.slots[t]? = some l) (x : Int) :
    StI w (wx.setCell ⟨k, j, none⟩ (.int .i64 x)) c0 c1 c2 va vo vm vh vp vs nb ab n d { m with slots := m.slots.set t (l.set j x) } := by
  have hs := h.ro.slot t _ l hv hl
  obtain ⟨cur, hc⟩ := own_in hs (k := k) rfl
  exact h.cell (own_lt hs k rfl) (by decide) hc (h.ro.setSlot hv hl x)
theorem StI.setVar (h : StI w wx c0 c1 c2 va vo vm vh vp vs nb ab n d m) {k q c j : Nat} (hv : vm = .slice (some ⟨k, 0, none⟩) q c) (x : Int) : StI w (wx.setCell ⟨k, j, none⟩ (.int .i64 x)) c0 c1 c2 va vo vm vh vp vs nb ab n d { m with mem := m.mem.set j x } := by
  have hk : vm.ownBlock = some k := by rw [hv]; rfl
  obtain ⟨cur, hc⟩ := own_in h.ro.mem hk
  exact h.cell (own_lt h.ro.mem k hk) (by decide) hc (h.ro.setVar hv x)
theorem StI.setHolder (h : StI w wx c0 c1 c2 va vo vm vh vp vs nb ab n d m) {k q c j : Nat} (hv : vh = .slice (some ⟨k, 0, none⟩) q c) (x : Int) : StI w (wx.setCell ⟨k, j, none⟩ (.int .i64 x)) c0 c1 c2 va vo vm vh vp vs nb ab n d { m with holders := m.holders.set j x } := by
  have hk : vh.ownBlock = some k := by rw [hv]; rfl
  obtain ⟨cur, hc⟩ := own_in h.ro.hold hk
  exact h.cell (own_lt h.ro.hold k hk) (by decide) hc (h.ro.setHolder hv x)
theorem StI.setAt (h : StI w wx c0 c1 c2 va vo vm vh vp vs nb ab n d m) {k q c j : Nat} (hv : va = .slice (some ⟨k, 0, none⟩) q c) (x : Nat) : StI w (wx.setCell ⟨k, j, none⟩ (.int .i64 x)) c0 c1 c2 va vo vm vh vp vs nb ab n d { m with at_ := m.at_.set j x } := by
  have hk : va.ownBlock = some k := by rw [hv]; rfl
  obtain ⟨cur, hc⟩ := own_in h.ro.at_ hk
  exact h.cell (own_lt h.ro.at_ k hk) (by decide) hc (h.ro.setAt hv x)
theorem StI.setPrints (h : StI w wx c0 c1 c2 va vo vm vh vp vs nb ab n d m) {vp' : Value} {p : Int × Int} (hg : wx.grownBy wy vp.ownBlock) (ho : wy.ownsRow (w.heap.size + 3) 77 2 vp' (m.prints.length + 1) (printsV m.prints ++ [.int .i64 p.1, .int .i64 p.2])) :
    StI w (wy.setCell ⟨w.heap.size, 7, none⟩ vp') c0 c1 c2 va vo vm vh vp' vs nb ab n d { m with prints := m.prints ++ [p] } := by
  have hF : FrW (fun b => vp.ownBlock = some b) wx wy := FrW.grown hg fun k e => e
  have k0 := h.b0.fr hF (own_ne h.ro.prints h.b0 (by decide))
  refine ⟨(h.bel.trans (hF.grow w.heap.size h.bel.size fun k hk => by have := own_lt h.ro.prints k hk; omega)).setCell (Nat.le_refl _) _, k0.set_ 7 vp', (h.b1.fr hF (own_ne h.ro.prints h.b1 (by decide))).far (by simp) _, (h.b2.fr hF (own_ne h.ro.prints h.b2 (by decide))).far (by simp) _,
    (h.nd.fr hF (own_ne h.ro.prints h.nd (by decide))).far (fun e => by have := h.nb3; have e : nb = w.heap.size := e; omega) _, (h.ac.fr hF (own_ne h.ro.prints h.ac (by decide))).far (fun e => by have := h.ab3; have e : ab = w.heap.size := e; omega) _, (h.ro.setPrints hg ho).far k0 (by decide) 7 _, h.nb3, h.ab3⟩
theorem StI.slotAt (h : StI w wx c0 c1 c2 va vo vm vh vp vs nb ab n d m) {t j : Nat} {l : List Int} (hl : m.slots[t]? = some l) (hj : j < l.length) :
    ∃ ob oc k c x, vo = .slice (some ⟨ob, 0, none⟩) m.slots.length oc ∧ wx.cell? ⟨ob, t, none⟩ = some (.slice (some ⟨k, 0, none⟩) l.length c) ∧ vs[t]? = some (.slice (some ⟨k, 0, none⟩) l.length c) ∧ wx.cell? ⟨k, j, none⟩ = some x ∧ wx.frozen? ⟨k, j, none⟩ = false := by
  have hlt := (List.getElem?_eq_some_iff.1 hl).1
  obtain ⟨v0, hv0⟩ : ∃ v0, vs[t]? = some v0 := ⟨_, List.getElem?_eq_getElem (by rw [h.ro.len]; exact hlt)⟩
  obtain ⟨ob, oc, e1, e2, -, -, -⟩ := own_elem h.ro.outer hv0
  obtain ⟨k, c, e3, e4, e5, -, -⟩ := own_elem (h.ro.slot t v0 l hv0 hl) (i := j) (x := .int .i64 l[j]) (by unfold i64sV; rw [List.getElem?_map, List.getElem?_eq_getElem hj]; rfl)
  subst e3
  exact ⟨ob, oc, k, c, _, e1, e2, hv0, e4, e5⟩
theorem StI.varAt (h : StI w wx c0 c1 c2 va vo vm vh vp vs nb ab n d m) {j : Nat} (hj : j < m.mem.length) : ∃ b c x, vm = .slice (some ⟨b, 0, none⟩) m.mem.length c ∧ wx.cell? ⟨b, j, none⟩ = some (.int .i64 x) ∧ m.mem[j]? = some x ∧ wx.frozen? ⟨b, j, none⟩ = false := by
  obtain ⟨k, c, e3, e4, e5, -, -⟩ := own_elem h.ro.mem (i := j) (x := .int .i64 m.mem[j]) (by unfold i64sV; rw [List.getElem?_map, List.getElem?_eq_getElem hj]; rfl)
  exact ⟨k, c, _, e3, e4, List.getElem?_eq_getElem hj, e5⟩
theorem StI.holdAt (h : StI w wx c0 c1 c2 va vo vm vh vp vs nb ab n d m) {j : Nat} (hj : j < m.holders.length) : ∃ b c x, vh = .slice (some ⟨b, 0, none⟩) m.holders.length c ∧ wx.cell? ⟨b, j, none⟩ = some (.int .i64 x) ∧ wx.frozen? ⟨b, j, none⟩ = false := by
  obtain ⟨k, c, e3, e4, e5, -, -⟩ := own_elem h.ro.hold (i := j) (x := .int .i64 m.holders[j]) (by unfold i64sV; rw [List.getElem?_map, List.getElem?_eq_getElem hj]; rfl)
  exact ⟨k, c, _, e3, e4, e5⟩
theorem StI.atAt (h : StI w wx c0 c1 c2 va vo vm vh vp vs nb ab n d m) {j : Nat} (hj : j < m.at_.length) : ∃ b c x, va = .slice (some ⟨b, 0, none⟩) m.at_.length c ∧ wx.cell? ⟨b, j, none⟩ = some x ∧ wx.frozen? ⟨b, j, none⟩ = false := by
  obtain ⟨k, c, e3, e4, e5, -, -⟩ := own_elem h.ro.at_ (i := j) (x := .int .i64 m.at_[j]) (by unfold natsV; rw [List.getElem?_map, List.getElem?_eq_getElem hj]; rfl)
  exact ⟨k, c, _, e3, e4, e5⟩
/-- The copy is read. -/
theorem StI.reads (h : StI w wx c0 c1 c2 va vo vm vh vp vs nb ab n d m) (hu : UnitV (cmap w) [c0, c1, c2] u) : RefS (cmap wx) c0 c1 c2 va vo vm vh vp u m := by
  have := h.ro.refS (u := u) (S := fun _ => True) (su := c0) (lu := c1) (gu := c2) (hu.mono (fun b o v hv => on_mk (cmap_below h.bel b o v hv) trivial)) (fun _ _ => trivial)
  exact this.mono (on_le _ _)
end
end Go.Proofs.YtmkpjiahkepigaaGreat
