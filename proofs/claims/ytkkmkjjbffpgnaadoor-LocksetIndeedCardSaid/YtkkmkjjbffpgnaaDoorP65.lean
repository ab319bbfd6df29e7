import Derived.Test.YtkkmkjjbffpgnaaDoorP61
import Derived.Test.YtkkmkjjbffpgnaaDoorP02
import Derived.Handy
import Derived.Great.BuildSlice
import Derived.Deep.WholeRow
/- The walks of package words' operators. -/
namespace Go.Proofs.YtkkmkjjbffpgnaaDoor
open Go Go.RowKit
theorem ret_i {a b : Int} (h : a = b) : Ending.returned (.int .i64 a) = .returned (.int .i64 b) := by rw [h]
theorem w_truth (b : Bool) (w : World) : Calls Tryd.prog 89 #[.bool b] w fun e w' => e = .returned (.int .i64 (b2w b)) ∧ w' = w := by
  cases b
  all_goals (
    go_enter Tryd.func89, Tryd.ntmps89
    go_wp2
    go_ret
    exact ⟨rfl, rfl⟩)
theorem sh_nat (b : Int) : 0 ≤ bits .and .u64 (IntKind.u64.wrap b) 63 := bits_lo_u64 _ _ _
theorem run_shl (a b : Int) (w : World) : (Op.shift .shl .i64 a .u64 (bits .and .u64 (IntKind.u64.wrap b) 63)).run Tryd.prog w = .ok (.int .i64 (doF 9 a b)) w := by
  unfold Op.shift
  rw [if_neg (by have := sh_nat b; omega)]
  rfl
theorem run_shr (a b : Int) (w : World) : (Op.shift .shr .i64 a .u64 (bits .and .u64 (IntKind.u64.wrap b) 63)).run Tryd.prog w = .ok (.int .i64 (doF 10 a b)) w := by
  unfold Op.shift
  rw [if_neg (by have := sh_nat b; omega)]
  rfl
theorem w_shl (a b : Int) (w : World) : Calls Tryd.prog 79 #[.int .i64 a, .int .i64 b] w fun e w' => e = .returned (.int .i64 (doF 9 a b)) ∧ w' = w := by
  have hsh := fun w => run_shl a b w
  go_enter Tryd.func79, Tryd.ntmps79
  go_wp2
  go_ret
  exact ⟨rfl, rfl⟩
theorem w_shr (a b : Int) (w : World) : Calls Tryd.prog 80 #[.int .i64 a, .int .i64 b] w fun e w' => e = .returned (.int .i64 (doF 10 a b)) ∧ w' = w := by
  have hsh := fun w => run_shr a b w
  go_enter Tryd.func80, Tryd.ntmps80
  go_wp2
  go_ret
  exact ⟨rfl, rfl⟩
theorem w_add (a b : Int) (ha : i64 a) (hb : i64 b) (w : World) : Calls Tryd.prog 71 #[.int .i64 a, .int .i64 b] w fun e w' => e = .returned (.int .i64 (doF 1 a b)) ∧ w' = w := by
  obtain ⟨ha0, ha1⟩ := ha
  obtain ⟨hb0, hb1⟩ := hb
  go_enter Tryd.func71, Tryd.ntmps71
  go_wp2
  go_ret
  refine ⟨ret_i ?_, rfl⟩
  simp [doF, shN]
theorem w_sub (a b : Int) (ha : i64 a) (hb : i64 b) (w : World) : Calls Tryd.prog 72 #[.int .i64 a, .int .i64 b] w fun e w' => e = .returned (.int .i64 (doF 2 a b)) ∧ w' = w := by
  obtain ⟨ha0, ha1⟩ := ha
  obtain ⟨hb0, hb1⟩ := hb
  go_enter Tryd.func72, Tryd.ntmps72
  go_wp2
  go_ret
  refine ⟨ret_i ?_, rfl⟩
  simp [doF, shN]
theorem w_mul (a b : Int) (ha : i64 a) (hb : i64 b) (w : World) : Calls Tryd.prog 73 #[.int .i64 a, .int .i64 b] w fun e w' => e = .returned (.int .i64 (doF 3 a b)) ∧ w' = w := by
  obtain ⟨ha0, ha1⟩ := ha
  obtain ⟨hb0, hb1⟩ := hb
  go_enter Tryd.func73, Tryd.ntmps73
  go_wp2
  go_ret
  refine ⟨ret_i ?_, rfl⟩
  simp [doF, shN]
theorem w_and (a b : Int) (ha : i64 a) (hb : i64 b) (w : World) : Calls Tryd.prog 76 #[.int .i64 a, .int .i64 b] w fun e w' => e = .returned (.int .i64 (doF 6 a b)) ∧ w' = w := by
  obtain ⟨ha0, ha1⟩ := ha
  obtain ⟨hb0, hb1⟩ := hb
  go_enter Tryd.func76, Tryd.ntmps76
  go_wp2
  go_ret
  refine ⟨ret_i ?_, rfl⟩
  simp [doF, shN]
theorem w_or (a b : Int) (ha : i64 a) (hb : i64 b) (w : World) : Calls Tryd.prog 77 #[.int .i64 a, .int .i64 b] w fun e w' => e = .returned (.int .i64 (doF 7 a b)) ∧ w' = w := by
  obtain ⟨ha0, ha1⟩ := ha
  obtain ⟨hb0, hb1⟩ := hb
  go_enter Tryd.func77, Tryd.ntmps77
  go_wp2
  go_ret
  refine ⟨ret_i ?_, rfl⟩
  simp [doF, shN]
theorem w_xor (a b : Int) (ha : i64 a) (hb : i64 b) (w : World) : Calls Tryd.prog 78 #[.int .i64 a, .int .i64 b] w fun e w' => e = .returned (.int .i64 (doF 8 a b)) ∧ w' = w := by
  obtain ⟨ha0, ha1⟩ := ha
  obtain ⟨hb0, hb1⟩ := hb
  go_enter Tryd.func78, Tryd.ntmps78
  go_wp2
  go_ret
  refine ⟨ret_i ?_, rfl⟩
  simp [doF, shN]
theorem w_is (a b : Int) (w : World) : Calls Tryd.prog 81 #[.int .i64 a, .int .i64 b] w fun e w' => e = .returned (.int .i64 (doF 11 a b)) ∧ w' = w := by
  go_enter Tryd.func81, Tryd.ntmps81
  go_wp2_with (first | (go_at_call 89; refine (w_truth _ _).mono ?_; rintro e w3 ⟨rfl, rfl⟩))
  go_ret
  refine ⟨ret_i ?_, rfl⟩
  simp [doF]
theorem w_isNot (a b : Int) (w : World) : Calls Tryd.prog 82 #[.int .i64 a, .int .i64 b] w fun e w' => e = .returned (.int .i64 (doF 12 a b)) ∧ w' = w := by
  go_enter Tryd.func82, Tryd.ntmps82
  go_wp2_with (first | (go_at_call 89; refine (w_truth _ _).mono ?_; rintro e w3 ⟨rfl, rfl⟩))
  go_ret
  refine ⟨ret_i ?_, rfl⟩
  simp [doF]
theorem w_less (a b : Int) (w : World) : Calls Tryd.prog 83 #[.int .i64 a, .int .i64 b] w fun e w' => e = .returned (.int .i64 (doF 13 a b)) ∧ w' = w := by
  go_enter Tryd.func83, Tryd.ntmps83
  go_wp2_with (first | (go_at_call 89; refine (w_truth _ _).mono ?_; rintro e w3 ⟨rfl, rfl⟩))
  go_ret
  refine ⟨ret_i ?_, rfl⟩
  simp [doF]
theorem w_most (a b : Int) (w : World) : Calls Tryd.prog 84 #[.int .i64 a, .int .i64 b] w fun e w' => e = .returned (.int .i64 (doF 14 a b)) ∧ w' = w := by
  go_enter Tryd.func84, Tryd.ntmps84
  go_wp2_with (first | (go_at_call 89; refine (w_truth _ _).mono ?_; rintro e w3 ⟨rfl, rfl⟩))
  go_ret
  refine ⟨ret_i ?_, rfl⟩
  simp [doF]
theorem w_above (a b : Int) (w : World) : Calls Tryd.prog 85 #[.int .i64 a, .int .i64 b] w fun e w' => e = .returned (.int .i64 (doF 15 a b)) ∧ w' = w := by
  go_enter Tryd.func85, Tryd.ntmps85
  go_wp2_with (first | (go_at_call 89; refine (w_truth _ _).mono ?_; rintro e w3 ⟨rfl, rfl⟩))
  go_ret
  refine ⟨ret_i ?_, rfl⟩
  simp [doF]
theorem w_least (a b : Int) (w : World) : Calls Tryd.prog 86 #[.int .i64 a, .int .i64 b] w fun e w' => e = .returned (.int .i64 (doF 16 a b)) ∧ w' = w := by
  go_enter Tryd.func86, Tryd.ntmps86
  go_wp2_with (first | (go_at_call 89; refine (w_truth _ _).mono ?_; rintro e w3 ⟨rfl, rfl⟩))
  go_ret
  refine ⟨ret_i ?_, rfl⟩
  simp [doF]
theorem w_div (a b : Int) (ha : i64 a) (hb : i64 b) (w : World) : Calls Tryd.prog 74 #[.int .i64 a, .int .i64 b] w fun e w' => e = .returned (.int .i64 (divF a b)) ∧ w' = w := by
  obtain ⟨ha0, ha1⟩ := ha
  obtain ⟨hb0, hb1⟩ := hb
  by_cases h0 : b = 0
  · subst h0
    go_enter Tryd.func74, Tryd.ntmps74
    go_wp2
    go_ret
    exact ⟨rfl, rfl⟩
  · by_cases h1 : b = -1
    · subst h1
      go_enter Tryd.func74, Tryd.ntmps74
      go_wp2
      go_ret
      refine ⟨ret_i ?_, rfl⟩
      simp [divF]
    · have e0 : (b == 0) = false := by simp [h0]
      have e1 : (b == -1) = false := by simp [h1]
      go_enter Tryd.func74, Tryd.ntmps74
      go_wp2
      go_ret
      refine ⟨ret_i ?_, rfl⟩
      simp [divF, h0, h1]
theorem w_rem (a b : Int) (ha : i64 a) (hb : i64 b) (w : World) : Calls Tryd.prog 75 #[.int .i64 a, .int .i64 b] w fun e w' => e = .returned (.int .i64 (doF 5 a b)) ∧ w' = w := by
  by_cases h0 : b = 0
  · subst h0
    go_enter Tryd.func75, Tryd.ntmps75
    go_wp2
    go_ret
    exact ⟨rfl, rfl⟩
  · have e0 : (b == 0) = false := by simp [h0]
    go_enter Tryd.func75, Tryd.ntmps75
    go_wp2_with (first | (go_at_call 74; refine (w_div a b ha hb _).mono ?_; rintro e w3 ⟨rfl, rfl⟩))
    go_ret
    refine ⟨ret_i ?_, rfl⟩
    simp [doF, h0]
theorem w_not (a : Int) (w : World) : Calls Tryd.prog 88 #[.int .i64 a] w fun e w' => e = .returned (.int .i64 (oneF 18 a)) ∧ w' = w := by
  go_enter Tryd.func88, Tryd.ntmps88
  go_wp2_with (first | (go_at_call 89; refine (w_truth _ _).mono ?_; rintro e w3 ⟨rfl, rfl⟩))
  go_ret
  refine ⟨ret_i ?_, rfl⟩
  simp [oneF]
theorem w_minus (a : Int) (w : World) : Calls Tryd.prog 87 #[.int .i64 a] w fun e w' => e = .returned (.int .i64 (oneF 17 a)) ∧ w' = w := by
  go_enter Tryd.func87, Tryd.ntmps87
  go_wp2
  go_ret
  refine ⟨ret_i ?_, rfl⟩
  simp [oneF]
theorem w_known (k : Int) (w : World) : Calls Tryd.prog 69 #[.int .u8 k] w fun e w' => e = .returned (.bool (decide (0 < k ∧ k < 19))) ∧ w' = w := by
  by_cases h1 : 0 < k <;> by_cases h2 : k < 19
  all_goals (
    go_enter Tryd.func69, Tryd.ntmps69
    go_wp2
    go_ret
    refine ⟨ret_bool (Bool.eq_iff_iff.2 ?_), rfl⟩
    simp
    try omega)
def opsL : List Value := [.nilFunc, .nilFunc, .func (.func 71) #[] #[], .nilFunc, .func (.func 72) #[] #[], .nilFunc, .func (.func 73) #[] #[], .nilFunc, .func (.func 74) #[] #[], .nilFunc, .func (.func 75) #[] #[], .nilFunc, .func (.func 76) #[] #[], .nilFunc, .func (.func 77) #[] #[], .nilFunc, .func (.func 78) #[] #[], .nilFunc, .func (.func 79) #[] #[], .nilFunc, .func (.func 80) #[] #[], .nilFunc, .func (.func 81) #[] #[], .nilFunc, .func (.func 82) #[] #[], .nilFunc, .func (.func 83) #[] #[], .nilFunc, .func (.func 84) #[] #[], .nilFunc, .func (.func 85) #[] #[], .nilFunc, .func (.func 86) #[] #[], .nilFunc, .nilFunc, .func (.func 87) #[] #[], .nilFunc, .func (.func 88) #[] #[]]
theorem w_ops (w : World) : Calls Tryd.prog 70 #[] w fun e w' => e = .returned (.agg opsL.toArray) ∧ Below w.heap.size w w' := by
  go_enter Tryd.func70, Tryd.ntmps70
  go_wp2_with (first | (refine (stop_store 146 rfl ?_)))
  refine Stop.intro ?_
  refine wpList_store_rowTo rfl 146 _ _ rfl rfl w.heap.size opsL.toArray rfl rfl 146 _ (heap_alloc_new w _) (by kernel_rfl) rfl (by kernel_rfl) ?_
  rw [World.setRow_alloc_new]
  have hcell : ∀ j v, opsL[j]? = some v → (w.alloc (.cells opsL.toArray 146)).cell? ⟨w.heap.size, 0 + j, none⟩ = some v := cell_newl w opsL _ _ rfl
  have hload : (loadVar 146 ⟨w.heap.size, 0, none⟩).run Tryd.prog (w.alloc (.cells opsL.toArray 146)) = .ok (.agg opsL.toArray) (w.alloc (.cells opsL.toArray 146)) := run_loadVar_at _ _ _ _ opsL _ hcell Tryd.underlying146 rfl (by kernel_rfl)
  clear hcell
  go_wp2
  refine bodyPost_ret (v := .agg opsL.toArray) (by simp [results, Tryd.results70, asAddr, hload]) rfl ⟨rfl, Below_alloc' _ _⟩
theorem w_two (k : Int) (hk : 0 ≤ k) (w : World) : Calls Tryd.prog 60 #[.int .u8 k] w fun e w' => e = .returned (.bool (twoB k)) ∧ w' = w := by
  by_cases h1 : 0 < k ∧ k < 19
  · have hd : decide (0 < k ∧ k < 19) = true := decide_eq_true h1
    by_cases h2 : k = 17
    · subst h2
      go_enter Tryd.func60, Tryd.ntmps60
      go_wp2_with (first | (go_at_call 69; refine (w_known _ _).mono ?_; rintro e w3 ⟨rfl, rfl⟩; rw [hd]))
      go_ret
      exact ⟨rfl, rfl⟩
    · have e2 : (k != 17) = true := by simp [h2]
      by_cases h3 : k = 18
      · subst h3
        go_enter Tryd.func60, Tryd.ntmps60
        go_wp2_with (first | (go_at_call 69; refine (w_known _ _).mono ?_; rintro e w3 ⟨rfl, rfl⟩; rw [hd]))
        go_ret
        exact ⟨rfl, rfl⟩
      · have e3 : (k != 18) = true := by simp [h3]
        have e4 : twoB k = true := by unfold twoB; rw [decide_eq_true_eq]; omega
        rw [e4]
        go_enter Tryd.func60, Tryd.ntmps60
        go_wp2_with (first | (go_at_call 69; refine (w_known _ _).mono ?_; rintro e w3 ⟨rfl, rfl⟩; rw [hd]))
        go_ret
        exact ⟨rfl, rfl⟩
  · have hd : decide (0 < k ∧ k < 19) = false := decide_eq_false h1
    have e4 : twoB k = false := by unfold twoB; rw [decide_eq_false_iff_not]; omega
    rw [e4]
    go_enter Tryd.func60, Tryd.ntmps60
    go_wp2_with (first | (go_at_call 69; refine (w_known _ _).mono ?_; rintro e w3 ⟨rfl, rfl⟩; rw [hd]))
    go_ret
    exact ⟨rfl, rfl⟩
set_option maxRecDepth 100000 in
set_option maxHeartbeats 4000000 in
theorem w_do (k a b : Int) (hk : twoB k = true) (ha : i64 a) (hb : i64 b) (w : World) : Calls Tryd.prog 61 #[.int .u8 k, .int .i64 a, .int .i64 b] w fun e w' => e = .returned (.tuple #[.int .i64 (doF k a b), .int .i64 0]) ∧ Below w.heap.size w w' := by
  have hr : 1 ≤ k ∧ k ≤ 16 := by unfold twoB at hk; rw [decide_eq_true_eq] at hk; omega
  have hops := Lib.hid w_ops
  have hc : k = 1 ∨ k = 2 ∨ k = 3 ∨ k = 4 ∨ k = 5 ∨ k = 6 ∨ k = 7 ∨ k = 8 ∨ k = 9 ∨ k = 10 ∨ k = 11 ∨ k = 12 ∨ k = 13 ∨ k = 14 ∨ k = 15 ∨ k = 16 := by omega
  rcases hc with rfl | rfl | rfl | rfl | rfl | rfl | rfl | rfl | rfl | rfl | rfl | rfl | rfl | rfl | rfl | rfl
  · have hix : ∀ w, (Instr.index 146 (.agg opsL.toArray) (.int .u8 1)).run Tryd.prog w = .ok (.agg #[.func (.func 71) #[] #[], .nilFunc]) w := fun _ => by kernel_rfl
    have hfi : ∀ w x y, (Instr.field 145 (.agg #[x, y]) 0).run Tryd.prog w = .ok x w := fun _ _ _ => by kernel_rfl
    go_enter Tryd.func61, Tryd.ntmps61
    go_wp2_with (first
      | (go_at_call 60; refine (w_two _ (by decide) _).mono ?_; rintro e w3 ⟨rfl, rfl⟩; rw [hk])
      | (go_at_call 70; refine (hops.out _).mono ?_; rintro e w3 ⟨rfl, hb3⟩)
      | (go_at_call 71; refine (w_add _ _ ha hb _).mono ?_; rintro e w3 ⟨rfl, rfl⟩))
    refine bodyPost_ret (results_tmp2 rfl _ _ _) rfl ⟨rfl, hb3⟩
  · have hix : ∀ w, (Instr.index 146 (.agg opsL.toArray) (.int .u8 2)).run Tryd.prog w = .ok (.agg #[.func (.func 72) #[] #[], .nilFunc]) w := fun _ => by kernel_rfl
    have hfi : ∀ w x y, (Instr.field 145 (.agg #[x, y]) 0).run Tryd.prog w = .ok x w := fun _ _ _ => by kernel_rfl
    go_enter Tryd.func61, Tryd.ntmps61
    go_wp2_with (first
      | (go_at_call 60; refine (w_two _ (by decide) _).mono ?_; rintro e w3 ⟨rfl, rfl⟩; rw [hk])
      | (go_at_call 70; refine (hops.out _).mono ?_; rintro e w3 ⟨rfl, hb3⟩)
      | (go_at_call 72; refine (w_sub _ _ ha hb _).mono ?_; rintro e w3 ⟨rfl, rfl⟩))
    refine bodyPost_ret (results_tmp2 rfl _ _ _) rfl ⟨rfl, hb3⟩
  · have hix : ∀ w, (Instr.index 146 (.agg opsL.toArray) (.int .u8 3)).run Tryd.prog w = .ok (.agg #[.func (.func 73) #[] #[], .nilFunc]) w := fun _ => by kernel_rfl
    have hfi : ∀ w x y, (Instr.field 145 (.agg #[x, y]) 0).run Tryd.prog w = .ok x w := fun _ _ _ => by kernel_rfl
    go_enter Tryd.func61, Tryd.ntmps61
    go_wp2_with (first
      | (go_at_call 60; refine (w_two _ (by decide) _).mono ?_; rintro e w3 ⟨rfl, rfl⟩; rw [hk])
      | (go_at_call 70; refine (hops.out _).mono ?_; rintro e w3 ⟨rfl, hb3⟩)
      | (go_at_call 73; refine (w_mul _ _ ha hb _).mono ?_; rintro e w3 ⟨rfl, rfl⟩))
    refine bodyPost_ret (results_tmp2 rfl _ _ _) rfl ⟨rfl, hb3⟩
  · have hix : ∀ w, (Instr.index 146 (.agg opsL.toArray) (.int .u8 4)).run Tryd.prog w = .ok (.agg #[.func (.func 74) #[] #[], .nilFunc]) w := fun _ => by kernel_rfl
    have hfi : ∀ w x y, (Instr.field 145 (.agg #[x, y]) 0).run Tryd.prog w = .ok x w := fun _ _ _ => by kernel_rfl
    go_enter Tryd.func61, Tryd.ntmps61
    go_wp2_with (first
      | (go_at_call 60; refine (w_two _ (by decide) _).mono ?_; rintro e w3 ⟨rfl, rfl⟩; rw [hk])
      | (go_at_call 70; refine (hops.out _).mono ?_; rintro e w3 ⟨rfl, hb3⟩)
      | (go_at_call 74; refine (w_div _ _ ha hb _).mono ?_; rintro e w3 ⟨rfl, rfl⟩))
    refine bodyPost_ret (results_tmp2 rfl _ _ _) rfl ⟨rfl, hb3⟩
  · have hix : ∀ w, (Instr.index 146 (.agg opsL.toArray) (.int .u8 5)).run Tryd.prog w = .ok (.agg #[.func (.func 75) #[] #[], .nilFunc]) w := fun _ => by kernel_rfl
    have hfi : ∀ w x y, (Instr.field 145 (.agg #[x, y]) 0).run Tryd.prog w = .ok x w := fun _ _ _ => by kernel_rfl
    go_enter Tryd.func61, Tryd.ntmps61
    go_wp2_with (first
      | (go_at_call 60; refine (w_two _ (by decide) _).mono ?_; rintro e w3 ⟨rfl, rfl⟩; rw [hk])
      | (go_at_call 70; refine (hops.out _).mono ?_; rintro e w3 ⟨rfl, hb3⟩)
      | (go_at_call 75; refine (w_rem _ _ ha hb _).mono ?_; rintro e w3 ⟨rfl, rfl⟩))
    refine bodyPost_ret (results_tmp2 rfl _ _ _) rfl ⟨rfl, hb3⟩
  · have hix : ∀ w, (Instr.index 146 (.agg opsL.toArray) (.int .u8 6)).run Tryd.prog w = .ok (.agg #[.func (.func 76) #[] #[], .nilFunc]) w := fun _ => by kernel_rfl
    have hfi : ∀ w x y, (Instr.field 145 (.agg #[x, y]) 0).run Tryd.prog w = .ok x w := fun _ _ _ => by kernel_rfl
    go_enter Tryd.func61, Tryd.ntmps61
    go_wp2_with (first
      | (go_at_call 60; refine (w_two _ (by decide) _).mono ?_; rintro e w3 ⟨rfl, rfl⟩; rw [hk])
      | (go_at_call 70; refine (hops.out _).mono ?_; rintro e w3 ⟨rfl, hb3⟩)
      | (go_at_call 76; refine (w_and _ _ ha hb _).mono ?_; rintro e w3 ⟨rfl, rfl⟩))
    refine bodyPost_ret (results_tmp2 rfl _ _ _) rfl ⟨rfl, hb3⟩
  · have hix : ∀ w, (Instr.index 146 (.agg opsL.toArray) (.int .u8 7)).run Tryd.prog w = .ok (.agg #[.func (.func 77) #[] #[], .nilFunc]) w := fun _ => by kernel_rfl
    have hfi : ∀ w x y, (Instr.field 145 (.agg #[x, y]) 0).run Tryd.prog w = .ok x w := fun _ _ _ => by kernel_rfl
    go_enter Tryd.func61, Tryd.ntmps61
    go_wp2_with (first
      | (go_at_call 60; refine (w_two _ (by decide) _).mono ?_; rintro e w3 ⟨rfl, rfl⟩; rw [hk])
      | (go_at_call 70; refine (hops.out _).mono ?_; rintro e w3 ⟨rfl, hb3⟩)
      | (go_at_call 77; refine (w_or _ _ ha hb _).mono ?_; rintro e w3 ⟨rfl, rfl⟩))
    refine bodyPost_ret (results_tmp2 rfl _ _ _) rfl ⟨rfl, hb3⟩
  · have hix : ∀ w, (Instr.index 146 (.agg opsL.toArray) (.int .u8 8)).run Tryd.prog w = .ok (.agg #[.func (.func 78) #[] #[], .nilFunc]) w := fun _ => by kernel_rfl
    have hfi : ∀ w x y, (Instr.field 145 (.agg #[x, y]) 0).run Tryd.prog w = .ok x w := fun _ _ _ => by kernel_rfl
    go_enter Tryd.func61, Tryd.ntmps61
    go_wp2_with (first
      | (go_at_call 60; refine (w_two _ (by decide) _).mono ?_; rintro e w3 ⟨rfl, rfl⟩; rw [hk])
      | (go_at_call 70; refine (hops.out _).mono ?_; rintro e w3 ⟨rfl, hb3⟩)
      | (go_at_call 78; refine (w_xor _ _ ha hb _).mono ?_; rintro e w3 ⟨rfl, rfl⟩))
    refine bodyPost_ret (results_tmp2 rfl _ _ _) rfl ⟨rfl, hb3⟩
  · have hix : ∀ w, (Instr.index 146 (.agg opsL.toArray) (.int .u8 9)).run Tryd.prog w = .ok (.agg #[.func (.func 79) #[] #[], .nilFunc]) w := fun _ => by kernel_rfl
    have hfi : ∀ w x y, (Instr.field 145 (.agg #[x, y]) 0).run Tryd.prog w = .ok x w := fun _ _ _ => by kernel_rfl
    go_enter Tryd.func61, Tryd.ntmps61
    go_wp2_with (first
      | (go_at_call 60; refine (w_two _ (by decide) _).mono ?_; rintro e w3 ⟨rfl, rfl⟩; rw [hk])
      | (go_at_call 70; refine (hops.out _).mono ?_; rintro e w3 ⟨rfl, hb3⟩)
      | (go_at_call 79; refine (w_shl _ _ _).mono ?_; rintro e w3 ⟨rfl, rfl⟩))
    refine bodyPost_ret (results_tmp2 rfl _ _ _) rfl ⟨rfl, hb3⟩
  · have hix : ∀ w, (Instr.index 146 (.agg opsL.toArray) (.int .u8 10)).run Tryd.prog w = .ok (.agg #[.func (.func 80) #[] #[], .nilFunc]) w := fun _ => by kernel_rfl
    have hfi : ∀ w x y, (Instr.field 145 (.agg #[x, y]) 0).run Tryd.prog w = .ok x w := fun _ _ _ => by kernel_rfl
    go_enter Tryd.func61, Tryd.ntmps61
    go_wp2_with (first
      | (go_at_call 60; refine (w_two _ (by decide) _).mono ?_; rintro e w3 ⟨rfl, rfl⟩; rw [hk])
      | (go_at_call 70; refine (hops.out _).mono ?_; rintro e w3 ⟨rfl, hb3⟩)
      | (go_at_call 80; refine (w_shr _ _ _).mono ?_; rintro e w3 ⟨rfl, rfl⟩))
    refine bodyPost_ret (results_tmp2 rfl _ _ _) rfl ⟨rfl, hb3⟩
  · have hix : ∀ w, (Instr.index 146 (.agg opsL.toArray) (.int .u8 11)).run Tryd.prog w = .ok (.agg #[.func (.func 81) #[] #[], .nilFunc]) w := fun _ => by kernel_rfl
    have hfi : ∀ w x y, (Instr.field 145 (.agg #[x, y]) 0).run Tryd.prog w = .ok x w := fun _ _ _ => by kernel_rfl
    go_enter Tryd.func61, Tryd.ntmps61
    go_wp2_with (first
      | (go_at_call 60; refine (w_two _ (by decide) _).mono ?_; rintro e w3 ⟨rfl, rfl⟩; rw [hk])
      | (go_at_call 70; refine (hops.out _).mono ?_; rintro e w3 ⟨rfl, hb3⟩)
      | (go_at_call 81; refine (w_is _ _ _).mono ?_; rintro e w3 ⟨rfl, rfl⟩))
    refine bodyPost_ret (results_tmp2 rfl _ _ _) rfl ⟨rfl, hb3⟩
  · have hix : ∀ w, (Instr.index 146 (.agg opsL.toArray) (.int .u8 12)).run Tryd.prog w = .ok (.agg #[.func (.func 82) #[] #[], .nilFunc]) w := fun _ => by kernel_rfl
    have hfi : ∀ w x y, (Instr.field 145 (.agg #[x, y]) 0).run Tryd.prog w = .ok x w := fun _ _ _ => by kernel_rfl
    go_enter Tryd.func61, Tryd.ntmps61
    go_wp2_with (first
      | (go_at_call 60; refine (w_two _ (by decide) _).mono ?_; rintro e w3 ⟨rfl, rfl⟩; rw [hk])
      | (go_at_call 70; refine (hops.out _).mono ?_; rintro e w3 ⟨rfl, hb3⟩)
      | (go_at_call 82; refine (w_isNot _ _ _).mono ?_; rintro e w3 ⟨rfl, rfl⟩))
    refine bodyPost_ret (results_tmp2 rfl _ _ _) rfl ⟨rfl, hb3⟩
  · have hix : ∀ w, (Instr.index 146 (.agg opsL.toArray) (.int .u8 13)).run Tryd.prog w = .ok (.agg #[.func (.func 83) #[] #[], .nilFunc]) w := fun _ => by kernel_rfl
    have hfi : ∀ w x y, (Instr.field 145 (.agg #[x, y]) 0).run Tryd.prog w = .ok x w := fun _ _ _ => by kernel_rfl
    go_enter Tryd.func61, Tryd.ntmps61
    go_wp2_with (first
      | (go_at_call 60; refine (w_two _ (by decide) _).mono ?_; rintro e w3 ⟨rfl, rfl⟩; rw [hk])
      | (go_at_call 70; refine (hops.out _).mono ?_; rintro e w3 ⟨rfl, hb3⟩)
      | (go_at_call 83; refine (w_less _ _ _).mono ?_; rintro e w3 ⟨rfl, rfl⟩))
    refine bodyPost_ret (results_tmp2 rfl _ _ _) rfl ⟨rfl, hb3⟩
  · have hix : ∀ w, (Instr.index 146 (.agg opsL.toArray) (.int .u8 14)).run Tryd.prog w = .ok (.agg #[.func (.func 84) #[] #[], .nilFunc]) w := fun _ => by kernel_rfl
    have hfi : ∀ w x y, (Instr.field 145 (.agg #[x, y]) 0).run Tryd.prog w = .ok x w := fun _ _ _ => by kernel_rfl
    go_enter Tryd.func61, Tryd.ntmps61
    go_wp2_with (first
      | (go_at_call 60; refine (w_two _ (by decide) _).mono ?_; rintro e w3 ⟨rfl, rfl⟩; rw [hk])
      | (go_at_call 70; refine (hops.out _).mono ?_; rintro e w3 ⟨rfl, hb3⟩)
      | (go_at_call 84; refine (w_most _ _ _).mono ?_; rintro e w3 ⟨rfl, rfl⟩))
    refine bodyPost_ret (results_tmp2 rfl _ _ _) rfl ⟨rfl, hb3⟩
  · have hix : ∀ w, (Instr.index 146 (.agg opsL.toArray) (.int .u8 15)).run Tryd.prog w = .ok (.agg #[.func (.func 85) #[] #[], .nilFunc]) w := fun _ => by kernel_rfl
    have hfi : ∀ w x y, (Instr.field 145 (.agg #[x, y]) 0).run Tryd.prog w = .ok x w := fun _ _ _ => by kernel_rfl
    go_enter Tryd.func61, Tryd.ntmps61
    go_wp2_with (first
      | (go_at_call 60; refine (w_two _ (by decide) _).mono ?_; rintro e w3 ⟨rfl, rfl⟩; rw [hk])
      | (go_at_call 70; refine (hops.out _).mono ?_; rintro e w3 ⟨rfl, hb3⟩)
      | (go_at_call 85; refine (w_above _ _ _).mono ?_; rintro e w3 ⟨rfl, rfl⟩))
    refine bodyPost_ret (results_tmp2 rfl _ _ _) rfl ⟨rfl, hb3⟩
  · have hix : ∀ w, (Instr.index 146 (.agg opsL.toArray) (.int .u8 16)).run Tryd.prog w = .ok (.agg #[.func (.func 86) #[] #[], .nilFunc]) w := fun _ => by kernel_rfl
    have hfi : ∀ w x y, (Instr.field 145 (.agg #[x, y]) 0).run Tryd.prog w = .ok x w := fun _ _ _ => by kernel_rfl
    go_enter Tryd.func61, Tryd.ntmps61
    go_wp2_with (first
      | (go_at_call 60; refine (w_two _ (by decide) _).mono ?_; rintro e w3 ⟨rfl, rfl⟩; rw [hk])
      | (go_at_call 70; refine (hops.out _).mono ?_; rintro e w3 ⟨rfl, hb3⟩)
      | (go_at_call 86; refine (w_least _ _ _).mono ?_; rintro e w3 ⟨rfl, rfl⟩))
    refine bodyPost_ret (results_tmp2 rfl _ _ _) rfl ⟨rfl, hb3⟩
set_option maxRecDepth 100000 in
set_option maxHeartbeats 4000000 in
theorem w_one (k a : Int) (hk : k = 17 ∨ k = 18) (w : World) : Calls Tryd.prog 62 #[.int .u8 k, .int .i64 a] w fun e w' => e = .returned (.tuple #[.int .i64 (oneF k a), .int .i64 0]) ∧ Below w.heap.size w w' := by
  have hops := Lib.hid w_ops
  have hd : ∀ k : Int, k = 17 ∨ k = 18 → decide (0 < k ∧ k < 19) = true := fun k h => decide_eq_true (by omega)
  have ht : ∀ k : Int, k = 17 ∨ k = 18 → twoB k = false := fun k h => by unfold twoB; rw [decide_eq_false_iff_not]; omega
  have H := Lib.hid (And.intro (hd k hk) (ht k hk)); clear hd ht
  rcases hk with rfl | rfl
  · have hix : ∀ w, (Instr.index 146 (.agg opsL.toArray) (.int .u8 17)).run Tryd.prog w = .ok (.agg #[.nilFunc, .func (.func 87) #[] #[]]) w := fun _ => by kernel_rfl
    have hfi : ∀ w x y, (Instr.field 145 (.agg #[x, y]) 1).run Tryd.prog w = .ok y w := fun _ _ _ => by kernel_rfl
    go_enter Tryd.func62, Tryd.ntmps62
    go_wp2_with (first
      | (go_at_call 69; refine (w_known _ _).mono ?_; rintro e w3 ⟨rfl, rfl⟩; rw [H.out.1])
      | (go_at_call 60; refine (w_two _ (by decide) _).mono ?_; rintro e w3 ⟨rfl, rfl⟩; rw [H.out.2])
      | (go_at_call 70; refine (hops.out _).mono ?_; rintro e w3 ⟨rfl, hb3⟩)
      | (go_at_call 87; refine (w_minus _ _).mono ?_; rintro e w3 ⟨rfl, rfl⟩))
    refine bodyPost_ret (results_tmp2 rfl _ _ _) rfl ⟨rfl, hb3⟩
  · have hix : ∀ w, (Instr.index 146 (.agg opsL.toArray) (.int .u8 18)).run Tryd.prog w = .ok (.agg #[.nilFunc, .func (.func 88) #[] #[]]) w := fun _ => by kernel_rfl
    have hfi : ∀ w x y, (Instr.field 145 (.agg #[x, y]) 1).run Tryd.prog w = .ok y w := fun _ _ _ => by kernel_rfl
    go_enter Tryd.func62, Tryd.ntmps62
    go_wp2_with (first
      | (go_at_call 69; refine (w_known _ _).mono ?_; rintro e w3 ⟨rfl, rfl⟩; rw [H.out.1])
      | (go_at_call 60; refine (w_two _ (by decide) _).mono ?_; rintro e w3 ⟨rfl, rfl⟩; rw [H.out.2])
      | (go_at_call 70; refine (hops.out _).mono ?_; rintro e w3 ⟨rfl, hb3⟩)
      | (go_at_call 88; refine (w_not _ _).mono ?_; rintro e w3 ⟨rfl, rfl⟩))
    refine bodyPost_ret (results_tmp2 rfl _ _ _) rfl ⟨rfl, hb3⟩
end Go.Proofs.YtkkmkjjbffpgnaaDoor
