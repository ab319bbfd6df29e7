import Derived.Test.YtkkmkjjbffpgnaaP61
import Derived.Test.YtkkmkjjbffpgnaaP02
import Derived.Handy
import Derived.Great.BuildSlice
import Derived.Deep.WholeRow
/- The walks of package words' operators. -/
namespace Go.Proofs.Ytkkmkjjbffpgnaa
open Go Go.RowKit
theorem ret_i {a b : Int} (h : a = b) : Ending.returned (.int .i64 a) = .returned (.int .i64 b) := by rw [h]
theorem w_truth (b : Bool) (w : World) : Calls Try.prog 145 #[.bool b] w fun e w' => e = .returned (.int .i64 (b2w b)) ∧ w' = w := by
  cases b
  all_goals (
    go_enter Try.func145, Try.ntmps145
    go_wp2
    go_ret
    exact ⟨rfl, rfl⟩)
theorem sh_nat (b : Int) : 0 ≤ bits .and .u64 (IntKind.u64.wrap b) 63 := bits_lo_u64 _ _ _
theorem run_shl (a b : Int) (w : World) : (Op.shift .shl .i64 a .u64 (bits .and .u64 (IntKind.u64.wrap b) 63)).run Try.prog w = .ok (.int .i64 (doF 9 a b)) w := by
  unfold Op.shift
  rw [if_neg (by have := sh_nat b; omega)]
  rfl
theorem run_shr (a b : Int) (w : World) : (Op.shift .shr .i64 a .u64 (bits .and .u64 (IntKind.u64.wrap b) 63)).run Try.prog w = .ok (.int .i64 (doF 10 a b)) w := by
  unfold Op.shift
  rw [if_neg (by have := sh_nat b; omega)]
  rfl
theorem w_shl (a b : Int) (w : World) : Calls Try.prog 135 #[.int .i64 a, .int .i64 b] w fun e w' => e = .returned (.int .i64 (doF 9 a b)) ∧ w' = w := by
  have hsh := fun w => run_shl a b w
  go_enter Try.func135, Try.ntmps135
  go_wp2
  go_ret
  exact ⟨rfl, rfl⟩
theorem w_shr (a b : Int) (w : World) : Calls Try.prog 136 #[.int .i64 a, .int .i64 b] w fun e w' => e = .returned (.int .i64 (doF 10 a b)) ∧ w' = w := by
  have hsh := fun w => run_shr a b w
  go_enter Try.func136, Try.ntmps136
  go_wp2
  go_ret
  exact ⟨rfl, rfl⟩
theorem w_add (a b : Int) (ha : i64 a) (hb : i64 b) (w : World) : Calls Try.prog 127 #[.int .i64 a, .int .i64 b] w fun e w' => e = .returned (.int .i64 (doF 1 a b)) ∧ w' = w := by
  obtain ⟨ha0, ha1⟩ := ha
  obtain ⟨hb0, hb1⟩ := hb
  go_enter Try.func127, Try.ntmps127
  go_wp2
  go_ret
  refine ⟨ret_i ?_, rfl⟩
  simp [doF, shN]
theorem w_sub (a b : Int) (ha : i64 a) (hb : i64 b) (w : World) : Calls Try.prog 128 #[.int .i64 a, .int .i64 b] w fun e w' => e = .returned (.int .i64 (doF 2 a b)) ∧ w' = w := by
  obtain ⟨ha0, ha1⟩ := ha
  obtain ⟨hb0, hb1⟩ := hb
  go_enter Try.func128, Try.ntmps128
  go_wp2
  go_ret
  refine ⟨ret_i ?_, rfl⟩
  simp [doF, shN]
theorem w_mul (a b : Int) (ha : i64 a) (hb : i64 b) (w : World) : Calls Try.prog 129 #[.int .i64 a, .int .i64 b] w fun e w' => e = .returned (.int .i64 (doF 3 a b)) ∧ w' = w := by
  obtain ⟨ha0, ha1⟩ := ha
  obtain ⟨hb0, hb1⟩ := hb
  go_enter Try.func129, Try.ntmps129
  go_wp2
  go_ret
  refine ⟨ret_i ?_, rfl⟩
  simp [doF, shN]
theorem w_and (a b : Int) (ha : i64 a) (hb : i64 b) (w : World) : Calls Try.prog 132 #[.int .i64 a, .int .i64 b] w fun e w' => e = .returned (.int .i64 (doF 6 a b)) ∧ w' = w := by
  obtain ⟨ha0, ha1⟩ := ha
  obtain ⟨hb0, hb1⟩ := hb
  go_enter Try.func132, Try.ntmps132
  go_wp2
  go_ret
  refine ⟨ret_i ?_, rfl⟩
  simp [doF, shN]
theorem w_or (a b : Int) (ha : i64 a) (hb : i64 b) (w : World) : Calls Try.prog 133 #[.int .i64 a, .int .i64 b] w fun e w' => e = .returned (.int .i64 (doF 7 a b)) ∧ w' = w := by
  obtain ⟨ha0, ha1⟩ := ha
  obtain ⟨hb0, hb1⟩ := hb
  go_enter Try.func133, Try.ntmps133
  go_wp2
  go_ret
  refine ⟨ret_i ?_, rfl⟩
  simp [doF, shN]
theorem w_xor (a b : Int) (ha : i64 a) (hb : i64 b) (w : World) : Calls Try.prog 134 #[.int .i64 a, .int .i64 b] w fun e w' => e = .returned (.int .i64 (doF 8 a b)) ∧ w' = w := by
  obtain ⟨ha0, ha1⟩ := ha
  obtain ⟨hb0, hb1⟩ := hb
  go_enter Try.func134, Try.ntmps134
  go_wp2
  go_ret
  refine ⟨ret_i ?_, rfl⟩
  simp [doF, shN]
theorem w_is (a b : Int) (w : World) : Calls Try.prog 137 #[.int .i64 a, .int .i64 b] w fun e w' => e = .returned (.int .i64 (doF 11 a b)) ∧ w' = w := by
  go_enter Try.func137, Try.ntmps137
  go_wp2_with (first | (go_at_call 145; refine (w_truth _ _).mono ?_; rintro e w3 ⟨rfl, rfl⟩))
  go_ret
  refine ⟨ret_i ?_, rfl⟩
  simp [doF]
theorem w_isNot (a b : Int) (w : World) : Calls Try.prog 138 #[.int .i64 a, .int .i64 b] w fun e w' => e = .returned (.int .i64 (doF 12 a b)) ∧ w' = w := by
  go_enter Try.func138, Try.ntmps138
  go_wp2_with (first | (go_at_call 145; refine (w_truth _ _).mono ?_; rintro e w3 ⟨rfl, rfl⟩))
  go_ret
  refine ⟨ret_i ?_, rfl⟩
  simp [doF]
theorem w_less (a b : Int) (w : World) : Calls Try.prog 139 #[.int .i64 a, .int .i64 b] w fun e w' => e = .returned (.int .i64 (doF 13 a b)) ∧ w' = w := by
  go_enter Try.func139, Try.ntmps139
  go_wp2_with (first | (go_at_call 145; refine (w_truth _ _).mono ?_; rintro e w3 ⟨rfl, rfl⟩))
  go_ret
  refine ⟨ret_i ?_, rfl⟩
  simp [doF]
theorem w_most (a b : Int) (w : World) : Calls Try.prog 140 #[.int .i64 a, .int .i64 b] w fun e w' => e = .returned (.int .i64 (doF 14 a b)) ∧ w' = w := by
  go_enter Try.func140, Try.ntmps140
  go_wp2_with (first | (go_at_call 145; refine (w_truth _ _).mono ?_; rintro e w3 ⟨rfl, rfl⟩))
  go_ret
  refine ⟨ret_i ?_, rfl⟩
  simp [doF]
theorem w_above (a b : Int) (w : World) : Calls Try.prog 141 #[.int .i64 a, .int .i64 b] w fun e w' => e = .returned (.int .i64 (doF 15 a b)) ∧ w' = w := by
  go_enter Try.func141, Try.ntmps141
  go_wp2_with (first | (go_at_call 145; refine (w_truth _ _).mono ?_; rintro e w3 ⟨rfl, rfl⟩))
  go_ret
  refine ⟨ret_i ?_, rfl⟩
  simp [doF]
theorem w_least (a b : Int) (w : World) : Calls Try.prog 142 #[.int .i64 a, .int .i64 b] w fun e w' => e = .returned (.int .i64 (doF 16 a b)) ∧ w' = w := by
  go_enter Try.func142, Try.ntmps142
  go_wp2_with (first | (go_at_call 145; refine (w_truth _ _).mono ?_; rintro e w3 ⟨rfl, rfl⟩))
  go_ret
  refine ⟨ret_i ?_, rfl⟩
  simp [doF]
theorem w_div (a b : Int) (ha : i64 a) (hb : i64 b) (w : World) : Calls Try.prog 130 #[.int .i64 a, .int .i64 b] w fun e w' => e = .returned (.int .i64 (divF a b)) ∧ w' = w := by
  obtain ⟨ha0, ha1⟩ := ha
  obtain ⟨hb0, hb1⟩ := hb
  by_cases h0 : b = 0
  · subst h0
    go_enter Try.func130, Try.ntmps130
    go_wp2
    go_ret
    exact ⟨rfl, rfl⟩
  · by_cases h1 : b = -1
    · subst h1
      go_enter Try.func130, Try.ntmps130
      go_wp2
      go_ret
      refine ⟨ret_i ?_, rfl⟩
      simp [divF]
    · have e0 : (b == 0) = false := by simp [h0]
      have e1 : (b == -1) = false := by simp [h1]
      go_enter Try.func130, Try.ntmps130
      go_wp2
      go_ret
      refine ⟨ret_i ?_, rfl⟩
      simp [divF, h0, h1]
theorem w_rem (a b : Int) (ha : i64 a) (hb : i64 b) (w : World) : Calls Try.prog 131 #[.int .i64 a, .int .i64 b] w fun e w' => e = .returned (.int .i64 (doF 5 a b)) ∧ w' = w := by
  by_cases h0 : b = 0
  · subst h0
    go_enter Try.func131, Try.ntmps131
    go_wp2
    go_ret
    exact ⟨rfl, rfl⟩
  · have e0 : (b == 0) = false := by simp [h0]
    go_enter Try.func131, Try.ntmps131
    go_wp2_with (first | (go_at_call 130; refine (w_div a b ha hb _).mono ?_; rintro e w3 ⟨rfl, rfl⟩))
    go_ret
    refine ⟨ret_i ?_, rfl⟩
    simp [doF, h0]
theorem w_not (a : Int) (w : World) : Calls Try.prog 144 #[.int .i64 a] w fun e w' => e = .returned (.int .i64 (oneF 18 a)) ∧ w' = w := by
  go_enter Try.func144, Try.ntmps144
  go_wp2_with (first | (go_at_call 145; refine (w_truth _ _).mono ?_; rintro e w3 ⟨rfl, rfl⟩))
  go_ret
  refine ⟨ret_i ?_, rfl⟩
  simp [oneF]
theorem w_minus (a : Int) (w : World) : Calls Try.prog 143 #[.int .i64 a] w fun e w' => e = .returned (.int .i64 (oneF 17 a)) ∧ w' = w := by
  go_enter Try.func143, Try.ntmps143
  go_wp2
  go_ret
  refine ⟨ret_i ?_, rfl⟩
  simp [oneF]
theorem w_known (k : Int) (w : World) : Calls Try.prog 125 #[.int .u8 k] w fun e w' => e = .returned (.bool (decide (0 < k ∧ k < 19))) ∧ w' = w := by
  by_cases h1 : 0 < k <;> by_cases h2 : k < 19
  all_goals (
    go_enter Try.func125, Try.ntmps125
    go_wp2
    go_ret
    refine ⟨ret_bool (Bool.eq_iff_iff.2 ?_), rfl⟩
    simp
    try omega)
def opsL : List Value := [.nilFunc, .nilFunc, .func (.func 127) #[] #[], .nilFunc, .func (.func 128) #[] #[], .nilFunc, .func (.func 129) #[] #[], .nilFunc, .func (.func 130) #[] #[], .nilFunc, .func (.func 131) #[] #[], .nilFunc, .func (.func 132) #[] #[], .nilFunc, .func (.func 133) #[] #[], .nilFunc, .func (.func 134) #[] #[], .nilFunc, .func (.func 135) #[] #[], .nilFunc, .func (.func 136) #[] #[], .nilFunc, .func (.func 137) #[] #[], .nilFunc, .func (.func 138) #[] #[], .nilFunc, .func (.func 139) #[] #[], .nilFunc, .func (.func 140) #[] #[], .nilFunc, .func (.func 141) #[] #[], .nilFunc, .func (.func 142) #[] #[], .nilFunc, .nilFunc, .func (.func 143) #[] #[], .nilFunc, .func (.func 144) #[] #[]]
theorem w_ops (w : World) : Calls Try.prog 126 #[] w fun e w' => e = .returned (.agg opsL.toArray) ∧ Below w.heap.size w w' := by
  go_enter Try.func126, Try.ntmps126
  go_wp2_with (first | (refine (stop_store 195 rfl ?_)))
  refine Stop.intro ?_
  refine wpList_store_rowTo rfl 195 _ _ rfl rfl w.heap.size opsL.toArray rfl rfl 195 _ (heap_alloc_new w _) (by kernel_rfl) rfl (by kernel_rfl) ?_
  rw [World.setRow_alloc_new]
  have hcell : ∀ j v, opsL[j]? = some v → (w.alloc (.cells opsL.toArray 195)).cell? ⟨w.heap.size, 0 + j, none⟩ = some v := cell_newl w opsL _ _ rfl
  have hload : (loadVar 195 ⟨w.heap.size, 0, none⟩).run Try.prog (w.alloc (.cells opsL.toArray 195)) = .ok (.agg opsL.toArray) (w.alloc (.cells opsL.toArray 195)) := run_loadVar_at _ _ _ _ opsL _ hcell Try.underlying195 rfl (by kernel_rfl)
  clear hcell
  go_wp2
  refine bodyPost_ret (v := .agg opsL.toArray) (by simp [results, Try.results126, asAddr, hload]) rfl ⟨rfl, Below_alloc' _ _⟩
theorem w_two (k : Int) (hk : 0 ≤ k) (w : World) : Calls Try.prog 114 #[.int .u8 k] w fun e w' => e = .returned (.bool (twoB k)) ∧ w' = w := by
  by_cases h1 : 0 < k ∧ k < 19
  · have hd : decide (0 < k ∧ k < 19) = true := decide_eq_true h1
    by_cases h2 : k = 17
    · subst h2
      go_enter Try.func114, Try.ntmps114
      go_wp2_with (first | (go_at_call 125; refine (w_known _ _).mono ?_; rintro e w3 ⟨rfl, rfl⟩; rw [hd]))
      go_ret
      exact ⟨rfl, rfl⟩
    · have e2 : (k != 17) = true := by simp [h2]
      by_cases h3 : k = 18
      · subst h3
        go_enter Try.func114, Try.ntmps114
        go_wp2_with (first | (go_at_call 125; refine (w_known _ _).mono ?_; rintro e w3 ⟨rfl, rfl⟩; rw [hd]))
        go_ret
        exact ⟨rfl, rfl⟩
      · have e3 : (k != 18) = true := by simp [h3]
        have e4 : twoB k = true := by unfold twoB; rw [decide_eq_true_eq]; omega
        rw [e4]
        go_enter Try.func114, Try.ntmps114
        go_wp2_with (first | (go_at_call 125; refine (w_known _ _).mono ?_; rintro e w3 ⟨rfl, rfl⟩; rw [hd]))
        go_ret
        exact ⟨rfl, rfl⟩
  · have hd : decide (0 < k ∧ k < 19) = false := decide_eq_false h1
    have e4 : twoB k = false := by unfold twoB; rw [decide_eq_false_iff_not]; omega
    rw [e4]
    go_enter Try.func114, Try.ntmps114
    go_wp2_with (first | (go_at_call 125; refine (w_known _ _).mono ?_; rintro e w3 ⟨rfl, rfl⟩; rw [hd]))
    go_ret
    exact ⟨rfl, rfl⟩
set_option maxRecDepth 100000 in
set_option maxHeartbeats 4000000 in
theorem w_do (k a b : Int) (hk : twoB k = true) (ha : i64 a) (hb : i64 b) (w : World) : Calls Try.prog 115 #[.int .u8 k, .int .i64 a, .int .i64 b] w fun e w' => e = .returned (.tuple #[.int .i64 (doF k a b), .int .i64 0]) ∧ Below w.heap.size w w' := by
  have hr : 1 ≤ k ∧ k ≤ 16 := by unfold twoB at hk; rw [decide_eq_true_eq] at hk; omega
  have hops := Lib.hid w_ops
  have hc : k = 1 ∨ k = 2 ∨ k = 3 ∨ k = 4 ∨ k = 5 ∨ k = 6 ∨ k = 7 ∨ k = 8 ∨ k = 9 ∨ k = 10 ∨ k = 11 ∨ k = 12 ∨ k = 13 ∨ k = 14 ∨ k = 15 ∨ k = 16 := by omega
  rcases hc with rfl | rfl | rfl | rfl | rfl | rfl | rfl | rfl | rfl | rfl | rfl | rfl | rfl | rfl | rfl | rfl
  · have hix : ∀ w, (Instr.index 195 (.agg opsL.toArray) (.int .u8 1)).run Try.prog w = .ok (.agg #[.func (.func 127) #[] #[], .nilFunc]) w := fun _ => by kernel_rfl
    have hfi : ∀ w x y, (Instr.field 194 (.agg #[x, y]) 0).run Try.prog w = .ok x w := fun _ _ _ => by kernel_rfl
    go_enter Try.func115, Try.ntmps115
    go_wp2_with (first
      | (go_at_call 114; refine (w_two _ (by decide) _).mono ?_; rintro e w3 ⟨rfl, rfl⟩; rw [hk])
      | (go_at_call 126; refine (hops.out _).mono ?_; rintro e w3 ⟨rfl, hb3⟩)
      | (go_at_call 127; refine (w_add _ _ ha hb _).mono ?_; rintro e w3 ⟨rfl, rfl⟩))
    refine bodyPost_ret (results_tmp2 rfl _ _ _) rfl ⟨rfl, hb3⟩
  · have hix : ∀ w, (Instr.index 195 (.agg opsL.toArray) (.int .u8 2)).run Try.prog w = .ok (.agg #[.func (.func 128) #[] #[], .nilFunc]) w := fun _ => by kernel_rfl
    have hfi : ∀ w x y, (Instr.field 194 (.agg #[x, y]) 0).run Try.prog w = .ok x w := fun _ _ _ => by kernel_rfl
    go_enter Try.func115, Try.ntmps115
    go_wp2_with (first
      | (go_at_call 114; refine (w_two _ (by decide) _).mono ?_; rintro e w3 ⟨rfl, rfl⟩; rw [hk])
      | (go_at_call 126; refine (hops.out _).mono ?_; rintro e w3 ⟨rfl, hb3⟩)
      | (go_at_call 128; refine (w_sub _ _ ha hb _).mono ?_; rintro e w3 ⟨rfl, rfl⟩))
    refine bodyPost_ret (results_tmp2 rfl _ _ _) rfl ⟨rfl, hb3⟩
  · have hix : ∀ w, (Instr.index 195 (.agg opsL.toArray) (.int .u8 3)).run Try.prog w = .ok (.agg #[.func (.func 129) #[] #[], .nilFunc]) w := fun _ => by kernel_rfl
    have hfi : ∀ w x y, (Instr.field 194 (.agg #[x, y]) 0).run Try.prog w = .ok x w := fun _ _ _ => by kernel_rfl
    go_enter Try.func115, Try.ntmps115
    go_wp2_with (first
      | (go_at_call 114; refine (w_two _ (by decide) _).mono ?_; rintro e w3 ⟨rfl, rfl⟩; rw [hk])
      | (go_at_call 126; refine (hops.out _).mono ?_; rintro e w3 ⟨rfl, hb3⟩)
      | (go_at_call 129; refine (w_mul _ _ ha hb _).mono ?_; rintro e w3 ⟨rfl, rfl⟩))
    refine bodyPost_ret (results_tmp2 rfl _ _ _) rfl ⟨rfl, hb3⟩
  · have hix : ∀ w, (Instr.index 195 (.agg opsL.toArray) (.int .u8 4)).run Try.prog w = .ok (.agg #[.func (.func 130) #[] #[], .nilFunc]) w := fun _ => by kernel_rfl
    have hfi : ∀ w x y, (Instr.field 194 (.agg #[x, y]) 0).run Try.prog w = .ok x w := fun _ _ _ => by kernel_rfl
    go_enter Try.func115, Try.ntmps115
    go_wp2_with (first
      | (go_at_call 114; refine (w_two _ (by decide) _).mono ?_; rintro e w3 ⟨rfl, rfl⟩; rw [hk])
      | (go_at_call 126; refine (hops.out _).mono ?_; rintro e w3 ⟨rfl, hb3⟩)
      | (go_at_call 130; refine (w_div _ _ ha hb _).mono ?_; rintro e w3 ⟨rfl, rfl⟩))
    refine bodyPost_ret (results_tmp2 rfl _ _ _) rfl ⟨rfl, hb3⟩
  · have hix : ∀ w, (Instr.index 195 (.agg opsL.toArray) (.int .u8 5)).run Try.prog w = .ok (.agg #[.func (.func 131) #[] #[], .nilFunc]) w := fun _ => by kernel_rfl
    have hfi : ∀ w x y, (Instr.field 194 (.agg #[x, y]) 0).run Try.prog w = .ok x w := fun _ _ _ => by kernel_rfl
    go_enter Try.func115, Try.ntmps115
    go_wp2_with (first
      | (go_at_call 114; refine (w_two _ (by decide) _).mono ?_; rintro e w3 ⟨rfl, rfl⟩; rw [hk])
      | (go_at_call 126; refine (hops.out _).mono ?_; rintro e w3 ⟨rfl, hb3⟩)
      | (go_at_call 131; refine (w_rem _ _ ha hb _).mono ?_; rintro e w3 ⟨rfl, rfl⟩))
    refine bodyPost_ret (results_tmp2 rfl _ _ _) rfl ⟨rfl, hb3⟩
  · have hix : ∀ w, (Instr.index 195 (.agg opsL.toArray) (.int .u8 6)).run Try.prog w = .ok (.agg #[.func (.func 132) #[] #[], .nilFunc]) w := fun _ => by kernel_rfl
    have hfi : ∀ w x y, (Instr.field 194 (.agg #[x, y]) 0).run Try.prog w = .ok x w := fun _ _ _ => by kernel_rfl
    go_enter Try.func115, Try.ntmps115
    go_wp2_with (first
      | (go_at_call 114; refine (w_two _ (by decide) _).mono ?_; rintro e w3 ⟨rfl, rfl⟩; rw [hk])
      | (go_at_call 126; refine (hops.out _).mono ?_; rintro e w3 ⟨rfl, hb3⟩)
      | (go_at_call 132; refine (w_and _ _ ha hb _).mono ?_; rintro e w3 ⟨rfl, rfl⟩))
    refine bodyPost_ret (results_tmp2 rfl _ _ _) rfl ⟨rfl, hb3⟩
  · have hix : ∀ w, (Instr.index 195 (.agg opsL.toArray) (.int .u8 7)).run Try.prog w = .ok (.agg #[.func (.func 133) #[] #[], .nilFunc]) w := fun _ => by kernel_rfl
    have hfi : ∀ w x y, (Instr.field 194 (.agg #[x, y]) 0).run Try.prog w = .ok x w := fun _ _ _ => by kernel_rfl
    go_enter Try.func115, Try.ntmps115
    go_wp2_with (first
      | (go_at_call 114; refine (w_two _ (by decide) _).mono ?_; rintro e w3 ⟨rfl, rfl⟩; rw [hk])
      | (go_at_call 126; refine (hops.out _).mono ?_; rintro e w3 ⟨rfl, hb3⟩)
      | (go_at_call 133; refine (w_or _ _ ha hb _).mono ?_; rintro e w3 ⟨rfl, rfl⟩))
    refine bodyPost_ret (results_tmp2 rfl _ _ _) rfl ⟨rfl, hb3⟩
  · have hix : ∀ w, (Instr.index 195 (.agg opsL.toArray) (.int .u8 8)).run Try.prog w = .ok (.agg #[.func (.func 134) #[] #[], .nilFunc]) w := fun _ => by kernel_rfl
    have hfi : ∀ w x y, (Instr.field 194 (.agg #[x, y]) 0).run Try.prog w = .ok x w := fun _ _ _ => by kernel_rfl
    go_enter Try.func115, Try.ntmps115
    go_wp2_with (first
      | (go_at_call 114; refine (w_two _ (by decide) _).mono ?_; rintro e w3 ⟨rfl, rfl⟩; rw [hk])
      | (go_at_call 126; refine (hops.out _).mono ?_; rintro e w3 ⟨rfl, hb3⟩)
      | (go_at_call 134; refine (w_xor _ _ ha hb _).mono ?_; rintro e w3 ⟨rfl, rfl⟩))
    refine bodyPost_ret (results_tmp2 rfl _ _ _) rfl ⟨rfl, hb3⟩
  · have hix : ∀ w, (Instr.index 195 (.agg opsL.toArray) (.int .u8 9)).run Try.prog w = .ok (.agg #[.func (.func 135) #[] #[], .nilFunc]) w := fun _ => by kernel_rfl
    have hfi : ∀ w x y, (Instr.field 194 (.agg #[x, y]) 0).run Try.prog w = .ok x w := fun _ _ _ => by kernel_rfl
    go_enter Try.func115, Try.ntmps115
    go_wp2_with (first
      | (go_at_call 114; refine (w_two _ (by decide) _).mono ?_; rintro e w3 ⟨rfl, rfl⟩; rw [hk])
      | (go_at_call 126; refine (hops.out _).mono ?_; rintro e w3 ⟨rfl, hb3⟩)
      | (go_at_call 135; refine (w_shl _ _ _).mono ?_; rintro e w3 ⟨rfl, rfl⟩))
    refine bodyPost_ret (results_tmp2 rfl _ _ _) rfl ⟨rfl, hb3⟩
  · have hix : ∀ w, (Instr.index 195 (.agg opsL.toArray) (.int .u8 10)).run Try.prog w = .ok (.agg #[.func (.func 136) #[] #[], .nilFunc]) w := fun _ => by kernel_rfl
    have hfi : ∀ w x y, (Instr.field 194 (.agg #[x, y]) 0).run Try.prog w = .ok x w := fun _ _ _ => by kernel_rfl
    go_enter Try.func115, Try.ntmps115
    go_wp2_with (first
      | (go_at_call 114; refine (w_two _ (by decide) _).mono ?_; rintro e w3 ⟨rfl, rfl⟩; rw [hk])
      | (go_at_call 126; refine (hops.out _).mono ?_; rintro e w3 ⟨rfl, hb3⟩)
      | (go_at_call 136; refine (w_shr _ _ _).mono ?_; rintro e w3 ⟨rfl, rfl⟩))
    refine bodyPost_ret (results_tmp2 rfl _ _ _) rfl ⟨rfl, hb3⟩
  · have hix : ∀ w, (Instr.index 195 (.agg opsL.toArray) (.int .u8 11)).run Try.prog w = .ok (.agg #[.func (.func 137) #[] #[], .nilFunc]) w := fun _ => by kernel_rfl
    have hfi : ∀ w x y, (Instr.field 194 (.agg #[x, y]) 0).run Try.prog w = .ok x w := fun _ _ _ => by kernel_rfl
    go_enter Try.func115, Try.ntmps115
    go_wp2_with (first
      | (go_at_call 114; refine (w_two _ (by decide) _).mono ?_; rintro e w3 ⟨rfl, rfl⟩; rw [hk])
      | (go_at_call 126; refine (hops.out _).mono ?_; rintro e w3 ⟨rfl, hb3⟩)
      | (go_at_call 137; refine (w_is _ _ _).mono ?_; rintro e w3 ⟨rfl, rfl⟩))
    refine bodyPost_ret (results_tmp2 rfl _ _ _) rfl ⟨rfl, hb3⟩
  · have hix : ∀ w, (Instr.index 195 (.agg opsL.toArray) (.int .u8 12)).run Try.prog w = .ok (.agg #[.func (.func 138) #[] #[], .nilFunc]) w := fun _ => by kernel_rfl
    have hfi : ∀ w x y, (Instr.field 194 (.agg #[x, y]) 0).run Try.prog w = .ok x w := fun _ _ _ => by kernel_rfl
    go_enter Try.func115, Try.ntmps115
    go_wp2_with (first
      | (go_at_call 114; refine (w_two _ (by decide) _).mono ?_; rintro e w3 ⟨rfl, rfl⟩; rw [hk])
      | (go_at_call 126; refine (hops.out _).mono ?_; rintro e w3 ⟨rfl, hb3⟩)
      | (go_at_call 138; refine (w_isNot _ _ _).mono ?_; rintro e w3 ⟨rfl, rfl⟩))
    refine bodyPost_ret (results_tmp2 rfl _ _ _) rfl ⟨rfl, hb3⟩
  · have hix : ∀ w, (Instr.index 195 (.agg opsL.toArray) (.int .u8 13)).run Try.prog w = .ok (.agg #[.func (.func 139) #[] #[], .nilFunc]) w := fun _ => by kernel_rfl
    have hfi : ∀ w x y, (Instr.field 194 (.agg #[x, y]) 0).run Try.prog w = .ok x w := fun _ _ _ => by kernel_rfl
    go_enter Try.func115, Try.ntmps115
    go_wp2_with (first
      | (go_at_call 114; refine (w_two _ (by decide) _).mono ?_; rintro e w3 ⟨rfl, rfl⟩; rw [hk])
      | (go_at_call 126; refine (hops.out _).mono ?_; rintro e w3 ⟨rfl, hb3⟩)
      | (go_at_call 139; refine (w_less _ _ _).mono ?_; rintro e w3 ⟨rfl, rfl⟩))
    refine bodyPost_ret (results_tmp2 rfl _ _ _) rfl ⟨rfl, hb3⟩
  · have hix : ∀ w, (Instr.index 195 (.agg opsL.toArray) (.int .u8 14)).run Try.prog w = .ok (.agg #[.func (.func 140) #[] #[], .nilFunc]) w := fun _ => by kernel_rfl
    have hfi : ∀ w x y, (Instr.field 194 (.agg #[x, y]) 0).run Try.prog w = .ok x w := fun _ _ _ => by kernel_rfl
    go_enter Try.func115, Try.ntmps115
    go_wp2_with (first
      | (go_at_call 114; refine (w_two _ (by decide) _).mono ?_; rintro e w3 ⟨rfl, rfl⟩; rw [hk])
      | (go_at_call 126; refine (hops.out _).mono ?_; rintro e w3 ⟨rfl, hb3⟩)
      | (go_at_call 140; refine (w_most _ _ _).mono ?_; rintro e w3 ⟨rfl, rfl⟩))
    refine bodyPost_ret (results_tmp2 rfl _ _ _) rfl ⟨rfl, hb3⟩
  · have hix : ∀ w, (Instr.index 195 (.agg opsL.toArray) (.int .u8 15)).run Try.prog w = .ok (.agg #[.func (.func 141) #[] #[], .nilFunc]) w := fun _ => by kernel_rfl
    have hfi : ∀ w x y, (Instr.field 194 (.agg #[x, y]) 0).run Try.prog w = .ok x w := fun _ _ _ => by kernel_rfl
    go_enter Try.func115, Try.ntmps115
    go_wp2_with (first
      | (go_at_call 114; refine (w_two _ (by decide) _).mono ?_; rintro e w3 ⟨rfl, rfl⟩; rw [hk])
      | (go_at_call 126; refine (hops.out _).mono ?_; rintro e w3 ⟨rfl, hb3⟩)
      | (go_at_call 141; refine (w_above _ _ _).mono ?_; rintro e w3 ⟨rfl, rfl⟩))
    refine bodyPost_ret (results_tmp2 rfl _ _ _) rfl ⟨rfl, hb3⟩
  · have hix : ∀ w, (Instr.index 195 (.agg opsL.toArray) (.int .u8 16)).run Try.prog w = .ok (.agg #[.func (.func 142) #[] #[], .nilFunc]) w := fun _ => by kernel_rfl
    have hfi : ∀ w x y, (Instr.field 194 (.agg #[x, y]) 0).run Try.prog w = .ok x w := fun _ _ _ => by kernel_rfl
    go_enter Try.func115, Try.ntmps115
    go_wp2_with (first
      | (go_at_call 114; refine (w_two _ (by decide) _).mono ?_; rintro e w3 ⟨rfl, rfl⟩; rw [hk])
      | (go_at_call 126; refine (hops.out _).mono ?_; rintro e w3 ⟨rfl, hb3⟩)
      | (go_at_call 142; refine (w_least _ _ _).mono ?_; rintro e w3 ⟨rfl, rfl⟩))
    refine bodyPost_ret (results_tmp2 rfl _ _ _) rfl ⟨rfl, hb3⟩
set_option maxRecDepth 100000 in
set_option maxHeartbeats 4000000 in
theorem w_one (k a : Int) (hk : k = 17 ∨ k = 18) (w : World) : Calls Try.prog 116 #[.int .u8 k, .int .i64 a] w fun e w' => e = .returned (.tuple #[.int .i64 (oneF k a), .int .i64 0]) ∧ Below w.heap.size w w' := by
  have hops := Lib.hid w_ops
  have hd : ∀ k : Int, k = 17 ∨ k = 18 → decide (0 < k ∧ k < 19) = true := fun k h => decide_eq_true (by omega)
  have ht : ∀ k : Int, k = 17 ∨ k = 18 → twoB k = false := fun k h => by unfold twoB; rw [decide_eq_false_iff_not]; omega
  have H := Lib.hid (And.intro (hd k hk) (ht k hk)); clear hd ht
  rcases hk with rfl | rfl
  · have hix : ∀ w, (Instr.index 195 (.agg opsL.toArray) (.int .u8 17)).run Try.prog w = .ok (.agg #[.nilFunc, .func (.func 143) #[] #[]]) w := fun _ => by kernel_rfl
    have hfi : ∀ w x y, (Instr.field 194 (.agg #[x, y]) 1).run Try.prog w = .ok y w := fun _ _ _ => by kernel_rfl
    go_enter Try.func116, Try.ntmps116
    go_wp2_with (first
      | (go_at_call 125; refine (w_known _ _).mono ?_; rintro e w3 ⟨rfl, rfl⟩; rw [H.out.1])
      | (go_at_call 114; refine (w_two _ (by decide) _).mono ?_; rintro e w3 ⟨rfl, rfl⟩; rw [H.out.2])
      | (go_at_call 126; refine (hops.out _).mono ?_; rintro e w3 ⟨rfl, hb3⟩)
      | (go_at_call 143; refine (w_minus _ _).mono ?_; rintro e w3 ⟨rfl, rfl⟩))
    refine bodyPost_ret (results_tmp2 rfl _ _ _) rfl ⟨rfl, hb3⟩
  · have hix : ∀ w, (Instr.index 195 (.agg opsL.toArray) (.int .u8 18)).run Try.prog w = .ok (.agg #[.nilFunc, .func (.func 144) #[] #[]]) w := fun _ => by kernel_rfl
    have hfi : ∀ w x y, (Instr.field 194 (.agg #[x, y]) 1).run Try.prog w = .ok y w := fun _ _ _ => by kernel_rfl
    go_enter Try.func116, Try.ntmps116
    go_wp2_with (first
      | (go_at_call 125; refine (w_known _ _).mono ?_; rintro e w3 ⟨rfl, rfl⟩; rw [H.out.1])
      | (go_at_call 114; refine (w_two _ (by decide) _).mono ?_; rintro e w3 ⟨rfl, rfl⟩; rw [H.out.2])
      | (go_at_call 126; refine (hops.out _).mono ?_; rintro e w3 ⟨rfl, hb3⟩)
      | (go_at_call 144; refine (w_not _ _).mono ?_; rintro e w3 ⟨rfl, rfl⟩))
    refine bodyPost_ret (results_tmp2 rfl _ _ _) rfl ⟨rfl, hb3⟩
end Go.Proofs.Ytkkmkjjbffpgnaa
