import Derived.Test.YtffgnjgphkdodaaGreatDoorP61
import Derived.Test.YtffgnjgphkdodaaGreatDoorP02
import Derived.Handy
import Derived.Great.BuildSlice
import Derived.Deep.WholeRow
/- The walks of package words' operators. -/
namespace Go.Proofs.YtffgnjgphkdodaaGreatDoor
open Go Go.RowKit
theorem ret_i {a b : Int} (h : a = b) : Ending.returned (.int .i64 a) = .returned (.int .i64 b) := by rw [h]
theorem w_truth (b : Bool) (w : World) : Calls Tryz.prog 206 #[.bool b] w fun e w' => e = .returned (.int .i64 (b2w b)) ∧ w' = w := by
  cases b
  all_goals (
    go_enter Tryz.func206, Tryz.ntmps206
    go_wp2
    go_ret
    exact ⟨rfl, rfl⟩)
theorem sh_nat (b : Int) : 0 ≤ bits .and .u64 (IntKind.u64.wrap b) 63 := bits_lo_u64 _ _ _
theorem run_shl (a b : Int) (w : World) : (Op.shift .shl .i64 a .u64 (bits .and .u64 (IntKind.u64.wrap b) 63)).run Tryz.prog w = .ok (.int .i64 (doF 9 a b)) w := by
  unfold Op.shift
  rw [if_neg (by have := sh_nat b; omega)]
  rfl
theorem run_shr (a b : Int) (w : World) : (Op.shift .shr .i64 a .u64 (bits .and .u64 (IntKind.u64.wrap b) 63)).run Tryz.prog w = .ok (.int .i64 (doF 10 a b)) w := by
  unfold Op.shift
  rw [if_neg (by have := sh_nat b; omega)]
  rfl
theorem w_shl (a b : Int) (w : World) : Calls Tryz.prog 196 #[.int .i64 a, .int .i64 b] w fun e w' => e = .returned (.int .i64 (doF 9 a b)) ∧ w' = w := by
  have hsh := fun w => run_shl a b w
  go_enter Tryz.func196, Tryz.ntmps196
  go_wp2
  go_ret
  exact ⟨rfl, rfl⟩
theorem w_shr (a b : Int) (w : World) : Calls Tryz.prog 197 #[.int .i64 a, .int .i64 b] w fun e w' => e = .returned (.int .i64 (doF 10 a b)) ∧ w' = w := by
  have hsh := fun w => run_shr a b w
  go_enter Tryz.func197, Tryz.ntmps197
  go_wp2
  go_ret
  exact ⟨rfl, rfl⟩
theorem w_add (a b : Int) (ha : i64 a) (hb : i64 b) (w : World) : Calls Tryz.prog 188 #[.int .i64 a, .int .i64 b] w fun e w' => e = .returned (.int .i64 (doF 1 a b)) ∧ w' = w := by
  obtain ⟨ha0, ha1⟩ := ha
  obtain ⟨hb0, hb1⟩ := hb
  go_enter Tryz.func188, Tryz.ntmps188
  go_wp2
  go_ret
  refine ⟨ret_i ?_, rfl⟩
  simp [doF]
theorem w_sub (a b : Int) (ha : i64 a) (hb : i64 b) (w : World) : Calls Tryz.prog 189 #[.int .i64 a, .int .i64 b] w fun e w' => e = .returned (.int .i64 (doF 2 a b)) ∧ w' = w := by
  obtain ⟨ha0, ha1⟩ := ha
  obtain ⟨hb0, hb1⟩ := hb
  go_enter Tryz.func189, Tryz.ntmps189
  go_wp2
  go_ret
  refine ⟨ret_i ?_, rfl⟩
  simp [doF]
theorem w_mul (a b : Int) (ha : i64 a) (hb : i64 b) (w : World) : Calls Tryz.prog 190 #[.int .i64 a, .int .i64 b] w fun e w' => e = .returned (.int .i64 (doF 3 a b)) ∧ w' = w := by
  obtain ⟨ha0, ha1⟩ := ha
  obtain ⟨hb0, hb1⟩ := hb
  go_enter Tryz.func190, Tryz.ntmps190
  go_wp2
  go_ret
  refine ⟨ret_i ?_, rfl⟩
  simp [doF]
theorem w_and (a b : Int) (ha : i64 a) (hb : i64 b) (w : World) : Calls Tryz.prog 193 #[.int .i64 a, .int .i64 b] w fun e w' => e = .returned (.int .i64 (doF 6 a b)) ∧ w' = w := by
  obtain ⟨ha0, ha1⟩ := ha
  obtain ⟨hb0, hb1⟩ := hb
  go_enter Tryz.func193, Tryz.ntmps193
  go_wp2
  go_ret
  refine ⟨ret_i ?_, rfl⟩
  simp [doF]
theorem w_or (a b : Int) (ha : i64 a) (hb : i64 b) (w : World) : Calls Tryz.prog 194 #[.int .i64 a, .int .i64 b] w fun e w' => e = .returned (.int .i64 (doF 7 a b)) ∧ w' = w := by
  obtain ⟨ha0, ha1⟩ := ha
  obtain ⟨hb0, hb1⟩ := hb
  go_enter Tryz.func194, Tryz.ntmps194
  go_wp2
  go_ret
  refine ⟨ret_i ?_, rfl⟩
  simp [doF]
theorem w_xor (a b : Int) (ha : i64 a) (hb : i64 b) (w : World) : Calls Tryz.prog 195 #[.int .i64 a, .int .i64 b] w fun e w' => e = .returned (.int .i64 (doF 8 a b)) ∧ w' = w := by
  obtain ⟨ha0, ha1⟩ := ha
  obtain ⟨hb0, hb1⟩ := hb
  go_enter Tryz.func195, Tryz.ntmps195
  go_wp2
  go_ret
  refine ⟨ret_i ?_, rfl⟩
  simp [doF]
theorem w_is (a b : Int) (w : World) : Calls Tryz.prog 198 #[.int .i64 a, .int .i64 b] w fun e w' => e = .returned (.int .i64 (doF 11 a b)) ∧ w' = w := by
  go_enter Tryz.func198, Tryz.ntmps198
  go_wp2_with (first | (go_at_call 206; refine (w_truth _ _).mono ?_; rintro e w3 ⟨rfl, rfl⟩))
  go_ret
  refine ⟨ret_i ?_, rfl⟩
  simp [doF]
theorem w_isNot (a b : Int) (w : World) : Calls Tryz.prog 199 #[.int .i64 a, .int .i64 b] w fun e w' => e = .returned (.int .i64 (doF 12 a b)) ∧ w' = w := by
  go_enter Tryz.func199, Tryz.ntmps199
  go_wp2_with (first | (go_at_call 206; refine (w_truth _ _).mono ?_; rintro e w3 ⟨rfl, rfl⟩))
  go_ret
  refine ⟨ret_i ?_, rfl⟩
  simp [doF]
theorem w_less (a b : Int) (w : World) : Calls Tryz.prog 200 #[.int .i64 a, .int .i64 b] w fun e w' => e = .returned (.int .i64 (doF 13 a b)) ∧ w' = w := by
  go_enter Tryz.func200, Tryz.ntmps200
  go_wp2_with (first | (go_at_call 206; refine (w_truth _ _).mono ?_; rintro e w3 ⟨rfl, rfl⟩))
  go_ret
  refine ⟨ret_i ?_, rfl⟩
  simp [doF]
theorem w_most (a b : Int) (w : World) : Calls Tryz.prog 201 #[.int .i64 a, .int .i64 b] w fun e w' => e = .returned (.int .i64 (doF 14 a b)) ∧ w' = w := by
  go_enter Tryz.func201, Tryz.ntmps201
  go_wp2_with (first | (go_at_call 206; refine (w_truth _ _).mono ?_; rintro e w3 ⟨rfl, rfl⟩))
  go_ret
  refine ⟨ret_i ?_, rfl⟩
  simp [doF]
theorem w_above (a b : Int) (w : World) : Calls Tryz.prog 202 #[.int .i64 a, .int .i64 b] w fun e w' => e = .returned (.int .i64 (doF 15 a b)) ∧ w' = w := by
  go_enter Tryz.func202, Tryz.ntmps202
  go_wp2_with (first | (go_at_call 206; refine (w_truth _ _).mono ?_; rintro e w3 ⟨rfl, rfl⟩))
  go_ret
  refine ⟨ret_i ?_, rfl⟩
  simp [doF]
theorem w_least (a b : Int) (w : World) : Calls Tryz.prog 203 #[.int .i64 a, .int .i64 b] w fun e w' => e = .returned (.int .i64 (doF 16 a b)) ∧ w' = w := by
  go_enter Tryz.func203, Tryz.ntmps203
  go_wp2_with (first | (go_at_call 206; refine (w_truth _ _).mono ?_; rintro e w3 ⟨rfl, rfl⟩))
  go_ret
  refine ⟨ret_i ?_, rfl⟩
  simp [doF]
theorem w_div (a b : Int) (ha : i64 a) (hb : i64 b) (w : World) : Calls Tryz.prog 191 #[.int .i64 a, .int .i64 b] w fun e w' => e = .returned (.int .i64 (divF a b)) ∧ w' = w := by
  obtain ⟨ha0, ha1⟩ := ha
  obtain ⟨hb0, hb1⟩ := hb
  by_cases h0 : b = 0
  · subst h0
    go_enter Tryz.func191, Tryz.ntmps191
    go_wp2
    go_ret
    exact ⟨rfl, rfl⟩
  · by_cases h1 : b = -1
    · subst h1
      go_enter Tryz.func191, Tryz.ntmps191
      go_wp2
      go_ret
      refine ⟨ret_i ?_, rfl⟩
      simp [divF]
    · have e0 : (b == 0) = false := by simp [h0]
      have e1 : (b == -1) = false := by simp [h1]
      go_enter Tryz.func191, Tryz.ntmps191
      go_wp2
      go_ret
      refine ⟨ret_i ?_, rfl⟩
      simp [divF, h0, h1]
theorem w_rem (a b : Int) (ha : i64 a) (hb : i64 b) (w : World) : Calls Tryz.prog 192 #[.int .i64 a, .int .i64 b] w fun e w' => e = .returned (.int .i64 (doF 5 a b)) ∧ w' = w := by
  by_cases h0 : b = 0
  · subst h0
    go_enter Tryz.func192, Tryz.ntmps192
    go_wp2
    go_ret
    exact ⟨rfl, rfl⟩
  · have e0 : (b == 0) = false := by simp [h0]
    go_enter Tryz.func192, Tryz.ntmps192
    go_wp2_with (first | (go_at_call 191; refine (w_div a b ha hb _).mono ?_; rintro e w3 ⟨rfl, rfl⟩))
    go_ret
    refine ⟨ret_i ?_, rfl⟩
    simp [doF, h0]
theorem w_not (a : Int) (w : World) : Calls Tryz.prog 205 #[.int .i64 a] w fun e w' => e = .returned (.int .i64 (oneF 18 a)) ∧ w' = w := by
  go_enter Tryz.func205, Tryz.ntmps205
  go_wp2_with (first | (go_at_call 206; refine (w_truth _ _).mono ?_; rintro e w3 ⟨rfl, rfl⟩))
  go_ret
  refine ⟨ret_i ?_, rfl⟩
  simp [oneF]
theorem w_minus (a : Int) (w : World) : Calls Tryz.prog 204 #[.int .i64 a] w fun e w' => e = .returned (.int .i64 (oneF 17 a)) ∧ w' = w := by
  go_enter Tryz.func204, Tryz.ntmps204
  go_wp2
  go_ret
  refine ⟨ret_i ?_, rfl⟩
  simp [oneF]
theorem w_known (k : Int) (w : World) : Calls Tryz.prog 182 #[.int .u8 k] w fun e w' => e = .returned (.bool (decide (0 < k ∧ k < 19))) ∧ w' = w := by
  by_cases h1 : 0 < k <;> by_cases h2 : k < 19
  all_goals (
    go_enter Tryz.func182, Tryz.ntmps182
    go_wp2
    go_ret
    refine ⟨ret_bool (Bool.eq_iff_iff.2 ?_), rfl⟩
    simp
    try omega)
def opsL : List Value := [.nilFunc, .nilFunc, .func (.func 188) #[] #[], .nilFunc, .func (.func 189) #[] #[], .nilFunc, .func (.func 190) #[] #[], .nilFunc, .func (.func 191) #[] #[], .nilFunc, .func (.func 192) #[] #[], .nilFunc, .func (.func 193) #[] #[], .nilFunc, .func (.func 194) #[] #[], .nilFunc, .func (.func 195) #[] #[], .nilFunc, .func (.func 196) #[] #[], .nilFunc, .func (.func 197) #[] #[], .nilFunc, .func (.func 198) #[] #[], .nilFunc, .func (.func 199) #[] #[], .nilFunc, .func (.func 200) #[] #[], .nilFunc, .func (.func 201) #[] #[], .nilFunc, .func (.func 202) #[] #[], .nilFunc, .func (.func 203) #[] #[], .nilFunc, .nilFunc, .func (.func 204) #[] #[], .nilFunc, .func (.func 205) #[] #[]]
theorem w_ops (w : World) : Calls Tryz.prog 183 #[] w fun e w' => e = .returned (.agg opsL.toArray) ∧ Below w.heap.size w w' := by
  go_enter Tryz.func183, Tryz.ntmps183
  go_wp2_with (first | (refine (stop_store 252 rfl ?_)))
  refine Stop.intro ?_
  refine wpList_store_rowTo rfl 252 _ _ rfl rfl w.heap.size opsL.toArray rfl rfl 252 _ (heap_alloc_new w _) (by kernel_rfl) rfl (by kernel_rfl) ?_
  rw [World.setRow_alloc_new]
  have hcell : ∀ j v, opsL[j]? = some v → (w.alloc (.cells opsL.toArray 252)).cell? ⟨w.heap.size, 0 + j, none⟩ = some v := cell_newl w opsL _ _ rfl
  have hload : (loadVar 252 ⟨w.heap.size, 0, none⟩).run Tryz.prog (w.alloc (.cells opsL.toArray 252)) = .ok (.agg opsL.toArray) (w.alloc (.cells opsL.toArray 252)) := run_loadVar_at _ _ _ _ opsL _ hcell Tryz.underlying252 rfl (by kernel_rfl)
  clear hcell
  go_wp2
  refine bodyPost_ret (v := .agg opsL.toArray) (by simp [results, Tryz.results183, asAddr, hload]) rfl ⟨rfl, Below_alloc' _ _⟩
theorem w_two (k : Int) (hk : 0 ≤ k) (w : World) : Calls Tryz.prog 163 #[.int .u8 k] w fun e w' => e = .returned (.bool (twoB k)) ∧ w' = w := by
  by_cases h1 : 0 < k ∧ k < 19
  · have hd : decide (0 < k ∧ k < 19) = true := decide_eq_true h1
    by_cases h2 : k = 17
    · subst h2
      go_enter Tryz.func163, Tryz.ntmps163
      go_wp2_with (first | (go_at_call 182; refine (w_known _ _).mono ?_; rintro e w3 ⟨rfl, rfl⟩; rw [hd]))
      go_ret
      exact ⟨rfl, rfl⟩
    · have e2 : (k != 17) = true := by simp [h2]
      by_cases h3 : k = 18
      · subst h3
        go_enter Tryz.func163, Tryz.ntmps163
        go_wp2_with (first | (go_at_call 182; refine (w_known _ _).mono ?_; rintro e w3 ⟨rfl, rfl⟩; rw [hd]))
        go_ret
        exact ⟨rfl, rfl⟩
      · have e3 : (k != 18) = true := by simp [h3]
        have e4 : twoB k = true := by unfold twoB; rw [decide_eq_true_eq]; omega
        rw [e4]
        go_enter Tryz.func163, Tryz.ntmps163
        go_wp2_with (first | (go_at_call 182; refine (w_known _ _).mono ?_; rintro e w3 ⟨rfl, rfl⟩; rw [hd]))
        go_ret
        exact ⟨rfl, rfl⟩
  · have hd : decide (0 < k ∧ k < 19) = false := decide_eq_false h1
    have e4 : twoB k = false := by unfold twoB; rw [decide_eq_false_iff_not]; omega
    rw [e4]
    go_enter Tryz.func163, Tryz.ntmps163
    go_wp2_with (first | (go_at_call 182; refine (w_known _ _).mono ?_; rintro e w3 ⟨rfl, rfl⟩; rw [hd]))
    go_ret
    exact ⟨rfl, rfl⟩
set_option maxRecDepth 100000 in
set_option maxHeartbeats 4000000 in
theorem w_do (k a b : Int) (hk : twoB k = true) (ha : i64 a) (hb : i64 b) (w : World) : Calls Tryz.prog 164 #[.int .u8 k, .int .i64 a, .int .i64 b] w fun e w' => e = .returned (.tuple #[.int .i64 (doF k a b), .int .i64 0]) ∧ Below w.heap.size w w' := by
  have hr : 1 ≤ k ∧ k ≤ 16 := by unfold twoB at hk; rw [decide_eq_true_eq] at hk; omega
  have hops := Lib.hid w_ops
  have hc : k = 1 ∨ k = 2 ∨ k = 3 ∨ k = 4 ∨ k = 5 ∨ k = 6 ∨ k = 7 ∨ k = 8 ∨ k = 9 ∨ k = 10 ∨ k = 11 ∨ k = 12 ∨ k = 13 ∨ k = 14 ∨ k = 15 ∨ k = 16 := by omega
  rcases hc with rfl | rfl | rfl | rfl | rfl | rfl | rfl | rfl | rfl | rfl | rfl | rfl | rfl | rfl | rfl | rfl
  · have hix : ∀ w, (Instr.index 252 (.agg opsL.toArray) (.int .u8 1)).run Tryz.prog w = .ok (.agg #[.func (.func 188) #[] #[], .nilFunc]) w := fun _ => by kernel_rfl
    have hfi : ∀ w x y, (Instr.field 251 (.agg #[x, y]) 0).run Tryz.prog w = .ok x w := fun _ _ _ => by kernel_rfl
    go_enter Tryz.func164, Tryz.ntmps164
    go_wp2_with (first
      | (go_at_call 163; refine (w_two _ (by decide) _).mono ?_; rintro e w3 ⟨rfl, rfl⟩; rw [hk])
      | (go_at_call 183; refine (hops.out _).mono ?_; rintro e w3 ⟨rfl, hb3⟩)
      | (go_at_call 188; refine (w_add _ _ ha hb _).mono ?_; rintro e w3 ⟨rfl, rfl⟩))
    refine bodyPost_ret (results_tmp2 rfl _ _ _) rfl ⟨rfl, hb3⟩
  · have hix : ∀ w, (Instr.index 252 (.agg opsL.toArray) (.int .u8 2)).run Tryz.prog w = .ok (.agg #[.func (.func 189) #[] #[], .nilFunc]) w := fun _ => by kernel_rfl
    have hfi : ∀ w x y, (Instr.field 251 (.agg #[x, y]) 0).run Tryz.prog w = .ok x w := fun _ _ _ => by kernel_rfl
    go_enter Tryz.func164, Tryz.ntmps164
    go_wp2_with (first
      | (go_at_call 163; refine (w_two _ (by decide) _).mono ?_; rintro e w3 ⟨rfl, rfl⟩; rw [hk])
      | (go_at_call 183; refine (hops.out _).mono ?_; rintro e w3 ⟨rfl, hb3⟩)
      | (go_at_call 189; refine (w_sub _ _ ha hb _).mono ?_; rintro e w3 ⟨rfl, rfl⟩))
    refine bodyPost_ret (results_tmp2 rfl _ _ _) rfl ⟨rfl, hb3⟩
  · have hix : ∀ w, (Instr.index 252 (.agg opsL.toArray) (.int .u8 3)).run Tryz.prog w = .ok (.agg #[.func (.func 190) #[] #[], .nilFunc]) w := fun _ => by kernel_rfl
    have hfi : ∀ w x y, (Instr.field 251 (.agg #[x, y]) 0).run Tryz.prog w = .ok x w := fun _ _ _ => by kernel_rfl
    go_enter Tryz.func164, Tryz.ntmps164
    go_wp2_with (first
      | (go_at_call 163; refine (w_two _ (by decide) _).mono ?_; rintro e w3 ⟨rfl, rfl⟩; rw [hk])
      | (go_at_call 183; refine (hops.out _).mono ?_; rintro e w3 ⟨rfl, hb3⟩)
      | (go_at_call 190; refine (w_mul _ _ ha hb _).mono ?_; rintro e w3 ⟨rfl, rfl⟩))
    refine bodyPost_ret (results_tmp2 rfl _ _ _) rfl ⟨rfl, hb3⟩
  · have hix : ∀ w, (Instr.index 252 (.agg opsL.toArray) (.int .u8 4)).run Tryz.prog w = .ok (.agg #[.func (.func 191) #[] #[], .nilFunc]) w := fun _ => by kernel_rfl
    have hfi : ∀ w x y, (Instr.field 251 (.agg #[x, y]) 0).run Tryz.prog w = .ok x w := fun _ _ _ => by kernel_rfl
    go_enter Tryz.func164, Tryz.ntmps164
    go_wp2_with (first
      | (go_at_call 163; refine (w_two _ (by decide) _).mono ?_; rintro e w3 ⟨rfl, rfl⟩; rw [hk])
      | (go_at_call 183; refine (hops.out _).mono ?_; rintro e w3 ⟨rfl, hb3⟩)
      | (go_at_call 191; refine (w_div _ _ ha hb _).mono ?_; rintro e w3 ⟨rfl, rfl⟩))
    refine bodyPost_ret (results_tmp2 rfl _ _ _) rfl ⟨rfl, hb3⟩
  · have hix : ∀ w, (Instr.index 252 (.agg opsL.toArray) (.int .u8 5)).run Tryz.prog w = .ok (.agg #[.func (.func 192) #[] #[], .nilFunc]) w := fun _ => by kernel_rfl
    have hfi : ∀ w x y, (Instr.field 251 (.agg #[x, y]) 0).run Tryz.prog w = .ok x w := fun _ _ _ => by kernel_rfl
    go_enter Tryz.func164, Tryz.ntmps164
    go_wp2_with (first
      | (go_at_call 163; refine (w_two _ (by decide) _).mono ?_; rintro e w3 ⟨rfl, rfl⟩; rw [hk])
      | (go_at_call 183; refine (hops.out _).mono ?_; rintro e w3 ⟨rfl, hb3⟩)
      | (go_at_call 192; refine (w_rem _ _ ha hb _).mono ?_; rintro e w3 ⟨rfl, rfl⟩))
    refine bodyPost_ret (results_tmp2 rfl _ _ _) rfl ⟨rfl, hb3⟩
  · have hix : ∀ w, (Instr.index 252 (.agg opsL.toArray) (.int .u8 6)).run Tryz.prog w = .ok (.agg #[.func (.func 193) #[] #[], .nilFunc]) w := fun _ => by kernel_rfl
    have hfi : ∀ w x y, (Instr.field 251 (.agg #[x, y]) 0).run Tryz.prog w = .ok x w := fun _ _ _ => by kernel_rfl
    go_enter Tryz.func164, Tryz.ntmps164
    go_wp2_with (first
      | (go_at_call 163; refine (w_two _ (by decide) _).mono ?_; rintro e w3 ⟨rfl, rfl⟩; rw [hk])
      | (go_at_call 183; refine (hops.out _).mono ?_; rintro e w3 ⟨rfl, hb3⟩)
      | (go_at_call 193; refine (w_and _ _ ha hb _).mono ?_; rintro e w3 ⟨rfl, rfl⟩))
    refine bodyPost_ret (results_tmp2 rfl _ _ _) rfl ⟨rfl, hb3⟩
  · have hix : ∀ w, (Instr.index 252 (.agg opsL.toArray) (.int .u8 7)).run Tryz.prog w = .ok (.agg #[.func (.func 194) #[] #[], .nilFunc]) w := fun _ => by kernel_rfl
    have hfi : ∀ w x y, (Instr.field 251 (.agg #[x, y]) 0).run Tryz.prog w = .ok x w := fun _ _ _ => by kernel_rfl
    go_enter Tryz.func164, Tryz.ntmps164
    go_wp2_with (first
      | (go_at_call 163; refine (w_two _ (by decide) _).mono ?_; rintro e w3 ⟨rfl, rfl⟩; rw [hk])
      | (go_at_call 183; refine (hops.out _).mono ?_; rintro e w3 ⟨rfl, hb3⟩)
      | (go_at_call 194; refine (w_or _ _ ha hb _).mono ?_; rintro e w3 ⟨rfl, rfl⟩))
    refine bodyPost_ret (results_tmp2 rfl _ _ _) rfl ⟨rfl, hb3⟩
  · have hix : ∀ w, (Instr.index 252 (.agg opsL.toArray) (.int .u8 8)).run Tryz.prog w = .ok (.agg #[.func (.func 195) #[] #[], .nilFunc]) w := fun _ => by kernel_rfl
    have hfi : ∀ w x y, (Instr.field 251 (.agg #[x, y]) 0).run Tryz.prog w = .ok x w := fun _ _ _ => by kernel_rfl
    go_enter Tryz.func164, Tryz.ntmps164
    go_wp2_with (first
      | (go_at_call 163; refine (w_two _ (by decide) _).mono ?_; rintro e w3 ⟨rfl, rfl⟩; rw [hk])
      | (go_at_call 183; refine (hops.out _).mono ?_; rintro e w3 ⟨rfl, hb3⟩)
      | (go_at_call 195; refine (w_xor _ _ ha hb _).mono ?_; rintro e w3 ⟨rfl, rfl⟩))
    refine bodyPost_ret (results_tmp2 rfl _ _ _) rfl ⟨rfl, hb3⟩
  · have hix : ∀ w, (Instr.index 252 (.agg opsL.toArray) (.int .u8 9)).run Tryz.prog w = .ok (.agg #[.func (.func 196) #[] #[], .nilFunc]) w := fun _ => by kernel_rfl
    have hfi : ∀ w x y, (Instr.field 251 (.agg #[x, y]) 0).run Tryz.prog w = .ok x w := fun _ _ _ => by kernel_rfl
    go_enter Tryz.func164, Tryz.ntmps164
    go_wp2_with (first
      | (go_at_call 163; refine (w_two _ (by decide) _).mono ?_; rintro e w3 ⟨rfl, rfl⟩; rw [hk])
      | (go_at_call 183; refine (hops.out _).mono ?_; rintro e w3 ⟨rfl, hb3⟩)
      | (go_at_call 196; refine (w_shl _ _ _).mono ?_; rintro e w3 ⟨rfl, rfl⟩))
    refine bodyPost_ret (results_tmp2 rfl _ _ _) rfl ⟨rfl, hb3⟩
  · have hix : ∀ w, (Instr.index 252 (.agg opsL.toArray) (.int .u8 10)).run Tryz.prog w = .ok (.agg #[.func (.func 197) #[] #[], .nilFunc]) w := fun _ => by kernel_rfl
    have hfi : ∀ w x y, (Instr.field 251 (.agg #[x, y]) 0).run Tryz.prog w = .ok x w := fun _ _ _ => by kernel_rfl
    go_enter Tryz.func164, Tryz.ntmps164
    go_wp2_with (first
      | (go_at_call 163; refine (w_two _ (by decide) _).mono ?_; rintro e w3 ⟨rfl, rfl⟩; rw [hk])
      | (go_at_call 183; refine (hops.out _).mono ?_; rintro e w3 ⟨rfl, hb3⟩)
      | (go_at_call 197; refine (w_shr _ _ _).mono ?_; rintro e w3 ⟨rfl, rfl⟩))
    refine bodyPost_ret (results_tmp2 rfl _ _ _) rfl ⟨rfl, hb3⟩
  · have hix : ∀ w, (Instr.index 252 (.agg opsL.toArray) (.int .u8 11)).run Tryz.prog w = .ok (.agg #[.func (.func 198) #[] #[], .nilFunc]) w := fun _ => by kernel_rfl
    have hfi : ∀ w x y, (Instr.field 251 (.agg #[x, y]) 0).run Tryz.prog w = .ok x w := fun _ _ _ => by kernel_rfl
    go_enter Tryz.func164, Tryz.ntmps164
    go_wp2_with (first
      | (go_at_call 163; refine (w_two _ (by decide) _).mono ?_; rintro e w3 ⟨rfl, rfl⟩; rw [hk])
      | (go_at_call 183; refine (hops.out _).mono ?_; rintro e w3 ⟨rfl, hb3⟩)
      | (go_at_call 198; refine (w_is _ _ _).mono ?_; rintro e w3 ⟨rfl, rfl⟩))
    refine bodyPost_ret (results_tmp2 rfl _ _ _) rfl ⟨rfl, hb3⟩
  · have hix : ∀ w, (Instr.index 252 (.agg opsL.toArray) (.int .u8 12)).run Tryz.prog w = .ok (.agg #[.func (.func 199) #[] #[], .nilFunc]) w := fun _ => by kernel_rfl
    have hfi : ∀ w x y, (Instr.field 251 (.agg #[x, y]) 0).run Tryz.prog w = .ok x w := fun _ _ _ => by kernel_rfl
    go_enter Tryz.func164, Tryz.ntmps164
    go_wp2_with (first
      | (go_at_call 163; refine (w_two _ (by decide) _).mono ?_; rintro e w3 ⟨rfl, rfl⟩; rw [hk])
      | (go_at_call 183; refine (hops.out _).mono ?_; rintro e w3 ⟨rfl, hb3⟩)
      | (go_at_call 199; refine (w_isNot _ _ _).mono ?_; rintro e w3 ⟨rfl, rfl⟩))
    refine bodyPost_ret (results_tmp2 rfl _ _ _) rfl ⟨rfl, hb3⟩
  · have hix : ∀ w, (Instr.index 252 (.agg opsL.toArray) (.int .u8 13)).run Tryz.prog w = .ok (.agg #[.func (.func 200) #[] #[], .nilFunc]) w := fun _ => by kernel_rfl
    have hfi : ∀ w x y, (Instr.field 251 (.agg #[x, y]) 0).run Tryz.prog w = .ok x w := fun _ _ _ => by kernel_rfl
    go_enter Tryz.func164, Tryz.ntmps164
    go_wp2_with (first
      | (go_at_call 163; refine (w_two _ (by decide) _).mono ?_; rintro e w3 ⟨rfl, rfl⟩; rw [hk])
      | (go_at_call 183; refine (hops.out _).mono ?_; rintro e w3 ⟨rfl, hb3⟩)
      | (go_at_call 200; refine (w_less _ _ _).mono ?_; rintro e w3 ⟨rfl, rfl⟩))
    refine bodyPost_ret (results_tmp2 rfl _ _ _) rfl ⟨rfl, hb3⟩
  · have hix : ∀ w, (Instr.index 252 (.agg opsL.toArray) (.int .u8 14)).run Tryz.prog w = .ok (.agg #[.func (.func 201) #[] #[], .nilFunc]) w := fun _ => by kernel_rfl
    have hfi : ∀ w x y, (Instr.field 251 (.agg #[x, y]) 0).run Tryz.prog w = .ok x w := fun _ _ _ => by kernel_rfl
    go_enter Tryz.func164, Tryz.ntmps164
    go_wp2_with (first
      | (go_at_call 163; refine (w_two _ (by decide) _).mono ?_; rintro e w3 ⟨rfl, rfl⟩; rw [hk])
      | (go_at_call 183; refine (hops.out _).mono ?_; rintro e w3 ⟨rfl, hb3⟩)
      | (go_at_call 201; refine (w_most _ _ _).mono ?_; rintro e w3 ⟨rfl, rfl⟩))
    refine bodyPost_ret (results_tmp2 rfl _ _ _) rfl ⟨rfl, hb3⟩
  · have hix : ∀ w, (Instr.index 252 (.agg opsL.toArray) (.int .u8 15)).run Tryz.prog w = .ok (.agg #[.func (.func 202) #[] #[], .nilFunc]) w := fun _ => by kernel_rfl
    have hfi : ∀ w x y, (Instr.field 251 (.agg #[x, y]) 0).run Tryz.prog w = .ok x w := fun _ _ _ => by kernel_rfl
    go_enter Tryz.func164, Tryz.ntmps164
    go_wp2_with (first
      | (go_at_call 163; refine (w_two _ (by decide) _).mono ?_; rintro e w3 ⟨rfl, rfl⟩; rw [hk])
      | (go_at_call 183; refine (hops.out _).mono ?_; rintro e w3 ⟨rfl, hb3⟩)
      | (go_at_call 202; refine (w_above _ _ _).mono ?_; rintro e w3 ⟨rfl, rfl⟩))
    refine bodyPost_ret (results_tmp2 rfl _ _ _) rfl ⟨rfl, hb3⟩
  · have hix : ∀ w, (Instr.index 252 (.agg opsL.toArray) (.int .u8 16)).run Tryz.prog w = .ok (.agg #[.func (.func 203) #[] #[], .nilFunc]) w := fun _ => by kernel_rfl
    have hfi : ∀ w x y, (Instr.field 251 (.agg #[x, y]) 0).run Tryz.prog w = .ok x w := fun _ _ _ => by kernel_rfl
    go_enter Tryz.func164, Tryz.ntmps164
    go_wp2_with (first
      | (go_at_call 163; refine (w_two _ (by decide) _).mono ?_; rintro e w3 ⟨rfl, rfl⟩; rw [hk])
      | (go_at_call 183; refine (hops.out _).mono ?_; rintro e w3 ⟨rfl, hb3⟩)
      | (go_at_call 203; refine (w_least _ _ _).mono ?_; rintro e w3 ⟨rfl, rfl⟩))
    refine bodyPost_ret (results_tmp2 rfl _ _ _) rfl ⟨rfl, hb3⟩
set_option maxRecDepth 100000 in
set_option maxHeartbeats 4000000 in
theorem w_one (k a : Int) (hk : k = 17 ∨ k = 18) (w : World) : Calls Tryz.prog 165 #[.int .u8 k, .int .i64 a] w fun e w' => e = .returned (.tuple #[.int .i64 (oneF k a), .int .i64 0]) ∧ Below w.heap.size w w' := by
  have hops := Lib.hid w_ops
  have hd : ∀ k : Int, k = 17 ∨ k = 18 → decide (0 < k ∧ k < 19) = true := fun k h => decide_eq_true (by omega)
  have ht : ∀ k : Int, k = 17 ∨ k = 18 → twoB k = false := fun k h => by unfold twoB; rw [decide_eq_false_iff_not]; omega
  have H := Lib.hid (And.intro (hd k hk) (ht k hk)); clear hd ht
  rcases hk with rfl | rfl
  · have hix : ∀ w, (Instr.index 252 (.agg opsL.toArray) (.int .u8 17)).run Tryz.prog w = .ok (.agg #[.nilFunc, .func (.func 204) #[] #[]]) w := fun _ => by kernel_rfl
    have hfi : ∀ w x y, (Instr.field 251 (.agg #[x, y]) 1).run Tryz.prog w = .ok y w := fun _ _ _ => by kernel_rfl
    go_enter Tryz.func165, Tryz.ntmps165
    go_wp2_with (first
      | (go_at_call 182; refine (w_known _ _).mono ?_; rintro e w3 ⟨rfl, rfl⟩; rw [H.out.1])
      | (go_at_call 163; refine (w_two _ (by decide) _).mono ?_; rintro e w3 ⟨rfl, rfl⟩; rw [H.out.2])
      | (go_at_call 183; refine (hops.out _).mono ?_; rintro e w3 ⟨rfl, hb3⟩)
      | (go_at_call 204; refine (w_minus _ _).mono ?_; rintro e w3 ⟨rfl, rfl⟩))
    refine bodyPost_ret (results_tmp2 rfl _ _ _) rfl ⟨rfl, hb3⟩
  · have hix : ∀ w, (Instr.index 252 (.agg opsL.toArray) (.int .u8 18)).run Tryz.prog w = .ok (.agg #[.nilFunc, .func (.func 205) #[] #[]]) w := fun _ => by kernel_rfl
    have hfi : ∀ w x y, (Instr.field 251 (.agg #[x, y]) 1).run Tryz.prog w = .ok y w := fun _ _ _ => by kernel_rfl
    go_enter Tryz.func165, Tryz.ntmps165
    go_wp2_with (first
      | (go_at_call 182; refine (w_known _ _).mono ?_; rintro e w3 ⟨rfl, rfl⟩; rw [H.out.1])
      | (go_at_call 163; refine (w_two _ (by decide) _).mono ?_; rintro e w3 ⟨rfl, rfl⟩; rw [H.out.2])
      | (go_at_call 183; refine (hops.out _).mono ?_; rintro e w3 ⟨rfl, hb3⟩)
      | (go_at_call 205; refine (w_not _ _).mono ?_; rintro e w3 ⟨rfl, rfl⟩))
    refine bodyPost_ret (results_tmp2 rfl _ _ _) rfl ⟨rfl, hb3⟩
end Go.Proofs.YtffgnjgphkdodaaGreatDoor
