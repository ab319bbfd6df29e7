import Derived.Test.YtffgnjgphkdodaaGreatDoorP107
import Derived.Test.YtffgnjgphkdodaaGreatDoorP09
/- The reference's Store and Load of layer 11, and the law's has. -/
namespace Go.Proofs.YtffgnjgphkdodaaGreatDoor
open Go Go.RowKit
set_option maxHeartbeats 1000000 in
theorem has11_calls (v : Value) (F : List Int) (n : Int) (w : World) (hF : Ints (cmap w) v F) :
    Calls Tryz.prog 31 #[v, .int .i64 n] w fun e w' => e = .returned (.bool (decide (n ∈ F))) ∧ w = w' := by
  obtain ⟨A, c, rfl, -⟩ := id hF
  have bF := hF.len.2.2
  obtain ⟨r, hr⟩ : ∃ r, decide (n ∈ F) = r := ⟨_, rfl⟩
  rw [hr]
  have HR := Lib.hid hr; clear hr
  go_enter Tryz.func31, Tryz.ntmps31
  go_wp2
  go_loop [9] (fun v9 => ∃ (k : Nat), v9 = .int .i64 k ∧ k ≤ F.length ∧ Hid (n ∉ F.take k)) (fun v9 => F.length - (intOf v9).toNat)
  case atStart => exact ⟨0, rfl, by omega, by simp [Hid]⟩
  case round =>
    obtain ⟨k, rfl, hk, HQ⟩ := hrel
    by_cases hlt : k < F.length
    · obtain ⟨x, hx⟩ : ∃ x, F[k]? = some x := ⟨_, List.getElem?_eq_getElem hlt⟩
      obtain ⟨b, o, rfl, g1⟩ := hF.at_ hx
      rw [Nat.mul_one] at g1
      have g2 : w.cell? ⟨b, o + k, none⟩ = some (.int .i64 x) := g1
      have hk0 : (0 : Int) ≤ k := by omega
      have hkl : (k : Int) < F.length := by omega
      have HX := Lib.hid hx; clear hx g1
      by_cases h1 : x = n
      · have hd : (x == n) = true := by simp [h1]
        have hrr : r = true := by rw [← HR.out]; exact decide_eq_true (h1 ▸ List.mem_of_getElem? HX.out)
        subst hrr
        go_wp2
        go_ret
        exact ⟨rfl, rfl⟩
      · have hd : (x == n) = false := by simp [h1]
        have hnx : n ∉ F.take (k + 1) := by
          have h3 := (List.getElem?_eq_some_iff.1 HX.out).2
          rw [List.take_succ_eq_append_getElem hlt, h3]
          simp only [List.mem_append, List.mem_singleton, not_or]
          exact ⟨HQ.out, fun e => h1 e.symm⟩
        have HNX := Lib.hid hnx; clear hnx
        go_wp2
        go_round
        case rel => exact ⟨k + 1, by go_num, by omega, HNX⟩
        case measure => simp [intOf]; omega
    · have hrr : r = false := by
        rw [← HR.out]
        have h3 := HQ.out
        rw [List.take_of_length_le (by omega)] at h3
        exact decide_eq_false h3
      subst hrr
      go_wp2
      go_ret
      exact ⟨rfl, rfl⟩

theorem cls_kind {u : Unit_} {m : CM} {A : Option Addr} {n c : Nat} (h : Clss m (.slice A n c) ((List.range u.shared.length).map fun x : Nat => classF u (x : Int))) {k : Nat} (hk : k < u.shared.length) : ∃ b o, A = some ⟨b, o, none⟩ ∧ m b (o + k * 3) = some (.int .u8 (classF u (k : Int)).kind) := by
  obtain ⟨b, o, rfl, cs, rfl, hc⟩ := h.at_ (i := k) (x := classF u (k : Int)) (by rw [List.getElem?_map, List.getElem?_range hk]; rfl)
  exact ⟨b, o, rfl, by have := hc 0 _ rfl; simpa using this⟩
set_option maxHeartbeats 1000000 in
theorem rstore_calls (u : Unit_) (n : Node) (cv : Value) (w : World) (hcl : Clss (cmap w) cv ((List.range u.shared.length).map fun x : Nat => classF u (x : Int))) (hth : n.kind = 3 → 0 ≤ n.thing ∧ n.thing < u.shared.length) :
    Calls Tryz.prog 33 #[cv, .agg n.cells.toArray] w fun e w' => e = .returned (.bool (stB u n)) ∧ Below w.heap.size w w' := by
  obtain ⟨A, c, rfl, -⟩ := id hcl
  have hlen := hcl.len
  simp only [List.length_map, List.length_range] at hlen
  obtain ⟨r, hr⟩ : ∃ r, stB u n = r := ⟨_, rfl⟩
  rw [hr]
  unfold stB at hr
  simp only [List.length_map, List.length_range]
  by_cases h6 : n.kind = 6
  · have d6 : (n.kind == 6) = true := by simp [h6]
    obtain rfl : r = true := by rw [← hr]; exact decide_eq_true (.inl h6)
    unfold Node.cells
    clear hr hth hcl h6
    go_enter Tryz.func33, Tryz.ntmps33
    go_wp2
    go_ret
    exact ⟨rfl, Below_alloc _ _⟩
  · have d6 : (n.kind == 6) = false := by simp [h6]
    by_cases h3 : n.kind = 3
    · have d3 : (n.kind == 3) = true := by simp [h3]
      obtain ⟨t0, t1⟩ := hth h3
      obtain ⟨k, hk⟩ := Int.eq_ofNat_of_zero_le t0
      rw [hk] at t1 hr
      obtain ⟨b, o, rfl, hc⟩ := cls_kind hcl (k := k) (by omega)
      have hc' : w.cell? ⟨b, o + k * 3, none⟩ = some (.int .u8 (classF u (k : Int)).kind) := hc
      obtain ⟨kd, hkd⟩ : ∃ kd, (classF u (k : Int)).kind = kd := ⟨_, rfl⟩
      rw [hkd] at hc' hr
      have hr2 : r = (kd == 3) := by
        rw [← hr, Bool.eq_iff_iff]
        simp [h3]
      subst hr2
      unfold Node.cells
      rw [hk]
      have k0 : (0 : Int) ≤ k := by omega
      have hbl := World.block_lt_of_cell? _ _ hc'
      simp only at hbl
      clear hr hth hcl h6 h3 hc hk t0
      cases hd : (kd == 3) with
      | true =>
        go_enter Tryz.func33, Tryz.ntmps33
        go_wp2
        go_ret
        exact ⟨rfl, Below_alloc _ _⟩
      | false =>
        go_enter Tryz.func33, Tryz.ntmps33
        go_wp2
        go_ret
        exact ⟨rfl, Below_alloc _ _⟩
    · have d3 : (n.kind == 3) = false := by simp [h3]
      obtain rfl : r = false := by rw [← hr]; exact decide_eq_false (by omega)
      unfold Node.cells
      clear hr hth hcl h6 h3
      go_enter Tryz.func33, Tryz.ntmps33
      go_wp2
      go_ret
      exact ⟨rfl, Below_alloc _ _⟩
set_option maxHeartbeats 1000000 in
theorem rload_calls (u : Unit_) (n : Node) (cv : Value) (w : World) (hcl : Clss (cmap w) cv ((List.range u.shared.length).map fun x : Nat => classF u (x : Int))) (hth : n.kind = 2 → 0 ≤ n.thing ∧ n.thing < u.shared.length) :
    Calls Tryz.prog 55 #[cv, .agg n.cells.toArray] w fun e w' => e = .returned (.bool (ldB u n)) ∧ Below w.heap.size w w' := by
  obtain ⟨A, c, rfl, -⟩ := id hcl
  have hlen := hcl.len
  simp only [List.length_map, List.length_range] at hlen
  obtain ⟨r, hr⟩ : ∃ r, ldB u n = r := ⟨_, rfl⟩
  rw [hr]
  unfold ldB at hr
  simp only [List.length_map, List.length_range]
  by_cases h3 : n.kind = 2
  · have d3 : (n.kind == 2) = true := by simp [h3]
    obtain ⟨t0, t1⟩ := hth h3
    obtain ⟨k, hk⟩ := Int.eq_ofNat_of_zero_le t0
    rw [hk] at t1 hr
    obtain ⟨b, o, rfl, hc⟩ := cls_kind hcl (k := k) (by omega)
    have hc' : w.cell? ⟨b, o + k * 3, none⟩ = some (.int .u8 (classF u (k : Int)).kind) := hc
    obtain ⟨kd, hkd⟩ : ∃ kd, (classF u (k : Int)).kind = kd := ⟨_, rfl⟩
    rw [hkd] at hc' hr
    have hr2 : r = (kd == 3) := by
      rw [← hr, Bool.eq_iff_iff]
      simp [h3]
    subst hr2
    unfold Node.cells
    rw [hk]
    have k0 : (0 : Int) ≤ k := by omega
    have hbl := World.block_lt_of_cell? _ _ hc'
    simp only at hbl
    clear hr hth hcl h3 hc hk t0
    cases hd : (kd == 3) with
    | true =>
      go_enter Tryz.func55, Tryz.ntmps55
      go_wp2
      go_ret
      exact ⟨rfl, Below_alloc _ _⟩
    | false =>
      go_enter Tryz.func55, Tryz.ntmps55
      go_wp2
      go_ret
      exact ⟨rfl, Below_alloc _ _⟩
  · have d3 : (n.kind == 2) = false := by simp [h3]
    obtain rfl : r = false := by rw [← hr]; exact decide_eq_false (by omega)
    unfold Node.cells
    clear hr hth hcl h3
    go_enter Tryz.func55, Tryz.ntmps55
    go_wp2
    go_ret
    exact ⟨rfl, Below_alloc _ _⟩
end Go.Proofs.YtffgnjgphkdodaaGreatDoor
