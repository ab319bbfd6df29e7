import Derived.Test.YtffgnjgphkdodaaGreatDoorP107
import Derived.Test.YtffgnjgphkdodaaGreatDoorP09
/- The reference's Store and Load of layer 11, and the law's has. -/
namespace Go.Proofs.YtffgnjgphkdodaaGreatDoor
open Go Go.RowKit
theorem cls_kind {u : Unit_} {m : CM} {A : Option Addr} {n c : Nat} (h : Clss m (.slice A n c) ((List.range u.shared.length).map fun x : Nat => classF u (x : Int))) {k : Nat} (hk : k < u.shared.length) : ∃ b o, A = some ⟨b, o, none⟩ ∧ m b (o + k * 3) = some (.int .u8 (classF u (k : Int)).kind) := by
  obtain ⟨b, o, rfl, cs, rfl, hc⟩ := h.at_ (i := k) (x := classF u (k : Int)) (by rw [List.getElem?_map, List.getElem?_range hk]; rfl)
  exact ⟨b, o, rfl, by have := hc 0 _ rfl; simpa using this⟩
set_option maxHeartbeats 1000000 in
theorem rstore_calls (u : Unit_) (n : Node) (cv : Value) (w : World) (hcl : Clss (cmap w) cv ((List.range u.shared.length).map fun x : Nat => classF u (x : Int))) (hth : n.kind = 3 → 0 ≤ n.thing ∧ n.thing < u.shared.length) :
    Calls Tryz.prog 33 #[cv, .agg n.cells.toArray] w fun e w' => e = .returned (.bool (stB u n)) ∧ Below w.heap.size w w' := by
  obtain ⟨A, c, rfl, -⟩ := id hcl
  have hlen := hcl.len
  simp only [List.length_map, List.length_range] at hlen
  obtain ⟨r, hr⟩ : ∃ r, stB u n = r := ⟨_, rfl⟩
  rw [hr]
  unfold stB at hr
  simp only [List.length_map, List.length_range]
  by_cases h6 : n.kind = 6
  · have d6 : (n.kind == 6) = true := by simp [h6]
    obtain rfl : r = true := by rw [← hr]; exact decide_eq_true (.inl h6)
    unfold Node.cells
    clear hr hth hcl h6
    go_enter Tryz.func33, Tryz.ntmps33
    go_wp2
    go_ret
    exact ⟨rfl, Below_alloc _ _⟩
  · have d6 : (n.kind == 6) = false := by simp [h6]
    by_cases h3 : n.kind = 3
    · have d3 : (n.kind == 3) = true := by simp [h3]
      obtain ⟨t0, t1⟩ := hth h3
      obtain ⟨k, hk⟩ := Int.eq_ofNat_of_zero_le t0
      rw [hk] at t1 hr
      obtain ⟨b, o, rfl, hc⟩ := cls_kind hcl (k := k) (by omega)
      have hc' : w.cell? ⟨b, o + k * 3, none⟩ = some (.int .u8 (classF u (k : Int)).kind) := hc
      obtain ⟨kd, hkd⟩ : ∃ kd, (classF u (k : Int)).kind = kd := ⟨_, rfl⟩
      rw [hkd] at hc' hr
      have hr2 : r = (kd == 3) := by
        rw [← hr, Bool.eq_iff_iff]
        simp [h3]
      subst hr2
      unfold Node.cells
      rw [hk]
      have k0 : (0 : Int) ≤ k := by omega
      have hbl := World.block_lt_of_cell? _ _ hc'
      simp only at hbl
      clear hr hth hcl h6 h3 hc hk t0
      cases hd : (kd == 3) with
      | true =>
        go_enter Tryz.func33, Tryz.ntmps33
        go_wp2
        go_ret
        exact ⟨rfl, Below_alloc _ _⟩
      | false =>
        go_enter Tryz.func33, Tryz.ntmps33
        go_wp2
        go_ret
        exact ⟨rfl, Below_alloc _ _⟩
    · have d3 : (n.kind == 3) = false := by simp [h3]
      obtain rfl : r = false := by rw [← hr]; exact decide_eq_false (by omega)
      unfold Node.cells
      clear hr hth hcl h6 h3
      go_enter Tryz.func33, Tryz.ntmps33
      go_wp2
      go_ret
      exact ⟨rfl, Below_alloc _ _⟩
set_option maxHeartbeats 1000000 in
theorem rload_calls (u : Unit_) (n : Node) (cv : Value) (w : World) (hcl : Clss (cmap w) cv ((List.range u.shared.length).map fun x : Nat => classF u (x : Int))) (hth : n.kind = 2 → 0 ≤ n.thing ∧ n.thing < u.shared.length) :
    Calls Tryz.prog 55 #[cv, .agg n.cells.toArray] w fun e w' => e = .returned (.bool (ldB u n)) ∧ Below w.heap.size w w' := by
  obtain ⟨A, c, rfl, -⟩ := id hcl
  have hlen := hcl.len
  simp only [List.length_map, List.length_range] at hlen
  obtain ⟨r, hr⟩ : ∃ r, ldB u n = r := ⟨_, rfl⟩
  rw [hr]
  unfold ldB at hr
  simp only [List.length_map, List.length_range]
  by_cases h3 : n.kind = 2
  · have d3 : (n.kind == 2) = true := by simp [h3]
    obtain ⟨t0, t1⟩ := hth h3
    obtain ⟨k, hk⟩ := Int.eq_ofNat_of_zero_le t0
    rw [hk] at t1 hr
    obtain ⟨b, o, rfl, hc⟩ := cls_kind hcl (k := k) (by omega)
    have hc' : w.cell? ⟨b, o + k * 3, none⟩ = some (.int .u8 (classF u (k : Int)).kind) := hc
    obtain ⟨kd, hkd⟩ : ∃ kd, (classF u (k : Int)).kind = kd := ⟨_, rfl⟩
    rw [hkd] at hc' hr
    have hr2 : r = (kd == 3) := by
      rw [← hr, Bool.eq_iff_iff]
      simp [h3]
    subst hr2
    unfold Node.cells
    rw [hk]
    have k0 : (0 : Int) ≤ k := by omega
    have hbl := World.block_lt_of_cell? _ _ hc'
    simp only at hbl
    clear hr hth hcl h3 hc hk t0
    cases hd : (kd == 3) with
    | true =>
      go_enter Tryz.func55, Tryz.ntmps55
      go_wp2
      go_ret
      exact ⟨rfl, Below_alloc _ _⟩
    | false =>
      go_enter Tryz.func55, Tryz.ntmps55
      go_wp2
      go_ret
      exact ⟨rfl, Below_alloc _ _⟩
  · have d3 : (n.kind == 2) = false := by simp [h3]
    obtain rfl : r = false := by rw [← hr]; exact decide_eq_false (by omega)
    unfold Node.cells
    clear hr hth hcl h3
    go_enter Tryz.func55, Tryz.ntmps55
    go_wp2
    go_ret
    exact ⟨rfl, Below_alloc _ _⟩
end Go.Proofs.YtffgnjgphkdodaaGreatDoor
