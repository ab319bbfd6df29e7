import Derived.Test.YtffgnjgphkdodaaGreatDoorP69
import Derived.Test.YtffgnjgphkdodaaGreatDoorP35
/- What a source machine is asked: where a thread stands, whether it can, who holds a lock, whether all have ended, who waits. -/
namespace Go.Proofs.YtffgnjgphkdodaaGreatDoor
open Go Go.RowKit
def Mach.where_ (m : Mach) (t : Int) : Int := if 0 ≤ t ∧ t < m.at_.length then (((m.at_[t.toNat]?).getD 0 : Nat) : Int) else -1
def Mach.holder (m : Mach) (l : Int) : Int := if 0 ≤ l ∧ l < m.holders.length then (m.holders[l.toNat]?).getD 0 else -1
section
variable {w w' : World} {R : Nat → Prop} {g : Nat} {L : Lay} {u : Unit_} {m : Mach}
set_option maxHeartbeats 1000000 in
theorem at_calls (t : Int) (h : MachB w R g L u m) :
    Calls Tryz.prog 30 #[.pointer (some ⟨g, 0, none⟩), .int .i64 t] w fun e w' => e = .returned (.int .i64 (m.where_ t)) ∧ ∃ q, w' = w.drewN q := by
  by_cases hr : 0 ≤ t ∧ t < m.at_.length
  · have hd : decide (0 ≤ t ∧ t < m.at_.length) = true := decide_eq_true hr
    obtain ⟨k, rfl⟩ := Int.eq_ofNat_of_zero_le hr.1
    have hkl : k < m.at_.length := by omega
    obtain ⟨i, hi⟩ : ∃ i, m.at_[k]? = some i := ⟨_, List.getElem?_eq_getElem hkl⟩
    have hw : m.where_ k = i := by unfold Mach.where_; rw [if_pos hr, Int.toNat_natCast, hi]; rfl
    rw [hw]
    obtain ⟨ab, ac, hav, a1, a2, a3, -⟩ := h.atAt hi
    have g3 : w.cell? ⟨g, 3, none⟩ = some (.slice (some ⟨ab, 0, none⟩) m.at_.length ac) := by rw [h.cell 3, ← hav]; rfl
    have i0 : (0 : Int) ≤ k := by omega
    have i1 : (k : Int) < m.at_.length := hr.2
    have HT := Lib.hid (And.intro (there_calls (k : Int) h) hd)
    clear h hd hi hr hkl hw hav
    go_enter Tryz.func30, Tryz.ntmps30
    go_wp2_with fail
    refine HT.out.1.mono ?_
    rintro e w1 ⟨rfl, q1, rfl⟩
    rw [HT.out.2]
    have g3' : (w.drewN q1).cell? ⟨g, 3, none⟩ = some (.slice (some ⟨ab, 0, none⟩) m.at_.length ac) := g3
    have a1' : (w.drewN q1).cell? ⟨ab, k, none⟩ = some (.int .i64 i) := a1
    go_wp2
    go_ret
    exact ⟨rfl, q1, rfl⟩
  · have hd : decide (0 ≤ t ∧ t < m.at_.length) = false := decide_eq_false hr
    have hw : m.where_ t = -1 := by unfold Mach.where_; rw [if_neg hr]
    rw [hw]
    have HT := Lib.hid (And.intro (there_calls t h) hd)
    clear h hd hr hw
    go_enter Tryz.func30, Tryz.ntmps30
    go_wp2_with fail
    refine HT.out.1.mono ?_
    rintro e w1 ⟨rfl, q1, rfl⟩
    rw [HT.out.2]
    go_wp2
    go_ret
    exact ⟨rfl, q1, rfl⟩
theorem can_calls (t : Int) (h : MachB w R g L u m) (hok : MachOk u m) (hu : RightU u) :
    Calls Tryz.prog 29 #[.pointer (some ⟨g, 0, none⟩), .int .i64 t] w fun e w' => e = .returned (.bool (barF u m t == 0)) ∧ Below w.heap.size w w' := by
  have HT := Lib.hid (bar_calls t h hok hu)
  clear h hok hu
  go_enter Tryz.func29, Tryz.ntmps29
  go_wp2_with fail
  refine HT.out.mono ?_
  rintro e w1 ⟨rfl, hb⟩
  go_wp2
  go_ret
  exact ⟨rfl, hb⟩
end
end Go.Proofs.YtffgnjgphkdodaaGreatDoor
/- slices.Clone at four element types; what a machine's memory, slots and prints are asked. -/
namespace Go.Proofs.YtffgnjgphkdodaaGreatDoor
open Go Go.RowKit
def PrintC (m : CM) (b o : Nat) (p : Int × Int) : Prop := m b o = some (.int .i64 p.1) ∧ m b (o + 1) = some (.int .i64 p.2)
instance : Mono PrintC := ⟨fun hm ⟨h1, h2⟩ => ⟨hm _ _ _ h1, hm _ _ _ h2⟩⟩
theorem sl_i64 : SlT Tryz.prog 112 2 1 8 (.int .i64 0) := SlT.mk' Tryz.underlying112 (by kernel_rfl) rfl (by omega)
theorem sl_node' : SlT Tryz.prog 67 66 13 96 (.agg #[.int .u8 0, .int .u8 0, .int .i64 0, .int .i64 0, .bool false, .int .i64 0, .int .i64 0, .bool false, .int .i64 0, .int .i64 0, .int .i64 0, .int .i64 0, .int .i64 0]) := SlT.mk' Tryz.underlying67 (by kernel_rfl) rfl (by omega)
set_option maxHeartbeats 400000 in
theorem clone_decl {A : Option Addr} {n c : Nat} {l : List Decl} (w : World) (h : Sl DeclC 3 (cmap w) (.slice A n c) l) (hb : n * 32 ≤ 140737488355328) :
    Calls Tryz.prog 67 #[.slice A n c] w fun e w' => ∃ A' c', e = .returned (.slice A' n c') ∧ Sl DeclC 3 (part w' w.heap.size w'.heap.size) (.slice A' n c') l ∧ Below w.heap.size w w' := by
  have hq := fun (w : World) => Lib.run_eql_slice_nil w 22 _ A n c 0 0 Tryz.underlying22
  cases A with
  | none =>
    obtain ⟨A', c', he, hl1, ⟨-, h3⟩, -⟩ := id h
    injection he with e1 e2 e3
    subst e1 e3
    have hc := h3 rfl
    have hl0 : l = [] := List.eq_nil_of_length_eq_zero (by omega)
    subst hl0
    obtain rfl : n = 0 := e2
    subst hc
    simp only [Option.isNone_none] at hq
    clear h h3 hl1 hb
    go_enter Tryz.func67, Tryz.ntmps67
    go_wp2
    go_ret
    exact ⟨none, 0, rfl, ⟨none, 0, rfl, Nat.le_refl _, ⟨by simp [maxLen], fun _ => rfl⟩, .inl rfl⟩, Below.refl _ _⟩
  | some A =>
    go_enter Tryz.func67, Tryz.ntmps67
    go_wp2_with (refine stop_append rfl ?_)
    refine Stop.intro ?_
    refine app_copy row_decl sl_decl rfl _ _ rfl ⟨w.heap.size, 0, none⟩ rfl (some A) n c l rfl (h.mono (cmap_below (Below_alloc w _))) hb ?_
    intro A' c' w' hs hb'
    have HS := Lib.hid (And.intro hs hb')
    clear hs hb'
    go_wp2
    go_ret
    exact ⟨A', c', rfl, HS.out.1.mono (part_mono (by simp) (Nat.le_refl _)), (Below_alloc w _).trans (HS.out.2.mono (by simp))⟩
set_option maxHeartbeats 400000 in
theorem clone_node {A : Option Addr} {n c : Nat} {l : List Node} (w : World) (h : Sl NodeC 13 (cmap w) (.slice A n c) l) (hb : n * 96 ≤ 140737488355328) :
    Calls Tryz.prog 68 #[.slice A n c] w fun e w' => ∃ A' c', e = .returned (.slice A' n c') ∧ Sl NodeC 13 (part w' w.heap.size w'.heap.size) (.slice A' n c') l ∧ Below w.heap.size w w' := by
  have hq := fun (w : World) => Lib.run_eql_slice_nil w 67 _ A n c 0 0 Tryz.underlying67
  cases A with
  | none =>
    obtain ⟨A', c', he, hl1, ⟨-, h3⟩, -⟩ := id h
    injection he with e1 e2 e3
    subst e1 e3
    have hc := h3 rfl
    have hl0 : l = [] := List.eq_nil_of_length_eq_zero (by omega)
    subst hl0
    obtain rfl : n = 0 := e2
    subst hc
    simp only [Option.isNone_none] at hq
    clear h h3 hl1 hb
    go_enter Tryz.func68, Tryz.ntmps68
    go_wp2
    go_ret
    exact ⟨none, 0, rfl, ⟨none, 0, rfl, Nat.le_refl _, ⟨by simp [maxLen], fun _ => rfl⟩, .inl rfl⟩, Below.refl _ _⟩
  | some A =>
    go_enter Tryz.func68, Tryz.ntmps68
    go_wp2_with (refine stop_append rfl ?_)
    refine Stop.intro ?_
    refine app_copy row_node sl_node' rfl _ _ rfl ⟨w.heap.size, 0, none⟩ rfl (some A) n c l rfl (h.mono (cmap_below (Below_alloc w _))) hb ?_
    intro A' c' w' hs hb'
    have HS := Lib.hid (And.intro hs hb')
    clear hs hb'
    go_wp2
    go_ret
    exact ⟨A', c', rfl, HS.out.1.mono (part_mono (by simp) (Nat.le_refl _)), (Below_alloc w _).trans (HS.out.2.mono (by simp))⟩
section
variable {w w' : World} {R : Nat → Prop} {g : Nat} {L : Lay} {u : Unit_} {m : Mach}
end
end Go.Proofs.YtffgnjgphkdodaaGreatDoor
