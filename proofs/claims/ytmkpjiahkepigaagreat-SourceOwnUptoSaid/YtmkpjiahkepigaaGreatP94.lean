import Derived.Test.YtmkpjiahkepigaaGreatP92
import Derived.Test.YtmkpjiahkepigaaGreatP70
import Derived.Test.YtmkpjiahkepigaaGreatP71
import Derived.Laws.StructEq
import Derived.Test.YtmkpjiahkepigaaGreatP83
import Derived.Test.YtmkpjiahkepigaaGreatP86
/- The reference's Ended and Blocked. -/
namespace Go.Proofs.YtmkpjiahkepigaaGreat
open Go Go.RowKit
set_option maxRecDepth 100000 in
set_option maxHeartbeats 2000000 in
theorem r7ended_calls (cs : List Value) (u : Unit_) (m : Mach) (w : World) (h : RefV (cmap w) cs u m) (hu : RightU u) (hok : MachOk u m) :
    Calls Tryz.prog 41 #[.agg cs.toArray] w fun e w' => e = .returned (.bool (endedF u m)) ∧ Below w.heap.size w w' := by
  have h0 := h
  obtain ⟨su, lu, gu, va, vo, vm, vh, vp, rfl, hr⟩ := h
  obtain ⟨aA, ac, rfl, -⟩ := id hr.at_
  rw [List.length_map] at *
  have hE : ∀ r, endedF u m = r → (r = true → ∀ k < m.at_.length, barF u m (k : Nat) = 70) ∧ ((∀ k < m.at_.length, barF u m (k : Nat) = 70) → r = true) := fun r hr => by
    subst hr
    unfold endedF
    simp
  obtain ⟨r, hrr⟩ : ∃ r, endedF u m = r := ⟨_, rfl⟩
  have HE := Lib.hid (hE r hrr)
  rw [hrr]
  have hsz : m.at_.length < 4294967296 := by have := hok.at_; have := hu.threads; omega
  have hb0 := Below_alloc' w (.cells #[su, lu, gu, .slice aA m.at_.length ac, vo, vm, vh, vp] 35)
  have hx0 := Blk.new w 35 [su, lu, gu, .slice aA m.at_.length ac, vo, vm, vh, vp]
  obtain ⟨w0, hw0⟩ : ∃ w0, w.alloc (.cells #[su, lu, gu, .slice aA m.at_.length ac, vo, vm, vh, vp] 35) = w0 := ⟨_, rfl⟩
  rw [show ([su, lu, gu, .slice aA m.at_.length ac, vo, vm, vh, vp] : List Value).toArray = #[su, lu, gu, .slice aA m.at_.length ac, vo, vm, vh, vp] from rfl, hw0] at hx0
  rw [hw0] at hb0
  have HX := Lib.hid (And.intro hx0 (And.intro h0 (And.intro hu (And.intro hok hb0))))
  have g3 : w0.cell? ⟨w.heap.size, 3, none⟩ = some (.slice aA m.at_.length ac) := hx0.cell 3
  have HW := Lib.hid hw0
  clear h0 hr hE hrr hb0 hx0 hw0
  have HNM : Hid (∀ k : Nat, k < m.at_.length → True) := Lib.hid fun _ _ => trivial
  obtain ⟨n, hn⟩ : ∃ n, m.at_.length = n := ⟨_, rfl⟩
  rw [hn] at g3 HE hsz HX HW ⊢
  clear hn HNM
  go_enter Tryz.func41, Tryz.ntmps41
  go_upto_region 1 with fail
  rw [HW.out]
  go_wp2
  go_loopw [7, 3] (fun i _ wr => ∃ k : Nat, i = .int .i64 k ∧ k ≤ n ∧ Hid (∀ j < k, barF u m (j : Nat) = 70) ∧ Below w0.heap.size w0 wr) (fun i _ _ => n - (intOf i).toNat)
  case atStart => exact ⟨0, rfl, by omega, Lib.hid (fun j hj => by omega), Below.refl _ _⟩
  case round =>
    obtain ⟨k, rfl, hk, HK, hbw⟩ := hrel
    by_cases hlt : k < n
    · have HLD : Hid (∀ j v, ([su, lu, gu, .slice aA n ac, vo, vm, vh, vp] : List Value)[j]? = some v → wr.cell? ⟨w.heap.size, 0 + j, none⟩ = some v) := Lib.hid fun j v hj => by rw [Nat.zero_add, (HX.out.1.below hbw HX.out.1.lt).cell]; exact hj
      have HWY := Lib.hid (r7why_calls _ u m (k : Int) wr ((HX.out.2.1.mono (cmap_below HX.out.2.2.2.2)).mono (cmap_below hbw)) HX.out.2.2.1 HX.out.2.2.2.1)
      by_cases hb7 : barF u m (k : Nat) = 70
      · have e7 : (barF u m (k : Nat) != 70) = false := by simp [hb7]
        have HB7 := Lib.hid hb7; clear hb7
        go_wp2_with (first
          | (refine wpList_load_at rfl 35 _ rfl w.heap.size 0 rfl _ _ HLD.out Tryz.underlying35 rfl (by kernel_rfl) ?_))
        refine HWY.out.mono ?_
        rintro e w1 ⟨rfl, hb1⟩
        have hbw1 := hbw.trans (hb1.mono hbw.size)
        clear hb1
        go_wp2
        go_roundw
        case rel => exact ⟨k + 1, by go_num, by omega, Lib.hid (fun j hj => by
          rcases Nat.lt_succ_iff_lt_or_eq.1 hj with e | e
          · exact HK.out j e
          · subst e; exact HB7.out), hbw1⟩
        case measure => simp [intOf]; omega
      · have e7 : (barF u m (k : Nat) != 70) = true := by simp [hb7]
        have hrf : r = false := by
          cases hq : r with
          | false => rfl
          | true => exact absurd (HE.out.1 hq k hlt) hb7
        have HF := Lib.hid hrf
        clear hb7 hrf
        go_wp2_with (first
          | (refine wpList_load_at rfl 35 _ rfl w.heap.size 0 rfl _ _ HLD.out Tryz.underlying35 rfl (by kernel_rfl) ?_))
        refine HWY.out.mono ?_
        rintro e w1 ⟨rfl, hb1⟩
        have hbw1 := hbw.trans (hb1.mono hbw.size)
        clear hb1
        go_wp2
        go_ret
        exact ⟨ret_bool HF.out.symm, HX.out.2.2.2.2.trans (hbw1.mono HX.out.2.2.2.2.size)⟩
    · have hrt : r = true := HE.out.2 fun j hj => HK.out j (by omega)
      have HF := Lib.hid hrt
      clear hrt
      go_wp2
      go_ret
      exact ⟨ret_bool HF.out.symm, HX.out.2.2.2.2.trans (hbw.mono HX.out.2.2.2.2.size)⟩
set_option maxRecDepth 100000 in
set_option maxHeartbeats 2000000 in
theorem r7blocked_calls (cs : List Value) (u : Unit_) (m : Mach) (w : World) (h : RefV (cmap w) cs u m) (hu : RightU u) (hok : MachOk u m) :
    Calls Tryz.prog 43 #[.agg cs.toArray] w fun e w' => ∃ A c, e = .returned (.slice A (blockedF u m).length c) ∧ Ints (part w' w.heap.size w'.heap.size) (.slice A (blockedF u m).length c) (blockedF u m) ∧ Below w.heap.size w w' := by
  have h0 := h
  obtain ⟨su, lu, gu, va, vo, vm, vh, vp, rfl, hr⟩ := h
  obtain ⟨aA, ac, rfl, -⟩ := id hr.at_
  rw [List.length_map] at *
  unfold blockedF
  have hsz : m.at_.length < 4294967296 := by have := hok.at_; have := hu.threads; omega
  have hb0 := Below_alloc' w (.cells #[su, lu, gu, .slice aA m.at_.length ac, vo, vm, vh, vp] 35)
  have hx0 := Blk.new w 35 [su, lu, gu, .slice aA m.at_.length ac, vo, vm, vh, vp]
  obtain ⟨w0, hw0⟩ : ∃ w0, w.alloc (.cells #[su, lu, gu, .slice aA m.at_.length ac, vo, vm, vh, vp] 35) = w0 := ⟨_, rfl⟩
  rw [show ([su, lu, gu, .slice aA m.at_.length ac, vo, vm, vh, vp] : List Value).toArray = #[su, lu, gu, .slice aA m.at_.length ac, vo, vm, vh, vp] from rfl, hw0] at hx0
  rw [hw0] at hb0
  have HX := Lib.hid (And.intro hx0 (And.intro h0 (And.intro hu (And.intro hok hb0))))
  have g3 : w0.cell? ⟨w.heap.size, 3, none⟩ = some (.slice aA m.at_.length ac) := hx0.cell 3
  have HW := Lib.hid hw0
  clear h0 hr hb0 hx0 hw0
  obtain ⟨n, hn⟩ : ∃ n, m.at_.length = n := ⟨_, rfl⟩
  rw [hn] at g3 hsz HX HW ⊢
  clear hn
  go_enter Tryz.func43, Tryz.ntmps43
  go_upto_region 2 with fail
  rw [HW.out]
  go_wp2
  go_loopw [8, 4, 3] (fun i _ v wr => ∃ (k : Nat) (l : List Int), i = .int .i64 k ∧ k ≤ n ∧ l.length ≤ k ∧ Hid (l = waitL u m k) ∧ wr.ownsRow w0.heap.size 3 1 v l.length (ints l) ∧ Below w0.heap.size w0 wr) (fun i _ _ _ => n - (intOf i).toNat)
  case atStart => exact ⟨0, [], rfl, by omega, Nat.le_refl _, Lib.hid rfl, World.ownsRow_nil _ _ _ _, Below.refl _ _⟩
  case round =>
    obtain ⟨k, l, rfl, hk, hlk, HL, hown, hbw⟩ := hrel
    have hw00 : w0.heap.size ≤ wr.heap.size := hbw.size
    by_cases hlt : k < n
    · have HLD : Hid (∀ j v, ([su, lu, gu, .slice aA n ac, vo, vm, vh, vp] : List Value)[j]? = some v → wr.cell? ⟨w.heap.size, 0 + j, none⟩ = some v) := Lib.hid fun j v hj => by rw [Nat.zero_add, (HX.out.1.below hbw HX.out.1.lt).cell]; exact hj
      have HWY := Lib.hid (r7why_calls _ u m (k : Int) wr ((HX.out.2.1.mono (cmap_below HX.out.2.2.2.2)).mono (cmap_below hbw)) HX.out.2.2.1 HX.out.2.2.2.1)
      by_cases hb7 : barF u m (k : Nat) = 71
      · have e7 : (barF u m (k : Nat) == 71) = true := by simp [hb7]
        have HB7 := Lib.hid hb7; clear hb7
        have HO := Lib.hid hown; clear hown
        go_wp2_with (first
          | (refine wpList_load_at rfl 35 _ rfl w.heap.size 0 rfl _ _ HLD.out Tryz.underlying35 rfl (by kernel_rfl) ?_))
        refine HWY.out.mono ?_
        rintro e w1 ⟨rfl, hb1⟩
        have hbw1 := hbw.trans (hb1.mono hbw.size)
        have hown1 := HO.out.kept (row := none) ⟨hb1.os, hb1.tape, hb1.output, hb1.size, fun k hk _ => hb1.block k hk⟩ (by
          rcases hq : (Value.ownBlock _) with _ | b
          · exact .inl rfl
          · exact .inr (by simp))
        have hw11 : w0.heap.size ≤ w1.heap.size := Nat.le_trans hw00 hb1.size
        clear hb1
        go_wp2_with (refine stop_append rfl ?_)
        refine Stop.intro ?_
        refine app_one sl_int rfl _ _ rfl w0.heap.size _ l.length (ints l) rfl (hown1.alloc _) w1.heap.size 0 1 [.int .i64 (k : Nat)] rfl rfl (cell_new1 _ _ _ _ (by simp)) (by simp [Value.oneCell']) (by omega) (by decide) (by simp; omega) ?_
        intro v' w' hown4 hgr hob
        have hw' := hgr.size
        have hbw2 : Below w0.heap.size w0 w' := (hbw1.alloc hbw1.size _).grown hgr (by have := hbw1.size; simp; omega) (fun k hk => own_lt hown1 k hk)
        have HG := Lib.hid (And.intro hown4 hbw2)
        clear hown4 hbw2 hgr hob hw' hown1
        go_wp2
        go_roundw
        case rel => exact ⟨k + 1, l ++ [(k : Int)], by go_num, by omega, by simp; omega, Lib.hid (by rw [waitL_succ, if_pos HB7.out, ← HL.out]), by simpa [ints] using HG.out.1, HG.out.2⟩
        case measure => simp [intOf]; omega
      · have e7 : (barF u m (k : Nat) == 71) = false := by simp [hb7]
        have HB7 := Lib.hid hb7; clear hb7
        have HO := Lib.hid hown; clear hown
        go_wp2_with (first
          | (refine wpList_load_at rfl 35 _ rfl w.heap.size 0 rfl _ _ HLD.out Tryz.underlying35 rfl (by kernel_rfl) ?_))
        refine HWY.out.mono ?_
        rintro e w1 ⟨rfl, hb1⟩
        have hbw1 := hbw.trans (hb1.mono hbw.size)
        have hown1 := HO.out.kept (row := none) ⟨hb1.os, hb1.tape, hb1.output, hb1.size, fun k hk _ => hb1.block k hk⟩ (by
          rcases hq : (Value.ownBlock _) with _ | b
          · exact .inl rfl
          · exact .inr (by simp))
        have HO1 := Lib.hid hown1; clear hown1
        clear hb1
        go_wp2
        go_roundw
        case rel => exact ⟨k + 1, l, by go_num, by omega, by omega, Lib.hid (by rw [waitL_succ, if_neg HB7.out, ← HL.out]), HO1.out, hbw1⟩
        case measure => simp [intOf]; omega
    · obtain rfl : k = n := by omega
      have hl := HL.out
      have HO := Lib.hid hown; clear hown
      subst hl
      obtain ⟨B, cc, rfl, -⟩ := own_slice HO.out
      go_wp2
      go_ret
      exact ⟨B, cc, rfl, Sl_of_own (f := Value.int .i64) (fun _ _ _ _ h => h) (own_base HO.out HX.out.2.2.2.2.size) (Nat.le_refl _) (Nat.le_refl _), HX.out.2.2.2.2.trans (hbw.mono HX.out.2.2.2.2.size)⟩
end Go.Proofs.YtmkpjiahkepigaaGreat
/- The reference's comparisons of lists that are one: Ints, Words, Printed. -/
namespace Go.Proofs.YtmkpjiahkepigaaGreat
open Go Go.RowKit
set_option maxHeartbeats 400000 in
theorem r7ints_calls (v1 v2 : Value) (l : List Int) (w : World) (h1 : Ints (cmap w) v1 l) (h2 : Ints (cmap w) v2 l) :
    Calls Tryz.prog 42 #[v1, v2] w fun e w' => e = .returned (.bool true) ∧ ∃ n, w' = w.drewN n := by
  obtain ⟨A1, c1, rfl, -⟩ := id h1
  obtain ⟨A2, c2, rfl, -⟩ := id h2
  have b1 := h1.len.2.2
  have hb : ((l.length : Int) != (l.length : Int)) = false := by simp
  go_enter Tryz.func42, Tryz.ntmps42
  go_wp2
  go_loopw [13] (fun v wr => ∃ (k n : Nat), v = .int .i64 k ∧ k ≤ l.length ∧ wr = w.drewN n) (fun v _ => l.length - (intOf v).toNat)
  case atStart => exact ⟨0, 0, rfl, by omega, rfl⟩
  case round =>
    obtain ⟨k, n, rfl, hk, rfl⟩ := hrel
    by_cases hlt : k < l.length
    · obtain ⟨x, hx⟩ : ∃ x, l[k]? = some x := ⟨_, List.getElem?_eq_getElem hlt⟩
      obtain ⟨bb1, o1, rfl, g1⟩ := h1.at_ hx
      obtain ⟨bb2, o2, rfl, g2⟩ := h2.at_ hx
      rw [Nat.mul_one] at g1 g2
      have g1' : w.cell? ⟨bb1, o1 + k, none⟩ = some (.int .i64 x) := g1
      have g2' : w.cell? ⟨bb2, o2 + k, none⟩ = some (.int .i64 x) := g2
      have hk0 : (0 : Int) ≤ k := by omega
      have hki : (k : Int) < l.length := by omega
      have hne : (x != x) = false := by simp
      clear g1 g2 hx
      go_wp2
      go_quiet (fail)
      go_wp2
      go_roundw
      case rel => exact ⟨k + 1, _, by go_num, by omega, rfl⟩
      case measure => simp [intOf]; omega
    · go_wp2
      go_ret
      exact ⟨rfl, _, rfl⟩
set_option maxHeartbeats 400000 in
theorem r7words_calls (v1 v2 : Value) (l : List Int) (w : World) (h1 : Ints (cmap w) v1 l) (h2 : Ints (cmap w) v2 l) :
    Calls Tryz.prog 44 #[v1, v2] w fun e w' => e = .returned (.bool true) ∧ ∃ n, w' = w.drewN n := by
  obtain ⟨A1, c1, rfl, -⟩ := id h1
  obtain ⟨A2, c2, rfl, -⟩ := id h2
  have b1 := h1.len.2.2
  have hb : ((l.length : Int) != (l.length : Int)) = false := by simp
  go_enter Tryz.func44, Tryz.ntmps44
  go_wp2
  go_loopw [13] (fun v wr => ∃ (k n : Nat), v = .int .i64 k ∧ k ≤ l.length ∧ wr = w.drewN n) (fun v _ => l.length - (intOf v).toNat)
  case atStart => exact ⟨0, 0, rfl, by omega, rfl⟩
  case round =>
    obtain ⟨k, n, rfl, hk, rfl⟩ := hrel
    by_cases hlt : k < l.length
    · obtain ⟨x, hx⟩ : ∃ x, l[k]? = some x := ⟨_, List.getElem?_eq_getElem hlt⟩
      obtain ⟨bb1, o1, rfl, g1⟩ := h1.at_ hx
      obtain ⟨bb2, o2, rfl, g2⟩ := h2.at_ hx
      rw [Nat.mul_one] at g1 g2
      have g1' : w.cell? ⟨bb1, o1 + k, none⟩ = some (.int .i64 x) := g1
      have g2' : w.cell? ⟨bb2, o2 + k, none⟩ = some (.int .i64 x) := g2
      have hk0 : (0 : Int) ≤ k := by omega
      have hki : (k : Int) < l.length := by omega
      have hne : (x != x) = false := by simp
      clear g1 g2 hx
      go_wp2
      go_quiet (fail)
      go_wp2
      go_roundw
      case rel => exact ⟨k + 1, _, by go_num, by omega, rfl⟩
      case measure => simp [intOf]; omega
    · go_wp2
      go_ret
      exact ⟨rfl, _, rfl⟩
set_option maxRecDepth 100000 in
set_option maxHeartbeats 1000000 in
theorem eq_print (a b : Int) (w : World) : (Op.equalIn 10000 77 (.agg #[.int .i64 a, .int .i64 b]) (.agg #[.int .i64 a, .int .i64 b])).run Tryz.prog w = .ok true w := by
  have hS : Tryz.prog.underlying 77 = some (.struct (Tryz.prog.fieldsOf 77)) := by kernel_rfl
  have hp : Tryz.prog.stoodInHeld 77 = false := by kernel_rfl
  rw [show (10000 : Nat) = 9999 + 1 from rfl, run_equalIn_agg w 9999 77 _ _ hS hp]
  simp only [Program.fieldsOf, Tryz.underlying77]
  go_simp
set_option maxRecDepth 100000 in
set_option maxHeartbeats 1000000 in
theorem r7printed_calls (v1 v2 : Value) (l : List (Int × Int)) (w : World) (h1 : PrintsV (cmap w) v1 l) (h2 : PrintsV (cmap w) v2 l) :
    Calls Tryz.prog 45 #[v1, v2] w fun e w' => e = .returned (.bool true) ∧ ∃ n, w' = w.drewN n := by
  obtain ⟨A1, c1, rfl, -⟩ := id h1
  obtain ⟨A2, c2, rfl, -⟩ := id h2
  have b1 := h1.len.2.2
  have hb : ((l.length : Int) != (l.length : Int)) = false := by simp
  go_enter Tryz.func45, Tryz.ntmps45
  go_wp2
  go_loopw [13] (fun v wr => ∃ (k n : Nat), v = .int .i64 k ∧ k ≤ l.length ∧ wr = w.drewN n) (fun v _ => l.length - (intOf v).toNat)
  case atStart => exact ⟨0, 0, rfl, by omega, rfl⟩
  case round =>
    obtain ⟨k, n, rfl, hk, rfl⟩ := hrel
    by_cases hlt : k < l.length
    · obtain ⟨d, hd⟩ : ∃ d, l[k]? = some d := ⟨_, List.getElem?_eq_getElem hlt⟩
      obtain ⟨bb1, o1, rfl, g1, g1b⟩ := h1.at_ hd
      obtain ⟨bb2, o2, rfl, g2, g2b⟩ := h2.at_ hd
      have q10 : w.cell? ⟨bb1, o1 + k * 2, none⟩ = some (.int .i64 d.1) := g1
      have q11 : w.cell? ⟨bb1, o1 + k * 2 + 1, none⟩ = some (.int .i64 d.2) := g1b
      have q20 : w.cell? ⟨bb2, o2 + k * 2, none⟩ = some (.int .i64 d.1) := g2
      have q21 : w.cell? ⟨bb2, o2 + k * 2 + 1, none⟩ = some (.int .i64 d.2) := g2b
      clear g1 g1b g2 g2b hd
      have hk0 : (0 : Int) ≤ k := by omega
      have hkl : (k : Int) < l.length := by omega
      have hm : Tryz.prog.eqGuardType Tryz.prog.depth 77 = false := by kernel_rfl
      have heq := eq_print d.1 d.2
      go_wp2
      go_quiet (fail)
      go_wp2
      go_roundw
      case rel => exact ⟨k + 1, _, by go_num, by omega, rfl⟩
      case measure => simp [intOf]; omega
    · go_wp2
      go_ret
      exact ⟨rfl, _, rfl⟩
end Go.Proofs.YtmkpjiahkepigaaGreat
/- What a machine tells of a thread's slots; a situation's text. -/
namespace Go.Proofs.YtmkpjiahkepigaaGreat
open Go Go.RowKit
def Mach.slotsOf (m : Mach) (t : Int) : List Int := if 0 ≤ t ∧ t < m.at_.length then (m.slots[t.toNat]?).getD [] else []
theorem slots_le {u : Unit_} {m : Mach} (hok : MachOk u m) (hz : SizeU u) : ∀ l ∈ m.slots, l.length ≤ 4160 := fun l hl => by
  obtain ⟨t, ht⟩ := List.getElem?_of_mem hl
  have hlt := (List.getElem?_eq_some_iff.1 ht).1
  rw [hok.slots] at hlt
  have h1 : u.graphs[t]? = some u.graphs[t] := List.getElem?_eq_getElem hlt
  have h2 := hok.slot t _ l h1 ht
  have h3 := hz.slots _ (List.mem_of_getElem? h1)
  omega
section
variable {w w' : World} {R : Nat → Prop} {g : Nat} {L : Lay} {u : Unit_} {m : Mach}
theorem keyS_calls (h : MachB w R g L u m) (hs : Situ u m) (hP : PrI m) (hu : RightU u) (hz : SizeU u) (hpr : m.prints.length ≤ 4294967296) :
    Calls Tryz.prog 27 #[.pointer (some ⟨g, 0, none⟩)] w fun e w' => e = .returned (.string ⟨(keyL m).toArray⟩) ∧ Below w.heap.size w w' :=
  key_of (h.keyD fun l hl => by have := slots_le hs.ok hz l hl; unfold maxLen; omega) (hs.keyI hu hP) (by rw [hs.ok.slots, hs.ok.at_]) (by rw [hs.ok.at_]; exact hu.threads) (slots_le hs.ok hz) (by rw [hs.ok.mem]; exact hu.shared) (by rw [hs.ok.holders]; exact hu.locks) hpr
set_option maxRecDepth 100000 in
set_option maxHeartbeats 1000000 in
theorem slots_calls (t : Int) (h : MachB w R g L u m) (hok : MachOk u m) (hz : SizeU u) :
    Calls Tryz.prog 24 #[.pointer (some ⟨g, 0, none⟩), .int .i64 t] w fun e w' => ∃ A c, e = .returned (.slice A (m.slotsOf t).length c) ∧ Ints (cmap w') (.slice A (m.slotsOf t).length c) (m.slotsOf t) ∧ Below w.heap.size w w' := by
  by_cases hr : 0 ≤ t ∧ t < m.at_.length
  · have hd : decide (0 ≤ t ∧ t < m.at_.length) = true := decide_eq_true hr
    obtain ⟨k, rfl⟩ := Int.eq_ofNat_of_zero_le hr.1
    have hkl : k < m.slots.length := by rw [hok.slots, ← hok.at_]; omega
    obtain ⟨l, hl⟩ : ∃ l, m.slots[k]? = some l := ⟨_, List.getElem?_eq_getElem hkl⟩
    have hw : m.slotsOf k = l := by unfold Mach.slotsOf; rw [if_pos hr, Int.toNat_natCast, hl]; rfl
    rw [hw]
    obtain ⟨ob, oo, oc, kb, hov, a1, hk', hB, -, -⟩ := h.slotsAt hl
    have hll := slots_le hok hz l (List.mem_of_getElem? hl)
    have hsl := h.slotSl hk' hl (by unfold maxLen; omega)
    have g4 : w.cell? ⟨g, 4, none⟩ = some (.slice (some ⟨ob, oo, none⟩) m.slots.length oc) := by rw [h.cell 4, ← hov]; rfl
    have i0 : (0 : Int) ≤ k := by omega
    have i1 : (k : Int) < m.slots.length := by omega
    have HT := Lib.hid (And.intro (there_calls (k : Int) h) hd)
    have HS := Lib.hid (And.intro hsl hll)
    clear h hd hl hr hkl hw hov hk' hB hsl hok hz hll
    go_enter Tryz.func24, Tryz.ntmps24
    go_wp2_with fail
    refine HT.out.1.mono ?_
    rintro e w1 ⟨rfl, q1, rfl⟩
    rw [HT.out.2]
    have HC := Lib.hid (clone_i64 (w.drewN q1) (HS.out.1.mono (cmap_below (Below_drewN w q1))) (by have := HS.out.2; omega))
    have g4' : (w.drewN q1).cell? ⟨g, 4, none⟩ = some (.slice (some ⟨ob, oo, none⟩) m.slots.length oc) := g4
    have a1' : (w.drewN q1).cell? ⟨ob, oo + k, none⟩ = some (.slice (some ⟨kb, 0, none⟩) l.length l.length) := a1
    go_wp2_with fail
    refine HC.out.mono ?_
    rintro e w1 ⟨A', c', rfl, h1, h2⟩
    have HF := Lib.hid (And.intro (h1.mono (part_le _ _ _)) ((Below_drewN w q1).trans (h2.mono (Below_drewN w q1).size)))
    clear h1 h2
    go_wp2
    go_ret
    exact ⟨A', c', rfl, HF.out.1, HF.out.2⟩
  · have hd : decide (0 ≤ t ∧ t < m.at_.length) = false := decide_eq_false hr
    have hw : m.slotsOf t = [] := by unfold Mach.slotsOf; rw [if_neg hr]
    rw [hw]
    have HT := Lib.hid (And.intro (there_calls t h) hd)
    clear h hd hr hw hok hz
    go_enter Tryz.func24, Tryz.ntmps24
    go_wp2_with fail
    refine HT.out.1.mono ?_
    rintro e w1 ⟨rfl, q1, rfl⟩
    rw [HT.out.2]
    go_wp2
    go_ret
    exact ⟨none, 0, rfl, ⟨none, 0, rfl, Nat.le_refl _, ⟨by unfold maxLen; omega, fun _ => rfl⟩, .inl rfl⟩, Below_drewN w q1⟩
end
end Go.Proofs.YtmkpjiahkepigaaGreat
