import Derived.Test.YtmkpjiahkepigaaGreatP69
import Derived.Test.YtmkpjiahkepigaaGreatP35
/- What a source machine is asked: where a thread stands, whether it can, who holds a lock, whether all have ended, who waits. -/
namespace Go.Proofs.YtmkpjiahkepigaaGreat
open Go Go.RowKit
def Mach.where_ (m : Mach) (t : Int) : Int := if 0 ≤ t ∧ t < m.at_.length then (((m.at_[t.toNat]?).getD 0 : Nat) : Int) else -1
def Mach.holder (m : Mach) (l : Int) : Int := if 0 ≤ l ∧ l < m.holders.length then (m.holders[l.toNat]?).getD 0 else -1
def endedF (u : Unit_) (m : Mach) : Bool := (List.range m.at_.length).all fun t : Nat => barF u m t == 70
def waitL (u : Unit_) (m : Mach) (n : Nat) : List Int := ((List.range n).filter fun t : Nat => barF u m t == 71).map fun t : Nat => (t : Int)
def blockedF (u : Unit_) (m : Mach) : List Int := waitL u m m.at_.length
theorem waitL_succ (u : Unit_) (m : Mach) (n : Nat) : waitL u m (n + 1) = if barF u m n = 71 then waitL u m n ++ [(n : Int)] else waitL u m n := by
  unfold waitL
  rw [List.range_succ, List.filter_append, List.map_append]
  by_cases h : barF u m n = 71 <;> simp [h]
section
variable {w w' : World} {R : Nat → Prop} {g : Nat} {L : Lay} {u : Unit_} {m : Mach}
set_option maxHeartbeats 1000000 in
theorem at_calls (t : Int) (h : MachB w R g L u m) :
    Calls Tryz.prog 19 #[.pointer (some ⟨g, 0, none⟩), .int .i64 t] w fun e w' => e = .returned (.int .i64 (m.where_ t)) ∧ ∃ q, w' = w.drewN q := by
  by_cases hr : 0 ≤ t ∧ t < m.at_.length
  · have hd : decide (0 ≤ t ∧ t < m.at_.length) = true := decide_eq_true hr
    obtain ⟨k, rfl⟩ := Int.eq_ofNat_of_zero_le hr.1
    have hkl : k < m.at_.length := by omega
    obtain ⟨i, hi⟩ : ∃ i, m.at_[k]? = some i := ⟨_, List.getElem?_eq_getElem hkl⟩
    have hw : m.where_ k = i := by unfold Mach.where_; rw [if_pos hr, Int.toNat_natCast, hi]; rfl
    rw [hw]
    obtain ⟨ab, ac, hav, a1, a2, a3, -⟩ := h.atAt hi
    have g3 : w.cell? ⟨g, 3, none⟩ = some (.slice (some ⟨ab, 0, none⟩) m.at_.length ac) := by rw [h.cell 3, ← hav]; rfl
    have i0 : (0 : Int) ≤ k := by omega
    have i1 : (k : Int) < m.at_.length := hr.2
    have HT := Lib.hid (And.intro (there_calls (k : Int) h) hd)
    clear h hd hi hr hkl hw hav
    go_enter Tryz.func19, Tryz.ntmps19
    go_wp2_with fail
    refine HT.out.1.mono ?_
    rintro e w1 ⟨rfl, q1, rfl⟩
    rw [HT.out.2]
    have g3' : (w.drewN q1).cell? ⟨g, 3, none⟩ = some (.slice (some ⟨ab, 0, none⟩) m.at_.length ac) := g3
    have a1' : (w.drewN q1).cell? ⟨ab, k, none⟩ = some (.int .i64 i) := a1
    go_wp2
    go_ret
    exact ⟨rfl, q1, rfl⟩
  · have hd : decide (0 ≤ t ∧ t < m.at_.length) = false := decide_eq_false hr
    have hw : m.where_ t = -1 := by unfold Mach.where_; rw [if_neg hr]
    rw [hw]
    have HT := Lib.hid (And.intro (there_calls t h) hd)
    clear h hd hr hw
    go_enter Tryz.func19, Tryz.ntmps19
    go_wp2_with fail
    refine HT.out.1.mono ?_
    rintro e w1 ⟨rfl, q1, rfl⟩
    rw [HT.out.2]
    go_wp2
    go_ret
    exact ⟨rfl, q1, rfl⟩
theorem at_nil (t : Int) (w : World) : Calls Tryz.prog 19 #[.pointer none, .int .i64 t] w fun e w' => e = .returned (.int .i64 (-1)) ∧ ∃ q, w' = w.drewN q := by
  have HT := Lib.hid (there_nil t w)
  go_enter Tryz.func19, Tryz.ntmps19
  go_wp2_with fail
  refine HT.out.mono ?_
  rintro e w1 ⟨rfl, q1, rfl⟩
  go_wp2
  go_ret
  exact ⟨rfl, q1, rfl⟩
theorem can_calls (t : Int) (h : MachB w R g L u m) (hok : MachOk u m) (hu : RightU u) :
    Calls Tryz.prog 22 #[.pointer (some ⟨g, 0, none⟩), .int .i64 t] w fun e w' => e = .returned (.bool (barF u m t == 0)) ∧ Below w.heap.size w w' := by
  have HT := Lib.hid (bar_calls t h hok hu)
  clear h hok hu
  go_enter Tryz.func22, Tryz.ntmps22
  go_wp2_with fail
  refine HT.out.mono ?_
  rintro e w1 ⟨rfl, hb⟩
  go_wp2
  go_ret
  exact ⟨rfl, hb⟩
theorem can_nil (t : Int) (w : World) : Calls Tryz.prog 22 #[.pointer none, .int .i64 t] w fun e w' => e = .returned (.bool false) ∧ w' = w := by
  have HT := Lib.hid (bar_nil t w)
  go_enter Tryz.func22, Tryz.ntmps22
  go_wp2_with fail
  refine HT.out.mono ?_
  rintro e w1 ⟨rfl, rfl⟩
  go_wp2
  go_ret
  exact ⟨rfl, rfl⟩
set_option maxHeartbeats 1000000 in
theorem holder_calls (l : Int) (h : MachB w R g L u m) :
    Calls Tryz.prog 25 #[.pointer (some ⟨g, 0, none⟩), .int .i64 l] w fun e w' => e = .returned (.int .i64 (m.holder l)) ∧ w' = w := by
  by_cases h0 : l < 0
  · have hw : m.holder l = -1 := by unfold Mach.holder; rw [if_neg (by omega)]
    rw [hw]
    have hd : decide (l < 0) = true := decide_eq_true h0
    clear h hw h0
    go_enter Tryz.func25, Tryz.ntmps25
    go_wp2
    go_ret
    exact ⟨rfl, rfl⟩
  · have hd : decide (l < 0) = false := decide_eq_false h0
    obtain ⟨A, c, hA⟩ := h.hvf
    have g6 : w.cell? ⟨g, 6, none⟩ = some (.slice A m.holders.length c) := by rw [h.cell 6, ← hA]; rfl
    by_cases h1 : l < m.holders.length
    · obtain ⟨k, rfl⟩ := Int.eq_ofNat_of_zero_le (by omega : 0 ≤ l)
      have hkl : k < m.holders.length := by omega
      obtain ⟨i, hi⟩ : ∃ i, m.holders[k]? = some i := ⟨_, List.getElem?_eq_getElem hkl⟩
      have hw : m.holder k = i := by unfold Mach.holder; rw [if_pos (by omega), Int.toNat_natCast, hi]; rfl
      rw [hw]
      obtain ⟨ab, ac, hav, a1, a2, a3, -⟩ := h.holdAt hi
      obtain ⟨rfl, rfl⟩ : A = some ⟨ab, 0, none⟩ ∧ c = ac := by rw [hA] at hav; injection hav with e1 _ e3; exact ⟨e1, e3⟩
      have hd1 : decide ((k : Int) ≥ m.holders.length) = false := decide_eq_false (by omega)
      have i0 : (0 : Int) ≤ k := by omega
      clear h hw h0 hA hav hi hkl
      go_enter Tryz.func25, Tryz.ntmps25
      go_wp2
      go_ret
      exact ⟨rfl, rfl⟩
    · have hw : m.holder l = -1 := by unfold Mach.holder; rw [if_neg (by omega)]
      rw [hw]
      have hd1 : decide (l ≥ m.holders.length) = true := decide_eq_true (by omega)
      clear h hw h0 hA
      go_enter Tryz.func25, Tryz.ntmps25
      go_wp2
      go_ret
      exact ⟨rfl, rfl⟩
theorem holder_nil (l : Int) (w : World) : Calls Tryz.prog 25 #[.pointer none, .int .i64 l] w fun e w' => e = .returned (.int .i64 (-1)) ∧ w' = w := by
  go_enter Tryz.func25, Tryz.ntmps25
  go_wp2
  go_ret
  exact ⟨rfl, rfl⟩
set_option maxHeartbeats 1000000 in
theorem ended_calls (h : MachB w R g L u m) (hok : MachOk u m) (hu : RightU u) (hsz : m.at_.length < 4294967296) :
    Calls Tryz.prog 20 #[.pointer (some ⟨g, 0, none⟩)] w fun e w' => e = .returned (.bool (endedF u m)) ∧ Below w.heap.size w w' := by
  obtain ⟨A, c, hA⟩ := h.avf
  have g3 : w.cell? ⟨g, 3, none⟩ = some (.slice A m.at_.length c) := by rw [h.cell 3, ← hA]; rfl
  have hE : ∀ r, endedF u m = r → (r = true → ∀ k < m.at_.length, barF u m (k : Nat) = 70) ∧ ((∀ k < m.at_.length, barF u m (k : Nat) = 70) → r = true) := fun r hr => by
    subst hr
    unfold endedF
    simp
  obtain ⟨r, hr⟩ : ∃ r, endedF u m = r := ⟨_, rfl⟩
  have HE := Lib.hid (hE r hr)
  rw [hr]
  have HB := Lib.hid (fun (t : Int) wr (hb : Below w.heap.size w wr) => bar_calls t (h.below hb) hok hu)
  clear h hok hu hA hE hr
  obtain ⟨n, hn⟩ : ∃ n, m.at_.length = n := ⟨_, rfl⟩
  rw [hn] at g3 HE hsz
  clear hn
  go_enter Tryz.func20, Tryz.ntmps20
  go_wp2
  go_loopw [11, 3] (fun i _ wr => ∃ k : Nat, i = .int .i64 k ∧ k ≤ n ∧ Hid (∀ j < k, barF u m (j : Nat) = 70) ∧ Below w.heap.size w wr) (fun i _ _ => n - (intOf i).toNat)
  case atStart => exact ⟨0, rfl, by omega, Lib.hid (fun j hj => by omega), Below.refl _ _⟩
  case round =>
    obtain ⟨k, rfl, hk, HK, hbw⟩ := hrel
    by_cases hlt : k < n
    · by_cases hb7 : barF u m (k : Nat) = 70
      · have e7 : (barF u m (k : Nat) != 70) = false := by simp [hb7]
        have HB7 := Lib.hid hb7; clear hb7
        go_wp2_with fail
        refine (HB.out _ _ hbw).mono ?_
        rintro e w1 ⟨rfl, hb1⟩
        have hbw1 := hbw.trans (hb1.mono hbw.size)
        clear hb1
        go_wp2
        go_roundw
        case rel => exact ⟨k + 1, by go_num, by omega, Lib.hid (fun j hj => by
          rcases Nat.lt_succ_iff_lt_or_eq.1 hj with e | e
          · exact HK.out j e
          · subst e; exact HB7.out), hbw1⟩
        case measure => simp [intOf]; omega
      · have e7 : (barF u m (k : Nat) != 70) = true := by simp [hb7]
        have hrf : r = false := by
          cases hq : r with
          | false => rfl
          | true => exact absurd (HE.out.1 hq k hlt) hb7
        have HF := Lib.hid hrf
        clear hb7 hrf
        go_wp2_with fail
        refine (HB.out _ _ hbw).mono ?_
        rintro e w1 ⟨rfl, hb1⟩
        have hbw1 := hbw.trans (hb1.mono hbw.size)
        clear hb1
        go_wp2
        go_ret
        exact ⟨ret_bool HF.out.symm, hbw1⟩
    · have hrt : r = true := HE.out.2 fun j hj => HK.out j (by omega)
      have HF := Lib.hid hrt
      clear hrt
      go_wp2
      go_ret
      exact ⟨ret_bool HF.out.symm, hbw⟩
theorem ended_nil (w : World) : Calls Tryz.prog 20 #[.pointer none] w fun e w' => e = .returned (.bool false) ∧ w' = w := by
  go_enter Tryz.func20, Tryz.ntmps20
  go_wp2
  go_ret
  exact ⟨rfl, rfl⟩
set_option maxHeartbeats 1000000 in
theorem blocked_calls (h : MachB w R g L u m) (hok : MachOk u m) (hu : RightU u) (hsz : m.at_.length < 4294967296) :
    Calls Tryz.prog 21 #[.pointer (some ⟨g, 0, none⟩)] w fun e w' => ∃ A c, e = .returned (.slice A (blockedF u m).length c) ∧ Ints (part w' w.heap.size w'.heap.size) (.slice A (blockedF u m).length c) (blockedF u m) ∧ Below w.heap.size w w' := by
  obtain ⟨A, c, hA⟩ := h.avf
  have g3 : w.cell? ⟨g, 3, none⟩ = some (.slice A m.at_.length c) := by rw [h.cell 3, ← hA]; rfl
  have HB := Lib.hid (fun (t : Int) wr (hb : Below w.heap.size w wr) => bar_calls t (h.below hb) hok hu)
  clear h hok hu hA
  unfold blockedF
  obtain ⟨n, hn⟩ : ∃ n, m.at_.length = n := ⟨_, rfl⟩
  rw [hn] at g3 hsz ⊢
  clear hn
  go_enter Tryz.func21, Tryz.ntmps21
  go_wp2
  go_loopw [12, 3, 4] (fun i v _ wr => ∃ (k : Nat) (l : List Int), i = .int .i64 k ∧ k ≤ n ∧ l.length ≤ k ∧ Hid (l = waitL u m k) ∧ wr.ownsRow w.heap.size 3 1 v l.length (ints l) ∧ Below w.heap.size w wr) (fun i _ _ _ => n - (intOf i).toNat)
  case atStart => exact ⟨0, [], rfl, by omega, Nat.le_refl _, Lib.hid rfl, World.ownsRow_nil _ _ _ _, Below.refl _ _⟩
  case round =>
    obtain ⟨k, l, rfl, hk, hlk, HL, hown, hbw⟩ := hrel
    by_cases hlt : k < n
    · by_cases hb7 : barF u m (k : Nat) = 71
      · have e7 : (barF u m (k : Nat) == 71) = true := by simp [hb7]
        have HB7 := Lib.hid hb7; clear hb7
        have HO := Lib.hid hown; clear hown
        go_wp2_with fail
        refine (HB.out _ _ hbw).mono ?_
        rintro e w1 ⟨rfl, hb1⟩
        have hbw1 := hbw.trans (hb1.mono hbw.size)
        have hown1 := HO.out.kept (row := none) ⟨hb1.os, hb1.tape, hb1.output, hb1.size, fun k hk _ => hb1.block k hk⟩ (by
          rcases hq : (Value.ownBlock _) with _ | b
          · exact .inl rfl
          · exact .inr (by simp))
        clear hb1
        go_wp2_with (refine stop_append rfl ?_)
        refine Stop.intro ?_
        refine app_one sl_int rfl _ _ rfl w.heap.size _ l.length (ints l) rfl (hown1.alloc _) w1.heap.size 0 1 [.int .i64 (k : Nat)] rfl rfl (cell_new1 _ _ _ _ (by simp)) (by simp [Value.oneCell']) (by omega) (by decide) (by have := hbw1.size; simp; omega) ?_
        intro v' w' hown4 hgr hob
        have hw' := hgr.size
        have hbw2 : Below w.heap.size w w' := (hbw1.alloc hbw1.size _).grown hgr (by have := hbw1.size; simp; omega) (fun k hk => own_lt hown1 k hk)
        have HG := Lib.hid (And.intro hown4 hbw2)
        clear hown4 hbw2 hgr hob hw' hown1
        go_wp2
        go_roundw
        case rel => exact ⟨k + 1, l ++ [(k : Int)], by go_num, by omega, by simp; omega, Lib.hid (by rw [waitL_succ, if_pos HB7.out, ← HL.out]), by simpa [ints] using HG.out.1, HG.out.2⟩
        case measure => simp [intOf]; omega
      · have e7 : (barF u m (k : Nat) == 71) = false := by simp [hb7]
        have HB7 := Lib.hid hb7; clear hb7
        have HO := Lib.hid hown; clear hown
        go_wp2_with fail
        refine (HB.out _ _ hbw).mono ?_
        rintro e w1 ⟨rfl, hb1⟩
        have hbw1 := hbw.trans (hb1.mono hbw.size)
        have hown1 := HO.out.kept (row := none) ⟨hb1.os, hb1.tape, hb1.output, hb1.size, fun k hk _ => hb1.block k hk⟩ (by
          rcases hq : (Value.ownBlock _) with _ | b
          · exact .inl rfl
          · exact .inr (by simp))
        have HO1 := Lib.hid hown1; clear hown1
        clear hb1
        go_wp2
        go_roundw
        case rel => exact ⟨k + 1, l, by go_num, by omega, by omega, Lib.hid (by rw [waitL_succ, if_neg HB7.out, ← HL.out]), HO1.out, hbw1⟩
        case measure => simp [intOf]; omega
    · obtain rfl : k = n := by omega
      have hl := HL.out
      have HO := Lib.hid hown; clear hown
      subst hl
      obtain ⟨B, cc, rfl, -⟩ := own_slice HO.out
      go_wp2
      go_ret
      exact ⟨B, cc, rfl, Sl_of_own (f := Value.int .i64) (fun _ _ _ _ h => h) HO.out (Nat.le_refl _) (Nat.le_refl _), hbw⟩
theorem blocked_nil (w : World) : Calls Tryz.prog 21 #[.pointer none] w fun e w' => e = .returned (.slice none 0 0) ∧ w' = w := by
  go_enter Tryz.func21, Tryz.ntmps21
  go_wp2
  go_ret
  exact ⟨rfl, rfl⟩
end
end Go.Proofs.YtmkpjiahkepigaaGreat
/- slices.Clone at four element types; what a machine's memory, slots and prints are asked. -/
namespace Go.Proofs.YtmkpjiahkepigaaGreat
open Go Go.RowKit
def PrintC (m : CM) (b o : Nat) (p : Int × Int) : Prop := m b o = some (.int .i64 p.1) ∧ m b (o + 1) = some (.int .i64 p.2)
instance : Mono PrintC := ⟨fun hm ⟨h1, h2⟩ => ⟨hm _ _ _ h1, hm _ _ _ h2⟩⟩
abbrev PrintsV := Sl PrintC 2
theorem row_print : RowR PrintC (fun p => [.int .i64 p.1, .int .i64 p.2]) 2 where
  dn := fun m b o d h j v hj => by
    match j, hj with
    | 0, hj => injection hj with hj; subst hj; exact h.1
    | 1, hj => injection hj with hj; subst hj; exact h.2
  up := fun m b o d h => ⟨h 0 _ rfl, h 1 _ rfl⟩
  len := fun _ => rfl
  one := fun d u hu => by
    simp at hu
    rcases hu with rfl | rfl <;> rfl
theorem row_int : RowR IntC (fun n => [.int .i64 n]) 1 where
  dn := fun m b o d h j v hj => by
    match j, hj with
    | 0, hj => injection hj with hj; subst hj; exact h
  up := fun m b o d h => h 0 _ rfl
  len := fun _ => rfl
  one := fun d u hu => by
    simp at hu
    subst hu; rfl
theorem sl_i64 : SlT Tryz.prog 32 2 1 8 (.int .i64 0) := SlT.mk' Tryz.underlying32 (by kernel_rfl) rfl (by omega)
theorem sl_node' : SlT Tryz.prog 71 53 13 96 (.agg #[.int .u8 0, .int .u8 0, .int .i64 0, .int .i64 0, .bool false, .int .i64 0, .int .i64 0, .bool false, .int .i64 0, .int .i64 0, .int .i64 0, .int .i64 0, .int .i64 0]) := SlT.mk' Tryz.underlying71 (by kernel_rfl) rfl (by omega)
set_option maxHeartbeats 400000 in
theorem clone_decl {A : Option Addr} {n c : Nat} {l : List Decl} (w : World) (h : Sl DeclC 3 (cmap w) (.slice A n c) l) (hb : n * 32 ≤ 140737488355328) :
    Calls Tryz.prog 30 #[.slice A n c] w fun e w' => ∃ A' c', e = .returned (.slice A' n c') ∧ Sl DeclC 3 (part w' w.heap.size w'.heap.size) (.slice A' n c') l ∧ Below w.heap.size w w' := by
  have hq := fun (w : World) => Lib.run_eql_slice_nil w 22 _ A n c 0 0 Tryz.underlying22
  cases A with
  | none =>
    obtain ⟨A', c', he, hl1, ⟨-, h3⟩, -⟩ := id h
    injection he with e1 e2 e3
    subst e1 e3
    have hc := h3 rfl
    have hl0 : l = [] := List.eq_nil_of_length_eq_zero (by omega)
    subst hl0
    obtain rfl : n = 0 := e2
    subst hc
    simp only [Option.isNone_none] at hq
    clear h h3 hl1 hb
    go_enter Tryz.func30, Tryz.ntmps30
    go_wp2
    go_ret
    exact ⟨none, 0, rfl, ⟨none, 0, rfl, Nat.le_refl _, ⟨by simp [maxLen], fun _ => rfl⟩, .inl rfl⟩, Below.refl _ _⟩
  | some A =>
    go_enter Tryz.func30, Tryz.ntmps30
    go_wp2_with (refine stop_append rfl ?_)
    refine Stop.intro ?_
    refine app_copy row_decl sl_decl rfl _ _ rfl ⟨w.heap.size, 0, none⟩ rfl (some A) n c l rfl (h.mono (cmap_below (Below_alloc w _))) hb ?_
    intro A' c' w' hs hb'
    have HS := Lib.hid (And.intro hs hb')
    clear hs hb'
    go_wp2
    go_ret
    exact ⟨A', c', rfl, HS.out.1.mono (part_mono (by simp) (Nat.le_refl _)), (Below_alloc w _).trans (HS.out.2.mono (by simp))⟩
set_option maxHeartbeats 400000 in
theorem clone_node {A : Option Addr} {n c : Nat} {l : List Node} (w : World) (h : Sl NodeC 13 (cmap w) (.slice A n c) l) (hb : n * 96 ≤ 140737488355328) :
    Calls Tryz.prog 31 #[.slice A n c] w fun e w' => ∃ A' c', e = .returned (.slice A' n c') ∧ Sl NodeC 13 (part w' w.heap.size w'.heap.size) (.slice A' n c') l ∧ Below w.heap.size w w' := by
  have hq := fun (w : World) => Lib.run_eql_slice_nil w 71 _ A n c 0 0 Tryz.underlying71
  cases A with
  | none =>
    obtain ⟨A', c', he, hl1, ⟨-, h3⟩, -⟩ := id h
    injection he with e1 e2 e3
    subst e1 e3
    have hc := h3 rfl
    have hl0 : l = [] := List.eq_nil_of_length_eq_zero (by omega)
    subst hl0
    obtain rfl : n = 0 := e2
    subst hc
    simp only [Option.isNone_none] at hq
    clear h h3 hl1 hb
    go_enter Tryz.func31, Tryz.ntmps31
    go_wp2
    go_ret
    exact ⟨none, 0, rfl, ⟨none, 0, rfl, Nat.le_refl _, ⟨by simp [maxLen], fun _ => rfl⟩, .inl rfl⟩, Below.refl _ _⟩
  | some A =>
    go_enter Tryz.func31, Tryz.ntmps31
    go_wp2_with (refine stop_append rfl ?_)
    refine Stop.intro ?_
    refine app_copy row_node sl_node' rfl _ _ rfl ⟨w.heap.size, 0, none⟩ rfl (some A) n c l rfl (h.mono (cmap_below (Below_alloc w _))) hb ?_
    intro A' c' w' hs hb'
    have HS := Lib.hid (And.intro hs hb')
    clear hs hb'
    go_wp2
    go_ret
    exact ⟨A', c', rfl, HS.out.1.mono (part_mono (by simp) (Nat.le_refl _)), (Below_alloc w _).trans (HS.out.2.mono (by simp))⟩
set_option maxHeartbeats 400000 in
theorem clone_print {A : Option Addr} {n c : Nat} {l : List (Int × Int)} (w : World) (h : Sl PrintC 2 (cmap w) (.slice A n c) l) (hb : n * 16 ≤ 140737488355328) :
    Calls Tryz.prog 49 #[.slice A n c] w fun e w' => ∃ A' c', e = .returned (.slice A' n c') ∧ Sl PrintC 2 (part w' w.heap.size w'.heap.size) (.slice A' n c') l ∧ Below w.heap.size w w' := by
  have hq := fun (w : World) => Lib.run_eql_slice_nil w 33 _ A n c 0 0 Tryz.underlying33
  cases A with
  | none =>
    obtain ⟨A', c', he, hl1, ⟨-, h3⟩, -⟩ := id h
    injection he with e1 e2 e3
    subst e1 e3
    have hc := h3 rfl
    have hl0 : l = [] := List.eq_nil_of_length_eq_zero (by omega)
    subst hl0
    obtain rfl : n = 0 := e2
    subst hc
    simp only [Option.isNone_none] at hq
    clear h h3 hl1 hb
    go_enter Tryz.func49, Tryz.ntmps49
    go_wp2
    go_ret
    exact ⟨none, 0, rfl, ⟨none, 0, rfl, Nat.le_refl _, ⟨by simp [maxLen], fun _ => rfl⟩, .inl rfl⟩, Below.refl _ _⟩
  | some A =>
    go_enter Tryz.func49, Tryz.ntmps49
    go_wp2_with (refine stop_append rfl ?_)
    refine Stop.intro ?_
    refine app_copy row_print sl_print rfl _ _ rfl ⟨w.heap.size, 0, none⟩ rfl (some A) n c l rfl (h.mono (cmap_below (Below_alloc w _))) hb ?_
    intro A' c' w' hs hb'
    have HS := Lib.hid (And.intro hs hb')
    clear hs hb'
    go_wp2
    go_ret
    exact ⟨A', c', rfl, HS.out.1.mono (part_mono (by simp) (Nat.le_refl _)), (Below_alloc w _).trans (HS.out.2.mono (by simp))⟩
set_option maxHeartbeats 400000 in
theorem clone_i64 {A : Option Addr} {n c : Nat} {l : List Int} (w : World) (h : Sl IntC 1 (cmap w) (.slice A n c) l) (hb : n * 8 ≤ 140737488355328) :
    Calls Tryz.prog 48 #[.slice A n c] w fun e w' => ∃ A' c', e = .returned (.slice A' n c') ∧ Sl IntC 1 (part w' w.heap.size w'.heap.size) (.slice A' n c') l ∧ Below w.heap.size w w' := by
  have hq := fun (w : World) => Lib.run_eql_slice_nil w 32 _ A n c 0 0 Tryz.underlying32
  cases A with
  | none =>
    obtain ⟨A', c', he, hl1, ⟨-, h3⟩, -⟩ := id h
    injection he with e1 e2 e3
    subst e1 e3
    have hc := h3 rfl
    have hl0 : l = [] := List.eq_nil_of_length_eq_zero (by omega)
    subst hl0
    obtain rfl : n = 0 := e2
    subst hc
    simp only [Option.isNone_none] at hq
    clear h h3 hl1 hb
    go_enter Tryz.func48, Tryz.ntmps48
    go_wp2
    go_ret
    exact ⟨none, 0, rfl, ⟨none, 0, rfl, Nat.le_refl _, ⟨by simp [maxLen], fun _ => rfl⟩, .inl rfl⟩, Below.refl _ _⟩
  | some A =>
    go_enter Tryz.func48, Tryz.ntmps48
    go_wp2_with (refine stop_append rfl ?_)
    refine Stop.intro ?_
    refine app_copy row_int sl_i64 rfl _ _ rfl ⟨w.heap.size, 0, none⟩ rfl (some A) n c l rfl (h.mono (cmap_below (Below_alloc w _))) hb ?_
    intro A' c' w' hs hb'
    have HS := Lib.hid (And.intro hs hb')
    clear hs hb'
    go_wp2
    go_ret
    exact ⟨A', c', rfl, HS.out.1.mono (part_mono (by simp) (Nat.le_refl _)), (Below_alloc w _).trans (HS.out.2.mono (by simp))⟩
section
variable {w w' : World} {R : Nat → Prop} {g : Nat} {L : Lay} {u : Unit_} {m : Mach}
theorem own_sl {α : Type} {RR : CM → Nat → Nat → α → Prop} {f : α → List Value} {size base n : Nat} {e : TypeId} {v : Value} {l : List α} (hR : RowR RR f size) (h : w.ownsRow base e size v n (l.map f).flatten) (hn : n = l.length) : Sl RR size (cmap w) v l := by
  have hacc : Acc (fun _ cs x => cs = f x) size e base (fun _ => False) v l w := by
    refine ⟨⟨l.map f, by rw [← hn]; exact h, by simp, fun r hr => ?_, fun i r x hi hx => ?_⟩, fun _ h => h.elim⟩
    · obtain ⟨x, _, rfl⟩ := List.mem_map.1 hr
      exact hR.len x
    · rw [List.getElem?_map, hx] at hi
      injection hi with hi
      exact hi.symm
  haveI : MonoV (fun (_ : CM) cs (x : α) => cs = f x) := ⟨fun _ h => h⟩
  have := (hacc.done (Nat.le_refl _) (Nat.le_refl _)).mono (part_le _ _ _)
  exact this.imp' fun m b o x hx => hR.up _ _ _ _ (Cells_plain hx)
theorem flat1 (l : List Int) : l.map (Value.int .i64) = (l.map fun n => [Value.int .i64 n]).flatten := by
  induction l with
  | nil => rfl
  | cons a l ih => simp [ih]
theorem MachB.memSl (h : MachB w R g L u m) : Ints (cmap w) L.mv m.mem := by
  have := h.mem
  unfold i64sV at this
  rw [flat1] at this
  exact own_sl row_int this rfl
theorem MachB.printSl (h : MachB w R g L u m) : PrintsV (cmap w) L.pv m.prints := own_sl row_print h.prints rfl
theorem MachB.slotSl (h : MachB w R g L u m) {t : Nat} {l : List Int} {k : Nat} (hk : L.gl[t]? = some k) (hl : m.slots[t]? = some l) (hm : l.length ≤ maxLen) : Ints (cmap w) (.slice (some ⟨k, 0, none⟩) l.length l.length) l := by
  refine ⟨_, _, rfl, Nat.le_refl _, ⟨hm, fun h => by cases h⟩, .inr ⟨k, 0, rfl, fun i x hx => ?_⟩⟩
  show w.cell? ⟨k, 0 + i * 1, none⟩ = some (.int .i64 x)
  rw [Nat.mul_one, Nat.zero_add, (h.slot t k l hk hl).cell]
  unfold i64sV
  rw [List.getElem?_map, hx]; rfl
theorem memory_calls (h : MachB w R g L u m) (hb : m.mem.length * 8 ≤ 140737488355328) :
    Calls Tryz.prog 23 #[.pointer (some ⟨g, 0, none⟩)] w fun e w' => ∃ A c, e = .returned (.slice A m.mem.length c) ∧ Ints (part w' w.heap.size w'.heap.size) (.slice A m.mem.length c) m.mem ∧ Below w.heap.size w w' := by
  have hs := h.memSl
  obtain ⟨A, c, hA⟩ := h.mvf
  have g5 : w.cell? ⟨g, 5, none⟩ = some (.slice A m.mem.length c) := by rw [h.cell 5, ← hA]; rfl
  rw [hA] at hs
  have HC := Lib.hid (clone_i64 w hs hb)
  clear hs h hA hb
  go_enter Tryz.func23, Tryz.ntmps23
  go_wp2_with fail
  refine HC.out.mono ?_
  rintro e w1 ⟨A', c', rfl, h1, h2⟩
  go_wp2
  go_ret
  exact ⟨A', c', rfl, h1, h2⟩
theorem prints_calls (h : MachB w R g L u m) (hb : m.prints.length * 16 ≤ 140737488355328) :
    Calls Tryz.prog 26 #[.pointer (some ⟨g, 0, none⟩)] w fun e w' => ∃ A c, e = .returned (.slice A m.prints.length c) ∧ PrintsV (part w' w.heap.size w'.heap.size) (.slice A m.prints.length c) m.prints ∧ Below w.heap.size w w' := by
  have hs := h.printSl
  obtain ⟨A, c, hA⟩ := h.pvf
  have g7 : w.cell? ⟨g, 7, none⟩ = some (.slice A m.prints.length c) := by rw [h.cell 7, ← hA]; rfl
  rw [hA] at hs
  have HC := Lib.hid (clone_print w hs hb)
  clear hs h hA hb
  go_enter Tryz.func26, Tryz.ntmps26
  go_wp2_with fail
  refine HC.out.mono ?_
  rintro e w1 ⟨A', c', rfl, h1, h2⟩
  go_wp2
  go_ret
  exact ⟨A', c', rfl, h1, h2⟩
end
end Go.Proofs.YtmkpjiahkepigaaGreat
