import Derived.Test.YtkkmkjjbffpgnaaDoorP69
import Derived.Test.YtkkmkjjbffpgnaaDoorP35
/- What a source machine is asked: where a thread stands, whether it can, who holds a lock, whether all have ended, who waits. -/
namespace Go.Proofs.YtkkmkjjbffpgnaaDoor
open Go Go.RowKit
def Mach.where_ (m : Mach) (t : Int) : Int := if 0 ≤ t ∧ t < m.at_.length then (((m.at_[t.toNat]?).getD 0 : Nat) : Int) else -1
def Mach.holder (m : Mach) (l : Int) : Int := if 0 ≤ l ∧ l < m.holders.length then (m.holders[l.toNat]?).getD 0 else -1
def endedF (u : Unit_) (m : Mach) : Bool := (List.range m.at_.length).all fun t : Nat => barF u m t == 70
def waitL (u : Unit_) (m : Mach) (n : Nat) : List Int := ((List.range n).filter fun t : Nat => barF u m t == 71).map fun t : Nat => (t : Int)
def blockedF (u : Unit_) (m : Mach) : List Int := waitL u m m.at_.length
theorem waitL_succ (u : Unit_) (m : Mach) (n : Nat) : waitL u m (n + 1) = if barF u m n = 71 then waitL u m n ++ [(n : Int)] else waitL u m n := by
  unfold waitL
  rw [List.range_succ, List.filter_append, List.map_append]
  by_cases h : barF u m n = 71 <;> simp [h]
theorem waitL_len (u : Unit_) (m : Mach) (n : Nat) : (waitL u m n).length ≤ n := by
  unfold waitL
  rw [List.length_map]
  exact Nat.le_trans (List.length_filter_le _ _) (by simp)
section
variable {w w' : World} {R : Nat → Prop} {g : Nat} {L : Lay} {u : Unit_} {m : Mach}
set_option maxHeartbeats 1000000 in
theorem at_calls (t : Int) (h : MachB w R g L u m) :
    Calls Tryd.prog 9 #[.pointer (some ⟨g, 0, none⟩), .int .i64 t] w fun e w' => e = .returned (.int .i64 (m.where_ t)) ∧ ∃ q, w' = w.drewN q := by
  by_cases hr : 0 ≤ t ∧ t < m.at_.length
  · have hd : decide (0 ≤ t ∧ t < m.at_.length) = true := decide_eq_true hr
    obtain ⟨k, rfl⟩ := Int.eq_ofNat_of_zero_le hr.1
    have hkl : k < m.at_.length := by omega
    obtain ⟨i, hi⟩ : ∃ i, m.at_[k]? = some i := ⟨_, List.getElem?_eq_getElem hkl⟩
    have hw : m.where_ k = i := by unfold Mach.where_; rw [if_pos hr, Int.toNat_natCast, hi]; rfl
    rw [hw]
    obtain ⟨ab, ac, hav, a1, a2, a3, -⟩ := h.atAt hi
    have g3 : w.cell? ⟨g, 3, none⟩ = some (.slice (some ⟨ab, 0, none⟩) m.at_.length ac) := by rw [h.cell 3, ← hav]; rfl
    have i0 : (0 : Int) ≤ k := by omega
    have i1 : (k : Int) < m.at_.length := hr.2
    have HT := Lib.hid (And.intro (there_calls (k : Int) h) hd)
    clear h hd hi hr hkl hw hav
    go_enter Tryd.func9, Tryd.ntmps9
    go_wp2_with fail
    refine HT.out.1.mono ?_
    rintro e w1 ⟨rfl, q1, rfl⟩
    rw [HT.out.2]
    have g3' : (w.drewN q1).cell? ⟨g, 3, none⟩ = some (.slice (some ⟨ab, 0, none⟩) m.at_.length ac) := g3
    have a1' : (w.drewN q1).cell? ⟨ab, k, none⟩ = some (.int .i64 i) := a1
    go_wp2
    go_ret
    exact ⟨rfl, q1, rfl⟩
  · have hd : decide (0 ≤ t ∧ t < m.at_.length) = false := decide_eq_false hr
    have hw : m.where_ t = -1 := by unfold Mach.where_; rw [if_neg hr]
    rw [hw]
    have HT := Lib.hid (And.intro (there_calls t h) hd)
    clear h hd hr hw
    go_enter Tryd.func9, Tryd.ntmps9
    go_wp2_with fail
    refine HT.out.1.mono ?_
    rintro e w1 ⟨rfl, q1, rfl⟩
    rw [HT.out.2]
    go_wp2
    go_ret
    exact ⟨rfl, q1, rfl⟩
theorem at_nil (t : Int) (w : World) : Calls Tryd.prog 9 #[.pointer none, .int .i64 t] w fun e w' => e = .returned (.int .i64 (-1)) ∧ ∃ q, w' = w.drewN q := by
  have HT := Lib.hid (there_nil t w)
  go_enter Tryd.func9, Tryd.ntmps9
  go_wp2_with fail
  refine HT.out.mono ?_
  rintro e w1 ⟨rfl, q1, rfl⟩
  go_wp2
  go_ret
  exact ⟨rfl, q1, rfl⟩
theorem can_calls (t : Int) (h : MachB w R g L u m) (hok : MachOk u m) (hu : RightU u) :
    Calls Tryd.prog 8 #[.pointer (some ⟨g, 0, none⟩), .int .i64 t] w fun e w' => e = .returned (.bool (barF u m t == 0)) ∧ Below w.heap.size w w' := by
  have HT := Lib.hid (bar_calls t h hok hu)
  clear h hok hu
  go_enter Tryd.func8, Tryd.ntmps8
  go_wp2_with fail
  refine HT.out.mono ?_
  rintro e w1 ⟨rfl, hb⟩
  go_wp2
  go_ret
  exact ⟨rfl, hb⟩
theorem can_nil (t : Int) (w : World) : Calls Tryd.prog 8 #[.pointer none, .int .i64 t] w fun e w' => e = .returned (.bool false) ∧ w' = w := by
  have HT := Lib.hid (bar_nil t w)
  go_enter Tryd.func8, Tryd.ntmps8
  go_wp2_with fail
  refine HT.out.mono ?_
  rintro e w1 ⟨rfl, rfl⟩
  go_wp2
  go_ret
  exact ⟨rfl, rfl⟩
set_option maxHeartbeats 1000000 in
theorem holder_calls (l : Int) (h : MachB w R g L u m) :
    Calls Tryd.prog 10 #[.pointer (some ⟨g, 0, none⟩), .int .i64 l] w fun e w' => e = .returned (.int .i64 (m.holder l)) ∧ w' = w := by
  by_cases h0 : l < 0
  · have hw : m.holder l = -1 := by unfold Mach.holder; rw [if_neg (by omega)]
    rw [hw]
    have hd : decide (l < 0) = true := decide_eq_true h0
    clear h hw h0
    go_enter Tryd.func10, Tryd.ntmps10
    go_wp2
    go_ret
    exact ⟨rfl, rfl⟩
  · have hd : decide (l < 0) = false := decide_eq_false h0
    obtain ⟨A, c, hA⟩ := h.hvf
    have g6 : w.cell? ⟨g, 6, none⟩ = some (.slice A m.holders.length c) := by rw [h.cell 6, ← hA]; rfl
    by_cases h1 : l < m.holders.length
    · obtain ⟨k, rfl⟩ := Int.eq_ofNat_of_zero_le (by omega : 0 ≤ l)
      have hkl : k < m.holders.length := by omega
      obtain ⟨i, hi⟩ : ∃ i, m.holders[k]? = some i := ⟨_, List.getElem?_eq_getElem hkl⟩
      have hw : m.holder k = i := by unfold Mach.holder; rw [if_pos (by omega), Int.toNat_natCast, hi]; rfl
      rw [hw]
      obtain ⟨ab, ac, hav, a1, a2, a3, -⟩ := h.holdAt hi
      obtain ⟨rfl, rfl⟩ : A = some ⟨ab, 0, none⟩ ∧ c = ac := by rw [hA] at hav; injection hav with e1 _ e3; exact ⟨e1, e3⟩
      have hd1 : decide ((k : Int) ≥ m.holders.length) = false := decide_eq_false (by omega)
      have i0 : (0 : Int) ≤ k := by omega
      clear h hw h0 hA hav hi hkl
      go_enter Tryd.func10, Tryd.ntmps10
      go_wp2
      go_ret
      exact ⟨rfl, rfl⟩
    · have hw : m.holder l = -1 := by unfold Mach.holder; rw [if_neg (by omega)]
      rw [hw]
      have hd1 : decide (l ≥ m.holders.length) = true := decide_eq_true (by omega)
      clear h hw h0 hA
      go_enter Tryd.func10, Tryd.ntmps10
      go_wp2
      go_ret
      exact ⟨rfl, rfl⟩
theorem holder_nil (l : Int) (w : World) : Calls Tryd.prog 10 #[.pointer none, .int .i64 l] w fun e w' => e = .returned (.int .i64 (-1)) ∧ w' = w := by
  go_enter Tryd.func10, Tryd.ntmps10
  go_wp2
  go_ret
  exact ⟨rfl, rfl⟩
end
end Go.Proofs.YtkkmkjjbffpgnaaDoor
/- slices.Clone at four element types; what a machine's memory, slots and prints are asked. -/
namespace Go.Proofs.YtkkmkjjbffpgnaaDoor
open Go Go.RowKit
def PrintC (m : CM) (b o : Nat) (p : Int × Int) : Prop := m b o = some (.int .i64 p.1) ∧ m b (o + 1) = some (.int .i64 p.2)
instance : Mono PrintC := ⟨fun hm ⟨h1, h2⟩ => ⟨hm _ _ _ h1, hm _ _ _ h2⟩⟩
abbrev PrintsV := Sl PrintC 2
theorem row_print : RowR PrintC (fun p => [.int .i64 p.1, .int .i64 p.2]) 2 where
  dn := fun m b o d h j v hj => by
    match j, hj with
    | 0, hj => injection hj with hj; subst hj; exact h.1
    | 1, hj => injection hj with hj; subst hj; exact h.2
  up := fun m b o d h => ⟨h 0 _ rfl, h 1 _ rfl⟩
  len := fun _ => rfl
  one := fun d u hu => by
    simp at hu
    rcases hu with rfl | rfl <;> rfl
theorem row_int : RowR IntC (fun n => [.int .i64 n]) 1 where
  dn := fun m b o d h j v hj => by
    match j, hj with
    | 0, hj => injection hj with hj; subst hj; exact h
  up := fun m b o d h => h 0 _ rfl
  len := fun _ => rfl
  one := fun d u hu => by
    simp at hu
    subst hu; rfl
theorem sl_i64 : SlT Tryd.prog 76 2 1 8 (.int .i64 0) := SlT.mk' Tryd.underlying76 (by kernel_rfl) rfl (by omega)
theorem sl_node' : SlT Tryd.prog 39 50 13 96 (.agg #[.int .u8 0, .int .u8 0, .int .i64 0, .int .i64 0, .bool false, .int .i64 0, .int .i64 0, .bool false, .int .i64 0, .int .i64 0, .int .i64 0, .int .i64 0, .int .i64 0]) := SlT.mk' Tryd.underlying39 (by kernel_rfl) rfl (by omega)
set_option maxHeartbeats 400000 in
theorem clone_decl {A : Option Addr} {n c : Nat} {l : List Decl} (w : World) (h : Sl DeclC 3 (cmap w) (.slice A n c) l) (hb : n * 32 ≤ 140737488355328) :
    Calls Tryd.prog 19 #[.slice A n c] w fun e w' => ∃ A' c', e = .returned (.slice A' n c') ∧ Sl DeclC 3 (part w' w.heap.size w'.heap.size) (.slice A' n c') l ∧ Below w.heap.size w w' := by
  have hq := fun (w : World) => Lib.run_eql_slice_nil w 22 _ A n c 0 0 Tryd.underlying22
  cases A with
  | none =>
    obtain ⟨A', c', he, hl1, ⟨-, h3⟩, -⟩ := id h
    injection he with e1 e2 e3
    subst e1 e3
    have hc := h3 rfl
    have hl0 : l = [] := List.eq_nil_of_length_eq_zero (by omega)
    subst hl0
    obtain rfl : n = 0 := e2
    subst hc
    simp only [Option.isNone_none] at hq
    clear h h3 hl1 hb
    go_enter Tryd.func19, Tryd.ntmps19
    go_wp2
    go_ret
    exact ⟨none, 0, rfl, ⟨none, 0, rfl, Nat.le_refl _, ⟨by simp [maxLen], fun _ => rfl⟩, .inl rfl⟩, Below.refl _ _⟩
  | some A =>
    go_enter Tryd.func19, Tryd.ntmps19
    go_wp2_with (refine stop_append rfl ?_)
    refine Stop.intro ?_
    refine app_copy row_decl sl_decl rfl _ _ rfl ⟨w.heap.size, 0, none⟩ rfl (some A) n c l rfl (h.mono (cmap_below (Below_alloc w _))) hb ?_
    intro A' c' w' hs hb'
    have HS := Lib.hid (And.intro hs hb')
    clear hs hb'
    go_wp2
    go_ret
    exact ⟨A', c', rfl, HS.out.1.mono (part_mono (by simp) (Nat.le_refl _)), (Below_alloc w _).trans (HS.out.2.mono (by simp))⟩
set_option maxHeartbeats 400000 in
theorem clone_node {A : Option Addr} {n c : Nat} {l : List Node} (w : World) (h : Sl NodeC 13 (cmap w) (.slice A n c) l) (hb : n * 96 ≤ 140737488355328) :
    Calls Tryd.prog 20 #[.slice A n c] w fun e w' => ∃ A' c', e = .returned (.slice A' n c') ∧ Sl NodeC 13 (part w' w.heap.size w'.heap.size) (.slice A' n c') l ∧ Below w.heap.size w w' := by
  have hq := fun (w : World) => Lib.run_eql_slice_nil w 39 _ A n c 0 0 Tryd.underlying39
  cases A with
  | none =>
    obtain ⟨A', c', he, hl1, ⟨-, h3⟩, -⟩ := id h
    injection he with e1 e2 e3
    subst e1 e3
    have hc := h3 rfl
    have hl0 : l = [] := List.eq_nil_of_length_eq_zero (by omega)
    subst hl0
    obtain rfl : n = 0 := e2
    subst hc
    simp only [Option.isNone_none] at hq
    clear h h3 hl1 hb
    go_enter Tryd.func20, Tryd.ntmps20
    go_wp2
    go_ret
    exact ⟨none, 0, rfl, ⟨none, 0, rfl, Nat.le_refl _, ⟨by simp [maxLen], fun _ => rfl⟩, .inl rfl⟩, Below.refl _ _⟩
  | some A =>
    go_enter Tryd.func20, Tryd.ntmps20
    go_wp2_with (refine stop_append rfl ?_)
    refine Stop.intro ?_
    refine app_copy row_node sl_node' rfl _ _ rfl ⟨w.heap.size, 0, none⟩ rfl (some A) n c l rfl (h.mono (cmap_below (Below_alloc w _))) hb ?_
    intro A' c' w' hs hb'
    have HS := Lib.hid (And.intro hs hb')
    clear hs hb'
    go_wp2
    go_ret
    exact ⟨A', c', rfl, HS.out.1.mono (part_mono (by simp) (Nat.le_refl _)), (Below_alloc w _).trans (HS.out.2.mono (by simp))⟩
section
variable {w w' : World} {R : Nat → Prop} {g : Nat} {L : Lay} {u : Unit_} {m : Mach}
theorem own_sl {α : Type} {RR : CM → Nat → Nat → α → Prop} {f : α → List Value} {size base n : Nat} {e : TypeId} {v : Value} {l : List α} (hR : RowR RR f size) (h : w.ownsRow base e size v n (l.map f).flatten) (hn : n = l.length) : Sl RR size (cmap w) v l := by
  have hacc : Acc (fun _ cs x => cs = f x) size e base (fun _ => False) v l w := by
    refine ⟨⟨l.map f, by rw [← hn]; exact h, by simp, fun r hr => ?_, fun i r x hi hx => ?_⟩, fun _ h => h.elim⟩
    · obtain ⟨x, _, rfl⟩ := List.mem_map.1 hr
      exact hR.len x
    · rw [List.getElem?_map, hx] at hi
      injection hi with hi
      exact hi.symm
  haveI : MonoV (fun (_ : CM) cs (x : α) => cs = f x) := ⟨fun _ h => h⟩
  have := (hacc.done (Nat.le_refl _) (Nat.le_refl _)).mono (part_le _ _ _)
  exact this.imp' fun m b o x hx => hR.up _ _ _ _ (Cells_plain hx)
theorem flat1 (l : List Int) : l.map (Value.int .i64) = (l.map fun n => [Value.int .i64 n]).flatten := by
  induction l with
  | nil => rfl
  | cons a l ih => simp [ih]
theorem MachB.memSl (h : MachB w R g L u m) : Ints (cmap w) L.mv m.mem := by
  have := h.mem
  unfold i64sV at this
  rw [flat1] at this
  exact own_sl row_int this rfl
theorem MachB.printSl (h : MachB w R g L u m) : PrintsV (cmap w) L.pv m.prints := own_sl row_print h.prints rfl
theorem MachB.slotSl (h : MachB w R g L u m) {t : Nat} {l : List Int} {k : Nat} (hk : L.gl[t]? = some k) (hl : m.slots[t]? = some l) (hm : l.length ≤ maxLen) : Ints (cmap w) (.slice (some ⟨k, 0, none⟩) l.length l.length) l := by
  refine ⟨_, _, rfl, Nat.le_refl _, ⟨hm, fun h => by cases h⟩, .inr ⟨k, 0, rfl, fun i x hx => ?_⟩⟩
  show w.cell? ⟨k, 0 + i * 1, none⟩ = some (.int .i64 x)
  rw [Nat.mul_one, Nat.zero_add, (h.slot t k l hk hl).cell]
  unfold i64sV
  rw [List.getElem?_map, hx]; rfl
end
end Go.Proofs.YtkkmkjjbffpgnaaDoor
