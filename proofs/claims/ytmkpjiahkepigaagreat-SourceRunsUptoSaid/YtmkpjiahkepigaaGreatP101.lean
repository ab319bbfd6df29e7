import Derived.Test.YtmkpjiahkepigaaGreatP88
import Derived.Test.YtmkpjiahkepigaaGreatP100
import Derived.Test.YtmkpjiahkepigaaGreatP72
/- The reference's Visible. -/
namespace Go.Proofs.YtmkpjiahkepigaaGreat
open Go Go.RowKit
set_option maxRecDepth 100000 in
set_option maxHeartbeats 2000000 in
theorem r7vis_calls (cl : List Cls) (v : Value) (n : Node) (w : World) (hv : Clss (cmap w) v cl) :
    Calls Tryz.prog 13 #[v, .agg n.cells.toArray] w fun e w' => e = .returned (.bool (visB cl n)) ∧ Below w.heap.size w w' := by
  obtain ⟨vA, vc, rfl, -⟩ := id hv
  have HV := Lib.hid hv
  obtain ⟨r, hr⟩ : ∃ r, visB cl n = r := ⟨_, rfl⟩
  rw [hr]
  unfold visB at hr
  obtain ⟨nk, nop, nsl, nth, ⟨a1, a2, a3⟩, ⟨b1, b2, b3⟩, nn, ne_, no⟩ := n
  simp only at hr
  unfold Node.cells
  have hB := Lib.hid (Below_alloc' w (.cells #[.int .u8 nk, .int .u8 nop, .int .i64 nsl, .int .i64 nth, .bool a1, .int .i64 a2, .int .i64 a3, .bool b1, .int .i64 b2, .int .i64 b3, .int .i64 nn, .int .i64 ne_, .int .i64 no] 53))
  clear hv
  by_cases hk : nk = 5 ∨ nk = 6 ∨ nk = 7
  · have hr : true = r := by rw [← hr]; simp [hk]
    subst hr
    rcases hk with rfl | rfl | rfl
    all_goals (
      go_enter Tryz.func13, Tryz.ntmps13
      go_wp2
      go_ret
      exact ⟨rfl, hB.out⟩)
  · have hr : (decide (nk = 2 ∨ nk = 3 ∨ nk = 4) && (decide (0 ≤ nth ∧ nth < cl.length) && (match cl[nth.toNat]? with | some c => decide (c.kind = 3) | none => false))) = r := by rw [← hr]; first | (simp [hk]; done) | (simp [hk]; rfl)
    have q5 : (nk == 5) = false := by simp; omega
    have q6 : (nk == 6) = false := by simp; omega
    have q7 : (nk == 7) = false := by simp; omega
    by_cases ht : nk = 2 ∨ nk = 3 ∨ nk = 4
    · have hr : (decide (0 ≤ nth ∧ nth < cl.length) && (match cl[nth.toNat]? with | some c => decide (c.kind = 3) | none => false)) = r := by rw [← hr]; simp [ht]
      by_cases h0 : 0 ≤ nth
      · obtain ⟨q, rfl⟩ := Int.eq_ofNat_of_zero_le h0
        by_cases hq : q < cl.length
        · obtain ⟨c, hcl⟩ : ∃ c, cl[q]? = some c := ⟨_, List.getElem?_eq_getElem hq⟩
          obtain ⟨cb, co, rfl, _, rfl, hcc⟩ := (HV.out.mono (cmap_below hB.out)).at_ hcl
          have c0 := hcc 0 _ rfl
          have i0 : decide ((q : Int) ≥ 0) = true := decide_eq_true (by omega)
          have i1 : decide ((q : Int) < cl.length) = true := decide_eq_true (by omega)
          have i2 : (q : Int) < cl.length := by omega
          have i3 : (0 : Int) ≤ q := by omega
          have hr : decide (c.kind = 3) = r := by
            rw [← hr, Int.toNat_natCast, hcl]
            have : decide ((0 : Int) ≤ (q : Int) ∧ (q : Int) < cl.length) = true := decide_eq_true ⟨i3, i2⟩
            rw [this]; rfl
          have HR := Lib.hid hr
          have c0' : (w.alloc (.cells #[.int .u8 nk, .int .u8 nop, .int .i64 nsl, .int .i64 (q : Int), .bool a1, .int .i64 a2, .int .i64 a3, .bool b1, .int .i64 b2, .int .i64 b3, .int .i64 nn, .int .i64 ne_, .int .i64 no] 53)).cell? ⟨cb, co + q * 3, none⟩ = some (.int .u8 c.kind) := c0
          clear hr hcc hcl c0 hk q5 q6 q7 h0 hq
          rcases ht with rfl | rfl | rfl
          all_goals (
            go_enter Tryz.func13, Tryz.ntmps13
            go_wp2
            go_ret
            exact ⟨by rw [← HR.out]; rfl, hB.out⟩)
        · have i0 : decide ((q : Int) ≥ 0) = true := decide_eq_true (by omega)
          have i1 : decide ((q : Int) < cl.length) = false := decide_eq_false (by omega)
          have i2 : ¬ ((q : Int) < cl.length) := by omega
          have i4 : decide (q < cl.length) = false := decide_eq_false hq
          have i3 : (0 : Int) ≤ q := by omega
          have hr : false = r := by
            rw [← hr]
            have : decide ((0 : Int) ≤ (q : Int) ∧ (q : Int) < cl.length) = false := decide_eq_false (by omega)
            rw [this]; rfl
          subst hr
          clear hk q5 q6 q7 h0 hq
          rcases ht with rfl | rfl | rfl
          all_goals (
            go_enter Tryz.func13, Tryz.ntmps13
            go_wp2
            go_ret
            exact ⟨rfl, hB.out⟩)
      · have i0 : decide (nth ≥ 0) = false := decide_eq_false (by omega)
        have hr : false = r := by
          rw [← hr]
          have : decide (0 ≤ nth ∧ nth < (cl.length : Int)) = false := decide_eq_false (by omega)
          rw [this]; rfl
        subst hr
        clear hk q5 q6 q7
        rcases ht with rfl | rfl | rfl
        all_goals (
          go_enter Tryz.func13, Tryz.ntmps13
          go_wp2
          go_ret
          exact ⟨rfl, hB.out⟩)
    · have hr : false = r := by rw [← hr]; simp [ht]
      subst hr
      have q2 : (nk == 2) = false := by simp; omega
      have q3 : (nk == 3) = false := by simp; omega
      have q4 : (nk == 4) = false := by simp; omega
      clear hk ht
      go_enter Tryz.func13, Tryz.ntmps13
      go_wp2
      go_ret
      exact ⟨rfl, hB.out⟩
end Go.Proofs.YtmkpjiahkepigaaGreat
/- The reference's Run. -/
namespace Go.Proofs.YtmkpjiahkepigaaGreat
open Go Go.RowKit
/-- What is read while w's own first two blocks are written. -/
def zn (w : World) (S : Nat → Prop) : Nat → Prop := fun q => (S q ∧ q < w.heap.size) ∨ w.heap.size + 2 ≤ q
theorem zn_start {w wr : World} {S : Nat → Prop} (hb : Below w.heap.size w wr) : (on w S).le (on wr (zn w S)) := by
  intro b o v hv
  obtain ⟨h1, h2⟩ := on_at hv
  have hlt := World.block_lt_of_cell? w ⟨b, o, none⟩ h1
  exact on_mk ((hb.cell (p := ⟨b, o, none⟩) hlt).trans h1) (.inl ⟨h2, hlt⟩)
theorem zn_fin {w wr : World} {S : Nat → Prop} : (on wr (zn w S)).le (on wr (fun b => S b ∨ w.heap.size ≤ b)) := on_keep (fun _ _ _ => rfl) fun b hb => by
  rcases hb with e | e
  · exact .inl e.1
  · exact .inr (by omega)
theorem zn_below {w wr wx : World} {S : Nat → Prop} (hb : Below wr.heap.size wr wx) : (on wr (zn w S)).le (on wx (zn w S)) := on_keep (fun b _ hlt => hb.block b hlt) fun _ hb => hb
theorem zn_row {w wr : World} {S : Nat → Prop} {k : Nat} (hk : k = w.heap.size ∨ k = w.heap.size + 1) (cs : Array Value) : (on wr (zn w S)).le (on (wr.setRow k cs) (zn w S)) := on_keep (fun b hb hlt => heap_setRow_ne (fun e => by
  subst e
  rcases hb with e | e
  · have := e.2; omega
  · omega) _) fun _ hb => hb
theorem zn_made {w wr w1 : World} {S : Nat → Prop} (hw : w.heap.size + 2 ≤ wr.heap.size) : (on w1 (fun b => zn w S b ∨ wr.heap.size ≤ b)).le (on w1 (zn w S)) := on_keep (fun _ _ _ => rfl) fun b hb => by
  rcases hb with e | e
  · exact e
  · exact .inr (by omega)
/-- Behind k threads, all of which could. -/
structure RrAt (w wr : World) (S : Nat → Prop) (u : Unit_) (m : Mach) (l : List Int) (k : Nat) (cs : List Value) (mk : Mach) : Prop where
  bel : Below w.heap.size w wr
  b0 : Blk wr w.heap.size 35 cs
  b1 : Blk wr (w.heap.size + 1) 35 nil8
  ref : RefV (on wr (zn w S)) cs u mk
  situ : Situ u mk
  pr : mk.prints.length ≤ m.prints.length + k
  r1 : (runF u m l).1 = (runF u mk (l.drop k)).1
  r2 : (runF u m l).2.1 = (runF u mk (l.drop k)).2.1 + k
  r3 : (runF u m l).2.2 = (runF u mk (l.drop k)).2.2
set_option maxRecDepth 100000 in
set_option maxHeartbeats 8000000 in
theorem r7run_calls (cs : List Value) (u : Unit_) (m : Mach) (A : Option Addr) (c : Nat) (l : List Int) (w : World) (S : Nat → Prop) (h : RefV (on w S) cs u m) (hu : RightU u) (hz : SizeU u) (huo : UOk u) (hs : Situ u m) (hv : Ints (cmap w) (.slice A l.length c) l) (hp : m.prints.length + l.length < 4294967295) :
    Calls Tryz.prog 14 #[.agg cs.toArray, .slice A l.length c] w fun e w' => ∃ cs', e = .returned (.tuple #[.agg cs'.toArray, .int .i64 (runF u m l).2.1, .int .i64 (runF u m l).2.2]) ∧ RefV (on w' (fun b => S b ∨ w.heap.size ≤ b)) cs' u (runF u m l).1 ∧ Below w.heap.size w w' := by
  have hlen := hv.len.2.2
  obtain ⟨X, hX⟩ : ∃ X, runF u m l = X := ⟨_, rfl⟩
  obtain ⟨X1, X2, X3⟩ := X
  obtain ⟨su, lu, gu, va, vo, vm, vh, vp, rfl, -⟩ := id h
  have hb0 : Below w.heap.size w ((w.alloc (.cells #[su, lu, gu, va, vo, vm, vh, vp] 35)).alloc (.cells #[.slice none 0 0, .slice none 0 0, .slice none 0 0, .slice none 0 0, .slice none 0 0, .slice none 0 0, .slice none 0 0, .slice none 0 0] 35)) := (Below_alloc' w _).alloc (by simp) _
  have hS : RrAt w ((w.alloc (.cells #[su, lu, gu, va, vo, vm, vh, vp] 35)).alloc (.cells #[.slice none 0 0, .slice none 0 0, .slice none 0 0, .slice none 0 0, .slice none 0 0, .slice none 0 0, .slice none 0 0, .slice none 0 0] 35)) S u m l 0 [su, lu, gu, va, vo, vm, vh, vp] m :=
    ⟨hb0, (Blk.new w _ _).alloc _, Blk.of (heap_new (w.alloc _) _ _ (by simp)) rfl, h.mono (zn_start hb0), hs, by omega, rfl, rfl, rfl⟩
  have HS := Lib.hid hS
  have HM := Lib.hid (And.intro hu (And.intro hz (And.intro huo (And.intro hp (And.intro hv hX)))))
  rw [hX]
  clear h hu hz huo hs hp hv hX hS hb0
  dsimp only
  go_enter Tryz.func14, Tryz.ntmps14
  go_wp2
  go_loopw [14, 7, 8, 9, 10, 11] (fun i _ _ _ _ _ wr => ∃ (k : Nat) (mk : Mach) (cs' : List Value), i = .int .i64 k ∧ k ≤ l.length ∧ Hid (RrAt w wr S u m l k cs' mk)) (fun i _ _ _ _ _ _ => l.length - (intOf i).toNat)
  case atStart => exact ⟨0, m, _, rfl, by omega, HS⟩
  case round =>
    clear HS
    obtain ⟨k, mk, csk, rfl, hk, HR⟩ := hrel
    obtain ⟨su1, lu1, gu1, va1, vo1, vm1, vh1, vp1, rfl, -⟩ := id HR.out.ref
    have ONEK := ref_oneA HR.out.ref
    have HLM : Hid (∀ j v, ([su1, lu1, gu1, va1, vo1, vm1, vh1, vp1] : List Value)[j]? = some v → wr.cell? ⟨w.heap.size, 0 + j, none⟩ = some v) := Lib.hid fun j v hj => by rw [Nat.zero_add, (HR.out.b0).cell]; exact hj
    have hw2 : w.heap.size + 2 ≤ wr.heap.size := by have := HR.out.b1.lt; omega
    by_cases hlt : k < l.length
    · obtain ⟨t, ht⟩ : ∃ t, l[k]? = some t := ⟨_, List.getElem?_eq_getElem hlt⟩
      obtain ⟨sb, so, rfl, hc⟩ := (HM.out.2.2.2.2.1.mono (cmap_below HR.out.bel)).at_ ht
      rw [Nat.mul_one] at hc
      have hc1 : wr.cell? ⟨sb, so + k, none⟩ = some (.int .i64 t) := hc
      have hd : l.drop k = t :: l.drop (k + 1) := by
        obtain ⟨h1, h2⟩ := List.getElem?_eq_some_iff.1 ht
        rw [List.drop_eq_getElem_cons h1, h2]
      have hst := r7step_calls _ u mk t wr (zn w S) HR.out.ref HM.out.1 HM.out.2.1 HM.out.2.2.1 HR.out.situ (by have := HR.out.pr; have := HM.out.2.2.2.1; omega)
      obtain ⟨d, hdd⟩ : ∃ d, stepD u mk t = d := ⟨_, rfl⟩
      obtain ⟨r, hr⟩ : ∃ r, barF u mk t = r := ⟨_, rfl⟩
      rw [hdd, hr] at hst
      have HST := Lib.hid (And.intro hst (And.intro hd (And.intro hr hw2)))
      have i0 : (0 : Int) ≤ k := by omega
      have i1 : (k : Int) < l.length := by omega
      clear hc hd ht hst hdd hr hw2
      go_wp2_with (first
        | (refine wpList_load_at rfl 35 _ rfl w.heap.size 0 rfl _ _ HLM.out Tryz.underlying35 rfl (by kernel_rfl) ?_))
      refine HST.out.1.mono ?_
      rintro e w6 ⟨cs2, rfl, hr6, hb6⟩
      obtain ⟨su2, lu2, gu2, va2, vo2, vm2, vh2, vp2, rfl, -⟩ := id hr6
      have ONEF := ref_oneA hr6
      have HR6 := Lib.hid (And.intro hr6 hb6)
      clear hr6 hb6 HLM hc1
      go_wp2_with (first
        | (refine stop_store 35 rfl ?_)
        | (refine stop_store 41 rfl ?_))
      refine Stop.intro ?_
      have ka : Blk ((w6.alloc (.cells #[.slice none 0 0, .slice none 0 0, .slice none 0 0, .slice none 0 0, .slice none 0 0, .slice none 0 0, .slice none 0 0, .slice none 0 0] 35)).alloc (.cells #[.int .i64 0, .int .i64 0, .int .u8 0, .int .i64 0, .int .i64 0, .int .i64 0] 41)) w6.heap.size 35 [.slice none 0 0, .slice none 0 0, .slice none 0 0, .slice none 0 0, .slice none 0 0, .slice none 0 0, .slice none 0 0, .slice none 0 0] := (Blk.new w6 _ _).alloc _
      have kb : Blk ((w6.alloc (.cells #[.slice none 0 0, .slice none 0 0, .slice none 0 0, .slice none 0 0, .slice none 0 0, .slice none 0 0, .slice none 0 0, .slice none 0 0] 35)).alloc (.cells #[.int .i64 0, .int .i64 0, .int .u8 0, .int .i64 0, .int .i64 0, .int .i64 0] 41)) (w6.heap.size + 1) 41 [.int .i64 0, .int .i64 0, .int .u8 0, .int .i64 0, .int .i64 0, .int .i64 0] := Blk.of (heap_new (w6.alloc _) _ _ (by simp)) rfl
      have kz : Below w6.heap.size w6 ((w6.alloc (.cells #[.slice none 0 0, .slice none 0 0, .slice none 0 0, .slice none 0 0, .slice none 0 0, .slice none 0 0, .slice none 0 0, .slice none 0 0] 35)).alloc (.cells #[.int .i64 0, .int .i64 0, .int .u8 0, .int .i64 0, .int .i64 0, .int .i64 0] 41)) := (Below_alloc' w6 _).alloc (by simp) _
      refine wpList_plain rfl fun K hK => wp_store_row 35 _ _ rfl w6.heap.size ([su2, lu2, gu2, va2, vo2, vm2, vh2, vp2] : List Value).toArray rfl rfl 35 _ ka (by kernel_rfl) rfl ONEF (hK _ _ ?_)
      have ka1 : Blk (((w6.alloc (.cells #[.slice none 0 0, .slice none 0 0, .slice none 0 0, .slice none 0 0, .slice none 0 0, .slice none 0 0, .slice none 0 0, .slice none 0 0] 35)).alloc (.cells #[.int .i64 0, .int .i64 0, .int .u8 0, .int .i64 0, .int .i64 0, .int .i64 0] 41)).setRow w6.heap.size ([su2, lu2, gu2, va2, vo2, vm2, vh2, vp2] : List Value).toArray) w6.heap.size 35 [su2, lu2, gu2, va2, vo2, vm2, vh2, vp2] := Blk.setRow (cs' := [su2, lu2, gu2, va2, vo2, vm2, vh2, vp2]) ka
      have kb1 : Blk (((w6.alloc (.cells #[.slice none 0 0, .slice none 0 0, .slice none 0 0, .slice none 0 0, .slice none 0 0, .slice none 0 0, .slice none 0 0, .slice none 0 0] 35)).alloc (.cells #[.int .i64 0, .int .i64 0, .int .u8 0, .int .i64 0, .int .i64 0, .int .i64 0] 41)).setRow w6.heap.size ([su2, lu2, gu2, va2, vo2, vm2, vh2, vp2] : List Value).toArray) (w6.heap.size + 1) 41 [.int .i64 0, .int .i64 0, .int .u8 0, .int .i64 0, .int .i64 0, .int .i64 0] := (heap_setRow_ne (by omega) _).trans kb
      have kz1 : Below w6.heap.size w6 (((w6.alloc (.cells #[.slice none 0 0, .slice none 0 0, .slice none 0 0, .slice none 0 0, .slice none 0 0, .slice none 0 0, .slice none 0 0, .slice none 0 0] 35)).alloc (.cells #[.int .i64 0, .int .i64 0, .int .u8 0, .int .i64 0, .int .i64 0, .int .i64 0] 41)).setRow w6.heap.size ([su2, lu2, gu2, va2, vo2, vm2, vh2, vp2] : List Value).toArray) := below_row kz (Nat.le_refl _) _
      obtain ⟨x7, hx7⟩ : ∃ x, ((w6.alloc (.cells #[.slice none 0 0, .slice none 0 0, .slice none 0 0, .slice none 0 0, .slice none 0 0, .slice none 0 0, .slice none 0 0, .slice none 0 0] 35)).alloc (.cells #[.int .i64 0, .int .i64 0, .int .u8 0, .int .i64 0, .int .i64 0, .int .i64 0] 41)).setRow w6.heap.size ([su2, lu2, gu2, va2, vo2, vm2, vh2, vp2] : List Value).toArray = x := ⟨_, rfl⟩
      rw [hx7] at ka1 kb1 kz1 ⊢
      simp only [put_none]
      refine wpList_plain rfl fun K hK => wp_store_row 41 _ _ rfl (w6.heap.size + 1) d.cells.toArray rfl rfl 41 _ kb1 (by kernel_rfl) rfl (by simp [Did.cells, Value.oneCell']) (hK _ _ ?_)
      have ka2 : Blk (x7.setRow (w6.heap.size + 1) d.cells.toArray) w6.heap.size 35 [su2, lu2, gu2, va2, vo2, vm2, vh2, vp2] := (heap_setRow_ne (by omega) _).trans ka1
      have kz2 : Below w6.heap.size w6 (x7.setRow (w6.heap.size + 1) d.cells.toArray) := below_row kz1 (by omega) _
      obtain ⟨x8, hx8⟩ : ∃ x, x7.setRow (w6.heap.size + 1) d.cells.toArray = x := ⟨_, rfl⟩
      rw [hx8] at ka2 kz2 ⊢
      simp only [put_none]
      clear ka kb kz ka1 kb1 kz1 hx7 hx8
      have hbr : Below wr.heap.size wr x8 := HR6.out.2.trans (kz2.mono HR6.out.2.size)
      have hb8 : Below w.heap.size w x8 := HR.out.bel.trans (hbr.mono HR.out.bel.size)
      have c0 := HR.out.b0.below hbr HR.out.b0.lt
      have c1 := HR.out.b1.below hbr HR.out.b1.lt
      have hne : w.heap.size ≠ w6.heap.size := by have := HR.out.b0.lt; have := HR6.out.2.size; omega
      by_cases hb : r = 0
      · have e0 : (r != 0) = false := by simp [hb]
        have hrx : RefV (on x8 (zn w S)) [su2, lu2, gu2, va2, vo2, vm2, vh2, vp2] u (stepM u mk t) := (HR6.out.1.mono (zn_made HST.out.2.2.2)).mono (zn_below kz2)
        have HL2 : Hid (∀ j v, ([su2, lu2, gu2, va2, vo2, vm2, vh2, vp2] : List Value)[j]? = some v → x8.cell? ⟨w6.heap.size, 0 + j, none⟩ = some v) := Lib.hid fun j v hj => by rw [Nat.zero_add, (ka2).cell]; exact hj
        have HX := Lib.hid (And.intro hb8 (And.intro c0 (And.intro c1 (And.intro hrx hb))))
        clear ka2 kz2 hbr hb8 c0 c1 hne hrx hb HR6
        go_wp2_with (first
          | (refine wpList_load_at rfl 35 _ rfl w6.heap.size 0 rfl _ _ HL2.out Tryz.underlying35 rfl (by kernel_rfl) ?_)
          | (refine stop_store 35 rfl ?_))
        refine Stop.intro ?_
        refine wpList_plain rfl fun K hK => wp_store_row 35 _ _ rfl w.heap.size ([su2, lu2, gu2, va2, vo2, vm2, vh2, vp2] : List Value).toArray rfl rfl 35 _ HX.out.2.1 (by kernel_rfl) rfl ONEF (hK _ _ ?_)
        simp only [put_none]
        have hnext : RrAt w (x8.setRow w.heap.size ([su2, lu2, gu2, va2, vo2, vm2, vh2, vp2] : List Value).toArray) S u m l (k + 1) [su2, lu2, gu2, va2, vo2, vm2, vh2, vp2] (stepM u mk t) := by
          have hb0 : barF u mk t = 0 := HST.out.2.2.1.trans HX.out.2.2.2.2
          have hq := runF_go (l.drop (k + 1)) hb0
          rw [← HST.out.2.1] at hq
          refine ⟨below_row HX.out.1 (Nat.le_refl _) _, Blk.setRow (cs' := [su2, lu2, gu2, va2, vo2, vm2, vh2, vp2]) HX.out.2.1, (heap_setRow_ne (by omega) _).trans HX.out.2.2.1, HX.out.2.2.2.1.mono (zn_row (.inl rfl) _), HR.out.situ.step HM.out.1 HM.out.2.2.1 t, ?_, ?_, ?_, ?_⟩
          · have := stepM_pr u mk t; have := HR.out.pr; omega
          · rw [HR.out.r1, hq]
          · rw [HR.out.r2, hq]; dsimp only; omega
          · rw [HR.out.r3, hq]
        have HNX := Lib.hid hnext
        clear hnext HL2 HX
        go_wp2
        go_roundw
        case rel => exact ⟨k + 1, _, _, by go_num, by omega, HNX⟩
        case measure => simp [intOf]; omega
      · have e0 : (r != 0) = true := by simp [hb]
        have hfin : X1 = mk ∧ X2 = k ∧ X3 = r := by
          have hq := runF_stop (u := u) (m := mk) (l.drop (k + 1)) (t := t) (by rw [HST.out.2.2.1]; exact hb)
          rw [← HST.out.2.1] at hq
          have h1 := HR.out.r1
          have h2 := HR.out.r2
          have h3 := HR.out.r3
          rw [HM.out.2.2.2.2.2, hq] at h1 h2 h3
          dsimp only at h1 h2 h3
          exact ⟨h1, by omega, by rw [h3, HST.out.2.2.1]⟩
        have hrx : RefV (on x8 (zn w S)) [su1, lu1, gu1, va1, vo1, vm1, vh1, vp1] u mk := HR.out.ref.mono (zn_below hbr)
        have HL2 : Hid (∀ j v, ([su1, lu1, gu1, va1, vo1, vm1, vh1, vp1] : List Value)[j]? = some v → x8.cell? ⟨w.heap.size, 0 + j, none⟩ = some v) := Lib.hid fun j v hj => by rw [Nat.zero_add, (c0).cell]; exact hj
        have HX := Lib.hid (And.intro hb8 (And.intro c1 (And.intro hrx hfin)))
        clear ka2 kz2 hbr hb8 c0 c1 hne hrx hb HR6 hfin
        go_wp2_with (first
          | (refine wpList_load_at rfl 35 _ rfl w.heap.size 0 rfl _ _ HL2.out Tryz.underlying35 rfl (by kernel_rfl) ?_)
          | (refine stop_store 35 rfl ?_))
        refine Stop.intro ?_
        refine wpList_plain rfl fun K hK => wp_store_row 35 _ _ rfl (w.heap.size + 1) ([su1, lu1, gu1, va1, vo1, vm1, vh1, vp1] : List Value).toArray rfl rfl 35 _ HX.out.2.1 (by kernel_rfl) rfl ONEK (hK _ _ ?_)
        have hz1 : Blk (x8.setRow (w.heap.size + 1) ([su1, lu1, gu1, va1, vo1, vm1, vh1, vp1] : List Value).toArray) (w.heap.size + 1) 35 [su1, lu1, gu1, va1, vo1, vm1, vh1, vp1] := Blk.setRow (cs' := [su1, lu1, gu1, va1, vo1, vm1, vh1, vp1]) HX.out.2.1
        have hF := And.intro (below_row HX.out.1 (show w.heap.size ≤ w.heap.size + 1 by omega) ([su1, lu1, gu1, va1, vo1, vm1, vh1, vp1] : List Value).toArray) (HX.out.2.2.1.mono ((zn_row (.inr rfl) ([su1, lu1, gu1, va1, vo1, vm1, vh1, vp1] : List Value).toArray).trans zn_fin))
        obtain ⟨x9, hx9⟩ : ∃ x, x8.setRow (w.heap.size + 1) ([su1, lu1, gu1, va1, vo1, vm1, vh1, vp1] : List Value).toArray = x := ⟨_, rfl⟩
        rw [hx9] at hz1 hF ⊢
        simp only [put_none]
        have HF := Lib.hid (And.intro hF HX.out.2.2.2)
        have f0 := hz1.cell 0
        have f1 := hz1.cell 1
        have f2 := hz1.cell 2
        have f3 := hz1.cell 3
        have f4 := hz1.cell 4
        have f5 := hz1.cell 5
        have f6 := hz1.cell 6
        have f7 := hz1.cell 7
        clear hx9 hz1 hF HX HL2
        go_wp2
        refine bodyPost_ret (v := .tuple #[.agg ([su1, lu1, gu1, va1, vo1, vm1, vh1, vp1] : List Value).toArray, .int .i64 k, .int .i64 r]) (by simp [results, Tryz.results14, go_sem, f0, f1, f2, f3, f4, f5, f6, f7]) rfl ⟨[su1, lu1, gu1, va1, vo1, vm1, vh1, vp1], ?_, ?_, HF.out.1.1⟩
        · rw [HF.out.2.2.1, HF.out.2.2.2]
        · rw [HF.out.2.1]; exact HF.out.1.2
    · obtain rfl : k = l.length := by omega
      have hfin : X1 = mk ∧ X2 = l.length ∧ X3 = 0 := by
        have h1 := HR.out.r1
        have h2 := HR.out.r2
        have h3 := HR.out.r3
        rw [HM.out.2.2.2.2.2, List.drop_length] at h1 h2 h3
        simp only [runF] at h1 h2 h3
        exact ⟨h1, by omega, h3⟩
      have HX := Lib.hid (And.intro HR.out.bel (And.intro HR.out.b1 (And.intro HR.out.ref hfin)))
      have ng : ¬ ((l.length : Int) < l.length) := by omega
      clear hfin hlt hk hw2
      go_wp2_with (first
        | (refine wpList_load_at rfl 35 _ rfl w.heap.size 0 rfl _ _ HLM.out Tryz.underlying35 rfl (by kernel_rfl) ?_)
        | (refine stop_store 35 rfl ?_))
      refine Stop.intro ?_
      refine wpList_plain rfl fun K hK => wp_store_row 35 _ _ rfl (w.heap.size + 1) ([su1, lu1, gu1, va1, vo1, vm1, vh1, vp1] : List Value).toArray rfl rfl 35 _ HX.out.2.1 (by kernel_rfl) rfl ONEK (hK _ _ ?_)
      have hz1 : Blk (wr.setRow (w.heap.size + 1) ([su1, lu1, gu1, va1, vo1, vm1, vh1, vp1] : List Value).toArray) (w.heap.size + 1) 35 [su1, lu1, gu1, va1, vo1, vm1, vh1, vp1] := Blk.setRow (cs' := [su1, lu1, gu1, va1, vo1, vm1, vh1, vp1]) HX.out.2.1
      have hF := And.intro (below_row HX.out.1 (show w.heap.size ≤ w.heap.size + 1 by omega) ([su1, lu1, gu1, va1, vo1, vm1, vh1, vp1] : List Value).toArray) (HX.out.2.2.1.mono ((zn_row (.inr rfl) ([su1, lu1, gu1, va1, vo1, vm1, vh1, vp1] : List Value).toArray).trans zn_fin))
      obtain ⟨x9, hx9⟩ : ∃ x, wr.setRow (w.heap.size + 1) ([su1, lu1, gu1, va1, vo1, vm1, vh1, vp1] : List Value).toArray = x := ⟨_, rfl⟩
      rw [hx9] at hz1 hF ⊢
      simp only [put_none]
      have HF := Lib.hid (And.intro hF HX.out.2.2.2)
      have f0 := hz1.cell 0
      have f1 := hz1.cell 1
      have f2 := hz1.cell 2
      have f3 := hz1.cell 3
      have f4 := hz1.cell 4
      have f5 := hz1.cell 5
      have f6 := hz1.cell 6
      have f7 := hz1.cell 7
      clear hx9 hz1 hF HX HLM
      go_wp2
      refine bodyPost_ret (v := .tuple #[.agg ([su1, lu1, gu1, va1, vo1, vm1, vh1, vp1] : List Value).toArray, .int .i64 (l.length : Int), .int .i64 0]) (by simp [results, Tryz.results14, go_sem, f0, f1, f2, f3, f4, f5, f6, f7]) rfl ⟨[su1, lu1, gu1, va1, vo1, vm1, vh1, vp1], ?_, ?_, HF.out.1.1⟩
      · rw [HF.out.2.2.1, HF.out.2.2.2]
      · rw [HF.out.2.1]; exact HF.out.1.2
end Go.Proofs.YtmkpjiahkepigaaGreat
/- The reference's Advance. -/
namespace Go.Proofs.YtmkpjiahkepigaaGreat
open Go Go.RowKit
theorem quiet_pr {u : Unit_} {cl : List Cls} {m : Mach} {t : Int} (hv : visAt u cl m t = false) : (stepM u m t).prints.length ≤ m.prints.length := by
  unfold visAt at hv
  unfold stepM
  split
  · exact Nat.le_refl _
  · cases hn : nodeAt u m t.toNat with
    | none => exact Nat.le_refl _
    | some n =>
      rw [hn] at hv
      have h7 : n.kind ≠ 7 := fun e => by unfold visB at hv; simp [e] at hv
      show (actM m t.toNat n).prints.length ≤ _
      unfold actM Mach.setSlot Mach.setVar Mach.setHolder
      rw [if_neg h7]
      repeat (first | split | exact Nat.le_refl _)
/-- What is read while w's own first two blocks and k are written. -/
def zk (w : World) (S : Nat → Prop) (k : Nat) : Nat → Prop := fun q => zn w S q ∧ q ≠ k
section
variable {w wr wx w1 : World} {S : Nat → Prop} {k : Nat}
theorem zk_zn : (on wr (zk w S k)).le (on wr (zn w S)) := on_keep (fun _ _ _ => rfl) fun _ hb => hb.1
theorem zk_below (hb : Below wr.heap.size wr wx) : (on wr (zk w S k)).le (on wx (zk w S k)) := on_keep (fun b _ hlt => hb.block b hlt) fun _ hb => hb
theorem zk_row (cs : Array Value) : (on wr (zk w S k)).le (on (wr.setRow k cs) (zk w S k)) := on_keep (fun b hb _ => heap_setRow_ne hb.2 _) fun _ hb => hb
theorem zk_made (hk : k < wr.heap.size) (hw : w.heap.size + 2 ≤ wr.heap.size) : (on w1 (fun b => zk w S k b ∨ wr.heap.size ≤ b)).le (on w1 (zk w S k)) := on_keep (fun _ _ _ => rfl) fun b hb => by
  rcases hb with e | e
  · exact e
  · exact ⟨.inr (by omega), by omega⟩
end
/-- The copy that advances. -/
structure AvAt (w wr : World) (S : Nat → Prop) (u : Unit_) (m : Mach) (k11 : Nat) (cs0 csk : List Value) (mk : Mach) : Prop where
  bel : Below w.heap.size w wr
  b0 : Blk wr w.heap.size 35 cs0
  b1 : Blk wr (w.heap.size + 1) 35 nil8
  b11 : Blk wr k11 35 csk
  k2 : w.heap.size + 2 ≤ k11
  ref0 : RefV (on wr (zk w S k11)) cs0 u m
  ref : RefV (on wr (zk w S k11)) csk u mk
  situ : Situ u mk
  pr : mk.prints.length ≤ m.prints.length
theorem AvAt.below {w wr wx : World} {S : Nat → Prop} {u : Unit_} {m mk : Mach} {k11 : Nat} {cs0 csk : List Value} (h : AvAt w wr S u m k11 cs0 csk mk) (hb : Below wr.heap.size wr wx) : AvAt w wx S u m k11 cs0 csk mk :=
  ⟨h.bel.trans (hb.mono h.bel.size), h.b0.below hb h.b0.lt, h.b1.below hb h.b1.lt, h.b11.below hb h.b11.lt, h.k2, h.ref0.mono (zk_below hb), h.ref.mono (zk_below hb), h.situ, h.pr⟩
/-- Behind a step: pr is said apart, for a print is the last. -/
theorem AvAt.step {w wr w1 : World} {S : Nat → Prop} {u : Unit_} {m mk m' : Mach} {k11 : Nat} {cs0 csk cs2 : List Value} (h : AvAt w wr S u m k11 cs0 csk mk) (hb : Below wr.heap.size wr w1) (hr : RefV (on w1 (fun b => zk w S k11 b ∨ wr.heap.size ≤ b)) cs2 u m') :
    Below w.heap.size w (w1.setRow k11 cs2.toArray) ∧ Blk (w1.setRow k11 cs2.toArray) w.heap.size 35 cs0 ∧ Blk (w1.setRow k11 cs2.toArray) (w.heap.size + 1) 35 nil8 ∧ Blk (w1.setRow k11 cs2.toArray) k11 35 cs2 ∧ RefV (on (w1.setRow k11 cs2.toArray) (zk w S k11)) cs0 u m ∧ RefV (on (w1.setRow k11 cs2.toArray) (zk w S k11)) cs2 u m' := by
  have hk := h.k2
  have hw := h.b1.lt
  exact ⟨below_row (h.bel.trans (hb.mono h.bel.size)) (by omega) _, (heap_setRow_ne (by omega) _).trans (h.b0.below hb h.b0.lt), (heap_setRow_ne (by omega) _).trans (h.b1.below hb h.b1.lt), Blk.setRow (cs' := cs2) (h.b11.below hb h.b11.lt), (h.ref0.mono (zk_below hb)).mono (zk_row _), (hr.mono (zk_made h.b11.lt (by omega))).mono (zk_row _)⟩
set_option maxRecDepth 100000 in
set_option maxHeartbeats 16000000 in
theorem r7adv_calls (cs : List Value) (u : Unit_) (m : Mach) (t most : Int) (vA : Option Addr) (vc : Nat) (cl : List Cls) (w : World) (S : Nat → Prop) (h : RefV (on w S) cs u m) (hu : RightU u) (hz : SizeU u) (huo : UOk u) (hs : Situ u m) (hcl : Clss (cmap w) (.slice vA cl.length vc) cl) (hp : m.prints.length < 4294967295) :
    Calls Tryz.prog 16 #[.agg cs.toArray, .int .i64 t, .slice vA cl.length vc, .int .i64 most] w fun e w' => ∃ cs', e = .returned (.tuple #[.agg cs'.toArray, .int .i64 ((advR u cl t most m).2.1 : Nat), .int .i64 (advR u cl t most m).2.2]) ∧ RefV (on w' (fun b => S b ∨ w.heap.size ≤ b)) cs' u (advR u cl t most m).1 ∧ Below w.heap.size w w' := by
  have hlen := hcl.len.2.2
  obtain ⟨X, hX⟩ : ∃ X, advR u cl t most m = X := ⟨_, rfl⟩
  obtain ⟨X1, X2, X3⟩ := X
  obtain ⟨su0, lu0, gu0, va0, vo0, vm0, vh0, vp0, rfl, hr⟩ := id h
  obtain ⟨aA, ac, rfl, -⟩ := id hr.at_
  obtain ⟨mA, mc, rfl, -⟩ := id hr.mem
  rw [List.length_map] at *
  have hok := hs.ok
  have HAL := Lib.hid (And.intro hok.at_ hok.mem)
  have hb0 : Below w.heap.size w ((w.alloc (.cells #[su0, lu0, gu0, .slice aA m.at_.length ac, vo0, .slice mA m.mem.length mc, vh0, vp0] 35)).alloc (.cells #[.slice none 0 0, .slice none 0 0, .slice none 0 0, .slice none 0 0, .slice none 0 0, .slice none 0 0, .slice none 0 0, .slice none 0 0] 35)) := (Below_alloc' w _).alloc (by simp) _
  have hx0 : Blk ((w.alloc (.cells #[su0, lu0, gu0, .slice aA m.at_.length ac, vo0, .slice mA m.mem.length mc, vh0, vp0] 35)).alloc (.cells #[.slice none 0 0, .slice none 0 0, .slice none 0 0, .slice none 0 0, .slice none 0 0, .slice none 0 0, .slice none 0 0, .slice none 0 0] 35)) w.heap.size 35 [su0, lu0, gu0, .slice aA m.at_.length ac, vo0, .slice mA m.mem.length mc, vh0, vp0] := (Blk.new w _ _).alloc _
  have hx1 : Blk ((w.alloc (.cells #[su0, lu0, gu0, .slice aA m.at_.length ac, vo0, .slice mA m.mem.length mc, vh0, vp0] 35)).alloc (.cells #[.slice none 0 0, .slice none 0 0, .slice none 0 0, .slice none 0 0, .slice none 0 0, .slice none 0 0, .slice none 0 0, .slice none 0 0] 35)) (w.heap.size + 1) 35 nil8 := Blk.of (heap_new (w.alloc _) _ _ (by simp)) rfl
  have HB := Lib.hid (And.intro hb0 (And.intro hx0 (And.intro hx1 (And.intro (h.mono (zn_start (S := S) hb0)) (ref_oneA h)))))
  have HLM : Hid (∀ j v, ([su0, lu0, gu0, .slice aA m.at_.length ac, vo0, .slice mA m.mem.length mc, vh0, vp0] : List Value)[j]? = some v → ((w.alloc (.cells #[su0, lu0, gu0, .slice aA m.at_.length ac, vo0, .slice mA m.mem.length mc, vh0, vp0] 35)).alloc (.cells #[.slice none 0 0, .slice none 0 0, .slice none 0 0, .slice none 0 0, .slice none 0 0, .slice none 0 0, .slice none 0 0, .slice none 0 0] 35)).cell? ⟨w.heap.size, 0 + j, none⟩ = some v) := Lib.hid fun j v hj => by rw [Nat.zero_add, (hx0).cell]; exact hj
  have HM := Lib.hid (And.intro hu (And.intro hz (And.intro huo (And.intro hs (And.intro hcl hp)))))
  have HX2 := Lib.hid (fun (hk : ¬ advOk u cl t most) => (by
    unfold advR at hX
    rw [if_pos hk] at hX
    injection hX with e1 e2
    injection e2 with e2 e3
    exact ⟨e1.symm, e2.symm, e3.symm⟩ : X1 = m ∧ X2 = 0 ∧ X3 = 2))
  have HXF := Lib.hid hX
  rw [hX]
  have hn := trivial
  clear h hu hz huo hs hcl hp hr hX hok hb0 hx0 hx1
  dsimp only
  by_cases h0 : t < 0
  · have d0 : decide (t < 0) = true := decide_eq_true h0

    have hfin : X1 = m ∧ X2 = 0 ∧ X3 = 2 := HX2.out (fun hk => by obtain ⟨⟨p1, p2⟩, p3, p4, p5⟩ := hk; have hal := HAL.out.1; have hml := HAL.out.2; omega)
    clear hn HM HX2 HXF
    go_enter Tryz.func16, Tryz.ntmps16
    go_wp2_with (first
      | (refine wpList_load_at rfl 35 _ rfl w.heap.size 0 rfl _ _ HLM.out Tryz.underlying35 rfl (by kernel_rfl) ?_)
      | (refine stop_store 35 rfl ?_))
    refine Stop.intro ?_
    refine wpList_plain rfl fun K hK => wp_store_row 35 _ _ rfl (w.heap.size + 1) ([su0, lu0, gu0, .slice aA m.at_.length ac, vo0, .slice mA m.mem.length mc, vh0, vp0] : List Value).toArray rfl rfl 35 _ HB.out.2.2.1 (by kernel_rfl) rfl HB.out.2.2.2.2 (hK _ _ ?_)
    have hz1 : Blk (((w.alloc (.cells #[su0, lu0, gu0, .slice aA m.at_.length ac, vo0, .slice mA m.mem.length mc, vh0, vp0] 35)).alloc (.cells #[.slice none 0 0, .slice none 0 0, .slice none 0 0, .slice none 0 0, .slice none 0 0, .slice none 0 0, .slice none 0 0, .slice none 0 0] 35)).setRow (w.heap.size + 1) ([su0, lu0, gu0, .slice aA m.at_.length ac, vo0, .slice mA m.mem.length mc, vh0, vp0] : List Value).toArray) (w.heap.size + 1) 35 [su0, lu0, gu0, .slice aA m.at_.length ac, vo0, .slice mA m.mem.length mc, vh0, vp0] := Blk.setRow (cs' := [su0, lu0, gu0, .slice aA m.at_.length ac, vo0, .slice mA m.mem.length mc, vh0, vp0]) HB.out.2.2.1
    have hF := And.intro (below_row HB.out.1 (show w.heap.size ≤ w.heap.size + 1 by omega) ([su0, lu0, gu0, .slice aA m.at_.length ac, vo0, .slice mA m.mem.length mc, vh0, vp0] : List Value).toArray) ((HB.out.2.2.2.1).mono ((zn_row (.inr rfl) ([su0, lu0, gu0, .slice aA m.at_.length ac, vo0, .slice mA m.mem.length mc, vh0, vp0] : List Value).toArray).trans zn_fin))
    obtain ⟨x9, hx9⟩ : ∃ x, ((w.alloc (.cells #[su0, lu0, gu0, .slice aA m.at_.length ac, vo0, .slice mA m.mem.length mc, vh0, vp0] 35)).alloc (.cells #[.slice none 0 0, .slice none 0 0, .slice none 0 0, .slice none 0 0, .slice none 0 0, .slice none 0 0, .slice none 0 0, .slice none 0 0] 35)).setRow (w.heap.size + 1) ([su0, lu0, gu0, .slice aA m.at_.length ac, vo0, .slice mA m.mem.length mc, vh0, vp0] : List Value).toArray = x := ⟨_, rfl⟩
    rw [hx9] at hz1 hF ⊢
    simp only [put_none]
    have HF := Lib.hid (And.intro hF hfin)
    have f0 := hz1.cell 0
    have f1 := hz1.cell 1
    have f2 := hz1.cell 2
    have f3 := hz1.cell 3
    have f4 := hz1.cell 4
    have f5 := hz1.cell 5
    have f6 := hz1.cell 6
    have f7 := hz1.cell 7
    clear hx9 hz1 hF 
    go_wp2
    refine bodyPost_ret (v := .tuple #[.agg ([su0, lu0, gu0, .slice aA m.at_.length ac, vo0, .slice mA m.mem.length mc, vh0, vp0] : List Value).toArray, .int .i64 (0), .int .i64 (2)]) (by simp [results, Tryz.results16, go_sem, f0, f1, f2, f3, f4, f5, f6, f7]) rfl ⟨[su0, lu0, gu0, .slice aA m.at_.length ac, vo0, .slice mA m.mem.length mc, vh0, vp0], ?_, ?_, HF.out.1.1⟩
    · rw [HF.out.2.2.1, HF.out.2.2.2] <;> rfl
    · rw [HF.out.2.1]; exact HF.out.1.2
  have d0 : decide (t < 0) = false := decide_eq_false h0
  by_cases h1 : (m.at_.length : Int) ≤ t
  · have d1 : decide (t ≥ (m.at_.length : Int)) = true := decide_eq_true h1

    have hfin : X1 = m ∧ X2 = 0 ∧ X3 = 2 := HX2.out (fun hk => by obtain ⟨⟨p1, p2⟩, p3, p4, p5⟩ := hk; have hal := HAL.out.1; have hml := HAL.out.2; omega)
    clear hn HM HX2 HXF
    go_enter Tryz.func16, Tryz.ntmps16
    go_wp2_with (first
      | (refine wpList_load_at rfl 35 _ rfl w.heap.size 0 rfl _ _ HLM.out Tryz.underlying35 rfl (by kernel_rfl) ?_)
      | (refine stop_store 35 rfl ?_))
    refine Stop.intro ?_
    refine wpList_plain rfl fun K hK => wp_store_row 35 _ _ rfl (w.heap.size + 1) ([su0, lu0, gu0, .slice aA m.at_.length ac, vo0, .slice mA m.mem.length mc, vh0, vp0] : List Value).toArray rfl rfl 35 _ HB.out.2.2.1 (by kernel_rfl) rfl HB.out.2.2.2.2 (hK _ _ ?_)
    have hz1 : Blk (((w.alloc (.cells #[su0, lu0, gu0, .slice aA m.at_.length ac, vo0, .slice mA m.mem.length mc, vh0, vp0] 35)).alloc (.cells #[.slice none 0 0, .slice none 0 0, .slice none 0 0, .slice none 0 0, .slice none 0 0, .slice none 0 0, .slice none 0 0, .slice none 0 0] 35)).setRow (w.heap.size + 1) ([su0, lu0, gu0, .slice aA m.at_.length ac, vo0, .slice mA m.mem.length mc, vh0, vp0] : List Value).toArray) (w.heap.size + 1) 35 [su0, lu0, gu0, .slice aA m.at_.length ac, vo0, .slice mA m.mem.length mc, vh0, vp0] := Blk.setRow (cs' := [su0, lu0, gu0, .slice aA m.at_.length ac, vo0, .slice mA m.mem.length mc, vh0, vp0]) HB.out.2.2.1
    have hF := And.intro (below_row HB.out.1 (show w.heap.size ≤ w.heap.size + 1 by omega) ([su0, lu0, gu0, .slice aA m.at_.length ac, vo0, .slice mA m.mem.length mc, vh0, vp0] : List Value).toArray) ((HB.out.2.2.2.1).mono ((zn_row (.inr rfl) ([su0, lu0, gu0, .slice aA m.at_.length ac, vo0, .slice mA m.mem.length mc, vh0, vp0] : List Value).toArray).trans zn_fin))
    obtain ⟨x9, hx9⟩ : ∃ x, ((w.alloc (.cells #[su0, lu0, gu0, .slice aA m.at_.length ac, vo0, .slice mA m.mem.length mc, vh0, vp0] 35)).alloc (.cells #[.slice none 0 0, .slice none 0 0, .slice none 0 0, .slice none 0 0, .slice none 0 0, .slice none 0 0, .slice none 0 0, .slice none 0 0] 35)).setRow (w.heap.size + 1) ([su0, lu0, gu0, .slice aA m.at_.length ac, vo0, .slice mA m.mem.length mc, vh0, vp0] : List Value).toArray = x := ⟨_, rfl⟩
    rw [hx9] at hz1 hF ⊢
    simp only [put_none]
    have HF := Lib.hid (And.intro hF hfin)
    have f0 := hz1.cell 0
    have f1 := hz1.cell 1
    have f2 := hz1.cell 2
    have f3 := hz1.cell 3
    have f4 := hz1.cell 4
    have f5 := hz1.cell 5
    have f6 := hz1.cell 6
    have f7 := hz1.cell 7
    clear hx9 hz1 hF 
    go_wp2
    refine bodyPost_ret (v := .tuple #[.agg ([su0, lu0, gu0, .slice aA m.at_.length ac, vo0, .slice mA m.mem.length mc, vh0, vp0] : List Value).toArray, .int .i64 (0), .int .i64 (2)]) (by simp [results, Tryz.results16, go_sem, f0, f1, f2, f3, f4, f5, f6, f7]) rfl ⟨[su0, lu0, gu0, .slice aA m.at_.length ac, vo0, .slice mA m.mem.length mc, vh0, vp0], ?_, ?_, HF.out.1.1⟩
    · rw [HF.out.2.2.1, HF.out.2.2.2] <;> rfl
    · rw [HF.out.2.1]; exact HF.out.1.2
  have d1 : decide (t ≥ (m.at_.length : Int)) = false := decide_eq_false (by omega)
  by_cases h2 : ¬ cl.length = m.mem.length
  · have n2 : ((cl.length : Int) != (m.mem.length : Int)) = true := by simp; omega

    have hfin : X1 = m ∧ X2 = 0 ∧ X3 = 2 := HX2.out (fun hk => by obtain ⟨⟨p1, p2⟩, p3, p4, p5⟩ := hk; have hal := HAL.out.1; have hml := HAL.out.2; omega)
    clear hn HM HX2 HXF
    go_enter Tryz.func16, Tryz.ntmps16
    go_wp2_with (first
      | (refine wpList_load_at rfl 35 _ rfl w.heap.size 0 rfl _ _ HLM.out Tryz.underlying35 rfl (by kernel_rfl) ?_)
      | (refine stop_store 35 rfl ?_))
    refine Stop.intro ?_
    refine wpList_plain rfl fun K hK => wp_store_row 35 _ _ rfl (w.heap.size + 1) ([su0, lu0, gu0, .slice aA m.at_.length ac, vo0, .slice mA m.mem.length mc, vh0, vp0] : List Value).toArray rfl rfl 35 _ HB.out.2.2.1 (by kernel_rfl) rfl HB.out.2.2.2.2 (hK _ _ ?_)
    have hz1 : Blk (((w.alloc (.cells #[su0, lu0, gu0, .slice aA m.at_.length ac, vo0, .slice mA m.mem.length mc, vh0, vp0] 35)).alloc (.cells #[.slice none 0 0, .slice none 0 0, .slice none 0 0, .slice none 0 0, .slice none 0 0, .slice none 0 0, .slice none 0 0, .slice none 0 0] 35)).setRow (w.heap.size + 1) ([su0, lu0, gu0, .slice aA m.at_.length ac, vo0, .slice mA m.mem.length mc, vh0, vp0] : List Value).toArray) (w.heap.size + 1) 35 [su0, lu0, gu0, .slice aA m.at_.length ac, vo0, .slice mA m.mem.length mc, vh0, vp0] := Blk.setRow (cs' := [su0, lu0, gu0, .slice aA m.at_.length ac, vo0, .slice mA m.mem.length mc, vh0, vp0]) HB.out.2.2.1
    have hF := And.intro (below_row HB.out.1 (show w.heap.size ≤ w.heap.size + 1 by omega) ([su0, lu0, gu0, .slice aA m.at_.length ac, vo0, .slice mA m.mem.length mc, vh0, vp0] : List Value).toArray) ((HB.out.2.2.2.1).mono ((zn_row (.inr rfl) ([su0, lu0, gu0, .slice aA m.at_.length ac, vo0, .slice mA m.mem.length mc, vh0, vp0] : List Value).toArray).trans zn_fin))
    obtain ⟨x9, hx9⟩ : ∃ x, ((w.alloc (.cells #[su0, lu0, gu0, .slice aA m.at_.length ac, vo0, .slice mA m.mem.length mc, vh0, vp0] 35)).alloc (.cells #[.slice none 0 0, .slice none 0 0, .slice none 0 0, .slice none 0 0, .slice none 0 0, .slice none 0 0, .slice none 0 0, .slice none 0 0] 35)).setRow (w.heap.size + 1) ([su0, lu0, gu0, .slice aA m.at_.length ac, vo0, .slice mA m.mem.length mc, vh0, vp0] : List Value).toArray = x := ⟨_, rfl⟩
    rw [hx9] at hz1 hF ⊢
    simp only [put_none]
    have HF := Lib.hid (And.intro hF hfin)
    have f0 := hz1.cell 0
    have f1 := hz1.cell 1
    have f2 := hz1.cell 2
    have f3 := hz1.cell 3
    have f4 := hz1.cell 4
    have f5 := hz1.cell 5
    have f6 := hz1.cell 6
    have f7 := hz1.cell 7
    clear hx9 hz1 hF 
    go_wp2
    refine bodyPost_ret (v := .tuple #[.agg ([su0, lu0, gu0, .slice aA m.at_.length ac, vo0, .slice mA m.mem.length mc, vh0, vp0] : List Value).toArray, .int .i64 (0), .int .i64 (2)]) (by simp [results, Tryz.results16, go_sem, f0, f1, f2, f3, f4, f5, f6, f7]) rfl ⟨[su0, lu0, gu0, .slice aA m.at_.length ac, vo0, .slice mA m.mem.length mc, vh0, vp0], ?_, ?_, HF.out.1.1⟩
    · rw [HF.out.2.2.1, HF.out.2.2.2] <;> rfl
    · rw [HF.out.2.1]; exact HF.out.1.2
  have n2 : ((cl.length : Int) != (m.mem.length : Int)) = false := by simp; omega
  by_cases h3 : most < 0
  · have n3 : decide (most < 0) = true := decide_eq_true h3

    have hfin : X1 = m ∧ X2 = 0 ∧ X3 = 2 := HX2.out (fun hk => by obtain ⟨⟨p1, p2⟩, p3, p4, p5⟩ := hk; have hal := HAL.out.1; have hml := HAL.out.2; omega)
    clear hn HM HX2 HXF
    go_enter Tryz.func16, Tryz.ntmps16
    go_wp2_with (first
      | (refine wpList_load_at rfl 35 _ rfl w.heap.size 0 rfl _ _ HLM.out Tryz.underlying35 rfl (by kernel_rfl) ?_)
      | (refine stop_store 35 rfl ?_))
    refine Stop.intro ?_
    refine wpList_plain rfl fun K hK => wp_store_row 35 _ _ rfl (w.heap.size + 1) ([su0, lu0, gu0, .slice aA m.at_.length ac, vo0, .slice mA m.mem.length mc, vh0, vp0] : List Value).toArray rfl rfl 35 _ HB.out.2.2.1 (by kernel_rfl) rfl HB.out.2.2.2.2 (hK _ _ ?_)
    have hz1 : Blk (((w.alloc (.cells #[su0, lu0, gu0, .slice aA m.at_.length ac, vo0, .slice mA m.mem.length mc, vh0, vp0] 35)).alloc (.cells #[.slice none 0 0, .slice none 0 0, .slice none 0 0, .slice none 0 0, .slice none 0 0, .slice none 0 0, .slice none 0 0, .slice none 0 0] 35)).setRow (w.heap.size + 1) ([su0, lu0, gu0, .slice aA m.at_.length ac, vo0, .slice mA m.mem.length mc, vh0, vp0] : List Value).toArray) (w.heap.size + 1) 35 [su0, lu0, gu0, .slice aA m.at_.length ac, vo0, .slice mA m.mem.length mc, vh0, vp0] := Blk.setRow (cs' := [su0, lu0, gu0, .slice aA m.at_.length ac, vo0, .slice mA m.mem.length mc, vh0, vp0]) HB.out.2.2.1
    have hF := And.intro (below_row HB.out.1 (show w.heap.size ≤ w.heap.size + 1 by omega) ([su0, lu0, gu0, .slice aA m.at_.length ac, vo0, .slice mA m.mem.length mc, vh0, vp0] : List Value).toArray) ((HB.out.2.2.2.1).mono ((zn_row (.inr rfl) ([su0, lu0, gu0, .slice aA m.at_.length ac, vo0, .slice mA m.mem.length mc, vh0, vp0] : List Value).toArray).trans zn_fin))
    obtain ⟨x9, hx9⟩ : ∃ x, ((w.alloc (.cells #[su0, lu0, gu0, .slice aA m.at_.length ac, vo0, .slice mA m.mem.length mc, vh0, vp0] 35)).alloc (.cells #[.slice none 0 0, .slice none 0 0, .slice none 0 0, .slice none 0 0, .slice none 0 0, .slice none 0 0, .slice none 0 0, .slice none 0 0] 35)).setRow (w.heap.size + 1) ([su0, lu0, gu0, .slice aA m.at_.length ac, vo0, .slice mA m.mem.length mc, vh0, vp0] : List Value).toArray = x := ⟨_, rfl⟩
    rw [hx9] at hz1 hF ⊢
    simp only [put_none]
    have HF := Lib.hid (And.intro hF hfin)
    have f0 := hz1.cell 0
    have f1 := hz1.cell 1
    have f2 := hz1.cell 2
    have f3 := hz1.cell 3
    have f4 := hz1.cell 4
    have f5 := hz1.cell 5
    have f6 := hz1.cell 6
    have f7 := hz1.cell 7
    clear hx9 hz1 hF 
    go_wp2
    refine bodyPost_ret (v := .tuple #[.agg ([su0, lu0, gu0, .slice aA m.at_.length ac, vo0, .slice mA m.mem.length mc, vh0, vp0] : List Value).toArray, .int .i64 (0), .int .i64 (2)]) (by simp [results, Tryz.results16, go_sem, f0, f1, f2, f3, f4, f5, f6, f7]) rfl ⟨[su0, lu0, gu0, .slice aA m.at_.length ac, vo0, .slice mA m.mem.length mc, vh0, vp0], ?_, ?_, HF.out.1.1⟩
    · rw [HF.out.2.2.1, HF.out.2.2.2] <;> rfl
    · rw [HF.out.2.1]; exact HF.out.1.2
  have n3 : decide (most < 0) = false := decide_eq_false h3
  by_cases h4 : most > 1048576
  · have n4 : decide (most > 1048576) = true := decide_eq_true h4

    have hfin : X1 = m ∧ X2 = 0 ∧ X3 = 2 := HX2.out (fun hk => by obtain ⟨⟨p1, p2⟩, p3, p4, p5⟩ := hk; have hal := HAL.out.1; have hml := HAL.out.2; omega)
    clear hn HM HX2 HXF
    go_enter Tryz.func16, Tryz.ntmps16
    go_wp2_with (first
      | (refine wpList_load_at rfl 35 _ rfl w.heap.size 0 rfl _ _ HLM.out Tryz.underlying35 rfl (by kernel_rfl) ?_)
      | (refine stop_store 35 rfl ?_))
    refine Stop.intro ?_
    refine wpList_plain rfl fun K hK => wp_store_row 35 _ _ rfl (w.heap.size + 1) ([su0, lu0, gu0, .slice aA m.at_.length ac, vo0, .slice mA m.mem.length mc, vh0, vp0] : List Value).toArray rfl rfl 35 _ HB.out.2.2.1 (by kernel_rfl) rfl HB.out.2.2.2.2 (hK _ _ ?_)
    have hz1 : Blk (((w.alloc (.cells #[su0, lu0, gu0, .slice aA m.at_.length ac, vo0, .slice mA m.mem.length mc, vh0, vp0] 35)).alloc (.cells #[.slice none 0 0, .slice none 0 0, .slice none 0 0, .slice none 0 0, .slice none 0 0, .slice none 0 0, .slice none 0 0, .slice none 0 0] 35)).setRow (w.heap.size + 1) ([su0, lu0, gu0, .slice aA m.at_.length ac, vo0, .slice mA m.mem.length mc, vh0, vp0] : List Value).toArray) (w.heap.size + 1) 35 [su0, lu0, gu0, .slice aA m.at_.length ac, vo0, .slice mA m.mem.length mc, vh0, vp0] := Blk.setRow (cs' := [su0, lu0, gu0, .slice aA m.at_.length ac, vo0, .slice mA m.mem.length mc, vh0, vp0]) HB.out.2.2.1
    have hF := And.intro (below_row HB.out.1 (show w.heap.size ≤ w.heap.size + 1 by omega) ([su0, lu0, gu0, .slice aA m.at_.length ac, vo0, .slice mA m.mem.length mc, vh0, vp0] : List Value).toArray) ((HB.out.2.2.2.1).mono ((zn_row (.inr rfl) ([su0, lu0, gu0, .slice aA m.at_.length ac, vo0, .slice mA m.mem.length mc, vh0, vp0] : List Value).toArray).trans zn_fin))
    obtain ⟨x9, hx9⟩ : ∃ x, ((w.alloc (.cells #[su0, lu0, gu0, .slice aA m.at_.length ac, vo0, .slice mA m.mem.length mc, vh0, vp0] 35)).alloc (.cells #[.slice none 0 0, .slice none 0 0, .slice none 0 0, .slice none 0 0, .slice none 0 0, .slice none 0 0, .slice none 0 0, .slice none 0 0] 35)).setRow (w.heap.size + 1) ([su0, lu0, gu0, .slice aA m.at_.length ac, vo0, .slice mA m.mem.length mc, vh0, vp0] : List Value).toArray = x := ⟨_, rfl⟩
    rw [hx9] at hz1 hF ⊢
    simp only [put_none]
    have HF := Lib.hid (And.intro hF hfin)
    have f0 := hz1.cell 0
    have f1 := hz1.cell 1
    have f2 := hz1.cell 2
    have f3 := hz1.cell 3
    have f4 := hz1.cell 4
    have f5 := hz1.cell 5
    have f6 := hz1.cell 6
    have f7 := hz1.cell 7
    clear hx9 hz1 hF 
    go_wp2
    refine bodyPost_ret (v := .tuple #[.agg ([su0, lu0, gu0, .slice aA m.at_.length ac, vo0, .slice mA m.mem.length mc, vh0, vp0] : List Value).toArray, .int .i64 (0), .int .i64 (2)]) (by simp [results, Tryz.results16, go_sem, f0, f1, f2, f3, f4, f5, f6, f7]) rfl ⟨[su0, lu0, gu0, .slice aA m.at_.length ac, vo0, .slice mA m.mem.length mc, vh0, vp0], ?_, ?_, HF.out.1.1⟩
    · rw [HF.out.2.2.1, HF.out.2.2.2] <;> rfl
    · rw [HF.out.2.1]; exact HF.out.1.2
  have n4 : decide (most > 1048576) = false := decide_eq_false h4
  clear hn HX2
  obtain ⟨ta, rfl⟩ := Int.eq_ofNat_of_zero_le (show 0 ≤ t by omega)
  obtain ⟨M, rfl⟩ := Int.eq_ofNat_of_zero_le (show 0 ≤ most by omega)
  have hadv : advOk u cl (ta : Int) (M : Int) := by have hal := HAL.out.1; have hml := HAL.out.2; exact ⟨⟨by omega, by omega⟩, by omega, by omega, by omega⟩
  have htg : ta < u.graphs.length := by have hal := HAL.out.1; omega
  have HWY := Lib.hid (r7why_calls [su0, lu0, gu0, .slice aA m.at_.length ac, vo0, .slice mA m.mem.length mc, vh0, vp0] u m (ta : Int) ((w.alloc (.cells #[su0, lu0, gu0, .slice aA m.at_.length ac, vo0, .slice mA m.mem.length mc, vh0, vp0] 35)).alloc (.cells #[.slice none 0 0, .slice none 0 0, .slice none 0 0, .slice none 0 0, .slice none 0 0, .slice none 0 0, .slice none 0 0, .slice none 0 0] 35)) (HB.out.2.2.2.1.mono (on_le _ _)) HM.out.1 HM.out.2.2.2.1.ok)
  obtain ⟨bw, hbw⟩ : ∃ b, barF u m (ta : Int) = b := ⟨_, rfl⟩
  rw [hbw] at HWY
  by_cases hb7 : bw = 70
  · have hfin : X1 = m ∧ X2 = 0 ∧ X3 = 70 := by
      have hX := HXF.out
      unfold advR at hX
      rw [if_neg (fun hk => hk hadv), if_pos (hbw.trans hb7)] at hX
      injection hX with e1 e2
      injection e2 with e2 e3
      exact ⟨e1.symm, e2.symm, e3.symm⟩
    have e7 : (bw == 70) = true := by simp [hb7]
    clear HXF hadv htg hbw hb7
    go_enter Tryz.func16, Tryz.ntmps16
    go_wp2_with (first
      | (refine wpList_load_at rfl 35 _ rfl w.heap.size 0 rfl _ _ HLM.out Tryz.underlying35 rfl (by kernel_rfl) ?_))
    refine HWY.out.mono ?_
    rintro e w3 ⟨rfl, hb3⟩
    have c0 := HB.out.2.1.below hb3 HB.out.2.1.lt
    have c1 := HB.out.2.2.1.below hb3 HB.out.2.2.1.lt
    have cb := HB.out.1.trans (hb3.mono HB.out.1.size)
    have cr := HB.out.2.2.2.1.mono (zn_below hb3)
    have HL3 : Hid (∀ j v, ([su0, lu0, gu0, .slice aA m.at_.length ac, vo0, .slice mA m.mem.length mc, vh0, vp0] : List Value)[j]? = some v → w3.cell? ⟨w.heap.size, 0 + j, none⟩ = some v) := Lib.hid fun j v hj => by rw [Nat.zero_add, (c0).cell]; exact hj
    have HC := Lib.hid (And.intro cb (And.intro c1 cr))
    have HFN := Lib.hid hfin
    clear hb3 c0 c1 cb cr HWY HLM hfin
    go_wp2_with (first
      | (refine wpList_load_at rfl 35 _ rfl w.heap.size 0 rfl _ _ HL3.out Tryz.underlying35 rfl (by kernel_rfl) ?_)
      | (refine stop_store 35 rfl ?_))
    refine Stop.intro ?_
    refine wpList_plain rfl fun K hK => wp_store_row 35 _ _ rfl (w.heap.size + 1) ([su0, lu0, gu0, .slice aA m.at_.length ac, vo0, .slice mA m.mem.length mc, vh0, vp0] : List Value).toArray rfl rfl 35 _ HC.out.2.1 (by kernel_rfl) rfl HB.out.2.2.2.2 (hK _ _ ?_)
    have hz1 : Blk (w3.setRow (w.heap.size + 1) ([su0, lu0, gu0, .slice aA m.at_.length ac, vo0, .slice mA m.mem.length mc, vh0, vp0] : List Value).toArray) (w.heap.size + 1) 35 [su0, lu0, gu0, .slice aA m.at_.length ac, vo0, .slice mA m.mem.length mc, vh0, vp0] := Blk.setRow (cs' := [su0, lu0, gu0, .slice aA m.at_.length ac, vo0, .slice mA m.mem.length mc, vh0, vp0]) HC.out.2.1
    have hF := And.intro (below_row HC.out.1 (show w.heap.size ≤ w.heap.size + 1 by omega) ([su0, lu0, gu0, .slice aA m.at_.length ac, vo0, .slice mA m.mem.length mc, vh0, vp0] : List Value).toArray) ((HC.out.2.2).mono ((zn_row (.inr rfl) ([su0, lu0, gu0, .slice aA m.at_.length ac, vo0, .slice mA m.mem.length mc, vh0, vp0] : List Value).toArray).trans zn_fin))
    obtain ⟨x9, hx9⟩ : ∃ x, w3.setRow (w.heap.size + 1) ([su0, lu0, gu0, .slice aA m.at_.length ac, vo0, .slice mA m.mem.length mc, vh0, vp0] : List Value).toArray = x := ⟨_, rfl⟩
    rw [hx9] at hz1 hF ⊢
    simp only [put_none]
    have HF := Lib.hid (And.intro hF HFN.out)
    have f0 := hz1.cell 0
    have f1 := hz1.cell 1
    have f2 := hz1.cell 2
    have f3 := hz1.cell 3
    have f4 := hz1.cell 4
    have f5 := hz1.cell 5
    have f6 := hz1.cell 6
    have f7 := hz1.cell 7
    clear hx9 hz1 hF HL3
    go_wp2
    refine bodyPost_ret (v := .tuple #[.agg ([su0, lu0, gu0, .slice aA m.at_.length ac, vo0, .slice mA m.mem.length mc, vh0, vp0] : List Value).toArray, .int .i64 (0), .int .i64 (70)]) (by simp [results, Tryz.results16, go_sem, f0, f1, f2, f3, f4, f5, f6, f7]) rfl ⟨[su0, lu0, gu0, .slice aA m.at_.length ac, vo0, .slice mA m.mem.length mc, vh0, vp0], ?_, ?_, HF.out.1.1⟩
    · rw [HF.out.2.2.1, HF.out.2.2.2] <;> rfl
    · rw [HF.out.2.1]; exact HF.out.1.2
  have e7 : (bw == 70) = false := by simp [hb7]
  have HXG : Hid (X1 = (advF u cl (ta : Int) M 0 m).1.getD m ∧ X2 = (advF u cl (ta : Int) M 0 m).2.1 ∧ X3 = (advF u cl (ta : Int) M 0 m).2.2) := Lib.hid (by
    have hX := HXF.out
    unfold advR at hX
    rw [if_neg (fun hk => hk hadv), if_neg (by rw [hbw]; exact hb7), Int.toNat_natCast] at hX
    injection hX with e1 e2
    exact ⟨e1.symm, by rw [e2], by rw [e2]⟩)
  have hM : M ≤ 1048576 := by omega
  clear HXF hadv hbw hb7
  go_enter Tryz.func16, Tryz.ntmps16
  go_wp2_with (first
    | (refine wpList_load_at rfl 35 _ rfl w.heap.size 0 rfl _ _ HLM.out Tryz.underlying35 rfl (by kernel_rfl) ?_))
  refine HWY.out.mono ?_
  rintro e w3 ⟨rfl, hb3⟩
  have c0 := HB.out.2.1.below hb3 HB.out.2.1.lt
  have c1 := HB.out.2.2.1.below hb3 HB.out.2.2.1.lt
  have cb := HB.out.1.trans (hb3.mono HB.out.1.size)
  have cr := HB.out.2.2.2.1.mono (zn_below hb3)
  have HL3 : Hid (∀ j v, ([su0, lu0, gu0, .slice aA m.at_.length ac, vo0, .slice mA m.mem.length mc, vh0, vp0] : List Value)[j]? = some v → w3.cell? ⟨w.heap.size, 0 + j, none⟩ = some v) := Lib.hid fun j v hj => by rw [Nat.zero_add, (c0).cell]; exact hj
  have HC := Lib.hid (And.intro cb (And.intro c0 (And.intro c1 cr)))
  clear hb3 c0 c1 cb cr HWY HLM
  go_wp2_with (first
    | (refine wpList_load_at rfl 35 _ rfl w.heap.size 0 rfl _ _ HL3.out Tryz.underlying35 rfl (by kernel_rfl) ?_)
    | (refine stop_store 35 rfl ?_))
  refine Stop.intro ?_
  refine wpList_plain rfl fun K hK => wp_store_row 35 _ _ rfl w3.heap.size ([su0, lu0, gu0, .slice aA m.at_.length ac, vo0, .slice mA m.mem.length mc, vh0, vp0] : List Value).toArray rfl rfl 35 _ (heap_new w3 _ _ rfl) (by kernel_rfl) rfl HB.out.2.2.2.2 (hK _ _ ?_)
  simp only [put_none]
  obtain ⟨k11, hk11⟩ : ∃ k, w3.heap.size = k := ⟨_, rfl⟩
  obtain ⟨x4, hx4⟩ : ∃ x, w3.alloc (.cells ([su0, lu0, gu0, .slice aA m.at_.length ac, vo0, .slice mA m.mem.length mc, vh0, vp0] : List Value).toArray 35) = x := ⟨_, rfl⟩
  have hA : AvAt w x4 S u m k11 [su0, lu0, gu0, .slice aA m.at_.length ac, vo0, .slice mA m.mem.length mc, vh0, vp0] [su0, lu0, gu0, .slice aA m.at_.length ac, vo0, .slice mA m.mem.length mc, vh0, vp0] m := by
    have h4 : Below w3.heap.size w3 x4 := by rw [← hx4]; exact Below_alloc' w3 _
    have hk4 : Blk x4 k11 35 [su0, lu0, gu0, .slice aA m.at_.length ac, vo0, .slice mA m.mem.length mc, vh0, vp0] := by rw [← hx4, ← hk11]; exact Blk.new w3 _ _
    have hr4 : RefV (on x4 (zk w S k11)) [su0, lu0, gu0, .slice aA m.at_.length ac, vo0, .slice mA m.mem.length mc, vh0, vp0] u m := HC.out.2.2.2.mono (by
      intro b o v hv
      obtain ⟨h1, h2⟩ := on_at hv
      have hlt := World.block_lt_of_cell? w3 ⟨b, o, none⟩ h1
      have hlt2 : b < w3.heap.size := hlt
      exact on_mk ((h4.cell (p := ⟨b, o, none⟩) hlt2).trans h1) ⟨h2, by omega⟩)
    exact ⟨HC.out.1.trans (h4.mono HC.out.1.size), HC.out.2.1.below h4 HC.out.2.1.lt, HC.out.2.2.1.below h4 HC.out.2.2.1.lt, hk4, by have := HC.out.2.2.1.lt; omega, hr4, hr4, HM.out.2.2.2.1, Nat.le_refl _⟩
  rw [World.setRow_alloc_new, hx4, hk11]
  have HA := Lib.hid hA
  clear hx4 hk11 hA HC HL3
  have ONE0 := HB.out.2.2.2.2
  clear HB e7
  go_wp2
  go_loopw [12, 13, 14] (fun i _ _ wr => ∃ (done left : Nat) (mk : Mach) (csk : List Value), i = .int .i64 done ∧ left + done = M ∧ Hid (AvAt w wr S u m k11 [su0, lu0, gu0, .slice aA m.at_.length ac, vo0, .slice mA m.mem.length mc, vh0, vp0] csk mk ∧ advF u cl (ta : Int) M 0 m = advF u cl (ta : Int) left done mk)) (fun i _ _ _ => M + 1 - (intOf i).toNat)
  case atStart => exact ⟨0, M, m, _, rfl, by omega, Lib.hid ⟨HA.out, rfl⟩⟩
  case round =>
    clear HA
    obtain ⟨done, left, mk, csk, rfl, hld, HH⟩ := hrel
    obtain ⟨su1, lu1, gu1, va1, vo1, vm1, vh1, vp1, rfl, -⟩ := id HH.out.1.ref
    have ONE1 := ref_oneA HH.out.1.ref
    have HWY := Lib.hid (r7why_calls _ u mk (ta : Int) wr (HH.out.1.ref.mono (on_le _ _)) HM.out.1 HH.out.1.situ.ok)
    obtain ⟨bv, hbv⟩ : ∃ b, barF u mk (ta : Int) = b := ⟨_, rfl⟩
    rw [hbv] at HWY
    have HLK : Hid (∀ j v, ([su1, lu1, gu1, va1, vo1, vm1, vh1, vp1] : List Value)[j]? = some v → wr.cell? ⟨k11, 0 + j, none⟩ = some v) := Lib.hid fun j v hj => by rw [Nat.zero_add, (HH.out.1.b11).cell]; exact hj
    have HBV := Lib.hid hbv
    clear hbv
    go_wp2_with (first
      | (refine wpList_load_at rfl 35 _ rfl k11 0 rfl _ _ HLK.out Tryz.underlying35 rfl (by kernel_rfl) ?_))
    refine HWY.out.mono ?_
    rintro e w6 ⟨rfl, hb6⟩
    have hA6 := HH.out.1.below hb6
    have HL6 : Hid (∀ j v, ([su1, lu1, gu1, va1, vo1, vm1, vh1, vp1] : List Value)[j]? = some v → w6.cell? ⟨k11, 0 + j, none⟩ = some v) := Lib.hid fun j v hj => by rw [Nat.zero_add, (hA6.b11).cell]; exact hj
    have HL0 : Hid (∀ j v, ([su0, lu0, gu0, .slice aA m.at_.length ac, vo0, .slice mA m.mem.length mc, vh0, vp0] : List Value)[j]? = some v → w6.cell? ⟨w.heap.size, 0 + j, none⟩ = some v) := Lib.hid fun j v hj => by rw [Nat.zero_add, (hA6.b0).cell]; exact hj
    have HA6 := Lib.hid hA6
    clear hb6 hA6 HWY HLK
    by_cases hb7 : bv = 70
    · have e7 : (bv == 70) = true := by simp [hb7]
      have hfin : X1 = mk ∧ X2 = done ∧ X3 = 0 := by
        have hX := HXG.out
        rw [HH.out.2, advF_end left done (HBV.out.trans hb7)] at hX
        exact hX
      have HFN := Lib.hid hfin
      clear hfin hb7 HL0
      go_wp2_with (first
        | (refine wpList_load_at rfl 35 _ rfl k11 0 rfl _ _ HL6.out Tryz.underlying35 rfl (by kernel_rfl) ?_)
        | (refine stop_store 35 rfl ?_))
      refine Stop.intro ?_
      refine wpList_plain rfl fun K hK => wp_store_row 35 _ _ rfl (w.heap.size + 1) ([su1, lu1, gu1, va1, vo1, vm1, vh1, vp1] : List Value).toArray rfl rfl 35 _ HA6.out.b1 (by kernel_rfl) rfl ONE1 (hK _ _ ?_)
      have hz1 : Blk (w6.setRow (w.heap.size + 1) ([su1, lu1, gu1, va1, vo1, vm1, vh1, vp1] : List Value).toArray) (w.heap.size + 1) 35 [su1, lu1, gu1, va1, vo1, vm1, vh1, vp1] := Blk.setRow (cs' := [su1, lu1, gu1, va1, vo1, vm1, vh1, vp1]) HA6.out.b1
      have hF := And.intro (below_row HA6.out.bel (show w.heap.size ≤ w.heap.size + 1 by omega) ([su1, lu1, gu1, va1, vo1, vm1, vh1, vp1] : List Value).toArray) ((HA6.out.ref.mono zk_zn).mono ((zn_row (.inr rfl) ([su1, lu1, gu1, va1, vo1, vm1, vh1, vp1] : List Value).toArray).trans zn_fin))
      obtain ⟨x9, hx9⟩ : ∃ x, w6.setRow (w.heap.size + 1) ([su1, lu1, gu1, va1, vo1, vm1, vh1, vp1] : List Value).toArray = x := ⟨_, rfl⟩
      rw [hx9] at hz1 hF ⊢
      simp only [put_none]
      have HF := Lib.hid (And.intro hF HFN.out)
      have f0 := hz1.cell 0
      have f1 := hz1.cell 1
      have f2 := hz1.cell 2
      have f3 := hz1.cell 3
      have f4 := hz1.cell 4
      have f5 := hz1.cell 5
      have f6 := hz1.cell 6
      have f7 := hz1.cell 7
      clear hx9 hz1 hF HL6
      go_wp2
      refine bodyPost_ret (v := .tuple #[.agg ([su1, lu1, gu1, va1, vo1, vm1, vh1, vp1] : List Value).toArray, .int .i64 (done), .int .i64 (0)]) (by simp [results, Tryz.results16, go_sem, f0, f1, f2, f3, f4, f5, f6, f7]) rfl ⟨[su1, lu1, gu1, va1, vo1, vm1, vh1, vp1], ?_, ?_, HF.out.1.1⟩
      · rw [HF.out.2.2.1, HF.out.2.2.2] <;> rfl
      · rw [HF.out.2.1]; exact HF.out.1.2
    · have e7 : (bv == 70) = false := by simp [hb7]
      by_cases hb0 : bv = 0
      · have e0 : (bv != 0) = false := by simp [hb0]
        by_cases hmany : M ≤ done
        · have d9 : decide ((done : Int) ≥ (M : Int)) = true := decide_eq_true (by omega)
          have hfin : X1 = m ∧ X2 = 0 ∧ X3 = 3 := by
            have hX := HXG.out
            obtain rfl : left = 0 := by omega
            rw [HH.out.2, advF_many done (HBV.out.trans hb0)] at hX
            exact hX
          have HFN := Lib.hid hfin
          clear hfin hb7 hb0 HL6
          go_wp2_with (first
            | (refine wpList_load_at rfl 35 _ rfl w.heap.size 0 rfl _ _ HL0.out Tryz.underlying35 rfl (by kernel_rfl) ?_)
            | (refine stop_store 35 rfl ?_))
          refine Stop.intro ?_
          refine wpList_plain rfl fun K hK => wp_store_row 35 _ _ rfl (w.heap.size + 1) ([su0, lu0, gu0, .slice aA m.at_.length ac, vo0, .slice mA m.mem.length mc, vh0, vp0] : List Value).toArray rfl rfl 35 _ HA6.out.b1 (by kernel_rfl) rfl ONE0 (hK _ _ ?_)
          have hz1 : Blk (w6.setRow (w.heap.size + 1) ([su0, lu0, gu0, .slice aA m.at_.length ac, vo0, .slice mA m.mem.length mc, vh0, vp0] : List Value).toArray) (w.heap.size + 1) 35 [su0, lu0, gu0, .slice aA m.at_.length ac, vo0, .slice mA m.mem.length mc, vh0, vp0] := Blk.setRow (cs' := [su0, lu0, gu0, .slice aA m.at_.length ac, vo0, .slice mA m.mem.length mc, vh0, vp0]) HA6.out.b1
          have hF := And.intro (below_row HA6.out.bel (show w.heap.size ≤ w.heap.size + 1 by omega) ([su0, lu0, gu0, .slice aA m.at_.length ac, vo0, .slice mA m.mem.length mc, vh0, vp0] : List Value).toArray) ((HA6.out.ref0.mono zk_zn).mono ((zn_row (.inr rfl) ([su0, lu0, gu0, .slice aA m.at_.length ac, vo0, .slice mA m.mem.length mc, vh0, vp0] : List Value).toArray).trans zn_fin))
          obtain ⟨x9, hx9⟩ : ∃ x, w6.setRow (w.heap.size + 1) ([su0, lu0, gu0, .slice aA m.at_.length ac, vo0, .slice mA m.mem.length mc, vh0, vp0] : List Value).toArray = x := ⟨_, rfl⟩
          rw [hx9] at hz1 hF ⊢
          simp only [put_none]
          have HF := Lib.hid (And.intro hF HFN.out)
          have f0 := hz1.cell 0
          have f1 := hz1.cell 1
          have f2 := hz1.cell 2
          have f3 := hz1.cell 3
          have f4 := hz1.cell 4
          have f5 := hz1.cell 5
          have f6 := hz1.cell 6
          have f7 := hz1.cell 7
          clear hx9 hz1 hF HL0
          go_wp2
          refine bodyPost_ret (v := .tuple #[.agg ([su0, lu0, gu0, .slice aA m.at_.length ac, vo0, .slice mA m.mem.length mc, vh0, vp0] : List Value).toArray, .int .i64 (0), .int .i64 (3)]) (by simp [results, Tryz.results16, go_sem, f0, f1, f2, f3, f4, f5, f6, f7]) rfl ⟨[su0, lu0, gu0, .slice aA m.at_.length ac, vo0, .slice mA m.mem.length mc, vh0, vp0], ?_, ?_, HF.out.1.1⟩
          · rw [HF.out.2.2.1, HF.out.2.2.2] <;> rfl
          · rw [HF.out.2.1]; exact HF.out.1.2
        · have d9 : decide ((done : Int) ≥ (M : Int)) = false := decide_eq_false (by omega)
          obtain ⟨left, rfl⟩ : ∃ l, left = l + 1 := ⟨left - 1, by omega⟩
          obtain ⟨gr, i, n, hst⟩ := stands_at HH.out.1.situ.ok htg
          have hvz : visAt u cl mk (ta : Int) = visB cl n := by unfold visAt; rw [Int.toNat_natCast, hst.nodeAt]
          have HNX := Lib.hid (rnext_calls _ u mk ta gr i n w6 (HA6.out.ref.mono (on_le _ _)) hst)
          have HVZ := Lib.hid (And.intro hvz (HBV.out.trans hb0))
          clear hst hvz hb7 hb0 HL0
          go_wp2_with (first
            | (refine wpList_load_at rfl 35 _ rfl k11 0 rfl _ _ HL6.out Tryz.underlying35 rfl (by kernel_rfl) ?_))
          refine HNX.out.mono ?_
          rintro e w7 ⟨rfl, hb7⟩
          have hA7 := HA6.out.below hb7
          have HA7 := Lib.hid hA7
          clear hb7 hA7 HNX HL6 HA6
          go_wp2_with (first
            | (refine stop_store 53 rfl ?_))
          refine Stop.intro ?_
          refine wpList_plain rfl fun K hK => wp_store_row 53 _ _ rfl w7.heap.size n.cells.toArray rfl rfl 53 _ (heap_new w7 _ _ rfl) (by kernel_rfl) rfl (by simp [Node.cells, Value.oneCell']) (hK _ _ ?_)
          simp only [put_none]
          obtain ⟨x8, hx8⟩ : ∃ x, w7.alloc (.cells n.cells.toArray 53) = x := ⟨_, rfl⟩
          rw [World.setRow_alloc_new, hx8]
          have hb8 : Below w7.heap.size w7 x8 := by rw [← hx8]; exact Below_alloc' w7 _
          have hn8 : Blk x8 w7.heap.size 53 n.cells := by rw [← hx8]; exact Blk.new w7 _ _
          have hA8 := HA7.out.below hb8
          have HL8 : Hid (∀ j v, ([su1, lu1, gu1, va1, vo1, vm1, vh1, vp1] : List Value)[j]? = some v → x8.cell? ⟨k11, 0 + j, none⟩ = some v) := Lib.hid fun j v hj => by rw [Nat.zero_add, (hA8.b11).cell]; exact hj
          have HST := Lib.hid (r7step_calls _ u mk (ta : Int) x8 (zk w S k11) hA8.ref HM.out.1 HM.out.2.1 HM.out.2.2.1 hA8.situ (by have := hA8.pr; have := HM.out.2.2.2.2.2; omega))
          have HA8 := Lib.hid (And.intro hA8 (And.intro hn8 HA7.out.b11.lt))
          clear hx8 hb8 hn8 hA8 HA7
          go_wp2_with (first
            | (refine wpList_load_at rfl 35 _ rfl k11 0 rfl _ _ HL8.out Tryz.underlying35 rfl (by kernel_rfl) ?_))
          refine HST.out.mono ?_
          rintro e w9 ⟨cs2, rfl, hr9, hb9⟩
          obtain ⟨su2, lu2, gu2, va2, vo2, vm2, vh2, vp2, rfl, -⟩ := id hr9
          have ONE2 := ref_oneA hr9
          have hstp := HA8.out.1.step hb9 hr9
          have hn9 := HA8.out.2.1.below hb9 HA8.out.2.1.lt
          have h119 := HA8.out.1.b11.below hb9 HA8.out.1.b11.lt
          have hne : w7.heap.size ≠ k11 := by have := HA8.out.2.2; omega
          have hnA : Blk (w9.setRow k11 ([su2, lu2, gu2, va2, vo2, vm2, vh2, vp2] : List Value).toArray) w7.heap.size 53 n.cells := (heap_setRow_ne hne _).trans hn9
          have HP := Lib.hid (And.intro hstp (And.intro hnA h119))
          clear hr9 hb9 hstp hn9 h119 hne hnA HST HL8
          go_wp2_with (first
            | (refine stop_store 35 rfl ?_))
          refine Stop.intro ?_
          refine wpList_plain rfl fun K hK => wp_store_row 35 _ _ rfl k11 ([su2, lu2, gu2, va2, vo2, vm2, vh2, vp2] : List Value).toArray rfl rfl 35 _ HP.out.2.2 (by kernel_rfl) rfl ONE2 (hK _ _ ?_)
          simp only [put_none]
          obtain ⟨x10, hx10⟩ : ∃ x, w9.setRow k11 ([su2, lu2, gu2, va2, vo2, vm2, vh2, vp2] : List Value).toArray = x := ⟨_, rfl⟩
          have hP := And.intro HP.out.1 HP.out.2.1
          rw [hx10] at hP ⊢
          have HLN : Hid (∀ j v, (n.cells : List Value)[j]? = some v → x10.cell? ⟨w7.heap.size, 0 + j, none⟩ = some v) := Lib.hid fun j v hj => by rw [Nat.zero_add, (hP.2).cell]; exact hj
          have HL11 : Hid (∀ j v, ([su2, lu2, gu2, va2, vo2, vm2, vh2, vp2] : List Value)[j]? = some v → x10.cell? ⟨k11, 0 + j, none⟩ = some v) := Lib.hid fun j v hj => by rw [Nat.zero_add, (hP.1.2.2.2.1).cell]; exact hj
          have HVC := Lib.hid (r7vis_calls cl _ n x10 (HM.out.2.2.2.2.1.mono (cmap_below hP.1.1)))
          have HP2 := Lib.hid (And.intro hP.1 (HH.out.1.situ.step HM.out.1 HM.out.2.2.1 (ta : Int)))
          obtain ⟨vb, hvb⟩ : ∃ b, visB cl n = b := ⟨_, rfl⟩
          rw [hvb] at HVC HVZ
          clear hx10 hP HP hvb
          go_wp2_with (first
            | (refine wpList_load_at rfl 53 _ rfl w7.heap.size 0 rfl n.cells _ HLN.out Tryz.underlying53 rfl (by kernel_rfl) ?_))
          refine HVC.out.mono ?_
          rintro e w11 ⟨rfl, hb11⟩
          have q0 := HP2.out.1.1.trans (hb11.mono HP2.out.1.1.size)
          have q1 := HP2.out.1.2.1.below hb11 HP2.out.1.2.1.lt
          have q2 := HP2.out.1.2.2.1.below hb11 HP2.out.1.2.2.1.lt
          have q3 := HP2.out.1.2.2.2.1.below hb11 HP2.out.1.2.2.2.1.lt
          have q4 := HP2.out.1.2.2.2.2.1.mono (zk_below hb11)
          have q5 := HP2.out.1.2.2.2.2.2.mono (zk_below hb11)
          have HL12 : Hid (∀ j v, ([su2, lu2, gu2, va2, vo2, vm2, vh2, vp2] : List Value)[j]? = some v → w11.cell? ⟨k11, 0 + j, none⟩ = some v) := Lib.hid fun j v hj => by rw [Nat.zero_add, (q3).cell]; exact hj
          have HQ := Lib.hid (And.intro q0 (And.intro q1 (And.intro q2 (And.intro q3 (And.intro q4 q5)))))
          clear hb11 q0 q1 q2 q3 q4 q5 HVC HLN HL11
          cases vb with
          | true =>
            have hfin : X1 = stepM u mk (ta : Int) ∧ X2 = done + 1 ∧ X3 = 0 := by
              have hX := HXG.out
              rw [HH.out.2, advF_vis left done HVZ.out.2 HVZ.out.1] at hX
              exact hX
            have HFN := Lib.hid hfin
            clear hfin
            have d1 : (done : Int) < 1048576 := by omega
            go_wp2_with (first
              | (refine wpList_load_at rfl 35 _ rfl k11 0 rfl _ _ HL12.out Tryz.underlying35 rfl (by kernel_rfl) ?_)
              | (refine stop_store 35 rfl ?_))
            refine Stop.intro ?_
            refine wpList_plain rfl fun K hK => wp_store_row 35 _ _ rfl (w.heap.size + 1) ([su2, lu2, gu2, va2, vo2, vm2, vh2, vp2] : List Value).toArray rfl rfl 35 _ HQ.out.2.2.1 (by kernel_rfl) rfl ONE2 (hK _ _ ?_)
            have hz1 : Blk (w11.setRow (w.heap.size + 1) ([su2, lu2, gu2, va2, vo2, vm2, vh2, vp2] : List Value).toArray) (w.heap.size + 1) 35 [su2, lu2, gu2, va2, vo2, vm2, vh2, vp2] := Blk.setRow (cs' := [su2, lu2, gu2, va2, vo2, vm2, vh2, vp2]) HQ.out.2.2.1
            have hF := And.intro (below_row HQ.out.1 (show w.heap.size ≤ w.heap.size + 1 by omega) ([su2, lu2, gu2, va2, vo2, vm2, vh2, vp2] : List Value).toArray) ((HQ.out.2.2.2.2.2.mono zk_zn).mono ((zn_row (.inr rfl) ([su2, lu2, gu2, va2, vo2, vm2, vh2, vp2] : List Value).toArray).trans zn_fin))
            obtain ⟨x9, hx9⟩ : ∃ x, w11.setRow (w.heap.size + 1) ([su2, lu2, gu2, va2, vo2, vm2, vh2, vp2] : List Value).toArray = x := ⟨_, rfl⟩
            rw [hx9] at hz1 hF ⊢
            simp only [put_none]
            have HF := Lib.hid (And.intro hF HFN.out)
            have f0 := hz1.cell 0
            have f1 := hz1.cell 1
            have f2 := hz1.cell 2
            have f3 := hz1.cell 3
            have f4 := hz1.cell 4
            have f5 := hz1.cell 5
            have f6 := hz1.cell 6
            have f7 := hz1.cell 7
            clear hx9 hz1 hF HL12
            go_wp2
            refine bodyPost_ret (v := .tuple #[.agg ([su2, lu2, gu2, va2, vo2, vm2, vh2, vp2] : List Value).toArray, .int .i64 (done + 1), .int .i64 (0)]) (by simp [results, Tryz.results16, go_sem, f0, f1, f2, f3, f4, f5, f6, f7]) rfl ⟨[su2, lu2, gu2, va2, vo2, vm2, vh2, vp2], ?_, ?_, HF.out.1.1⟩
            · rw [HF.out.2.2.1, HF.out.2.2.2] <;> rfl
            · rw [HF.out.2.1]; exact HF.out.1.2
          | false =>
            have hpr := quiet_pr HVZ.out.1
            have hA12 : AvAt w w11 S u m k11 [su0, lu0, gu0, .slice aA m.at_.length ac, vo0, .slice mA m.mem.length mc, vh0, vp0] [su2, lu2, gu2, va2, vo2, vm2, vh2, vp2] (stepM u mk (ta : Int)) := ⟨HQ.out.1, HQ.out.2.1, HQ.out.2.2.1, HQ.out.2.2.2.1, HH.out.1.k2, HQ.out.2.2.2.2.1, HQ.out.2.2.2.2.2, HP2.out.2, by have := HH.out.1.pr; omega⟩
            have HA12 := Lib.hid (And.intro hA12 (HH.out.2.trans (advF_go left done HVZ.out.2 HVZ.out.1)))
            clear hpr hA12 HQ HP2 HL12
            go_wp2
            go_roundw
            case rel => exact ⟨done + 1, left, _, _, by go_num, by omega, HA12⟩
            case measure => simp [intOf]; omega
      · have e0 : (bv != 0) = true := by simp [hb0]
        have hfin : X1 = m ∧ X2 = 0 ∧ X3 = bv := by
          have hX := HXG.out
          rw [HH.out.2, advF_bar left done (by rw [HBV.out]; exact hb7) (by rw [HBV.out]; exact hb0), HBV.out] at hX
          exact hX
        have HFN := Lib.hid hfin
        clear hfin hb7 hb0 HL6
        go_wp2_with (first
          | (refine wpList_load_at rfl 35 _ rfl w.heap.size 0 rfl _ _ HL0.out Tryz.underlying35 rfl (by kernel_rfl) ?_)
          | (refine stop_store 35 rfl ?_))
        refine Stop.intro ?_
        refine wpList_plain rfl fun K hK => wp_store_row 35 _ _ rfl (w.heap.size + 1) ([su0, lu0, gu0, .slice aA m.at_.length ac, vo0, .slice mA m.mem.length mc, vh0, vp0] : List Value).toArray rfl rfl 35 _ HA6.out.b1 (by kernel_rfl) rfl ONE0 (hK _ _ ?_)
        have hz1 : Blk (w6.setRow (w.heap.size + 1) ([su0, lu0, gu0, .slice aA m.at_.length ac, vo0, .slice mA m.mem.length mc, vh0, vp0] : List Value).toArray) (w.heap.size + 1) 35 [su0, lu0, gu0, .slice aA m.at_.length ac, vo0, .slice mA m.mem.length mc, vh0, vp0] := Blk.setRow (cs' := [su0, lu0, gu0, .slice aA m.at_.length ac, vo0, .slice mA m.mem.length mc, vh0, vp0]) HA6.out.b1
        have hF := And.intro (below_row HA6.out.bel (show w.heap.size ≤ w.heap.size + 1 by omega) ([su0, lu0, gu0, .slice aA m.at_.length ac, vo0, .slice mA m.mem.length mc, vh0, vp0] : List Value).toArray) ((HA6.out.ref0.mono zk_zn).mono ((zn_row (.inr rfl) ([su0, lu0, gu0, .slice aA m.at_.length ac, vo0, .slice mA m.mem.length mc, vh0, vp0] : List Value).toArray).trans zn_fin))
        obtain ⟨x9, hx9⟩ : ∃ x, w6.setRow (w.heap.size + 1) ([su0, lu0, gu0, .slice aA m.at_.length ac, vo0, .slice mA m.mem.length mc, vh0, vp0] : List Value).toArray = x := ⟨_, rfl⟩
        rw [hx9] at hz1 hF ⊢
        simp only [put_none]
        have HF := Lib.hid (And.intro hF HFN.out)
        have f0 := hz1.cell 0
        have f1 := hz1.cell 1
        have f2 := hz1.cell 2
        have f3 := hz1.cell 3
        have f4 := hz1.cell 4
        have f5 := hz1.cell 5
        have f6 := hz1.cell 6
        have f7 := hz1.cell 7
        clear hx9 hz1 hF HL0
        go_wp2
        refine bodyPost_ret (v := .tuple #[.agg ([su0, lu0, gu0, .slice aA m.at_.length ac, vo0, .slice mA m.mem.length mc, vh0, vp0] : List Value).toArray, .int .i64 (0), .int .i64 (bv)]) (by simp [results, Tryz.results16, go_sem, f0, f1, f2, f3, f4, f5, f6, f7]) rfl ⟨[su0, lu0, gu0, .slice aA m.at_.length ac, vo0, .slice mA m.mem.length mc, vh0, vp0], ?_, ?_, HF.out.1.1⟩
        · rw [HF.out.2.2.1, HF.out.2.2.2] <;> rfl
        · rw [HF.out.2.1]; exact HF.out.1.2
end Go.Proofs.YtmkpjiahkepigaaGreat
