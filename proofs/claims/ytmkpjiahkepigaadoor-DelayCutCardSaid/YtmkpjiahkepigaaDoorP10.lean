import Derived.Test.YtmkpjiahkepigaaDoorP09
import Derived.Test.YtmkpjiahkepigaaDoorP06
import Derived.Shelf.Spec.TrailingZeros
/- The smallest walks of layer 10: sets of locks, what touches a variable. -/
namespace Go.Proofs.YtmkpjiahkepigaaDoor
open Go Go.RowKit
def Tab (w : World) : Prop := TabAt 0 Lib.deBruijn32tab w
theorem Tab.below {w w' : World} (h : Tab w) (hb : Below w.heap.size w w') : Tab w' := fun j hj => by
  have h1 := h j hj
  rw [hb.cell (p := ⟨_, j, none⟩) (World.block_lt_of_cell? w _ h1)]; exact h1
theorem Tab.alloc {w : World} (h : Tab w) (o : Obj) : Tab (w.alloc o) := h.below (Below_alloc' _ _)
set_option maxHeartbeats 1000000 in
theorem tz32_core (x k idx : Nat) (w : World) (hx0 : ((x : Int) == 0) = false)
    (key : bits BinOp.and IntKind.u32 (x : Int) (-(x : Int) % 4294967296) * 125613361 % 4294967296 / 134217728 = (idx : Int))
    (hi : idx < 32) (hk : k < 32) (hcell : w.cell? ⟨0, idx, none⟩ = some (.int .u8 k)) :
    Calls Tryd.prog 56 #[.int .u32 x] w fun e w' => e = .returned (.int .i64 k) ∧ w = w' := by
  go_enter Tryd.func56, Tryd.ntmps56
  go_wp2_with (simp only [key])
  go_ret
  exact ⟨rfl, rfl⟩
theorem tz32_calls (x : Nat) (hx : x < 4294967296) (hx0 : x ≠ 0) (w : World) (hT : Tab w) :
    Calls Tryd.prog 56 #[.int .u32 x] w fun e w' => e = .returned (.int .i64 (Lib.ctz 32 x)) ∧ w = w' := by
  obtain ⟨hlow, hk⟩ := Lib.lowest_bit 32 x hx0 hx
  obtain ⟨hi, htab⟩ := Lib.deBruijn32_at _ hk
  have hcell := hT _ hi
  rw [htab] at hcell
  exact tz32_core x _ _ w (by simp; omega) (tz32_key x _ hx hx0 hlow) hi hk hcell
set_option maxRecDepth 100000 in
set_option maxHeartbeats 1000000 in
theorem list_calls (m : Nat) (hm : m < 65536) (w : World) (hT : Tab w) :
    Calls Tryd.prog 39 #[.int .u32 m] w fun e w' => ∃ v, e = .returned v ∧ w'.ownsRow w.heap.size 3 1 v (bitsUp m).length (ints (bitsUp m)) ∧ Below w.heap.size w w' := by
  obtain ⟨r, hr⟩ : ∃ r, bitsUp m = r := ⟨_, rfl⟩
  rw [hr]
  have hrl : r.length ≤ 16 := by rw [← hr]; exact up_length _
  have HR := Lib.hid hr; clear hr
  have HT := Lib.hid hT; clear hT
  go_enter Tryd.func39, Tryd.ntmps39
  go_wp2_with fail
  go_loopg [0, 3] m (fun k v0 v3 wr => ∃ (m' : Nat) (out : List Int), v0 = .int .u32 m' ∧ m' < 65536 ∧ m' ≤ k ∧ wr.ownsRow w.heap.size 3 1 v3 out.length (ints out) ∧ out ++ bitsUp m' = r ∧ Below w.heap.size w wr)
  case atStart => exact ⟨m, [], rfl, hm, Nat.le_refl _, World.ownsRow_nil _ _ _ _, HR.out, Below.refl _ _⟩
  case round =>
    obtain ⟨m', out, rfl, hm', hk, hown, hout, hbel⟩ := hrel
    have HO := Lib.hid hout; clear hout
    by_cases h0 : m' = 0
    · subst h0
      have hrr : out = r := by rw [← HO.out, bitsUp_zero, List.append_nil]
      subst hrr
      clear HO HR
      go_wp2_with fail
      go_ret
      exact ⟨_, rfl, hown, hbel⟩
    · have hne : ((m' : Int) != 0) = true := by simp; omega
      obtain ⟨q1, q2, q3⟩ := bitsUp_step m' h0 hm'
      have hol : out.length < 16 := by
        have := congrArg List.length HO.out
        rw [q1] at this
        simp at this; omega
      have hz0 : Hid (m' ≠ 0) := h0
      have h1 : 1 ≤ m' := by omega
      clear h0
      obtain ⟨c, hc⟩ : ∃ c, Lib.ctz 32 m' = c := ⟨_, rfl⟩
      rw [hc] at q1 q3
      have HC := Lib.hid hc; clear hc
      have Q1 := Lib.hid q1; clear q1
      have hT2 := HT.out.below hbel
      have hand : bits BinOp.and IntKind.u32 (m' : Int) ((m' : Int) - 1) = ((m' &&& (m' - 1) : Nat) : Int) := by
        have : (m' : Int) - 1 = ((m' - 1 : Nat) : Int) := by omega
        rw [this, bits_and_u32_nat _ _ (by omega) (by omega)]
      go_wp2_with (first | (go_at_call 56; refine (tz32_calls m' (by omega) hz0.out _ hT2).mono ?_; rintro e w1 ⟨rfl, rfl⟩; rw [HC.out]) | (refine stop_append rfl ?_))
      refine Stop.intro ?_
      refine app_one sl_int rfl _ _ rfl w.heap.size u3 out.length (ints out) rfl (hown.alloc _) wr.heap.size 0 1 [.int .i64 (c : Nat)] rfl rfl (cell_new1 _ _ _ _ (by simp)) (by simp [Value.oneCell']) (by omega) (by decide) (by simp; have := hbel.size; omega) ?_
      intro v' w' hown4 hgr hob
      have hbel4 := (hbel.alloc hbel.size (.cells #[.int .i64 (c : Nat)] 3)).grown hgr (by simp; have := hbel.size; omega) (fun k hk => own_lt hown k hk)
      go_wp2_with fail
      go_roundg (m' &&& (m' - 1))
      case measure => omega
      case rel => exact ⟨m' &&& (m' - 1), out ++ [(c : Int)], rfl, by omega, Nat.le_refl _, by simpa [ints] using hown4, by rw [List.append_assoc, List.singleton_append, ← Q1.out, HO.out], hbel4⟩
end Go.Proofs.YtmkpjiahkepigaaDoor
/- The smallest walks of layer 10: what touches a variable, what stands in a list. -/
namespace Go.Proofs.YtmkpjiahkepigaaDoor
open Go Go.RowKit
set_option maxHeartbeats 400000 in
theorem touches_calls (n : Node) (w : World) :
    Calls Tryd.prog 55 #[.agg n.cells.toArray] w fun e w' => e = .returned (.bool (touchB n)) ∧ Below w.heap.size w w' := by
  unfold Node.cells
  go_enter Tryd.func55, Tryd.ntmps55
  go_wp2
  all_goals (go_ret; refine ⟨ret_bool (Bool.eq_iff_iff.2 ?_), Below_alloc' _ _⟩; simp [touchB]; simp_all)
end Go.Proofs.YtmkpjiahkepigaaDoor
