import Derived.Test.YtmkpjiahkepigaaGreatP01
import Derived.Lib.UnsafeStr
import Derived.Laws.IdiomStrings
import Derived.Test.YtmkpjiahkepigaaGreatP02
import Derived.Shelf.Strings.BuilderK
import Derived.Laws.Externs
/- Decimal texts of words. -/
namespace Go.Proofs.YtmkpjiahkepigaaGreat
open Go
def digB (n : Nat) : UInt8 := UInt8.ofNat (48 + n)
def decL (n : Nat) : List UInt8 := if _h : n < 10 then [digB n] else decL (n / 10) ++ [digB (n % 10)]
termination_by n
decreasing_by omega
theorem decL_lt {n : Nat} (h : n < 10) : decL n = [digB n] := by unfold decL; rw [dif_pos h]
theorem decL_ge {n : Nat} (h : ¬ n < 10) : decL n = decL (n / 10) ++ [digB (n % 10)] := by rw [decL, dif_neg h]
/-- What is still to be written where the rest of the number is n. -/
def restL (n : Nat) : List UInt8 := if n = 0 then [] else decL n
theorem restL_zero : restL 0 = [] := rfl
theorem decL_rest (n : Nat) : decL n = restL (n / 10) ++ [digB (n % 10)] := by
  by_cases h : n < 10
  · rw [decL_lt h, Nat.div_eq_of_lt h, restL_zero, Nat.mod_eq_of_lt h]; rfl
  · rw [decL_ge h]
    unfold restL
    rw [if_neg (by omega)]
theorem decL_len (k : Nat) : ∀ n, n < 10 ^ (k + 1) → (decL n).length ≤ k + 1 := by
  induction k with
  | zero => intro n h; rw [decL_lt (by omega)]; simp
  | succ k ih =>
    intro n h
    by_cases hn : n < 10
    · rw [decL_lt hn]; simp
    · rw [decL_ge hn, List.length_append]
      have := ih (n / 10) (by rw [Nat.pow_succ] at h; omega)
      simp only [List.length_cons, List.length_nil]
      omega
theorem digB_toNat {n : Nat} (h : n < 10) : ((digB n).toNat : Int) = 48 + n := by
  unfold digB
  rw [UInt8.toNat_ofNat']
  omega
/-- The text of a word. -/
def textL (x : Int) : List UInt8 := if x < 0 then 45 :: decL x.natAbs else decL x.toNat
theorem textL_len {x : Int} (h : i64 x) : (textL x).length ≤ 20 := by
  obtain ⟨h1, h2⟩ := h
  unfold textL
  split
  · have := decL_len 18 x.natAbs (by omega)
    simp only [List.length_cons]
    omega
  · have := decL_len 18 x.toNat (by omega)
    omega
theorem decL_len20 {n : Nat} (h : n < 18446744073709551616) : (decL n).length ≤ 20 := decL_len 19 n (by omega)
end Go.Proofs.YtmkpjiahkepigaaGreat
/- What words.Print writes. -/
namespace Go.Proofs.YtmkpjiahkepigaaGreat
open Go Go.RowKit
theorem stop_slice {P : Program} {ops : Array Oper} {rest : List Oper} {o : Oper} {a : Act} {w : World} {Q : Exit → Act → World → Prop} (ty : TypeId) {x : Operand} {lo hi mx : Option Operand} (_ho : o.op = .slice ty x lo hi mx) (h : Stop (wpList P ops Q (o :: rest) a w)) : wpList P ops Q (o :: rest) a w := h.out
theorem stop_convert {P : Program} {ops : Array Oper} {rest : List Oper} {o : Oper} {a : Act} {w : World} {Q : Exit → Act → World → Prop} (s d : TypeId) {x : Operand} (_ho : o.op = .convert s d x) (h : Stop (wpList P ops Q (o :: rest) a w)) : wpList P ops Q (o :: rest) a w := h.out
theorem wpList_slice_array {P : Program} {ops : Array Oper} {rest : List Oper} {o : Oper} {a : Act} {w : World} {Q : Exit → Act → World → Prop} (hgd : o.guard = none) (t : TypeId) (x y : Operand) (ho : o.op = .slice t x (some y) none none) (b l n : Nat)
    (hx : a.eval x = .pointer (some ⟨b, 0, none⟩)) (hy : a.eval y = .int .i64 l) (ht : P.underlying t = some (.array (P.arrayLen t) (P.elem t))) (hn : P.arrayLen t = n) (hl : l < n) (hs : (P.info? (P.elem t)).map (·.size) = some 1)
    (h : wpList P ops Q rest (a.put o.dst (.slice (some ⟨b, l, none⟩) (n - l) (n - l))) w) : wpList P ops Q (o :: rest) a w := by
  have hr := run_sliceAt_array_l (P := P) w t ⟨b, 0, none⟩ ht .i64 (l : Int) (by omega) (by omega)
  have hz : (sizeOf (P.elem t)).run P w = .ok 1 w := by
    cases hq : P.info? (P.elem t) with
    | none => rw [hq] at hs; cases hs
    | some i => rw [hq] at hs; injection hs with hs; simp [sizeOf, typeInfo, hq, hs]
  rw [hz] at hr
  refine wpList_plain hgd fun K hK => ?_
  unfold Oper.wp execOp
  simp only [ho, hx, hy, Option.map_some, Option.map_none, Sem.run_bind, Sem.run_pure, hr, Result.andThen]
  have e : slicedAt ⟨b, 0, none⟩ (l : Int).toNat (P.arrayLen t) (P.arrayLen t) 1 = .slice (some ⟨b, l, none⟩) (n - l) (n - l) := by
    unfold slicedAt
    rw [hn, if_neg (by simp; omega), add_mk]
    simp
  rw [e]
  exact hK _ _ h
theorem wpList_convert_back {P : Program} {ops : Array Oper} {rest : List Oper} {o : Oper} {a : Act} {w : World} {Q : Exit → Act → World → Prop} (hgd : o.guard = none) (src dst e : TypeId) (x : Operand) (ho : o.op = .convert src dst x) (b f n c : Nat) (l : List UInt8)
    (hx : a.eval x = .slice (some ⟨b, f, none⟩) n c) (hn : n = l.length) (hs : P.underlying src = some (.slice e)) (he : P.underlying e = some (.int .u8)) (hd : P.underlying dst = some .string) (hc : ∀ j (hj : j < l.length), w.cell? ⟨b, f + j, none⟩ = some (.int .u8 (l[j].toNat : Int)))
    (h : wpList P ops Q rest (a.put o.dst (.string ⟨l.toArray⟩)) w) : wpList P ops Q (o :: rest) a w := by
  subst hn
  have hr := run_convert_bytes_back (P := P) w src dst e ⟨b, f, none⟩ c l hs he hd (fun j hj => by rw [add_mk]; exact hc j hj)
  refine wpList_plain hgd fun K hK => ?_
  unfold Oper.wp execOp
  simp only [ho, hx, Sem.run_bind, Sem.run_pure, hr, Result.andThen]
  exact hK _ _ h
/-- The cells behind place at are the bytes of a text. -/
def Tail (w : World) (b : Nat) (l : List UInt8) : Prop := ∀ j (hj : j < l.length), w.cell? ⟨b, 20 - l.length + j, none⟩ = some (.int .u8 (l[j].toNat : Int))
theorem Tail.cons {w : World} {b : Nat} {l : List UInt8} {cs : List Value} (h : Tail w b l) (hb : Blk w b 133 cs) (hc : cs.length = 20) (hl : l.length < 20) (x : UInt8) : Tail (w.setCell ⟨b, 19 - l.length, none⟩ (.int .u8 (x.toNat : Int))) b (x :: l) := by
  intro j hj
  have hs := hb.set_ (19 - l.length) (.int .u8 (x.toNat : Int))
  simp only [List.length_cons] at hj ⊢
  rw [hs.cell]
  cases j with
  | zero =>
    have : 20 - (l.length + 1) + 0 = 19 - l.length := by omega
    rw [this, List.getElem?_set_self (by omega)]; rfl
  | succ j =>
    have h2 := h j (by omega)
    rw [hb.cell] at h2
    rw [List.getElem?_set_ne (by omega)]
    have : 20 - (l.length + 1) + (j + 1) = 20 - l.length + j := by omega
    rw [this, h2]; rfl
theorem wrap_u64_neg {x : Int} (h : i64 x) (h0 : x < 0) : IntKind.u64.wrap (-IntKind.u64.wrap x) = (x.natAbs : Int) := by
  obtain ⟨h1, h2⟩ := h
  simp only [IntKind.wrap, IntKind.bits, IntKind.signed]
  simp
  omega
theorem wrap_u64_pos {x : Int} (h : i64 x) (h0 : ¬ x < 0) : IntKind.u64.wrap x = (x.toNat : Int) := by
  obtain ⟨h1, h2⟩ := h
  simp only [IntKind.wrap, IntKind.bits, IntKind.signed]
  simp
  omega
set_option maxRecDepth 100000 in
set_option maxHeartbeats 1000000 in
theorem print_calls (x : Int) (hx : i64 x) (w : World) :
    Calls Tryz.prog 52 #[.int .i64 x] w fun e w' => e = .returned (.string ⟨(textL x).toArray⟩) ∧ Below w.heap.size w w' := by
  have hB0 := Below_alloc' w (.cells (List.replicate 20 (Value.int .u8 0)).toArray 133)
  have hK0 := Blk.new w 133 (List.replicate 20 (Value.int .u8 0))
  have hT0 : Tail (w.alloc (.cells (List.replicate 20 (Value.int .u8 0)).toArray 133)) w.heap.size [] := fun j hj => by simp at hj
  have H0 := Lib.hid (And.intro hB0 (And.intro hK0 hT0))
  clear hB0 hK0 hT0
  by_cases h0 : x < 0
  · have hw := wrap_u64_neg hx h0
    obtain ⟨N, hN⟩ : ∃ N, x.natAbs = N := ⟨_, rfl⟩
    have hT : textL x = 45 :: decL N := by unfold textL; rw [if_pos h0, hN]
    have hlen : (decL N).length ≤ 19 := by have := textL_len hx; rw [hT] at this; simp at this; omega
    have hN6 : N < 18446744073709551616 := by obtain ⟨h1, h2⟩ := hx; omega
    rw [hN] at hw
    have HW := Lib.hid (And.intro hT (And.intro hlen hN6))
    clear hN hT hlen hx hN6
    go_enter Tryz.func52, Tryz.ntmps52
    go_wp2
    go_loopw [4, 5, 12, 13, 14, 15, 16, 17, 18, 19, 20, 21, 22, 23] (fun v4 v5 _ _ _ _ _ _ _ _ _ _ _ _ wr => ∃ (a m : Nat) (l : List UInt8) (cs : List Value), v4 = .int .i64 a ∧ v5 = .int .u64 m ∧ m < 18446744073709551616 ∧ a + l.length = 20 ∧ Hid (decL N = decL m ++ l) ∧ Hid (Tail wr w.heap.size l ∧ Blk wr w.heap.size 133 cs ∧ cs.length = 20 ∧ Below w.heap.size w wr)) (fun _ v5 _ _ _ _ _ _ _ _ _ _ _ _ _ => (intOf v5).toNat)
    case atStart => exact ⟨20, N, [], _, rfl, rfl, HW.out.2.2, rfl, Lib.hid (by simp), Lib.hid ⟨H0.out.2.2, H0.out.2.1, rfl, H0.out.1⟩⟩
    case round =>
      obtain ⟨a, m, l, cs, rfl, rfl, hm, ha, HD, HI⟩ := hrel
      have hd1 : (decL m).length + l.length ≤ 19 := by have := HW.out.2.1; rw [HD.out, List.length_append] at this; exact this
      have hd2 := decL_rest m
      have hx10 : ((digB (m % 10)).toNat : Int) = 48 + ((m % 10 : Nat) : Int) := digB_toNat (by omega)
      have hd3 : 1 ≤ (decL m).length := by rw [hd2]; simp
      have hm10 : ((m / 10 : Nat) : Int) = (m : Int) / 10 := by omega
      have hr10 : (48 : Int) + (m : Int) % 10 = ((digB (m % 10)).toNat : Int) := by rw [hx10]; omega
      obtain ⟨xd, hxd⟩ : ∃ xd, digB (m % 10) = xd := ⟨_, rfl⟩
      rw [hxd] at hr10 hd2
      obtain ⟨d, hd⟩ : ∃ d : Nat, xd.toNat = d := ⟨_, rfl⟩
      rw [hd] at hr10
      obtain ⟨a, rfl⟩ : ∃ b, a = b + 1 := ⟨a - 1, by omega⟩
      obtain ⟨ov, g1⟩ : ∃ ov, wr.cell? ⟨w.heap.size, a, none⟩ = some ov := ⟨_, by rw [HI.out.2.1.cell, List.getElem?_eq_getElem (by have := HI.out.2.2.1; omega)]⟩
      have g2 := HI.out.2.1.frozen a
      have b1 : (a : Int) < 20 := by omega
      have b2 : (0 : Int) ≤ a := by omega
      have b3 : a < 20 := by omega
      have b4 : (a : Int) ≤ 20 := by omega
      have hI2 := HI.out.1.cons HI.out.2.1 HI.out.2.2.1 (by omega) xd
      have e19 : 19 - l.length = a := by omega
      rw [e19, hd] at hI2
      have HI2 : Hid (Tail (wr.setCell ⟨w.heap.size, a, none⟩ (.int .u8 (d : Int))) w.heap.size (xd :: l) ∧ Blk (wr.setCell ⟨w.heap.size, a, none⟩ (.int .u8 (d : Int))) w.heap.size 133 (cs.set a (.int .u8 (d : Int))) ∧ (cs.set a (.int .u8 (d : Int))).length = 20 ∧ Below w.heap.size w (wr.setCell ⟨w.heap.size, a, none⟩ (.int .u8 (d : Int)))) := Lib.hid ⟨hI2, HI.out.2.1.set_ a _, by rw [List.length_set]; exact HI.out.2.2.1, HI.out.2.2.2.setCell (p := ⟨w.heap.size, a, none⟩) (Nat.le_refl _) _⟩
      have hbig : (48 : Int) + (m : Int) < 18446744073709551616 + 48 := by omega
      clear hI2 e19 hx10 hxd hd
      by_cases hq : m / 10 = 0
      · have hq2 : ((m : Int) / 10 == 0) = true := by simp; omega
        have hfin : decL N = xd :: l := by rw [HD.out, hd2, hq, restL_zero, List.nil_append, List.singleton_append]
        have HF := Lib.hid hfin
        have HQ := Lib.hid hq
        have A20 : Hid (a + (decL m).length + l.length = 19 + (decL m).length) := Lib.hid (by omega)
        have A1 : Hid ((decL m).length + l.length ≤ 19 ∧ 1 ≤ (decL m).length) := Lib.hid ⟨hd1, hd3⟩
        clear hd2 hfin hq hd1 hd3 hm10
        go_wp2_with (refine stop_store 5 rfl ?_)
        refine Stop.intro ?_
        clear hr10 hbig
        obtain ⟨a, rfl⟩ : ∃ b, a = b + 1 := ⟨a - 1, by have := A20.out; have := A1.out; omega⟩
        obtain ⟨ov2, g3⟩ : ∃ ov, (wr.setCell ⟨w.heap.size, a + 1, none⟩ (.int .u8 (d : Int))).cell? ⟨w.heap.size, a, none⟩ = some ov := ⟨_, by rw [HI2.out.2.1.cell, List.getElem?_eq_getElem (by have := HI2.out.2.2.1; omega)]⟩
        have g4 := HI2.out.2.1.frozen a
        have hI3 := HI2.out.1.cons HI2.out.2.1 HI2.out.2.2.1 (by simp; omega) 45
        have e19 : 19 - (xd :: l).length = a := by simp; omega
        rw [e19] at hI3
        have HI3 : Hid (Tail ((wr.setCell ⟨w.heap.size, a + 1, none⟩ (.int .u8 (d : Int))).setCell ⟨w.heap.size, a, none⟩ (.int .u8 45)) w.heap.size (45 :: xd :: l) ∧ Below w.heap.size w ((wr.setCell ⟨w.heap.size, a + 1, none⟩ (.int .u8 (d : Int))).setCell ⟨w.heap.size, a, none⟩ (.int .u8 45))) := Lib.hid ⟨hI3, HI2.out.2.2.2.setCell (p := ⟨w.heap.size, a, none⟩) (Nat.le_refl _) _⟩
        clear hI3 e19
        go_wp2_with (refine stop_slice 133 rfl ?_)
        refine Stop.intro ?_
        refine wpList_slice_array rfl 133 _ _ rfl w.heap.size a 20 rfl rfl (by kernel_rfl) (by kernel_rfl) (by omega) (by kernel_rfl) ?_
        refine wpList_convert_back rfl 109 9 5 _ rfl w.heap.size a _ _ (45 :: xd :: l) rfl (by simp; omega) Tryz.underlying109 Tryz.underlying5 Tryz.underlying9 (fun j hj => by have := HI3.out.1 j hj; rwa [show 20 - (45 :: xd :: l).length = a by simp; omega] at this) ?_
        go_wp2
        go_ret
        exact ⟨by rw [HW.out.1, HF.out]; rfl, HI3.out.2⟩
      · have hq2 : ((m : Int) / 10 == 0) = false := by simp; omega
        have hgo : decL N = decL (m / 10) ++ (xd :: l) := by rw [HD.out, hd2]; unfold restL; rw [if_neg hq]; simp
        have HG := Lib.hid hgo
        have hm2 : m / 10 < m := by omega
        have HQ := Lib.hid (And.intro hq hm2)
        have HM10 := Lib.hid hm10
        clear hd2 hgo hq hd1 hd3 hm2 hm10
        go_wp2
        go_roundw
        case rel => exact ⟨a, m / 10, xd :: l, _, by go_num, by rw [← HM10.out], by omega, by simp; omega, HG, HI2⟩
        case measure => have := HQ.out.2; simp [intOf]; omega
  · have hw := wrap_u64_pos hx h0
    obtain ⟨N, hN⟩ : ∃ N, x.toNat = N := ⟨_, rfl⟩
    have hT : textL x = decL N := by unfold textL; rw [if_neg h0, hN]
    have hlen : (decL N).length ≤ 20 := by have := textL_len hx; rw [hT] at this; exact this
    have hN6 : N < 18446744073709551616 := by obtain ⟨h1, h2⟩ := hx; omega
    rw [hN] at hw
    have HW := Lib.hid (And.intro hT (And.intro hlen hN6))
    clear hN hT hlen hx hN6
    go_enter Tryz.func52, Tryz.ntmps52
    go_wp2
    go_loopw [4, 5, 12, 13, 14, 15, 16, 17, 18, 19, 20, 21, 22, 23] (fun v4 v5 _ _ _ _ _ _ _ _ _ _ _ _ wr => ∃ (a m : Nat) (l : List UInt8) (cs : List Value), v4 = .int .i64 a ∧ v5 = .int .u64 m ∧ m < 18446744073709551616 ∧ a + l.length = 20 ∧ Hid (decL N = decL m ++ l) ∧ Hid (Tail wr w.heap.size l ∧ Blk wr w.heap.size 133 cs ∧ cs.length = 20 ∧ Below w.heap.size w wr)) (fun _ v5 _ _ _ _ _ _ _ _ _ _ _ _ _ => (intOf v5).toNat)
    case atStart => exact ⟨20, N, [], _, rfl, rfl, HW.out.2.2, rfl, Lib.hid (by simp), Lib.hid ⟨H0.out.2.2, H0.out.2.1, rfl, H0.out.1⟩⟩
    case round =>
      obtain ⟨a, m, l, cs, rfl, rfl, hm, ha, HD, HI⟩ := hrel
      have hd1 : (decL m).length + l.length ≤ 20 := by have := HW.out.2.1; rw [HD.out, List.length_append] at this; exact this
      have hd2 := decL_rest m
      have hx10 : ((digB (m % 10)).toNat : Int) = 48 + ((m % 10 : Nat) : Int) := digB_toNat (by omega)
      have hd3 : 1 ≤ (decL m).length := by rw [hd2]; simp
      have hm10 : ((m / 10 : Nat) : Int) = (m : Int) / 10 := by omega
      have hr10 : (48 : Int) + (m : Int) % 10 = ((digB (m % 10)).toNat : Int) := by rw [hx10]; omega
      obtain ⟨xd, hxd⟩ : ∃ xd, digB (m % 10) = xd := ⟨_, rfl⟩
      rw [hxd] at hr10 hd2
      obtain ⟨d, hd⟩ : ∃ d : Nat, xd.toNat = d := ⟨_, rfl⟩
      rw [hd] at hr10
      obtain ⟨a, rfl⟩ : ∃ b, a = b + 1 := ⟨a - 1, by omega⟩
      obtain ⟨ov, g1⟩ : ∃ ov, wr.cell? ⟨w.heap.size, a, none⟩ = some ov := ⟨_, by rw [HI.out.2.1.cell, List.getElem?_eq_getElem (by have := HI.out.2.2.1; omega)]⟩
      have g2 := HI.out.2.1.frozen a
      have b1 : (a : Int) < 20 := by omega
      have b2 : (0 : Int) ≤ a := by omega
      have b3 : a < 20 := by omega
      have b4 : (a : Int) ≤ 20 := by omega
      have hI2 := HI.out.1.cons HI.out.2.1 HI.out.2.2.1 (by omega) xd
      have e19 : 19 - l.length = a := by omega
      rw [e19, hd] at hI2
      have HI2 : Hid (Tail (wr.setCell ⟨w.heap.size, a, none⟩ (.int .u8 (d : Int))) w.heap.size (xd :: l) ∧ Blk (wr.setCell ⟨w.heap.size, a, none⟩ (.int .u8 (d : Int))) w.heap.size 133 (cs.set a (.int .u8 (d : Int))) ∧ (cs.set a (.int .u8 (d : Int))).length = 20 ∧ Below w.heap.size w (wr.setCell ⟨w.heap.size, a, none⟩ (.int .u8 (d : Int)))) := Lib.hid ⟨hI2, HI.out.2.1.set_ a _, by rw [List.length_set]; exact HI.out.2.2.1, HI.out.2.2.2.setCell (p := ⟨w.heap.size, a, none⟩) (Nat.le_refl _) _⟩
      have hbig : (48 : Int) + (m : Int) < 18446744073709551616 + 48 := by omega
      clear hI2 e19 hx10 hxd hd
      by_cases hq : m / 10 = 0
      · have hq2 : ((m : Int) / 10 == 0) = true := by simp; omega
        have hfin : decL N = xd :: l := by rw [HD.out, hd2, hq, restL_zero, List.nil_append, List.singleton_append]
        have HF := Lib.hid hfin
        have HQ := Lib.hid hq
        have A20 : Hid (a + (decL m).length + l.length = 19 + (decL m).length) := Lib.hid (by omega)
        have A1 : Hid ((decL m).length + l.length ≤ 20 ∧ 1 ≤ (decL m).length) := Lib.hid ⟨hd1, hd3⟩
        clear hd2 hfin hq hd1 hd3 hm10
        go_wp2_with (refine stop_store 5 rfl ?_)
        refine Stop.intro ?_
        clear hr10 hbig
        go_wp2_with (refine stop_slice 133 rfl ?_)
        refine Stop.intro ?_
        refine wpList_slice_array rfl 133 _ _ rfl w.heap.size a 20 rfl rfl (by kernel_rfl) (by kernel_rfl) (by omega) (by kernel_rfl) ?_
        refine wpList_convert_back rfl 109 9 5 _ rfl w.heap.size a _ _ (xd :: l) rfl (by simp; omega) Tryz.underlying109 Tryz.underlying5 Tryz.underlying9 (fun j hj => by have := HI2.out.1 j hj; rwa [show 20 - (xd :: l).length = a by simp; omega] at this) ?_
        go_wp2
        go_ret
        exact ⟨by rw [HW.out.1, HF.out]; rfl, HI2.out.2.2.2⟩
      · have hq2 : ((m : Int) / 10 == 0) = false := by simp; omega
        have hgo : decL N = decL (m / 10) ++ (xd :: l) := by rw [HD.out, hd2]; unfold restL; rw [if_neg hq]; simp
        have HG := Lib.hid hgo
        have hm2 : m / 10 < m := by omega
        have HQ := Lib.hid (And.intro hq hm2)
        have HM10 := Lib.hid hm10
        clear hd2 hgo hq hd1 hd3 hm2 hm10
        go_wp2
        go_roundw
        case rel => exact ⟨a, m / 10, xd :: l, _, by go_num, by rw [← HM10.out], by omega, by simp; omega, HG, HI2⟩
        case measure => have := HQ.out.2; simp [intOf]; omega
end Go.Proofs.YtmkpjiahkepigaaGreat
/- A strings.Builder of the call's own: written at its end, read once. -/
namespace Go.Proofs.YtmkpjiahkepigaaGreat
open Go Go.RowKit
/-- Block b is a builder that holds the bytes l; B: the first of the caller's own blocks. -/
abbrev Bld (B b : Nat) (l : List UInt8) (w : World) : Prop := Lib.IsBuilderF 111 5 B b (Lib.byteCells l) w
abbrev BldAt (B b : Nat) (p : Value) (l : List UInt8) (w : World) : Prop := Lib.BuilderAtF 111 5 B b p (Lib.byteCells l) w
theorem strCells_of (l : List UInt8) : Lib.strCells ⟨l.toArray⟩ = Lib.byteCells l := by simp [Lib.strCells, Lib.byteCells]
theorem Bld.new {B : Nat} (w : World) (h : B ≤ w.heap.size) : Bld B w.heap.size [] (w.alloc (.cells #[.pointer none, .slice none 0 0] 111)) :=
  .inl ⟨h, .slice none 0 0, heap_alloc_new w _, ⟨rfl, .inl ⟨rfl, rfl⟩⟩, by simp [Value.ownBlock]⟩
section
set_option maxHeartbeats 1000000
set_option maxRecDepth 100000
theorem check_used (b : Nat) (w : World) (h0 : w.cell? ⟨b, 0, none⟩ = some (.pointer (some ⟨b, 0, none⟩))) :
    Calls Tryz.prog 74 #[.pointer (some ⟨b, 0, none⟩)] w fun e w' => e = .returned (.tuple #[]) ∧ w' = w := by
  obtain ⟨j, hj, _⟩ := Option.map_eq_some_iff.1 (show (Tryz.prog.info? 111).map (·.size) = some 2 by kernel_rfl)
  go_enter Tryz.func74, Tryz.ntmps74
  go_wp2
  rw [Lib.run_neq_ptr_same w _ Tryz.underlying108 hj]
  go_wp2
  go_end0
  exact ⟨rfl, rfl⟩
theorem check_fresh (b : Nat) (w : World) (h0 : w.cell? ⟨b, 0, none⟩ = some (.pointer none)) (hsh : w.shape? b = some (111, 2)) (hfz : w.frozen? ⟨b, 0, none⟩ = false) :
    Calls Tryz.prog 74 #[.pointer (some ⟨b, 0, none⟩)] w fun e w' => e = .returned (.tuple #[]) ∧ w' = w.setCell ⟨b, 0, none⟩ (.pointer (some ⟨b, 0, none⟩)) := by
  obtain ⟨j, hj, hjs⟩ := Option.map_eq_some_iff.1 (show (Tryz.prog.info? 111).map (·.size) = some 2 by kernel_rfl)
  go_enter Tryz.func74, Tryz.ntmps74
  go_wp2
  rw [Lib.run_to_unsafe w ⟨b, 0, none⟩ Tryz.underlying108 Tryz.underlying156 hj (by rw [hjs]; decide) hsh (Nat.zero_lt_succ 1)]
  simp only [Result.andThen]
  rw [Oper.upon_value]
  go_wp2
  rw [run_callFunc_extern Tryz.func97 (by kernel_rfl) (by kernel_rfl) (by kernel_rfl) (e := Extern.AbiNoEscape.same) (by kernel_rfl)]
  rw [Lib.run_noEscape]
  simp only [Result.andThen]
  rw [Oper.upon_value]
  go_wp2
  rw [Lib.run_from_unsafe w ⟨b, 0, none⟩ Tryz.underlying156 Tryz.underlying108 hj hsh (by kernel_rfl)]
  simp only [Result.andThen]
  rw [Oper.upon_value]
  go_wp2
  go_end0
  exact ⟨rfl, rfl⟩
theorem check_bld (B b : Nat) (l : List UInt8) (w : World) (h : Bld B b l w) :
    Calls Tryz.prog 74 #[.pointer (some ⟨b, 0, none⟩)] w fun e w' => e = .returned (.tuple #[]) ∧ BldAt B b (.pointer (some ⟨b, 0, none⟩)) l w' ∧ Below B w w' ∧ Lib.OthersKept 5 (some b) w w' := by
  rcases h with h | h
  · refine (check_fresh b w h.cell0 h.shape h.frozen0).mono ?_
    rintro e w' ⟨rfl, rfl⟩
    exact ⟨rfl, h.used _, (Below.refl B w).setCell (p := ⟨b, 0, none⟩) h.1 _, (Lib.OthersKept.refl _ _ w).setCell ⟨b, 0, none⟩ rfl _⟩
  · refine (check_used b w h.cell0).mono ?_
    rintro e w' ⟨rfl, rfl⟩
    exact ⟨rfl, h, Below.refl B _, Lib.OthersKept.refl _ _ _⟩
theorem info_u8 : ∃ i, Tryz.prog.info? 5 = some i ∧ i.zero = some (.int .u8 0) ∧ i.size = 1 ∧ i.bytes = 1 := info_parts (by kernel_rfl)
theorem lt_blk {w : World} {b : Nat} {o : Obj} (h : w.heap[b]? = some o) : b < w.heap.size := (Array.getElem?_eq_some_iff.1 h).1
theorem writeString_calls (B b : Nat) (l s : List UInt8) (w : World) (h : Bld B b l w) (hlen : l.length + s.length ≤ 140737488355328) (hBw : B ≤ w.heap.size) :
    Calls Tryz.prog 51 #[.pointer (some ⟨b, 0, none⟩), .string ⟨s.toArray⟩] w fun e w' => e = .returned (.tuple #[.int .i64 s.length, .nilIface]) ∧ Bld B b (l ++ s) w' ∧ Below B w w' ∧ Lib.OthersKept 5 (some b) w w' := by
  obtain ⟨i0, hi, hz0, hz1, hz2⟩ := info_u8
  have hss : (⟨s.toArray⟩ : ByteArray).size = s.length := by show s.toArray.size = _; simp
  obtain ⟨S, hS⟩ : ∃ S : ByteArray, ⟨s.toArray⟩ = S := ⟨_, rfl⟩
  have hSc : Lib.strCells S = Lib.byteCells s := by rw [← hS, strCells_of]
  rw [hS] at hss ⊢
  have HC := Lib.hid (check_bld B b l w h)
  have HSS := Lib.hid (And.intro hss hSc)
  have hbl := Lib.byteCells_length l
  clear h hS hss hSc
  go_enter Tryz.func51, Tryz.ntmps51
  go_wp2_with fail
  refine HC.out.mono ?_
  rintro e w1 ⟨rfl, h1, hb1, hk1⟩
  obtain ⟨hB, v, hbk, hown, hne⟩ := h1
  have c0 : w1.cell? ⟨b, 0, none⟩ = some (.pointer (some ⟨b, 0, none⟩)) := by rw [Lib.cell_of_heap hbk]; rfl
  have c1 : w1.cell? ⟨b, 1, none⟩ = some v := by rw [Lib.cell_of_heap hbk]; rfl
  have hs1 := hb1.size
  go_wp2_with (refine stop_append rfl ?_)
  refine Stop.intro ?_
  refine Lib.wpList_append_own_stringF _ rfl _ _ 109 9 rfl B 5 i0 Tryz.underlying109 Tryz.underlying9 hi hz0 hz1 hz2 _ _ _ rfl hown S rfl (by rw [hbl, HSS.out.1]; unfold maxLen; omega) (by rw [hbl, HSS.out.1]; omega) (by omega) ?_
  intro v' w2 hown' hgrow _
  have hlt := lt_blk hbk
  have hb2 : w2.heap[b]? = some (.cells #[.pointer (some ⟨b, 0, none⟩), v] 111 (0, 0)) := by
    rw [hgrow.block b hlt (fun e => hne e.symm)]
    exact hbk
  have d0 : w2.cell? ⟨b, 0, none⟩ = some (.pointer (some ⟨b, 0, none⟩)) := by rw [Lib.cell_of_heap hb2]; rfl
  have d1 : w2.cell? ⟨b, 1, none⟩ = some v := by rw [Lib.cell_of_heap hb2]; rfl
  have f1 : w2.frozen? ⟨b, 1, none⟩ = false := Lib.frozen_of_heap hb2 1
  obtain ⟨ao, n', cap, rfl⟩ : ∃ ao n' cap, v' = .slice ao n' cap := by
    rcases hown'.2 with ⟨hv, _⟩ | ⟨g, cap, cur, fz, hv, _⟩
    · exact ⟨_, _, _, hv⟩
    · exact ⟨_, _, _, hv⟩
  have hF : Hid (Bld B b (l ++ s) (w2.setCell ⟨b, 1, none⟩ (.slice ao n' cap)) ∧ Below B w (w2.setCell ⟨b, 1, none⟩ (.slice ao n' cap)) ∧ Lib.OthersKept 5 (some b) w (w2.setCell ⟨b, 1, none⟩ (.slice ao n' cap))) := Lib.hid
    ⟨.inr (Lib.BuilderAtF.put (T := 111) (e := 5) hB hb2 (bs' := Lib.byteCells (l ++ s)) (by rw [Lib.byteCells_append, ← HSS.out.2]; simpa [Lib.strCells_length] using hown') (by decide)),
      (hb1.grown hgrow (by omega) (fun k hk => (hown.lt k hk).1)).setCell (p := ⟨b, 1, none⟩) hB _, (hk1.grown hgrow (Lib.ownsRowF_kind hown)).setCell ⟨b, 1, none⟩ rfl _⟩
  have hsz := HSS.out.1
  clear hown' hgrow hown hb1 hk1
  go_wp2
  go_ret2
  exact ⟨rfl, hF.out⟩
theorem writeByte_calls (B b : Nat) (l : List UInt8) (c : UInt8) (w : World) (h : Bld B b l w) (hlen : l.length + 1 ≤ 140737488355328) (hBw : B ≤ w.heap.size) :
    Calls Tryz.prog 53 #[.pointer (some ⟨b, 0, none⟩), .int .u8 (c.toNat : Int)] w fun e w' => e = .returned .nilIface ∧ Bld B b (l ++ [c]) w' ∧ Below B w w' := by
  obtain ⟨i0, hi, hz0, hz1, hz2⟩ := info_u8
  have HC := Lib.hid (check_bld B b l w h)
  have hbl := Lib.byteCells_length l
  obtain ⟨x, hx⟩ : ∃ x : Int, (c.toNat : Int) = x := ⟨_, rfl⟩
  have HX : Hid (Lib.byteCells [c] = [.int .u8 x]) := Lib.hid (by rw [← hx]; rfl)
  rw [hx]
  clear h hx
  go_enter Tryz.func53, Tryz.ntmps53
  go_wp2_with fail
  refine HC.out.mono ?_
  rintro e w1 ⟨rfl, h1, hb1, -⟩
  obtain ⟨hB, v, hbk, hown, hne⟩ := h1
  have c0 : w1.cell? ⟨b, 0, none⟩ = some (.pointer (some ⟨b, 0, none⟩)) := by rw [Lib.cell_of_heap hbk]; rfl
  have c1 : w1.cell? ⟨b, 1, none⟩ = some v := by rw [Lib.cell_of_heap hbk]; rfl
  have hs1 := hb1.size
  go_wp2_with (refine stop_append rfl ?_)
  refine Stop.intro ?_
  refine wpList_append_ownF _ rfl _ _ 109 rfl B 5 i0 (.int .u8 0) 1 1 Tryz.underlying109 hi hz0 hz1 hz2 rfl (by decide) _ _ _ rfl (hown.alloc _) ⟨w1.heap.size, 0, none⟩ 1 1 [.int .u8 x] rfl rfl ?c1 ?c2 ?c3 ?c4 ?c5 ?_
  case c1 =>
    intro j u hj
    match j, hj with
    | 0, hj => simp at hj; subst hj; simp [Addr.add]
  case c2 => intro u hu; simp at hu; subst hu; rfl
  case c3 => rw [hbl]; unfold maxLen; omega
  case c4 => rw [hbl]; omega
  case c5 => simp; omega
  intro v' w2 hown' hgrow _
  have hlt := lt_blk hbk
  have hb2 : w2.heap[b]? = some (.cells #[.pointer (some ⟨b, 0, none⟩), v] 111 (0, 0)) := by
    rw [hgrow.block b (by simp; omega) (fun e => hne e.symm), Lib.alloc_old w1 _ b hlt]
    exact hbk
  have d0 : w2.cell? ⟨b, 0, none⟩ = some (.pointer (some ⟨b, 0, none⟩)) := by rw [Lib.cell_of_heap hb2]; rfl
  have d1 : w2.cell? ⟨b, 1, none⟩ = some v := by rw [Lib.cell_of_heap hb2]; rfl
  have f1 : w2.frozen? ⟨b, 1, none⟩ = false := Lib.frozen_of_heap hb2 1
  obtain ⟨ao, n', cap, rfl⟩ : ∃ ao n' cap, v' = .slice ao n' cap := by
    rcases hown'.2 with ⟨hv, _⟩ | ⟨g, cap, cur, fz, hv, _⟩
    · exact ⟨_, _, _, hv⟩
    · exact ⟨_, _, _, hv⟩
  have hF : Hid (Bld B b (l ++ [c]) (w2.setCell ⟨b, 1, none⟩ (.slice ao n' cap)) ∧ Below B w (w2.setCell ⟨b, 1, none⟩ (.slice ao n' cap))) := Lib.hid
    ⟨.inr (Lib.BuilderAtF.put (T := 111) (e := 5) hB hb2 (bs' := Lib.byteCells (l ++ [c])) (by rw [Lib.byteCells_append, HX.out]; simpa using hown') (by decide)),
      ((hb1.alloc (by omega) _).grown hgrow (by simp; omega) (fun k hk => (hown.lt k hk).1)).setCell (p := ⟨b, 1, none⟩) hB _⟩
  clear hown' hgrow hown hb1
  go_wp2
  go_ret
  exact ⟨rfl, hF.out⟩
end
open Go.Shelf in
def bldRen : Go.Shelf.Ren := ⟨fun | 169 => 54 | n => n, fun | 70 => 108 | 9 => 9 | 0 => 0 | 72 => 111 | 37 => 109 | 127 => 135 | 3 => 3 | 5 => 5 | n => n, fun | n => n⟩
theorem bldLays : Go.Proofs.Lays.n169 Tryz.prog bldRen := {
  mixed := by kernel_rfl
  f169 := Tryz.func54.trans (congrArg some (by kernel_rfl))
  t0 := Tryz.underlying0
  a0 := Tryz.isAgg0
  z0 := Tryz.sizeOf0
  v0 := Tryz.zeroValue0
  t3 := Tryz.underlying3
  a3 := Tryz.isAgg3
  z3 := Tryz.sizeOf3
  v3 := Tryz.zeroValue3
  t9 := Tryz.underlying9
  a9 := Tryz.isAgg9
  z9 := Tryz.sizeOf9
  v9 := Tryz.zeroValue9
  t37 := Tryz.underlying109
  a37 := Tryz.isAgg109
  z37 := Tryz.sizeOf109
  v37 := Tryz.zeroValue109
  t70 := Tryz.underlying108
  a70 := Tryz.isAgg108
  z70 := Tryz.sizeOf108
  v70 := Tryz.zeroValue108
  t72 := Tryz.underlying111
  a72 := Tryz.isAgg111
  z72 := Tryz.sizeOf111
  v72 := Tryz.zeroValue111
  t127 := Tryz.underlying135
  a127 := Tryz.isAgg135
  z127 := Tryz.sizeOf135
  v127 := Tryz.zeroValue135 }
theorem bldExtra : Builder.Extra Tryz.prog bldRen := {
  sizeBuilder := by kernel_rfl
  liesBuilder := by kernel_rfl
  t5 := Tryz.underlying5
  a5 := Tryz.isAgg5
  z5 := Tryz.sizeOf5
  v5 := Tryz.zeroValue5
  infoByte := by kernel_rfl
  cellsByte := by kernel_rfl
  sizeByte := by kernel_rfl
  neB5 := by decide }
theorem string_calls (B b : Nat) (l : List UInt8) (w : World) (h : Bld B b l w) (hBw : B ≤ w.heap.size) :
    Calls Tryz.prog 54 #[.pointer (some ⟨b, 0, none⟩)] w fun e w' => e = .returned (.string ⟨l.toArray⟩) ∧ Below B w w' :=
  (Any.Builder_String_any_k bldLays bldExtra B b l w h hBw).mono fun _ _ h => ⟨h.1, h.2.2.1⟩
end Go.Proofs.YtmkpjiahkepigaaGreat
