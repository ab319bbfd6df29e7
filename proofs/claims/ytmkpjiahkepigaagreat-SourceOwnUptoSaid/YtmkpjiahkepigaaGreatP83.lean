import Derived.Test.YtmkpjiahkepigaaGreatP82
import Derived.Test.YtmkpjiahkepigaaGreatP72
import Derived.Test.YtmkpjiahkepigaaGreatP70
/- The text that tells situations apart. -/
namespace Go.Proofs.YtmkpjiahkepigaaGreat
open Go
def putL (x : Int) : List UInt8 := textL x ++ [44]
def thrL (p : Int × List Int) : List UInt8 := putL p.1 ++ p.2.flatMap putL ++ [124]
def prnL (p : Int × Int) : List UInt8 := textL p.1 ++ [58] ++ putL p.2
def Mach.thr (m : Mach) : List (Int × List Int) := (m.at_.map fun n : Nat => (n : Int)).zip m.slots
def keyL (m : Mach) : List UInt8 := m.thr.flatMap thrL ++ m.mem.flatMap putL ++ [124] ++ m.holders.flatMap putL ++ [124] ++ m.prints.flatMap prnL
theorem flat_succ {α : Type} {l : List α} {k : Nat} {x : α} (f : α → List UInt8) (h : l[k]? = some x) : (l.take (k + 1)).flatMap f = (l.take k).flatMap f ++ f x := by
  have hl := (List.getElem?_eq_some_iff.1 h).1
  have hx := (List.getElem?_eq_some_iff.1 h).2
  rw [List.take_succ_eq_append_getElem hl, List.flatMap_append, hx]
  simp
theorem flat_len {α : Type} (f : α → List UInt8) (c : Nat) : ∀ l : List α, (∀ x ∈ l, (f x).length ≤ c) → (l.flatMap f).length ≤ c * l.length
  | [], _ => by simp
  | a :: l, h => by
    have h1 := h a (by simp)
    have h2 := flat_len f c l fun x hx => h x (by simp [hx])
    rw [List.flatMap_cons, List.length_append, List.length_cons, Nat.mul_succ]
    omega
/-- All that is written are words. -/
structure KeyI (m : Mach) : Prop where
  at_ : ∀ n ∈ m.at_, n < 9223372036854775808
  mi : MachI m
  hold : ∀ x ∈ m.holders, i64 x
  pr : ∀ p ∈ m.prints, i64 p.1 ∧ i64 p.2
theorem putL_len {x : Int} (h : i64 x) : (putL x).length ≤ 21 := by
  have := textL_len h
  unfold putL
  rw [List.length_append]
  simp; omega
theorem putsL_len {l : List Int} (h : ∀ x ∈ l, i64 x) : (l.flatMap putL).length ≤ 21 * l.length := flat_len putL 21 l fun x hx => putL_len (h x hx)
theorem prnL_len {p : Int × Int} (h : i64 p.1 ∧ i64 p.2) : (prnL p).length ≤ 42 := by
  have h1 := textL_len h.1
  have h2 := putL_len h.2
  unfold prnL
  simp only [List.length_append, List.length_cons, List.length_nil]
  omega
theorem thrL_len {p : Int × List Int} (h1 : i64 p.1) (h2 : ∀ x ∈ p.2, i64 x) {n : Nat} (h3 : p.2.length ≤ n) : (thrL p).length ≤ 22 + 21 * n := by
  have k1 := putL_len h1
  have k2 := putsL_len h2
  unfold thrL
  simp only [List.length_append, List.length_cons, List.length_nil]
  have : 21 * p.2.length ≤ 21 * n := Nat.mul_le_mul_left _ h3
  omega
theorem KeyI.thr {m : Mach} (h : KeyI m) {p : Int × List Int} (hp : p ∈ m.thr) : i64 p.1 ∧ (∀ x ∈ p.2, i64 x) ∧ p.2 ∈ m.slots := by
  obtain ⟨a, l⟩ := p
  obtain ⟨h1, h2⟩ := List.of_mem_zip hp
  obtain ⟨n, hn, rfl⟩ := List.mem_map.1 h1
  have := h.at_ n hn
  exact ⟨⟨by show _ ≤ ((n : Nat) : Int); omega, by show ((n : Nat) : Int) ≤ _; omega⟩, h.mi.slot l h2, h2⟩
end Go.Proofs.YtmkpjiahkepigaaGreat
/- The walk of (*source.Machine).Key: what it hands out is keyL. -/
namespace Go.Proofs.YtmkpjiahkepigaaGreat
open Go Go.RowKit
theorem kept_of_below {e : TypeId} {b : Option Nat} {w w' : World} (h : Below w.heap.size w w') : Lib.OthersKept e b w w' := fun k _ hk _ _ => (h.block k (lt_blk hk)).trans hk
theorem Bld.below {B b : Nat} {l : List UInt8} {w w' : World} (h : Bld B b l w) (hb : Below w.heap.size w w') : Bld B b l w' := by
  have key : ∀ p, BldAt B b p l w → BldAt B b p l w' := fun p ⟨h1, v, h2, h3, h4⟩ =>
    ⟨h1, v, (hb.block b (lt_blk h2)).trans h2, h3.kept (row := none) ⟨hb.os, hb.tape, hb.output, hb.size, fun k hk _ => hb.block k hk⟩ (by cases hv : v.ownBlock with | none => exact .inl rfl | some x => exact .inr (by simp)), h4⟩
  rcases h with h | h
  · exact .inl (key _ h)
  · exact .inr (key _ h)
set_option maxHeartbeats 1000000 in
set_option maxRecDepth 100000 in
theorem put_calls (B b : Nat) (l e : List UInt8) (x : Int) (hx : i64 x) (w : World) (h : Bld B b l w) (hlen : l.length + 20 + e.length ≤ 140737488355328) (hBw : B ≤ w.heap.size) :
    Calls Tryz.prog 50 #[.int .i64 x, .string ⟨e.toArray⟩, .pointer (some ⟨b, 0, none⟩)] w fun e' w' => e' = .returned (.tuple #[]) ∧ Bld B b (l ++ (textL x ++ e)) w' ∧ Below B w w' ∧ Lib.OthersKept 5 (some b) w w' := by
  have HP := Lib.hid (print_calls x hx w)
  have ht := textL_len hx
  obtain ⟨T, hT⟩ : ∃ T, textL x = T := ⟨_, rfl⟩
  rw [hT] at HP ht ⊢
  have HH := Lib.hid h
  obtain ⟨E, hE⟩ : ∃ E : ByteArray, ⟨e.toArray⟩ = E := ⟨_, rfl⟩
  obtain ⟨TT, hTT⟩ : ∃ TT : ByteArray, ⟨T.toArray⟩ = TT := ⟨_, rfl⟩
  have HE : Hid (TT ++ E = ⟨(T ++ e).toArray⟩) := Lib.hid (by rw [← hE, ← hTT]; apply ByteArray.ext; simp [ByteArray.data_append])
  have hsz : ¬ (9223372036854775807 < TT.size + E.size) := by
    have q1 : TT.size = T.length := by rw [← hTT]; show T.toArray.size = _; simp
    have q2 : E.size = e.length := by rw [← hE]; show e.toArray.size = _; simp
    omega
  rw [hE]
  rw [hTT] at HP
  clear hx hT h hE hTT
  go_enter Tryz.func50, Tryz.ntmps50
  go_wp2_with fail
  refine HP.out.mono ?_
  rintro e' w1 ⟨rfl, hb1⟩
  have hs1 := hb1.size
  have HW := Lib.hid (writeString_calls B b l (T ++ e) w1 (HH.out.below hb1) (by rw [List.length_append]; omega) (by omega))
  have HB1 := Lib.hid (And.intro (hb1.mono hBw) (kept_of_below (e := 5) (b := some b) hb1))
  clear hb1
  go_wp2_with fail
  rw [HE.out]
  refine HW.out.mono ?_
  rintro e' w2 ⟨rfl, hb2, hB2, hk2⟩
  have HF := Lib.hid (And.intro hb2 (And.intro (HB1.out.1.trans hB2) (HB1.out.2.trans hk2)))
  clear hb2 hB2 hk2
  go_wp2
  go_end0
  exact ⟨rfl, HF.out⟩
/-- What Key reads of a machine. -/
structure KeyD (w : World) (g : Nat) (av ov mv hv pv : Value) (m : Mach) : Prop where
  c3 : w.cell? ⟨g, 3, none⟩ = some av
  c4 : w.cell? ⟨g, 4, none⟩ = some ov
  c5 : w.cell? ⟨g, 5, none⟩ = some mv
  c6 : w.cell? ⟨g, 6, none⟩ = some hv
  c7 : w.cell? ⟨g, 7, none⟩ = some pv
  at_ : Ints (cmap w) av (m.at_.map fun n : Nat => (n : Int))
  slots : Ints2 (cmap w) ov m.slots
  mem : Ints (cmap w) mv m.mem
  hold : Ints (cmap w) hv m.holders
  prints : PrintsV (cmap w) pv m.prints
theorem KeyD.below {w w' : World} {g : Nat} {av ov mv hv pv : Value} {m : Mach} (h : KeyD w g av ov mv hv pv m) (hb : Below w.heap.size w w') : KeyD w' g av ov mv hv pv m :=
  have k := cmap_below hb
  ⟨k _ _ _ h.c3, k _ _ _ h.c4, k _ _ _ h.c5, k _ _ _ h.c6, k _ _ _ h.c7, h.at_.mono k, h.slots.mono k, h.mem.mono k, h.hold.mono k, h.prints.mono k⟩
section
variable {w w' : World} {R : Nat → Prop} {g : Nat} {L : Lay} {u : Unit_} {m : Mach}
theorem own_ints {b n : Nat} {t : TypeId} {v : Value} {l : List Int} (h : w.ownsRow b t 1 v n (l.map (Value.int .i64))) : Ints (cmap w) v l := by
  have hl : n = l.length := by have := h.1; simpa using this.symm
  rw [flat1] at h
  exact own_sl row_int h hl
theorem MachB.keyD (h : MachB w R g L u m) (hs : ∀ l ∈ m.slots, l.length ≤ maxLen) : KeyD w g L.av L.ov L.mv L.hv L.pv m := by
  refine ⟨h.cell 3, h.cell 4, h.cell 5, h.cell 6, h.cell 7, own_ints (n := m.at_.length) (t := 3) (b := 0) ?_, ?_, h.memSl, own_ints h.hold, h.printSl⟩
  · rw [List.map_map]; exact h.at_
  · have ho := h.outer
    have hn : (L.gl.zip (m.slots.map List.length)).length = m.slots.length := by simp [h.gl]
    obtain ⟨A, c, hv, h1, h2, h3⟩ := ho
    rw [hn] at hv h1
    refine ⟨A, c, hv, h1, h2, ?_⟩
    rcases h3 with h3 | ⟨b, o, e, h3⟩
    · left
      rw [h3] at hn
      exact List.eq_nil_of_length_eq_zero hn.symm
    · right
      refine ⟨b, o, e, fun i x hx => ?_⟩
      have hi := (List.getElem?_eq_some_iff.1 hx).1
      obtain ⟨k, hk⟩ : ∃ k, L.gl[i]? = some k := ⟨_, List.getElem?_eq_getElem (by rw [h.gl]; exact hi)⟩
      have hz : (L.gl.zip (m.slots.map List.length))[i]? = some (k, x.length) := by
        rw [List.getElem?_zip_eq_some]
        exact ⟨hk, by rw [List.getElem?_map, hx]; rfl⟩
      have := on_le _ _ _ _ _ (h3 i _ hz)
      exact ⟨_, this, h.slotSl hk hx (hs x (List.mem_of_getElem? hx))⟩
end
theorem Bld.grow {B b : Nat} {l l' : List UInt8} {w : World} (h : Bld B b l w) (e : l = l') : Bld B b l' w := e ▸ h
set_option maxHeartbeats 4000000 in
set_option maxRecDepth 100000 in
theorem key_of {w : World} {g : Nat} {av ov mv hv pv : Value} {m : Mach} (h : KeyD w g av ov mv hv pv m) (hi : KeyI m) (hts : m.slots.length = m.at_.length) (ht : m.at_.length ≤ 8) (hsl : ∀ l ∈ m.slots, l.length ≤ 4160) (hm : m.mem.length ≤ 64) (hh : m.holders.length ≤ 16) (hp : m.prints.length ≤ 4294967296) :
    Calls Tryz.prog 27 #[.pointer (some ⟨g, 0, none⟩)] w fun e w' => e = .returned (.string ⟨(keyL m).toArray⟩) ∧ Below w.heap.size w w' := by
  obtain ⟨AI, hAI⟩ : ∃ AI, (m.at_.map fun n : Nat => (n : Int)) = AI := ⟨_, rfl⟩
  have hal : AI.length = m.at_.length := by rw [← hAI]; simp
  have hthr : m.thr = AI.zip m.slots := by unfold Mach.thr; rw [hAI]
  have HTHR := Lib.hid (fun p hp => hi.thr (p := p) hp)
  have hd := h
  have hat := h.at_
  rw [hAI] at hat
  obtain ⟨aA, ac, rfl, -⟩ := id hat
  obtain ⟨oA, oc, rfl, -⟩ := id h.slots
  obtain ⟨mA, mc, rfl, -⟩ := id h.mem
  obtain ⟨hA, hc, rfl, -⟩ := id h.hold
  obtain ⟨pA, pc, rfl, -⟩ := id h.prints
  rw [hal] at hat h hd
  have hz : ∀ (k : Nat) (x : Int) (l : List Int), AI[k]? = some x → m.slots[k]? = some l → m.thr[k]? = some (x, l) := fun k x l h1 h2 => by rw [hthr, List.getElem?_zip_eq_some]; exact ⟨h1, h2⟩
  have hzl : m.thr.length = m.at_.length := by rw [hthr, List.length_zip]; omega
  have hLt : ∀ k ≤ m.at_.length, ((m.thr.take k).flatMap thrL).length ≤ 1000000 := fun k hk => by
    refine Nat.le_trans (flat_len thrL (22 + 21 * 4160) _ fun x hx => ?_) ?_
    · obtain ⟨q1, q2, q3⟩ := HTHR.out x (List.mem_of_mem_take hx)
      exact thrL_len q1 q2 (hsl _ q3)
    · have : (m.thr.take k).length ≤ 8 := by rw [List.length_take]; omega
      exact Nat.le_trans (Nat.mul_le_mul_left _ this) (by decide)
  have hLs : ∀ (l : List Int) (k : Nat), l ∈ m.slots → ((l.take k).flatMap putL).length ≤ 100000 := fun l k hl => by
    refine Nat.le_trans (putsL_len fun x hx => hi.mi.slot l hl x (List.mem_of_mem_take hx)) ?_
    have := hsl l hl
    rw [List.length_take]; omega
  have hLm : ∀ k, ((m.mem.take k).flatMap putL).length ≤ 100000 := fun k => by
    refine Nat.le_trans (putsL_len fun x hx => hi.mi.mem x (List.mem_of_mem_take hx)) ?_
    rw [List.length_take]; omega
  have hLh : ∀ k, ((m.holders.take k).flatMap putL).length ≤ 100000 := fun k => by
    refine Nat.le_trans (putsL_len fun x hx => hi.hold x (List.mem_of_mem_take hx)) ?_
    rw [List.length_take]; omega
  have hLp : ∀ k, ((m.prints.take k).flatMap prnL).length ≤ 42 * 4294967296 := fun k => by
    refine Nat.le_trans (flat_len prnL 42 _ fun x hx => prnL_len (hi.pr x (List.mem_of_mem_take hx))) ?_
    refine Nat.mul_le_mul_left _ ?_
    rw [List.length_take]; omega
  have HZ := Lib.hid (And.intro hz hzl)
  have HL := Lib.hid (And.intro hLt (And.intro hLs (And.intro hLm (And.intro hLh hLp))))
  have HD := Lib.hid hd
  have HA := Lib.hid hat
  have HI := Lib.hid hi
  have HN := Lib.hid (And.intro hts (And.intro ht hsl))
  have g3 := cmap_alloc w (.cells #[.pointer none, .slice none 0 0] 111) _ _ _ h.c3
  simp only [cmap] at g3
  have b0 : Hid (Bld w.heap.size w.heap.size [] (w.alloc (.cells #[.pointer none, .slice none 0 0] 111)) ∧ Below w.heap.size w (w.alloc (.cells #[.pointer none, .slice none 0 0] 111))) := Lib.hid ⟨Bld.new w (Nat.le_refl _), Below_alloc' w _⟩
  clear h hd hat hAI hal hthr hz hzl hLt hLs hLm hLh hLp hi hts hsl
  go_enter Tryz.func27, Tryz.ntmps27
  go_wp2
  go_loopw [23, 5, 6, 8] (fun v23 _ _ _ wr => ∃ k : Nat, v23 = .int .i64 k ∧ k ≤ m.at_.length ∧ Hid (Bld w.heap.size w.heap.size ((m.thr.take k).flatMap thrL) wr ∧ Below w.heap.size w wr)) (fun v23 _ _ _ _ => m.at_.length - (intOf v23).toNat)
  case atStart => exact ⟨0, rfl, by omega, b0⟩
  case round =>
    obtain ⟨k, rfl, hk, HB⟩ := hrel
    by_cases hlt : k < m.at_.length
    · have k0 : (0 : Int) ≤ k := by omega
      have k1 : (k : Int) < m.at_.length := by omega
      have k2 : (k : Int) < m.slots.length := by rw [HN.out.1]; exact k1
      obtain ⟨x, hx⟩ : ∃ x, AI[k]? = some x := by
        obtain ⟨A', c', he, -⟩ := id HA.out
        injection he with _ he _
        exact ⟨_, List.getElem?_eq_getElem (by omega)⟩
      obtain ⟨l, hl⟩ : ∃ l, m.slots[k]? = some l := ⟨_, List.getElem?_eq_getElem (by rw [HN.out.1]; exact hlt)⟩
      have hth := HZ.out.1 k x l hx hl
      have hmem := List.mem_of_getElem? hl
      obtain ⟨hx64, hl64, -⟩ := HTHR.out _ (List.mem_of_getElem? hth)
      have hDr := HD.out.below HB.out.2
      obtain ⟨ab, ao, rfl, hac⟩ := (HA.out.mono (cmap_below HB.out.2)).at_ hx
      rw [Nat.mul_one] at hac
      have a1 : wr.cell? ⟨ab, ao + k, none⟩ = some (.int .i64 x) := hac
      have HPUT := Lib.hid (put_calls w.heap.size w.heap.size ((m.thr.take k).flatMap thrL) [44] x hx64 wr HB.out.1 (by have := HL.out.1 k hk; simp only [List.length_cons, List.length_nil]; omega) HB.out.2.size)
      obtain ⟨ob, oo, rfl, lv, hlc, hlv⟩ := HD.out.slots.at_ hl
      obtain ⟨lA, lc, rfl, -⟩ := id hlv
      rw [Nat.mul_one] at hlc
      have hll : l.length ≤ 4160 := HN.out.2.2 l hmem
      have HLV := Lib.hid (And.intro hlv (And.intro hlc (And.intro hl64 (And.intro hmem hth))))
      have g3r := hDr.c3
      clear hx hl hth hx64 hl64 hac hlc hlv hDr hmem
      go_wp2_with fail
      refine HPUT.out.mono ?_
      rintro e w1 ⟨rfl, hbl, hbe, -⟩
      have HB1 : Hid (Bld w.heap.size w.heap.size ((m.thr.take k).flatMap thrL ++ putL x) w1 ∧ Below w.heap.size w w1) := Lib.hid ⟨hbl, HB.out.2.trans hbe⟩
      have g4r := (HD.out.below HB1.out.2).c4
      have o1 : w1.cell? ⟨ob, oo + k, none⟩ = some (.slice lA l.length lc) := cmap_below HB1.out.2 _ _ _ HLV.out.2.1
      clear hbl hbe a1 g3r
      obtain ⟨wo, rfl⟩ : ∃ wo : World, wo = wr := ⟨_, rfl⟩
      go_wp2
      go_loopw [39, 8] (fun v39 _ wr => ∃ j : Nat, v39 = .int .i64 j ∧ j ≤ l.length ∧ Hid (Bld w.heap.size w.heap.size ((m.thr.take k).flatMap thrL ++ putL x ++ (l.take j).flatMap putL) wr ∧ Below w.heap.size w wr)) (fun v39 _ _ => l.length - (intOf v39).toNat)
      case atStart => exact ⟨0, rfl, by omega, Lib.hid ⟨HB1.out.1.grow (by simp), HB1.out.2⟩⟩
      case round =>
        clear o1 g4r
        obtain ⟨j, rfl, hj, HC⟩ := hrel
        by_cases hjl : j < l.length
        · have j0 : (0 : Int) ≤ j := by omega
          have j1 : (j : Int) < l.length := by omega
          obtain ⟨y, hy⟩ : ∃ y, l[j]? = some y := ⟨_, List.getElem?_eq_getElem hjl⟩
          have hy64 := HLV.out.2.2.1 y (List.mem_of_getElem? hy)
          obtain ⟨yb, yo, rfl, hyc⟩ := (HLV.out.1.mono (cmap_below HC.out.2)).at_ hy
          rw [Nat.mul_one] at hyc
          have y1 : wr.cell? ⟨yb, yo + j, none⟩ = some (.int .i64 y) := hyc
          have HPT := Lib.hid (put_calls w.heap.size w.heap.size _ [44] y hy64 wr HC.out.1 (by
            have q1 := HL.out.1 k hk
            have q2 := HL.out.2.1 l j HLV.out.2.2.2.1
            simp only [List.length_append, List.length_cons, List.length_nil]
            have q3 := putL_len (HTHR.out _ (List.mem_of_getElem? HLV.out.2.2.2.2)).1
            simp only at q3
            omega) HC.out.2.size)
          have HY := Lib.hid hy
          clear hy hy64 hyc
          go_wp2_with fail
          refine HPT.out.mono ?_
          rintro e w2 ⟨rfl, hbl, hbe, -⟩
          have HC2 : Hid (Bld w.heap.size w.heap.size ((m.thr.take k).flatMap thrL ++ putL x ++ (l.take (j + 1)).flatMap putL) w2 ∧ Below w.heap.size w w2) := Lib.hid ⟨hbl.grow (by rw [flat_succ putL HY.out]; unfold putL; simp only [List.append_assoc]), HC.out.2.trans hbe⟩
          clear hbl hbe
          go_wp2
          go_roundw
          case rel => exact ⟨j + 1, by go_num, by omega, HC2⟩
          case measure => simp [intOf]; omega
        · obtain rfl : j = l.length := by omega
          have nj : ¬ ((l.length : Int) < l.length) := by omega
          have HWB := Lib.hid (writeByte_calls w.heap.size w.heap.size _ 124 wr HC.out.1 (by
            have q1 := HL.out.1 k hk
            have q2 := HL.out.2.1 l l.length HLV.out.2.2.2.1
            simp only [List.length_append]
            have q3 := putL_len (HTHR.out _ (List.mem_of_getElem? HLV.out.2.2.2.2)).1
            simp only at q3
            omega) HC.out.2.size)
          clear hj hjl
          go_wp2_with fail
          refine HWB.out.mono ?_
          rintro e w2 ⟨rfl, hbl, hbe⟩
          have HC2 : Hid (Bld w.heap.size w.heap.size ((m.thr.take (k + 1)).flatMap thrL) w2 ∧ Below w.heap.size w w2) := Lib.hid ⟨hbl.grow (by rw [flat_succ thrL HLV.out.2.2.2.2]; unfold thrL; simp only [List.append_assoc, List.take_length]), HC.out.2.trans hbe⟩
          clear hbl hbe
          go_wp2
          go_roundw
          case rel => exact ⟨k + 1, by go_num, by omega, HC2⟩
          case measure => simp [intOf]; omega
    · obtain rfl : k = m.at_.length := by omega
      have nk : ¬ ((m.at_.length : Int) < m.at_.length) := by omega
      have hB2 : Bld w.heap.size w.heap.size (m.thr.flatMap thrL) wr := HB.out.1.grow (by rw [List.take_of_length_le (by rw [HZ.out.2]; exact Nat.le_refl _)])
      have hT : (m.thr.flatMap thrL).length ≤ 1000000 := by
        have := HL.out.1 m.at_.length (Nat.le_refl _)
        rwa [List.take_of_length_le (by rw [HZ.out.2]; exact Nat.le_refl _)] at this
      obtain ⟨T1, hT1⟩ : ∃ T1, m.thr.flatMap thrL = T1 := ⟨_, rfl⟩
      rw [hT1] at hB2 hT
      have HC := Lib.hid (And.intro hB2 HB.out.2)
      have HT1 := Lib.hid hT1
      have g5 := (HD.out.below HC.out.2).c5
      clear hk hlt HB hB2 hT1
      go_wp2
      obtain ⟨wo, rfl⟩ : ∃ wo : World, wo = wr := ⟨_, rfl⟩
      go_loopw [54, 10] (fun v54 _ wr => ∃ j : Nat, v54 = .int .i64 j ∧ j ≤ m.mem.length ∧ Hid (Bld w.heap.size w.heap.size (T1 ++ (m.mem.take j).flatMap putL) wr ∧ Below w.heap.size w wr)) (fun v54 _ _ => m.mem.length - (intOf v54).toNat)
      case atStart => exact ⟨0, rfl, by omega, Lib.hid ⟨HC.out.1.grow (by simp), HC.out.2⟩⟩
      case round =>
        clear g5 HC
        obtain ⟨j, rfl, hj, HC⟩ := hrel
        by_cases hjl : j < m.mem.length
        · have j0 : (0 : Int) ≤ j := by omega
          have j1 : (j : Int) < m.mem.length := by omega
          obtain ⟨y, hy⟩ : ∃ y, m.mem[j]? = some y := ⟨_, List.getElem?_eq_getElem hjl⟩
          have hy64 := HI.out.mi.mem y (List.mem_of_getElem? hy)
          obtain ⟨yb, yo, rfl, hyc⟩ := (HD.out.below HC.out.2).mem.at_ hy
          rw [Nat.mul_one] at hyc
          have y1 : wr.cell? ⟨yb, yo + j, none⟩ = some (.int .i64 y) := hyc
          have HPT := Lib.hid (put_calls w.heap.size w.heap.size _ [44] y hy64 wr HC.out.1 (by
            have q2 := HL.out.2.2.1 j
            simp only [List.length_append, List.length_cons, List.length_nil]
            omega) HC.out.2.size)
          have HY := Lib.hid hy
          clear hy hy64 hyc
          go_wp2_with fail
          refine HPT.out.mono ?_
          rintro e w2 ⟨rfl, hbl, hbe, -⟩
          have HC2 : Hid (Bld w.heap.size w.heap.size (T1 ++ (m.mem.take (j + 1)).flatMap putL) w2 ∧ Below w.heap.size w w2) := Lib.hid ⟨hbl.grow (by rw [flat_succ putL HY.out]; unfold putL; simp only [List.append_assoc]), HC.out.2.trans hbe⟩
          clear hbl hbe
          go_wp2
          go_roundw
          case rel => exact ⟨j + 1, by go_num, by omega, HC2⟩
          case measure => simp [intOf]; omega
        · obtain rfl : j = m.mem.length := by omega
          have nj : ¬ ((m.mem.length : Int) < m.mem.length) := by omega
          have hq := HL.out.2.2.1 m.mem.length
          have hB2 := HC.out.1
          rw [List.take_length] at hB2 hq
          have HWB := Lib.hid (writeByte_calls w.heap.size w.heap.size _ 124 wr hB2 (by
            simp only [List.length_append]
            omega) HC.out.2.size)
          clear hj hjl hB2
          go_wp2_with fail
          refine HWB.out.mono ?_
          rintro e w2 ⟨rfl, hbl, hbe⟩
          obtain ⟨T2, hT2⟩ : ∃ T2, T1 ++ m.mem.flatMap putL ++ [124] = T2 := ⟨_, rfl⟩
          have hL2 : T2.length ≤ 1200000 := by rw [← hT2]; simp only [List.length_append, List.length_cons, List.length_nil]; omega
          rw [hT2] at hbl
          have HC2 := Lib.hid (And.intro hbl (HC.out.2.trans hbe))
          have HT2 := Lib.hid hT2
          have g6 := (HD.out.below HC2.out.2).c6
          clear hbl hbe hT2 hq HC
          go_wp2
          obtain ⟨wo, rfl⟩ : ∃ wo : World, wo = wr := ⟨_, rfl⟩
          go_loopw [68, 12] (fun v68 _ wr => ∃ j : Nat, v68 = .int .i64 j ∧ j ≤ m.holders.length ∧ Hid (Bld w.heap.size w.heap.size (T2 ++ (m.holders.take j).flatMap putL) wr ∧ Below w.heap.size w wr)) (fun v68 _ _ => m.holders.length - (intOf v68).toNat)
          case atStart => exact ⟨0, rfl, by omega, Lib.hid ⟨HC2.out.1.grow (by simp), HC2.out.2⟩⟩
          case round =>
            clear g6 HC2
            obtain ⟨j, rfl, hj, HC⟩ := hrel
            by_cases hjl : j < m.holders.length
            · have j0 : (0 : Int) ≤ j := by omega
              have j1 : (j : Int) < m.holders.length := by omega
              obtain ⟨y, hy⟩ : ∃ y, m.holders[j]? = some y := ⟨_, List.getElem?_eq_getElem hjl⟩
              have hy64 := HI.out.hold y (List.mem_of_getElem? hy)
              obtain ⟨yb, yo, rfl, hyc⟩ := (HD.out.below HC.out.2).hold.at_ hy
              rw [Nat.mul_one] at hyc
              have y1 : wr.cell? ⟨yb, yo + j, none⟩ = some (.int .i64 y) := hyc
              have HPT := Lib.hid (put_calls w.heap.size w.heap.size _ [44] y hy64 wr HC.out.1 (by
                have q2 := HL.out.2.2.2.1 j
                simp only [List.length_append, List.length_cons, List.length_nil]
                omega) HC.out.2.size)
              have HY := Lib.hid hy
              clear hy hy64 hyc
              go_wp2_with fail
              refine HPT.out.mono ?_
              rintro e w2 ⟨rfl, hbl, hbe, -⟩
              have HC2 : Hid (Bld w.heap.size w.heap.size (T2 ++ (m.holders.take (j + 1)).flatMap putL) w2 ∧ Below w.heap.size w w2) := Lib.hid ⟨hbl.grow (by rw [flat_succ putL HY.out]; unfold putL; simp only [List.append_assoc]), HC.out.2.trans hbe⟩
              clear hbl hbe
              go_wp2
              go_roundw
              case rel => exact ⟨j + 1, by go_num, by omega, HC2⟩
              case measure => simp [intOf]; omega
            · obtain rfl : j = m.holders.length := by omega
              have nj : ¬ ((m.holders.length : Int) < m.holders.length) := by omega
              have hq := HL.out.2.2.2.1 m.holders.length
              have hB2 := HC.out.1
              rw [List.take_length] at hB2 hq
              have HWB := Lib.hid (writeByte_calls w.heap.size w.heap.size _ 124 wr hB2 (by
                simp only [List.length_append]
                omega) HC.out.2.size)
              clear hj hjl hB2
              go_wp2_with fail
              refine HWB.out.mono ?_
              rintro e w2 ⟨rfl, hbl, hbe⟩
              obtain ⟨T3, hT3⟩ : ∃ T3, T2 ++ m.holders.flatMap putL ++ [124] = T3 := ⟨_, rfl⟩
              have hL3 : T3.length ≤ 1400000 := by rw [← hT3]; simp only [List.length_append, List.length_cons, List.length_nil]; omega
              rw [hT3] at hbl
              have HC2 := Lib.hid (And.intro hbl (HC.out.2.trans hbe))
              have HT3 := Lib.hid hT3
              have g7 := (HD.out.below HC2.out.2).c7
              clear hbl hbe hT3 hq HC
              go_wp2
              obtain ⟨wo, rfl⟩ : ∃ wo : World, wo = wr := ⟨_, rfl⟩
              go_loopw [82, 14] (fun v82 _ wr => ∃ j : Nat, v82 = .int .i64 j ∧ j ≤ m.prints.length ∧ Hid (Bld w.heap.size w.heap.size (T3 ++ (m.prints.take j).flatMap prnL) wr ∧ Below w.heap.size w wr)) (fun v82 _ _ => m.prints.length - (intOf v82).toNat)
              case atStart => exact ⟨0, rfl, by omega, Lib.hid ⟨HC2.out.1.grow (by simp), HC2.out.2⟩⟩
              case round =>
                clear g7 HC2
                obtain ⟨j, rfl, hj, HC⟩ := hrel
                by_cases hjl : j < m.prints.length
                · have j0 : (0 : Int) ≤ j := by omega
                  have j1 : (j : Int) < m.prints.length := by omega
                  obtain ⟨⟨y, z⟩, hy⟩ : ∃ y, m.prints[j]? = some y := ⟨_, List.getElem?_eq_getElem hjl⟩
                  obtain ⟨hy64, hz64⟩ := HI.out.pr _ (List.mem_of_getElem? hy)
                  obtain ⟨yb, yo, rfl, hyc, hzc⟩ := (HD.out.below HC.out.2).prints.at_ hy
                  have HLDP : Hid (∀ i v, ([.int .i64 y, .int .i64 z] : List Value)[i]? = some v → wr.cell? ⟨yb, yo + j * 2 + i, none⟩ = some v) := Lib.hid fun i v hv => by
                    match i, hv with
                    | 0, hv => injection hv with hv; subst hv; exact hyc
                    | 1, hv => injection hv with hv; subst hv; exact hzc
                  have hbsz : w.heap.size < wr.heap.size := by
                    rcases HC.out.1 with ⟨_, _, hq, _⟩ | ⟨_, _, hq, _⟩
                    · exact lt_blk hq
                    · exact lt_blk hq
                  have hBA := HC.out.1.below (Below_alloc' wr (.cells #[.int .i64 y, .int .i64 z] 77))
                  have hEA := HC.out.2.alloc HC.out.2.size (.cells #[.int .i64 y, .int .i64 z] 77)
                  have hK := Blk.new wr 77 [.int .i64 y, .int .i64 z]
                  have HPT := Lib.hid (put_calls w.heap.size w.heap.size _ [58] y hy64 _ hBA (by
                    have q2 := HL.out.2.2.2.2 j
                    simp only [List.length_append, List.length_cons, List.length_nil]
                    omega) hEA.size)
                  have HY := Lib.hid (And.intro hy (And.intro hz64 (And.intro hEA (And.intro hK (And.intro hy64 (show w.heap.size < wr.heap.size from hbsz))))))
                  have hwz := HC.out.2.size
                  clear hy hy64 hz64 hyc hzc hBA hEA hK hbsz
                  go_wp2_with (first
                    | (refine wpList_load_at rfl 77 _ rfl yb (yo + j * 2) rfl _ _ HLDP.out Tryz.underlying77 rfl (by kernel_rfl) ?_))
                  refine HPT.out.mono ?_
                  rintro e w2 ⟨rfl, hbl, hbe, hko⟩
                  have hK2 : w2.cell? ⟨wr.heap.size, 1, none⟩ = some (.int .i64 z) := by
                    have hq : Blk w2 wr.heap.size 77 [.int .i64 y, .int .i64 z] := hko _ _ HY.out.2.2.2.1 (fun e => by injection e with e; have := HY.out.2.2.2.2.2; omega) (fun c fz e => by injection e with _ e _; exact absurd e (by decide))
                    exact hq.cell 1
                  clear hko
                  have HC2 : Hid (Bld w.heap.size w.heap.size (T3 ++ (m.prints.take j).flatMap prnL ++ (textL y ++ [58])) w2 ∧ Below w.heap.size w w2) := Lib.hid ⟨hbl, HY.out.2.2.1.trans hbe⟩
                  have HPT2 := Lib.hid (put_calls w.heap.size w.heap.size _ [44] z HY.out.2.1 _ HC2.out.1 (by
                    have q2 := HL.out.2.2.2.2 j
                    have q3 := textL_len HY.out.2.2.2.2.1
                    simp only [List.length_append, List.length_cons, List.length_nil]
                    omega) HC2.out.2.size)
                  clear hbl hbe
                  go_wp2_with fail
                  refine HPT2.out.mono ?_
                  rintro e w3 ⟨rfl, hbl, hbe, -⟩
                  have HC3 : Hid (Bld w.heap.size w.heap.size (T3 ++ (m.prints.take (j + 1)).flatMap prnL) w3 ∧ Below w.heap.size w w3) := Lib.hid ⟨hbl.grow (by rw [flat_succ prnL HY.out.1]; unfold prnL putL; simp only [List.append_assoc]), HC2.out.2.trans hbe⟩
                  clear hbl hbe
                  go_wp2
                  go_roundw
                  case rel => exact ⟨j + 1, by go_num, by omega, HC3⟩
                  case measure => simp [intOf]; omega
                · obtain rfl : j = m.prints.length := by omega
                  have nj : ¬ ((m.prints.length : Int) < m.prints.length) := by omega
                  have hB2 := HC.out.1
                  rw [List.take_length] at hB2
                  have HS := Lib.hid (string_calls w.heap.size w.heap.size _ wr hB2 HC.out.2.size)
                  have HE := Lib.hid HC.out.2
                  have HK : Hid (T3 ++ m.prints.flatMap prnL = keyL m) := Lib.hid (by unfold keyL; rw [← HT3.out, ← HT2.out, ← HT1.out])
                  clear hj hjl hB2
                  go_wp2_with fail
                  refine HS.out.mono ?_
                  rintro e w2 ⟨rfl, hbe⟩
                  have HF := Lib.hid (HE.out.trans hbe)
                  clear hbe
                  go_wp2
                  go_ret
                  exact ⟨by rw [← HK.out]; rfl, HF.out⟩
              end Go.Proofs.YtmkpjiahkepigaaGreat
