import Derived.Test.YtkkmkjjbffpgnaaP06
import Derived.Test.YtkkmkjjbffpgnaaP46
import Derived.Test.YtkkmkjjbffpgnaaP01
import Derived.Laws.StructEq
import Derived.Test.YtkkmkjjbffpgnaaP43
import Derived.Test.YtkkmkjjbffpgnaaP48
import Derived.Test.YtkkmkjjbffpgnaaP08
import Derived.Test.YtkkmkjjbffpgnaaP09
/- The walks of the reference's Ints and of the law's pairs. -/
namespace Go.Proofs.Ytkkmkjjbffpgnaa
open Go Go.RowKit
set_option maxHeartbeats 400000 in
theorem ints7_calls (v1 v2 : Value) (l1 l2 : List Int) (w : World) (h1 : Ints (cmap w) v1 l1) (h2 : Ints (cmap w) v2 l2) :
    Calls Try.prog 17 #[v1, v2] w fun e w' => e = .returned (.bool (decide (l1 = l2))) ∧ ∃ n, w' = w.drewN n := by
  have h1' := h1
  have h2' := h2
  obtain ⟨A1, c1, rfl, -, -, -⟩ := h1'
  obtain ⟨A2, c2, rfl, -, -, -⟩ := h2'
  have b1 := h1.len.2.2
  have b2 := h2.len.2.2
  by_cases hl : l1.length = l2.length
  · have hb : ((l1.length : Int) != (l2.length : Int)) = false := by simp [hl]
    have HL := Lib.hid hl; clear hl
    go_enter Try.func17, Try.ntmps17
    go_wp2
    go_loopw [13] (fun v wr => ∃ (k n : Nat), v = .int .i64 k ∧ k ≤ l1.length ∧ wr = w.drewN n ∧ l1.take k = l2.take k) (fun v _ => l1.length - (intOf v).toNat)
    case atStart => exact ⟨0, 0, rfl, by omega, rfl, rfl⟩
    case round =>
      obtain ⟨k, n, rfl, hk, rfl, ht⟩ := hrel
      have HT := Lib.hid ht; clear ht
      by_cases hlt : k < l1.length
      · have hlt2 : k < l2.length := by rw [← HL.out]; exact hlt
        obtain ⟨x1, hx1⟩ : ∃ x, l1[k]? = some x := ⟨_, List.getElem?_eq_getElem hlt⟩
        obtain ⟨x2, hx2⟩ : ∃ x, l2[k]? = some x := ⟨_, List.getElem?_eq_getElem hlt2⟩
        obtain ⟨bb1, o1, rfl, g1⟩ := h1.at_ hx1
        obtain ⟨bb2, o2, rfl, g2⟩ := h2.at_ hx2
        rw [Nat.mul_one] at g1 g2
        have g1' : w.cell? ⟨bb1, o1 + k, none⟩ = some (.int .i64 x1) := g1
        have g2' : w.cell? ⟨bb2, o2 + k, none⟩ = some (.int .i64 x2) := g2
        have hk0 : (0 : Int) ≤ k := by omega
        have hki : (k : Int) < l1.length := by omega
        have hki2 : (k : Int) < l2.length := by omega
        clear g1 g2
        have HX1 := Lib.hid hx1; clear hx1
        have HX2 := Lib.hid hx2; clear hx2
        by_cases he : x1 = x2
        · have hne : (x1 != x2) = false := by simp [he]
          have HE := Lib.hid he; clear he
          go_wp2
          go_quiet (fail)
          go_wp2
          go_roundw
          case rel => exact ⟨k + 1, _, by go_num, by omega, rfl, by rw [List.take_succ_eq_append_getElem hlt, List.take_succ_eq_append_getElem hlt2, HT.out, (List.getElem?_eq_some_iff.1 HX1.out).2, (List.getElem?_eq_some_iff.1 HX2.out).2, HE.out]⟩
          case measure => simp [intOf]; omega
        · have hne : (x1 != x2) = true := by simp [he]
          have hd : l1 ≠ l2 := fun h => he (by have := HX1.out; rw [h, HX2.out] at this; injection this with this; exact this.symm)
          have HD : Hid (decide (l1 = l2) = false) := decide_eq_false hd
          clear hd
          have HE := Lib.hid he; clear he
          go_wp2
          go_quiet (fail)
          go_wp2
          go_ret
          exact ⟨by rw [HD.out]; rfl, _, World.drewN_drewN _ _ _⟩
      · have hd : l1 = l2 := by
          have := HT.out
          rwa [List.take_of_length_le (by omega), List.take_of_length_le (by rw [← HL.out]; omega)] at this
        have HD : Hid (decide (l1 = l2) = true) := decide_eq_true hd
        clear hd
        go_wp2
        go_ret
        exact ⟨by rw [HD.out]; rfl, _, rfl⟩
  · have hb : ((l1.length : Int) != (l2.length : Int)) = true := by simp; omega
    have hd : l1 ≠ l2 := fun h => hl (by rw [h])
    have HD : Hid (decide (l1 = l2) = false) := decide_eq_false hd
    clear hd
    go_enter Try.func17, Try.ntmps17
    go_wp2
    go_ret
    exact ⟨by rw [HD.out]; rfl, 0, rfl⟩
set_option maxRecDepth 100000 in
set_option maxHeartbeats 1000000 in
theorem eq_pair (a b c d : Int) (w : World) : (Op.equalIn 10000 46 (.agg #[.int .i64 a, .int .i64 b, .int .i64 c, .int .i64 d]) (.agg #[.int .i64 a, .int .i64 b, .int .i64 c, .int .i64 d])).run Try.prog w = .ok true w := by
  have hS : Try.prog.underlying 46 = some (.struct (Try.prog.fieldsOf 46)) := by kernel_rfl
  have hp : Try.prog.stoodInHeld 46 = false := by kernel_rfl
  rw [show (10000 : Nat) = 9999 + 1 from rfl, run_equalIn_agg w 9999 46 _ _ hS hp]
  simp only [Program.fieldsOf, Try.underlying46]
  go_simp
set_option maxRecDepth 100000 in
set_option maxHeartbeats 1000000 in
theorem pairs_calls (v1 v2 : Value) (L : List Quad) (w : World) (h1 : Sl (Cells quadV) 4 (cmap w) v1 L) (h2 : Sl (Cells quadV) 4 (cmap w) v2 L) :
    Calls Try.prog 49 #[v1, v2] w fun e w' => e = .returned (.bool true) ∧ ∃ n, w' = w.drewN n := by
  obtain ⟨A1, c1, rfl, -⟩ := id h1
  obtain ⟨A2, c2, rfl, -⟩ := id h2
  have b1 := h1.len.2.2
  have hb : ((L.length : Int) != (L.length : Int)) = false := by simp
  go_enter Try.func49, Try.ntmps49
  go_wp2
  go_loopw [13] (fun v wr => ∃ (k n : Nat), v = .int .i64 k ∧ k ≤ L.length ∧ wr = w.drewN n) (fun v _ => L.length - (intOf v).toNat)
  case atStart => exact ⟨0, 0, rfl, by omega, rfl⟩
  case round =>
    obtain ⟨k, n, rfl, hk, rfl⟩ := hrel
    by_cases hlt : k < L.length
    · obtain ⟨d, hd⟩ : ∃ d, L[k]? = some d := ⟨_, List.getElem?_eq_getElem hlt⟩
      obtain ⟨bb1, o1, rfl, g1⟩ := h1.at_ hd
      obtain ⟨bb2, o2, rfl, g2⟩ := h2.at_ hd
      have g1 := Cells_plain g1
      have g2 := Cells_plain g2
      have HD := Lib.hid hd; clear hd
      have q10 : w.cell? ⟨bb1, o1 + k * 4, none⟩ = some (.int .i64 d.1) := g1 0 _ rfl
      have q11 : w.cell? ⟨bb1, o1 + k * 4 + 1, none⟩ = some (.int .i64 d.2.1) := g1 1 _ rfl
      have q12 : w.cell? ⟨bb1, o1 + k * 4 + 2, none⟩ = some (.int .i64 d.2.2.1) := g1 2 _ rfl
      have q13 : w.cell? ⟨bb1, o1 + k * 4 + 3, none⟩ = some (.int .i64 d.2.2.2) := g1 3 _ rfl
      have q20 : w.cell? ⟨bb2, o2 + k * 4, none⟩ = some (.int .i64 d.1) := g2 0 _ rfl
      have q21 : w.cell? ⟨bb2, o2 + k * 4 + 1, none⟩ = some (.int .i64 d.2.1) := g2 1 _ rfl
      have q22 : w.cell? ⟨bb2, o2 + k * 4 + 2, none⟩ = some (.int .i64 d.2.2.1) := g2 2 _ rfl
      have q23 : w.cell? ⟨bb2, o2 + k * 4 + 3, none⟩ = some (.int .i64 d.2.2.2) := g2 3 _ rfl
      clear g1 g2
      have hk0 : (0 : Int) ≤ k := by omega
      have hkl : (k : Int) < L.length := by omega
      have hm : Try.prog.eqGuardType Try.prog.depth 46 = false := by kernel_rfl
      have heq := eq_pair d.1 d.2.1 d.2.2.1 d.2.2.2
      go_wp2
      go_quiet (fail)
      go_wp2
      go_roundw
      case rel => exact ⟨k + 1, _, by go_num, by omega, rfl⟩
      case measure => simp [intOf]; omega
    · go_wp2
      go_ret
      exact ⟨rfl, _, rfl⟩
end Go.Proofs.Ytkkmkjjbffpgnaa
/- The unit of lives: two threads, one stores 1 to x, the other one loads x. -/
namespace Go.Proofs.Ytkkmkjjbffpgnaa
open Go Go.RowKit
def z0 : Val := ⟨false, 0, 0⟩
def knSt : Node := ⟨3, 0, 0, 0, ⟨false, 0, 1⟩, z0, 1, 0, 0⟩
def knLd : Node := ⟨2, 0, 0, 0, z0, z0, 1, 0, 0⟩
def knEn : Node := ⟨9, 0, 0, 0, z0, z0, 0, 0, 1⟩
def knA : Graph := ⟨⟨#[97]⟩, 0, 0, [knSt, knEn]⟩
def knB : Graph := ⟨⟨#[98]⟩, 0, 1, [knLd, knEn]⟩
def knU : Unit_ := ⟨[⟨⟨#[120]⟩, 0, 0⟩], [], [knA, knB]⟩
theorem kn_check : checkF knU = none := by kernel_rfl
theorem kn_i64 : i64 0 ∧ i64 1 := by unfold i64; omega
theorem kn_ok : UOk knU := by
  intro g hg n hn
  have h0 := kn_i64.1
  have h1 := kn_i64.2
  simp only [knU, List.mem_cons, List.not_mem_nil, or_false] at hg
  rcases hg with rfl | rfl
  · simp only [knA, List.mem_cons, List.not_mem_nil, or_false] at hn
    rcases hn with rfl | rfl
    · exact ⟨by decide, by decide, h0, h0, ⟨h0, h1⟩, ⟨h0, h0⟩, h1, h0, h0⟩
    · exact ⟨by decide, by decide, h0, h0, ⟨h0, h0⟩, ⟨h0, h0⟩, h0, h0, h1⟩
  · simp only [knB, List.mem_cons, List.not_mem_nil, or_false] at hn
    rcases hn with rfl | rfl
    · exact ⟨by decide, by decide, h0, h0, ⟨h0, h0⟩, ⟨h0, h0⟩, h1, h0, h0⟩
    · exact ⟨by decide, by decide, h0, h0, ⟨h0, h0⟩, ⟨h0, h0⟩, h0, h0, h1⟩
theorem kn_no {g : Graph} {a b : Node} {p : Node → Bool} (hg : g.nodes = [a, b]) (ha : p a = false) (hb : p b = false) : anyN g p = false :=
  anyN_no fun i n hn _ => by
    rw [hg] at hn
    match i, hn with
    | 0, hn => simp at hn; subst hn; exact ha
    | 1, hn => simp at hn; subst hn; exact hb
    | i + 2, hn => simp at hn
theorem kn_aw : anyN knA (atP wrB 0) = true := anyN_yes (i := 0) (n := knSt) rfl .zero rfl
theorem kn_ar : anyN knA (atP rdB 0) = false := kn_no (a := knSt) (b := knEn) rfl rfl rfl
theorem kn_bw : anyN knB (atP wrB 0) = false := kn_no (a := knLd) (b := knEn) rfl rfl rfl
theorem kn_br : anyN knB (atP rdB 0) = true := anyN_yes (i := 0) (n := knLd) rfl .zero rfl
theorem kn_tou : touF knU 0 = ([1], [0]) := by
  have h1 : thrTo knU rdB ((0 : Nat) : Int) knU.graphs.length = [1] := by
    show thrTo knU rdB 0 (0 + 1 + 1) = [1]
    rw [thrTo_yes (g := knB) rfl kn_br, thrTo_no (g := knA) rfl kn_ar]
    rfl
  have h2 : thrTo knU wrB ((0 : Nat) : Int) knU.graphs.length = [0] := by
    show thrTo knU wrB 0 (0 + 1 + 1) = [0]
    rw [thrTo_no (g := knB) rfl kn_bw, thrTo_yes (g := knA) rfl kn_aw]
    rfl
  unfold touF
  rw [h1, h2]
  rfl
theorem kn_list : (List.range knU.shared.length).map (touF knU) = [([1], [0])] := by
  show [touF knU 0] = _
  rw [kn_tou]
open Classical in
theorem kn_apart : apartR knU 0 1 = (false, 0) := by
  have h : apartG knA knB = false := by
    have e : comP knA knB wrB rdB = true := by
      unfold comP
      exact decide_eq_true ⟨0, kn_aw, kn_br⟩
    unfold apartG
    rw [e]
    rfl
  unfold apartR
  rw [if_neg (by rw [kn_check]; simp), if_neg (by simp [knU]), if_neg (by decide)]
  show (apartG knA knB, (0 : Int)) = _
  rw [h]
theorem kn_hitsA (t : Nat) : hitsOf t knA 0 [knSt, knEn] = [⟨t, 0, knSt, []⟩, ⟨t, 1, knEn, []⟩] := by
  have r0 : ReachC knA (-1) 0 := .zero
  have r1 : ReachC knA (-1) 1 := .step r0 (by decide) (n := knSt) rfl (by decide)
  have hL : heldL knA = [[], []] := rfl
  have h0 : heldAt knA 0 = [] := by unfold heldAt; rw [hL]; rfl
  have h1 : heldAt knA 1 = [] := by unfold heldAt; rw [hL]; rfl
  rw [hitsOf_yes r0, hitsOf_yes r1, h0, h1]
  rfl
theorem kn_hitsB (t : Nat) : hitsOf t knB 0 [knLd, knEn] = [⟨t, 0, knLd, []⟩, ⟨t, 1, knEn, []⟩] := by
  have r0 : ReachC knB (-1) 0 := .zero
  have r1 : ReachC knB (-1) 1 := .step r0 (by decide) (n := knLd) rfl (by decide)
  have hL : heldL knB = [[], []] := rfl
  have h0 : heldAt knB 0 = [] := by unfold heldAt; rw [hL]; rfl
  have h1 : heldAt knB 1 = [] := by unfold heldAt; rw [hL]; rfl
  rw [hitsOf_yes r0, hitsOf_yes r1, h0, h1]
  rfl
theorem kn_hits : hitsU knU = [⟨0, 0, knSt, []⟩, ⟨0, 1, knEn, []⟩, ⟨1, 0, knLd, []⟩, ⟨1, 1, knEn, []⟩] := by
  show hits 0 [knA, knB] = _
  simp only [hits]
  show hitsOf 0 knA 0 [knSt, knEn] ++ (hitsOf 1 knB 0 [knLd, knEn] ++ []) = _
  rw [kn_hitsA, kn_hitsB]
  rfl
theorem kn_quads : rquads knU = [(0, 0, 1, 0)] := by
  unfold rquads prs
  rw [kn_hits]
  rfl
theorem nodes_blk {w : World} {b : Nat} {t : TypeId} {ns : List Node} (h : Blk w b t (ns.flatMap Node.cells)) (n : Nat) (hn : n = ns.length) (hl : n ≤ 1000) : Nodes (cmap w) (.slice (some ⟨b, 0, none⟩) n n) ns := by
  subst hn
  refine ⟨_, _, rfl, Nat.le_refl _, ⟨by simp only [maxLen]; omega, fun h => by cases h⟩, .inr ⟨b, 0, rfl, fun i x hx j v hv => ?_⟩⟩
  show w.cell? ⟨b, 0 + i * 13 + j, none⟩ = some v
  rw [Nat.zero_add, h.cell, List.flatMap_def]
  refine flatten_at (ns.map Node.cells) 13 i x.cells (fun r hr => ?_) ?_ j v hv
  · obtain ⟨q, _, rfl⟩ := List.mem_map.1 hr; rfl
  · rw [List.getElem?_map, hx]; rfl
theorem decls_blk {w : World} {b : Nat} {t : TypeId} {s : ByteArray} (h : Blk w b t [.string s, .int .i64 0, .int .i64 0]) : Decls (cmap w) (.slice (some ⟨b, 0, none⟩) 1 1) [⟨s, 0, 0⟩] := by
  refine ⟨_, _, rfl, Nat.le_refl _, ⟨by simp [maxLen], fun h => by cases h⟩, .inr ⟨b, 0, rfl, fun i x hx => ?_⟩⟩
  match i, hx with
  | 0, hx =>
    simp at hx
    subst hx
    exact ⟨h.cell 0, h.cell 1, h.cell 2⟩
theorem kn_unit {w : World} {na nb xb gb : Nat} {T1 T2 T3 : TypeId} (ha : Blk w na T1 ([knSt, knEn].flatMap Node.cells)) (hb : Blk w nb T1 ([knLd, knEn].flatMap Node.cells)) (hx : Blk w xb T2 [.string ⟨#[120]⟩, .int .i64 0, .int .i64 0])
    (hg : Blk w gb T3 [.string ⟨#[97]⟩, .int .i64 0, .int .i64 0, .slice (some ⟨na, 0, none⟩) 2 2, .string ⟨#[98]⟩, .int .i64 0, .int .i64 1, .slice (some ⟨nb, 0, none⟩) 2 2]) :
    UnitV (cmap w) [.slice (some ⟨xb, 0, none⟩) 1 1, .slice none 0 0, .slice (some ⟨gb, 0, none⟩) 2 2] knU := by
  refine ⟨_, _, _, rfl, decls_blk hx, ⟨none, 0, rfl, by simp [knU], ⟨by simp [maxLen], fun _ => rfl⟩, .inl rfl⟩, ⟨_, _, rfl, Nat.le_refl _, ⟨by simp [maxLen], fun h => by cases h⟩, .inr ⟨gb, 0, rfl, fun i x hx => ?_⟩⟩⟩
  match i, hx with
  | 0, hx =>
    simp [knU] at hx
    subst hx
    refine ⟨_, ⟨_, rfl, nodes_blk ha 2 rfl (by decide)⟩, fun j v hv => ?_⟩
    match j, hv with
    | 0, hv => simp at hv; subst hv; exact hg.cell 0
    | 1, hv => simp at hv; subst hv; exact hg.cell 1
    | 2, hv => simp at hv; subst hv; exact hg.cell 2
    | 3, hv => simp at hv; subst hv; exact hg.cell 3
  | 1, hx =>
    simp [knU] at hx
    subst hx
    refine ⟨_, ⟨_, rfl, nodes_blk hb 2 rfl (by decide)⟩, fun j v hv => ?_⟩
    match j, hv with
    | 0, hv => simp at hv; subst hv; exact hg.cell 4
    | 1, hv => simp at hv; subst hv; exact hg.cell 5
    | 2, hv => simp at hv; subst hv; exact hg.cell 6
    | 3, hv => simp at hv; subst hv; exact hg.cell 7
set_option maxRecDepth 100000 in
set_option maxHeartbeats 2000000 in
theorem known9_calls (w : World) : Calls Try.prog 44 #[] w fun e w' => ∃ s g : Option Addr, e = .returned (.agg #[.slice s 1 1, .slice none 0 0, .slice g 2 2]) ∧ UnitV (cmap w') [.slice s 1 1, .slice none 0 0, .slice g 2 2] knU ∧ Below w.heap.size w w' := by
  go_enter Try.func44, Try.ntmps44
  go_wp2
  refine bodyPost_ret (v := .agg #[.slice (some ⟨w.heap.size + 1 + 1 + 1, 0, none⟩) 1 1, .slice none 0 0, .slice (some ⟨w.heap.size + 1 + 1 + 1 + 1, 0, none⟩) 2 2]) (by simp [results, Try.results44, go_sem]) rfl ⟨_, _, rfl, ?_, ?_⟩
  · refine kn_unit (na := w.heap.size + 1) (nb := w.heap.size + 1 + 1) (T1 := 67) (T2 := 110) (T3 := 70) ?_ ?_ ?_ ?_
    · exact (((Blk.of (heap_new _ _ _ (by simp)) rfl : Blk _ _ _ _).alloc _).alloc _).alloc _
    · exact ((Blk.of (heap_new _ _ _ (by simp)) rfl : Blk _ _ _ _).alloc _).alloc _
    · exact (Blk.of (heap_new _ _ _ (by simp)) rfl : Blk _ _ _ _).alloc _
    · exact Blk.of (heap_new _ _ _ (by simp)) rfl
  · exact ((((Below_alloc' w _).alloc (by simp) _).alloc (by simp; omega) _).alloc (by simp; omega) _).alloc (by simp; omega) _
end Go.Proofs.Ytkkmkjjbffpgnaa
