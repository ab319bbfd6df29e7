/- LocksetUnder: whatever unit, variable and lock are given, lockset.Under and lockset.Held say the same of each node, and what touches the variable under the lock is not bare of it. Conditions: the row's own; the listed table is tied to the program's text by the card. -/
import Derived.Test.YtpaieopclpddnaaDoorP14
import Derived.Test.YtpaieopclpddnaaDoorP19
import Derived.Test.YtpaieopclpddnaaDoorP17
/- The walk of the law LocksetUnder. -/
namespace Go.Proofs.YtpaieopclpddnaaDoor
open Go Go.RowKit
theorem Accs_at {m : CM} {A : Option Addr} {n c : Nat} {l : List (Nat × Nat)} (h : Accs m (.slice A n c) l) {i : Nat} {x : Nat × Nat} (hx : l[i]? = some x) : ∃ b o, A = some ⟨b, o, none⟩ ∧ ∀ j v, ([.int .i64 x.1, .int .i64 x.2] : List Value)[j]? = some v → m b (o + i * 2 + j) = some v := by
  obtain ⟨b, o, e, _, rfl, h2⟩ := h.at_ hx
  exact ⟨b, o, e, h2⟩
theorem eqAcc_yes (a b : Nat) : ∀ w, (Op.equalIn 10000 59 (.agg #[.int .i64 (a : Int), .int .i64 (b : Int)]) (.agg #[.int .i64 (a : Int), .int .i64 (b : Int)])).run Tryd.prog w = .ok true w := by
  intro w
  rw [eq_acc]
  simp
theorem eqAcc_no (a b c d : Nat) (h : (a, b) ≠ (c, d)) : ∀ w, (Op.equalIn 10000 59 (.agg #[.int .i64 (a : Int), .int .i64 (b : Int)]) (.agg #[.int .i64 (c : Int), .int .i64 (d : Int)])).run Tryd.prog w = .ok false w := by
  intro w
  rw [eq_acc]
  have : ((a : Int) == (c : Int) && (b : Int) == (d : Int)) = false := by
    rw [Bool.eq_false_iff]
    intro e
    simp only [Bool.and_eq_true, beq_iff_eq] at e
    apply h
    rw [show a = c from by omega, show b = d from by omega]
  rw [this]
set_option maxRecDepth 100000 in
set_option maxHeartbeats 4000000 in
theorem locksetUnder_calls (u : Unit_) (cs : List Value) (x lk : Int) (w : World) (hT : Tab w) (hu : UnitV (cmap w) cs u) (hok : UOk u) :
    Calls Tryd.prog 7 #[.agg cs.toArray, .int .i64 x, .int .i64 lk] w fun e w' => e = .returned (.bool true) ∧ Below w.heap.size w w' := by
  have hu0 := hu
  obtain ⟨sv, lv, gv, rfl, hs, -, hg⟩ := hu
  obtain ⟨sA, sc, rfl, -⟩ := id hs
  obtain ⟨gA, gc, rfl, -⟩ := id hg
  clear hs hg
  have hbx := Blk.new w 25 [.slice sA u.shared.length sc, lv, .slice gA u.graphs.length gc]
  have hb0 := Below_alloc' w (.cells #[.slice sA u.shared.length sc, lv, .slice gA u.graphs.length gc] 25)
  have hun : ∀ wr, Blk wr w.heap.size 25 [.slice sA u.shared.length sc, lv, .slice gA u.graphs.length gc] → ∀ j v, ([.slice sA u.shared.length sc, lv, .slice gA u.graphs.length gc] : List Value)[j]? = some v → wr.cell? ⟨w.heap.size, 0 + j, none⟩ = some v := fun wr h j v hj => by rw [Nat.zero_add, h.cell]; exact hj
  have HUN := Lib.hid hun; clear hun
  have HT := Lib.hid hT; clear hT
  go_enter Tryd.func7, Tryd.ntmps7
  go_wp2_with fail
  refine (begins_calls _ (HT.out.below hb0)).mono ?_
  rintro e w1 ⟨rfl, hb1⟩
  have hw1 : Below w.heap.size w w1 := hb0.trans (hb1.mono (by simp))
  have hbx1 := hbx.below hb1 hbx.lt
  have HLD1 := Lib.hid (HUN.out _ hbx1)
  clear hb1 hbx
  go_wp2_with (first
    | (refine wpList_load_at rfl 25 _ rfl w.heap.size 0 rfl _ _ HLD1.out Tryd.underlying25 rfl (by kernel_rfl) ?_))
  refine (under_calls u _ lk _ (hu0.mono (cmap_below hw1)) hok).mono ?_
  rintro e w2 (⟨hck, hlk, v1, rfl, k1, hb2⟩ | ⟨-, -, rfl, hb2⟩ | ⟨-, rfl, hb2⟩)
  rotate_left
  · have hw2 : Below w.heap.size w w2 := hw1.trans (hb2.mono hw1.size)
    go_wp2
    go_ret
    exact ⟨rfl, hw2⟩
  · have hw2 : Below w.heap.size w w2 := hw1.trans (hb2.mono hw1.size)
    go_wp2
    go_ret
    exact ⟨rfl, hw2⟩
  · have hw2 : Below w.heap.size w w2 := hw1.trans (hb2.mono hw1.size)
    have hru := checkF_none hck
    have HCK := Lib.hid hck; clear hck
    have hbx2 := hbx1.below hb2 hbx1.lt
    obtain ⟨j, rfl⟩ : ∃ n : Nat, lk = n := ⟨lk.toNat, by omega⟩
    have hj : j < u.locks.length := by omega
    have hj16 : j < 16 := by have := hru.locks; omega
    obtain ⟨lA, lc, rfl, -⟩ := id k1
    have g1 := (Accs_of k1).mono (part_le _ _ _)
    have hlen : (underF u (j : Int)).length = ((underF u (j : Int)).map (fun h => (h.t, h.i))).length := by simp
    have hbu : ∀ a b, a ∈ (bareF u x (j : Int)).map (fun h => (h.t, h.i)) → b ∈ (underF u (j : Int)).map (fun h => (h.t, h.i)) → a ≠ b := fun a b => bare_under
    have hstart : rest1 u j 0 = (underF u (j : Int)).map (fun h => (h.t, h.i)) := by unfold rest1 underF hitsU; rw [List.drop_zero, Int.toNat_natCast]
    have hL1 : (underF u (j : Int)).length ≤ 32768 := Nat.le_trans (List.length_filter_le _ _) (hitsU_length hru)
    rw [hlen] at hL1 ⊢
    generalize (underF u (j : Int)).map (fun h => (h.t, h.i)) = L at *
    clear hlen k1 hb2 hbx1 hlk
    have HST := Lib.hid hstart; clear hstart
    have HBU := Lib.hid hbu; clear hbu
    have hg8 := hru.threads
    go_wp2
    go_loopw [9, 10] (fun v9 v10 wr => ∃ (t m : Nat), v10 = .int .i64 t ∧ t ≤ u.graphs.length ∧ v9 = .int .i64 m ∧ m ≤ L.length ∧ Hid (L.drop m = rest1 u j t) ∧ Below w2.heap.size w2 wr) (fun _ v10 _ => u.graphs.length - (intOf v10).toNat)
    case atStart => exact ⟨0, 0, rfl, by omega, rfl, by omega, Lib.hid (by rw [HST.out]; rfl), Below.refl _ _⟩
    case round =>
      obtain ⟨t, m, rfl, ht, rfl, hm, HD, hbel⟩ := hrel
      have hbxr := hbx2.below hbel hbx2.lt
      have cr2 := hbxr.cell 2
      have hwr : Below w.heap.size w wr := hw2.trans (hbel.mono hw2.size)
      by_cases hlt : t < u.graphs.length
      · obtain ⟨g, hgt⟩ : ∃ g, u.graphs[t]? = some g := ⟨_, List.getElem?_eq_getElem hlt⟩
        have hrg := hru.graphs g (List.mem_of_getElem? hgt)
        have hh := heldsL_at hgt hrg
        have HGT := Lib.hid hgt; clear hgt
        have HLDr := Lib.hid (HUN.out _ hbxr)
        obtain ⟨wo, rfl⟩ : ∃ wo : World, wo = wr := ⟨_, rfl⟩
        go_wp2_with (first
          | (refine wpList_load_at rfl 25 _ rfl w.heap.size 0 rfl _ _ HLDr.out Tryd.underlying25 rfl (by kernel_rfl) ?_))
        refine (lheld_calls u _ (t : Int) _ (HT.out.below hwr) (hu0.mono (cmap_below hwr)) hok).mono ?_
        rintro e w3 (⟨-, -, v3, rfl, k3, hb3⟩ | ⟨-, hno, -⟩ | ⟨hck3, -⟩)
        rotate_left
        · exact (hno (by omega)).elim
        · exact absurd HCK.out hck3
        have k3' := k3.mono (part_le _ _ _)
        obtain ⟨hlen, hrows⟩ := hh
        obtain ⟨hA, hc, rfl, -⟩ := id k3'
        rw [hlen] at k3' ⊢
        generalize heldsL u (t : Int).toNat = hl at *
        have HLEN := Lib.hid hlen; clear hlen
        have HROW := Lib.hid hrows; clear hrows
        have hbel3 : Below w2.heap.size w2 w3 := hbel.trans (hb3.mono hbel.size)
        have g3 := (g1.mono (cmap_below hbel)).mono (cmap_below hb3)
        have hnm := hrg.whole.most
        clear k3 hb3 cr2 hbxr
        go_wp2
        go_loop [9, 13] (fun v9 v13 => ∃ (k m : Nat), v13 = .int .i64 k ∧ k ≤ g.nodes.length ∧ v9 = .int .i64 m ∧ m ≤ L.length ∧ Hid (L.drop m = rest2 u j t g k)) (fun _ v13 => g.nodes.length - (intOf v13).toNat)
        case atStart => exact ⟨0, m, rfl, by omega, rfl, hm, Lib.hid (by rw [HD.out]; exact rest1_at HGT.out)⟩
        case round =>
          obtain ⟨k, m1, rfl, hk, rfl, hm1, HD1⟩ := hrel
          by_cases hltk : k < g.nodes.length
          · obtain ⟨r, hr⟩ : ∃ r, hl[k]? = some r := ⟨_, List.getElem?_eq_getElem (by rw [HLEN.out]; exact hltk)⟩
            have hrr := HROW.out k r hr
            obtain ⟨hb, ho, rfl, hcs, ⟨hv, rfl, hi⟩, hcell⟩ := k3'.at_ hr
            obtain ⟨rA, rc, rfl, -⟩ := id hi
            have q1 : w3.cell? ⟨hb, ho + k, none⟩ = some (.slice rA r.length rc) := by have := hcell 0 _ rfl; rwa [Nat.mul_one] at this
            have HUP : Hid (r.Pairwise (· < ·)) := Lib.hid (by rw [hrr]; exact risingL_up _)
            have HR2 : Hid (rest2 u j t g k = (if (j : Int) ∈ r then [(t, k)] else []) ++ rest2 u j t g (k + 1)) := Lib.hid (by rw [hrr]; exact rest2_at hrg hltk hj16)
            have hr16 : r.length ≤ 16 := by rw [hrr]; exact risingL_length _
            have hk0 : (0 : Int) ≤ k := by omega
            have hkl : (k : Int) < g.nodes.length := by omega
            clear hcell hr hrr
            go_wp2
            go_loop [9, 14] (fun v9 v14 => ∃ (i m : Nat), v14 = .int .i64 i ∧ i ≤ r.length ∧ v9 = .int .i64 m ∧ m ≤ L.length ∧ Hid (L.drop m = (if (j : Int) ∈ r.drop i then [(t, k)] else []) ++ rest2 u j t g (k + 1))) (fun _ v14 => r.length - (intOf v14).toNat)
            case atStart => exact ⟨0, m1, rfl, by omega, rfl, hm1, Lib.hid (by rw [HD1.out, HR2.out]; rfl)⟩
            case round =>
              obtain ⟨i, m2, rfl, hi', rfl, hm2, HD2⟩ := hrel
              by_cases hlti : i < r.length
              · obtain ⟨y, hy⟩ : ∃ y, r[i]? = some y := ⟨_, List.getElem?_eq_getElem hlti⟩
                obtain ⟨rb, ro, rfl, hyc⟩ := Ints_at hi hy
                have q2 : w3.cell? ⟨rb, ro + i, none⟩ = some (.int .i64 y) := hyc
                have HDR := Lib.hid (drop_row (x := (j : Int)) hy [(t, k)])
                have HON := Lib.hid (row_once HUP.out hy)
                have hi0 : (0 : Int) ≤ i := by omega
                have hil : (i : Int) < r.length := by omega
                clear hy
                by_cases hyj : y = (j : Int)
                · have HD3 : Hid (L.drop m2 = (t, k) :: rest2 u j t g (k + 1)) := Lib.hid (by rw [HD2.out, HDR.out, if_pos hyj]; rfl)
                  have hmL : m2 < L.length := by
                    refine Classical.byContradiction fun h => ?_
                    have := HD3.out
                    rw [List.drop_eq_nil_of_le (by omega)] at this
                    cases this
                  have hLm : L[m2]? = some (t, k) := by
                    have := HD3.out
                    rw [List.drop_eq_getElem_cons hmL] at this
                    injection this with h1 _
                    rw [List.getElem?_eq_getElem hmL, h1]
                  have HD4 : Hid (L.drop (m2 + 1) = (if (j : Int) ∈ r.drop (i + 1) then [(t, k)] else []) ++ rest2 u j t g (k + 1)) := Lib.hid (by
                    have := HD3.out
                    rw [List.drop_eq_getElem_cons hmL] at this
                    injection this with _ h2
                    rw [h2, if_neg (by rw [← hyj]; exact HON.out)]
                    rfl)
                  obtain ⟨lb, lo, rfl, hlc⟩ := Accs_at g3 hLm
                  have HLA : Hid (∀ q v, ([.int .i64 (t : Int), .int .i64 (k : Int)] : List Value)[q]? = some v → w3.cell? ⟨lb, lo + m2 * 2 + q, none⟩ = some v) := hlc
                  have heq := eqAcc_yes t k
                  have e1 : (y == (j : Int)) = true := by simp [hyj]
                  have d1 : decide ((L.length : Int) ≤ (m2 : Int)) = false := by simp; omega
                  have d2 : decide (L.length ≤ m2) = false := by simp; omega
                  have hm0 : (0 : Int) ≤ m2 := by omega
                  have hml : (m2 : Int) < L.length := by omega
                  clear hLm hyj hlc
                  go_wp2_with (refine wpList_load_at_g (by rfl) 59 _ rfl lb (lo + m2 * 2) rfl _ _ HLA.out Tryd.underlying59 rfl (by kernel_rfl) ?_)
                  go_round
                  case rel => exact ⟨i + 1, m2 + 1, by go_num, by omega, by go_num, by omega, HD4⟩
                  case measure => simp [intOf]; omega
                · have e1 : (y == (j : Int)) = false := by simp [hyj]
                  have HD4 : Hid (L.drop m2 = (if (j : Int) ∈ r.drop (i + 1) then [(t, k)] else []) ++ rest2 u j t g (k + 1)) := Lib.hid (by rw [HD2.out, HDR.out, if_neg hyj])
                  clear hyj
                  go_wp2
                  go_round
                  case rel => exact ⟨i + 1, m2, by go_num, by omega, rfl, by omega, HD4⟩
                  case measure => simp [intOf]; omega
              · have HD4 : Hid (L.drop m2 = rest2 u j t g (k + 1)) := Lib.hid (by rw [HD2.out, List.drop_eq_nil_of_le (by omega)]; rfl)
                go_wp2
                go_round
                case rel => exact ⟨k + 1, m2, by go_num, by omega, rfl, by omega, HD4⟩
                case measure => simp [intOf]; omega
          · have HD4 : Hid (L.drop m1 = rest1 u j (t + 1)) := Lib.hid (by rw [HD1.out]; exact rest2_end (by omega))
            go_wp2
            go_roundw
            case rel => exact ⟨t + 1, m1, by go_num, by omega, rfl, by omega, HD4, hbel3⟩
            case measure => simp [intOf]; omega
      · have hmL : L.length ≤ m := by
          have := HD.out
          rw [rest1_end (by omega), List.drop_eq_nil_iff] at this
          exact this
        obtain rfl : m = L.length := by omega
        have HLDr := Lib.hid (HUN.out _ hbxr)
        have e9 : ((L.length : Int) == (L.length : Int)) = true := by simp
        have g3 := g1.mono (cmap_below hbel)
        clear HD hmL hm
        go_wp2_with (first
          | (refine wpList_load_at rfl 25 _ rfl w.heap.size 0 rfl _ _ HLDr.out Tryd.underlying25 rfl (by kernel_rfl) ?_))
        refine (bare_calls u _ x (j : Int) _ (hu0.mono (cmap_below hwr)) hok).mono ?_
        rintro e w4 (⟨-, hxl, v4, rfl, k4, hb4⟩ | ⟨-, hno, rfl, hb4⟩ | ⟨hck4, -⟩)
        · have hw4 : Below w.heap.size w w4 := hwr.trans (hb4.mono hwr.size)
          obtain ⟨bA, bc, rfl, -⟩ := id k4
          have k4' := (Accs_of k4).mono (part_le _ _ _)
          have hlen : (bareF u x (j : Int)).length = ((bareF u x (j : Int)).map (fun h => (h.t, h.i))).length := by simp
          have hB1 : (bareF u x (j : Int)).length ≤ 32768 := Nat.le_trans (List.length_filter_le _ _) (hitsU_length hru)
          rw [hlen] at hB1 ⊢
          generalize (bareF u x (j : Int)).map (fun h => (h.t, h.i)) = B at *
          have g4 := g3.mono (cmap_below hb4)
          have hbx4 := hbxr.below hb4 hbxr.lt
          have c0 := hbx4.cell 0
          obtain ⟨p, rfl⟩ : ∃ n : Nat, x = n := ⟨x.toNat, by omega⟩
          have hx1 : (p : Int) < u.shared.length := by omega
          have hx0 : (0 : Int) ≤ p := by omega
          have d1 : decide ((0 : Int) ≤ (p : Int)) = true := decide_eq_true hx0
          have d2 : decide ((p : Int) < (u.shared.length : Int)) = true := decide_eq_true hx1
          have d3 : decide (p < u.shared.length) = true := decide_eq_true (by omega)
          clear hlen hxl k4 hb4 cr2 hbxr
          go_wp2
          go_loopw [17] (fun v17 wr => ∃ (i n : Nat), v17 = .int .i64 i ∧ i ≤ B.length ∧ wr = w4.drewN n) (fun v17 _ => B.length - (intOf v17).toNat)
          case atStart => exact ⟨0, 0, rfl, by omega, rfl⟩
          case round =>
            obtain ⟨i, n, rfl, hi, rfl⟩ := hrel
            by_cases hlti : i < B.length
            · obtain ⟨⟨a1, a2⟩, ha⟩ : ∃ a, B[i]? = some a := ⟨_, List.getElem?_eq_getElem hlti⟩
              obtain ⟨bb, bo, rfl, hbc⟩ := Accs_at k4' ha
              have hbm := List.mem_of_getElem? ha
              have b0 : w4.cell? ⟨bb, bo + i * 2, none⟩ = some (.int .i64 (a1 : Int)) := hbc 0 _ rfl
              have b1 : w4.cell? ⟨bb, bo + i * 2 + 1, none⟩ = some (.int .i64 (a2 : Int)) := hbc 1 _ rfl
              have hi0 : (0 : Int) ≤ i := by omega
              have hil : (i : Int) < B.length := by omega
              clear ha hbc
              go_wp2
              go_loopw [18] (fun v18 wr => ∃ (q n : Nat), v18 = .int .i64 q ∧ q ≤ L.length ∧ wr = w4.drewN n) (fun v18 _ => L.length - (intOf v18).toNat)
              case atStart => exact ⟨0, n, rfl, by omega, rfl⟩
              case round =>
                obtain ⟨q, n2, rfl, hq, rfl⟩ := hrel
                by_cases hltq : q < L.length
                · obtain ⟨⟨l1, l2⟩, hl⟩ : ∃ a, L[q]? = some a := ⟨_, List.getElem?_eq_getElem hltq⟩
                  obtain ⟨lb, lo, rfl, hlc⟩ := Accs_at g4 hl
                  have c1 : w4.cell? ⟨lb, lo + q * 2, none⟩ = some (.int .i64 (l1 : Int)) := hlc 0 _ rfl
                  have c2 : w4.cell? ⟨lb, lo + q * 2 + 1, none⟩ = some (.int .i64 (l2 : Int)) := hlc 1 _ rfl
                  have heq := eqAcc_no a1 a2 l1 l2 (HBU.out _ _ hbm (List.mem_of_getElem? hl))
                  have hq0 : (0 : Int) ≤ q := by omega
                  have hql : (q : Int) < L.length := by omega
                  have hm1 : Tryd.prog.eqGuardType Tryd.prog.depth 59 = false := by kernel_rfl
                  clear hl hlc
                  go_wp2
                  go_quiet (fail)
                  go_wp2
                  go_roundw
                  case rel => exact ⟨q + 1, _, by go_num, by omega, rfl⟩
                  case measure => simp [intOf]; omega
                · go_wp2
                  go_roundw
                  case rel => exact ⟨i + 1, _, by go_num, by omega, rfl⟩
                  case measure => simp [intOf]; omega
            · go_wp2
              go_ret
              exact ⟨rfl, ⟨hw4.os, hw4.tape, hw4.output, hw4.size, hw4.block⟩⟩
        · have hw4 : Below w.heap.size w w4 := hwr.trans (hb4.mono hwr.size)
          have hbx4 := hbxr.below hb4 hbxr.lt
          have c0 := hbx4.cell 0
          have hsp : x < 0 ∨ (0 ≤ x ∧ (u.shared.length : Int) ≤ x) := by omega
          clear hno hb4 cr2 hbxr
          rcases hsp with h | ⟨h, h'⟩
          · have d1 : decide ((0 : Int) ≤ x) = false := decide_eq_false (by omega)
            clear h
            go_wp2
            go_loopw [17] (fun v17 wr => v17 = .int .i64 0 ∧ wr = w4) (fun _ _ => 0)
            case atStart => exact ⟨rfl, rfl⟩
            case round =>
              obtain ⟨rfl, rfl⟩ := hrel
              go_wp2
              go_ret
              exact ⟨rfl, hw4⟩
          · have d1 : decide ((0 : Int) ≤ x) = true := decide_eq_true h
            have d2 : decide (x < (u.shared.length : Int)) = false := decide_eq_false (by omega)
            clear h h'
            go_wp2
            go_loopw [17] (fun v17 wr => v17 = .int .i64 0 ∧ wr = w4) (fun _ _ => 0)
            case atStart => exact ⟨rfl, rfl⟩
            case round =>
              obtain ⟨rfl, rfl⟩ := hrel
              go_wp2
              go_ret
              exact ⟨rfl, hw4⟩
        · exact absurd HCK.out hck4
end Go.Proofs.YtpaieopclpddnaaDoor
namespace Go.Proofs.YtpaieopclpddnaaDoor
open Go Go.RowKit Go.ChangeShapes Go.WideShapes Go.ChangeAt
namespace underns
set_option maxRecDepth 100000 in
theorem contract (H : Type) (enc : TypeId × Value → H) (W : World) (base : Nat) (args : Array Value) (ds gs : List (DataW H)) (before : List MemPlace)
    (hval : ∀ (j : Nat) t v, Tryd.f7.params[j]? = some t → args[j]? = some v → Value.okWide Tryd.prog W .any base t v)
    (hW : DataW.Whole enc Tryd.prog Tryd.f7.params.toList Rows.locksetUnderSpec.vars false W args.toList ds gs before) (hL : laidMetH Tryd.prog Rows.locksetUnderRow.laid W) :
    Calls Tryd.prog 7 args W fun e W' => ∃ v, e = .returned v ∧ Rows.locksetUnderSpec.post enc Tryd.prog Tryd.f7 false true false false W args v W' := by
  have hW' := hW
  obtain ⟨p, q, hA0, hV, rfl, hfz, hnd⟩ := hW
  have hA : DataW.TrodAll enc Tryd.prog W 0 (fun _ => true) true Tryd.f7.params.toList args.toList ds p := hA0
  have hA2 := hA
  rw [Tryd.params7] at hA hval
  obtain ⟨v0, vs0, d0, ds0, p0, q0, hargs, rfl, hp, h0, r0⟩ := trodAll_cons hA
  obtain ⟨v1, vs1, d1, ds1, p1, q1, rfl, rfl, hp1, h1, r1⟩ := trodAll_cons r0
  obtain ⟨v2, vs2, d2, ds2, p2, q2, rfl, rfl, hp2, h2, r2⟩ := trodAll_cons r1
  obtain ⟨rfl, rfl, hp9⟩ := trodAll_nil r2
  obtain rfl : args = #[v0, v1, v2] := by cases args; simp_all
  obtain ⟨rfl, rfl⟩ := trodVars_none hV
  obtain ⟨cs, u, rfl, hu, hok⟩ := open_unit (hval 0 25 v0 rfl rfl) h0
  obtain ⟨n1, rfl⟩ := okWide_int Tryd.underlying3 (hval 1 3 v1 rfl rfl)
  obtain ⟨n2, rfl⟩ := okWide_int Tryd.underlying3 (hval 2 3 v2 rfl rfl)
  have hlt := fun x hx => hW'.lt x hx
  simp only [List.append_nil] at hW' hlt
  have hT : Tab W := tab_of hL
  refine (locksetUnder_calls u cs n1 n2 W hT hu hok).mono fun e W' ⟨he, hb⟩ => ?_
  subst he
  exact ⟨_, rfl, post_below (pa := p) (pv := []) hW' (fun _ _ _ => trodAll_cons_mk (shut_bool Tryd.underlying4 _) trodAll_mk0)
    (fun sp hsp => trodAll_stays (by intro t ht; rw [Tryd.params7] at ht; exact all_again _ (by kernel_rfl) t ht) hA2 (fun x hx => hb.same (hlt x hx)) (fun x hx => hsp x hx)) (fun _ _ => rfl) (by simp) hb (ok_one (by kernel_rfl) rfl (okWide_bool_mk Tryd.underlying4 _))⟩
theorem laid_met (os : Os) : laidMet Tryd.prog Rows.locksetUnderRow.laid ((laidWorld os).forCall (fun _ _ => 0) ⟨#[], #[.agg #[.slice none 0 0, .slice none 0 0, .slice none 0 0], .int .i64 0, .int .i64 0], []⟩).memory :=
  laidMet_of_run' 8 (by kernel_rfl) (by kernel_rfl)
theorem reads (os : Os) {H : Type} (enc : TypeId × Value → H) : ∃ places, DataW.whole enc Tryd.prog ((laidWorld os).forCall (fun _ _ => 0) ⟨#[], #[.agg #[.slice none 0 0, .slice none 0 0, .slice none 0 0], .int .i64 0, .int .i64 0], []⟩).memory Tryd.f7.params.toList Rows.locksetUnderSpec.vars false
    (#[.agg #[.slice none 0 0, .slice none 0 0, .slice none 0 0], .int .i64 0, .int .i64 0] : Array Value).toList 8 = some ([.agg [.nil, .nil, .nil], .lit (.int .i64 0), .lit (.int .i64 0)], [], places) :=
  ⟨[], by kernel_rfl⟩
set_option maxRecDepth 100000 in
theorem lifted (os : Os) (started : os.Started) (H : Type) (enc : TypeId × Value → H) (F : Stop.Interp) :
    ReturnsInHanded {} Tryd.checked os 7 .any ((OpenSpec.ofChange Rows.locksetUnderSpec).preRow enc Tryd.prog Tryd.f7 Rows.locksetUnderRow.domain false Rows.locksetUnderRow.laid) (((OpenSpec.ofChange Rows.locksetUnderSpec).at F).post enc Tryd.prog Tryd.f7 false true false false) := by
  obtain ⟨places, hx⟩ := reads os enc
  refine returnsInHanded_of_row (C := Tryd.checked) (s := OpenSpec.ofChange Rows.locksetUnderSpec) own_knob started (by kernel_rfl) Tryd.func7
    (witness_row_at (enc := enc) (C := Tryd.checked) false (laidWorld os) #[.agg #[.slice none 0 0, .slice none 0 0, .slice none 0 0], .int .i64 0, .int .i64 0] rfl (by kernel_rfl) (by kernel_rfl) (by kernel_rfl)
      (OpenSpec.preRow_of_cond 8 hx (by kernel_rfl) (fun k hk => by cases hk) (by kernel_rfl) (laid_met os))) ?_
  intro W base args ds gs before hval hW _ _ _ hL _ _
  exact contract H enc W base args ds gs before hval hW hL
theorem said : Rows.LocksetUnderSaid :=
  OpenClaim.holds_of_cond 7 Tryd.f7 rfl rfl rfl rfl rfl rfl rfl ⟨rfl, rfl, rfl, rfl, rfl⟩ rfl rfl rfl rfl rfl (by kernel_rfl) Tryd.func7 (by kernel_rfl)
    (of_decide_eq_true (by kernel_rfl)) (by unfold Func.isWrapper; first | (rw [if_pos (by decide +kernel)]; kernel_rfl) | (rw [if_neg (by decide +kernel)]; exact ⟨rfl, rfl⟩))
    (fun os started H enc _ F => by rw [OpenClaim.pre_eq_preRow]; exact lifted os started H enc F)
theorem plain (f : FuncId) (fn : Func) (hf : Tryd.pinned.checked.prog.funcNamed "stile/stilelaw10.LocksetUnder" = some f) (hfn : Tryd.pinned.checked.prog.funcs[f]? = some fn) :
    false = Tryd.pinned.checked.prog.looks [] ∧ ∀ (j : Nat) t, fn.params[j]? = some t → Tryd.pinned.checked.prog.wantsStandIn t = false := by
  obtain rfl : f = 7 := Option.some.inj ((show Tryd.prog.funcNamed "stile/stilelaw10.LocksetUnder" = some 7 by kernel_rfl).symm.trans hf) |>.symm
  obtain rfl : fn = Tryd.f7 := (Option.some.inj (Tryd.func7.symm.trans hfn)).symm
  refine ⟨by kernel_rfl, fun j t ht => ?_⟩
  rw [Tryd.params7] at ht
  have hm := Array.mem_of_getElem? ht
  simp at hm
  rcases hm with rfl | rfl
  · exact (show Tryd.prog.wantsStandIn 25 = false by kernel_rfl)
  · exact (show Tryd.prog.wantsStandIn 3 = false by kernel_rfl)
end underns
/-- THE CARD. -/
theorem locksetUnder_card : Rows.LocksetUnderCardSaid :=
  Claim7.holds_tied_plain_at .later [] _ _ _ _ underns.said (fun _ h => by cases h) (by kernel_rfl) (fun _ h => by cases h) locksetUnder_row_tie rfl ⟨rfl, rfl⟩ (by kernel_rfl) rfl underns.plain (by kernel_rfl)
#print axioms locksetUnder_card
end Go.Proofs.YtpaieopclpddnaaDoor
