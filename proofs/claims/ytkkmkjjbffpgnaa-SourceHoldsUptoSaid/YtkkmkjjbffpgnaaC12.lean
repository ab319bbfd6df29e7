/- SourceHolds: a lock is held by one thread at most, from its NodeLock to its NodeUnlock; who waits can't step. Proved where the arguments are of bulk at most 1048576. -/
import Derived.Test.YtkkmkjjbffpgnaaP73
import Derived.Test.YtkkmkjjbffpgnaaP52
import Derived.Test.YtkkmkjjbffpgnaaP74
/- The walk of the law SourceHolds. -/
namespace Go.Proofs.Ytkkmkjjbffpgnaa
open Go Go.RowKit
/-- The law's own list of holders beside the machine. -/
structure HoldAt (w wr : World) (R : Nat → Prop) (g : Nat) (L : Lay) (u : Unit_) (hb k : Nat) (m : Mach) : Prop where
  at_ : MAt w wr R g L u m
  situ : Situ u m
  own : OwnB w wr R g L hb 3 (i64sV m.holders)
  pr : m.prints.length ≤ k
theorem HoldAt.below {w wr wx : World} {R : Nat → Prop} {g : Nat} {L : Lay} {u : Unit_} {hb k : Nat} {m : Mach} (h : HoldAt w wr R g L u hb k m) (hx : Below wr.heap.size wr wx) : HoldAt w wx R g L u hb k m := ⟨h.at_.below hx, h.situ, h.own.below hx, h.pr⟩
theorem HoldAt.succ {w wr : World} {R : Nat → Prop} {g : Nat} {L : Lay} {u : Unit_} {hb k : Nat} {m : Mach} (h : HoldAt w wr R g L u hb k m) : HoldAt w wr R g L u hb (k + 1) m := ⟨h.at_, h.situ, h.own, by have := h.pr; omega⟩
set_option maxRecDepth 100000 in
theorem holds_bad (u : Unit_) (cs : List Value) (v : Value) (w : World) (hu : UnitV (cmap w) cs u) (hok : UOk u) (hc : checkF u ≠ none) :
    Calls Try.prog 5 #[.agg cs.toArray, v] w fun e w' => e = .returned (.bool true) ∧ Below w.heap.size w w' := by
  have hnew := fun wr (h : UnitV (cmap wr) cs u) => new_bad u cs wr h hok hc
  have hu0 := hu
  obtain ⟨su, lu, gu, rfl, -, -, -⟩ := hu0
  have HC := Lib.hid hnew
  have HU := Lib.hid hu
  have HLD : Hid (∀ j v, ([su, lu, gu] : List Value)[j]? = some v → (w.alloc (.cells #[su, lu, gu] 25)).cell? ⟨w.heap.size, 0 + j, none⟩ = some v) := cell_newl w _ _ _ rfl
  clear hu hok hc hnew
  go_enter Try.func5, Try.ntmps5
  go_wp2_with (first
    | (refine wpList_load_at rfl 25 _ rfl w.heap.size 0 rfl _ _ HLD.out Try.underlying25 rfl (by kernel_rfl) ?_))
  refine (HC.out _ (HU.out.mono (cmap_alloc _ _))).mono ?_
  rintro e w1 ⟨rfl, hb⟩
  go_wp2_with fail
  refine (lives7_calls _).mono ?_
  rintro e w2 ⟨rfl, hb2⟩
  have hB : Below w.heap.size w w2 := ((Below_alloc' w _).trans (hb.mono (by simp))).trans (hb2.mono (by have := hb.size; simp at this; omega))
  clear hb hb2 HLD
  go_wp2
  go_ret
  exact ⟨rfl, hB⟩
set_option maxRecDepth 100000 in
set_option maxHeartbeats 4000000 in
theorem holds_good (u : Unit_) (cs : List Value) (A : Option Addr) (c : Nat) (l : List Int) (w : World) (hu : UnitV (cmap w) cs u) (hok : UOk u) (hso : SOk u) (hv : Ints (cmap w) (.slice A l.length c) l) (hl : l.length ≤ 1048576) (hc : checkF u = none) :
    Calls Try.prog 5 #[.agg cs.toArray, .slice A l.length c] w fun e w' => e = .returned (.bool true) ∧ Below w.heap.size w w' := by
  have hnew := fun wr (h : UnitV (cmap wr) cs u) => new_good u cs wr h hok hc
  have hru := checkF_none hc
  have hst := start_situ hc hso
  have hu0 := hu
  obtain ⟨su, lu, gu, rfl, -, hlk, -⟩ := hu0
  obtain ⟨lA, lc, rfl, -, -, -⟩ := id hlk
  have nL := hru.locks
  have HC := Lib.hid hnew
  have HU := Lib.hid hu
  have HK := Lib.hid (And.intro hru (And.intro hok (And.intro hst hv)))
  have HLD : Hid (∀ j v, ([su, .slice lA u.locks.length lc, gu] : List Value)[j]? = some v → (w.alloc (.cells #[su, .slice lA u.locks.length lc, gu] 25)).cell? ⟨w.heap.size, 0 + j, none⟩ = some v) := cell_newl w _ _ _ rfl
  clear hu hok hc hnew hst hso hv hlk hru
  go_enter Try.func5, Try.ntmps5
  go_wp2_with (first
    | (refine wpList_load_at rfl 25 _ rfl w.heap.size 0 rfl _ _ HLD.out Try.underlying25 rfl (by kernel_rfl) ?_))
  refine (HC.out _ (HU.out.mono (cmap_alloc _ _))).mono ?_
  rintro e w1 ⟨g, L, R, rfl, hM, hR, hmu, hb⟩
  have hA0 := MAt.start (Below_alloc' w (.cells #[su, .slice lA u.locks.length lc, gu] 25)) hM hR hmu hb
  have hbx : Blk w1 w.heap.size 25 [su, .slice lA u.locks.length lc, gu] := (Blk.new w _ _).below hb (by simp)
  have hLt : ∀ q, L.mut g q → q < w1.heap.size := fun q hq => hM.lt hq
  have HA := Lib.hid (And.intro hA0 (And.intro hbx hLt))
  clear hM hR hmu hb hA0 hbx HLD hLt
  go_wp2_with fail
  refine (lives7_calls _).mono ?_
  rintro e w2 ⟨rfl, hb2⟩
  have hA2 := HA.out.1.below hb2
  have u1 : w2.cell? ⟨w.heap.size, 1, none⟩ = some (.slice lA u.locks.length lc) := (HA.out.2.1.below hb2 HA.out.2.1.lt).cell 1
  have hO2 := OwnB.new hA2 (fun q hq => Nat.lt_of_lt_of_le (HA.out.2.2 q hq) hb2.size) 3 (zerosV u.locks.length)
  have hA3 := hA2.below (Below_alloc' w2 (.cells (zerosV u.locks.length).toArray 3))
  have hzz : (zerosV u.locks.length).toArray = Array.replicate u.locks.length (.int .i64 0) := by simp [zerosV]
  rw [hzz] at hO2 hA3
  have HA2 := Lib.hid (And.intro hA3 hO2)
  have hm1 := fun w => mk_run (P := Try.prog) sl_int rfl u.locks.length (by omega) (by decide) w
  clear hA2 hO2 hA3 hb2 hzz
  go_wp2
  clear hm1 u1
  obtain ⟨hb, hhb⟩ : ∃ hb, w2.heap.size = hb := ⟨_, rfl⟩
  rw [hhb] at HA2
  rw [hhb]
  clear hhb
  go_loopw [40, 8] (fun i _ wr => ∃ k : Nat, i = .int .i64 k ∧ k ≤ u.locks.length ∧ Hid (MAt w wr R g L u (startM u) ∧ OwnB w wr R g L hb 3 (i64sV (List.replicate k (-1) ++ List.replicate (u.locks.length - k) 0)))) (fun i _ _ => u.locks.length - (intOf i).toNat)
  case atStart => exact ⟨0, rfl, by omega, Lib.hid ⟨HA2.out.1, by have := HA2.out.2; rw [zeros_ints] at this; exact this⟩⟩
  case round =>
    clear HA2
    obtain ⟨k, rfl, hk, HN⟩ := hrel
    by_cases hlt : k < u.locks.length
    · have hx : (List.replicate k (-1 : Int) ++ List.replicate (u.locks.length - k) 0)[k]? = some 0 := by
        rw [List.getElem?_append_right (by simp)]
        simp [List.getElem?_replicate]; omega
      have hcj : wr.cell? ⟨hb, k, none⟩ = some (.int .i64 0) := by rw [HN.out.2.blk.cell]; unfold i64sV; rw [List.getElem?_map, hx]; rfl
      have hfj : wr.frozen? ⟨hb, k, none⟩ = false := HN.out.2.blk.frozen k
      obtain ⟨hN2, hO2⟩ := HN.out.1.set HN.out.2 (by decide) k (.int .i64 (-1))
      have hst : (List.replicate k (-1 : Int) ++ List.replicate (u.locks.length - k) 0).set k (-1) = List.replicate (k + 1) (-1) ++ List.replicate (u.locks.length - (k + 1)) 0 := by
        rw [List.set_append_right _ _ (by simp), List.length_replicate, Nat.sub_self]
        have : u.locks.length - k = (u.locks.length - (k + 1)) + 1 := by omega
        rw [this, List.replicate_succ, List.set_cons_zero, List.replicate_succ', List.append_assoc]
        rfl
      rw [← i64sV_set, hst] at hO2
      have HFIN := Lib.hid (And.intro hN2 hO2)
      have i0 : (0 : Int) ≤ k := by omega
      have i1 : (k : Int) < u.locks.length := by omega
      clear hN2 hO2 hst hx HN
      go_wp2
      go_roundw
      case rel => exact ⟨k + 1, by go_num, by omega, HFIN⟩
      case measure => simp [intOf]; omega
    · obtain rfl : k = u.locks.length := by omega
      clear hk hlt
      have ng : ¬ ((u.locks.length : Int) < u.locks.length) := by omega
      have hH0 : HoldAt w wr R g L u hb 0 (startM u) := ⟨HN.out.1, HK.out.2.2.1, by
        have := HN.out.2
        rw [Nat.sub_self, List.replicate_zero, List.append_nil] at this
        rw [show (startM u).holders = List.replicate u.locks.length (-1) from by show (u.locks.map fun _ => (-1 : Int)) = _; rw [List.map_const']]
        exact this, by simp [startM]⟩
      have HH := Lib.hid hH0
      clear hH0 HN
      go_wp2
      go_loopw [49, 10, 11, 13, 14, 15, 16, 17, 77, 80, 95, 56, 112] (fun i _ _ _ _ _ _ _ _ _ _ _ _ wr => ∃ (k : Nat) (mk : Mach), i = .int .i64 k ∧ k ≤ l.length ∧ Hid (HoldAt w wr R g L u hb k mk)) (fun i _ _ _ _ _ _ _ _ _ _ _ _ _ => l.length - (intOf i).toNat)
      case atStart => exact ⟨0, _, rfl, by omega, HH⟩
      case round =>
        clear HH ng HA
        obtain ⟨k, mk, rfl, hk, HH⟩ := hrel
        by_cases hlt : k < l.length
        · obtain ⟨t, ht⟩ : ∃ t, l[k]? = some t := ⟨_, List.getElem?_eq_getElem hlt⟩
          obtain ⟨sb, so, rfl, hsc⟩ := (HK.out.2.2.2.mono (cmap_below HH.out.at_.bel)).at_ ht
          rw [Nat.mul_one] at hsc
          have hcs : wr.cell? ⟨sb, so + k, none⟩ = some (.int .i64 t) := hsc
          obtain ⟨pv, hM, hmu⟩ := HH.out.at_.ex
          have hbc := blocked_calls hM HH.out.situ.ok HK.out.1 (by rw [HH.out.situ.ok.at_]; have := HK.out.1.threads; omega)
          have hiff := wait_iff HH.out.situ.ok t
          obtain ⟨bl, hbl⟩ : ∃ bl, blockedF u mk = bl := ⟨_, rfl⟩
          rw [hbl] at hbc hiff
          have HBC := Lib.hid hbc
          have HIF := Lib.hid hiff
          have i0 : (0 : Int) ≤ k := by omega
          have i1 : (k : Int) < l.length := by omega
          clear hsc hM hmu hbc hiff hbl ht
          go_wp2_with fail
          refine HBC.out.mono ?_
          rintro e w5 ⟨bA, bc, rfl, hbl5, hb5⟩
          have hH5 := HH.out.below hb5
          have HH5 := Lib.hid hH5
          have HBL := Lib.hid (hbl5.mono (part_le _ _ _))
          have hbll := hbl5.len.2.2
          clear hbl5 hb5 hH5 HH HBC hcs
          go_wp2
          go_loop [56, 11, 13] (fun i a _ => ∃ (j : Nat) (b : Bool), i = .int .i64 j ∧ j ≤ bl.length ∧ a = .bool b ∧ Hid (b = decide (t ∈ bl.take j))) (fun i _ _ => bl.length - (intOf i).toNat)
          case atStart => exact ⟨0, false, rfl, by omega, rfl, Lib.hid (by simp)⟩
          case round =>
            obtain ⟨j, b, rfl, hj, rfl, HB⟩ := hrel
            by_cases hjl : j < bl.length
            · obtain ⟨x, hx⟩ : ∃ x, bl[j]? = some x := ⟨_, List.getElem?_eq_getElem hjl⟩
              obtain ⟨xb, xo, rfl, hxc⟩ := HBL.out.at_ hx
              rw [Nat.mul_one] at hxc
              have hcx : w5.cell? ⟨xb, xo + j, none⟩ = some (.int .i64 x) := hxc
              have htk : bl.take (j + 1) = bl.take j ++ [x] := by rw [List.take_add_one, hx]; rfl
              have HTK := Lib.hid htk
              have j0 : (0 : Int) ≤ j := by omega
              have j1 : (j : Int) < bl.length := by omega
              clear hx hxc htk
              cases b with
              | true =>
                go_wp2
                go_round
                case rel => exact ⟨j + 1, true, by go_num, by omega, rfl, Lib.hid (by
                  rw [HTK.out]; have := HB.out; symm at this; rw [decide_eq_true_eq] at this; symm; rw [decide_eq_true_eq]; exact List.mem_append_left _ this)⟩
                case measure => simp [intOf]; omega
              | false =>
                have hnm : t ∉ bl.take j := by have := HB.out; symm at this; rw [decide_eq_false_iff_not] at this; exact this
                have HNM := Lib.hid hnm; clear hnm
                by_cases hxt : x = t
                · have ex : (x == t) = true := by simp [hxt]
                  have HXT := Lib.hid hxt; clear hxt
                  go_wp2
                  go_round
                  case rel => exact ⟨j + 1, true, by go_num, by omega, rfl, Lib.hid (by
                    rw [HTK.out]; symm; rw [decide_eq_true_eq, HXT.out]; simp)⟩
                  case measure => simp [intOf]; omega
                · have ex : (x == t) = false := by simp [hxt]
                  have HXT := Lib.hid hxt; clear hxt
                  go_wp2
                  go_round
                  case rel => exact ⟨j + 1, false, by go_num, by omega, rfl, Lib.hid (by
                    rw [HTK.out]; symm; rw [decide_eq_false_iff_not, List.mem_append, List.mem_singleton]
                    rintro (e | e)
                    · exact HNM.out e
                    · exact HXT.out e.symm)⟩
                  case measure => simp [intOf]; omega
            · obtain rfl : j = bl.length := by omega
              rw [List.take_length] at HB
              have ngb : ¬ ((bl.length : Int) < bl.length) := by omega
              obtain ⟨pv, hM, hmu⟩ := HH5.out.at_.ex
              have hstep := step_calls t hM HH5.out.situ.ok HH5.out.situ.mi HK.out.1 HK.out.2.1 (by have := HH5.out.pr; omega) HH5.out.at_.rl
              have hss := HH5.out.situ.step HK.out.1 HK.out.2.1 t
              have hpp := step_prints HH5.out.situ.ok t
              have hh := @holds_step u HK.out.1 mk HH5.out.situ t
              obtain ⟨d, hdd⟩ : ∃ d, stepD u mk t = d := ⟨_, rfl⟩
              obtain ⟨mn, hmn⟩ : ∃ mn, stepM u mk t = mn := ⟨_, rfl⟩
              have hnot := @step_not u mk t
              obtain ⟨r, hr⟩ : ∃ r, barF u mk t = r := ⟨_, rfl⟩
              rw [hdd, hmn, hr] at hstep
              rw [hmn] at hss hpp
              rw [hdd, hmn, hr] at hh
              rw [hmn, hr] at hnot
              have HIF2 := HIF.out
              rw [hr] at HIF2
              have HST := Lib.hid (And.intro hstep (And.intro hmu (And.intro hss (And.intro hpp (And.intro hM (And.intro hh (And.intro hnot HIF2)))))))
              clear hstep hmu hss hpp hM hdd hmn hr hh hnot HIF2 HIF hj hjl
              have hnextM : ∀ w6, MadeP w5 w6 R g { L with pv := pv } u mn → MAt w w6 R g L u mn ∧ OwnB w w6 R g L hb 3 (i64sV mk.holders) := fun w6 hm => ⟨HH5.out.at_.made HST.out.2.1 hm, HH5.out.own.made HST.out.2.2.2.2.1 (by decide) hm⟩
              have HNM := Lib.hid hnextM; clear hnextM
              by_cases h71 : r = 71
              · have hbt : b = true := by rw [HB.out, decide_eq_true_eq]; exact HST.out.2.2.2.2.2.2.2.2 h71
                subst hbt
                have e71 : (r == 71) = true := by simp [h71]
                have e0 : (r != 0) = true := by simp [h71]
                have hmk : mn = mk := (HST.out.2.2.2.2.2.2.1 (by omega)).1
                have HMK := Lib.hid hmk
                clear h71 hmk HB
                go_wp2_with fail
                refine HST.out.1.mono ?_
                rintro e w6 ⟨rfl, hm⟩
                have hfin : HoldAt w (w6.alloc (.cells #[.int .i64 d.thread, .int .i64 d.node, .int .u8 d.kind, .int .i64 d.thing, .int .i64 d.word, .int .i64 d.put] 55)) R g L u hb (k + 1) mn := by
                  obtain ⟨q1, q2⟩ := HNM.out _ hm
                  exact HoldAt.below ⟨q1, HST.out.2.2.1, by rw [HMK.out]; exact q2, by have := HH5.out.pr; have := HST.out.2.2.2.1; omega⟩ (Below_alloc' _ _)
                have HFIN := Lib.hid hfin
                clear hfin hm
                rw [stepD_cells]
                go_wp2
                go_roundw
                case rel => exact ⟨k + 1, _, by go_num, by omega, HFIN⟩
                case measure => simp [intOf]; omega
              · have hbt : b = false := by rw [HB.out, decide_eq_false_iff_not]; exact fun e => h71 (HST.out.2.2.2.2.2.2.2.1 e)
                subst hbt
                have e71 : (r == 71) = false := by simp [h71]
                clear HB
                by_cases h00 : r = 0
                · have e0 : (r != 0) = false := by simp [h00]
                  obtain ⟨g5, g6, g7⟩ := HST.out.2.2.2.2.2.1 h00
                  have HG := Lib.hid (And.intro g5 (And.intro g6 g7))
                  clear g5 g6 g7 h00 h71
                  by_cases k5 : d.kind = 5
                  · have e5 : (d.kind == 5) = true := by simp [k5]
                    obtain ⟨q, hq1, hq2, ⟨x, hx1, hx2⟩, hq3⟩ := HG.out.1 k5
                    have HQ := Lib.hid (And.intro hq1 (And.intro hq2 (And.intro hx1 hq3)))
                    have hxg : decide (x ≥ 0) = false := decide_eq_false (by omega)
                    have q0 : (0 : Int) ≤ q := by omega
                    have q1 : (q : Int) < u.locks.length := by omega
                    clear k5 hq2 hx1 hx2 hq3
                    go_wp2_with fail
                    refine HST.out.1.mono ?_
                    rintro e w6 ⟨rfl, hm⟩
                    obtain ⟨p1, p2⟩ := HNM.out _ hm
                    have p1' := p1.below (Below_alloc' w6 (.cells #[.int .i64 d.thread, .int .i64 d.node, .int .u8 d.kind, .int .i64 q, .int .i64 d.word, .int .i64 d.put] 55))
                    have p2' := p2.below (Below_alloc' w6 (.cells #[.int .i64 d.thread, .int .i64 d.node, .int .u8 d.kind, .int .i64 q, .int .i64 d.word, .int .i64 d.put] 55))
                    have c1 : (w6.alloc (.cells #[.int .i64 d.thread, .int .i64 d.node, .int .u8 d.kind, .int .i64 q, .int .i64 d.word, .int .i64 d.put] 55)).cell? ⟨hb, q, none⟩ = some (.int .i64 x) := by rw [p2'.blk.cell]; unfold i64sV; rw [List.getElem?_map, HQ.out.2.2.1]; rfl
                    have f1 : (w6.alloc (.cells #[.int .i64 d.thread, .int .i64 d.node, .int .u8 d.kind, .int .i64 q, .int .i64 d.word, .int .i64 d.put] 55)).frozen? ⟨hb, q, none⟩ = false := p2'.blk.frozen q
                    obtain ⟨p3, p4⟩ := p1'.set p2' (by decide) q (.int .i64 t)
                    rw [← i64sV_set] at p4
                    have hN : HoldAt w ((w6.alloc (.cells #[.int .i64 d.thread, .int .i64 d.node, .int .u8 d.kind, .int .i64 q, .int .i64 d.word, .int .i64 d.put] 55)).setCell ⟨hb, q, none⟩ (.int .i64 t)) R g L u hb (k + 1) mn := ⟨p3, HST.out.2.2.1, by rw [HQ.out.2.2.2]; exact p4, by have := HH5.out.pr; have := HST.out.2.2.2.1; omega⟩
                    have HN := Lib.hid hN
                    clear hN p1 p2 p1' p2' p3 p4 hm
                    rw [stepD_cells, hq1]
                    clear hq1
                    go_wp2
                    go_loopw [112, 16, 17] (fun i _ _ wb => ∃ (j : Nat), i = .int .i64 j ∧ j ≤ u.locks.length ∧ Hid (HoldAt w wb R g L u hb (k + 1) mn)) (fun i _ _ _ => u.locks.length - (intOf i).toNat)
                    case atStart => exact ⟨0, rfl, by omega, HN⟩
                    case round =>
                      clear HN
                      obtain ⟨j, rfl, hj, HN⟩ := hrel
                      by_cases hjl : j < u.locks.length
                      · obtain ⟨hx, hhx⟩ : ∃ hx, mn.holders[j]? = some hx := ⟨_, List.getElem?_eq_getElem (by rw [HN.out.situ.ok.holders]; exact hjl)⟩
                        have hcj : wr.cell? ⟨hb, j, none⟩ = some (.int .i64 hx) := by rw [HN.out.own.blk.cell]; unfold i64sV; rw [List.getElem?_map, hhx]; rfl
                        obtain ⟨pv2, hM2, -⟩ := HN.out.at_.ex
                        have hho := holder_calls (j : Int) hM2
                        have hhe : mn.holder j = hx := by unfold Mach.holder; rw [if_pos (by rw [HN.out.situ.ok.holders]; omega), Int.toNat_natCast, hhx]; rfl
                        rw [hhe] at hho
                        have hen := ended_calls hM2 HN.out.situ.ok HK.out.1 (by rw [HN.out.situ.ok.at_]; have := HK.out.1.threads; omega)
                        have HHO := Lib.hid hho
                        have hself : (hx != hx) = false := by simp
                        have j0 : (0 : Int) ≤ j := by omega
                        have j1 : (j : Int) < u.locks.length := by omega
                        have HHX := Lib.hid hhx
                        clear hho hhe hhx hM2
                        by_cases h0 : 0 ≤ hx
                        · have hfe : endedF u mn = false := by
                            cases hq : endedF u mn with
                            | false => rfl
                            | true => have := ended_free HK.out.1 HN.out.situ hq HHX.out; omega
                          rw [hfe] at hen
                          have HEN := Lib.hid hen
                          have hge : decide (hx ≥ 0) = true := decide_eq_true h0
                          clear hen hfe h0
                          go_wp2_with fail
                          refine HHO.out.mono ?_
                          rintro e wz ⟨rfl, rfl⟩
                          go_wp2_with fail
                          refine HEN.out.mono ?_
                          rintro e wz2 ⟨rfl, hbz⟩
                          have hNx := HN.out.below hbz
                          have HNX := Lib.hid hNx
                          clear hNx hbz
                          go_wp2
                          go_roundw
                          case rel => exact ⟨j + 1, by go_num, by omega, HNX⟩
                          case measure => simp [intOf]; omega
                        · have hge : decide (hx ≥ 0) = false := decide_eq_false h0
                          clear hen h0
                          go_wp2_with fail
                          refine HHO.out.mono ?_
                          rintro e wz ⟨rfl, rfl⟩
                          go_wp2
                          go_roundw
                          case rel => exact ⟨j + 1, by go_num, by omega, HN⟩
                          case measure => simp [intOf]; omega
                      · obtain rfl : j = u.locks.length := by omega
                        have ngl : ¬ ((u.locks.length : Int) < u.locks.length) := by omega
                        clear hj hjl
                        go_wp2
                        go_roundw
                        case rel => exact ⟨k + 1, mn, by go_num, by omega, HN⟩
                        case measure => simp [intOf]; omega
                  · have e5 : (d.kind == 5) = false := by simp [k5]
                    by_cases k6 : d.kind = 6
                    · have e6 : (d.kind == 6) = true := by simp [k6]
                      obtain ⟨q, hq1, hq2, hx1, hq3⟩ := HG.out.2.1 k6
                      have HQ := Lib.hid (And.intro hq1 (And.intro hq2 (And.intro hx1 hq3)))
                      have hself0 : (t != t) = false := by simp
                      have q0 : (0 : Int) ≤ q := by omega
                      have q1 : (q : Int) < u.locks.length := by omega
                      clear k5 k6 hq2 hx1 hq3
                      go_wp2_with fail
                      refine HST.out.1.mono ?_
                      rintro e w6 ⟨rfl, hm⟩
                      obtain ⟨p1, p2⟩ := HNM.out _ hm
                      have p1' := p1.below (Below_alloc' w6 (.cells #[.int .i64 d.thread, .int .i64 d.node, .int .u8 d.kind, .int .i64 q, .int .i64 d.word, .int .i64 d.put] 55))
                      have p2' := p2.below (Below_alloc' w6 (.cells #[.int .i64 d.thread, .int .i64 d.node, .int .u8 d.kind, .int .i64 q, .int .i64 d.word, .int .i64 d.put] 55))
                      have c1 : (w6.alloc (.cells #[.int .i64 d.thread, .int .i64 d.node, .int .u8 d.kind, .int .i64 q, .int .i64 d.word, .int .i64 d.put] 55)).cell? ⟨hb, q, none⟩ = some (.int .i64 t) := by rw [p2'.blk.cell]; unfold i64sV; rw [List.getElem?_map, HQ.out.2.2.1]; rfl
                      have f1 : (w6.alloc (.cells #[.int .i64 d.thread, .int .i64 d.node, .int .u8 d.kind, .int .i64 q, .int .i64 d.word, .int .i64 d.put] 55)).frozen? ⟨hb, q, none⟩ = false := p2'.blk.frozen q
                      obtain ⟨p3, p4⟩ := p1'.set p2' (by decide) q (.int .i64 (-1))
                      rw [← i64sV_set] at p4
                      have hN : HoldAt w ((w6.alloc (.cells #[.int .i64 d.thread, .int .i64 d.node, .int .u8 d.kind, .int .i64 q, .int .i64 d.word, .int .i64 d.put] 55)).setCell ⟨hb, q, none⟩ (.int .i64 (-1))) R g L u hb (k + 1) mn := ⟨p3, HST.out.2.2.1, by rw [HQ.out.2.2.2]; exact p4, by have := HH5.out.pr; have := HST.out.2.2.2.1; omega⟩
                      have HN := Lib.hid hN
                      clear hN p1 p2 p1' p2' p3 p4 hm
                      rw [stepD_cells, hq1]
                      clear hq1
                      go_wp2
                      go_loopw [112, 16, 17] (fun i _ _ wb => ∃ (j : Nat), i = .int .i64 j ∧ j ≤ u.locks.length ∧ Hid (HoldAt w wb R g L u hb (k + 1) mn)) (fun i _ _ _ => u.locks.length - (intOf i).toNat)
                      case atStart => exact ⟨0, rfl, by omega, HN⟩
                      case round =>
                        clear HN
                        obtain ⟨j, rfl, hj, HN⟩ := hrel
                        by_cases hjl : j < u.locks.length
                        · obtain ⟨hx, hhx⟩ : ∃ hx, mn.holders[j]? = some hx := ⟨_, List.getElem?_eq_getElem (by rw [HN.out.situ.ok.holders]; exact hjl)⟩
                          have hcj : wr.cell? ⟨hb, j, none⟩ = some (.int .i64 hx) := by rw [HN.out.own.blk.cell]; unfold i64sV; rw [List.getElem?_map, hhx]; rfl
                          obtain ⟨pv2, hM2, -⟩ := HN.out.at_.ex
                          have hho := holder_calls (j : Int) hM2
                          have hhe : mn.holder j = hx := by unfold Mach.holder; rw [if_pos (by rw [HN.out.situ.ok.holders]; omega), Int.toNat_natCast, hhx]; rfl
                          rw [hhe] at hho
                          have hen := ended_calls hM2 HN.out.situ.ok HK.out.1 (by rw [HN.out.situ.ok.at_]; have := HK.out.1.threads; omega)
                          have HHO := Lib.hid hho
                          have hself : (hx != hx) = false := by simp
                          have j0 : (0 : Int) ≤ j := by omega
                          have j1 : (j : Int) < u.locks.length := by omega
                          have HHX := Lib.hid hhx
                          clear hho hhe hhx hM2
                          by_cases h0 : 0 ≤ hx
                          · have hfe : endedF u mn = false := by
                              cases hq : endedF u mn with
                              | false => rfl
                              | true => have := ended_free HK.out.1 HN.out.situ hq HHX.out; omega
                            rw [hfe] at hen
                            have HEN := Lib.hid hen
                            have hge : decide (hx ≥ 0) = true := decide_eq_true h0
                            clear hen hfe h0
                            go_wp2_with fail
                            refine HHO.out.mono ?_
                            rintro e wz ⟨rfl, rfl⟩
                            go_wp2_with fail
                            refine HEN.out.mono ?_
                            rintro e wz2 ⟨rfl, hbz⟩
                            have hNx := HN.out.below hbz
                            have HNX := Lib.hid hNx
                            clear hNx hbz
                            go_wp2
                            go_roundw
                            case rel => exact ⟨j + 1, by go_num, by omega, HNX⟩
                            case measure => simp [intOf]; omega
                          · have hge : decide (hx ≥ 0) = false := decide_eq_false h0
                            clear hen h0
                            go_wp2_with fail
                            refine HHO.out.mono ?_
                            rintro e wz ⟨rfl, rfl⟩
                            go_wp2
                            go_roundw
                            case rel => exact ⟨j + 1, by go_num, by omega, HN⟩
                            case measure => simp [intOf]; omega
                        · obtain rfl : j = u.locks.length := by omega
                          have ngl : ¬ ((u.locks.length : Int) < u.locks.length) := by omega
                          clear hj hjl
                          go_wp2
                          go_roundw
                          case rel => exact ⟨k + 1, mn, by go_num, by omega, HN⟩
                          case measure => simp [intOf]; omega
                    · have e6 : (d.kind == 6) = false := by simp [k6]
                      have hho := HG.out.2.2 k5 k6
                      have HQ := Lib.hid hho
                      clear k5 k6 hho
                      go_wp2_with fail
                      refine HST.out.1.mono ?_
                      rintro e w6 ⟨rfl, hm⟩
                      obtain ⟨p1, p2⟩ := HNM.out _ hm
                      have hN : HoldAt w (w6.alloc (.cells #[.int .i64 d.thread, .int .i64 d.node, .int .u8 d.kind, .int .i64 d.thing, .int .i64 d.word, .int .i64 d.put] 55)) R g L u hb (k + 1) mn := HoldAt.below ⟨p1, HST.out.2.2.1, by rw [HQ.out]; exact p2, by have := HH5.out.pr; have := HST.out.2.2.2.1; omega⟩ (Below_alloc' _ _)
                      have HN := Lib.hid hN
                      clear hN p1 p2 hm
                      rw [stepD_cells]
                      go_wp2
                      go_loopw [112, 16, 17] (fun i _ _ wb => ∃ (j : Nat), i = .int .i64 j ∧ j ≤ u.locks.length ∧ Hid (HoldAt w wb R g L u hb (k + 1) mn)) (fun i _ _ _ => u.locks.length - (intOf i).toNat)
                      case atStart => exact ⟨0, rfl, by omega, HN⟩
                      case round =>
                        clear HN
                        obtain ⟨j, rfl, hj, HN⟩ := hrel
                        by_cases hjl : j < u.locks.length
                        · obtain ⟨hx, hhx⟩ : ∃ hx, mn.holders[j]? = some hx := ⟨_, List.getElem?_eq_getElem (by rw [HN.out.situ.ok.holders]; exact hjl)⟩
                          have hcj : wr.cell? ⟨hb, j, none⟩ = some (.int .i64 hx) := by rw [HN.out.own.blk.cell]; unfold i64sV; rw [List.getElem?_map, hhx]; rfl
                          obtain ⟨pv2, hM2, -⟩ := HN.out.at_.ex
                          have hho := holder_calls (j : Int) hM2
                          have hhe : mn.holder j = hx := by unfold Mach.holder; rw [if_pos (by rw [HN.out.situ.ok.holders]; omega), Int.toNat_natCast, hhx]; rfl
                          rw [hhe] at hho
                          have hen := ended_calls hM2 HN.out.situ.ok HK.out.1 (by rw [HN.out.situ.ok.at_]; have := HK.out.1.threads; omega)
                          have HHO := Lib.hid hho
                          have hself : (hx != hx) = false := by simp
                          have j0 : (0 : Int) ≤ j := by omega
                          have j1 : (j : Int) < u.locks.length := by omega
                          have HHX := Lib.hid hhx
                          clear hho hhe hhx hM2
                          by_cases h0 : 0 ≤ hx
                          · have hfe : endedF u mn = false := by
                              cases hq : endedF u mn with
                              | false => rfl
                              | true => have := ended_free HK.out.1 HN.out.situ hq HHX.out; omega
                            rw [hfe] at hen
                            have HEN := Lib.hid hen
                            have hge : decide (hx ≥ 0) = true := decide_eq_true h0
                            clear hen hfe h0
                            go_wp2_with fail
                            refine HHO.out.mono ?_
                            rintro e wz ⟨rfl, rfl⟩
                            go_wp2_with fail
                            refine HEN.out.mono ?_
                            rintro e wz2 ⟨rfl, hbz⟩
                            have hNx := HN.out.below hbz
                            have HNX := Lib.hid hNx
                            clear hNx hbz
                            go_wp2
                            go_roundw
                            case rel => exact ⟨j + 1, by go_num, by omega, HNX⟩
                            case measure => simp [intOf]; omega
                          · have hge : decide (hx ≥ 0) = false := decide_eq_false h0
                            clear hen h0
                            go_wp2_with fail
                            refine HHO.out.mono ?_
                            rintro e wz ⟨rfl, rfl⟩
                            go_wp2
                            go_roundw
                            case rel => exact ⟨j + 1, by go_num, by omega, HN⟩
                            case measure => simp [intOf]; omega
                        · obtain rfl : j = u.locks.length := by omega
                          have ngl : ¬ ((u.locks.length : Int) < u.locks.length) := by omega
                          clear hj hjl
                          go_wp2
                          go_roundw
                          case rel => exact ⟨k + 1, mn, by go_num, by omega, HN⟩
                          case measure => simp [intOf]; omega
                · have e0 : (r != 0) = true := by simp [h00]
                  have hmk : mn = mk := (HST.out.2.2.2.2.2.2.1 h00).1
                  have HMK := Lib.hid hmk
                  clear h71 hmk h00
                  go_wp2_with fail
                  refine HST.out.1.mono ?_
                  rintro e w6 ⟨rfl, hm⟩
                  have hfin : HoldAt w (w6.alloc (.cells #[.int .i64 d.thread, .int .i64 d.node, .int .u8 d.kind, .int .i64 d.thing, .int .i64 d.word, .int .i64 d.put] 55)) R g L u hb (k + 1) mn := by
                    obtain ⟨q1, q2⟩ := HNM.out _ hm
                    exact HoldAt.below ⟨q1, HST.out.2.2.1, by rw [HMK.out]; exact q2, by have := HH5.out.pr; have := HST.out.2.2.2.1; omega⟩ (Below_alloc' _ _)
                  have HFIN := Lib.hid hfin
                  clear hfin hm
                  rw [stepD_cells]
                  go_wp2
                  go_roundw
                  case rel => exact ⟨k + 1, _, by go_num, by omega, HFIN⟩
                  case measure => simp [intOf]; omega
        · have ngk : ¬ ((l.length : Int) < l.length) := by omega
          obtain rfl : k = l.length := by omega
          have hB := HH.out.at_.bel
          clear hk hlt
          go_wp2
          go_ret
          exact ⟨rfl, hB⟩
theorem sourceHolds_calls (w : World) (cs : List Value) (u : Unit_) (A : Option Addr) (c : Nat) (l : List Int) (hu : UnitV (cmap w) cs u) (hok : UOk u) (hso : SOk u) (hv : Ints (cmap w) (.slice A l.length c) l) (_hi : ∀ x ∈ l, i64 x) (hl : l.length ≤ 1048576) :
    Calls Try.prog 5 #[.agg cs.toArray, .slice A l.length c] w fun e w' => e = .returned (.bool true) ∧ Below w.heap.size w w' := by
  cases hc : checkF u with
  | none => exact holds_good u cs A c l w hu hok hso hv hl hc
  | some p => exact holds_bad u cs _ w hu hok (by rw [hc]; simp)
end Go.Proofs.Ytkkmkjjbffpgnaa
namespace Go.Proofs.Ytkkmkjjbffpgnaa
open Go Go.RowKit Go.ChangeShapes Go.WideShapes Go.ChangeAt
namespace SHolds
set_option maxRecDepth 100000 in
theorem contract (H : Type) (enc : TypeId × Value → H) (W : World) (base : Nat) (args : Array Value) (ds gs : List (DataW H)) (before : List MemPlace)
    (hval : ∀ (j : Nat) t v, Try.f5.params[j]? = some t → args[j]? = some v → Value.okWide Try.prog W .any base t v)
    (hW : DataW.Whole enc Try.prog Try.f5.params.toList Rows.sourceHoldsSpec.vars false W args.toList ds gs before) (hk : Rows.uptoSmall H (ds ++ gs) = true) :
    Calls Try.prog 5 args W fun e W' => ∃ v, e = .returned v ∧ Rows.sourceHoldsSpec.post enc Try.prog Try.f5 false true false false W args v W' := by
  have hW' := hW
  obtain ⟨p, q, hA0, hV, rfl, hfz, hnd⟩ := hW
  have hA : DataW.TrodAll enc Try.prog W 0 (fun _ => true) true Try.f5.params.toList args.toList ds p := hA0
  have hA2 := hA
  rw [Try.params5] at hA hval
  obtain ⟨v0, vs0, d0, ds0, p0, q0, hargs, rfl, hp, h0, r0⟩ := trodAll_cons hA
  obtain ⟨v1, vs1, d1, ds1, p1, q1, rfl, rfl, hp1, h1, r1⟩ := trodAll_cons r0
  obtain ⟨rfl, rfl, hp9⟩ := trodAll_nil r1
  obtain rfl : args = #[v0, v1] := by cases args; simp_all
  obtain ⟨rfl, rfl⟩ := trodVars_none hV
  have hbulk := bulk_small hk
  obtain ⟨cs0, u0, rfl, hu0, hok0, hso0⟩ := open_unit_s (hval 0 25 v0 rfl rfl) h0
  obtain ⟨A1, c1, l1, rfl, hv1, hi1, hl1⟩ := open_ints_s (hval 1 30 v1 rfl rfl) h1
  have hl1 : l1.length ≤ 1048576 := Nat.le_trans hl1 (Nat.le_trans (bulk_part (by simp)) hbulk)
  have hlt := fun x hx => hW'.lt x hx
  simp only [List.append_nil] at hW' hlt
  refine (sourceHolds_calls W cs0 u0 A1 c1 l1 hu0 hok0 hso0 hv1 hi1 hl1).mono fun e W' ⟨he, hb⟩ => ?_
  subst he
  exact ⟨_, rfl, post_below (pa := p) (pv := []) hW' (fun _ _ _ => trodAll_cons_mk (shut_bool Try.underlying4 _) trodAll_mk0)
    (fun sp hsp => trodAll_stays (by intro t ht; rw [Try.params5] at ht; exact all_again _ (by kernel_rfl) t ht) hA2 (fun x hx => hb.same (hlt x hx)) (fun x hx => hsp x hx)) (fun _ _ => rfl) (by simp) hb (ok_one (by kernel_rfl) rfl (okWide_bool_mk Try.underlying4 _))⟩
theorem laid_met (os : Os) : laidMet Try.prog Rows.sourceHoldsUptoRow.laid ((laidWorld os).forCall (fun _ _ => 0) ⟨#[], #[.agg #[.slice none 0 0, .slice none 0 0, .slice none 0 0], .slice none 0 0], []⟩).memory :=
  ⟨[], rfl, List.nodup_nil, fun _ _ h => by cases h⟩
theorem reads (os : Os) {H : Type} (enc : TypeId × Value → H) : ∃ places, DataW.whole enc Try.prog ((laidWorld os).forCall (fun _ _ => 0) ⟨#[], #[.agg #[.slice none 0 0, .slice none 0 0, .slice none 0 0], .slice none 0 0], []⟩).memory Try.f5.params.toList Rows.sourceHoldsSpec.vars false
    (#[.agg #[.slice none 0 0, .slice none 0 0, .slice none 0 0], .slice none 0 0] : Array Value).toList 8 = some ([.agg [.nil, .nil, .nil], .nil], [], places) :=
  ⟨[], by kernel_rfl⟩
set_option maxRecDepth 100000 in
theorem lifted (os : Os) (started : os.Started) (H : Type) (enc : TypeId × Value → H) (F : Stop.Interp) :
    ReturnsInHanded {} Try.checked os 5 .any ((Rows.OpenSpec.upto Rows.sourceHoldsSpec).preRow enc Try.prog Try.f5 Rows.sourceHoldsUptoRow.domain false Rows.sourceHoldsUptoRow.laid) (((Rows.OpenSpec.upto Rows.sourceHoldsSpec).at F).post enc Try.prog Try.f5 false true false false) := by
  obtain ⟨places, hx⟩ := reads os enc
  refine returnsInHanded_of_row (C := Try.checked) (s := Rows.OpenSpec.upto Rows.sourceHoldsSpec) own_knob started (by kernel_rfl) Try.func5
    (witness_row_at (enc := enc) (C := Try.checked) false (laidWorld os) #[.agg #[.slice none 0 0, .slice none 0 0, .slice none 0 0], .slice none 0 0] rfl (by kernel_rfl) (by kernel_rfl) (by kernel_rfl)
      (OpenSpec.preRow_of_cond 8 hx (by kernel_rfl) (fun k hk => by injection hk with hk; subst hk; kernel_rfl) (by kernel_rfl) (laid_met os))) ?_
  intro W base args ds gs before hval hW _ hk _ _ _ _
  exact contract H enc W base args ds gs before hval hW (hk _ rfl)
theorem said : Rows.SourceHoldsUptoSaid :=
  OpenClaim.holds_of_cond 5 Try.f5 rfl rfl rfl rfl rfl rfl rfl ⟨rfl, rfl, rfl, rfl, rfl⟩ rfl rfl rfl rfl rfl (by kernel_rfl) Try.func5 (by kernel_rfl)
    (of_decide_eq_true (by kernel_rfl)) (by unfold Func.isWrapper; first | (rw [if_pos (by decide +kernel)]; kernel_rfl) | (rw [if_neg (by decide +kernel)]; exact ⟨rfl, rfl⟩))
    (fun os started H enc _ F => by rw [OpenClaim.pre_eq_preRow]; exact lifted os started H enc F)
end SHolds
/-- THE STATEMENT. -/
theorem sourceHolds_upto : Rows.SourceHoldsUptoSaid := SHolds.said
#print axioms sourceHolds_upto
end Go.Proofs.Ytkkmkjjbffpgnaa
