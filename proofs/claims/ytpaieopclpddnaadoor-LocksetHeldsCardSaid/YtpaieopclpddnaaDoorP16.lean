import Derived.Test.YtpaieopclpddnaaDoorP13
import Derived.Test.YtpaieopclpddnaaDoorP12
/- The walks of the reference's Under and Bare. -/
namespace Go.Proofs.YtpaieopclpddnaaDoor
open Go Go.RowKit
theorem hitsOf_under {u : Unit_} {g : Graph} (hg : RightG u g) (t i : Nat) (n : Node) (ns : List Node) (lk : Nat) :
    (hitsOf t g i (n :: ns)).filter (selU lk) = if isIn (heldAt g i) lk = true then ⟨t, i, n, heldAt g i⟩ :: (hitsOf t g (i + 1) ns).filter (selU lk) else (hitsOf t g (i + 1) ns).filter (selU lk) := by
  by_cases hr : ReachC g (-1) i
  · rw [hitsOf_yes hr, List.filter_cons]
    rfl
  · rw [hitsOf_no hr, heldL_reach hg hr, if_neg (by simp [isIn])]
def URel (u : Unit_) (lk : Nat) (cs : List Value) (w : World) (T : List Hit) (v9 v10 : Value) (wr : World) : Prop :=
  ∃ (k : Nat) (xs : List Hit), v10 = .int .i64 k ∧ k ≤ u.graphs.length ∧ Acc hitV 2 59 w.heap.size (fun _ => False) v9 xs wr ∧
    Blk wr w.heap.size 25 cs ∧ Below w.heap.size w wr ∧ xs ++ (hits k (u.graphs.drop k)).filter (selU lk) = T
def URel2 (u : Unit_) (lk : Nat) (cs : List Value) (w : World) (T : List Hit) (k : Nat) (g : Graph) (S1 : Nat → Prop) (hv : Value) (v9 v12 : Value) (wr : World) : Prop :=
  ∃ (i : Nat) (xs : List Hit), v12 = .int .i64 i ∧ i ≤ g.nodes.length ∧ Acc hitV 2 59 w.heap.size (fun _ => False) v9 xs wr ∧
    (∀ b, S1 b → b < wr.heap.size ∧ some b ≠ v9.ownBlock) ∧ Blk wr w.heap.size 25 cs ∧ Below w.heap.size w wr ∧ Sl (Cells intsV) 1 (on wr S1) hv ((heldL g).map risingL) ∧
    xs ++ ((hitsOf k g i (g.nodes.drop i)).filter (selU lk) ++ (hits (k + 1) (u.graphs.drop (k + 1))).filter (selU lk)) = T
set_option maxRecDepth 100000 in
set_option maxHeartbeats 4000000 in
theorem under2_calls (u : Unit_) (cs : List Value) (lk : Int) (w : World) (hu : UnitV (cmap w) cs u) (hok : UOk u) :
    Calls Tryd.prog 17 #[.agg cs.toArray, .int .i64 lk] w (AccPost u (0 ≤ lk ∧ lk < u.locks.length) (underF u lk) w) := by
  have hu0 := hu
  obtain ⟨sv, lv, gv, rfl, hs, hl, hg⟩ := hu
  obtain ⟨lA, lc, rfl, -⟩ := id hl
  obtain ⟨gA, gc, rfl, -⟩ := id hg
  have bl := hl.len.2.2
  have bg := hg.len.2.2
  have hbx := Blk.new w 25 [sv, .slice lA u.locks.length lc, .slice gA u.graphs.length gc]
  have HLD : Hid (∀ j v, ([sv, .slice lA u.locks.length lc, .slice gA u.graphs.length gc] : List Value)[j]? = some v → (w.alloc (.cells #[sv, .slice lA u.locks.length lc, .slice gA u.graphs.length gc] 25)).cell? ⟨w.heap.size, 0 + j, none⟩ = some v) := cell_newl w _ _ _ rfl
  unfold AccPost
  obtain ⟨r, hr⟩ : ∃ r, checkF u = r := ⟨_, rfl⟩
  rw [hr]
  cases r with
  | some ti =>
    obtain ⟨t, i⟩ := ti
    go_enter Tryd.func17, Tryd.ntmps17
    go_wp2_with (first
      | (refine wpList_load_at rfl 25 _ rfl w.heap.size 0 rfl _ _ HLD.out Tryd.underlying25 rfl (by kernel_rfl) ?_)
      | (go_at_call 31; refine (check2_calls u [sv, .slice lA u.locks.length lc, .slice gA u.graphs.length gc] _ (hu0.mono (cmap_alloc _ _)) hok).mono ?_; rintro e w1 ⟨rfl, hb1⟩; rw [hr]; clear hr; unfold checkV))
    go_ret2
    exact .inr (.inr ⟨by simp, rfl, (Below_alloc' _ _).trans (hb1.mono (by simp))⟩)
  | none =>
    have hru := checkF_none hr
    by_cases hlk : 0 ≤ lk ∧ lk < u.locks.length
    · obtain ⟨lkn, rfl⟩ : ∃ n : Nat, lk = n := ⟨lk.toNat, by omega⟩
      have hl16 := hru.locks
      have hln : lkn < u.locks.length := by omega
      have HLK := Lib.hid hlk; clear hlk
      obtain ⟨T, hT⟩ : ∃ T, underF u lkn = T := ⟨_, rfl⟩
      have hTl : T.length ≤ 32768 := by rw [← hT]; exact Nat.le_trans (List.length_filter_le _ _) (hitsU_length hru)
      rw [hT]
      have hT2 : (hits 0 u.graphs).filter (selU lkn) = T := hT
      have HT := Lib.hid hT2; clear hT2 hT
      have d1 : decide ((lkn : Int) < 0) = false := by simp <;> omega
      have d2 : decide ((u.locks.length : Int) ≤ (lkn : Int)) = false := by simp; omega
      go_enter Tryd.func17, Tryd.ntmps17
      go_wp2_with (first
        | (refine wpList_load_at rfl 25 _ rfl w.heap.size 0 rfl _ _ HLD.out Tryd.underlying25 rfl (by kernel_rfl) ?_)
        | (go_at_call 31; refine (check2_calls u [sv, .slice lA u.locks.length lc, .slice gA u.graphs.length gc] _ (hu0.mono (cmap_alloc _ _)) hok).mono ?_; rintro e w1 ⟨rfl, hb1⟩; rw [hr]; clear hr; unfold checkV; have hbx1 := hbx.below hb1 hbx.lt; have hcx1 := hbx1.cell 1; have hcx2 := hbx1.cell 2))
      have hw1 : Below w.heap.size w w1 := (Below_alloc' _ _).trans (hb1.mono (by simp))
      clear hb1 hcx1 hcx2
      go_loopw [9, 10] (fun v9 v10 wr => URel u lkn [sv, .slice lA u.locks.length lc, .slice gA u.graphs.length gc] w T v9 v10 wr) (fun _ v10 _ => u.graphs.length - (intOf v10).toNat)
      case atStart => exact ⟨0, [], rfl, by omega, Acc.nil _ _ _ _ _, hbx1, hw1, HT.out⟩
      case round =>
        clear hw1 hbx1
        obtain ⟨k, xs, rfl, hk, ha, hbk, hbel, hxs⟩ := hrel
        have HXS := Lib.hid hxs; clear hxs
        have hcx2 := hbk.cell 2
        have hbs := hbel.size
        by_cases hlt : k < u.graphs.length
        · obtain ⟨g, hgk⟩ : ∃ g, u.graphs[k]? = some g := ⟨_, List.getElem?_eq_getElem hlt⟩
          obtain ⟨b, o, rfl, cg, hgv, hdc⟩ := hg.at_ hgk
          have hrg := hru.graphs g (List.mem_of_getElem? hgk)
          have hxs2 := HXS.out
          rw [drop_at hgk, hits, List.filter_append] at hxs2
          have HXS2 := Lib.hid hxs2; clear hxs2
          have HGV := hgv
          obtain ⟨nv, rfl, nA, nc, rfl, hnc1, hnc2, hnn⟩ := hgv
          have hld : ∀ j v, ([.string g.name, .int .i64 g.locals, .int .i64 g.slots, .slice nA g.nodes.length nc] : List Value)[j]? = some v → w.cell? ⟨b, o + k * 4 + j, none⟩ = some v := fun j v h => hdc j v h
          have HLDR : Hid (∀ j v, ([.string g.name, .int .i64 g.locals, .int .i64 g.slots, .slice nA g.nodes.length nc] : List Value)[j]? = some v → wr.cell? ⟨b, o + k * 4 + j, none⟩ = some v) := fun j v h => cmap_below hbel _ _ _ (hld j v h)
          clear hld hdc
          have HGK := Lib.hid hgk; clear hgk
          have hk0 : (0 : Int) ≤ k := by omega
          have hkl : (k : Int) < u.graphs.length := by omega
          have hnm := hrg.whole.most
          go_wp2_with (first
            | (refine wpList_load_at rfl 42 _ rfl b (o + k * 4) rfl _ _ HLDR.out Tryd.underlying42 rfl (by kernel_rfl) ?_)
            | (go_at_call 38; refine (heldOf_calls u g [.string g.name, .int .i64 g.locals, .int .i64 g.slots, .slice nA g.nodes.length nc] _ hrg hl16 (HGV.mono (cmap_below hbel))).mono ?_; rintro e w2 ⟨hv, rfl, hhv, hb2⟩))
          obtain ⟨hA, hc, hve, -⟩ := id hhv
          rw [List.length_map] at hve
          subst hve
          have HHL := Lib.hid (heldL_len hrg)
          have hs2 := hb2.size
          have hv9 := ha.lt
          have ha2 := ha.keep hb2
          have hS3 : ∀ b, (wr.heap.size ≤ b ∧ b < w2.heap.size) → b < w2.heap.size ∧ some b ≠ u9.ownBlock := fun b h => ⟨h.2, fun e => by have := hv9 b e.symm; omega⟩
          have hhv2 : Sl (Cells intsV) 1 (on w2 (fun b => wr.heap.size ≤ b ∧ b < w2.heap.size)) (.slice hA (heldL g).length hc) ((heldL g).map risingL) :=
            hhv.mono (part_on w2 (fun b h1 h2 => ⟨h1, h2⟩))
          have hbk2 := hbk.below hb2 hbk.lt
          have hbel2 := hbel.trans (hb2.mono hbs)
          obtain ⟨S1, hS1⟩ : ∃ S1, (fun b => wr.heap.size ≤ b ∧ b < w2.heap.size) = S1 := ⟨_, rfl⟩
          rw [hS1] at hhv2
          have hS4 : ∀ b, S1 b → b < w2.heap.size ∧ some b ≠ u9.ownBlock := fun b h => hS3 b (by rw [← hS1] at h; exact h)
          clear hS1 hS3 hhv ha hb2 hbk hbel
          obtain ⟨wo, rfl⟩ : ∃ wo : World, wo = wr := ⟨_, rfl⟩
          go_wp2
          go_loopw [9, 12] (fun v9 v12 wr => URel2 u lkn [sv, .slice lA u.locks.length lc, .slice (some ⟨b, o, none⟩) u.graphs.length gc] w T k g S1 (.slice hA (heldL g).length hc) v9 v12 wr) (fun _ v12 _ => g.nodes.length - (intOf v12).toNat)
          case atStart => exact ⟨0, xs, rfl, by omega, ha2, hS4, hbk2, hbel2, hhv2, HXS2.out⟩
          case round =>
            clear ha2 hS4 hbk2 hbel2 hhv2
            obtain ⟨i, ys, rfl, hi, ha, hS, hbk, hbel, hhv, hys⟩ := hrel
            have HYS := Lib.hid hys; clear hys
            have hbs := hbel.size
            by_cases hil : i < g.nodes.length
            · obtain ⟨n, hni⟩ : ∃ n, g.nodes[i]? = some n := ⟨_, List.getElem?_eq_getElem hil⟩
              have hys2 := HYS.out
              rw [drop_at hni, hitsOf_under hrg] at hys2
              have hi0 : (0 : Int) ≤ i := by omega
              have hiH : (i : Int) < (heldL g).length := by rw [HHL.out]; omega
              obtain ⟨l, hl⟩ : ∃ l, (heldL g)[i]? = some l := ⟨_, List.getElem?_eq_getElem (by rw [HHL.out]; exact hil)⟩
              have hla : heldAt g i = l := by unfold heldAt; rw [hl]; rfl
              have hl2 : ((heldL g).map risingL)[i]? = some (risingL l) := by rw [List.getElem?_map, hl]; rfl
              obtain ⟨bh, oh, rfl, _, ⟨lv2, rfl, hlv⟩, hcell⟩ := hhv.at_ hl2
              have hcl : wr.cell? ⟨bh, oh + i, none⟩ = some lv2 := by have := on_le _ _ _ _ _ (hcell 0 lv2 rfl); rwa [Nat.mul_one] at this
              have hlv2 : Ints (cmap wr) lv2 (risingL l) := hlv.mono (on_le _ _)
              obtain ⟨qA, qc, rfl, -⟩ := id hlv2
              have hin := mem_rising (l := l) (k := lkn) (by omega)
              rw [hla] at hys2
              have hsl : ys.length ≤ 32768 := by
                have := congrArg List.length HYS.out
                rw [List.length_append] at this
                omega
              clear hcell hl2 hlv
              have HNI := Lib.hid hni; clear hni
              have HLA := Lib.hid hla; clear hla hl
              cases hq : isIn l lkn
              · rw [hq, if_neg (by simp)] at hys2
                rw [hq] at hin
                have HYS2 := Lib.hid hys2; clear hys2
                have HIN := Lib.hid hin; clear hin
                go_wp2_with (go_at_call 39; refine (has2_calls _ _ (lkn : Int) _ hlv2).mono ?_; rintro e w3 ⟨rfl, rfl⟩; rw [HIN.out])
                go_roundw
                case rel => exact ⟨i + 1, ys, by go_num, by omega, ha, hS, hbk, hbel, hhv, HYS2.out⟩
                case measure => simp [intOf]; omega
              · rw [hq, if_pos rfl] at hys2
                rw [hq] at hin
                have HYS2 := Lib.hid hys2; clear hys2
                have HIN := Lib.hid hin; clear hin
                go_wp2_with (first
                  | (go_at_call 39; refine (has2_calls _ _ (lkn : Int) _ hlv2).mono ?_; rintro e w3 ⟨rfl, rfl⟩; rw [HIN.out])
                  | (refine stop_append rfl ?_))
                refine Stop.intro ?_
                have ha3 := ha.alloc (.cells #[.int .i64 (k : Nat), .int .i64 (i : Nat)] 59)
                obtain ⟨rows, ho, hrl1, hrs, hrx⟩ := ha3.rows
                refine app_one sl_acc rfl _ _ rfl w.heap.size u9 _ rows.flatten rfl ho wr.heap.size 0 1 [.int .i64 (k : Nat), .int .i64 (i : Nat)] rfl rfl (cell_newl _ _ _ _ rfl) (by simp [Value.oneCell']) (by omega) (by decide) (by simp; omega) ?_
                intro v9' w4 hown4 hg4 hob4
                have ha4 : Acc hitV 2 59 w.heap.size (fun _ => False) v9' (ys ++ [⟨k, i, n, l⟩]) w4 := ha3.push hrl1 hrs hrx rfl hown4 hg4 hob4 (fun b h => h) (fun b h => h.elim) rfl
                have hv9 := ha.lt
                have hs4 := hg4.size
                simp only [World.size_alloc] at hs4
                have hS4 : ∀ b, S1 b → b < w4.heap.size ∧ some b ≠ v9'.ownBlock := fun b h => by
                  refine ⟨by have := (hS b h).1; omega, ?_⟩
                  rcases hob4 with e | e
                  · rw [e]; exact (hS b h).2
                  · rw [e]; intro q; injection q with q; have := (hS b h).1; simp at q; omega
                have hbel4 := (hbel.alloc hbs (.cells #[.int .i64 (k : Nat), .int .i64 (i : Nat)] 59)).grown hg4 (by simp; omega) (fun j hj => (hv9 j hj).1)
                have hbk4 := (hbk.alloc (.cells #[.int .i64 (k : Nat), .int .i64 (i : Nat)] 59)).grown hg4 (ha.blk hbk (by decide))
                have hon4 : (on wr S1).le (on w4 S1) := on_keep (fun b h1 h2 => by rw [hg4.block b (by simp; omega) (hS b h1).2, Below.heap_alloc _ _ _ h2]) (fun _ h => h)
                go_wp2_with fail
                go_roundw
                case rel => exact ⟨i + 1, ys ++ [(⟨k, i, n, l⟩ : Hit)], by go_num, by omega, ha4, hS4, hbk4, hbel4, hhv.mono hon4, by rw [List.append_assoc]; exact HYS2.out⟩
                case measure => simp [intOf]; omega
            · have hnil : g.nodes.drop i = [] := List.drop_eq_nil_of_le (by omega)
              have hys2 := HYS.out
              rw [hnil, hitsOf, List.filter_nil, List.nil_append] at hys2
              have HYS2 := Lib.hid hys2; clear hys2 hnil
              have hge : ¬ (i : Int) < (heldL g).length := by rw [HHL.out]; omega
              go_wp2
              go_roundw
              case rel => exact ⟨k + 1, ys, by go_num, by omega, ha, hbk, hbel, HYS2.out⟩
              case measure => simp [intOf]; omega
        · have hnil : u.graphs.drop k = [] := List.drop_eq_nil_of_le (by omega)
          have hxs2 := HXS.out
          rw [hnil, hits, List.filter_nil, List.append_nil] at hxs2
          subst hxs2
          go_wp2
          go_ret2
          exact .inl ⟨trivial, HLK.out, u9, rfl, ha.done (Nat.le_refl _) (Nat.le_refl _), hbel⟩
    · have HLK := Lib.hid hlk; clear hlk
      by_cases hneg : lk < 0
      · have d1 : decide (lk < 0) = true := by simp; omega
        go_enter Tryd.func17, Tryd.ntmps17
        go_wp2_with (first
          | (refine wpList_load_at rfl 25 _ rfl w.heap.size 0 rfl _ _ HLD.out Tryd.underlying25 rfl (by kernel_rfl) ?_)
          | (go_at_call 31; refine (check2_calls u [sv, .slice lA u.locks.length lc, .slice gA u.graphs.length gc] _ (hu0.mono (cmap_alloc _ _)) hok).mono ?_; rintro e w1 ⟨rfl, hb1⟩; rw [hr]; clear hr; unfold checkV; have hbx1 := hbx.below hb1 hbx.lt; have hcx1 := hbx1.cell 1))
        go_ret2
        exact .inr (.inl ⟨trivial, HLK.out, rfl, (Below_alloc' _ _).trans (hb1.mono (by simp))⟩)
      · have hge : (u.locks.length : Int) ≤ lk := by have := HLK.out; omega
        have d1 : decide (lk < 0) = false := by simp; omega
        have d2 : decide ((u.locks.length : Int) ≤ lk) = true := by simp; omega
        go_enter Tryd.func17, Tryd.ntmps17
        go_wp2_with (first
          | (refine wpList_load_at rfl 25 _ rfl w.heap.size 0 rfl _ _ HLD.out Tryd.underlying25 rfl (by kernel_rfl) ?_)
          | (go_at_call 31; refine (check2_calls u [sv, .slice lA u.locks.length lc, .slice gA u.graphs.length gc] _ (hu0.mono (cmap_alloc _ _)) hok).mono ?_; rintro e w1 ⟨rfl, hb1⟩; rw [hr]; clear hr; unfold checkV; have hbx1 := hbx.below hb1 hbx.lt; have hcx1 := hbx1.cell 1))
        go_ret2
        exact .inr (.inl ⟨trivial, HLK.out, rfl, (Below_alloc' _ _).trans (hb1.mono (by simp))⟩)
end Go.Proofs.YtpaieopclpddnaaDoor
/- The walk of the reference's Bare. -/
namespace Go.Proofs.YtpaieopclpddnaaDoor
open Go Go.RowKit
theorem filter_take {α : Type} (p : α → Bool) {l : List α} {j : Nat} {x : α} (h : l[j]? = some x) : (l.take (j + 1)).filter p = if p x = true then (l.take j).filter p ++ [x] else (l.take j).filter p := by
  obtain ⟨h1, h2⟩ := List.getElem?_eq_some_iff.1 h
  rw [List.take_succ_eq_append_getElem h1, h2, List.filter_append]
  by_cases hp : p x = true
  · rw [if_pos hp]; simp [hp]
  · rw [if_neg hp]; simp [hp]
def bareT (T : List Hit) (lk : Nat) : List Hit := T.filter (fun h => !isIn h.l lk)
theorem bareF_T (u : Unit_) (x : Int) (lk : Nat) : bareF u x lk = bareT (touchU u x) lk := by
  unfold bareF bareT touchU
  rw [List.filter_filter]
  refine List.filter_congr fun h _ => ?_
  simp only [selB, Hit.on, Int.toNat_natCast]
  rw [Bool.and_comm]
set_option maxRecDepth 100000 in
set_option maxHeartbeats 4000000 in
theorem bare2_calls (u : Unit_) (cs : List Value) (x lk : Int) (w : World) (hu : UnitV (cmap w) cs u) (hok : UOk u) :
    Calls Tryd.prog 19 #[.agg cs.toArray, .int .i64 x, .int .i64 lk] w (AccPost u ((0 ≤ x ∧ x < u.shared.length) ∧ (0 ≤ lk ∧ lk < u.locks.length)) (bareF u x lk) w) := by
  have hu0 := hu
  obtain ⟨sv, lv, gv, rfl, hs, hl, hg⟩ := hu
  obtain ⟨sA, sc, rfl, -⟩ := id hs
  obtain ⟨lA, lc, rfl, -⟩ := id hl
  have bs := hs.len.2.2
  have bl := hl.len.2.2
  have hbx := Blk.new w 25 [.slice sA u.shared.length sc, .slice lA u.locks.length lc, gv]
  have HLD : Hid (∀ j v, ([.slice sA u.shared.length sc, .slice lA u.locks.length lc, gv] : List Value)[j]? = some v → (w.alloc (.cells #[.slice sA u.shared.length sc, .slice lA u.locks.length lc, gv] 25)).cell? ⟨w.heap.size, 0 + j, none⟩ = some v) := cell_newl w _ _ _ rfl
  unfold AccPost
  obtain ⟨r, hr⟩ : ∃ r, checkF u = r := ⟨_, rfl⟩
  rw [hr]
  cases r with
  | some ti =>
    obtain ⟨t, i⟩ := ti
    go_enter Tryd.func19, Tryd.ntmps19
    go_wp2_with (first
      | (refine wpList_load_at rfl 25 _ rfl w.heap.size 0 rfl _ _ HLD.out Tryd.underlying25 rfl (by kernel_rfl) ?_)
      | (go_at_call 31; refine (check2_calls u [.slice sA u.shared.length sc, .slice lA u.locks.length lc, gv] _ (hu0.mono (cmap_alloc _ _)) hok).mono ?_; rintro e w1 ⟨rfl, hb1⟩; rw [hr]; clear hr; unfold checkV))
    go_ret2
    exact .inr (.inr ⟨by simp, rfl, (Below_alloc' _ _).trans (hb1.mono (by simp))⟩)
  | none =>
    have hru := checkF_none hr
    by_cases hall : (0 ≤ x ∧ x < u.shared.length) ∧ (0 ≤ lk ∧ lk < u.locks.length)
    · obtain ⟨lkn, rfl⟩ : ∃ n : Nat, lk = n := ⟨lk.toNat, by omega⟩
      have hl16 := hru.locks
      have hln : lkn < u.locks.length := by omega
      have d1 : decide (x < 0) = false := by simp; omega
      have d2 : decide ((u.shared.length : Int) ≤ x) = false := by simp; omega
      have d3 : decide ((lkn : Int) < 0) = false := by simp <;> omega
      have d4 : decide ((u.locks.length : Int) ≤ (lkn : Int)) = false := by simp; omega
      have HALL := Lib.hid hall; clear hall
      have hTl := touchU_length hru x
      rw [bareF_T]
      obtain ⟨T, hT⟩ : ∃ T, touchU u x = T := ⟨_, rfl⟩
      rw [hT] at hTl ⊢
      have HT := Lib.hid hT; clear hT
      go_enter Tryd.func19, Tryd.ntmps19
      go_wp2_with (first
        | (refine wpList_load_at rfl 25 _ rfl w.heap.size 0 rfl _ _ HLD.out Tryd.underlying25 rfl (by kernel_rfl) ?_)
        | (refine wpList_load_at rfl 25 _ rfl w.heap.size 0 rfl _ _ HLD1.out Tryd.underlying25 rfl (by kernel_rfl) ?_)
        | (go_at_call 31; refine (check2_calls u [.slice sA u.shared.length sc, .slice lA u.locks.length lc, gv] _ (hu0.mono (cmap_alloc _ _)) hok).mono ?_; rintro e w1 ⟨rfl, hb1⟩; rw [hr]; clear hr; unfold checkV; have hbx1 := hbx.below hb1 hbx.lt; have hcx0 := hbx1.cell 0; have hcx1 := hbx1.cell 1; have hw1 : Below w.heap.size w w1 := (Below_alloc' _ _).trans (hb1.mono (by simp)); have HLD1 : Hid (∀ j v, ([.slice sA u.shared.length sc, .slice lA u.locks.length lc, gv] : List Value)[j]? = some v → w1.cell? ⟨w.heap.size, 0 + j, none⟩ = some v) := (fun j v hj => by rw [Nat.zero_add, hbx1.cell]; exact hj))
        | (go_at_call 32; refine (touched_calls u [.slice sA u.shared.length sc, .slice lA u.locks.length lc, gv] x _ hru (hu0.mono (cmap_below hw1))).mono ?_; rintro e w2 ⟨v1, v2, rfl, h1, h2, hb2⟩))
      rw [HT.out] at h1 h2
      obtain ⟨A1, c1, rfl, -⟩ := id h1
      obtain ⟨A2, c2, hve, -⟩ := id h2
      rw [List.length_map] at hve
      subst hve
      have hw2 : Below w.heap.size w w2 := hw1.trans (hb2.mono hw1.size)
      have hw2s := hw2.size
      clear hb1 hb2 hw1 hbx1 hcx0 hcx1 HLD1
      go_wp2
      go_loopw [13, 14] (fun v13 v14 wr => ∃ k : Nat, v14 = .int .i64 k ∧ k ≤ T.length ∧ Acc hitV 2 59 w2.heap.size (fun _ => False) v13 (bareT (T.take k) lkn) wr ∧ Below w2.heap.size w2 wr) (fun _ v14 _ => T.length - (intOf v14).toNat)
      case atStart => exact ⟨0, rfl, by omega, Acc.nil _ _ _ _ _, Below.refl _ _⟩
      case round =>
        obtain ⟨k, rfl, hk, ha, hbel⟩ := hrel
        have hbs := hbel.size
        by_cases hlt : k < T.length
        · obtain ⟨h, hh⟩ : ∃ h, T[k]? = some h := ⟨_, List.getElem?_eq_getElem hlt⟩
          have hnx := filter_take (fun h : Hit => !isIn h.l lkn) hh
          have hh2 : (T.map fun h => risingL h.l)[k]? = some (risingL h.l) := by rw [List.getElem?_map, hh]; rfl
          obtain ⟨bh, oh, rfl, _, ⟨lv2, rfl, hlv⟩, hcell⟩ := h2.at_ hh2
          have hcl : wr.cell? ⟨bh, oh + k, none⟩ = some lv2 := by have := cmap_below hbel _ _ _ (part_le _ _ _ _ _ _ (hcell 0 lv2 rfl)); rwa [Nat.mul_one] at this
          have hlv2 : Ints (cmap wr) lv2 (risingL h.l) := hlv.mono ((part_le _ _ _).trans (cmap_below hbel))
          obtain ⟨qA, qc, rfl, -⟩ := id hlv2
          obtain ⟨bn, on_, rfl, cn, rfl, hnc⟩ := h1.at_ hh
          have HLDA : Hid (∀ j v, ([.int .i64 (h.t : Nat), .int .i64 (h.i : Nat)] : List Value)[j]? = some v → wr.cell? ⟨bn, on_ + k * 2 + j, none⟩ = some v) := fun j v hj => cmap_below hbel _ _ _ (part_le _ _ _ _ _ _ (hnc j v hj))
          have hin := mem_rising (l := h.l) (k := lkn) (by omega)
          have HNX := Lib.hid hnx; clear hnx hh hh2 hcell hlv hnc
          have hlen : (bareT (T.take k) lkn).length ≤ 32768 := by
            have := List.length_filter_le (fun h : Hit => !isIn h.l lkn) (T.take k)
            unfold bareT
            simp only [List.length_take] at this
            omega
          have hk0 : (0 : Int) ≤ k := by omega
          have hkl : (k : Int) < T.length := by omega
          cases hq : isIn h.l lkn
          · rw [hq] at hin
            have HIN := Lib.hid hin; clear hin
            have hsuc : bareT (T.take (k + 1)) lkn = bareT (T.take k) lkn ++ [h] := by unfold bareT; rw [HNX.out, hq]; rfl
            have HSUC := Lib.hid hsuc; clear hsuc hq
            go_wp2_with (first
              | (refine wpList_load_at rfl 59 _ rfl bn (on_ + k * 2) rfl _ _ HLDA.out Tryd.underlying59 rfl (by kernel_rfl) ?_)
              | (go_at_call 39; refine (has2_calls _ _ (lkn : Int) _ hlv2).mono ?_; rintro e w3 ⟨rfl, rfl⟩; rw [HIN.out])
              | (refine stop_append rfl ?_))
            refine Stop.intro ?_
            have ha3 := ha.alloc (.cells #[.int .i64 (h.t : Nat), .int .i64 (h.i : Nat)] 59)
            obtain ⟨rows, ho, hrl1, hrs, hrx⟩ := ha3.rows
            refine app_one sl_acc rfl _ _ rfl w2.heap.size u13 _ rows.flatten rfl ho wr.heap.size 0 1 [.int .i64 (h.t : Nat), .int .i64 (h.i : Nat)] rfl rfl (cell_newl _ _ _ _ rfl) (by simp [Value.oneCell']) (by omega) (by decide) (by simp; omega) ?_
            intro v' w4 hown4 hg4 hob4
            have ha4 : Acc hitV 2 59 w2.heap.size (fun _ => False) v' (bareT (T.take (k + 1)) lkn) w4 := by
              rw [HSUC.out]
              exact ha3.push hrl1 hrs hrx rfl hown4 hg4 hob4 (fun b h => h) (fun b h => h.elim) rfl
            have hv := ha.lt
            have hbel4 := (hbel.alloc hbs (.cells #[.int .i64 (h.t : Nat), .int .i64 (h.i : Nat)] 59)).grown hg4 (by simp; omega) (fun j hj => (hv j hj).1)
            go_wp2_with fail
            go_roundw
            case rel => exact ⟨k + 1, by go_num, by omega, ha4, hbel4⟩
            case measure => simp [intOf]; omega
          · rw [hq] at hin
            have HIN := Lib.hid hin; clear hin
            have hsuc : bareT (T.take (k + 1)) lkn = bareT (T.take k) lkn := by unfold bareT; rw [HNX.out, hq]; rfl
            have HSUC := Lib.hid hsuc; clear hsuc hq
            go_wp2_with (go_at_call 39; refine (has2_calls _ _ (lkn : Int) _ hlv2).mono ?_; rintro e w3 ⟨rfl, rfl⟩; rw [HIN.out])
            go_roundw
            case rel => exact ⟨k + 1, by go_num, by omega, by rw [HSUC.out]; exact ha, hbel⟩
            case measure => simp [intOf]; omega
        · rw [List.take_of_length_le (by omega)] at ha
          go_wp2
          go_ret2
          exact .inl ⟨trivial, HALL.out, u13, rfl, ha.done hw2s (Nat.le_refl _), hw2.trans (hbel.mono hw2s)⟩
    · have hsplit : x < 0 ∨ (0 ≤ x ∧ (u.shared.length : Int) ≤ x) ∨ ((0 ≤ x ∧ x < u.shared.length) ∧ lk < 0) ∨ ((0 ≤ x ∧ x < u.shared.length) ∧ 0 ≤ lk ∧ (u.locks.length : Int) ≤ lk) := by omega
      have HALL := Lib.hid hall; clear hall
      rcases hsplit with h | h | h | h
      · have d1 : decide (x < 0) = true := by simp; omega
        clear h
        go_enter Tryd.func19, Tryd.ntmps19
        go_wp2_with (first
          | (refine wpList_load_at rfl 25 _ rfl w.heap.size 0 rfl _ _ HLD.out Tryd.underlying25 rfl (by kernel_rfl) ?_)
          | (go_at_call 31; refine (check2_calls u [.slice sA u.shared.length sc, .slice lA u.locks.length lc, gv] _ (hu0.mono (cmap_alloc _ _)) hok).mono ?_; rintro e w1 ⟨rfl, hb1⟩; rw [hr]; clear hr; unfold checkV; have hbx1 := hbx.below hb1 hbx.lt; have hcx0 := hbx1.cell 0; have hcx1 := hbx1.cell 1))
        go_ret2
        exact .inr (.inl ⟨trivial, HALL.out, rfl, (Below_alloc' _ _).trans (hb1.mono (by simp))⟩)
      · have d1 : decide (x < 0) = false := by simp; omega
        have d2 : decide ((u.shared.length : Int) ≤ x) = true := by simp; omega
        clear h
        go_enter Tryd.func19, Tryd.ntmps19
        go_wp2_with (first
          | (refine wpList_load_at rfl 25 _ rfl w.heap.size 0 rfl _ _ HLD.out Tryd.underlying25 rfl (by kernel_rfl) ?_)
          | (go_at_call 31; refine (check2_calls u [.slice sA u.shared.length sc, .slice lA u.locks.length lc, gv] _ (hu0.mono (cmap_alloc _ _)) hok).mono ?_; rintro e w1 ⟨rfl, hb1⟩; rw [hr]; clear hr; unfold checkV; have hbx1 := hbx.below hb1 hbx.lt; have hcx0 := hbx1.cell 0; have hcx1 := hbx1.cell 1))
        go_ret2
        exact .inr (.inl ⟨trivial, HALL.out, rfl, (Below_alloc' _ _).trans (hb1.mono (by simp))⟩)
      · have d1 : decide (x < 0) = false := by simp; omega
        have d2 : decide ((u.shared.length : Int) ≤ x) = false := by simp; omega
        have d3 : decide (lk < 0) = true := by simp; omega
        clear h
        go_enter Tryd.func19, Tryd.ntmps19
        go_wp2_with (first
          | (refine wpList_load_at rfl 25 _ rfl w.heap.size 0 rfl _ _ HLD.out Tryd.underlying25 rfl (by kernel_rfl) ?_)
          | (go_at_call 31; refine (check2_calls u [.slice sA u.shared.length sc, .slice lA u.locks.length lc, gv] _ (hu0.mono (cmap_alloc _ _)) hok).mono ?_; rintro e w1 ⟨rfl, hb1⟩; rw [hr]; clear hr; unfold checkV; have hbx1 := hbx.below hb1 hbx.lt; have hcx0 := hbx1.cell 0; have hcx1 := hbx1.cell 1))
        go_ret2
        exact .inr (.inl ⟨trivial, HALL.out, rfl, (Below_alloc' _ _).trans (hb1.mono (by simp))⟩)
      · have d1 : decide (x < 0) = false := by simp; omega
        have d2 : decide ((u.shared.length : Int) ≤ x) = false := by simp; omega
        have d3 : decide (lk < 0) = false := by simp; omega
        have d4 : decide ((u.locks.length : Int) ≤ lk) = true := by simp; omega
        clear h
        go_enter Tryd.func19, Tryd.ntmps19
        go_wp2_with (first
          | (refine wpList_load_at rfl 25 _ rfl w.heap.size 0 rfl _ _ HLD.out Tryd.underlying25 rfl (by kernel_rfl) ?_)
          | (go_at_call 31; refine (check2_calls u [.slice sA u.shared.length sc, .slice lA u.locks.length lc, gv] _ (hu0.mono (cmap_alloc _ _)) hok).mono ?_; rintro e w1 ⟨rfl, hb1⟩; rw [hr]; clear hr; unfold checkV; have hbx1 := hbx.below hb1 hbx.lt; have hcx0 := hbx1.cell 0; have hcx1 := hbx1.cell 1))
        go_ret2
        exact .inr (.inl ⟨trivial, HALL.out, rfl, (Below_alloc' _ _).trans (hb1.mono (by simp))⟩)
end Go.Proofs.YtpaieopclpddnaaDoor
