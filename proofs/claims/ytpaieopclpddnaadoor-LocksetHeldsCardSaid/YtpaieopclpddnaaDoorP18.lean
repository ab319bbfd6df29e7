import Derived.Test.YtpaieopclpddnaaDoorP11
import Derived.Test.YtpaieopclpddnaaDoorP12
import Derived.Test.YtpaieopclpddnaaDoorP09
import Derived.Test.YtpaieopclpddnaaDoorP16
/- The walks of told at guards, of lockset.Guards, and of the reference's Guards. -/
namespace Go.Proofs.YtpaieopclpddnaaDoor
open Go Go.RowKit
noncomputable def guardsL (u : Unit_) : List (List Int) := (List.range u.shared.length).map fun x : Nat => guardsF u (x : Int)
theorem guardsF_length (u : Unit_) (x : Int) : (guardsF u x).length ≤ u.locks.length := by
  unfold guardsF
  split
  · simp
  · exact guardsTo_length (touchU u x) u.locks.length
theorem guard_bits {u : Unit_} (hu : RightU u) (x : Int) : (if useA (touchU u x) = 0 then [] else bitsUp (useB (touchU u x))) = guardsF u x := by
  unfold useA useB
  by_cases hT : touchU u x = []
  · rw [if_pos hT, if_pos rfl]
    unfold guardsF
    rw [if_pos hT]
  · rw [if_neg hT, if_neg hT, if_neg (tMask_ne hT)]
    exact guards_bits hu x hT
set_option maxRecDepth 100000 in
set_option maxHeartbeats 4000000 in
theorem told_guard_calls (u : Unit_) (cs : List Value) (w : World) (hT : Tab w) (hu : UnitV (cmap w) cs u) (hok : UOk u) :
    Calls Tryd.prog 42 #[.agg cs.toArray, .func (.func 43) #[] #[]] w fun e w' => (checkF u = none ∧ ∃ v, e = .returned (.tuple #[v, .int .i64 0]) ∧ Sl (Cells intsV) 1 (part w' w.heap.size w'.heap.size) v (guardsL u) ∧ Below w.heap.size w w') ∨
      (checkF u ≠ none ∧ e = .returned (.tuple #[.slice none 0 0, .int .i64 60]) ∧ Below w.heap.size w w') := by
  have hu0 := hu
  obtain ⟨sv, lv, gv, rfl, hs, hl, hg⟩ := hu
  obtain ⟨sA, sc, rfl, -⟩ := id hs
  have bs := hs.len.2.2
  have hbx := Blk.new w 25 [.slice sA u.shared.length sc, lv, gv]
  have HLD : Hid (∀ j v, ([.slice sA u.shared.length sc, lv, gv] : List Value)[j]? = some v → (w.alloc (.cells #[.slice sA u.shared.length sc, lv, gv] 25)).cell? ⟨w.heap.size, 0 + j, none⟩ = some v) := cell_newl w _ _ _ rfl
  have HT := Lib.hid hT; clear hT
  go_enter Tryd.func42, Tryd.ntmps42
  go_wp2_with (first
    | (refine wpList_load_at rfl 25 _ rfl w.heap.size 0 rfl _ _ HLD.out Tryd.underlying25 rfl (by kernel_rfl) ?_))
  refine (gather_calls u [.slice sA u.shared.length sc, lv, gv] _ (hu0.mono (cmap_alloc _ _)) hok).mono ?_
  rintro e w1 (⟨hc, mb, rfl, hm, hmb, hb1⟩ | ⟨hc, rfl, hb1⟩)
  · have hru := checkF_none hc
    have HC := Lib.hid hc; clear hc
    have hbx1 := hbx.below hb1 hbx.lt
    have hw1 : Below w.heap.size w w1 := (Below_alloc' _ _).trans (hb1.mono (by simp))
    have hw1s := hw1.size
    have hcx0 := hbx1.cell 0
    have hz := hru.shared
    have hmlt := hm.lt
    go_wp2
    go_loopw [8, 21] (fun v8 v21 wr => ∃ (k : Nat) (S : Nat → Prop), v21 = .int .i64 k ∧ k ≤ u.shared.length ∧ Acc intsV 1 56 w1.heap.size S v8 ((List.range k).map fun x : Nat => guardsF u (x : Int)) wr ∧ Below w1.heap.size w1 wr) (fun _ v21 _ => u.shared.length - (intOf v21).toNat)
    case atStart => exact ⟨0, _, rfl, by omega, Acc.nil _ _ _ _ _, Below.refl _ _⟩
    case round =>
      obtain ⟨k, S, rfl, hk, hacc, hbel⟩ := hrel
      have hbs := hbel.size
      by_cases hlt : k < u.shared.length
      · have hk0 : (0 : Int) ≤ k := by omega
        have hkl : (k : Int) < u.shared.length := by omega
        have hsuc : (List.range (k + 1)).map (fun x : Nat => guardsF u (x : Int)) = (List.range k).map (fun x : Nat => guardsF u (x : Int)) ++ [guardsF u (k : Int)] := by rw [List.range_succ, List.map_append]; rfl
        have HSUC := Lib.hid hsuc; clear hsuc
        have hmr := hm.below hbel hmlt
        have hcb := guard_bits hru (k : Int)
        have HA := Lib.hid (useA_lt hru (k : Int))
        have HB := Lib.hid (useB_lt (u := u) (k : Int))
        have hget := useF_ab (hitsU u) (k : Int)
        have HGET : Hid ((useF (hitsU u) (k : Int)).getD (.agg #[.int .u32 0, .int .u32 0]) = .agg #[.int .u32 (useA (touchU u k)), .int .u32 (useB (touchU u k))]) := hget
        have hTr : Hid (Tab wr) := (HT.out.below hw1).below hbel
        clear hget
        have hgl := guardsF_length u (k : Int)
        have hul := hru.locks
        obtain ⟨c0, hc0⟩ : ∃ c, guardsF u (k : Int) = c := ⟨_, rfl⟩
        rw [hc0] at hcb hgl
        have HCB := Lib.hid hcb; clear hcb
        have HC0 := Lib.hid hc0; clear hc0
        go_wp2_with (refine stop_lookup rfl ?_)
        refine Stop.intro ?_
        refine wp_lookup key_i Tryd.underlying109 rfl _ _ rfl mb (useF (hitsU u)) hmr (k : Int) rfl rfl (.agg #[.int .u32 0, .int .u32 0]) (zero_use _) ?_
        rw [HGET.out]
        go_wp2_with (first
          | (go_at_call 43; refine (guard_calls _ _ HB.out _ hTr.out).mono ?_; rintro e w2 ⟨rv, rfl, hrv, hb2⟩; rw [HCB.out] at hrv; obtain ⟨rA, rc, rfl, -⟩ := id hrv)
          | (refine stop_append rfl ?_))
        refine Stop.intro ?_
        have hs2 := hb2.size
        have hacc2 := hacc.keep hb2
        have hacc3 := hacc2.alloc (.cells #[.slice rA c0.length rc] 56)
        obtain ⟨rows, ho, hrl, hrs, hrx⟩ := hacc3.rows
        have hlen : ((List.range k).map fun x : Nat => guardsF u (x : Int)).length ≤ 64 := by simp; omega
        refine app_one sl_ints rfl _ _ rfl w1.heap.size u8 _ rows.flatten rfl ho w2.heap.size 0 1 [.slice rA c0.length rc] rfl rfl (cell_new1 _ _ _ _ (by simp)) (by simp [Value.oneCell']) (by omega) (by decide) (by simp; omega) ?_
        intro v' w' hown4 hgr hob
        have hv7 := hacc.lt
        have hacc4 : Acc intsV 1 56 w1.heap.size (fun b => S b ∨ (wr.heap.size ≤ b ∧ b < w2.heap.size)) v' ((List.range (k + 1)).map fun x : Nat => guardsF u (x : Int)) w' := by
          rw [HSUC.out]
          refine hacc3.push hrl hrs hrx rfl hown4 hgr hob (fun b hb => .inl hb) (fun b hb => ?_) ⟨_, rfl, ?_⟩
          · rcases hb with hb | hb
            · exact hacc3.sep b hb
            · exact ⟨by omega, by simp; omega, fun e => by have := hv7 b e.symm; omega⟩
          · rw [HC0.out]
            refine hrv.mono ((part_on w2 (S := fun b => wr.heap.size ≤ b ∧ b < w2.heap.size) fun b h1 h2 => ⟨h1, h2⟩).trans (on_keep (fun b hb hlt => ?_) (fun b hb => .inr hb)))
            rw [hgr.block b (by simp; omega) (fun e => by have := hv7 b e.symm; omega), Below.heap_alloc _ _ _ hlt]
        have hbel5 := ((hbel.trans (hb2.mono hbs)).alloc (by omega) (.cells #[.slice rA c0.length rc] 56)).grown hgr (by simp; omega) (fun j hj => (hv7 j hj).1)
        go_wp2_with fail
        go_roundw
        case rel => exact ⟨k + 1, _, by go_num, by omega, hacc4, hbel5⟩
        case measure => simp [intOf]; omega
      · have hkk : k = u.shared.length := by omega
        rw [hkk] at hacc
        have HK := Lib.hid hkk; clear hkk
        go_wp2
        go_ret2
        exact .inl ⟨HC.out, u8, rfl, hacc.done hw1s (Nat.le_refl _), hw1.trans (hbel.mono hw1s)⟩
  · have HC := Lib.hid hc; clear hc
    go_wp2
    go_ret2
    exact .inr ⟨HC.out, rfl, (Below_alloc' _ _).trans (hb1.mono (by simp))⟩
set_option maxHeartbeats 2000000 in
theorem guards_calls (u : Unit_) (cs : List Value) (w : World) (hT : Tab w) (hu : UnitV (cmap w) cs u) (hok : UOk u) :
    Calls Tryd.prog 21 #[.agg cs.toArray] w fun e w' => (checkF u = none ∧ ∃ v, e = .returned (.tuple #[v, .int .i64 0]) ∧ Sl (Cells intsV) 1 (part w' w.heap.size w'.heap.size) v (guardsL u) ∧ Below w.heap.size w w') ∨
      (checkF u ≠ none ∧ e = .returned (.tuple #[.slice none 0 0, .int .i64 60]) ∧ Below w.heap.size w w') := by
  have hu0 := hu
  obtain ⟨sv, lv, gv, rfl, -⟩ := hu
  have HLD : Hid (∀ j v, ([sv, lv, gv] : List Value)[j]? = some v → (w.alloc (.cells #[sv, lv, gv] 25)).cell? ⟨w.heap.size, 0 + j, none⟩ = some v) := cell_newl w _ _ _ rfl
  have HT := Lib.hid (hT.alloc (.cells #[sv, lv, gv] 25)); clear hT
  go_enter Tryd.func21, Tryd.ntmps21
  go_wp2_with (first
    | (refine wpList_load_at rfl 25 _ rfl w.heap.size 0 rfl _ _ HLD.out Tryd.underlying25 rfl (by kernel_rfl) ?_))
  refine (told_guard_calls u [sv, lv, gv] _ HT.out (hu0.mono (cmap_alloc _ _)) hok).mono ?_
  rintro e w1 (⟨hc, v, rfl, h1, hb1⟩ | ⟨hc, rfl, hb1⟩)
  · have HC := Lib.hid hc; clear hc
    go_wp2
    go_ret2
    exact .inl ⟨HC.out, v, rfl, h1.mono (part_mono (by simp) (Nat.le_refl _)), (Below_alloc' _ _).trans (hb1.mono (by simp))⟩
  · have HC := Lib.hid hc; clear hc
    go_wp2
    go_ret2
    exact .inr ⟨HC.out, rfl, (Below_alloc' _ _).trans (hb1.mono (by simp))⟩
set_option maxRecDepth 100000 in
set_option maxHeartbeats 4000000 in
theorem guardsu2_calls (u : Unit_) (cs : List Value) (w : World) (hu : UnitV (cmap w) cs u) (hok : UOk u) :
    Calls Tryd.prog 24 #[.agg cs.toArray] w fun e w' => (checkF u = none ∧ ∃ v, e = .returned (.tuple #[v, .int .i64 0]) ∧ Sl (Cells intsV) 1 (part w' w.heap.size w'.heap.size) v (guardsL u) ∧ Below w.heap.size w w') ∨
      (checkF u ≠ none ∧ e = .returned (.tuple #[.slice none 0 0, .int .i64 60]) ∧ Below w.heap.size w w') := by
  have hu0 := hu
  obtain ⟨sv, lv, gv, rfl, hs, hl, hg⟩ := hu
  obtain ⟨sA, sc, rfl, -⟩ := id hs
  have bs := hs.len.2.2
  have hbx := Blk.new w 25 [.slice sA u.shared.length sc, lv, gv]
  have hun : ∀ wr, Blk wr w.heap.size 25 [.slice sA u.shared.length sc, lv, gv] → ∀ j v, ([.slice sA u.shared.length sc, lv, gv] : List Value)[j]? = some v → wr.cell? ⟨w.heap.size, 0 + j, none⟩ = some v := fun wr h j v hj => by rw [Nat.zero_add, h.cell]; exact hj
  have HLD := Lib.hid (hun _ hbx)
  have HUN := Lib.hid hun; clear hun
  obtain ⟨r, hr⟩ : ∃ r, checkF u = r := ⟨_, rfl⟩
  rw [hr]
  cases r with
  | some ti =>
    obtain ⟨t, i⟩ := ti
    go_enter Tryd.func24, Tryd.ntmps24
    go_wp2_with (first
      | (refine wpList_load_at rfl 25 _ rfl w.heap.size 0 rfl _ _ HLD.out Tryd.underlying25 rfl (by kernel_rfl) ?_)
      | (go_at_call 31; refine (check2_calls u [.slice sA u.shared.length sc, lv, gv] _ (hu0.mono (cmap_alloc _ _)) hok).mono ?_; rintro e w1 ⟨rfl, hb1⟩; rw [hr]; clear hr; unfold checkV))
    go_ret2
    exact .inr ⟨by simp, rfl, (Below_alloc _ _).trans (hb1.mono (by simp))⟩
  | none =>
    have hru := checkF_none hr
    have hul := hru.locks
    go_enter Tryd.func24, Tryd.ntmps24
    go_wp2_with (first
      | (refine wpList_load_at rfl 25 _ rfl w.heap.size 0 rfl _ _ HLD.out Tryd.underlying25 rfl (by kernel_rfl) ?_)
      | (go_at_call 31; refine (check2_calls u [.slice sA u.shared.length sc, lv, gv] _ (hu0.mono (cmap_alloc _ _)) hok).mono ?_; rintro e w1 ⟨rfl, hb1⟩; rw [hr]; clear hr; unfold checkV))
    have hw1 : Below w.heap.size w w1 := (Below_alloc _ _).trans (hb1.mono (by simp))
    have hbx1 := hbx.below hb1 hbx.lt
    have hz := hru.shared
    clear hb1
    go_loopw [7, 8] (fun v7 v8 wr => ∃ (k : Nat) (S : Nat → Prop), v8 = .int .i64 k ∧ k ≤ u.shared.length ∧ Acc intsV 1 56 w.heap.size S v7 ((List.range k).map fun x : Nat => guardsF u (x : Int)) wr ∧ Below w.heap.size w wr ∧ Blk wr w.heap.size 25 [.slice sA u.shared.length sc, lv, gv]) (fun _ v8 _ => u.shared.length - (intOf v8).toNat)
    case atStart => exact ⟨0, _, rfl, by omega, Acc.nil _ _ _ _ _, hw1, hbx1⟩
    case round =>
      obtain ⟨k, S, rfl, hk, hacc, hbel, hbk⟩ := hrel
      have hcx0 := hbk.cell 0
      have hbs := hbel.size
      by_cases hlt : k < u.shared.length
      · have HLDk := Lib.hid (HUN.out _ hbk)
        have hk0 : (0 : Int) ≤ k := by omega
        have hkl : (k : Int) < u.shared.length := by omega
        have hsuc : (List.range (k + 1)).map (fun x : Nat => guardsF u (x : Int)) = (List.range k).map (fun x : Nat => guardsF u (x : Int)) ++ [guardsF u (k : Int)] := by rw [List.range_succ, List.map_append]; rfl
        have HSUC := Lib.hid hsuc; clear hsuc
        have hgl := guardsF_length u (k : Int)
        obtain ⟨c0, hc0⟩ : ∃ c, guardsF u (k : Int) = c := ⟨_, rfl⟩
        rw [hc0] at hgl
        have HC0 := Lib.hid hc0; clear hc0
        go_wp2_with (first
          | (refine wpList_load_at rfl 25 _ rfl w.heap.size 0 rfl _ _ HLDk.out Tryd.underlying25 rfl (by kernel_rfl) ?_)
          | (go_at_call 33; refine (guards2_calls u [.slice sA u.shared.length sc, lv, gv] (k : Int) _ hru (hu0.mono (cmap_below hbel))).mono ?_; rintro e w2 ⟨rv, rfl, hrv, hb2⟩; rw [HC0.out] at hrv; obtain ⟨rA, rc, rfl, -⟩ := id hrv)
          | (refine stop_append rfl ?_))
        refine Stop.intro ?_
        have hs2 := hb2.size
        have hacc2 := hacc.keep hb2
        have hacc3 := hacc2.alloc (.cells #[.slice rA c0.length rc] 56)
        obtain ⟨rows, ho, hrl, hrs, hrx⟩ := hacc3.rows
        have hlen : ((List.range k).map fun x : Nat => guardsF u (x : Int)).length ≤ 64 := by simp; omega
        refine app_one sl_ints rfl _ _ rfl w.heap.size u7 _ rows.flatten rfl ho w2.heap.size 0 1 [.slice rA c0.length rc] rfl rfl (cell_new1 _ _ _ _ (by simp)) (by simp [Value.oneCell']) (by omega) (by decide) (by simp; omega) ?_
        intro v' w' hown4 hgr hob
        have hv7 := hacc.lt
        have hacc4 : Acc intsV 1 56 w.heap.size (fun b => S b ∨ (wr.heap.size ≤ b ∧ b < w2.heap.size)) v' ((List.range (k + 1)).map fun x : Nat => guardsF u (x : Int)) w' := by
          rw [HSUC.out]
          refine hacc3.push hrl hrs hrx rfl hown4 hgr hob (fun b hb => .inl hb) (fun b hb => ?_) ⟨_, rfl, ?_⟩
          · rcases hb with hb | hb
            · exact hacc3.sep b hb
            · exact ⟨by omega, by simp; omega, fun e => by have := hv7 b e.symm; omega⟩
          · rw [HC0.out]
            refine hrv.mono ((part_on w2 (S := fun b => wr.heap.size ≤ b ∧ b < w2.heap.size) fun b h1 h2 => ⟨h1, h2⟩).trans (on_keep (fun b hb hlt => ?_) (fun b hb => .inr hb)))
            rw [hgr.block b (by simp; omega) (fun e => by have := hv7 b e.symm; omega), Below.heap_alloc _ _ _ hlt]
        have hbel5 := ((hbel.trans (hb2.mono hbs)).alloc (by omega) (.cells #[.slice rA c0.length rc] 56)).grown hgr (by simp; omega) (fun j hj => (hv7 j hj).1)
        have hbk5 := ((hbk.below hb2 hbk.lt).alloc (.cells #[.slice rA c0.length rc] 56)).grown hgr (hacc.blk hbk (by decide))
        go_wp2_with fail
        go_roundw
        case rel => exact ⟨k + 1, _, by go_num, by omega, hacc4, hbel5, hbk5⟩
        case measure => simp [intOf]; omega
      · have hkk : k = u.shared.length := by omega
        rw [hkk] at hacc
        have HK := Lib.hid hkk; clear hkk
        go_wp2
        go_ret2
        exact .inl ⟨trivial, u7, rfl, hacc.done (Nat.le_refl _) (Nat.le_refl _), hbel⟩
end Go.Proofs.YtpaieopclpddnaaDoor
/- The plain laws of LocksetGuards and LocksetUnder. -/
namespace Go.Proofs.YtpaieopclpddnaaDoor
open Go Go.RowKit
theorem bare_nil_iff {u : Unit_} {x : Int} {k : Nat} (hk : k < u.locks.length) (hne : touchU u x ≠ []) : bareF u x (k : Int) = [] ↔ (k : Int) ∈ guardsF u x := by
  rw [bareF_T]
  unfold guardsF bareT
  rw [if_neg hne, List.filter_eq_nil_iff]
  simp only [List.mem_map, List.mem_filter, List.mem_range, List.all_eq_true]
  constructor
  · intro h
    exact ⟨k, ⟨hk, fun a ha => by have := h a ha; simpa using this⟩, rfl⟩
  · rintro ⟨j, ⟨_, h⟩, e⟩ a ha
    obtain rfl : j = k := Int.ofNat.inj e
    simp [h a ha]
theorem bare_none {u : Unit_} {x : Int} {k : Nat} (hT : touchU u x = []) : bareF u x (k : Int) = [] := by
  rw [bareF_T, hT]; rfl
theorem guards_none {u : Unit_} {x : Int} (hT : touchU u x = []) : guardsF u x = [] := by
  unfold guardsF; rw [if_pos hT]
theorem guardsF_rising (u : Unit_) (x : Int) : (guardsF u x).Pairwise (· < ·) := by
  unfold guardsF
  split
  · exact .nil
  · rw [List.pairwise_map]
    exact (List.pairwise_lt_range.filter _).imp fun h => Int.ofNat_lt.2 h
/-- The four ways of a class. -/
theorem class_ways (u : Unit_) (x : Int) : (touchU u x = [] ∧ guardsF u x = [] ∧ classF u x = ⟨0, 0, 0⟩) ∨
    (touchU u x ≠ [] ∧ ((∃ t : Nat, (∀ h ∈ touchU u x, h.t = t) ∧ classF u x = ⟨1, t, 0⟩) ∨
      (¬ (∃ t : Nat, ∀ h ∈ touchU u x, h.t = t) ∧ ((∃ g G, guardsF u x = g :: G ∧ classF u x = ⟨2, 0, g⟩) ∨ (guardsF u x = [] ∧ classF u x = ⟨3, 0, 0⟩))))) := by
  have hg := @guards_none u x
  unfold classF
  generalize guardsF u x = G at *
  generalize touchU u x = T at *
  cases T with
  | nil => exact .inl ⟨rfl, hg rfl, rfl⟩
  | cons a T =>
    refine .inr ⟨by simp, ?_⟩
    by_cases h : (a :: T).all (fun k => decide (k.t = a.t)) = true
    · refine .inl ⟨a.t, fun k hk => of_decide_eq_true (List.all_eq_true.1 h k hk), ?_⟩
      unfold clsOf
      dsimp only
      rw [if_pos h]
    · refine .inr ⟨?_, ?_⟩
      · rintro ⟨t, ht⟩
        apply h
        rw [List.all_eq_true]
        intro k hk
        rw [ht k hk, ht a (by simp)]
        simp
      · unfold clsOf
        dsimp only
        rw [if_neg h]
        cases G with
        | nil => exact .inr ⟨rfl, rfl⟩
        | cons g G => exact .inl ⟨g, G, rfl, rfl⟩
theorem Ints_at {m : CM} {A : Option Addr} {n c : Nat} {l : List Int} (h : Ints m (.slice A n c) l) {i : Nat} {x : Int} (hx : l[i]? = some x) : ∃ b o, A = some ⟨b, o, none⟩ ∧ m b (o + i) = some (.int .i64 x) := by
  obtain ⟨b, o, e, h2⟩ := h.at_ hx
  exact ⟨b, o, e, by have : m b (o + i * 1) = some (.int .i64 x) := h2; rwa [Nat.mul_one] at this⟩
theorem mem_take_succ {l : List Int} {i : Nat} {y x : Int} (h : l[i]? = some y) : decide (x ∈ l.take (i + 1)) = (decide (x ∈ l.take i) || decide (y = x)) := by
  obtain ⟨h1, h2⟩ := List.getElem?_eq_some_iff.1 h
  rw [List.take_succ_eq_append_getElem h1, h2]
  simp [eq_comm]
theorem isb {b : Bool} {n : Nat} {p : Prop} [Decidable p] (hb : b = decide p) (h : n = 0 ↔ p) : b = ((n : Int) == 0) := by
  rw [hb, Bool.eq_iff_iff, decide_eq_true_eq, ← h, beq_iff_eq]
  omega
end Go.Proofs.YtpaieopclpddnaaDoor
