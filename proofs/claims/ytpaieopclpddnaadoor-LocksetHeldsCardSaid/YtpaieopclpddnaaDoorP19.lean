import Derived.Test.YtpaieopclpddnaaDoorP11
import Derived.Test.YtpaieopclpddnaaDoorP10
import Derived.Test.YtpaieopclpddnaaDoorP09
import Derived.Test.YtpaieopclpddnaaDoorP18
import Derived.Test.YtpaieopclpddnaaDoorP16
/- The walks of lockset.Held and of the reference's Held. -/
namespace Go.Proofs.YtpaieopclpddnaaDoor
open Go Go.RowKit
/-- What is held ahead of the nodes of a thread, rising. -/
def heldsL (u : Unit_) (t : Nat) : List (List Int) := (((u.graphs[t]?).map heldL).getD []).map risingL
/-- What a question for what a thread holds ends in. -/
def HeldPost (u : Unit_) (t : Int) (w : World) (e : Ending) (w' : World) : Prop :=
  (checkF u = none ∧ (0 ≤ t ∧ t < u.graphs.length) ∧ ∃ v, e = .returned (.tuple #[v, .int .i64 0]) ∧ Sl (Cells intsV) 1 (part w' w.heap.size w'.heap.size) v (heldsL u t.toNat) ∧ Below w.heap.size w w') ∨
  (checkF u = none ∧ ¬ (0 ≤ t ∧ t < u.graphs.length) ∧ e = .returned (.tuple #[.slice none 0 0, .int .i64 2]) ∧ Below w.heap.size w w') ∨
  (checkF u ≠ none ∧ e = .returned (.tuple #[.slice none 0 0, .int .i64 60]) ∧ Below w.heap.size w w')
theorem bits_rising {u : Unit_} {g : Graph} (hg : RightG u g) {l : List Int} (hl : l ∈ heldL g) : bitsUp (hMask l) = risingL l := by
  unfold bitsUp risingL
  exact up_congr fun k _ => hMask_bit l (fun x hx => (heldL_mem hg hl hx).1) k
theorem risingL_length (l : List Int) : (risingL l).length ≤ 16 := by
  unfold risingL up
  rw [List.length_map]
  exact Nat.le_trans (List.length_filter_le _ _) (by simp)
set_option maxRecDepth 100000 in
set_option maxHeartbeats 4000000 in
theorem lheld_calls (u : Unit_) (cs : List Value) (t : Int) (w : World) (hT : Tab w) (hu : UnitV (cmap w) cs u) (hok : UOk u) :
    Calls Tryd.prog 22 #[.agg cs.toArray, .int .i64 t] w (HeldPost u t w) := by
  have hu0 := hu
  obtain ⟨sv, lv, gv, rfl, -⟩ := hu
  unfold HeldPost
  have HLD : Hid (∀ j v, ([sv, lv, gv] : List Value)[j]? = some v → (w.alloc (.cells #[sv, lv, gv] 25)).cell? ⟨w.heap.size, 0 + j, none⟩ = some v) := cell_newl w _ _ _ rfl
  have hb0 := Below_alloc' w (.cells #[sv, lv, gv] 25)
  have HT := Lib.hid hT; clear hT
  go_enter Tryd.func22, Tryd.ntmps22
  go_wp2_with (first
    | (refine wpList_load_at rfl 25 _ rfl w.heap.size 0 rfl _ _ HLD.out Tryd.underlying25 rfl (by kernel_rfl) ?_))
  refine (asked_calls u [sv, lv, gv] _ (hu0.mono (cmap_alloc _ _)) hok).mono ?_
  rintro e w1 (⟨hc, v, rfl, hlk, hb1⟩ | ⟨hc, rfl, hb1⟩)
  · have hru := checkF_none hc
    have HC := Lib.hid hc; clear hc
    obtain ⟨lA, lc, rfl, -⟩ := id hlk
    have hw1 : Below w.heap.size w w1 := hb0.trans (hb1.mono (by simp))
    have hw1s := hw1.size
    have hth := hru.threads
    by_cases ht : 0 ≤ t ∧ t < u.graphs.length
    · obtain ⟨k, rfl⟩ : ∃ n : Nat, t = n := ⟨t.toNat, by omega⟩
      have hkl : k < u.graphs.length := by omega
      have hk0 : (0 : Int) ≤ k := by omega
      have hkl2 : (k : Int) < u.graphs.length := by omega
      have HTT := Lib.hid ht; clear ht
      have d1 : decide ((k : Int) < 0) = false := by simp <;> omega
      have d2 : decide ((u.graphs.length : Int) ≤ (k : Int)) = false := by simp; omega
      have d2n : decide (u.graphs.length ≤ k) = false := by simp; omega
      obtain ⟨g, hgk⟩ : ∃ g, u.graphs[k]? = some g := ⟨_, List.getElem?_eq_getElem hkl⟩
      have hrg := hru.graphs g (List.mem_of_getElem? hgk)
      have hnm := hrg.whole.most
      have hHL := heldL_len hrg
      have hres : heldsL u (k : Int).toNat = (heldL g).map risingL := by unfold heldsL; rw [Int.toNat_natCast, hgk]; rfl
      obtain ⟨bl, ol, rfl, hlv⟩ := hlk.at_ hgk
      obtain ⟨_, ⟨rv, hv, rl, rfl, -, -, -, hhv⟩, hlc⟩ := hlv
      have q1 : w1.cell? ⟨bl, ol + k * 2 + 1, none⟩ = some hv := part_le _ _ _ _ _ _ (hlc 1 _ rfl)
      obtain ⟨hA, hc, hve, -⟩ := id hhv
      rw [List.length_map] at hve
      subst hve
      obtain ⟨L, hLL⟩ : ∃ L, heldL g = L := ⟨_, rfl⟩
      have hrb : ∀ l ∈ L, bitsUp (hMask l) = risingL l ∧ hMask l < 65536 := fun l hl => by
        have hl' : l ∈ heldL g := by rw [hLL]; exact hl
        exact ⟨bits_rising hrg hl', hMask_lt l (fun x hx => by have := heldL_mem hrg hl' hx; have := hru.locks; omega)⟩
      have HRB := Lib.hid hrb; clear hrb
      rw [hLL] at hhv q1 hHL hres
      have HRES := Lib.hid hres; clear hres
      have hLn : L.length ≤ 4096 := by omega
      clear hLL hHL hlc
      have HGK := Lib.hid hgk; clear hgk
      go_wp2
      go_loopw [8, 33] (fun v8 v33 wr => ∃ (i : Nat) (S : Nat → Prop), v33 = .int .i64 i ∧ i ≤ L.length ∧ Acc intsV 1 56 w1.heap.size S v8 ((L.take i).map risingL) wr ∧ Below w1.heap.size w1 wr) (fun _ v33 _ => L.length - (intOf v33).toNat)
      case atStart => exact ⟨0, _, rfl, by omega, Acc.nil _ _ _ _ _, Below.refl _ _⟩
      case round =>
        obtain ⟨i, S, rfl, hi, hacc, hbel⟩ := hrel
        have hbs := hbel.size
        by_cases hlt : i < L.length
        · obtain ⟨l, hl⟩ : ∃ l, L[i]? = some l := ⟨_, List.getElem?_eq_getElem hlt⟩
          have hl2 : (L.map hMask)[i]? = some (hMask l) := by rw [List.getElem?_map, hl]; rfl
          obtain ⟨bh, oh, rfl, hcell⟩ := hhv.at_ hl2
          have q2 : wr.cell? ⟨bh, oh + i, none⟩ = some (.int .u32 (hMask l : Nat)) := by have := cmap_below hbel _ _ _ (part_le _ _ _ _ _ _ hcell); rwa [Nat.mul_one] at this
          obtain ⟨hbits, hlm⟩ := HRB.out l (List.mem_of_getElem? hl)
          have htk : (L.take (i + 1)).map risingL = (L.take i).map risingL ++ [risingL l] := by rw [List.take_succ_eq_append_getElem hlt, (List.getElem?_eq_some_iff.1 hl).2, List.map_append]; rfl
          have HTK := Lib.hid htk; clear htk
          have hr16 := risingL_length l
          have hTr : Hid (Tab wr) := (HT.out.below hw1).below (hbel.mono (Nat.le_refl _))
          have HBT := Lib.hid hbits; clear hbits
          have HLM := Lib.hid hlm; clear hlm hl hl2 hcell
          have hi0 : (0 : Int) ≤ i := by omega
          have hil : (i : Int) < L.length := by omega
          go_wp2_with (first
            | (go_at_call 45; refine (list_calls _ HLM.out _ hTr.out).mono ?_; rintro e w2 ⟨rv2, rfl, hro, hb2⟩; rw [HBT.out] at hro; obtain ⟨rA, rc, rfl, -⟩ := own_slice hro)
            | (refine stop_append rfl ?_))
          refine Stop.intro ?_
          have hs2 := hb2.size
          have hacc2 := (hacc.keep hb2).alloc (.cells #[.slice rA (risingL l).length rc] 56)
          obtain ⟨rows, ho, hrl, hrs, hrx⟩ := hacc2.rows
          have hlen : ((L.take i).map risingL).length ≤ 4096 := by simp; omega
          refine app_one sl_ints rfl _ _ rfl w1.heap.size u8 _ rows.flatten rfl ho w2.heap.size 0 1 [.slice rA (risingL l).length rc] rfl rfl (cell_new1 _ _ _ _ (by simp)) (by simp [Value.oneCell']) (by omega) (by decide) (by simp; omega) ?_
          intro v' w' hown4 hgr hob
          have hv5 := hacc.lt
          have hacc3 : Acc intsV 1 56 w1.heap.size (fun b => S b ∨ (wr.heap.size ≤ b ∧ b < w2.heap.size)) v' ((L.take (i + 1)).map risingL) w' := by
            rw [HTK.out]
            refine hacc2.push hrl hrs hrx rfl hown4 hgr hob (fun b hb => .inl hb) (fun b hb => ?_) ⟨_, rfl, ?_⟩
            · rcases hb with hb | hb
              · exact hacc2.sep b hb
              · exact ⟨by omega, by simp; omega, fun e => by have := hv5 b e.symm; omega⟩
            · have hx := Sl_of_own (R := IntC) (f := Value.int .i64) (fun _ _ _ _ h => h) hro (Nat.le_refl _) (Nat.le_refl _)
              refine hx.mono ((part_on w2 (S := fun b => wr.heap.size ≤ b ∧ b < w2.heap.size) fun b h1 h2 => ⟨h1, h2⟩).trans (on_keep (fun b hb hlt => ?_) (fun b hb => .inr hb)))
              rw [hgr.block b (by simp; omega) (fun e => by have := hv5 b e.symm; omega), Below.heap_alloc _ _ _ hlt]
          have hbel4 := ((hbel.trans (hb2.mono hbs)).alloc (by omega) (.cells #[.slice rA (risingL l).length rc] 56)).grown hgr (by simp; omega) (fun j hj => (hv5 j hj).1)
          go_wp2_with fail
          go_roundw
          case rel => exact ⟨i + 1, _, by go_num, by omega, hacc3, hbel4⟩
          case measure => simp [intOf]; omega
        · rw [List.take_of_length_le (by omega)] at hacc
          go_wp2
          go_ret2
          exact .inl ⟨HC.out, HTT.out, u8, rfl, by rw [HRES.out]; exact hacc.done hw1s (Nat.le_refl _), hw1.trans (hbel.mono hw1s)⟩
    · have hsplit : t < 0 ∨ (0 ≤ t ∧ (u.graphs.length : Int) ≤ t) := by omega
      have HTT := Lib.hid ht; clear ht
      rcases hsplit with h | h
      · have d1 : decide (t < 0) = true := by simp; omega
        clear h
        go_wp2
        go_ret2
        exact .inr (.inl ⟨HC.out, HTT.out, rfl, hw1⟩)
      · have d1 : decide (t < 0) = false := by simp; omega
        have d2 : decide ((u.graphs.length : Int) ≤ t) = true := by simp; omega
        clear h
        go_wp2
        go_ret2
        exact .inr (.inl ⟨HC.out, HTT.out, rfl, hw1⟩)
  · have HC := Lib.hid hc; clear hc
    go_wp2
    go_ret2
    exact .inr (.inr ⟨HC.out, rfl, hb0.trans (hb1.mono (by simp))⟩)
set_option maxRecDepth 100000 in
set_option maxHeartbeats 2000000 in
theorem lheld2_calls (u : Unit_) (cs : List Value) (t : Int) (w : World) (hu : UnitV (cmap w) cs u) (hok : UOk u) :
    Calls Tryd.prog 23 #[.agg cs.toArray, .int .i64 t] w (HeldPost u t w) := by
  have hu0 := hu
  obtain ⟨sv, lv, gv, rfl, hs, hl, hg⟩ := hu
  obtain ⟨gA, gc, rfl, -⟩ := id hg
  have bg := hg.len.2.2
  unfold HeldPost
  have hbx := Blk.new w 25 [sv, lv, .slice gA u.graphs.length gc]
  have HLD : Hid (∀ j v, ([sv, lv, .slice gA u.graphs.length gc] : List Value)[j]? = some v → (w.alloc (.cells #[sv, lv, .slice gA u.graphs.length gc] 25)).cell? ⟨w.heap.size, 0 + j, none⟩ = some v) := cell_newl w _ _ _ rfl
  obtain ⟨r, hr⟩ : ∃ r, checkF u = r := ⟨_, rfl⟩
  rw [hr]
  cases r with
  | some ti =>
    obtain ⟨t', i⟩ := ti
    go_enter Tryd.func23, Tryd.ntmps23
    go_wp2_with (first
      | (refine wpList_load_at rfl 25 _ rfl w.heap.size 0 rfl _ _ HLD.out Tryd.underlying25 rfl (by kernel_rfl) ?_)
      | (go_at_call 31; refine (check2_calls u [sv, lv, .slice gA u.graphs.length gc] _ (hu0.mono (cmap_alloc _ _)) hok).mono ?_; rintro e w1 ⟨rfl, hb1⟩; rw [hr]; clear hr; unfold checkV))
    go_ret2
    exact .inr (.inr ⟨by simp, rfl, (Below_alloc' _ _).trans (hb1.mono (by simp))⟩)
  | none =>
    have hru := checkF_none hr
    have hl16 := hru.locks
    by_cases ht : 0 ≤ t ∧ t < u.graphs.length
    · obtain ⟨k, rfl⟩ : ∃ n : Nat, t = n := ⟨t.toNat, by omega⟩
      have hkl : k < u.graphs.length := by omega
      have hk0 : (0 : Int) ≤ k := by omega
      have hkl2 : (k : Int) < u.graphs.length := by omega
      have HTT := Lib.hid ht; clear ht
      have d1 : decide ((k : Int) < 0) = false := by simp <;> omega
      have d2 : decide ((u.graphs.length : Int) ≤ (k : Int)) = false := by simp; omega
      obtain ⟨g, hgk⟩ : ∃ g, u.graphs[k]? = some g := ⟨_, List.getElem?_eq_getElem hkl⟩
      have hrg := hru.graphs g (List.mem_of_getElem? hgk)
      have hres : heldsL u (k : Int).toNat = (heldL g).map risingL := by unfold heldsL; rw [Int.toNat_natCast, hgk]; rfl
      rw [hres]
      clear hres
      obtain ⟨b, o, rfl, cg, hgv, hdc⟩ := hg.at_ hgk
      have HGV := hgv
      obtain ⟨nv, rfl, nA, nc, rfl, hnc1, hnc2, hnn⟩ := hgv
      have HGK := Lib.hid hgk; clear hgk
      have hld : ∀ j v, ([.string g.name, .int .i64 g.locals, .int .i64 g.slots, .slice nA g.nodes.length nc] : List Value)[j]? = some v → w.cell? ⟨b, o + k * 4 + j, none⟩ = some v := fun j v h => hdc j v h
      have HLDW := Lib.hid hld; clear hld hdc
      go_enter Tryd.func23, Tryd.ntmps23
      go_wp2_with (first
        | (refine wpList_load_at rfl 25 _ rfl w.heap.size 0 rfl _ _ HLD.out Tryd.underlying25 rfl (by kernel_rfl) ?_)
        | (refine wpList_load_at rfl 42 _ rfl b (o + k * 4) rfl _ _ HLD1.out Tryd.underlying42 rfl (by kernel_rfl) ?_)
        | (go_at_call 31; refine (check2_calls u [sv, lv, .slice (some ⟨b, o, none⟩) u.graphs.length gc] _ (hu0.mono (cmap_alloc _ _)) hok).mono ?_; rintro e w1 ⟨rfl, hb1⟩; rw [hr]; clear hr; unfold checkV; have hbx1 := hbx.below hb1 hbx.lt; have hcx2 := hbx1.cell 2; have hw1 : Below w.heap.size w w1 := (Below_alloc' _ _).trans (hb1.mono (by simp)); have HLD1 : Hid (∀ j v, ([.string g.name, .int .i64 g.locals, .int .i64 g.slots, .slice nA g.nodes.length nc] : List Value)[j]? = some v → w1.cell? ⟨b, o + k * 4 + j, none⟩ = some v) := (fun j v h => cmap_below hw1 _ _ _ (HLDW.out j v h)))
        | (go_at_call 38; refine (heldOf_calls u g [.string g.name, .int .i64 g.locals, .int .i64 g.slots, .slice nA g.nodes.length nc] _ hrg hl16 (HGV.mono (cmap_below hw1))).mono ?_; rintro e w2 ⟨hv, rfl, hhv, hb2⟩))
      go_ret2
      exact .inl ⟨trivial, HTT.out, hv, rfl, hhv.mono (part_mono hw1.size (Nat.le_refl _)), hw1.trans (hb2.mono hw1.size)⟩
    · have hsplit : t < 0 ∨ (0 ≤ t ∧ (u.graphs.length : Int) ≤ t) := by omega
      have HTT := Lib.hid ht; clear ht
      rcases hsplit with h | h
      · have d1 : decide (t < 0) = true := by simp; omega
        clear h
        go_enter Tryd.func23, Tryd.ntmps23
        go_wp2_with (first
          | (refine wpList_load_at rfl 25 _ rfl w.heap.size 0 rfl _ _ HLD.out Tryd.underlying25 rfl (by kernel_rfl) ?_)
          | (go_at_call 31; refine (check2_calls u [sv, lv, .slice gA u.graphs.length gc] _ (hu0.mono (cmap_alloc _ _)) hok).mono ?_; rintro e w1 ⟨rfl, hb1⟩; rw [hr]; clear hr; unfold checkV; have hbx1 := hbx.below hb1 hbx.lt; have hcx2 := hbx1.cell 2))
        go_ret2
        exact .inr (.inl ⟨trivial, HTT.out, rfl, (Below_alloc' _ _).trans (hb1.mono (by simp))⟩)
      · have d1 : decide (t < 0) = false := by simp; omega
        have d2 : decide ((u.graphs.length : Int) ≤ t) = true := by simp; omega
        clear h
        go_enter Tryd.func23, Tryd.ntmps23
        go_wp2_with (first
          | (refine wpList_load_at rfl 25 _ rfl w.heap.size 0 rfl _ _ HLD.out Tryd.underlying25 rfl (by kernel_rfl) ?_)
          | (go_at_call 31; refine (check2_calls u [sv, lv, .slice gA u.graphs.length gc] _ (hu0.mono (cmap_alloc _ _)) hok).mono ?_; rintro e w1 ⟨rfl, hb1⟩; rw [hr]; clear hr; unfold checkV; have hbx1 := hbx.below hb1 hbx.lt; have hcx2 := hbx1.cell 2))
        go_ret2
        exact .inr (.inl ⟨trivial, HTT.out, rfl, (Below_alloc' _ _).trans (hb1.mono (by simp))⟩)
end Go.Proofs.YtpaieopclpddnaaDoor
/- The plain law of LocksetUnder: what Under tells, gone through as Held tells it. -/
namespace Go.Proofs.YtpaieopclpddnaaDoor
open Go Go.RowKit
noncomputable def rest1 (u : Unit_) (lk t : Nat) : List (Nat × Nat) := ((hits t (u.graphs.drop t)).filter (selU lk)).map (fun h => (h.t, h.i))
noncomputable def rest2 (u : Unit_) (lk t : Nat) (g : Graph) (k : Nat) : List (Nat × Nat) := ((hitsOf t g k (g.nodes.drop k)).filter (selU lk)).map (fun h => (h.t, h.i)) ++ rest1 u lk (t + 1)
theorem rest1_at {u : Unit_} {lk t : Nat} {g : Graph} (h : u.graphs[t]? = some g) : rest1 u lk t = rest2 u lk t g 0 := by
  obtain ⟨h1, h2⟩ := List.getElem?_eq_some_iff.1 h
  unfold rest1 rest2
  rw [List.drop_eq_getElem_cons h1, h2, List.drop_zero]
  simp only [hits, List.filter_append, List.map_append]
  rfl
theorem rest1_end {u : Unit_} {lk t : Nat} (h : u.graphs.length ≤ t) : rest1 u lk t = [] := by
  unfold rest1
  rw [List.drop_eq_nil_of_le h]
  rfl
theorem rest2_end {u : Unit_} {lk t : Nat} {g : Graph} {k : Nat} (h : g.nodes.length ≤ k) : rest2 u lk t g k = rest1 u lk (t + 1) := by
  unfold rest2
  rw [List.drop_eq_nil_of_le h]
  rfl
theorem rest2_at {u : Unit_} {lk t : Nat} {g : Graph} {k : Nat} (hg : RightG u g) (hk : k < g.nodes.length) (hlk : lk < 16) :
    rest2 u lk t g k = (if (lk : Int) ∈ risingL (heldAt g k) then [(t, k)] else []) ++ rest2 u lk t g (k + 1) := by
  unfold rest2
  rw [List.drop_eq_getElem_cons hk, hitsOf_under hg]
  have := mem_rising (l := heldAt g k) hlk
  rw [← this]
  by_cases h : (lk : Int) ∈ risingL (heldAt g k)
  · simp [h]
  · simp [h]
theorem risingL_up (l : List Int) : (risingL l).Pairwise (· < ·) := by
  unfold risingL up
  rw [List.pairwise_map]
  exact (List.pairwise_lt_range.filter _).imp fun h => Int.ofNat_lt.2 h
/-- One round of the innermost loop. -/
theorem drop_row {α : Type} {r : List Int} {j : Nat} {y x : Int} (h : r[j]? = some y) (a : List α) :
    (if x ∈ r.drop j then a else []) = if y = x then a else (if x ∈ r.drop (j + 1) then a else []) := by
  obtain ⟨h1, h2⟩ := List.getElem?_eq_some_iff.1 h
  rw [List.drop_eq_getElem_cons h1, h2]
  by_cases e : y = x
  · simp [e]
  · have : ¬ x = y := fun h => e h.symm
    simp [e, this]
theorem row_once {r : List Int} (hr : r.Pairwise (· < ·)) {j : Nat} {y : Int} (h : r[j]? = some y) : y ∉ r.drop (j + 1) := by
  obtain ⟨h1, h2⟩ := List.getElem?_eq_some_iff.1 h
  intro hm
  have := hr.drop (i := j)
  rw [List.drop_eq_getElem_cons h1, h2] at this
  have := (List.pairwise_cons.1 this).1 y hm
  omega
/-- What is bare of a lock is not under it. -/
theorem bare_under {u : Unit_} {x : Int} {lk : Nat} {a b : Nat × Nat} (ha : a ∈ (bareF u x lk).map (fun h => (h.t, h.i))) (hb : b ∈ (underF u lk).map (fun h => (h.t, h.i))) : a ≠ b := by
  obtain ⟨p, hp, rfl⟩ := List.mem_map.1 ha
  obtain ⟨q, hq, rfl⟩ := List.mem_map.1 hb
  intro e
  injection e with e1 e2
  unfold bareF at hp
  unfold underF at hq
  obtain ⟨hp1, hp2⟩ := List.mem_filter.1 hp
  obtain ⟨hq1, hq2⟩ := List.mem_filter.1 hq
  obtain ⟨j1, g1, a1, a2, a3, a4, _⟩ := hits_mem _ _ p hp1
  obtain ⟨j2, g2, b1, b2, b3, b4, _⟩ := hits_mem _ _ q hq1
  have ej : j1 = j2 := by omega
  subst ej
  rw [a2] at b2
  injection b2 with b2
  subst b2
  have el : p.l = q.l := by rw [a4, b4, e2]
  unfold selU at hq2
  unfold selB at hp2
  rw [el] at hp2
  simp only [Int.toNat_natCast] at hp2 hq2
  simp_all
theorem heldsL_at {u : Unit_} {t : Nat} {g : Graph} (h : u.graphs[t]? = some g) (hg : RightG u g) : (heldsL u (t : Int).toNat).length = g.nodes.length ∧ ∀ k r, (heldsL u (t : Int).toNat)[k]? = some r → r = risingL (heldAt g k) := by
  unfold heldsL
  rw [Int.toNat_natCast, h]
  refine ⟨by simp [heldL_len hg], fun k r hr => ?_⟩
  simp only [Option.map_some, Option.getD_some, List.getElem?_map] at hr
  unfold heldAt
  cases hl : (heldL g)[k]? with
  | none => rw [hl] at hr; cases hr
  | some l => rw [hl] at hr; injection hr with hr; exact hr.symm
end Go.Proofs.YtpaieopclpddnaaDoor
