import Derived.Test.YtkkmkjjbffpgnaaDoorP11
import Derived.Test.YtkkmkjjbffpgnaaDoorP10
import Derived.Test.YtkkmkjjbffpgnaaDoorP09
/- The walks of lockset.Held and of the reference's Held. -/
namespace Go.Proofs.YtkkmkjjbffpgnaaDoor
open Go Go.RowKit
/-- What is held ahead of the nodes of a thread, rising. -/
def heldsL (u : Unit_) (t : Nat) : List (List Int) := (((u.graphs[t]?).map heldL).getD []).map risingL
/-- What a question for what a thread holds ends in. -/
def HeldPost (u : Unit_) (t : Int) (w : World) (e : Ending) (w' : World) : Prop :=
  (checkF u = none ∧ (0 ≤ t ∧ t < u.graphs.length) ∧ ∃ v, e = .returned (.tuple #[v, .int .i64 0]) ∧ Sl (Cells intsV) 1 (part w' w.heap.size w'.heap.size) v (heldsL u t.toNat) ∧ Below w.heap.size w w') ∨
  (checkF u = none ∧ ¬ (0 ≤ t ∧ t < u.graphs.length) ∧ e = .returned (.tuple #[.slice none 0 0, .int .i64 2]) ∧ Below w.heap.size w w') ∨
  (checkF u ≠ none ∧ e = .returned (.tuple #[.slice none 0 0, .int .i64 60]) ∧ Below w.heap.size w w')
theorem bits_rising {u : Unit_} {g : Graph} (hg : RightG u g) {l : List Int} (hl : l ∈ heldL g) : bitsUp (hMask l) = risingL l := by
  unfold bitsUp risingL
  exact up_congr fun k _ => hMask_bit l (fun x hx => (heldL_mem hg hl hx).1) k
theorem risingL_length (l : List Int) : (risingL l).length ≤ 16 := by
  unfold risingL up
  rw [List.length_map]
  exact Nat.le_trans (List.length_filter_le _ _) (by simp)
set_option maxRecDepth 100000 in
set_option maxHeartbeats 4000000 in
theorem lheld_calls (u : Unit_) (cs : List Value) (t : Int) (w : World) (hT : Tab w) (hu : UnitV (cmap w) cs u) (hok : UOk u) :
    Calls Tryd.prog 7 #[.agg cs.toArray, .int .i64 t] w (HeldPost u t w) := by
  have hu0 := hu
  obtain ⟨sv, lv, gv, rfl, -⟩ := hu
  unfold HeldPost
  have HLD : Hid (∀ j v, ([sv, lv, gv] : List Value)[j]? = some v → (w.alloc (.cells #[sv, lv, gv] 25)).cell? ⟨w.heap.size, 0 + j, none⟩ = some v) := cell_newl w _ _ _ rfl
  have hb0 := Below_alloc' w (.cells #[sv, lv, gv] 25)
  have HT := Lib.hid hT; clear hT
  go_enter Tryd.func7, Tryd.ntmps7
  go_wp2_with (first
    | (refine wpList_load_at rfl 25 _ rfl w.heap.size 0 rfl _ _ HLD.out Tryd.underlying25 rfl (by kernel_rfl) ?_))
  refine (asked_calls u [sv, lv, gv] _ (hu0.mono (cmap_alloc _ _)) hok).mono ?_
  rintro e w1 (⟨hc, v, rfl, hlk, hb1⟩ | ⟨hc, rfl, hb1⟩)
  · have hru := checkF_none hc
    have HC := Lib.hid hc; clear hc
    obtain ⟨lA, lc, rfl, -⟩ := id hlk
    have hw1 : Below w.heap.size w w1 := hb0.trans (hb1.mono (by simp))
    have hw1s := hw1.size
    have hth := hru.threads
    by_cases ht : 0 ≤ t ∧ t < u.graphs.length
    · obtain ⟨k, rfl⟩ : ∃ n : Nat, t = n := ⟨t.toNat, by omega⟩
      have hkl : k < u.graphs.length := by omega
      have hk0 : (0 : Int) ≤ k := by omega
      have hkl2 : (k : Int) < u.graphs.length := by omega
      have HTT := Lib.hid ht; clear ht
      have d1 : decide ((k : Int) < 0) = false := by simp <;> omega
      have d2 : decide ((u.graphs.length : Int) ≤ (k : Int)) = false := by simp; omega
      have d2n : decide (u.graphs.length ≤ k) = false := by simp; omega
      obtain ⟨g, hgk⟩ : ∃ g, u.graphs[k]? = some g := ⟨_, List.getElem?_eq_getElem hkl⟩
      have hrg := hru.graphs g (List.mem_of_getElem? hgk)
      have hnm := hrg.whole.most
      have hHL := heldL_len hrg
      have hres : heldsL u (k : Int).toNat = (heldL g).map risingL := by unfold heldsL; rw [Int.toNat_natCast, hgk]; rfl
      obtain ⟨bl, ol, rfl, hlv⟩ := hlk.at_ hgk
      obtain ⟨_, ⟨rv, hv, rl, rfl, -, -, -, hhv⟩, hlc⟩ := hlv
      have q1 : w1.cell? ⟨bl, ol + k * 2 + 1, none⟩ = some hv := part_le _ _ _ _ _ _ (hlc 1 _ rfl)
      obtain ⟨hA, hc, hve, -⟩ := id hhv
      rw [List.length_map] at hve
      subst hve
      obtain ⟨L, hLL⟩ : ∃ L, heldL g = L := ⟨_, rfl⟩
      have hrb : ∀ l ∈ L, bitsUp (hMask l) = risingL l ∧ hMask l < 65536 := fun l hl => by
        have hl' : l ∈ heldL g := by rw [hLL]; exact hl
        exact ⟨bits_rising hrg hl', hMask_lt l (fun x hx => by have := heldL_mem hrg hl' hx; have := hru.locks; omega)⟩
      have HRB := Lib.hid hrb; clear hrb
      rw [hLL] at hhv q1 hHL hres
      have HRES := Lib.hid hres; clear hres
      have hLn : L.length ≤ 4096 := by omega
      clear hLL hHL hlc
      have HGK := Lib.hid hgk; clear hgk
      go_wp2
      go_loopw [8, 33] (fun v8 v33 wr => ∃ (i : Nat) (S : Nat → Prop), v33 = .int .i64 i ∧ i ≤ L.length ∧ Acc intsV 1 26 w1.heap.size S v8 ((L.take i).map risingL) wr ∧ Below w1.heap.size w1 wr) (fun _ v33 _ => L.length - (intOf v33).toNat)
      case atStart => exact ⟨0, _, rfl, by omega, Acc.nil _ _ _ _ _, Below.refl _ _⟩
      case round =>
        obtain ⟨i, S, rfl, hi, hacc, hbel⟩ := hrel
        have hbs := hbel.size
        by_cases hlt : i < L.length
        · obtain ⟨l, hl⟩ : ∃ l, L[i]? = some l := ⟨_, List.getElem?_eq_getElem hlt⟩
          have hl2 : (L.map hMask)[i]? = some (hMask l) := by rw [List.getElem?_map, hl]; rfl
          obtain ⟨bh, oh, rfl, hcell⟩ := hhv.at_ hl2
          have q2 : wr.cell? ⟨bh, oh + i, none⟩ = some (.int .u32 (hMask l : Nat)) := by have := cmap_below hbel _ _ _ (part_le _ _ _ _ _ _ hcell); rwa [Nat.mul_one] at this
          obtain ⟨hbits, hlm⟩ := HRB.out l (List.mem_of_getElem? hl)
          have htk : (L.take (i + 1)).map risingL = (L.take i).map risingL ++ [risingL l] := by rw [List.take_succ_eq_append_getElem hlt, (List.getElem?_eq_some_iff.1 hl).2, List.map_append]; rfl
          have HTK := Lib.hid htk; clear htk
          have hr16 := risingL_length l
          have hTr : Hid (Tab wr) := (HT.out.below hw1).below (hbel.mono (Nat.le_refl _))
          have HBT := Lib.hid hbits; clear hbits
          have HLM := Lib.hid hlm; clear hlm hl hl2 hcell
          have hi0 : (0 : Int) ≤ i := by omega
          have hil : (i : Int) < L.length := by omega
          go_wp2_with (first
            | (go_at_call 22; refine (list_calls _ HLM.out _ hTr.out).mono ?_; rintro e w2 ⟨rv2, rfl, hro, hb2⟩; rw [HBT.out] at hro; obtain ⟨rA, rc, rfl, -⟩ := own_slice hro)
            | (refine stop_append rfl ?_))
          refine Stop.intro ?_
          have hs2 := hb2.size
          have hacc2 := (hacc.keep hb2).alloc (.cells #[.slice rA (risingL l).length rc] 26)
          obtain ⟨rows, ho, hrl, hrs, hrx⟩ := hacc2.rows
          have hlen : ((L.take i).map risingL).length ≤ 4096 := by simp; omega
          refine app_one sl_ints rfl _ _ rfl w1.heap.size u8 _ rows.flatten rfl ho w2.heap.size 0 1 [.slice rA (risingL l).length rc] rfl rfl (cell_new1 _ _ _ _ (by simp)) (by simp [Value.oneCell']) (by omega) (by decide) (by simp; omega) ?_
          intro v' w' hown4 hgr hob
          have hv5 := hacc.lt
          have hacc3 : Acc intsV 1 26 w1.heap.size (fun b => S b ∨ (wr.heap.size ≤ b ∧ b < w2.heap.size)) v' ((L.take (i + 1)).map risingL) w' := by
            rw [HTK.out]
            refine hacc2.push hrl hrs hrx rfl hown4 hgr hob (fun b hb => .inl hb) (fun b hb => ?_) ⟨_, rfl, ?_⟩
            · rcases hb with hb | hb
              · exact hacc2.sep b hb
              · exact ⟨by omega, by simp; omega, fun e => by have := hv5 b e.symm; omega⟩
            · have hx := Sl_of_own (R := IntC) (f := Value.int .i64) (fun _ _ _ _ h => h) hro (Nat.le_refl _) (Nat.le_refl _)
              refine hx.mono ((part_on w2 (S := fun b => wr.heap.size ≤ b ∧ b < w2.heap.size) fun b h1 h2 => ⟨h1, h2⟩).trans (on_keep (fun b hb hlt => ?_) (fun b hb => .inr hb)))
              rw [hgr.block b (by simp; omega) (fun e => by have := hv5 b e.symm; omega), Below.heap_alloc _ _ _ hlt]
          have hbel4 := ((hbel.trans (hb2.mono hbs)).alloc (by omega) (.cells #[.slice rA (risingL l).length rc] 26)).grown hgr (by simp; omega) (fun j hj => (hv5 j hj).1)
          go_wp2_with fail
          go_roundw
          case rel => exact ⟨i + 1, _, by go_num, by omega, hacc3, hbel4⟩
          case measure => simp [intOf]; omega
        · rw [List.take_of_length_le (by omega)] at hacc
          go_wp2
          go_ret2
          exact .inl ⟨HC.out, HTT.out, u8, rfl, by rw [HRES.out]; exact hacc.done hw1s (Nat.le_refl _), hw1.trans (hbel.mono hw1s)⟩
    · have hsplit : t < 0 ∨ (0 ≤ t ∧ (u.graphs.length : Int) ≤ t) := by omega
      have HTT := Lib.hid ht; clear ht
      rcases hsplit with h | h
      · have d1 : decide (t < 0) = true := by simp; omega
        clear h
        go_wp2
        go_ret2
        exact .inr (.inl ⟨HC.out, HTT.out, rfl, hw1⟩)
      · have d1 : decide (t < 0) = false := by simp; omega
        have d2 : decide ((u.graphs.length : Int) ≤ t) = true := by simp; omega
        clear h
        go_wp2
        go_ret2
        exact .inr (.inl ⟨HC.out, HTT.out, rfl, hw1⟩)
  · have HC := Lib.hid hc; clear hc
    go_wp2
    go_ret2
    exact .inr (.inr ⟨HC.out, rfl, hb0.trans (hb1.mono (by simp))⟩)
end Go.Proofs.YtkkmkjjbffpgnaaDoor
