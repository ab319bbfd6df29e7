import Derived.Test.YtkkmkjjbffpgnaaDoorP14
import Derived.Test.YtkkmkjjbffpgnaaDoorP11
import Derived.Test.YtkkmkjjbffpgnaaDoorP19
import Derived.Test.YtkkmkjjbffpgnaaDoorP69
import Derived.Test.YtkkmkjjbffpgnaaDoorP71
import Derived.Test.YtkkmkjjbffpgnaaDoorP76
import Derived.Test.YtkkmkjjbffpgnaaDoorP80
import Derived.Test.YtkkmkjjbffpgnaaDoorP06
/- The walk of the law LocksetIndeed. -/
namespace Go.Proofs.YtkkmkjjbffpgnaaDoor
open Go Go.RowKit
abbrev heldsV := InnerV (Cells intsV) 1
theorem sl_held3 : SlT Tryd.prog 35 36 1 24 (.slice none 0 0) := SlT.mk' Tryd.underlying35 (by kernel_rfl) rfl (by omega)
theorem heldsL_len {u : Unit_} {t : Nat} {g : Graph} (h : u.graphs[t]? = some g) (hg : RightG u g) : (heldsL u t).length = g.nodes.length := by
  unfold heldsL
  rw [h, List.length_map]
  exact heldL_len hg
theorem heldsL_get {u : Unit_} {t : Nat} {g : Graph} (h : u.graphs[t]? = some g) (hg : RightG u g) {i : Nat} (hi : i < g.nodes.length) : (heldsL u t)[i]? = some (risingL (heldAt g i)) := by
  have hl := heldL_len hg
  unfold heldsL heldAt
  rw [h]
  simp only [Option.map_some, Option.getD_some, List.getElem?_map]
  rw [List.getElem?_eq_getElem (by omega)]; rfl
theorem ints6_calls (v1 v2 : Value) (l1 l2 : List Int) (w : World) (h1 : Ints (cmap w) v1 l1) (h2 : Ints (cmap w) v2 l2) :
    Calls Tryd.prog 11 #[v1, v2] w fun e w' => e = .returned (.bool (decide (l1 = l2))) ∧ ∃ n, w' = w.drewN n := by
  have H := Lib.hid (same_calls v1 v2 l1 l2 w h1 h2)
  clear h1 h2
  go_enter Tryd.func11, Tryd.ntmps11
  go_wp2_with fail
  refine H.out.mono ?_
  rintro e w1 ⟨rfl, q, rfl⟩
  go_wp2_with fail
  go_ret
  exact ⟨rfl, q, rfl⟩
/-- After k steps of the schedule. -/
structure InAt (w w4 wr : World) (R : Nat → Prop) (g : Nat) (L : Lay) (u : Unit_) (Z : Nat → Prop) (k : Nat) (m : Mach) : Prop where
  at_ : MAz w wr R g L u Z m
  situ : Situ u m
  pr : m.prints.length ≤ k
  kz : (on w4 Z).le (on wr Z)
theorem InAt.below {w w4 wr wx : World} {R Z : Nat → Prop} {g : Nat} {L : Lay} {u : Unit_} {k : Nat} {m : Mach} (h : InAt w w4 wr R g L u Z k m) (hx : Below wr.heap.size wr wx) : InAt w w4 wx R g L u Z k m := ⟨h.at_.below hx, h.situ, h.pr, h.kz.trans ((FrW.of_below (fun _ => False) hx).on fun _ _ => id)⟩
theorem InAt.drewN {w w4 wr : World} {R Z : Nat → Prop} {g : Nat} {L : Lay} {u : Unit_} {k : Nat} {m : Mach} (h : InAt w w4 wr R g L u Z k m) (q : Nat) : InAt w w4 (wr.drewN q) R g L u Z k m := h.below (Below_drewN wr q)
theorem InAt.succ {w w4 wr : World} {R Z : Nat → Prop} {g : Nat} {L : Lay} {u : Unit_} {k : Nat} {m : Mach} (h : InAt w w4 wr R g L u Z k m) : InAt w w4 wr R g L u Z (k + 1) m := ⟨h.at_, h.situ, Nat.le_succ_of_le h.pr, h.kz⟩
theorem in_step {w w4 wx : World} {R Z : Nat → Prop} {g : Nat} {L : Lay} {u : Unit_} {k : Nat} {m : Mach} (hu : RightU u) (huo : UOk u) (hk : k ≤ 2000) (h : InAt w w4 wx R g L u Z k m) {t : Int} (hb : barF u m t = 0) :
    Calls Tryd.prog 12 #[.pointer (some ⟨g, 0, none⟩), .int .i64 t] wx fun e w' => e = .returned (.tuple #[.agg #[.int .i64 (stepD u m t).thread, .int .i64 (stepD u m t).node, .int .u8 (stepD u m t).kind, .int .i64 (stepD u m t).thing, .int .i64 (stepD u m t).word, .int .i64 (stepD u m t).put], .int .i64 0]) ∧ InAt w w4 w' R g L u Z (k + 1) (stepM u m t) := by
  obtain ⟨pv, hM, hmu⟩ := h.at_.ex
  refine (step_calls t hM h.situ.ok h.situ.mi hu huo (by have := h.pr; omega) h.at_.rl).mono ?_
  rintro e w6 ⟨rfl, hm⟩
  obtain ⟨q1, q2⟩ := h.at_.made hmu hm
  have hpp := step_prints h.situ.ok t
  exact ⟨by rw [stepD_cells, hb], q1, h.situ.step hu huo t, by have := h.pr; omega, h.kz.trans q2⟩
theorem ownsRow_below {w w' : World} {b n s : Nat} {t : TypeId} {v : Value} {xs : List Value} (h : w.ownsRow b t s v n xs) (hb : Below w.heap.size w w') : w'.ownsRow b t s v n xs :=
  World.ownsRow.kept (row := none) h ⟨hb.os, hb.tape, hb.output, hb.size, fun k hk _ => hb.block k hk⟩ (by cases hv : v.ownBlock with | none => exact .inl rfl | some x => exact .inr (by simp))
def inZ (w w1 w2 w3 w4 : World) (q : Nat) : Prop := q = w.heap.size ∨ (w1.heap.size ≤ q ∧ q < w2.heap.size) ∨ (w3.heap.size ≤ q ∧ q < w4.heap.size)
theorem MAz.startZ {w w1 w2 w3 w4 : World} {R : Nat → Prop} {g : Nat} {L : Lay} {u : Unit_} {m : Mach} (h1 : w.heap.size < w1.heap.size) (h12 : w1.heap.size ≤ w2.heap.size) (hw : Below w.heap.size w w2) (hM : MachB w3 R g L u m) (hR : ∀ q, R q → w2.heap.size ≤ q ∧ q < w3.heap.size) (hmu : ∀ q, L.mut g q → w2.heap.size ≤ q) (hb : Below w2.heap.size w2 w3) (hx : Below w3.heap.size w3 w4) : MAz w w4 R g L u (inZ w w1 w2 w3 w4) m :=
  ⟨⟨L.pv, hM.below hx, fun q hq => ⟨by have := hmu q hq; omega, fun e => by
    have h2 := hmu q hq
    have h3 := hM.lt hq
    rcases e with e | e | e
    · omega
    · omega
    · omega⟩⟩, fun q hq => Nat.lt_of_lt_of_le (hR q hq).2 hx.size, (hw.trans (hb.mono hw.size)).trans (hx.mono (Nat.le_trans hw.size hb.size)), fun q hq => by
    have h2 := hb.size
    have h3 := hx.size
    rcases hq with e | e | e
    · omega
    · omega
    · exact e.2⟩
theorem can_yes_in {u : Unit_} {m : Mach} (hs : Situ u m) {t : Int} (h : barF u m t = 0) : ∃ (a : Nat) (g : Graph) (i : Nat) (n : Node), t = a ∧ a < u.graphs.length ∧ Stands u m a g i n ∧ m.where_ a = i := by
  obtain ⟨a, rfl, hl⟩ := bar_out hs.ok (t := t) (by rw [h]; decide)
  obtain ⟨g, i, n, hst⟩ := stands_at hs.ok hl
  refine ⟨a, g, i, n, rfl, hl, hst, ?_⟩
  unfold Mach.where_
  have := (List.getElem?_eq_some_iff.1 hst.pc).1
  rw [if_pos (by omega), Int.toNat_natCast, hst.pc]; rfl
set_option maxRecDepth 100000 in
set_option maxHeartbeats 8000000 in
theorem indeed_good (u : Unit_) (cs : List Value) (A : Option Addr) (c : Nat) (l : List Int) (w : World) (hT : Tab w) (hu : UnitV (cmap w) cs u) (hok : UOk u) (hso : SOk u) (hv : Ints (cmap w) (.slice A l.length c) l) (hc : checkF u = none) :
    Calls Tryd.prog 3 #[.agg cs.toArray, .slice A l.length c] w fun e w' => e = .returned (.bool true) ∧ Below w.heap.size w w' := by
  have hru := checkF_none hc
  have hst := start_situ hc hso
  have hu0 := hu
  obtain ⟨su, lu, gu, rfl, hsh, hlk, hgr⟩ := hu0
  obtain ⟨sA, sc, rfl, -, -, -⟩ := id hsh
  obtain ⟨lA, lc, rfl, -, -, -⟩ := id hlk
  obtain ⟨gA, gc, rfl, -, -, -⟩ := id hgr
  have nG := hru.threads
  have HU := Lib.hid (And.intro hu (And.intro hok (And.intro hc hgr)))
  have HK := Lib.hid (And.intro hru (And.intro hok (And.intro hst hv)))
  have HTB := Lib.hid hT
  have HL : ∀ wr, Blk wr w.heap.size 25 [.slice sA u.shared.length sc, .slice lA u.locks.length lc, .slice gA u.graphs.length gc] → Hid (∀ j v, ([.slice sA u.shared.length sc, .slice lA u.locks.length lc, .slice gA u.graphs.length gc] : List Value)[j]? = some v → wr.cell? ⟨w.heap.size, 0 + j, none⟩ = some v) := fun wr h => Lib.hid fun j v hj => by rw [Nat.zero_add, h.cell]; exact hj
  have HLL := Lib.hid HL
  have hB0 := Below_alloc' w (.cells #[.slice sA u.shared.length sc, .slice lA u.locks.length lc, .slice gA u.graphs.length gc] 25)
  have hx0 := Blk.new w 25 [.slice sA u.shared.length sc, .slice lA u.locks.length lc, .slice gA u.graphs.length gc]
  clear hu hok hc HL hru hst hso hv hgr hsh hlk hT
  go_enter Tryd.func3, Tryd.ntmps3
  go_wp2_with fail
  refine (begins_calls _ (HTB.out.below hB0)).mono ?_
  rintro e w1 ⟨rfl, hb1⟩
  have hB1 := hB0.trans (hb1.mono hB0.size)
  have hx1 := hx0.below hb1 hx0.lt
  have HLD1 := HLL.out _ hx1
  have HX1 := Lib.hid hx1.lt
  clear hb1 hx0 hB0
  go_wp2_with (first
    | (refine wpList_load_at rfl 25 _ rfl w.heap.size 0 rfl _ _ HLD1.out Tryd.underlying25 rfl (by kernel_rfl) ?_))
  refine (classes_calls u _ _ (HTB.out.below hB1) (HU.out.1.mono (cmap_below hB1)) HU.out.2.1).mono ?_
  rintro e w2 (⟨-, v2, rfl, hcl, hb2⟩ | ⟨h, -⟩)
  rotate_left
  · exact absurd HU.out.2.2.1 h
  obtain ⟨CL, hCL⟩ : ∃ CL, (List.range u.shared.length).map (fun x : Nat => classF u (x : Int)) = CL := ⟨_, rfl⟩
  have hcll : CL.length = u.shared.length := by rw [← hCL]; simp
  rw [hCL] at hcl
  obtain ⟨cA, cc, rfl, -⟩ := id hcl
  rw [hcll] at hcl ⊢
  have hB2 := hB1.trans (hb2.mono hB1.size)
  have hx2 := hx1.below hb2 hx1.lt
  have HLD2 := HLL.out _ hx2
  have HCL := Lib.hid (And.intro hCL hcll)
  have HC2 := Lib.hid (And.intro hcl (And.intro hb2 hB1))
  clear hb2 hx1 HLD1 hcl hCL hcll hB1
  go_wp2_with (first
    | (refine wpList_load_at rfl 25 _ rfl w.heap.size 0 rfl _ _ HLD2.out Tryd.underlying25 rfl (by kernel_rfl) ?_))
  refine (new_good u _ _ (HU.out.1.mono (cmap_below hB2)) HU.out.2.1 HU.out.2.2.1).mono ?_
  rintro e w3 ⟨g, L, R, rfl, hM, hR, hmu, hb3⟩
  have hB3 := hB2.trans (hb3.mono hB2.size)
  have hx3 := hx2.below hb3 hx2.lt
  have u30 : w3.cell? ⟨w.heap.size, 0, none⟩ = some (.slice sA u.shared.length sc) := hx3.cell 0
  have HM3 := Lib.hid (And.intro hM (And.intro hR (And.intro hmu (And.intro hb3 hB2))))
  clear hM hR hmu hb3 hx2 HLD2 hB2
  have es : ((u.shared.length : Int) != (u.shared.length : Int)) = false := by simp
  have HB3 := Lib.hid hB3
  have HX3 := Lib.hid hx3
  clear hB3 hx3
  go_wp2
  obtain ⟨wo, hwo⟩ : ∃ wo : World, wo = w3 := ⟨_, rfl⟩
  go_loopw [10, 11, 12, 9] (fun i _ _ v9 wr => ∃ (k : Nat) (S : Nat → Prop), i = .int .i64 k ∧ k ≤ u.graphs.length ∧ Hid (Acc heldsV 1 36 w3.heap.size S v9 ((List.range k).map (heldsL u)) wr) ∧ Hid (Below w3.heap.size w3 wr)) (fun i _ _ _ _ => u.graphs.length - (intOf i).toNat)
  case atStart => exact ⟨0, _, rfl, by omega, Lib.hid (Acc.nil heldsV 1 _ _ _), Lib.hid (Below.refl _ _)⟩
  case round =>
    clear u30
    obtain ⟨k, S, rfl, hk, HA, HB⟩ := hrel
    have hxr := HX3.out.below HB.out HX3.out.lt
    have u2 : wr.cell? ⟨w.heap.size, 2, none⟩ = some (.slice gA u.graphs.length gc) := hxr.cell 2
    by_cases hlt : k < u.graphs.length
    · have k0 : (0 : Int) ≤ k := by omega
      have k1 : (k : Int) < u.graphs.length := by omega
      have HLDr := HLL.out _ hxr
      have HBW : Hid (Below w.heap.size w wr) := Lib.hid (HB3.out.trans (HB.out.mono HB3.out.size))
      obtain ⟨g1, hg1⟩ : ∃ g1, u.graphs[k]? = some g1 := ⟨_, List.getElem?_eq_getElem hlt⟩
      have HG1 := Lib.hid hg1
      clear hg1
      go_wp2_with (first
        | (refine wpList_load_at rfl 25 _ rfl w.heap.size 0 rfl _ _ HLDr.out Tryd.underlying25 rfl (by kernel_rfl) ?_))
      refine (lheld_calls u _ (k : Int) _ (HTB.out.below HBW.out) (HU.out.1.mono (cmap_below HBW.out)) HU.out.2.1).mono ?_
      rintro e w5 (⟨-, -, v5, rfl, hh5, hb5⟩ | ⟨-, h, -⟩ | ⟨h, -⟩)
      rotate_left
      · exact absurd ⟨by omega, by omega⟩ h
      · exact absurd HU.out.2.2.1 h
      rw [Int.toNat_natCast] at hh5
      have hln := heldsL_len HG1.out (HK.out.1.graphs g1 (List.mem_of_getElem? HG1.out))
      obtain ⟨hA5, hc5, rfl, -⟩ := id hh5
      rw [hln] at hh5 ⊢
      have HLN := Lib.hid hln
      have hx5 := hxr.below hb5 hxr.lt
      have HBW5 : Hid (Below w.heap.size w w5) := Lib.hid (HBW.out.trans (hb5.mono HBW.out.size))
      obtain ⟨gb, go_, rfl, c1, ⟨v1, rfl, hn1⟩, hcs1⟩ := (HU.out.2.2.2.mono (cmap_below HBW5.out)).at_ HG1.out
      obtain ⟨nA1, nc1, rfl, -⟩ := id hn1
      have p1 : w5.cell? ⟨w.heap.size, 2, none⟩ = some (.slice (some ⟨gb, go_, none⟩) u.graphs.length gc) := hx5.cell 2
      have p2 : w5.cell? ⟨gb, go_ + k * 4 + 3, none⟩ = some (.slice nA1 g1.nodes.length nc1) := hcs1 3 _ rfl
      have en : ((g1.nodes.length : Int) != (g1.nodes.length : Int)) = false := by simp
      have HH5 := Lib.hid (And.intro hh5 hb5)
      have HX5 := Lib.hid hx5
      have ha9 := (HA.out.keep hb5).alloc (.cells #[.slice hA5 g1.nodes.length hc5] 36)
      have hb9 : Below w3.heap.size w3 (w5.alloc (.cells #[.slice hA5 g1.nodes.length hc5] 36)) := (HB.out.trans (hb5.mono HB.out.size)).alloc (Nat.le_trans HB.out.size hb5.size) _
      have hs9 : w3.heap.size ≤ wr.heap.size := HB.out.size
      have hs5 : wr.heap.size ≤ w5.heap.size := hb5.size
      have h9lt := HA.out.lt
      obtain ⟨rows, ho, hrl, hrs, hrx⟩ := id ha9.rows
      have ho' := ho
      rw [List.length_map, List.length_range] at ho'
      have HR9 := Lib.hid (And.intro ha9 (And.intro hb9 (And.intro hrl (And.intro hrs hrx))))
      have HO9 := Lib.hid (And.intro ho ho')
      have H9 := Lib.hid (And.intro hs9 (And.intro hs5 h9lt))
      clear hln hh5 hb5 hn1 hcs1 HLDr u2 hxr hx5 ha9 hb9 ho ho' hrl hrs hrx hs9 hs5 h9lt
      go_wp2_with (refine stop_append rfl ?_)
      refine Stop.intro ?_
      refine app_one sl_held3 rfl _ _ rfl w3.heap.size _ k rows.flatten rfl HO9.out.2 w5.heap.size 0 1 [.slice hA5 g1.nodes.length hc5] rfl rfl (cell_new1 _ _ _ _ rfl) (by simp [Value.oneCell']) (by omega) (by decide) (by have := H9.out.1; have := H9.out.2.1; simp; omega) ?_
      intro v7 w7 hown hg7 hob
      have hacc := HR9.out.1.push HR9.out.2.2.1 HR9.out.2.2.2.1 HR9.out.2.2.2.2 (r := [.slice hA5 g1.nodes.length hc5]) rfl (x := heldsL u k) (v' := v7) (wx := w7) (by rw [List.length_map, List.length_range]; exact hown) hg7 hob (S' := fun q => S q ∨ (wr.heap.size ≤ q ∧ q < w5.heap.size)) (fun q h => .inl h)
        (fun q h => by
          have h1 := H9.out.1
          have h2 := H9.out.2.1
          rcases h with h | h
          · exact HR9.out.1.sep q h
          · refine ⟨by omega, by simp; omega, fun e => ?_⟩
            have := (H9.out.2.2 q e.symm).2
            omega)
        ⟨_, rfl, HH5.out.1.mono ((part_on w5 (S := fun q => wr.heap.size ≤ q ∧ q < w5.heap.size) (fun q h1 h2 => ⟨h1, h2⟩)).trans (on_keep (fun q hq hlt => by
          rw [hg7.block q (by simp; omega) (fun e => by have := (H9.out.2.2 q e.symm).2; omega)]
          exact Below.heap_alloc w5 _ q hq.2) (fun q hq => .inr hq)))⟩
      have HACC : Hid (Acc heldsV 1 36 w3.heap.size (fun q => S q ∨ (wr.heap.size ≤ q ∧ q < w5.heap.size)) v7 ((List.range (k + 1)).map (heldsL u)) w7) := Lib.hid (by rw [List.range_succ, List.map_append]; exact hacc)
      have HB7 : Hid (Below w3.heap.size w3 w7) := Lib.hid (HR9.out.2.1.grown hg7 (by have := H9.out.1; have := H9.out.2.1; simp; omega) (fun q e => (HR9.out.1.lt q e).1))
      clear hown hg7 hob hacc
      go_wp2
      go_roundw
      case rel => exact ⟨k + 1, _, by go_num, by omega, HACC, HB7⟩
      case measure => simp [intOf]; omega
    · obtain rfl : k = u.graphs.length := by omega
      have ng : ¬ ((u.graphs.length : Int) < u.graphs.length) := by omega
      have hM3 := HM3.out
      have hlt1 : w.heap.size < w1.heap.size := HX1.out
      have hC2 := HC2.out
      have hAt := MAz.startZ hlt1 hC2.2.1.size hM3.2.2.2.2 hM3.1 hM3.2.1 hM3.2.2.1 hM3.2.2.2.1 HB.out
      have hT0 : InAt w wr wr R g L u (inZ w w1 w2 w3 wr) 0 (startM u) := ⟨hAt, HK.out.2.2.1, by simp [startM], CM.le.refl _⟩
      have z23 : Below w2.heap.size w2 wr := hM3.2.2.2.1.trans (HB.out.mono hM3.2.2.2.1.size)
      have kC : Clss (on wr (inZ w w1 w2 w3 wr)) (.slice cA u.shared.length cc) CL := hC2.1.mono fun b o v h => by
        obtain ⟨q1, q2, q3⟩ := part_at h
        exact on_mk (cmap_below z23 _ _ _ q1) (.inr (.inl ⟨q2, q3⟩))
      have kH : Sl (Cells heldsV) 1 (on wr (inZ w w1 w2 w3 wr)) u9 ((List.range u.graphs.length).map (heldsL u)) := (HA.out.done (Nat.le_refl _) (Nat.le_refl _)).mono (part_on wr fun q h1 h2 => .inr (.inr ⟨h1, h2⟩))
      have kx : ∀ j v, ([.slice sA u.shared.length sc, .slice lA u.locks.length lc, .slice gA u.graphs.length gc] : List Value)[j]? = some v → on wr (inZ w w1 w2 w3 wr) w.heap.size j = some v := fun j v h => on_mk (((HX3.out.below HB.out HX3.out.lt).cell j).trans h) (.inl rfl)
      obtain ⟨HLd, hHLd⟩ : ∃ HLd, (List.range u.graphs.length).map (heldsL u) = HLd := ⟨_, rfl⟩
      have hHn : HLd.length = u.graphs.length := by rw [← hHLd]; simp
      rw [hHLd] at kH
      obtain ⟨hA9, hc9, rfl, -⟩ := id kH
      rw [hHn] at kH ⊢
      obtain ⟨Z, hZ⟩ : ∃ Z : Nat → Prop, inZ w w1 w2 w3 wr = Z := ⟨_, rfl⟩
      rw [hZ] at hT0 kC kH kx
      obtain ⟨w4, hw4⟩ : ∃ w4 : World, w4 = wr := ⟨_, rfl⟩
      have HT0 : Hid (InAt w w4 wr R g L u Z 0 (startM u)) := Lib.hid (by rw [hw4]; exact hT0)
      have KZ : Hid (Clss (on w4 Z) (.slice cA u.shared.length cc) CL ∧ Sl (Cells heldsV) 1 (on w4 Z) (.slice hA9 u.graphs.length hc9) HLd ∧ ∀ j v, ([.slice sA u.shared.length sc, .slice lA u.locks.length lc, .slice gA u.graphs.length gc] : List Value)[j]? = some v → on w4 Z w.heap.size j = some v) := Lib.hid (by rw [hw4]; exact ⟨kC, kH, kx⟩)
      have HHL := Lib.hid (And.intro hHLd hHn)
      have HU2 := Lib.hid u2
      clear hlt hk hM3 hlt1 hC2 hAt hT0 z23 kC kH kx hZ hw4 HA HB hxr HM3 HC2 HX3 HB3 hHLd hHn
      go_wp2
      clear u2
      go_loopw [13, 14, 15, 16, 17, 18, 19, 20, 21] (fun i _ _ _ _ _ _ _ _ wr => ∃ (k : Nat) (mk : Mach), i = .int .i64 k ∧ k ≤ l.length ∧ k ≤ 2000 ∧ Hid (InAt w w4 wr R g L u Z k mk)) (fun i _ _ _ _ _ _ _ _ _ => l.length - (intOf i).toNat)
      case atStart => exact ⟨0, _, rfl, by omega, by omega, HT0⟩
      case round =>
        clear HT0
        obtain ⟨k, mk, rfl, hk, hk2, HH⟩ := hrel
        have k0 : (0 : Int) ≤ k := by omega
        by_cases hlt : k < l.length
        rotate_left
        · obtain rfl : k = l.length := by omega
          have nk : ¬ ((l.length : Int) < l.length) := by omega
          have HF := Lib.hid HH.out.at_.bel
          clear hlt hk hk2
          go_wp2_with fail
          go_ret
          exact ⟨rfl, HF.out⟩
        have k1 : (k : Int) < l.length := by omega
        by_cases h20 : k < 2000
        rotate_left
        · have nk : ¬ ((k : Int) < 2000) := by omega
          have HF := Lib.hid HH.out.at_.bel
          clear h20 hk hk2 hlt
          go_wp2_with fail
          go_ret
          exact ⟨rfl, HF.out⟩
        have k2 : (k : Int) < 2000 := by omega
        obtain ⟨t, ht⟩ : ∃ t, l[k]? = some t := ⟨_, List.getElem?_eq_getElem hlt⟩
        obtain ⟨sb, so, rfl, hsc⟩ := (HK.out.2.2.2.mono (cmap_below HH.out.at_.bel)).at_ ht
        rw [Nat.mul_one] at hsc
        have hcs : wr.cell? ⟨sb, so + k, none⟩ = some (.int .i64 t) := hsc
        obtain ⟨pv, hM, hmu⟩ := HH.out.at_.ex
        have HC := can_calls t hM HH.out.situ.ok HK.out.1
        clear hM hmu hsc
        by_cases hcan : barF u mk t = 0
        rotate_left
        · have e1 : (barF u mk t == 0) = false := by simp [hcan]
          rw [e1] at HC
          have HC := Lib.hid HC
          clear e1 hcan ht
          go_wp2_with fail
          refine HC.out.mono ?_
          rintro e wa ⟨rfl, hba⟩
          have HHa := Lib.hid (HH.out.below hba).succ
          clear hba
          go_wp2_with fail
          go_roundw
          case rel => exact ⟨k + 1, _, by go_num, by omega, by omega, HHa⟩
          case measure => simp [intOf]; omega
        obtain ⟨ta, g1, ia, n1, rfl, hta, st1, wh1⟩ := can_yes_in HH.out.situ hcan
        have e1 : (barF u mk (ta : Int) == 0) = true := by simp [hcan]
        rw [e1] at HC
        have HC := Lib.hid HC
        have HST := Lib.hid (And.intro st1 (And.intro wh1 hcan))
        have hru1 := HK.out.1.graphs g1 (List.mem_of_getElem? st1.gr)
        have hln := heldsL_len st1.gr hru1
        have hel : HLd[ta]? = some (heldsL u ta) := by rw [← HHL.out.1, List.getElem?_map, List.getElem?_range hta]; rfl
        obtain ⟨hb9, ho9, rfl, _, ⟨hv9, rfl, hin9⟩, hcell9⟩ := KZ.out.2.1.at_ hel
        obtain ⟨hA8, hc8, rfl, -⟩ := id hin9
        rw [hln] at hin9
        have hz9 := hcell9 0 _ rfl
        rw [hln, Nat.mul_one] at hz9
        have H9 := Lib.hid (And.intro hz9 hin9)
        have i0 : ¬ ((ia : Int) < 0) := by omega
        have i1 : ¬ ((g1.nodes.length : Int) ≤ ia) := by have := (List.getElem?_eq_some_iff.1 st1.nd).1; omega
        have i2 : decide ((ia : Int) < 0) = false := decide_eq_false i0
        have i3 : decide ((g1.nodes.length : Int) ≤ ia) = false := decide_eq_false i1
        have i4 : decide (g1.nodes.length ≤ ia) = false := decide_eq_false (by omega)
        have i5 : (ia : Int) < g1.nodes.length := by omega
        have i6 : (0 : Int) ≤ ia := by omega
        have a0 : (0 : Int) ≤ ta := by omega
        have a1 : (ta : Int) < u.graphs.length := by omega
        clear e1 hcan ht st1 wh1 hru1 hln hel hin9 hcell9 hz9
        go_wp2_with fail
        refine HC.out.mono ?_
        rintro e wa ⟨rfl, hba⟩
        have HHa := Lib.hid (HH.out.below hba)
        obtain ⟨pv, hM, hmu⟩ := HHa.out.at_.ex
        have HA1 := at_calls (ta : Int) hM
        rw [HST.out.2.1] at HA1
        have HA1 := Lib.hid HA1
        clear hM hmu hba HC hcs HH
        go_wp2_with fail
        refine HA1.out.mono ?_
        rintro e wb ⟨rfl, q1, rfl⟩
        have HHb := Lib.hid (HHa.out.drewN q1)
        have c9 : (wa.drewN q1).cell? ⟨hb9, ho9 + ta, none⟩ = some (.slice hA8 g1.nodes.length hc8) := (on_at (HHb.out.kz _ _ _ H9.out.1)).1
        have v1 : (wa.drewN q1).cell? ⟨w.heap.size, 1, none⟩ = some (.slice lA u.locks.length lc) := (on_at (HHb.out.kz _ _ _ (KZ.out.2.2 1 _ rfl))).1
        clear HA1 HHa
        obtain ⟨W, hW⟩ : ∃ W, wa.drewN q1 = W := ⟨_, rfl⟩
        rw [hW] at HHb c9 v1 ⊢
        have V1 := Lib.hid v1
        obtain ⟨LO, hLO⟩ : ∃ LO : Nat → List Int, (fun j => ((List.range j).filter fun k : Nat => decide (mk.holder (k : Int) = (ta : Int))).map Int.ofNat) = LO := ⟨_, rfl⟩
        have LO0 : LO 0 = [] := by rw [← hLO]; rfl
        have LOs : ∀ j, LO (j + 1) = if mk.holder (j : Int) = (ta : Int) then LO j ++ [(j : Int)] else LO j := fun j => by
          rw [← hLO]
          simp only [List.range_succ, List.filter_append, List.map_append]
          by_cases h : mk.holder (j : Int) = (ta : Int) <;> simp [h]
        have LOl : ∀ j, (LO j).length ≤ j := fun j => by
          rw [← hLO, List.length_map]
          exact Nat.le_trans (List.length_filter_le _ _) (by simp)
        have hl16 := HK.out.1.locks
        have HLO := Lib.hid (And.intro hLO (And.intro LOs LOl))
        have HO0 : Hid (W.ownsRow W.heap.size 3 1 (.slice none 0 0) (LO 0).length ((LO 0).map (Value.int .i64))) := Lib.hid (by rw [LO0]; exact World.ownsRow_nil _ _ _ _)
        clear hW LO0 LOs LOl hLO
        go_wp2_with fail
        go_loopw [17, 16] (fun i v16 wx => ∃ j : Nat, i = .int .i64 j ∧ j ≤ u.locks.length ∧ Hid (wx.ownsRow W.heap.size 3 1 v16 (LO j).length ((LO j).map (Value.int .i64))) ∧ Hid (Below W.heap.size W wx)) (fun i _ _ => u.locks.length - (intOf i).toNat)
        case atStart => exact ⟨0, rfl, by omega, HO0, Lib.hid (Below.refl _ _)⟩
        case round =>
          clear v1 c9 HO0
          obtain ⟨j, rfl, hj, HO, HBx⟩ := hrel
          have HHx := Lib.hid (HHb.out.below HBx.out)
          have v1 : wr.cell? ⟨w.heap.size, 1, none⟩ = some (.slice lA u.locks.length lc) := (on_at (HHx.out.kz _ _ _ (KZ.out.2.2 1 _ rfl))).1
          by_cases hjl : j < u.locks.length
          · have j0 : (0 : Int) ≤ j := by omega
            have j1 : (j : Int) < u.locks.length := by omega
            obtain ⟨pv, hM, hmu⟩ := HHx.out.at_.ex
            have HHo := Lib.hid (holder_calls (j : Int) hM)
            have hsz := HBx.out.size
            have hll := HLO.out.2.2 j
            clear hM hmu
            by_cases he : mk.holder (j : Int) = (ta : Int)
            · have ee : (mk.holder (j : Int) == (ta : Int)) = true := by simp [he]
              have hn : LO (j + 1) = LO j ++ [(j : Int)] := by rw [HLO.out.2.1, if_pos he]
              have HN := Lib.hid hn
              have HB2 := Lib.hid (HBx.out.alloc hsz (.cells #[.int .i64 (j : Int)] 3))
              have HO2 := Lib.hid (ownsRow_below HO.out (Below_alloc' wr (.cells #[.int .i64 (j : Int)] 3)))
              have HS := Lib.hid (And.intro hsz hll)
              clear he hn hsz hll
              go_wp2_with fail
              refine HHo.out.mono ?_
              rintro e wz ⟨rfl, rfl⟩
              go_wp2_with (refine stop_append rfl ?_)
              refine Stop.intro ?_
              refine app_one sl_int rfl _ _ rfl W.heap.size _ (LO j).length ((LO j).map (Value.int .i64)) rfl HO2.out wz.heap.size 0 1 [.int .i64 (j : Int)] rfl rfl (cell_new1 _ _ _ _ rfl) (by simp [Value.oneCell']) (by have := HS.out.2; omega) (by decide) (by have := HS.out.1; simp; omega) ?_
              intro v7 w7 hown hg7 hob
              have HO3 : Hid (w7.ownsRow W.heap.size 3 1 v7 (LO (j + 1)).length ((LO (j + 1)).map (Value.int .i64))) := Lib.hid (by rw [HN.out, List.length_append, List.map_append]; exact hown)
              have HB3x := Lib.hid (HB2.out.grown hg7 (by have := HS.out.1; simp; omega) (fun q e => (HO2.out.lt q e).1))
              clear hown hg7 hob
              go_wp2_with fail
              go_roundw
              case rel => exact ⟨j + 1, by go_num, by omega, HO3, HB3x⟩
              case measure => simp [intOf]; omega
            · have ee : (mk.holder (j : Int) == (ta : Int)) = false := by simp [he]
              have hn : LO (j + 1) = LO j := by rw [HLO.out.2.1, if_neg he]
              have HO3 : Hid (wr.ownsRow W.heap.size 3 1 u16 (LO (j + 1)).length ((LO (j + 1)).map (Value.int .i64))) := Lib.hid (by rw [hn]; exact HO.out)
              clear he hn hsz hll
              go_wp2_with fail
              refine HHo.out.mono ?_
              rintro e wz ⟨rfl, rfl⟩
              go_wp2_with fail
              go_roundw
              case rel => exact ⟨j + 1, by go_num, by omega, HO3, HBx⟩
              case measure => simp [intOf]; omega
          · obtain rfl : j = u.locks.length := by omega
            have nj : ¬ ((u.locks.length : Int) < u.locks.length) := by omega
            have hrise : LO u.locks.length = risingL (heldAt g1 ia) := by rw [← HLO.out.1]; exact own_rising HK.out.1 HHb.out.situ HST.out.1
            obtain ⟨oA, oc, rfl, -⟩ := own_slice HO.out
            have hOI : Ints (cmap wr) (.slice oA (LO u.locks.length).length oc) (LO u.locks.length) := (Sl_of_own (f := Value.int .i64) (fun _ _ _ _ h => h) HO.out (Nat.le_refl _) (Nat.le_refl _)).mono (part_le _ _ _)
            obtain ⟨RL, hRL⟩ : ∃ RL, risingL (heldAt g1 ia) = RL := ⟨_, rfl⟩
            rw [hrise, hRL] at hOI
            have hLL : (LO u.locks.length).length = RL.length := by rw [hrise, hRL]
            have hget := heldsL_get HST.out.1.gr (HK.out.1.graphs g1 (List.mem_of_getElem? HST.out.1.gr)) (i := ia) (by omega)
            rw [hRL] at hget
            obtain ⟨hb8, ho8, rfl, _, ⟨hv8, rfl, hin8⟩, hcell8⟩ := H9.out.2.at_ hget
            obtain ⟨iA, ic, rfl, -⟩ := id hin8
            have hz8 := hcell8 0 _ rfl
            rw [Nat.mul_one] at hz8
            have c9 : wr.cell? ⟨hb9, ho9 + ta, none⟩ = some (.slice (some ⟨hb8, ho8, none⟩) g1.nodes.length hc8) := (on_at (HHx.out.kz _ _ _ H9.out.1)).1
            have c8 : wr.cell? ⟨hb8, ho8 + ia, none⟩ = some (.slice iA RL.length ic) := (on_at (HHx.out.kz _ _ _ hz8)).1
            have HI := Lib.hid (ints6_calls _ _ RL RL wr hOI (hin8.mono (HHx.out.kz.trans (on_le _ _))))
            have hnd := ndF ((HK.out.1.graphs g1 (List.mem_of_getElem? HST.out.1.gr)).nodes n1 (List.mem_of_getElem? HST.out.1.nd))
            obtain ⟨gb, go_, rfl, c1, ⟨v1_, rfl, hn1⟩, hcs1⟩ := (HU.out.2.2.2.mono (cmap_below HHx.out.at_.bel)).at_ HST.out.1.gr
            obtain ⟨nA_, nc_, rfl, -⟩ := id hn1
            obtain ⟨nb, no_, rfl, hnc⟩ := hn1.at_ HST.out.1.nd
            have p1 : wr.cell? ⟨w.heap.size, 2, none⟩ = some (.slice (some ⟨gb, go_, none⟩) u.graphs.length gc) := (on_at (HHx.out.kz _ _ _ (KZ.out.2.2 2 _ rfl))).1
            have p2 : wr.cell? ⟨gb, go_ + ta * 4 + 3, none⟩ = some (.slice (some ⟨nb, no_, none⟩) g1.nodes.length _) := hcs1 3 _ rfl
            have hstep := fun wx (hx : InAt w w4 wx R g L u Z k mk) => in_step HK.out.1 HK.out.2.1 hk2 hx (t := (ta : Int)) HST.out.2.2
            have hlet := class_lets HK.out.1 HHx.out.situ HST.out.1
            obtain ⟨⟨nk, nop, nsl, nth, ⟨a1, a2, a3⟩, ⟨b1, b2, b3⟩, nn, ne_, no⟩, hn1e⟩ : ∃ n, n1 = n := ⟨_, rfl⟩
            rw [hn1e] at hnd hlet hnc
            have HLDN : Hid (∀ j v, ([.int .u8 nk, .int .u8 nop, .int .i64 nsl, .int .i64 nth, .bool a1, .int .i64 a2, .int .i64 a3, .bool b1, .int .i64 b2, .int .i64 b3, .int .i64 nn, .int .i64 ne_, .int .i64 no] : List Value)[j]? = some v → wr.cell? ⟨nb, no_ + ia * 13 + j, none⟩ = some v) := Lib.hid hnc
            obtain ⟨d, hdd⟩ : ∃ d, stepD u mk ta = d := ⟨_, rfl⟩
            obtain ⟨mn, hmn⟩ : ∃ mn, stepM u mk ta = mn := ⟨_, rfl⟩
            rw [hdd, hmn] at hstep
            have HSTEP := Lib.hid hstep
            have HVAR := Lib.hid hnd.var
            have HLET := Lib.hid hlet
            have HDR : Hid (decide (RL = RL) = true) := Lib.hid (decide_eq_true rfl)
            clear hrise hOI hRL hget hin8 hcell8 hz8 hnd hn1 hcs1 hstep hlet hn1e hnc hdd hmn hj hjl HO
            rw [hLL]
            clear hLL
            go_wp2_with fail
            refine HI.out.mono ?_
            rintro e wz ⟨rfl, q2, rfl⟩
            rw [HDR.out]
            have HH2 := Lib.hid (HHx.out.drewN q2)
            have p1' : (wr.drewN q2).cell? ⟨w.heap.size, 2, none⟩ = some (.slice (some ⟨gb, go_, none⟩) u.graphs.length gc) := p1
            have p2' : (wr.drewN q2).cell? ⟨gb, go_ + ta * 4 + 3, none⟩ = some (.slice (some ⟨nb, no_, none⟩) g1.nodes.length _) := p2
            have HLD2 : Hid (∀ j v, ([.int .u8 nk, .int .u8 nop, .int .i64 nsl, .int .i64 nth, .bool a1, .int .i64 a2, .int .i64 a3, .bool b1, .int .i64 b2, .int .i64 b3, .int .i64 nn, .int .i64 ne_, .int .i64 no] : List Value)[j]? = some v → (wr.drewN q2).cell? ⟨nb, no_ + ia * 13 + j, none⟩ = some v) := HLDN
            obtain ⟨W2, hW2⟩ : ∃ W2, wr.drewN q2 = W2 := ⟨_, rfl⟩
            rw [hW2] at HH2 p1' p2' HLD2 ⊢
            clear hW2 p1 p2 c8 c9 HLDN HHx HBx v1
            by_cases k2 : nk = 2
            · have hv := HVAR.out (by rw [k2]; decide)
              have hl := HLET.out (by rw [k2]; rfl)
              subst k2
              obtain ⟨q, rfl⟩ := Int.eq_ofNat_of_zero_le hv.1
              have hq : q < u.shared.length := by have := hv.2; omega
              have q0 : (0 : Int) ≤ q := by omega
              have q1 : (q : Int) < u.shared.length := by omega
              have hel : CL[q]? = some (classF u (q : Int)) := by rw [← HCL.out.1, List.getElem?_map, List.getElem?_range hq]; rfl
              obtain ⟨cb, co, rfl, _, rfl, hcc⟩ := KZ.out.1.at_ hel
              obtain ⟨⟨ck, cth, cl⟩, hce⟩ : ∃ c, classF u (q : Int) = c := ⟨_, rfl⟩
              rw [hce] at hl hcc
              have HLDC : Hid (∀ j v, ([.int .u8 ck, .int .i64 cth, .int .i64 cl] : List Value)[j]? = some v → (W2.alloc (.cells #[.int .u8 2, .int .u8 nop, .int .i64 nsl, .int .i64 (q : Int), .bool a1, .int .i64 a2, .int .i64 a3, .bool b1, .int .i64 b2, .int .i64 b3, .int .i64 nn, .int .i64 ne_, .int .i64 no] 50)).cell? ⟨cb, co + q * 3 + j, none⟩ = some v) := Lib.hid fun j v h => (on_at ((HH2.out.below (Below_alloc' _ _)).kz _ _ _ (hcc j v h))).1
              clear hv hel hcc hce hq
              rcases hl with ⟨h1, h2⟩ | ⟨h1, h2⟩ | h1
              · replace h1 : ck = 1 := h1
                replace h2 : cth = ta := h2
                subst h1; subst h2
                go_wp2_with (first
                  | (refine wpList_load_at rfl 50 _ rfl nb (no_ + ia * 13) rfl _ _ HLD2.out Tryd.underlying50 rfl (by kernel_rfl) ?_)
                  | (refine wpList_load_at rfl 53 _ rfl cb (co + q * 3) rfl _ _ HLDC.out Tryd.underlying53 rfl (by kernel_rfl) ?_))
                refine (HSTEP.out _ (((HH2.out).below (Below_alloc' _ _)).below (Below_alloc' _ _))).mono ?_
                rintro e w6 ⟨rfl, hi⟩
                have HFIN := Lib.hid (hi.below (Below_alloc' w6 (.cells #[.int .i64 d.thread, .int .i64 d.node, .int .u8 d.kind, .int .i64 d.thing, .int .i64 d.word, .int .i64 d.put] 55)))
                clear hi
                go_wp2_with fail
                go_roundw
                case rel => exact ⟨k + 1, _, by go_num, by omega, by omega, HFIN⟩
                case measure => simp [intOf]; omega
              · replace h1 : ck = 2 := h1
                have hho : (mk.holder cl != (ta : Int)) = false := by simp; exact h2
                have HHO := Lib.hid hho
                obtain ⟨pv, hM, hmu⟩ := ((HH2.out.below (Below_alloc' _ (.cells #[.int .u8 2, .int .u8 nop, .int .i64 nsl, .int .i64 (q : Int), .bool a1, .int .i64 a2, .int .i64 a3, .bool b1, .int .i64 b2, .int .i64 b3, .int .i64 nn, .int .i64 ne_, .int .i64 no] 50))).below (Below_alloc' _ (.cells #[.int .u8 2, .int .i64 cth, .int .i64 cl] 53))).at_.ex
                have HHol := Lib.hid (holder_calls cl hM)
                subst h1
                clear h2 hM hmu
                go_wp2_with (first
                  | (refine wpList_load_at rfl 50 _ rfl nb (no_ + ia * 13) rfl _ _ HLD2.out Tryd.underlying50 rfl (by kernel_rfl) ?_)
                  | (refine wpList_load_at rfl 53 _ rfl cb (co + q * 3) rfl _ _ HLDC.out Tryd.underlying53 rfl (by kernel_rfl) ?_))
                refine HHol.out.mono ?_
                rintro e wz ⟨rfl, rfl⟩
                go_wp2_with fail
                refine (HSTEP.out _ (((HH2.out).below (Below_alloc' _ _)).below (Below_alloc' _ _))).mono ?_
                rintro e w6 ⟨rfl, hi⟩
                have HFIN := Lib.hid (hi.below (Below_alloc' w6 (.cells #[.int .i64 d.thread, .int .i64 d.node, .int .u8 d.kind, .int .i64 d.thing, .int .i64 d.word, .int .i64 d.put] 55)))
                clear hi
                go_wp2_with fail
                go_roundw
                case rel => exact ⟨k + 1, _, by go_num, by omega, by omega, HFIN⟩
                case measure => simp [intOf]; omega
              · replace h1 : ck = 3 := h1
                subst h1
                go_wp2_with (first
                  | (refine wpList_load_at rfl 50 _ rfl nb (no_ + ia * 13) rfl _ _ HLD2.out Tryd.underlying50 rfl (by kernel_rfl) ?_)
                  | (refine wpList_load_at rfl 53 _ rfl cb (co + q * 3) rfl _ _ HLDC.out Tryd.underlying53 rfl (by kernel_rfl) ?_))
                refine (HSTEP.out _ (((HH2.out).below (Below_alloc' _ _)).below (Below_alloc' _ _))).mono ?_
                rintro e w6 ⟨rfl, hi⟩
                have HFIN := Lib.hid (hi.below (Below_alloc' w6 (.cells #[.int .i64 d.thread, .int .i64 d.node, .int .u8 d.kind, .int .i64 d.thing, .int .i64 d.word, .int .i64 d.put] 55)))
                clear hi
                go_wp2_with fail
                go_roundw
                case rel => exact ⟨k + 1, _, by go_num, by omega, by omega, HFIN⟩
                case measure => simp [intOf]; omega
            by_cases k3 : nk = 3
            · have hv := HVAR.out (by rw [k3]; decide)
              have hl := HLET.out (by rw [k3]; rfl)
              subst k3
              obtain ⟨q, rfl⟩ := Int.eq_ofNat_of_zero_le hv.1
              have hq : q < u.shared.length := by have := hv.2; omega
              have q0 : (0 : Int) ≤ q := by omega
              have q1 : (q : Int) < u.shared.length := by omega
              have hel : CL[q]? = some (classF u (q : Int)) := by rw [← HCL.out.1, List.getElem?_map, List.getElem?_range hq]; rfl
              obtain ⟨cb, co, rfl, _, rfl, hcc⟩ := KZ.out.1.at_ hel
              obtain ⟨⟨ck, cth, cl⟩, hce⟩ : ∃ c, classF u (q : Int) = c := ⟨_, rfl⟩
              rw [hce] at hl hcc
              have HLDC : Hid (∀ j v, ([.int .u8 ck, .int .i64 cth, .int .i64 cl] : List Value)[j]? = some v → (W2.alloc (.cells #[.int .u8 3, .int .u8 nop, .int .i64 nsl, .int .i64 (q : Int), .bool a1, .int .i64 a2, .int .i64 a3, .bool b1, .int .i64 b2, .int .i64 b3, .int .i64 nn, .int .i64 ne_, .int .i64 no] 50)).cell? ⟨cb, co + q * 3 + j, none⟩ = some v) := Lib.hid fun j v h => (on_at ((HH2.out.below (Below_alloc' _ _)).kz _ _ _ (hcc j v h))).1
              clear hv hel hcc hce hq
              rcases hl with ⟨h1, h2⟩ | ⟨h1, h2⟩ | h1
              · replace h1 : ck = 1 := h1
                replace h2 : cth = ta := h2
                subst h1; subst h2
                go_wp2_with (first
                  | (refine wpList_load_at rfl 50 _ rfl nb (no_ + ia * 13) rfl _ _ HLD2.out Tryd.underlying50 rfl (by kernel_rfl) ?_)
                  | (refine wpList_load_at rfl 53 _ rfl cb (co + q * 3) rfl _ _ HLDC.out Tryd.underlying53 rfl (by kernel_rfl) ?_))
                refine (HSTEP.out _ (((HH2.out).below (Below_alloc' _ _)).below (Below_alloc' _ _))).mono ?_
                rintro e w6 ⟨rfl, hi⟩
                have HFIN := Lib.hid (hi.below (Below_alloc' w6 (.cells #[.int .i64 d.thread, .int .i64 d.node, .int .u8 d.kind, .int .i64 d.thing, .int .i64 d.word, .int .i64 d.put] 55)))
                clear hi
                go_wp2_with fail
                go_roundw
                case rel => exact ⟨k + 1, _, by go_num, by omega, by omega, HFIN⟩
                case measure => simp [intOf]; omega
              · replace h1 : ck = 2 := h1
                have hho : (mk.holder cl != (ta : Int)) = false := by simp; exact h2
                have HHO := Lib.hid hho
                obtain ⟨pv, hM, hmu⟩ := ((HH2.out.below (Below_alloc' _ (.cells #[.int .u8 3, .int .u8 nop, .int .i64 nsl, .int .i64 (q : Int), .bool a1, .int .i64 a2, .int .i64 a3, .bool b1, .int .i64 b2, .int .i64 b3, .int .i64 nn, .int .i64 ne_, .int .i64 no] 50))).below (Below_alloc' _ (.cells #[.int .u8 2, .int .i64 cth, .int .i64 cl] 53))).at_.ex
                have HHol := Lib.hid (holder_calls cl hM)
                subst h1
                clear h2 hM hmu
                go_wp2_with (first
                  | (refine wpList_load_at rfl 50 _ rfl nb (no_ + ia * 13) rfl _ _ HLD2.out Tryd.underlying50 rfl (by kernel_rfl) ?_)
                  | (refine wpList_load_at rfl 53 _ rfl cb (co + q * 3) rfl _ _ HLDC.out Tryd.underlying53 rfl (by kernel_rfl) ?_))
                refine HHol.out.mono ?_
                rintro e wz ⟨rfl, rfl⟩
                go_wp2_with fail
                refine (HSTEP.out _ (((HH2.out).below (Below_alloc' _ _)).below (Below_alloc' _ _))).mono ?_
                rintro e w6 ⟨rfl, hi⟩
                have HFIN := Lib.hid (hi.below (Below_alloc' w6 (.cells #[.int .i64 d.thread, .int .i64 d.node, .int .u8 d.kind, .int .i64 d.thing, .int .i64 d.word, .int .i64 d.put] 55)))
                clear hi
                go_wp2_with fail
                go_roundw
                case rel => exact ⟨k + 1, _, by go_num, by omega, by omega, HFIN⟩
                case measure => simp [intOf]; omega
              · replace h1 : ck = 3 := h1
                subst h1
                go_wp2_with (first
                  | (refine wpList_load_at rfl 50 _ rfl nb (no_ + ia * 13) rfl _ _ HLD2.out Tryd.underlying50 rfl (by kernel_rfl) ?_)
                  | (refine wpList_load_at rfl 53 _ rfl cb (co + q * 3) rfl _ _ HLDC.out Tryd.underlying53 rfl (by kernel_rfl) ?_))
                refine (HSTEP.out _ (((HH2.out).below (Below_alloc' _ _)).below (Below_alloc' _ _))).mono ?_
                rintro e w6 ⟨rfl, hi⟩
                have HFIN := Lib.hid (hi.below (Below_alloc' w6 (.cells #[.int .i64 d.thread, .int .i64 d.node, .int .u8 d.kind, .int .i64 d.thing, .int .i64 d.word, .int .i64 d.put] 55)))
                clear hi
                go_wp2_with fail
                go_roundw
                case rel => exact ⟨k + 1, _, by go_num, by omega, by omega, HFIN⟩
                case measure => simp [intOf]; omega
            by_cases k4 : nk = 4
            · have hv := HVAR.out (by rw [k4]; decide)
              have hl := HLET.out (by rw [k4]; rfl)
              subst k4
              obtain ⟨q, rfl⟩ := Int.eq_ofNat_of_zero_le hv.1
              have hq : q < u.shared.length := by have := hv.2; omega
              have q0 : (0 : Int) ≤ q := by omega
              have q1 : (q : Int) < u.shared.length := by omega
              have hel : CL[q]? = some (classF u (q : Int)) := by rw [← HCL.out.1, List.getElem?_map, List.getElem?_range hq]; rfl
              obtain ⟨cb, co, rfl, _, rfl, hcc⟩ := KZ.out.1.at_ hel
              obtain ⟨⟨ck, cth, cl⟩, hce⟩ : ∃ c, classF u (q : Int) = c := ⟨_, rfl⟩
              rw [hce] at hl hcc
              have HLDC : Hid (∀ j v, ([.int .u8 ck, .int .i64 cth, .int .i64 cl] : List Value)[j]? = some v → (W2.alloc (.cells #[.int .u8 4, .int .u8 nop, .int .i64 nsl, .int .i64 (q : Int), .bool a1, .int .i64 a2, .int .i64 a3, .bool b1, .int .i64 b2, .int .i64 b3, .int .i64 nn, .int .i64 ne_, .int .i64 no] 50)).cell? ⟨cb, co + q * 3 + j, none⟩ = some v) := Lib.hid fun j v h => (on_at ((HH2.out.below (Below_alloc' _ _)).kz _ _ _ (hcc j v h))).1
              clear hv hel hcc hce hq
              rcases hl with ⟨h1, h2⟩ | ⟨h1, h2⟩ | h1
              · replace h1 : ck = 1 := h1
                replace h2 : cth = ta := h2
                subst h1; subst h2
                go_wp2_with (first
                  | (refine wpList_load_at rfl 50 _ rfl nb (no_ + ia * 13) rfl _ _ HLD2.out Tryd.underlying50 rfl (by kernel_rfl) ?_)
                  | (refine wpList_load_at rfl 53 _ rfl cb (co + q * 3) rfl _ _ HLDC.out Tryd.underlying53 rfl (by kernel_rfl) ?_))
                refine (HSTEP.out _ (((HH2.out).below (Below_alloc' _ _)).below (Below_alloc' _ _))).mono ?_
                rintro e w6 ⟨rfl, hi⟩
                have HFIN := Lib.hid (hi.below (Below_alloc' w6 (.cells #[.int .i64 d.thread, .int .i64 d.node, .int .u8 d.kind, .int .i64 d.thing, .int .i64 d.word, .int .i64 d.put] 55)))
                clear hi
                go_wp2_with fail
                go_roundw
                case rel => exact ⟨k + 1, _, by go_num, by omega, by omega, HFIN⟩
                case measure => simp [intOf]; omega
              · replace h1 : ck = 2 := h1
                have hho : (mk.holder cl != (ta : Int)) = false := by simp; exact h2
                have HHO := Lib.hid hho
                obtain ⟨pv, hM, hmu⟩ := ((HH2.out.below (Below_alloc' _ (.cells #[.int .u8 4, .int .u8 nop, .int .i64 nsl, .int .i64 (q : Int), .bool a1, .int .i64 a2, .int .i64 a3, .bool b1, .int .i64 b2, .int .i64 b3, .int .i64 nn, .int .i64 ne_, .int .i64 no] 50))).below (Below_alloc' _ (.cells #[.int .u8 2, .int .i64 cth, .int .i64 cl] 53))).at_.ex
                have HHol := Lib.hid (holder_calls cl hM)
                subst h1
                clear h2 hM hmu
                go_wp2_with (first
                  | (refine wpList_load_at rfl 50 _ rfl nb (no_ + ia * 13) rfl _ _ HLD2.out Tryd.underlying50 rfl (by kernel_rfl) ?_)
                  | (refine wpList_load_at rfl 53 _ rfl cb (co + q * 3) rfl _ _ HLDC.out Tryd.underlying53 rfl (by kernel_rfl) ?_))
                refine HHol.out.mono ?_
                rintro e wz ⟨rfl, rfl⟩
                go_wp2_with fail
                refine (HSTEP.out _ (((HH2.out).below (Below_alloc' _ _)).below (Below_alloc' _ _))).mono ?_
                rintro e w6 ⟨rfl, hi⟩
                have HFIN := Lib.hid (hi.below (Below_alloc' w6 (.cells #[.int .i64 d.thread, .int .i64 d.node, .int .u8 d.kind, .int .i64 d.thing, .int .i64 d.word, .int .i64 d.put] 55)))
                clear hi
                go_wp2_with fail
                go_roundw
                case rel => exact ⟨k + 1, _, by go_num, by omega, by omega, HFIN⟩
                case measure => simp [intOf]; omega
              · replace h1 : ck = 3 := h1
                subst h1
                go_wp2_with (first
                  | (refine wpList_load_at rfl 50 _ rfl nb (no_ + ia * 13) rfl _ _ HLD2.out Tryd.underlying50 rfl (by kernel_rfl) ?_)
                  | (refine wpList_load_at rfl 53 _ rfl cb (co + q * 3) rfl _ _ HLDC.out Tryd.underlying53 rfl (by kernel_rfl) ?_))
                refine (HSTEP.out _ (((HH2.out).below (Below_alloc' _ _)).below (Below_alloc' _ _))).mono ?_
                rintro e w6 ⟨rfl, hi⟩
                have HFIN := Lib.hid (hi.below (Below_alloc' w6 (.cells #[.int .i64 d.thread, .int .i64 d.node, .int .u8 d.kind, .int .i64 d.thing, .int .i64 d.word, .int .i64 d.put] 55)))
                clear hi
                go_wp2_with fail
                go_roundw
                case rel => exact ⟨k + 1, _, by go_num, by omega, by omega, HFIN⟩
                case measure => simp [intOf]; omega
            have e2 : (nk == 2) = false := by simp [k2]
            have e3 : (nk == 3) = false := by simp [k3]
            have e4 : (nk == 4) = false := by simp [k4]
            clear k2 k3 k4
            go_wp2_with (first
              | (refine wpList_load_at rfl 50 _ rfl nb (no_ + ia * 13) rfl _ _ HLD2.out Tryd.underlying50 rfl (by kernel_rfl) ?_))
            refine (HSTEP.out _ ((HH2.out).below (Below_alloc' _ _))).mono ?_
            rintro e w6 ⟨rfl, hi⟩
            have HFIN := Lib.hid (hi.below (Below_alloc' w6 (.cells #[.int .i64 d.thread, .int .i64 d.node, .int .u8 d.kind, .int .i64 d.thing, .int .i64 d.word, .int .i64 d.put] 55)))
            clear hi
            go_wp2_with fail
            go_roundw
            case rel => exact ⟨k + 1, _, by go_num, by omega, by omega, HFIN⟩
            case measure => simp [intOf]; omega
end Go.Proofs.YtkkmkjjbffpgnaaDoor
