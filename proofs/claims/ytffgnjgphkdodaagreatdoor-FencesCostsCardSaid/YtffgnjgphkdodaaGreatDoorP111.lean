import Derived.Test.YtffgnjgphkdodaaGreatDoorP108
import Derived.Test.YtffgnjgphkdodaaGreatDoorP02
import Derived.Test.YtffgnjgphkdodaaGreatDoorP05
namespace Go.Proofs.YtffgnjgphkdodaaGreatDoor
open Go Go.RowKit
theorem gb_grown {w wr wx : World} {r q : Option Nat} (h : w.grownBy wr r) (hg : wr.grownBy wx q) (hq : q = r ∨ ∀ k, q = some k → w.heap.size ≤ k) : w.grownBy wx r :=
 ⟨hg.os.trans h.os, hg.tape.trans h.tape, hg.output.trans h.output, Nat.le_trans h.size hg.size, fun b hlt hne => by
  refine (hg.block b (Nat.lt_of_lt_of_le hlt h.size) ?_).trans (h.block b hlt hne)
  rcases hq with e | e
  ·rw [e]; exact hne
  ·intro hb
   have := e b hb.symm
   omega⟩
theorem gb_bel {w wr wx : World} {r : Option Nat} (h : w.grownBy wr r) (hb : Below wr.heap.size wr wx) : w.grownBy wx r :=
 gb_grown h (q := none) ⟨hb.os, hb.tape, hb.output, hb.size, fun b hlt _ => hb.block b hlt⟩ (.inr fun k hk => by cases hk)
theorem gb_put {w wr : World} {r : Option Nat} (h : w.grownBy wr r) {b o : Nat} (hb : w.heap.size ≤ b) (v : Value) : w.grownBy (wr.setCell ⟨b, o, none⟩ v) r :=
 ⟨h.os, h.tape, h.output, by simpa [World.setCell] using h.size, fun k hlt hne => (Below.heap_setCell _ _ _ _ (by show k ≠ b; omega)).trans (h.block k hlt hne)⟩
theorem own_of_blk {w : World} {g base n : Nat} {t : TypeId} {cs : List Value} (h : Blk w g t cs) (hb : base ≤ g) (hn : cs.length = n) (hl : n < 4294967296) : w.ownsRow base t 1 (.slice (some ⟨g, 0, none⟩) n n) n cs :=
 ⟨by omega, .inr ⟨g, n, cs.toArray, rfl, hb, h, Nat.le_refl _, by simp only [maxLen]; omega, by simp [hn], by simp [← hn]⟩⟩
def OB (w : World) (v v1 : Value) : Prop := v1.ownBlock = v.ownBlock ∨ ∀ k, v1.ownBlock = some k → w.heap.size ≤ k
def TsR (w : World) (base : Nat) (v : Value) (g : Graph) (S : Nat → Prop) (F : List Int) (k : Nat) (v1 : Value) (wr : World) : Prop :=
 ∃ l tt, wr.ownsRow base 3 1 v1 tt.length (ints tt) ∧ OB w v v1 ∧ Hid (Blk wr w.heap.size 4 (bools l)) ∧ Hid (DI g S F l tt (fun _ => False)) ∧ Hid (w.grownBy wr v.ownBlock) ∧ left l + tt.length ≤ k ∧ k ≤ 8192
def TsR2 (w : World) (base : Nat) (v : Value) (g : Graph) (S : Nat → Prop) (F : List Int) (at_ : Nat) (nd : Node) (m lo hi : Nat) (fv : Value) (k : Nat) (v1 v40 : Value) (wr : World) : Prop :=
 ∃ l tt j, v40 = .int .i64 (j : Nat) ∧ j + k = (fol2 nd).length ∧ wr.ownsRow base 3 1 v1 tt.length (ints tt) ∧ OB w v v1 ∧ Hid (Blk wr w.heap.size 4 (bools l)) ∧ Hid (DP g S F l tt at_ nd (fol2 nd) j) ∧
  Hid (w.grownBy wr v.ownBlock) ∧ left l + tt.length ≤ m ∧ Hid (Ints (part wr lo hi) fv (fol2 nd)) ∧ Hid (∀ x, v1.ownBlock = some x → x < lo ∨ hi ≤ x) ∧ w.heap.size < lo ∧ hi ≤ wr.heap.size
set_option maxRecDepth 100000 in
set_option maxHeartbeats 4000000 in
theorem tspread_calls (u : Unit_) (g : Graph) (F : List Int) (Y base : Nat) (v : Value) (t : List Int) (w : World) (hrg : RightG u g) (hTh : Th w base u g F Y) (hbase : base ≤ w.heap.size) (hown : w.ownsRow base 3 1 v t.length (ints t)) (ht : ∀ k ∈ t, 0 ≤ k ∧ k < g.nodes.length) (htl : t.length ≤ 4096) :
  Calls Tryz.prog 49 #[.pointer (some ⟨Y, 0, none⟩), v] w fun e w' => ∃ out l, e = .returned out ∧ w'.ownsRow w.heap.size 4 1 out l.length (bools l) ∧ l.length = g.nodes.length ∧ (∀ i, l[i]? = some true ↔ OpenC g (fun i => (i : Int) ∈ t) F i) ∧ w.grownBy w' v.ownBlock := by
 obtain ⟨X, nb, no, nc, hY, hX, hyb, hxb, hnv⟩ := hTh.ex
 have hw := hrg.whole
 have hpos := hw.pos
 have hmost := hw.most
 have hst : DI g (fun i => (i : Int) ∈ t) F (List.replicate g.nodes.length false) t (fun _ => False) := DI.start F (fun i hi => by have := (ht _ hi).2; omega) (fun k hk => ⟨(ht k hk).1, by rw [Int.toNat_of_nonneg (ht k hk).1]; exact hk⟩) (fun i hi => hi)
 obtain ⟨S, hS⟩ : ∃ S : Nat → Prop, (fun i : Nat => (i : Int) ∈ t) = S := ⟨_, rfl⟩
 rw [hS] at hst
 have HS := Lib.hid hS; clear hS
 have hlen0 : left (List.replicate g.nodes.length false) ≤ g.nodes.length := by
  unfold left
  refine Nat.le_trans List.count_le_length ?_
  simp
 have hneY := own_blk hown hyb (by decide)
 have hneX := own_blk hown hxb (by decide)
 have hob := own_lt hown
 have hfree : ∀ wr, w.grownBy wr v.ownBlock → (part w 0 base).le (cmap wr) := fun wr hg b o x hx => by
  obtain ⟨h1, -, h2⟩ := part_at hx
  unfold cmap
  rw [World.cell?_of_block (hg.block b (by omega) (fun e => by have := hob b e.symm; omega))]
  exact h1
 have HFREE := Lib.hid hfree; clear hfree
 have HNV := Lib.hid hnv; clear hnv
 have HYB := Lib.hid hyb
 have HXB := Lib.hid hxb
 have HRG := Lib.hid hrg; clear hrg
 have HW := Lib.hid hw; clear hw
 have HST := Lib.hid hst; clear hst
 generalize hN : g.nodes.length = N at *
 have HN := Lib.hid hN; clear hN
 have h0 : 0 < N := hpos
 have y3 := hyb.cell 3
 have y4 := hyb.cell 4
 have hyl := hyb.lt
 have hxl := hxb.lt
 have HTT := Lib.hid ht; clear ht hTh hob
 obtain ⟨vA, vc, rfl, -⟩ := own_slice hown
 go_enter Tryz.func49, Tryz.ntmps49
 go_wp2_with (refine mk_full sl_bool rfl rfl (.tmp 14) (.tmp 14) rfl N rfl rfl (by omega) (by omega) ?_)
 clear y3 y4
 go_loopg [1] 8192 (fun k v1 wr => TsR w base (.slice vA t.length vc) g S F k v1 wr)
 case atStart =>
  refine ⟨_, t, hown.kept (row := none) ⟨rfl, rfl, rfl, by simp, fun k hk _ => Below.heap_alloc _ _ _ hk⟩ (by cases vA <;> simp [Value.ownBlock]), .inl rfl, Lib.hid (Blk.of (heap_new _ _ _ rfl) ?_), HST, Lib.hid (gb_bel (World.grownBy.refl w _) (Below_alloc' _ _)), ?_, Nat.le_refl _⟩
  ·simp [bools]
  ·omega
 case round =>
  obtain ⟨l, tt, hown, hob, HOUT, HDI, HGR, hk, hk2⟩ := hrel
  have hyr := HYB.out.grown HGR.out hneY
  have hxr := HXB.out.grown HGR.out hneX
  have y3 := hyr.cell 3
  have y4 := hyr.cell 4
  have hyl2 := hyr.lt
  have hxl2 := hxr.lt
  have hgs := HGR.out.size
  have HXR := Lib.hid hxr; clear hxr
  have HYR := Lib.hid hyr; clear hyr
  rcases List.eq_nil_or_concat tt with rfl | ⟨t', x, rfl⟩
  ·obtain ⟨A, c6, rfl, _⟩ := own_slice hown
   have hend := HDI.out.done
   have hlen : l.length = N := by rw [HDI.out.len, HN.out]
   have HL := Lib.hid hlen; clear hlen
   have HE := Lib.hid hend; clear hend
   go_wp2
   go_ret
   refine ⟨.slice (some ⟨w.heap.size, 0, none⟩) N N, l, rfl, ?_, HL.out, ?_, HGR.out⟩
   ·have h1 := own_of_blk HOUT.out (Nat.le_refl w.heap.size) (n := l.length) (by simp [bools]) (by have := HL.out; omega)
    rw [HL.out] at h1 ⊢
    exact h1
   ·rw [HS.out]; exact HE.out
  ·obtain ⟨hk0, hkN, hkl⟩ := HDI.out.todo x (by simp)
   rw [HN.out] at hkN
   obtain ⟨kn, rfl⟩ := Int.eq_ofNat_of_zero_le hk0
   rw [Int.toNat_natCast] at hkl
   have HD1 : Hid (DI g S F l t' (· = kn)) := by
    have := DI.pop (k := (kn : Int)) (t := t') HDI.out (fun x => by simp)
    rwa [Int.toNat_natCast] at this
   clear HDI
   simp only [List.concat_eq_append, List.length_append, List.length_singleton] at hown hk
   obtain ⟨g6, c6, rfl, hg6, hg6', hc6, hcell⟩ := own_form hown (by omega)
   have hlast : wr.cell? ⟨g6, t'.length, none⟩ = some (.int .i64 (kn : Nat)) := by
    rw [hcell _ (by omega)]; simp [ints]
   clear hcell
   have hpop := ownsRow_pop (size := 1) (n := t'.length) (xs := ints t') (last := [.int .i64 kn]) (by simp [ints]) (by simpa [ints] using hown)
   obtain ⟨nd, hnd⟩ : ∃ nd, g.nodes[kn]? = some nd := ⟨g.nodes[kn]'(by rw [HN.out]; omega), List.getElem?_eq_getElem _⟩
   obtain ⟨b', o', e', hnc⟩ := HNV.out.at_ hnd
   injection e' with e'
   injection e' with e1 e2
   subst e1 e2
   have HND := Lib.hid hnd; clear hnd
   have hf2 := fol2_length nd
   have hld : ∀ j v, nd.cells[j]? = some v → wr.cell? ⟨nb, no + kn * 13 + j, none⟩ = some v := fun j v h => HFREE.out wr HGR.out _ _ _ (hnc j v h)
   have HLD := Lib.hid hld; clear hld hnc
   go_wp2_with (first | (refine wpList_load_at rfl 66 _ rfl nb (no + kn * 13) rfl nd.cells _ HLD.out Tryz.underlying66 rfl (by kernel_rfl) ?_) | (go_at_call 60; refine (dfollows_calls nd _).mono ?_; rintro e w1 ⟨fv, rfl, hf, hb1⟩; obtain ⟨fA, fc, rfl, hfc, hfm, hfe⟩ := hf))
   have hps : DP g S F l t' kn nd (fol2 nd) 0 := DP.start HD1.out hkl HND.out (fun j => fol_mem nd j)
   have HPS := Lib.hid hps; clear hps hkl
   obtain ⟨wo, rfl⟩ : ∃ wo : World, wo = wr := ⟨_, rfl⟩
   obtain ⟨go, rfl⟩ : ∃ go : Nat, go = gk := ⟨_, rfl⟩
   have hszz := hb1.size
   have hout1 := HOUT.out.lt
   have hob6 : OB w (.slice vA t.length vc) (.slice (some ⟨g6, 0, none⟩) t'.length c6) := by simpa [OB, Value.ownBlock] using hob
   have HFV : Hid (Ints (part w1 wo.heap.size w1.heap.size) (.slice fA (fol2 nd).length fc) (fol2 nd)) := ⟨fA, fc, rfl, hfc, hfm, hfe⟩
   clear y3 y4 hlast hown hob
   go_loopg [1, 40] ((fol2 nd).length) (fun k v1 v40 wr2 => TsR2 w base (.slice vA t.length vc) g S F kn nd (left l + t'.length) wo.heap.size w1.heap.size (.slice fA (fol2 nd).length fc) k v1 v40 wr2)
   case atStart =>
    refine ⟨l, t', 0, rfl, by omega, hpop.kept (row := none) ⟨hb1.os, hb1.tape, hb1.output, hb1.size, fun k hk _ => hb1.block k hk⟩ (by simp [Value.ownBlock]), hob6, Lib.hid (HOUT.out.below hb1 HOUT.out.lt), HPS, Lib.hid (gb_bel HGR.out hb1), Nat.le_refl _, HFV, ?_, hout1, Nat.le_refl _⟩
    intro x hx
    have := (hpop.lt x hx).2
    omega
   case round =>
    obtain ⟨l2, t2, j, rfl, hjk, hown2, hob2, HOUT2, HP, HGR2, hm, HFI, HSEP, hlo, hhi⟩ := hrel
    have hyr := HYB.out.grown HGR2.out hneY
    have hxr := HXB.out.grown HGR2.out hneX
    have y4 := hyr.cell 4
    have hyl3 := hyr.lt
    have hxl3 := hxr.lt
    have hgs2 := HGR2.out.size
    have hol := HOUT2.out.lt
    clear hyr
    by_cases hlt : j < (fol2 nd).length
    ·have hx : (fol2 nd)[j]? = some ((fol2 nd)[j]) := List.getElem?_eq_getElem hlt
     generalize (fol2 nd)[j] = x at hx
     have hxb := HW.out.fol nd (List.mem_of_getElem? HND.out) x ((fol_mem nd x).1 (List.mem_of_getElem? hx))
     rw [HN.out] at hxb
     obtain ⟨xn, rfl⟩ := Int.eq_ofNat_of_zero_le hxb.1
     have hxN : xn < N := by omega
     obtain ⟨bf, of, rfl, hfc1⟩ := HFI.out.at_ hx
     obtain ⟨hfc2, hbf1, hbf2⟩ := part_at hfc1
     rw [Nat.mul_one] at hfc2
     have hoc := HOUT2.out.cell xn
     have hlx : xn < l2.length := by rw [HP.out.di.len, HN.out]; omega
     have HJ := Lib.hid hjk; clear hjk
     obtain ⟨mm, hmm⟩ : ∃ m, mkAt u g F xn = m := ⟨_, rfl⟩
     obtain ⟨ms, ml, md, mf⟩ := mm
     have hlm : ∀ j v, ([.bool ms, .bool ml, .bool md, .bool mf] : List Value)[j]? = some v → wr.cell? ⟨X, xn * 4 + j, none⟩ = some v := fun j v hj => by
      rw [hxr.cell]
      exact fm_at mk_len (mkL_at u g F (by rw [HN.out]; exact hxN)) (by rw [hmm]; exact hj)
     have HLM := Lib.hid hlm; clear hlm
     have hm1 : (mf = true ↔ (xn : Int) ∈ F) ∧ ∀ n, g.nodes[xn]? = some n → drB n = md := by
      obtain ⟨nx, hnx⟩ : ∃ n, g.nodes[xn]? = some n := ⟨g.nodes[xn]'(by rw [HN.out]; exact hxN), List.getElem?_eq_getElem _⟩
      unfold mkAt at hmm
      rw [hnx] at hmm
      injection hmm with q1 q2 q3 q4
      exact ⟨by rw [← q4]; simp, fun n hn => by rw [hnx] at hn; injection hn with hn; rw [← hn]; exact q3⟩
     have HM1 := Lib.hid hm1; clear hm1 hmm hxr
     have hx0 : (0 : Int) ≤ xn := by omega
     have hxi : (xn : Int) < N := by omega
     cases hbv : l2[xn]? with
     | none => rw [List.getElem?_eq_none_iff] at hbv; omega
     | some bv =>
     have hoc2 : wr.cell? ⟨w.heap.size, xn, none⟩ = some (.bool bv) := by rw [hoc]; simp [bools, hbv]
     clear hoc hfc1
     have HX := Lib.hid hx; clear hx
     have HBV := Lib.hid hbv; clear hbv
     have HNE : Hid (u1.ownBlock = none ∨ u1.ownBlock ≠ none) := by
      show _ ∨ _
      cases h : u1.ownBlock with
      | none => exact .inl rfl
      | some x => exact .inr (by simp)
     cases bv with
     | true =>
      go_wp2_with (first | (refine wpList_load_at rfl 101 _ rfl X (xn * 4) rfl _ _ HLM.out Tryz.underlying101 rfl (by kernel_rfl) ?_))
      go_roundg (gk - 1)
      case measure => have := HJ.out; omega
      case rel => exact ⟨l2, t2, j + 1, by go_num, by have := HJ.out; omega, hown2.kept (row := none) ⟨rfl, rfl, rfl, by simp, fun k hk _ => Below.heap_alloc _ _ _ hk⟩ HNE.out, hob2, Lib.hid (HOUT2.out.alloc _), Lib.hid (HP.out.seen HX.out (.inr (by simpa using HBV.out))), Lib.hid (gb_bel HGR2.out (Below_alloc' _ _)), hm, Lib.hid (HFI.out.mono (part_keep fun b _ hb => Below.heap_alloc _ _ _ (by omega))), HSEP, hlo, by simp; omega⟩
     | false =>
      cases mf with
      | true =>
       go_wp2_with (first | (refine wpList_load_at rfl 101 _ rfl X (xn * 4) rfl _ _ HLM.out Tryz.underlying101 rfl (by kernel_rfl) ?_))
       go_roundg (gk - 1)
       case measure => have := HJ.out; omega
       case rel => exact ⟨l2, t2, j + 1, by go_num, by have := HJ.out; omega, hown2.kept (row := none) ⟨rfl, rfl, rfl, by simp, fun k hk _ => Below.heap_alloc _ _ _ hk⟩ HNE.out, hob2, Lib.hid (HOUT2.out.alloc _), Lib.hid (HP.out.seen HX.out (.inl (HM1.out.1.1 trivial))), Lib.hid (gb_bel HGR2.out (Below_alloc' _ _)), hm, Lib.hid (HFI.out.mono (part_keep fun b _ hb => Below.heap_alloc _ _ _ (by omega))), HSEP, hlo, by simp; omega⟩
      | false =>
       have hnF : (xn : Int) ∉ F := fun h => by have := HM1.out.1.2 h; cases this
       have HNF := Lib.hid hnF; clear hnF
       have hfz := HOUT2.out.frozen xn
       have hne := own_blk hown2 HOUT2.out (by decide)
       have hbt : (bools l2).set xn (.bool true) = bools (l2.set xn true) := by simp [bools, List.map_set]
       have HNI := Lib.hid hne
       have HBT := Lib.hid hbt
       clear hne hbt
       have hls := left_set l2 xn HBV.out
       have HLS := Lib.hid hls; clear hls
       cases md with
       | true =>
        have HP3 : Hid (DP g S F (l2.set xn true) t2 kn nd (fol2 nd) (j + 1)) := by
         have := HP.out.fresh HW.out HX.out HNF.out t2 true (by simpa using HM1.out.2) (fun x => by simp)
         exact Lib.hid (by simpa using this)
        have hown3 := (ownsRow_setCell_other (a := ⟨w.heap.size, xn, none⟩) hown2 (fun e => HNI.out e.symm) (.bool true)).alloc (.cells #[.bool ms, .bool ml, .bool true, .bool false] 101)
        have hout3 := (HOUT2.out.set_ xn (.bool true)).alloc (.cells #[.bool ms, .bool ml, .bool true, .bool false] 101)
        rw [HBT.out] at hout3
        have HOUT3 := Lib.hid hout3; clear hout3
        have HGR3 := Lib.hid (gb_bel (gb_put HGR2.out (b := w.heap.size) (o := xn) (Nat.le_refl _) (.bool true)) (Below_alloc' _ (.cells #[.bool ms, .bool ml, .bool true, .bool false] 101)))
        go_wp2_with (first | (refine wpList_load_at rfl 101 _ rfl X (xn * 4) rfl _ _ HLM.out Tryz.underlying101 rfl (by kernel_rfl) ?_))
        go_roundg (gk - 1)
        case measure => have := HJ.out; omega
        case rel => exact ⟨l2.set xn true, t2, j + 1, by go_num, by have := HJ.out; omega, hown3, hob2, HOUT3, HP3, HGR3, by have := HLS.out; omega, Lib.hid (HFI.out.mono (part_keep fun b hb1 hb => by rw [Below.heap_alloc _ _ _ (by simp [World.setCell]; omega), Below.heap_setCell _ _ _ _ (by show b ≠ w.heap.size; omega)])), HSEP, hlo, by simp [World.setCell]; omega⟩
       | false =>
        have HP3 : Hid (DP g S F (l2.set xn true) (t2 ++ [(xn : Int)]) kn nd (fol2 nd) (j + 1)) := by
         have := HP.out.fresh HW.out HX.out HNF.out (t2 ++ [(xn : Int)]) false (by simpa using HM1.out.2) (fun x => by simp)
         exact Lib.hid (by simpa using this)
        have hown3 := (ownsRow_setCell_other (a := ⟨w.heap.size, xn, none⟩) hown2 (fun e => HNI.out e.symm) (.bool true)).alloc (.cells #[.bool ms, .bool ml, .bool false, .bool false] 101)
        have hout3 := (HOUT2.out.set_ xn (.bool true)).alloc (.cells #[.bool ms, .bool ml, .bool false, .bool false] 101)
        rw [HBT.out] at hout3
        have HOUT3 := Lib.hid hout3; clear hout3
        have HGR3 := Lib.hid (gb_bel (gb_put HGR2.out (b := w.heap.size) (o := xn) (Nat.le_refl _) (.bool true)) (Below_alloc' _ (.cells #[.bool ms, .bool ml, .bool false, .bool false] 101)))
        have hown4 := hown3.alloc (.cells #[.int .i64 (xn : Nat)] 3)
        go_wp2_with (first | (refine wpList_load_at rfl 101 _ rfl X (xn * 4) rfl _ _ HLM.out Tryz.underlying101 rfl (by kernel_rfl) ?_) | (refine stop_append rfl ?_))
        refine Stop.intro ?_
        refine app_one sl_int rfl _ _ rfl base u1 t2.length (ints t2) rfl hown4 _ 0 1 [.int .i64 (xn : Nat)] rfl rfl (cell_new1 _ _ _ _ (by simp [World.setCell])) (by simp [Value.oneCell']) (by omega) (by decide) (by simp [World.setCell]; omega) ?_
        intro v' w' hown5 hgr hobn
        have hw' := hgr.size
        have hOUTn := (HOUT3.out.alloc (.cells #[.int .i64 (xn : Nat)] 3)).grown hgr (own_blk hown2 HOUT2.out (by decide))
        have HOUT5 := Lib.hid hOUTn; clear hOUTn
        have HGR5 := Lib.hid (gb_grown (gb_bel HGR3.out (Below_alloc' _ (.cells #[.int .i64 (xn : Nat)] 3))) hgr (by rcases hob2 with e | e; exact .inl e; exact .inr e))
        have HFI5 : Hid (Ints (part w' wo.heap.size w1.heap.size) (.slice (some ⟨bf, of, none⟩) (fol2 nd).length fc) (fol2 nd)) := Lib.hid (HFI.out.mono (part_keep fun b hb1 hb => by
         rw [hgr.block b (by simp [World.setCell]; omega) ?_, Below.heap_alloc _ _ _ (by simp [World.setCell]; omega), Below.heap_alloc _ _ _ (by simp [World.setCell]; omega), Below.heap_setCell _ _ _ _ (by show b ≠ w.heap.size; omega)]
         intro e
         have := HSEP.out b e.symm
         omega))
        have hob5 : OB w (.slice vA t.length vc) v' := by
         rcases hobn with e | e
         ·unfold OB; rw [e]; exact hob2
         ·refine .inr fun q hq => ?_
          rw [e] at hq; injection hq with hq; subst hq; simp [World.setCell]; omega
        have HSEP5 : Hid (∀ x, v'.ownBlock = some x → x < wo.heap.size ∨ w1.heap.size ≤ x) := Lib.hid fun x hx => by
         rcases hobn with e | e
         ·exact HSEP.out x (by rw [← e]; exact hx)
         ·rw [e] at hx; injection hx with hx; subst hx; simp [World.setCell]; omega
        simp [World.setCell] at hw'
        have hown6 : w'.ownsRow base 3 1 v' (t2 ++ [(xn : Int)]).length (ints (t2 ++ [(xn : Int)])) := by simpa [ints] using hown5
        clear hgr hown5 hobn hown4 hown3
        go_wp2
        go_roundg (gk - 1)
        case measure => have := HJ.out; omega
        case rel => exact ⟨l2.set xn true, t2 ++ [(xn : Int)], j + 1, by go_num, by have := HJ.out; omega, hown6, hob5, HOUT5, HP3, HGR5, by have := HLS.out; simp; omega, HFI5, HSEP5, hlo, by omega⟩
    ·have hj : j = (fol2 nd).length := by omega
     have hdone := HP.out.done (by omega)
     have HDN := Lib.hid hdone; clear hdone
     clear hjk
     have HJ := Lib.hid hj; clear hj
     have hlt' : ¬ ((j : Int) < (fol2 nd).length) := by omega
     go_wp2
     go_roundg (left l2 + t2.length)
     case measure => omega
     case rel => exact ⟨l2, t2, hown2, hob2, HOUT2, HDN, HGR2, Nat.le_refl _, by omega⟩
end Go.Proofs.YtffgnjgphkdodaaGreatDoor
namespace Go.Proofs.YtffgnjgphkdodaaGreatDoor
open Go Go.RowKit
structure RowsV (w : World) (base X : Nat) (vs : List Value) (ls : List (List Int)) : Prop where
 blk : Blk w X 26 vs
 len : vs.length = ls.length
 own : ∀ (i : Nat) (v : Value) (l : List Int), vs[i]? = some v → ls[i]? = some l → w.ownsRow base 3 1 v l.length (ints l)
 sep : ∀ (i j : Nat) (v v' : Value) (b : Nat), vs[i]? = some v → vs[j]? = some v' → v.ownBlock = some b → v'.ownBlock = some b → i = j
theorem RowsV.below {w w' : World} {base X : Nat} {vs : List Value} {ls : List (List Int)} (h : RowsV w base X vs ls) (hb : Below w.heap.size w w') : RowsV w' base X vs ls :=
 ⟨h.blk.below hb h.blk.lt, h.len, fun i v l hv hl => (h.own i v l hv hl).kept (row := none) ⟨hb.os, hb.tape, hb.output, hb.size, fun k hk _ => hb.block k hk⟩ (by cases h : v.ownBlock <;> simp), h.sep⟩
theorem RowsV.grow {w w' : World} {base X i : Nat} {vs : List Value} {ls : List (List Int)} {v v' : Value} {l : List Int} {x : Int} (h : RowsV w base X vs ls) (hv : vs[i]? = some v) (hl : ls[i]? = some l) (hg : w.grownBy w' v.ownBlock) (ho : w'.ownsRow base 3 1 v' (l.length + 1) (ints l ++ [.int .i64 x])) (hob : v'.ownBlock = v.ownBlock ∨ v'.ownBlock = some w.heap.size) :
  RowsV (w'.setCell ⟨X, i, none⟩ v') base X (vs.set i v') (ls.set i (l ++ [x])) := by
 have hX : Blk w' X 26 vs := h.blk.grown hg (own_blk (h.own i v l hv hl) h.blk (by decide))
 have hil : i < vs.length := (List.getElem?_eq_some_iff.1 hv).1
 have hlt : ∀ (j : Nat) (v : Value) (b : Nat), vs[j]? = some v → v.ownBlock = some b → b < w.heap.size := fun j v b hj hb => by
  have hjl : j < ls.length := by have := (List.getElem?_eq_some_iff.1 hj).1; have := h.len; omega
  exact ((h.own j v _ hj (List.getElem?_eq_getElem hjl)).lt b hb).2
 have hxl := h.blk.lt
 refine ⟨hX.set_ i v', by simpa using h.len, fun j u m hj hm => ?_, fun a b u u' k ha hb hu hu' => ?_⟩
 ·rw [List.getElem?_set] at hj hm
  by_cases e : i = j
  ·subst e
   rw [if_pos rfl, if_pos hil] at hj
   rw [if_pos rfl, if_pos (by have := h.len; omega)] at hm
   injection hj with hj
   injection hm with hm
   subst hj hm
   refine ownsRow_setCell_other ?_ ?_ _
   ·simpa [ints] using ho
   ·intro e
    rcases hob with q | q
    ·rw [q] at e
     exact own_blk (h.own i v l hv hl) h.blk (by decide) e.symm
    ·rw [q] at e
     injection e with e
     simp at e
     omega
  ·rw [if_neg e] at hj hm
   have ho2 := h.own j u m hj hm
   refine ownsRow_setCell_other (ho2.kept hg ?_) (fun e2 => own_blk ho2 h.blk (by decide) e2.symm) _
   cases hq : u.ownBlock with
   | none => exact .inl rfl
   | some b =>
    refine .inr fun e3 => e ?_
    exact h.sep i j v u b hv hj e3.symm hq
 ·rw [List.getElem?_set] at ha hb
  by_cases e : i = a
  ·by_cases e2 : i = b
   ·omega
   ·exfalso
    rw [if_pos e, if_pos hil] at ha
    rw [if_neg e2] at hb
    injection ha with ha
    subst ha
    rcases hob with q | q
    ·rw [q] at hu
     exact e2 (h.sep i b v u' k hv hb hu hu')
    ·rw [q] at hu
     injection hu with hu
     have := hlt b u' k hb hu'
     omega
  ·by_cases e2 : i = b
   ·exfalso
    rw [if_neg e] at ha
    rw [if_pos e2, if_pos hil] at hb
    injection hb with hb
    subst hb
    rcases hob with q | q
    ·rw [q] at hu'
     exact e (h.sep i a v u k hv ha hu' hu)
    ·rw [q] at hu'
     injection hu' with hu'
     have := hlt a u k ha hu
     omega
   ·rw [if_neg e] at ha
    rw [if_neg e2] at hb
    exact h.sep a b u u' k ha hb hu hu'
theorem RowsV.sl {w : World} {base X : Nat} {vs : List Value} {ls : List (List Int)} (h : RowsV w base X vs ls) (hb : base ≤ X) (hl : ls.length < 4294967296) : Ints2 (part w base w.heap.size) (.slice (some ⟨X, 0, none⟩) ls.length ls.length) ls := by
 have hx := h.blk.lt
 refine ⟨_, ls.length, rfl, Nat.le_refl _, ⟨by simp only [maxLen]; omega, fun e => by cases e⟩, .inr ⟨X, 0, rfl, fun i l hi => ?_⟩⟩
 have hil := (List.getElem?_eq_some_iff.1 hi).1
 have hv : vs[i]? = some (vs[i]'(by rw [h.len]; exact hil)) := List.getElem?_eq_getElem _
 refine ⟨_, ?_, Sl_of_own (f := fun x : Int => Value.int .i64 x) (R := IntC) (fun _ _ _ _ h => h) (h.own i _ l hv hi) (Nat.le_refl _) (Nat.le_refl _)⟩
 unfold part
 rw [if_pos ⟨hb, hx⟩, Nat.zero_add, Nat.mul_one, h.blk.cell]
 exact hv
def predK (g : Graph) : Nat → Nat → List Int
 | 0, _ => []
 | k + 1, s => predK g k s ++ (match g.nodes[k]? with
  | some n => if (s : Int) ∈ fol n then [(k : Int)] else []
  | none => [])
theorem predK_mem (g : Graph) (s : Nat) : ∀ (k : Nat) (x : Int), x ∈ predK g k s ↔ ∃ i n, x = ((i : Nat) : Int) ∧ i < k ∧ g.nodes[i]? = some n ∧ (s : Int) ∈ fol n
 | 0, x => by simp [predK]
 | k + 1, x => by
  unfold predK
  rw [List.mem_append, predK_mem g s k x]
  constructor
  ·rintro (⟨i, n, h1, h2, h3, h4⟩ | h)
   ·exact ⟨i, n, h1, by omega, h3, h4⟩
   ·cases hn : g.nodes[k]? with
    | none => rw [hn] at h; cases h
    | some n =>
     rw [hn] at h
     simp only at h
     by_cases c : (s : Int) ∈ fol n
     ·rw [if_pos c, List.mem_singleton] at h
      exact ⟨k, n, h, by omega, hn, c⟩
     ·rw [if_neg c] at h; cases h
  ·rintro ⟨i, n, h1, h2, h3, h4⟩
   by_cases e : i = k
   ·subst e
    refine .inr ?_
    rw [h3]
    simp only [if_pos h4, List.mem_singleton]
    exact h1
   ·exact .inl ⟨i, n, h1, by omega, h3, h4⟩
theorem predK_length (g : Graph) (s : Nat) : ∀ k, (predK g k s).length ≤ k
 | 0 => by simp [predK]
 | k + 1 => by
  have := predK_length g s k
  unfold predK
  rw [List.length_append]
  have h1 : (match g.nodes[k]? with | some n => if (s : Int) ∈ fol n then [(k : Int)] else [] | none => []).length ≤ 1 := by
   split
   ·split <;> simp
   ·simp
  omega
def rowsM (g : Graph) (k : Nat) (l : List Int) : List (List Int) := (List.range g.nodes.length).map fun s => predK g k s ++ if (s : Int) ∈ l then [(k : Int)] else []
theorem rowsM_len (g : Graph) (k : Nat) (l : List Int) : (rowsM g k l).length = g.nodes.length := by simp [rowsM]
theorem rowsM_at (g : Graph) (k : Nat) (l : List Int) {s : Nat} (h : s < g.nodes.length) : (rowsM g k l)[s]? = some (predK g k s ++ if (s : Int) ∈ l then [(k : Int)] else []) := by simp [rowsM, h]
theorem rowsM_zero (g : Graph) : rowsM g 0 [] = List.replicate g.nodes.length [] := by
 unfold rowsM
 apply List.ext_getElem?
 intro i
 rw [List.getElem?_map, List.getElem?_replicate]
 by_cases h : i < g.nodes.length
 ·rw [List.getElem?_range h]; simp [h, predK]
 ·rw [List.getElem?_eq_none (by simpa using h)]; simp [h]
theorem rowsM_next (g : Graph) {k : Nat} {n : Node} (hn : g.nodes[k]? = some n) : rowsM g k (fol n) = rowsM g (k + 1) [] := by
 unfold rowsM
 refine List.map_congr_left fun s _ => ?_
 simp only [predK, hn, List.not_mem_nil, if_false, List.append_nil]
theorem rowsM_set (g : Graph) (k : Nat) (l : List Int) {s : Nat} (hs : s < g.nodes.length) (_hl : (s : Int) ∉ l) : (rowsM g k l).set s (predK g k s ++ [(k : Int)]) = rowsM g k (l ++ [(s : Int)]) := by
 apply List.ext_getElem?
 intro i
 rw [List.getElem?_set, rowsM_len]
 by_cases hi : i < g.nodes.length
 ·rw [rowsM_at g k _ hi, rowsM_at g k _ hi]
  by_cases e : s = i
  ·subst e
   rw [if_pos rfl, if_pos hs, if_pos (by simp)]
  ·rw [if_neg e]
   have : ((i : Int) ∈ l ++ [(s : Int)]) ↔ (i : Int) ∈ l := by simp; omega
   by_cases c : (i : Int) ∈ l
   ·rw [if_pos c, if_pos (this.2 c)]
   ·rw [if_neg c, if_neg (fun h => c (this.1 h))]
 ·rw [if_neg (by omega), List.getElem?_eq_none (by rw [rowsM_len]; omega), List.getElem?_eq_none (by rw [rowsM_len]; omega)]
theorem fol_nodup (n : Node) {i j : Nat} {x : Int} (hi : (fol n)[i]? = some x) (hj : (fol n)[j]? = some x) : i = j := by
 unfold fol at hi hj
 split at hi
 ·simp at hi
 ·rename_i h9
  rw [if_neg h9] at hj
  split at hi
  ·rename_i h8
   rw [if_pos h8] at hj
   have hne := h8.2
   match i, j with
   | 0, 0 => rfl
   | 1, 1 => rfl
   | 0, 1 => simp at hi hj; omega
   | 1, 0 => simp at hi hj; omega
   | i + 2, _ => simp at hi
   | _, j + 2 => simp at hj
  ·rename_i h8
   rw [if_neg h8] at hj
   match i, j with
   | 0, 0 => rfl
   | i + 1, _ => simp at hi
   | _, j + 1 => simp at hj
theorem fol_fresh (n : Node) {j : Nat} {x : Int} (hj : (fol n)[j]? = some x) : x ∉ (fol n).take j := by
 intro h
 obtain ⟨i, hi⟩ := List.mem_iff_getElem?.1 h
 rw [List.getElem?_take] at hi
 split at hi
 ·have := fol_nodup n hi hj; omega
 ·cases hi
def AhPost (g : Graph) (w : World) (e : Ending) (w' : World) : Prop := ∃ v, e = .returned v ∧ Ints2 (part w' w.heap.size w'.heap.size) v ((List.range g.nodes.length).map (predK g g.nodes.length)) ∧ Below w.heap.size w w'
set_option maxRecDepth 100000 in
set_option maxHeartbeats 2000000 in
theorem ahead_calls (g : Graph) (cs : List Value) (w : World) (hw : WholeG g) (hg : GraphV (cmap w) cs g) :
  Calls Tryz.prog 103 #[.agg cs.toArray] w (AhPost g w) := by
 have HWC := Lib.hid (fun w1 (h : Below w.heap.size w w1) => whole_calls g cs w1 hw (hg.mono (cmap_below h)))
 obtain ⟨nv, rfl, hn⟩ := hg
 obtain ⟨nA, nc, rfl, -⟩ := id hn
 have bn := hn.len.2.2
 have hpos := hw.pos
 have hmost := hw.most
 obtain ⟨N, HN⟩ : ∃ N, Hid (g.nodes.length = N) := ⟨_, rfl⟩
 rw [HN.out] at bn hpos hmost HWC ⊢
 have HG := Lib.hid hn
 have HW := Lib.hid hw
 clear hn hw
 have h0 : 0 < N := hpos
 have hbx := Blk.new w 69 [.string g.name, .int .i64 g.locals, .int .i64 g.slots, .slice nA N nc]
 have hb0 := Below_alloc' w (.cells #[.string g.name, .int .i64 g.locals, .int .i64 g.slots, .slice nA N nc] 69)
 have HBX := Lib.hid hbx
 have HB0 := Lib.hid hb0
 clear hbx hb0
 go_enter Tryz.func103, Tryz.ntmps103
 go_wp2_with (first
  | (go_at_call 131
     refine (HWC.out _ HB0.out).mono ?_
     rintro e w1 ⟨rfl, hb1⟩
     have hbx1 := HBX.out.below hb1 HBX.out.lt
     have c3 := hbx1.cell 3
     have hlt1 := hbx1.lt
     have HB1 := Lib.hid (And.intro (HB0.out.trans (hb1.mono (HB0.out.size))) hbx1)
     clear hb1 hbx1)
  | (refine mk_full sl_ints rfl rfl (.tmp 13) (.tmp 13) rfl N rfl rfl (by omega) (by omega) ?_))
 have hinit : RowsV (w1.alloc (.cells (List.replicate N (Value.slice none 0 0)).toArray 26)) w.heap.size w1.heap.size (List.replicate N (.slice none 0 0)) (rowsM g 0 []) := by
  refine ⟨Blk.new _ _ _, by rw [rowsM_len, HN.out]; simp, fun i v l hv hl => ?_, fun i j v v' b hi _ hb _ => ?_⟩
  ·rw [List.getElem?_replicate] at hv
   split at hv
   ·injection hv with hv
    rw [rowsM_zero, List.getElem?_replicate] at hl
    split at hl
    ·injection hl with hl
     subst hv hl
     exact World.ownsRow_nil _ _ _ _
    ·cases hl
   ·cases hv
  ·rw [List.getElem?_replicate] at hi
   split at hi
   ·injection hi with hi
    subst hi
    cases hb
   ·cases hi
 have HINI := Lib.hid hinit
 have HBW := Lib.hid (HB1.out.1.alloc (Nat.le_of_lt hlt1) (.cells (List.replicate N (Value.slice none 0 0)).toArray 26))
 have HBG := Lib.hid (HB1.out.2.alloc (.cells (List.replicate N (Value.slice none 0 0)).toArray 26))
 clear hinit c3
 go_loopw [18] (fun v18 wr => ∃ (k : Nat) (vs : List Value), v18 = .int .i64 k ∧ k ≤ N ∧ Hid (RowsV wr w.heap.size w1.heap.size vs (rowsM g k [])) ∧ Hid (Below w.heap.size w wr) ∧ Hid (Blk wr w.heap.size 69 [.string g.name, .int .i64 g.locals, .int .i64 g.slots, .slice nA N nc])) (fun v18 _ => N - (intOf v18).toNat)
 case atStart => exact ⟨0, _, rfl, Nat.zero_le _, HINI, HBW, HBG⟩
 case round =>
  obtain ⟨k, vs, rfl, hk, HR, HB, HBX⟩ := hrel
  obtain ⟨wo, rfl⟩ : ∃ wo : World, wo = wr := ⟨_, rfl⟩
  by_cases hlt : k < N
  ·obtain ⟨nd, hnd⟩ : ∃ nd, g.nodes[k]? = some nd := ⟨g.nodes[k]'(by rw [HN.out]; exact hlt), List.getElem?_eq_getElem _⟩
   obtain ⟨nb, no, e, hnc⟩ := HG.out.at_ hnd
   subst e
   have HND := Lib.hid hnd
   have hf1 := fol_length nd
   have hkc : Hid (∀ (q : Nat) (x : Int), (fol nd)[q]? = some x → 0 ≤ x ∧ x < N) := Lib.hid fun q x hq => by
    have := HW.out.fol nd (List.mem_of_getElem? HND.out) x (List.mem_of_getElem? hq)
    rwa [HN.out] at this
   have hld : ∀ j v, nd.cells[j]? = some v → wo.cell? ⟨nb, no + k * 13 + j, none⟩ = some v := fun j v h => cmap_below HB.out _ _ _ (hnc j v h)
   have hld2 : ∀ j v, nd.cells[j]? = some v → (wo.alloc (.cells nd.cells.toArray 66)).cell? ⟨wo.heap.size, 0 + j, none⟩ = some v := cell_newl wo nd.cells _ _ rfl
   have HLD := Lib.hid hld
   have HLD2 := Lib.hid hld2
   have hk0 : (0 : Int) ≤ k := by omega
   have hki : (k : Int) < N := by omega
   have hks : (k : Int) ≤ 4096 := by omega
   have HR2 := Lib.hid (HR.out.below (Below_alloc' wo (.cells nd.cells.toArray 66)))
   have HB2 := Lib.hid (HB.out.alloc HB.out.size (.cells nd.cells.toArray 66))
   have HBX2 := Lib.hid (HBX.out.alloc (.cells nd.cells.toArray 66))
   have hX0 := HR.out.blk.lt
   clear hld hld2 hnc hnd
   unfold Node.cells at HLD HLD2
   go_wp2_with (first
    | (refine wpList_load_at rfl 66 _ rfl nb (no + k * 13) rfl _ _ HLD.out Tryz.underlying66 rfl (by kernel_rfl) ?_)
    | (refine wpList_load_at rfl 66 _ rfl wo.heap.size 0 rfl _ _ HLD2.out Tryz.underlying66 rfl (by kernel_rfl) ?_)
    | (go_at_call 147
       refine (follows_calls nd _).mono ?_
       rintro e w3 ⟨fv, rfl, hf, hb3⟩
       obtain ⟨fA, fc, rfl, hfc, hfm, hfe⟩ := hf
       have HFV : Hid (Ints (part w3 (wo.alloc (.cells nd.cells.toArray 66)).heap.size w3.heap.size) (.slice fA (fol nd).length fc) (fol nd)) := Lib.hid ⟨fA, fc, rfl, hfc, hfm, hfe⟩
       have HB3 := Lib.hid (And.intro (HR2.out.below hb3) (And.intro (HB2.out.trans (hb3.mono HB2.out.size)) (HBX2.out.below hb3 HBX2.out.lt)))
       have HSZ : Hid ((wo.alloc (.cells nd.cells.toArray 66)).heap.size ≤ w3.heap.size) := Lib.hid hb3.size
       clear hb3 hfe hfc hfm))
   clear HLD HLD2 HBX HB HB2 HBX2
   have hsep : Hid (∀ (i : Nat) (v : Value) (b : Nat), vs[i]? = some v → v.ownBlock = some b → b < (wo.alloc (.cells nd.cells.toArray 66)).heap.size ∨ w3.heap.size ≤ b) := Lib.hid fun i v b hv hb => by
    have hil : i < (rowsM g k []).length := by have := (List.getElem?_eq_some_iff.1 hv).1; have := HR2.out.len; omega
    exact .inl ((HR2.out.own i v _ hv (List.getElem?_eq_getElem hil)).lt b hb).2
   have hXl : w1.heap.size < (wo.alloc (.cells nd.cells.toArray 66)).heap.size := by simp; omega
   obtain ⟨lo, hlo⟩ : ∃ lo, (wo.alloc (.cells nd.cells.toArray 66)).heap.size = lo := ⟨_, rfl⟩
   obtain ⟨hi, hhi⟩ : ∃ hi, w3.heap.size = hi := ⟨_, rfl⟩
   have hhi' : Hid (hi ≤ w3.heap.size) := Lib.hid (by omega)
   rw [hlo] at HFV hsep HSZ hXl
   rw [hhi] at HFV hsep HSZ
   have HLO := Lib.hid hlo
   clear hlo hhi HR HR2
   go_loopw [26] (fun v26 wi => ∃ (q : Nat) (vs2 : List Value), v26 = .int .i64 q ∧ q ≤ (fol nd).length ∧ Hid (RowsV wi w.heap.size w1.heap.size vs2 (rowsM g k ((fol nd).take q))) ∧ Hid (Below w.heap.size w wi) ∧ Hid (Blk wi w.heap.size 69 [.string g.name, .int .i64 g.locals, .int .i64 g.slots, .slice (some ⟨nb, no, none⟩) N nc]) ∧ Hid (Ints (part wi lo hi) (.slice fA (fol nd).length fc) (fol nd)) ∧ Hid (hi ≤ wi.heap.size) ∧ Hid (∀ (i : Nat) (v : Value) (b : Nat), vs2[i]? = some v → v.ownBlock = some b → b < lo ∨ hi ≤ b)) (fun v26 _ => (fol nd).length - (intOf v26).toNat)
   case atStart => exact ⟨0, vs, rfl, Nat.zero_le _, Lib.hid (by simpa using HB3.out.1), Lib.hid HB3.out.2.1, Lib.hid HB3.out.2.2, HFV, hhi', hsep⟩
   case round =>
    obtain ⟨q, vs2, rfl, hq, HR, HB, HBX, HFI, HHI, HSEP⟩ := hrel
    by_cases hql : q < (fol nd).length
    ·obtain ⟨x, hx⟩ : ∃ x, (fol nd)[q]? = some x := ⟨_, List.getElem?_eq_getElem hql⟩
     obtain ⟨hx0, hxN⟩ := hkc.out q x hx
     obtain ⟨xn, rfl⟩ := Int.eq_ofNat_of_zero_le hx0
     have hxn : xn < N := by omega
     obtain ⟨fb, fo, rfl, hfc⟩ := HFI.out.at_ hx
     rw [Nat.mul_one] at hfc
     obtain ⟨hfc1, -, -⟩ := part_at hfc
     have hfr : xn < vs2.length := by rw [HR.out.len, rowsM_len, HN.out]; exact hxn
     obtain ⟨rv, hrv⟩ : ∃ rv, vs2[xn]? = some rv := ⟨_, List.getElem?_eq_getElem hfr⟩
     have hrl := rowsM_at g k ((fol nd).take q) (s := xn) (by rw [HN.out]; exact hxn)
     rw [if_neg (fol_fresh nd hx), List.append_nil] at hrl
     have how := HR.out.own xn rv _ hrv hrl
     obtain ⟨rA, rc, rfl, -⟩ := own_slice how
     have hXc := HR.out.blk.cell xn
     rw [hrv] at hXc
     have hXf := HR.out.blk.frozen xn
     have hpl := predK_length g xn k
     have hX1 := HR.out.blk.lt
     have hws := HB.out.size
     have how2 := how.alloc (.cells #[.int .i64 (k : Int)] 3)
     have HR2 := Lib.hid (HR.out.below (Below_alloc' wr (.cells #[.int .i64 (k : Int)] 3)))
     have HX := Lib.hid (And.intro hx (And.intro hrv hrl))
     have hq0 : (0 : Int) ≤ q := by omega
     have hqi : (q : Int) < (fol nd).length := by omega
     have hne := own_blk how HR.out.blk (by decide)
     have HOW := Lib.hid how
     have hpl2 : (predK g k xn).length ≤ 4096 := by omega
     clear hx hrv hrl hfc how hpl
     go_wp2_with (refine stop_append rfl ?_)
     refine Stop.intro ?_
     refine app_one sl_int rfl _ _ rfl w.heap.size (.slice rA (predK g k xn).length rc) (predK g k xn).length (ints (predK g k xn)) rfl how2 _ 0 1 [.int .i64 (k : Int)] rfl rfl (cell_new1 _ _ _ _ rfl) (by simp [Value.oneCell']) (by omega) (by decide) (by simp; omega) ?_
     intro v' w4 hown5 hgr hobn
     obtain ⟨vA, vc, rfl, -⟩ := own_slice hown5
     have hXc4 : w4.cell? ⟨w1.heap.size, xn, none⟩ = some (.slice rA (predK g k xn).length rc) := by
      rw [World.cell?_of_block (w := wr) (hgr.block w1.heap.size (by simp; omega) hne |>.trans (Below.heap_alloc _ _ _ hX1))]; exact hXc
     have hXf4 : w4.frozen? ⟨w1.heap.size, xn, none⟩ = false := by
      rw [World.frozen?_of_block (w := wr) (hgr.block w1.heap.size (by simp; omega) hne |>.trans (Below.heap_alloc _ _ _ hX1))]; exact hXf
     have hgrow := HR2.out.grow HX.out.2.1 HX.out.2.2 hgr hown5 hobn
     rw [rowsM_set g k _ (by rw [HN.out]; exact hxn) (fol_fresh nd HX.out.1)] at hgrow
     have htk : (fol nd).take q ++ [(xn : Int)] = (fol nd).take (q + 1) := by rw [List.take_succ_eq_append_getElem hql]; congr 2; have := HX.out.1; rw [List.getElem?_eq_getElem hql] at this; injection this with this; exact this.symm
     rw [htk] at hgrow
     have HG2 := Lib.hid (And.intro hgrow (And.intro hgr (And.intro hown5 hobn)))
     have hs4 : wr.heap.size < w4.heap.size := by have := hgr.size; simp at this; omega
     clear hgrow hgr hown5 hobn htk how2 hne
     go_wp2
     go_roundw
     case rel =>
      have hb4 : Below w.heap.size w w4 := (HB.out.alloc hws _).grown HG2.out.2.1 (by simp; omega) (fun b hb => by have := own_lt HOW.out b hb; omega)
      refine ⟨q + 1, vs2.set xn (.slice vA ((predK g k xn).length + 1) vc), by go_num, by omega, Lib.hid HG2.out.1, Lib.hid (hb4.setCell (p := ⟨w1.heap.size, xn, none⟩) (by show w.heap.size ≤ w1.heap.size; omega) _), ?_, ?_, ?_, ?_⟩
      ·have h1 := ((HBX.out.alloc (.cells #[.int .i64 (k : Int)] 3)).grown HG2.out.2.1 (own_blk HOW.out HBX.out (by decide)))
       exact Lib.hid (h1.far (p := ⟨w1.heap.size, xn, none⟩) (by show w.heap.size ≠ w1.heap.size; omega) _)
      ·refine Lib.hid (HFI.out.mono (part_keep fun b hb1 hb2 => ?_))
       have hbs : b < wr.heap.size := by have := HHI.out; omega
       rw [Below.heap_setCell _ _ _ _ (by show b ≠ w1.heap.size; omega), HG2.out.2.1.block b (by simp; omega) (fun e => by
        rcases HSEP.out xn _ b HX.out.2.1 e.symm with h | h
        ·omega
        ·omega), Below.heap_alloc _ _ _ hbs]
      ·exact Lib.hid (by have := HHI.out; simp [World.setCell]; omega)
      ·refine Lib.hid fun i v b hi hb => ?_
       rw [List.getElem?_set] at hi
       by_cases e : xn = i
       ·rw [if_pos e, if_pos hfr] at hi
        injection hi with hi
        subst hi
        rcases HG2.out.2.2.2 with h | h
        ·rw [h] at hb
         exact HSEP.out xn _ b HX.out.2.1 hb
        ·rw [h] at hb
         injection hb with hb
         have := HHI.out
         simp at hb
         omega
       ·rw [if_neg e] at hi
        exact HSEP.out i v b hi hb
     case measure => simp [intOf]; omega
    ·obtain rfl : q = (fol nd).length := by omega
     have hfin := HR.out
     rw [List.take_length, rowsM_next g HND.out] at hfin
     have HFIN := Lib.hid hfin
     clear hfin
     go_wp2
     go_roundw
     case rel => exact ⟨k + 1, vs2, by go_num, by omega, HFIN, HB, HBX⟩
     case measure => simp [intOf]; omega
  ·obtain rfl : k = N := by omega
   go_wp2
   go_ret
   refine ⟨.slice (some ⟨w1.heap.size, 0, none⟩) k k, rfl, ?_, HB.out⟩
   have h1 := HR.out.sl (by omega) (by rw [rowsM_len, HN.out]; omega)
   rw [rowsM_len, HN.out] at h1
   have h2 : rowsM g k [] = (List.range g.nodes.length).map (predK g g.nodes.length) := by
    unfold rowsM
    rw [HN.out]
    refine List.map_congr_left fun s _ => by simp
   rw [h2] at h1
   exact h1
end Go.Proofs.YtffgnjgphkdodaaGreatDoor
