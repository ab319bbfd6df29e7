import Derived.Test.YtkkmkjjbffpgnaaP54
import Derived.Test.YtkkmkjjbffpgnaaP43
import Derived.Test.YtkkmkjjbffpgnaaP50
import Derived.Test.YtkkmkjjbffpgnaaP09
/- The walk of the reference's Touches. -/
namespace Go.Proofs.Ytkkmkjjbffpgnaa
open Go Go.RowKit
theorem tch_rd (x : Int) : tchP x false = atP rdB x := by
  funext n
  unfold tchP atP
  rw [if_neg (by simp), Bool.and_comm]
theorem tch_wr (x : Int) : tchP x true = atP wrB x := by
  funext n
  unfold tchP atP
  rw [if_pos rfl, Bool.and_comm]
theorem own_apart {a v : Value} {B : Nat} (ha : ∀ q, a.ownBlock = some q → B ≤ q) (hv : ∀ q, v.ownBlock = some q → q < B) : a.ownBlock = none ∨ a.ownBlock ≠ v.ownBlock := by
  cases h : a.ownBlock with
  | none => exact .inl rfl
  | some q => exact .inr fun e => by have := ha q h; have := hv q e.symm; omega
set_option maxRecDepth 100000 in
set_option maxHeartbeats 8000000 in
theorem tou2_calls (u : Unit_) (cs : List Value) (w : World) (hu : UnitV (cmap w) cs u) (hok : UOk u) :
    Calls Try.prog 12 #[.agg cs.toArray] w fun e w' => (checkF u = none ∧ ∃ v, e = .returned (.tuple #[v, .int .i64 0]) ∧ Sl (Cells touV) 2 (part w' w.heap.size w'.heap.size) v ((List.range u.shared.length).map (touF u)) ∧ Below w.heap.size w w') ∨
      (checkF u ≠ none ∧ e = .returned (.tuple #[.slice none 0 0, .int .i64 60]) ∧ Below w.heap.size w w') := by
  have hu0 := hu
  obtain ⟨sv, lv, gv, rfl, hs, hl, hg⟩ := hu
  obtain ⟨sA, sc, rfl, -⟩ := id hs
  obtain ⟨gA, gc, rfl, -⟩ := id hg
  have bs := hs.len.2.2
  have bg := hg.len.2.2
  have hbx := Blk.new w 25 [.slice sA u.shared.length sc, lv, .slice gA u.graphs.length gc]
  have HLD : Hid (∀ j v, ([.slice sA u.shared.length sc, lv, .slice gA u.graphs.length gc] : List Value)[j]? = some v → (w.alloc (.cells #[.slice sA u.shared.length sc, lv, .slice gA u.graphs.length gc] 25)).cell? ⟨w.heap.size, 0 + j, none⟩ = some v) := cell_newl w _ _ _ rfl
  obtain ⟨r, hr⟩ : ∃ r, checkF u = r := ⟨_, rfl⟩
  rw [hr]
  cases r with
  | some ti =>
    obtain ⟨t, i⟩ := ti
    go_enter Try.func12, Try.ntmps12
    go_wp2_with (first
      | (refine wpList_load_at rfl 25 _ rfl w.heap.size 0 rfl _ _ HLD.out Try.underlying25 rfl (by kernel_rfl) ?_)
      | (go_at_call 41; refine (check2_calls u [.slice sA u.shared.length sc, lv, .slice gA u.graphs.length gc] _ (hu0.mono (cmap_alloc _ _)) hok).mono ?_; rintro e w1 ⟨rfl, hb1⟩; rw [hr]; clear hr; unfold checkV))
    go_ret2
    exact .inr ⟨by simp, rfl, (Below_alloc' _ _).trans (hb1.mono (by simp))⟩
  | none =>
    have hru := checkF_none hr
    have HOK := Lib.hid hok; clear hok
    go_enter Try.func12, Try.ntmps12
    go_wp2_with (first
      | (refine wpList_load_at rfl 25 _ rfl w.heap.size 0 rfl _ _ HLD.out Try.underlying25 rfl (by kernel_rfl) ?_)
      | (go_at_call 41; refine (check2_calls u [.slice sA u.shared.length sc, lv, .slice gA u.graphs.length gc] _ (hu0.mono (cmap_alloc _ _)) HOK.out).mono ?_; rintro e w1 ⟨rfl, hb1⟩; rw [hr]; clear hr; unfold checkV; have hbx1 := hbx.below hb1 hbx.lt; have hcx0 := hbx1.cell 0; have hcx2 := hbx1.cell 2; have hw1 : Below w.heap.size w w1 := (Below_alloc' _ _).trans (hb1.mono (by simp))))
    have hw1s := hw1.size
    clear hb1 HLD hbx
    have hg1 := hg.mono (cmap_below hw1)
    go_loopw [7, 24] (fun v7 v24 wr => ∃ (k : Nat) (S : Nat → Prop), v24 = .int .i64 k ∧ k ≤ u.shared.length ∧ Acc touV 2 42 w1.heap.size S v7 ((List.range k).map (touF u)) wr ∧ Below w1.heap.size w1 wr) (fun _ v24 _ => u.shared.length - (intOf v24).toNat)
    case atStart => exact ⟨0, _, rfl, by omega, Acc.nil _ _ _ _ _, Below.refl _ _⟩
    case round =>
      obtain ⟨k, S, rfl, hk, hacc, hbel⟩ := hrel
      have hbs := hbel.size
      have hbxr := hbx1.below hbel hbx1.lt
      have hcx2r := hbxr.cell 2
      by_cases hlt : k < u.shared.length
      · have hk0 : (0 : Int) ≤ k := by omega
        have hkl : (k : Int) < u.shared.length := by omega
        have hcx2q := (hbxr.alloc (.cells #[.slice none 0 0, .slice none 0 0] 42)).cell 2
        go_wp2
        obtain ⟨wo, rfl⟩ : ∃ wo : World, wo = wr := ⟨_, rfl⟩
        have hbg := RtI.begin (TT := 42) wo 3
        go_loopw [31] (fun v31 wr => ∃ (t : Nat) (a b : Value), v31 = .int .i64 t ∧ t ≤ u.graphs.length ∧ RtI 42 3 wo.heap.size (natI (thrTo u rdB k t)) (natI (thrTo u wrB k t)) a b wo wr) (fun v31 _ => u.graphs.length - (intOf v31).toNat)
        case atStart => exact ⟨0, _, _, rfl, by omega, hbg⟩
        case round =>
          clear hcx2q hbg hcx2r
          obtain ⟨t, a, b, rfl, ht, hi⟩ := hrel
          have hla := thrTo_length u rdB (k : Int) t
          have hlb := thrTo_length u wrB (k : Int) t
          have hth := hru.threads
          by_cases hlt2 : t < u.graphs.length
          · obtain ⟨g, hgt⟩ : ∃ g, u.graphs[t]? = some g := ⟨_, List.getElem?_eq_getElem hlt2⟩
            obtain ⟨bb, o, rfl, cg, hgv, hdc⟩ := hg.at_ hgt
            have hrg := hru.graphs g (List.mem_of_getElem? hgt)
            have HGV := hgv
            have HGT := Lib.hid hgt; clear hgt
            obtain ⟨nv, rfl, nA, nc, rfl, hnc1, hnc2, hnn⟩ := hgv
            have hb1w := hw1.trans (hbel.mono hw1s)
            have hbxx : Below w.heap.size w wr := hb1w.trans (hi.bel.mono (by omega))
            have HLDA : Hid (∀ j v, ([.string g.name, .int .i64 g.locals, .int .i64 g.slots, .slice nA g.nodes.length nc] : List Value)[j]? = some v → wr.cell? ⟨bb, o + t * 4 + j, none⟩ = some v) := fun j v h => cmap_below hbxx _ _ _ (hdc j v h)
            have HLDB : Hid (∀ j v, ([.string g.name, .int .i64 g.locals, .int .i64 g.slots, .slice nA g.nodes.length nc] : List Value)[j]? = some v → (wr.alloc (.cells #[.string g.name, .int .i64 g.locals, .int .i64 g.slots, .slice nA g.nodes.length nc] 70)).cell? ⟨wr.heap.size, 0 + j, none⟩ = some v) := cell_newl wr _ _ _ rfl
            have hbk := Blk.new wr 70 [.string g.name, .int .i64 g.locals, .int .i64 g.slots, .slice nA g.nodes.length nc]
            have hk1 : (0 : Int) ≤ t := by omega
            have hkt : (t : Int) < u.graphs.length := by omega
            clear hdc
            go_wp2_with (first
              | (refine wpList_load_at rfl 70 _ rfl bb (o + t * 4) rfl _ _ HLDA.out Try.underlying70 rfl (by kernel_rfl) ?_)
              | (refine wpList_load_at rfl 70 _ rfl wr.heap.size 0 rfl _ _ HLDB.out Try.underlying70 rfl (by kernel_rfl) ?_))
            refine (touches9_calls g [.string g.name, .int .i64 g.locals, .int .i64 g.slots, .slice nA g.nodes.length nc] (k : Int) false _ hrg.whole (HGV.mono ((cmap_below hbxx).trans (cmap_alloc _ _)))).mono ?_
            rintro e w3 ⟨rfl, hb3⟩
            rw [tch_rd]
            have hb3x : Below wr.heap.size wr w3 := (Below_alloc' _ _).trans (hb3.mono (by simp))
            have hi3 := hi.keep hb3x
            have hbk3 := hbk.below hb3 (by simp)
            have y30 := hi3.blk.cell 0
            have y31 := hi3.blk.cell 1
            obtain ⟨qr, hqr⟩ : ∃ q, anyN g (atP rdB (k : Int)) = q := ⟨_, rfl⟩
            rw [hqr]
            cases qr
            · have HRD := Lib.hid (thrTo_no (p := rdB) (x := (k : Int)) HGT.out hqr); clear hqr
              have HLDC : Hid (∀ j v, ([.string g.name, .int .i64 g.locals, .int .i64 g.slots, .slice nA g.nodes.length nc] : List Value)[j]? = some v → (w3).cell? ⟨wr.heap.size, 0 + j, none⟩ = some v) := fun j v hj => by rw [Nat.zero_add, (hbk3).cell]; exact hj
              go_wp2_with (first
                | (refine wpList_load_at rfl 70 _ rfl wr.heap.size 0 rfl _ _ HLDC.out Try.underlying70 rfl (by kernel_rfl) ?_))
              refine (touches9_calls g [.string g.name, .int .i64 g.locals, .int .i64 g.slots, .slice nA g.nodes.length nc] (k : Int) true _ hrg.whole (HGV.mono (cmap_below (hb1w.trans (hi3.bel.mono (by omega)))))).mono ?_
              rintro e w6 ⟨rfl, hb6⟩
              rw [tch_wr]
              have hi6 := hi3.keep hb6
              have y60 := hi6.blk.cell 0
              have y61 := hi6.blk.cell 1
              obtain ⟨qw, hqw⟩ : ∃ q, anyN g (atP wrB (k : Int)) = q := ⟨_, rfl⟩
              rw [hqw]
              cases qw
              · have HWR := Lib.hid (thrTo_no (p := wrB) (x := (k : Int)) HGT.out hqw); clear hqw
                go_wp2_with fail
                go_roundw
                case rel => exact ⟨t + 1, _, _, by go_num, by omega, by rw [HRD.out, HWR.out]; exact hi6⟩
                case measure => simp [intOf]; omega
              · have HWR := Lib.hid (thrTo_yes (p := wrB) (x := (k : Int)) HGT.out hqw); clear hqw
                obtain ⟨bA, bc, rfl, -⟩ := own_slice hi6.rb
                go_wp2_with (refine stop_append rfl ?_)
                refine Stop.intro ?_
                have hi4b := hi6.keep (Below_alloc' w6 (.cells #[.int .i64 (t : Nat)] 3))
                refine app_one sl_int rfl _ _ rfl (wo.heap.size + 1) _ _ _ rfl hi4b.rb w6.heap.size 0 1 [.int .i64 (t : Nat)] rfl rfl (cell_new1 _ _ _ _ rfl) (by simp [Value.oneCell']) (by simp [natI]; omega) (by decide) (by have := hi6.lt; simp; omega) ?_
                intro v4b w4b hown4b hgrb hobb
                obtain ⟨nvb, nccb, rfl, -⟩ := own_slice hown4b
                have hi5b := hi4b.pushB hown4b hgrb hobb
                have x4b0 := (hi4b.blk.grown hgrb (fun e => hi4b.noB e.symm)).cell 1
                have f4b0 := (hi4b.blk.grown hgrb (fun e => hi4b.noB e.symm)).frozen 1
                have l4b := hi4b.lt
                have z4b := hgrb.size
                rw [← natI_snoc] at hi5b
                go_wp2_with fail
                go_roundw
                case rel => exact ⟨t + 1, _, _, by go_num, by omega, by rw [HRD.out, HWR.out]; exact hi5b⟩
                case measure => simp [intOf]; omega
            · have HRD := Lib.hid (thrTo_yes (p := rdB) (x := (k : Int)) HGT.out hqr); clear hqr
              obtain ⟨aA, ac, rfl, -⟩ := own_slice hi3.ra
              go_wp2_with (refine stop_append rfl ?_)
              refine Stop.intro ?_
              have hi4a := hi3.keep (Below_alloc' w3 (.cells #[.int .i64 (t : Nat)] 3))
              refine app_one sl_int rfl _ _ rfl (wo.heap.size + 1) _ _ _ rfl hi4a.ra w3.heap.size 0 1 [.int .i64 (t : Nat)] rfl rfl (cell_new1 _ _ _ _ rfl) (by simp [Value.oneCell']) (by simp [natI]; omega) (by decide) (by have := hi3.lt; simp; omega) ?_
              intro v4a w4a hown4a hgra hoba
              obtain ⟨nva, ncca, rfl, -⟩ := own_slice hown4a
              have hi5a := hi4a.pushA hown4a hgra hoba
              have x4a0 := (hi4a.blk.grown hgra (fun e => hi4a.noA e.symm)).cell 0
              have f4a0 := (hi4a.blk.grown hgra (fun e => hi4a.noA e.symm)).frozen 0
              have l4a := hi4a.lt
              have z4a := hgra.size
              rw [← natI_snoc] at hi5a
              have hbk4 := (hbk3.alloc (.cells #[.int .i64 (t : Nat)] 3)).grown hgra (own_blk hi4a.ra (hbk3.alloc _) (by decide))
              have hxl := hi.lt
              have hbk5 : Blk (w4a.setCell ⟨wo.heap.size, 0, none⟩ (.slice nva ((natI (thrTo u rdB (k : Int) t)).length + 1) ncca)) wr.heap.size 70 [.string g.name, .int .i64 g.locals, .int .i64 g.slots, .slice nA g.nodes.length nc] := (Below.heap_setCell _ _ _ _ (by show wr.heap.size ≠ wo.heap.size; omega)).trans hbk4
              have HLDE : Hid (∀ j v, ([.string g.name, .int .i64 g.locals, .int .i64 g.slots, .slice nA g.nodes.length nc] : List Value)[j]? = some v → (w4a.setCell ⟨wo.heap.size, 0, none⟩ (.slice nva ((natI (thrTo u rdB (k : Int) t)).length + 1) ncca)).cell? ⟨wr.heap.size, 0 + j, none⟩ = some v) := fun j v hj => by rw [Nat.zero_add, (hbk5).cell]; exact hj
              go_wp2_with (first
                | (refine wpList_load_at rfl 70 _ rfl wr.heap.size 0 rfl _ _ HLDE.out Try.underlying70 rfl (by kernel_rfl) ?_))
              refine (touches9_calls g [.string g.name, .int .i64 g.locals, .int .i64 g.slots, .slice nA g.nodes.length nc] (k : Int) true _ hrg.whole (HGV.mono (cmap_below (hb1w.trans (hi5a.bel.mono (by omega)))))).mono ?_
              rintro e w6 ⟨rfl, hb6⟩
              rw [tch_wr]
              have hi6 := hi5a.keep hb6
              have y60 := hi6.blk.cell 0
              have y61 := hi6.blk.cell 1
              obtain ⟨qw, hqw⟩ : ∃ q, anyN g (atP wrB (k : Int)) = q := ⟨_, rfl⟩
              rw [hqw]
              cases qw
              · have HWR := Lib.hid (thrTo_no (p := wrB) (x := (k : Int)) HGT.out hqw); clear hqw
                go_wp2_with fail
                go_roundw
                case rel => exact ⟨t + 1, _, _, by go_num, by omega, by rw [HRD.out, HWR.out]; exact hi6⟩
                case measure => simp [intOf]; omega
              · have HWR := Lib.hid (thrTo_yes (p := wrB) (x := (k : Int)) HGT.out hqw); clear hqw
                obtain ⟨bA, bc, rfl, -⟩ := own_slice hi6.rb
                go_wp2_with (refine stop_append rfl ?_)
                refine Stop.intro ?_
                have hi4b := hi6.keep (Below_alloc' w6 (.cells #[.int .i64 (t : Nat)] 3))
                refine app_one sl_int rfl _ _ rfl (wo.heap.size + 1) _ _ _ rfl hi4b.rb w6.heap.size 0 1 [.int .i64 (t : Nat)] rfl rfl (cell_new1 _ _ _ _ rfl) (by simp [Value.oneCell']) (by simp [natI]; omega) (by decide) (by have := hi6.lt; simp; omega) ?_
                intro v4b w4b hown4b hgrb hobb
                obtain ⟨nvb, nccb, rfl, -⟩ := own_slice hown4b
                have hi5b := hi4b.pushB hown4b hgrb hobb
                have x4b0 := (hi4b.blk.grown hgrb (fun e => hi4b.noB e.symm)).cell 1
                have f4b0 := (hi4b.blk.grown hgrb (fun e => hi4b.noB e.symm)).frozen 1
                have l4b := hi4b.lt
                have z4b := hgrb.size
                rw [← natI_snoc] at hi5b
                go_wp2_with fail
                go_roundw
                case rel => exact ⟨t + 1, _, _, by go_num, by omega, by rw [HRD.out, HWR.out]; exact hi5b⟩
                case measure => simp [intOf]; omega
          · have htt : t = u.graphs.length := by omega
            have HTT := Lib.hid htt; clear htt
            rw [HTT.out] at hi
            obtain ⟨aA, ac, rfl, -⟩ := own_slice hi.ra
            obtain ⟨bA, bc, rfl, -⟩ := own_slice hi.rb
            obtain ⟨LA, hLA⟩ : ∃ L, natI (thrTo u rdB k u.graphs.length) = L := ⟨_, rfl⟩
            obtain ⟨LB, hLB⟩ : ∃ L, natI (thrTo u wrB k u.graphs.length) = L := ⟨_, rfl⟩
            have htf : touF u k = (LA, LB) := by unfold touF; rw [hLA, hLB]
            rw [hLA, hLB] at hi
            have HLDT : Hid (∀ j v, ([.slice aA LA.length ac, .slice bA LB.length bc] : List Value)[j]? = some v → wr.cell? ⟨wo.heap.size, 0 + j, none⟩ = some v) := fun j v hj => by rw [Nat.zero_add, hi.blk.cell]; exact hj
            have HTF := Lib.hid htf; clear htf
            clear hLA hLB
            go_wp2_with (first
              | (refine wpList_load_at rfl 42 _ rfl wo.heap.size 0 rfl _ _ HLDT.out Try.underlying42 rfl (by kernel_rfl) ?_)
              | (refine stop_append rfl ?_))
            refine Stop.intro ?_
            have hacc3 := (hacc.keep hi.bel).alloc (.cells #[.slice aA LA.length ac, .slice bA LB.length bc] 42)
            obtain ⟨rows, ho, hrl, hrs, hrx⟩ := hacc3.rows
            refine app_one sl_touch rfl _ _ rfl w1.heap.size u7 _ rows.flatten rfl ho wr.heap.size 0 1 [.slice aA LA.length ac, .slice bA LB.length bc] rfl rfl (cell_newl _ _ _ _ rfl) (by simp [Value.oneCell']) (by have := hru.shared; simp; omega) (by decide) (by have := hi.lt; simp; omega) ?_
            intro v' w4 hown4 hg4 hob4
            have hv7 := hacc.lt
            have hlt7 := hi.lt
            have hacc4 : Acc touV 2 42 w1.heap.size (fun b => S b ∨ (wo.heap.size < b ∧ b < wr.heap.size)) v' ((List.range (k + 1)).map (touF u)) w4 := by
              rw [List.range_succ, List.map_append]
              refine hacc3.push hrl hrs hrx rfl (by simpa using hown4) hg4 hob4 (fun b hb => .inl hb) (fun b hb => ?_) ⟨_, _, rfl, ?_, ?_⟩
              · rcases hb with hb | hb
                · exact hacc3.sep b hb
                · exact ⟨by omega, by simp; omega, fun e => by have := (hv7 b e.symm).2; omega⟩
              · rw [HTF.out]
                exact own_on (fun _ _ _ _ h => h) ((hi.ra.alloc _).kept hg4 (own_apart (fun q hq => (hi.ra.lt q hq).1) fun q hq => by have := (hv7 q hq).2; omega)) fun b hb => .inr (by have := hi.ra.lt b hb; omega)
              · rw [HTF.out]
                exact own_on (fun _ _ _ _ h => h) ((hi.rb.alloc _).kept hg4 (own_apart (fun q hq => (hi.rb.lt q hq).1) fun q hq => by have := (hv7 q hq).2; omega)) fun b hb => .inr (by have := hi.rb.lt b hb; omega)
            have hbel4 := ((hbel.trans (hi.bel.mono hbs)).alloc (by omega) (.cells #[.slice aA LA.length ac, .slice bA LB.length bc] 42)).grown hg4 (by simp; omega) (fun j hj => (hv7 j hj).1)
            go_wp2_with fail
            go_roundw
            case rel => exact ⟨k + 1, _, by go_num, by omega, hacc4, hbel4⟩
            case measure => simp [intOf]; omega
      · have hkk : k = u.shared.length := by omega
        have HK := Lib.hid hkk; clear hkk
        rw [HK.out] at hacc
        go_wp2
        go_ret2
        exact .inl ⟨trivial, _, rfl, hacc.done hw1s (Nat.le_refl _), hw1.trans (hbel.mono hw1s)⟩
end Go.Proofs.Ytkkmkjjbffpgnaa
/- The walk of the reference's Owners. -/
namespace Go.Proofs.Ytkkmkjjbffpgnaa
open Go Go.RowKit
theorem fold_take {l : List Int} {j : Nat} {x : Int} (o : Int) (h : l[j]? = some x) : (l.take (j + 1)).foldl joinI o = joinI ((l.take j).foldl joinI o) x := by
  obtain ⟨h1, h2⟩ := List.getElem?_eq_some_iff.1 h
  rw [List.take_succ_eq_append_getElem h1, h2, List.foldl_append]
  rfl
def ownT (x : Tou) : Int := x.2.foldl joinI (x.1.foldl joinI (-1))
theorem own_below {base n size : Nat} {e : TypeId} {v : Value} {xs : List Value} {W W' : World} (h : W.ownsRow base e size v n xs) (hb : Below W.heap.size W W') : W'.ownsRow base e size v n xs :=
  h.kept (row := none) ⟨hb.os, hb.tape, hb.output, hb.size, fun k hk _ => hb.block k hk⟩ (by cases hv : v.ownBlock with | none => exact .inl rfl | some x => exact .inr (by simp))
set_option maxRecDepth 100000 in
set_option maxHeartbeats 4000000 in
theorem owners2_calls (u : Unit_) (cs : List Value) (w : World) (hu : UnitV (cmap w) cs u) (hok : UOk u) :
    Calls Try.prog 14 #[.agg cs.toArray] w fun e w' => (checkF u = none ∧ ∃ v, e = .returned (.tuple #[v, .int .i64 0]) ∧ Ints (part w' w.heap.size w'.heap.size) v (ownRef u) ∧ Below w.heap.size w w') ∨
      (checkF u ≠ none ∧ e = .returned (.tuple #[.slice none 0 0, .int .i64 60]) ∧ Below w.heap.size w w') := by
  have hu0 := hu
  obtain ⟨sv, lv, gv, rfl, -, -, -⟩ := hu
  have HLD : Hid (∀ j v, ([sv, lv, gv] : List Value)[j]? = some v → (w.alloc (.cells #[sv, lv, gv] 25)).cell? ⟨w.heap.size, 0 + j, none⟩ = some v) := cell_newl w _ _ _ rfl
  have hone : Calls Try.prog 12 #[.agg #[sv, lv, gv]] (w.alloc (.cells #[sv, lv, gv] 25)) fun e w' => ∃ (A : Option Addr) (c : Nat) (L : List Tou) (k : Int), e = .returned (.tuple #[.slice A L.length c, .int .i64 k]) ∧ Sl (Cells touV) 2 (cmap w') (.slice A L.length c) L ∧ Below w.heap.size w w' ∧ L.length ≤ 64 ∧
      ((checkF u = none ∧ k = 0 ∧ L.map ownT = ownRef u) ∨ (checkF u ≠ none ∧ k = 60 ∧ L = [])) := by
    refine (tou2_calls u [sv, lv, gv] _ (hu0.mono (cmap_alloc _ _)) hok).mono ?_
    rintro e w' (⟨h1, v, rfl, h3, h4⟩ | ⟨h1, rfl, h4⟩)
    · have hru := checkF_none h1
      obtain ⟨A, c, rfl, -⟩ := id h3
      refine ⟨A, c, _, 0, rfl, h3.mono (part_le _ _ _), (Below_alloc' _ _).trans (h4.mono (by simp)), by have := hru.shared; simpa using this, .inl ⟨h1, rfl, ?_⟩⟩
      unfold ownRef
      rw [List.map_map]
      rfl
    · exact ⟨none, 0, [], 60, rfl, ⟨none, 0, rfl, by simp, ⟨by simp [maxLen], fun _ => rfl⟩, .inl rfl⟩, (Below_alloc' _ _).trans (h4.mono (by simp)), by simp, .inr ⟨h1, rfl, rfl⟩⟩
  have HONE := Lib.hid hone; clear hone
  go_enter Try.func14, Try.ntmps14
  go_wp2_with (first
    | (refine wpList_load_at rfl 25 _ rfl w.heap.size 0 rfl _ _ HLD.out Try.underlying25 rfl (by kernel_rfl) ?_))
  refine HONE.out.mono ?_
  rintro e w1 ⟨A, c, L, kk, rfl, hL, hw1, h64, hend⟩
  have HEND := Lib.hid hend; clear hend
  have hw1s := hw1.size
  go_wp2
  go_loopw [6, 21] (fun v6 v21 wr => ∃ k : Nat, v21 = .int .i64 k ∧ k ≤ L.length ∧ (k = 0 → v6 = .slice none 0 0) ∧ wr.ownsRow w1.heap.size 3 1 v6 ((L.take k).map ownT).length (ints ((L.take k).map ownT)) ∧ Below w1.heap.size w1 wr) (fun _ v21 _ => L.length - (intOf v21).toNat)
  case atStart => exact ⟨0, rfl, by omega, fun _ => rfl, World.ownsRow_nil _ _ _ _, Below.refl _ _⟩
  case round =>
    obtain ⟨k, rfl, hk, hnil, hown, hbel⟩ := hrel
    have hbs := hbel.size
    by_cases hlt : k < L.length
    · obtain ⟨x, hx⟩ : ∃ x, L[k]? = some x := ⟨_, List.getElem?_eq_getElem hlt⟩
      obtain ⟨bb, o, rfl, _, ⟨a, b, rfl, ha, hb⟩, hc⟩ := hL.at_ hx
      obtain ⟨aA, ac, rfl, -⟩ := id ha
      obtain ⟨bA, bc, rfl, -⟩ := id hb
      have ba := ha.len.2.2
      have bb2 := hb.len.2.2
      have HLDX : Hid (∀ j v, ([.slice aA x.1.length ac, .slice bA x.2.length bc] : List Value)[j]? = some v → wr.cell? ⟨bb, o + k * 2 + j, none⟩ = some v) := fun j v h => cmap_below hbel _ _ _ (hc j v h)
      have HX := Lib.hid hx; clear hx hc
      have hk0 : (0 : Int) ≤ k := by omega
      have hkl : (k : Int) < L.length := by omega
      obtain ⟨wo, rfl⟩ : ∃ wo : World, wo = wr := ⟨_, rfl⟩
      have hbk := Blk.new wo 42 [.slice aA x.1.length ac, .slice bA x.2.length bc]
      have y0 := hbk.cell 0
      have y1 := hbk.cell 1
      have ha1 := (ha.mono (cmap_below hbel)).mono (cmap_alloc wo (.cells #[.slice aA x.1.length ac, .slice bA x.2.length bc] 42))
      have hb1 := (hb.mono (cmap_below hbel)).mono (cmap_alloc wo (.cells #[.slice aA x.1.length ac, .slice bA x.2.length bc] 42))
      go_wp2_with (first
        | (refine wpList_load_at rfl 42 _ rfl bb (o + k * 2) rfl _ _ HLDX.out Try.underlying42 rfl (by kernel_rfl) ?_))
      go_loopw [9, 28] (fun v9 v wz => ∃ (j n : Nat), v = .int .i64 j ∧ j ≤ x.1.length ∧ v9 = .int .i64 ((x.1.take j).foldl joinI (-1)) ∧ wz = (wo.alloc (.cells #[.slice aA x.1.length ac, .slice bA x.2.length bc] 42)).drewN n) (fun _ v _ => x.1.length - (intOf v).toNat)
      case atStart => exact ⟨0, 0, rfl, by omega, rfl, rfl⟩
      case round =>
        obtain ⟨j, n, rfl, hj, rfl, rfl⟩ := hrel
        by_cases hjl : j < x.1.length
        · obtain ⟨t, ht⟩ : ∃ t, x.1[j]? = some t := ⟨_, List.getElem?_eq_getElem hjl⟩
          obtain ⟨tb, to_, rfl, htc⟩ := ha1.at_ ht
          have HFT := Lib.hid (fold_take (-1) ht); clear ht
          have htc2 : (wo.alloc (.cells #[.slice (some ⟨tb, to_, none⟩) x.1.length ac, .slice bA x.2.length bc] 42)).cell? ⟨tb, to_ + j, none⟩ = some (.int .i64 t) := by have := htc; rwa [Nat.mul_one] at this
          clear htc
          have hj0 : (0 : Int) ≤ j := by omega
          have hjl2 : (j : Int) < x.1.length := by omega
          go_wp2_with fail
          refine (joined_calls _ t _).mono ?_
          rintro e w5 ⟨rfl, m, rfl⟩
          rw [← HFT.out]
          go_wp2
          go_roundw
          case rel => exact ⟨j + 1, n + m, by go_num, by omega, rfl, rfl⟩
          case measure => simp [intOf]; omega
        · rw [List.take_of_length_le (by omega)]
          obtain ⟨OO, hOO⟩ : ∃ o, x.1.foldl joinI (-1) = o := ⟨_, rfl⟩
          rw [hOO]
          have HOO := Lib.hid hOO; clear hOO
          go_wp2
          go_loopw [9, 39] (fun v9 v wz => ∃ (j n : Nat), v = .int .i64 j ∧ j ≤ x.2.length ∧ v9 = .int .i64 ((x.2.take j).foldl joinI OO) ∧ wz = (wo.alloc (.cells #[.slice aA x.1.length ac, .slice bA x.2.length bc] 42)).drewN n) (fun _ v _ => x.2.length - (intOf v).toNat)
          case atStart => exact ⟨0, n, rfl, by omega, rfl, rfl⟩
          case round =>
            obtain ⟨j, n, rfl, hj, rfl, rfl⟩ := hrel
            by_cases hjl : j < x.2.length
            · obtain ⟨t, ht⟩ : ∃ t, x.2[j]? = some t := ⟨_, List.getElem?_eq_getElem hjl⟩
              obtain ⟨tb, to_, rfl, htc⟩ := hb1.at_ ht
              have HFT := Lib.hid (fold_take OO ht); clear ht
              have htc2 : (wo.alloc (.cells #[.slice aA x.1.length ac, .slice (some ⟨tb, to_, none⟩) x.2.length bc] 42)).cell? ⟨tb, to_ + j, none⟩ = some (.int .i64 t) := by have := htc; rwa [Nat.mul_one] at this
              clear htc
              have hj0 : (0 : Int) ≤ j := by omega
              have hjl2 : (j : Int) < x.2.length := by omega
              go_wp2_with fail
              refine (joined_calls _ t _).mono ?_
              rintro e w5 ⟨rfl, m, rfl⟩
              rw [← HFT.out]
              go_wp2
              go_roundw
              case rel => exact ⟨j + 1, n + m, by go_num, by omega, rfl, rfl⟩
              case measure => simp [intOf]; omega
            · rw [List.take_of_length_le (by omega)]
              go_wp2_with (refine stop_append rfl ?_)
              refine Stop.intro ?_
              have hB : Below wo.heap.size wo _ := (Below_alloc' wo (.cells #[.slice aA x.1.length ac, .slice bA x.2.length bc] 42)).trans ((Below_dalloc (wo.alloc (.cells #[.slice aA x.1.length ac, .slice bA x.2.length bc] 42)) n (.cells #[.int .i64 (x.2.foldl joinI OO)] 3)).mono (by simp))
              refine app_one sl_int rfl _ _ rfl w1.heap.size u6 _ _ rfl (own_below hown hB) (wo.heap.size + 1) 0 1 [.int .i64 (x.2.foldl joinI OO)] rfl rfl (cell_new1 _ _ _ _ (by simp)) (by simp [Value.oneCell']) (by simp; omega) (by decide) (by simp; omega) ?_
              intro v' w4 hown4 hgr hob
              have hs : (L.take (k + 1)).map ownT = (L.take k).map ownT ++ [x.2.foldl joinI OO] := by
                obtain ⟨h1, h2⟩ := List.getElem?_eq_some_iff.1 HX.out
                rw [List.take_succ_eq_append_getElem h1, h2, List.map_append, ← HOO.out]
                rfl
              have HS := Lib.hid hs; clear hs
              have hbel4 := (hbel.trans (hB.mono hbs)).grown hgr (by simp; omega) (fun j hj => own_lt hown j hj)
              go_wp2_with fail
              go_roundw
              case rel => exact ⟨k + 1, by go_num, by omega, fun h => by omega, by rw [HS.out]; simpa [ints] using hown4, hbel4⟩
              case measure => simp [intOf]; omega
    · have hkk : k = L.length := by omega
      rw [hkk, List.take_length] at hown
      have HKK := Lib.hid hkk; clear hkk
      have HN := Lib.hid hnil; clear hnil
      go_wp2
      go_ret2
      rcases HEND.out with ⟨h1, rfl, h3⟩ | ⟨h1, rfl, h3⟩
      · refine .inl ⟨h1, _, rfl, ?_, hw1.trans (hbel.mono hw1s)⟩
        rw [← h3]
        exact Sl_of_own (R := IntC) (f := Value.int .i64) (fun _ _ _ _ h => h) hown hw1s (Nat.le_refl _)
      · refine .inr ⟨h1, ?_, hw1.trans (hbel.mono hw1s)⟩
        rw [HN.out (by rw [HKK.out, h3]; rfl)]
        rfl
end Go.Proofs.Ytkkmkjjbffpgnaa
