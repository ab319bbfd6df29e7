/- SourceSame: whatever unit, two schedules, classes, thread and bound are given: of one situation any copy goes on alike. Proved where the arguments are of bulk at most 1048576. -/
import Derived.Test.YtkkmkjjbffpgnaaP74
import Derived.Test.YtkkmkjjbffpgnaaP09
import Derived.Test.YtkkmkjjbffpgnaaP89
import Derived.Test.YtkkmkjjbffpgnaaP52
/- An argument that is a list of classes. -/
namespace Go.Proofs.Ytkkmkjjbffpgnaa
open Go Go.RowKit Go.ChangeShapes Go.WideShapes Go.Deep
section
variable {H : Type} {enc : TypeId × Value → H} {w : World} {spare : Nat → Bool} {held : Bool}
theorem c3_cls : Try.prog.cellsOf 165 = 3 := by kernel_rfl
theorem c1_clsk : Try.prog.cellsOf 163 = 1 := by kernel_rfl
theorem open_cls1 {n : Nat} {cs : List Value} {y : DataW H × List MemPlace} (h : DataW.trod enc Try.prog w 0 spare held n 165 cs = some y) : ∃ c : Cls, clsV (cmap w) cs c ∧ True := by
  obtain ⟨xs, m, _, _, hlen, hxl, hf⟩ := DataW.trod_struct Try.underlying165 h
  replace hlen := hlen.trans c3_cls
  obtain ⟨c0, c1, c2, rfl⟩ := list3 hlen
  obtain ⟨y0, y1, y2, rfl⟩ := list3 hxl
  have f0 := hf 0 _ rfl
  have f1 := hf 1 _ rfl
  have f2 := hf 2 _ rfl
  simp only [List.getElem_toArray, List.getElem_cons_zero, List.getElem_cons_succ, c1_clsk, c1_int] at f0 f1 f2
  obtain ⟨s0, e0, _⟩ := DataW.trod_int Try.underlying163 f0
  obtain ⟨s1, e1, _⟩ := DataW.trod_int Try.underlying3 f1
  obtain ⟨s2, e2, _⟩ := DataW.trod_int Try.underlying3 f2
  simp at e0 e1 e2
  subst e0 e1 e2
  exact ⟨⟨s0, s1, s2⟩, rfl, trivial⟩
set_option maxRecDepth 100000 in
/-- A LIST OF CLASSES. -/
theorem open_clss {base : Nat} {r : Reach} {v : Value} {d : DataW H} {p : List MemPlace} (hv : Value.okWide Try.prog w r base 75 v) (h : DataW.Trod enc Try.prog w 0 spare held 75 v d p) :
    ∃ A c, ∃ l : List Cls, v = .slice A l.length c ∧ Clss (cmap w) (.slice A l.length c) l := by
  obtain ⟨a, n, c, rfl⟩ := okWide_slice Try.underlying75 hv
  obtain ⟨fuel, hf⟩ := h
  have hf' : DataW.trod enc Try.prog w 0 spare held fuel 75 [.slice a n c] = some (d, p) := hf
  obtain ⟨v0, l, e0, h0, _⟩ := open_sl clsV (fun _ => True) Try.underlying75 c3_cls (by decide) (fun n cs' y hy => open_cls1 hy) hf'
  injection e0 with e0 _
  subst e0
  have hi : Clss (cmap w) (.slice a n c) l := h0
  obtain rfl := hi.len.1
  exact ⟨a, c, l, rfl, hi⟩
end
end Go.Proofs.Ytkkmkjjbffpgnaa
namespace Go.Proofs.Ytkkmkjjbffpgnaa
open Go Go.RowKit Go.ChangeShapes Go.WideShapes Go.ChangeAt
namespace sSame
set_option maxRecDepth 100000 in
theorem contract (H : Type) (enc : TypeId × Value → H) (W : World) (base : Nat) (args : Array Value) (ds gs : List (DataW H)) (before : List MemPlace)
    (hval : ∀ (j : Nat) t v, Try.f7.params[j]? = some t → args[j]? = some v → Value.okWide Try.prog W .any base t v)
    (hW : DataW.Whole enc Try.prog Try.f7.params.toList Rows.sourceSameSpec.vars false W args.toList ds gs before) (hk : Rows.uptoSmall H (ds ++ gs) = true) :
    Calls Try.prog 7 args W fun e W' => ∃ v, e = .returned v ∧ Rows.sourceSameSpec.post enc Try.prog Try.f7 false true false false W args v W' := by
  have hW' := hW
  obtain ⟨p, q, hA0, hV, rfl, hfz, hnd⟩ := hW
  have hA : DataW.TrodAll enc Try.prog W 0 (fun _ => true) true Try.f7.params.toList args.toList ds p := hA0
  have hA2 := hA
  rw [Try.params7] at hA hval
  obtain ⟨v0, vs0, d0, ds0, p0, q0, hargs, rfl, hp, h0, r0⟩ := trodAll_cons hA
  obtain ⟨v1, vs1, d1, ds1, p1, q1, rfl, rfl, hp1, h1, r1⟩ := trodAll_cons r0
  obtain ⟨v2, vs2, d2, ds2, p2, q2, rfl, rfl, hp2, h2, r2⟩ := trodAll_cons r1
  obtain ⟨v3, vs3, d3, ds3, p3, q3, rfl, rfl, hp3, h3, r3⟩ := trodAll_cons r2
  obtain ⟨v4, vs4, d4, ds4, p4, q4, rfl, rfl, hp4, h4, r4⟩ := trodAll_cons r3
  obtain ⟨v5, vs5, d5, ds5, p5, q5, rfl, rfl, hp5, h5, r5⟩ := trodAll_cons r4
  obtain ⟨rfl, rfl, hp9⟩ := trodAll_nil r5
  obtain rfl : args = #[v0, v1, v2, v3, v4, v5] := by cases args; simp_all
  obtain ⟨rfl, rfl⟩ := trodVars_none hV
  have hbulk := bulk_small hk
  obtain ⟨cs0, u0, rfl, hu0, hok0, hso0⟩ := open_unit_s (hval 0 25 v0 rfl rfl) h0
  obtain ⟨A1, c1, l1, rfl, hv1, hi1, hl1⟩ := open_ints_s (hval 1 30 v1 rfl rfl) h1
  have hl1 : l1.length ≤ 1048576 := Nat.le_trans hl1 (Nat.le_trans (bulk_part (by simp)) hbulk)
  obtain ⟨A2, c2, l2, rfl, hv2, hi2, hl2⟩ := open_ints_s (hval 2 30 v2 rfl rfl) h2
  have hl2 : l2.length ≤ 1048576 := Nat.le_trans hl2 (Nat.le_trans (bulk_part (by simp)) hbulk)
  obtain ⟨A3, c3, l3, rfl, hv3⟩ := open_clss (hval 3 75 v3 rfl rfl) h3
  obtain ⟨n4, rfl⟩ := okWide_int Try.underlying3 (hval 4 3 v4 rfl rfl)
  obtain ⟨n5, rfl⟩ := okWide_int Try.underlying3 (hval 5 3 v5 rfl rfl)
  have hlt := fun x hx => hW'.lt x hx
  simp only [List.append_nil] at hW' hlt
  refine (sourceSame_calls W cs0 u0 A1 c1 l1 A2 c2 l2 A3 c3 l3 n4 n5 hu0 hok0 hso0 hv1 hi1 hl1 hv2 hi2 hl2 hv3).mono fun e W' ⟨he, hb⟩ => ?_
  subst he
  exact ⟨_, rfl, post_below (pa := p) (pv := []) hW' (fun _ _ _ => trodAll_cons_mk (shut_bool Try.underlying4 _) trodAll_mk0)
    (fun sp hsp => trodAll_stays (by intro t ht; rw [Try.params7] at ht; exact all_again _ (by kernel_rfl) t ht) hA2 (fun x hx => hb.same (hlt x hx)) (fun x hx => hsp x hx)) (fun _ _ => rfl) (by simp) hb (ok_one (by kernel_rfl) rfl (okWide_bool_mk Try.underlying4 _))⟩
theorem laid_met (os : Os) : laidMet Try.prog Rows.sourceSameUptoRow.laid ((laidWorld os).forCall (fun _ _ => 0) ⟨#[], #[.agg #[.slice none 0 0, .slice none 0 0, .slice none 0 0], .slice none 0 0, .slice none 0 0, .slice none 0 0, .int .i64 0, .int .i64 0], []⟩).memory :=
  ⟨[], rfl, List.nodup_nil, fun _ _ h => by cases h⟩
theorem reads (os : Os) {H : Type} (enc : TypeId × Value → H) : ∃ places, DataW.whole enc Try.prog ((laidWorld os).forCall (fun _ _ => 0) ⟨#[], #[.agg #[.slice none 0 0, .slice none 0 0, .slice none 0 0], .slice none 0 0, .slice none 0 0, .slice none 0 0, .int .i64 0, .int .i64 0], []⟩).memory Try.f7.params.toList Rows.sourceSameSpec.vars false
    (#[.agg #[.slice none 0 0, .slice none 0 0, .slice none 0 0], .slice none 0 0, .slice none 0 0, .slice none 0 0, .int .i64 0, .int .i64 0] : Array Value).toList 8 = some ([.agg [.nil, .nil, .nil], .nil, .nil, .nil, .lit (.int .i64 0), .lit (.int .i64 0)], [], places) :=
  ⟨[], by kernel_rfl⟩
set_option maxRecDepth 100000 in
theorem lifted (os : Os) (started : os.Started) (H : Type) (enc : TypeId × Value → H) (F : Stop.Interp) :
    ReturnsInHanded {} Try.checked os 7 .any ((Rows.OpenSpec.upto Rows.sourceSameSpec).preRow enc Try.prog Try.f7 Rows.sourceSameUptoRow.domain false Rows.sourceSameUptoRow.laid) (((Rows.OpenSpec.upto Rows.sourceSameSpec).at F).post enc Try.prog Try.f7 false true false false) := by
  obtain ⟨places, hx⟩ := reads os enc
  refine returnsInHanded_of_row (C := Try.checked) (s := Rows.OpenSpec.upto Rows.sourceSameSpec) own_knob started (by kernel_rfl) Try.func7
    (witness_row_at (enc := enc) (C := Try.checked) false (laidWorld os) #[.agg #[.slice none 0 0, .slice none 0 0, .slice none 0 0], .slice none 0 0, .slice none 0 0, .slice none 0 0, .int .i64 0, .int .i64 0] rfl (by kernel_rfl) (by kernel_rfl) (by kernel_rfl)
      (OpenSpec.preRow_of_cond 8 hx (by kernel_rfl) (fun k hk => by injection hk with hk; subst hk; kernel_rfl) (by kernel_rfl) (laid_met os))) ?_
  intro W base args ds gs before hval hW _ hk _ _ _ _
  exact contract H enc W base args ds gs before hval hW (hk _ rfl)
theorem said : Rows.SourceSameUptoSaid :=
  OpenClaim.holds_of_cond 7 Try.f7 rfl rfl rfl rfl rfl rfl rfl ⟨rfl, rfl, rfl, rfl, rfl⟩ rfl rfl rfl rfl rfl (by kernel_rfl) Try.func7 (by kernel_rfl)
    (of_decide_eq_true (by kernel_rfl)) (by unfold Func.isWrapper; first | (rw [if_pos (by decide +kernel)]; kernel_rfl) | (rw [if_neg (by decide +kernel)]; exact ⟨rfl, rfl⟩))
    (fun os started H enc _ F => by rw [OpenClaim.pre_eq_preRow]; exact lifted os started H enc F)
end sSame
/-- THE STATEMENT. -/
theorem sourceSame_upto : Rows.SourceSameUptoSaid := sSame.said
#print axioms sourceSame_upto
end Go.Proofs.Ytkkmkjjbffpgnaa
