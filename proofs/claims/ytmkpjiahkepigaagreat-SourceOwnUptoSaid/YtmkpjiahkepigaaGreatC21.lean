/- SourceOwn: answers are new memory; a unit that is handed in is not kept; nil. Proved where the arguments are of bulk at most 1048576. -/
import Derived.Test.YtmkpjiahkepigaaGreatP74
import Derived.Test.YtmkpjiahkepigaaGreatP58
import Derived.Test.YtmkpjiahkepigaaGreatP106
import Derived.Test.YtmkpjiahkepigaaGreatP52
/- An argument of type api.Unit with its words, sized by the row's reach. -/
namespace Go.Proofs.YtmkpjiahkepigaaGreat
open Go Go.RowKit Go.ChangeShapes Go.WideShapes Go.Deep
section
variable {H : Type} {enc : TypeId × Value → H} {w : World} {spare : Nat → Bool} {held : Bool}
set_option maxRecDepth 100000 in
theorem open_unit_sz {base : Nat} {r : Reach} {v : Value} {d : DataW H} {p : List MemPlace} (hv : Value.okWide Tryz.prog w r base 25 v) (h : DataW.Trod enc Tryz.prog w 0 spare held 25 v d p)
    (hw : (d.weights Tryz.prog 25).all (· ≤ reachBytes) = true) :
    ∃ cs u, v = .agg cs.toArray ∧ UnitV (cmap w) cs u ∧ UOk u ∧ SOk u ∧ USz u := by
  obtain ⟨cs, rfl, hsz⟩ := okWide_struct Tryz.underlying25 hv
  have hsz1 : cs.size = 3 := Eq.trans hsz c3_unit
  have hsz2 : cs.toList.length = 3 := Array.length_toList.trans hsz1
  clear hsz hv
  obtain ⟨fuel, hf0⟩ := h
  obtain ⟨xs, m, _, hy, hlen, hxl, hf⟩ := DataW.trod_struct Tryz.underlying25 hf0
  clear hlen hf0
  obtain ⟨c0, c1, c2, hl⟩ := list3 hsz2
  obtain rfl : cs = #[c0, c1, c2] := by rw [← Array.toArray_toList (xs := cs), hl]
  obtain ⟨y0, y1, y2, rfl⟩ := list3 hxl
  have f0 := hf 0 _ rfl
  have f1 := hf 1 _ rfl
  have f2 := hf 2 _ rfl
  simp only [List.getElem_toArray, List.getElem_cons_zero, List.getElem_cons_succ, c1_decls, c1_graphs] at f0 f1 f2
  injection hy with hy _
  subst hy
  simp only [DataW.weights, Tryz.underlying25, List.map_cons, List.map_nil, DataW.weightsEach, List.all_append, Bool.and_eq_true] at hw
  obtain ⟨hw0, hw1, hw2, -⟩ := hw
  obtain ⟨v0, d0, e0, h0, hso, z0⟩ := open_slz declO (fun d => i64 d.word) Tryz.underlying22 c3_decl b_decl (by decide) (fun n cs' y hy _ => open_decl_s hy) f0 hw0
  obtain ⟨v1, d1, e1, h1, _, z1⟩ := open_slz declO (fun _ => True) Tryz.underlying22 c3_decl b_decl (by decide) (fun n cs' y hy _ => by obtain ⟨d, h⟩ := open_decl hy; exact ⟨d, h, trivial⟩) f1 hw1
  obtain ⟨v2, g2, e2, h2, hok, z2⟩ := open_slz graphO graphZ Tryz.underlying23 c4_graph b_graph (by decide) (fun n cs' y hy hz => open_graphz hy hz) f2 hw2
  simp [Value.cells] at e0 e1 e2
  subst e0 e1 e2
  have dcl : ∀ {v : Value} {ds : List Decl}, Sl (Cells declO) 3 (cmap w) v ds → Decls (cmap w) v ds := fun h => h.imp' fun m b o x hx => by
    obtain ⟨cs, rfl, h2⟩ := hx
    exact ⟨h2 0 _ rfl, h2 1 _ rfl, h2 2 _ rfl⟩
  exact ⟨[c0, c1, c2], ⟨d0, d1, g2⟩, rfl, ⟨_, _, _, rfl, dcl h0, dcl h1, h2⟩, fun g hg => (hok g hg).1, hso, z0, z1, z2, fun g hg => (hok g hg).2⟩
end
end Go.Proofs.YtmkpjiahkepigaaGreat
namespace Go.Proofs.YtmkpjiahkepigaaGreat
open Go Go.RowKit Go.ChangeShapes Go.WideShapes Go.ChangeAt
namespace SOwn7
set_option maxRecDepth 100000 in
theorem contract (H : Type) (enc : TypeId × Value → H) (W : World) (base : Nat) (args : Array Value) (ds gs : List (DataW H)) (before : List MemPlace)
    (hval : ∀ (j : Nat) t v, Tryz.f5.params[j]? = some t → args[j]? = some v → Value.okWide Tryz.prog W .any base t v)
    (hW : DataW.Whole enc Tryz.prog Tryz.f5.params.toList Rows.sourceOwnSpec.vars false W args.toList ds gs before) (hk : Rows.uptoSmall H (ds ++ gs) = true) (hwt : (DataW.weightsEach Tryz.prog (Tryz.f5.params.toList ++ (Rows.OpenSpec.upto Rows.sourceOwnSpec).bare.plain.varTypes Tryz.prog) (ds ++ gs)).all (· ≤ reachBytes) = true) :
    Calls Tryz.prog 5 args W fun e W' => ∃ v, e = .returned v ∧ Rows.sourceOwnSpec.post enc Tryz.prog Tryz.f5 false true false false W args v W' := by
  have hW' := hW
  obtain ⟨p, q, hA0, hV, rfl, hfz, hnd⟩ := hW
  have hA : DataW.TrodAll enc Tryz.prog W 0 (fun _ => true) true Tryz.f5.params.toList args.toList ds p := hA0
  have hA2 := hA
  rw [Tryz.params5] at hA hval
  obtain ⟨v0, vs0, d0, ds0, p0, q0, hargs, rfl, hp, h0, r0⟩ := trodAll_cons hA
  obtain ⟨v1, vs1, d1, ds1, p1, q1, rfl, rfl, hp1, h1, r1⟩ := trodAll_cons r0
  obtain ⟨rfl, rfl, hp9⟩ := trodAll_nil r1
  obtain rfl : args = #[v0, v1] := by cases args; simp_all
  obtain ⟨rfl, rfl⟩ := trodVars_none hV
  have hbulk := bulk_small hk
  obtain ⟨cs0, u0, rfl, hu0, hok0, hso0, hus0⟩ := open_unit_sz (hval 0 25 v0 rfl rfl) h0 (weights_first hwt)
  obtain ⟨A1, c1, l1, rfl, hv1, hi1, hl1⟩ := open_ints_s (hval 1 26 v1 rfl rfl) h1
  have hl1 : l1.length ≤ 1048576 := Nat.le_trans hl1 (Nat.le_trans (bulk_part (by simp)) hbulk)
  have hlt := fun x hx => hW'.lt x hx
  simp only [List.append_nil] at hW' hlt
  refine (sourceOwn_calls W cs0 u0 A1 c1 l1 hu0 hok0 hso0 hus0 hv1 hi1 hl1).mono fun e W' ⟨he, hb⟩ => ?_
  subst he
  exact ⟨_, rfl, post_below (pa := p) (pv := []) hW' (fun _ _ _ => trodAll_cons_mk (shut_bool Tryz.underlying4 _) trodAll_mk0)
    (fun sp hsp => trodAll_stays (by intro t ht; rw [Tryz.params5] at ht; exact all_again _ (by kernel_rfl) t ht) hA2 (fun x hx => hb.same (hlt x hx)) (fun x hx => hsp x hx)) (fun _ _ => rfl) (by simp) hb (ok_one (by kernel_rfl) rfl (okWide_bool_mk Tryz.underlying4 _))⟩
theorem laid_met (os : Os) : laidMet Tryz.prog Rows.sourceOwnUptoRow.laid ((laidWorld os).forCall (fun _ _ => 0) ⟨#[], #[.agg #[.slice none 0 0, .slice none 0 0, .slice none 0 0], .slice none 0 0], []⟩).memory :=
  ⟨[], rfl, List.nodup_nil, fun _ _ h => by cases h⟩
theorem reads (os : Os) {H : Type} (enc : TypeId × Value → H) : ∃ places, DataW.whole enc Tryz.prog ((laidWorld os).forCall (fun _ _ => 0) ⟨#[], #[.agg #[.slice none 0 0, .slice none 0 0, .slice none 0 0], .slice none 0 0], []⟩).memory Tryz.f5.params.toList Rows.sourceOwnSpec.vars false
    (#[.agg #[.slice none 0 0, .slice none 0 0, .slice none 0 0], .slice none 0 0] : Array Value).toList 8 = some ([.agg [.nil, .nil, .nil], .nil], [], places) :=
  ⟨[], by kernel_rfl⟩
set_option maxRecDepth 100000 in
theorem lifted (os : Os) (started : os.Started) (H : Type) (enc : TypeId × Value → H) (F : Stop.Interp) :
    ReturnsInHanded {} Tryz.checked os 5 .any ((Rows.OpenSpec.upto Rows.sourceOwnSpec).preRow enc Tryz.prog Tryz.f5 Rows.sourceOwnUptoRow.domain false Rows.sourceOwnUptoRow.laid) (((Rows.OpenSpec.upto Rows.sourceOwnSpec).at F).post enc Tryz.prog Tryz.f5 false true false false) := by
  obtain ⟨places, hx⟩ := reads os enc
  refine returnsInHanded_of_row (C := Tryz.checked) (s := Rows.OpenSpec.upto Rows.sourceOwnSpec) own_knob started (by kernel_rfl) Tryz.func5
    (witness_row_at (enc := enc) (C := Tryz.checked) false (laidWorld os) #[.agg #[.slice none 0 0, .slice none 0 0, .slice none 0 0], .slice none 0 0] rfl (by kernel_rfl) (by kernel_rfl) (by kernel_rfl)
      (OpenSpec.preRow_of_cond 8 hx (by kernel_rfl) (fun k hk => by injection hk with hk; subst hk; kernel_rfl) (by kernel_rfl) (laid_met os))) ?_
  intro W base args ds gs before hval hW _ hk hwt _ _ _
  exact contract H enc W base args ds gs before hval hW (hk _ rfl) hwt
theorem said : Rows.SourceOwnUptoSaid :=
  OpenClaim.holds_of_cond 5 Tryz.f5 rfl rfl rfl rfl rfl rfl rfl ⟨rfl, rfl, rfl, rfl, rfl⟩ rfl rfl rfl rfl rfl (by kernel_rfl) Tryz.func5 (by kernel_rfl)
    (of_decide_eq_true (by kernel_rfl)) (by unfold Func.isWrapper; first | (rw [if_pos (by decide +kernel)]; kernel_rfl) | (rw [if_neg (by decide +kernel)]; exact ⟨rfl, rfl⟩))
    (fun os started H enc _ F => by rw [OpenClaim.pre_eq_preRow]; exact lifted os started H enc F)
end SOwn7
/-- THE STATEMENT. -/
theorem sourceOwn_upto : Rows.SourceOwnUptoSaid := SOwn7.said
#print axioms sourceOwn_upto
end Go.Proofs.YtmkpjiahkepigaaGreat
