/- FencesPlaces: whatever unit is given, with merge or without: fences.Place tells what the document's own answer tells, and the unit stays. -/
import Derived.Test.YtffgnjgphkdodaaGreatDoorR45
import Derived.Test.YtffgnjgphkdodaaGreatDoorR30
namespace Go.Proofs.YtffgnjgphkdodaaGreatDoor
open Go Go.RowKit Go.ChangeShapes Go.WideShapes Go.ChangeAt
namespace fencesPlaces
set_option maxRecDepth 100000 in
theorem ZFR (H:Type) (enc:TypeId × Value→H) (W:World) (base:Nat) (args:Array Value) (ds gs:List (DataW H)) (before:List MemPlace)
  (hval:∀ (j:Nat) t v,Tryz.f7.params[j]? = some t→args[j]? = some v→Value.okWide Tryz.prog W .any base t v)
  (hW:DataW.Whole enc Tryz.prog Tryz.f7.params.toList Rows.fencesPlacesSpec.vars false W args.toList ds gs before) (hL:laidMetH Tryz.prog Rows.fencesPlacesRow.laid W) (hwt:(DataW.weightsEach Tryz.prog (Tryz.f7.params.toList ++ (OpenSpec.ofChange Rows.fencesPlacesSpec).bare.plain.varTypes Tryz.prog) (ds ++ gs)).all (·≤reachBytes)=true) :
  Calls Tryz.prog 7 args W fun e W'=>∃ v,e=.returned v∧Rows.fencesPlacesSpec.post enc Tryz.prog Tryz.f7 false true false false W args v W':=by
 have hW':=hW
 obtain⟨p,q,hA0,hV,rfl,hfz,hnd⟩:=hW
 have hA:DataW.TrodAll enc Tryz.prog W 0 (fun _=>true) true Tryz.f7.params.toList args.toList ds p:=hA0
 have hA2:=hA
 rw[Tryz.params7] at hA hval
 obtain⟨v0,vs0,d0,ds0,p0,q0,hargs,rfl,hp,h0,r0⟩:=trodAll_cons hA
 obtain⟨v1,vs1,d1,ds1,p1,q1,rfl,rfl,hp1,h1,r1⟩:=trodAll_cons r0
 obtain⟨rfl,rfl,hp9⟩:=trodAll_nil r1
 obtain rfl:args=#[v0,v1]:=by cases args;simp_all
 obtain⟨rfl,rfl⟩:=trodVars_none hV
 obtain⟨cs,u,rfl,hu,hok,hz⟩:=ZHz (hval 0 25 v0 rfl rfl) h0 (ZB6 hwt)
 obtain⟨n1,rfl⟩:=okWide_bool Tryz.underlying4 (hval 1 4 v1 rfl rfl)
 have hlt:=fun x hx=>hW'.lt x hx
 simp only[List.append_nil] at hW' hlt
 have hT:Tab W:=ZKS hL
 refine(ZCM u cs n1 W hT hu hok hz).mono fun e W' ⟨he,hb⟩=>?_
 subst he
 exact⟨_,rfl,ZET (pa:=p) (pv:=[]) hW' (fun _ _ _=>trodAll_cons_mk (shut_bool Tryz.underlying4 _) trodAll_mk0)
  (fun sp hsp=>ZAz (by intro t ht;rw[Tryz.params7] at ht;exact ZGV _ (by kernel_rfl) t ht) hA2 (fun x hx=>hb.same (hlt x hx)) (fun x hx=>hsp x hx)) (fun _ _=>rfl) (by simp) hb (ok_one (by kernel_rfl) rfl (okWide_bool_mk Tryz.underlying4 _))⟩
theorem ZFB (os:Os) : laidMet Tryz.prog Rows.fencesPlacesRow.laid ((laidWorld os).forCall (fun _ _=>0) ⟨#[],#[.agg #[.slice none 0 0,.slice none 0 0,.slice none 0 0],.bool false],[]⟩).memory :=
 laidMet_of_run' 8 (by kernel_rfl) (by kernel_rfl)
theorem reads (os:Os) {H:Type} (enc:TypeId × Value→H) : ∃ places,DataW.whole enc Tryz.prog ((laidWorld os).forCall (fun _ _=>0) ⟨#[],#[.agg #[.slice none 0 0,.slice none 0 0,.slice none 0 0],.bool false],[]⟩).memory Tryz.f7.params.toList Rows.fencesPlacesSpec.vars false
  (#[.agg #[.slice none 0 0,.slice none 0 0,.slice none 0 0],.bool false] : Array Value).toList 8=some ([.agg [.nil,.nil,.nil],.lit (.bool false)],[],places) :=
 ⟨[],by kernel_rfl⟩
set_option maxRecDepth 100000 in
theorem ZI6 (os:Os) (started:os.Started) (H:Type) (enc:TypeId × Value→H) (F:Stop.Interp) :
  ReturnsInHanded {} Tryz.checked os 7 .any ((OpenSpec.ofChange Rows.fencesPlacesSpec).preRow enc Tryz.prog Tryz.f7 Rows.fencesPlacesRow.domain false Rows.fencesPlacesRow.laid) (((OpenSpec.ofChange Rows.fencesPlacesSpec).at F).post enc Tryz.prog Tryz.f7 false true false false):=by
 obtain⟨places,hx⟩:=reads os enc
 refine returnsInHanded_of_row (C:=Tryz.checked) (s:=OpenSpec.ofChange Rows.fencesPlacesSpec) ZHO started (by kernel_rfl) Tryz.func7
  (witness_row_at (enc:=enc) (C:=Tryz.checked) false (laidWorld os) #[.agg #[.slice none 0 0,.slice none 0 0,.slice none 0 0],.bool false] rfl (by kernel_rfl) (by kernel_rfl) (by kernel_rfl)
   (OpenSpec.preRow_of_cond 8 hx (by kernel_rfl) (fun k hk=>by cases hk) (by kernel_rfl) (ZFB os))) ?_
 intro W base args ds gs before hval hW _ _ hwt hL _ _
 exact ZFR H enc W base args ds gs before hval hW hL hwt
theorem said:Rows.FencesPlacesSaid :=
 OpenClaim.holds_of_cond 7 Tryz.f7 rfl rfl rfl rfl rfl rfl rfl ⟨rfl,rfl,rfl,rfl,rfl⟩ rfl rfl rfl rfl rfl (by kernel_rfl) Tryz.func7 (by kernel_rfl)
  (of_decide_eq_true (by kernel_rfl)) (by unfold Func.isWrapper;first | (rw[if_pos (by decide +kernel)];kernel_rfl) | (rw[if_neg (by decide +kernel)];exact⟨rfl,rfl⟩))
  (fun os started H enc _ F=>by rw[OpenClaim.pre_eq_preRow];exact ZI6 os started H enc F)
theorem plain (f:FuncId) (fn:Func) (hf : Tryz.pinned.checked.prog.funcNamed "stile/stilelaw12.FencesPlaces" = some f) (hfn : Tryz.pinned.checked.prog.funcs[f]? = some fn) :
  true = Tryz.pinned.checked.prog.looks []∧∀ (j:Nat) t,fn.params[j]? = some t→Tryz.pinned.checked.prog.wantsStandIn t=false:=by
 obtain rfl:f = 7:=Option.some.inj ((show Tryz.prog.funcNamed "stile/stilelaw12.FencesPlaces" = some 7 by kernel_rfl).symm.trans hf) |>.symm
 obtain rfl:fn = Tryz.f7:=(Option.some.inj (Tryz.func7.symm.trans hfn)).symm
 refine⟨by kernel_rfl,fun j t ht=>?_⟩
 rw[Tryz.params7] at ht
 have hm:=Array.mem_of_getElem? ht
 simp at hm
 rcases hm with rfl | rfl
 ·exact(show Tryz.prog.wantsStandIn 25 = false by kernel_rfl)
 ·exact(show Tryz.prog.wantsStandIn 4 = false by kernel_rfl)
end fencesPlaces
theorem fencesPlaces_card:Rows.FencesPlacesCardSaid :=
 Claim7.holds_tied_plain_at .later [] _ _ _ _ fencesPlaces.said (fun _ h=>by cases h) (by kernel_rfl) (fun _ h=>by cases h) fencesPlaces_row_tie rfl ⟨rfl,rfl⟩ (by kernel_rfl) rfl fencesPlaces.plain (by kernel_rfl)
#print axioms fencesPlaces_card
end Go.Proofs.YtffgnjgphkdodaaGreatDoor
