/- FencesAlone: whatever unit, thread, list of fences and node are given: where no racy load is open, a fence is needed just if it stands alone on some way; a way that is told is one. -/
import Derived.Test.YtffgnjgphkdodaaDoorD42
import Derived.Test.YtffgnjgphkdodaaDoorD19
import Derived.Test.YtffgnjgphkdodaaDoorD39
namespace Go.Proofs.YtffgnjgphkdodaaDoor
open Go Go.RowKit Go.ChangeShapes Go.WideShapes Go.ChangeAt
namespace fencesAlone
set_option maxRecDepth 100000 in
theorem ZBE (H:Type) (enc:TypeId × Value→H) (W:World) (base:Nat) (args:Array Value) (ds gs:List (DataW H)) (before:List MemPlace)
  (hval:∀ (j:Nat) t v,Tryd.f4.params[j]? = some t→args[j]? = some v→Value.okWide Tryd.prog W .any base t v)
  (hW:DataW.Whole enc Tryd.prog Tryd.f4.params.toList Rows.fencesAloneSpec.vars false W args.toList ds gs before) (hL:laidMetH Tryd.prog Rows.fencesAloneRow.laid W) :
  Calls Tryd.prog 4 args W fun e W'=>∃ v,e=.returned v∧Rows.fencesAloneSpec.post enc Tryd.prog Tryd.f4 false true false false W args v W':=by
 have hW':=hW
 obtain⟨p,q,hA0,hV,rfl,hfz,hnd⟩:=hW
 have hA:DataW.TrodAll enc Tryd.prog W 0 (fun _=>true) true Tryd.f4.params.toList args.toList ds p:=hA0
 have hA2:=hA
 rw[Tryd.params4] at hA hval
 obtain⟨v0,vs0,d0,ds0,p0,q0,hargs,rfl,hp,h0,r0⟩:=trodAll_cons hA
 obtain⟨v1,vs1,d1,ds1,p1,q1,rfl,rfl,hp1,h1,r1⟩:=trodAll_cons r0
 obtain⟨v2,vs2,d2,ds2,p2,q2,rfl,rfl,hp2,h2,r2⟩:=trodAll_cons r1
 obtain⟨v3,vs3,d3,ds3,p3,q3,rfl,rfl,hp3,h3,r3⟩:=trodAll_cons r2
 obtain⟨rfl,rfl,hp9⟩:=trodAll_nil r3
 obtain rfl:args=#[v0,v1,v2,v3]:=by cases args;simp_all
 obtain⟨rfl,rfl⟩:=trodVars_none hV
 obtain⟨cs,u,rfl,hu,hok⟩:=ZB6 (hval 0 25 v0 rfl rfl) h0
 obtain⟨n1,rfl⟩:=okWide_int Tryd.underlying3 (hval 1 3 v1 rfl rfl)
 obtain⟨l2,hv2,_hi2⟩:=ZDK (hval 2 39 v2 rfl rfl) h2
 obtain⟨n3,rfl⟩:=okWide_int Tryd.underlying3 (hval 3 3 v3 rfl rfl)
 have hlt:=fun x hx=>hW'.lt x hx
 simp only[List.append_nil] at hW' hlt
 have hT:Tab W:=ZGA hL
 refine(ZCW u cs n1 v2 l2 n3 W hT hu hok hv2).mono fun e W' ⟨he,hb⟩=>?_
 subst he
 exact⟨_,rfl,ZBX (pa:=p) (pv:=[]) hW' (fun _ _ _=>trodAll_cons_mk (shut_bool Tryd.underlying4 _) trodAll_mk0)
  (fun sp hsp=>Z9 (by intro t ht;rw[Tryd.params4] at ht;exact ZCB _ (by kernel_rfl) t ht) hA2 (fun x hx=>hb.same (hlt x hx)) (fun x hx=>hsp x hx)) (fun _ _=>rfl) (by simp) hb (ok_one (by kernel_rfl) rfl (okWide_bool_mk Tryd.underlying4 _))⟩
theorem ZBC (os:Os) : laidMet Tryd.prog Rows.fencesAloneRow.laid ((laidWorld os).forCall (fun _ _=>0) ⟨#[],#[.agg #[.slice none 0 0,.slice none 0 0,.slice none 0 0],.int .i64 0,.slice none 0 0,.int .i64 0],[]⟩).memory :=
 laidMet_of_run' 8 (by kernel_rfl) (by kernel_rfl)
theorem reads (os:Os) {H:Type} (enc:TypeId × Value→H) : ∃ places,DataW.whole enc Tryd.prog ((laidWorld os).forCall (fun _ _=>0) ⟨#[],#[.agg #[.slice none 0 0,.slice none 0 0,.slice none 0 0],.int .i64 0,.slice none 0 0,.int .i64 0],[]⟩).memory Tryd.f4.params.toList Rows.fencesAloneSpec.vars false
  (#[.agg #[.slice none 0 0,.slice none 0 0,.slice none 0 0],.int .i64 0,.slice none 0 0,.int .i64 0] : Array Value).toList 8=some ([.agg [.nil,.nil,.nil],.lit (.int .i64 0),.nil,.lit (.int .i64 0)],[],places) :=
 ⟨[],by kernel_rfl⟩
set_option maxRecDepth 100000 in
theorem ZDR (os:Os) (started:os.Started) (H:Type) (enc:TypeId × Value→H) (F:Stop.Interp) :
  ReturnsInHanded {} Tryd.checked os 4 .any ((OpenSpec.ofChange Rows.fencesAloneSpec).preRow enc Tryd.prog Tryd.f4 Rows.fencesAloneRow.domain false Rows.fencesAloneRow.laid) (((OpenSpec.ofChange Rows.fencesAloneSpec).at F).post enc Tryd.prog Tryd.f4 false true false false):=by
 obtain⟨places,hx⟩:=reads os enc
 refine returnsInHanded_of_row (C:=Tryd.checked) (s:=OpenSpec.ofChange Rows.fencesAloneSpec) ZCv started (by kernel_rfl) Tryd.func4
  (witness_row_at (enc:=enc) (C:=Tryd.checked) false (laidWorld os) #[.agg #[.slice none 0 0,.slice none 0 0,.slice none 0 0],.int .i64 0,.slice none 0 0,.int .i64 0] rfl (by kernel_rfl) (by kernel_rfl) (by kernel_rfl)
   (OpenSpec.preRow_of_cond 8 hx (by kernel_rfl) (fun k hk=>by cases hk) (by kernel_rfl) (ZBC os))) ?_
 intro W base args ds gs before hval hW _ _ _ hL _ _
 exact ZBE H enc W base args ds gs before hval hW hL
theorem said:Rows.FencesAloneSaid :=
 OpenClaim.holds_of_cond 4 Tryd.f4 rfl rfl rfl rfl rfl rfl rfl ⟨rfl,rfl,rfl,rfl,rfl⟩ rfl rfl rfl rfl rfl (by kernel_rfl) Tryd.func4 (by kernel_rfl)
  (of_decide_eq_true (by kernel_rfl)) (by unfold Func.isWrapper;first | (rw[if_pos (by decide +kernel)];kernel_rfl) | (rw[if_neg (by decide +kernel)];exact⟨rfl,rfl⟩))
  (fun os started H enc _ F=>by rw[OpenClaim.pre_eq_preRow];exact ZDR os started H enc F)
theorem plain (f:FuncId) (fn:Func) (hf : Tryd.pinned.checked.prog.funcNamed "stile/stilelaw12.FencesAlone" = some f) (hfn : Tryd.pinned.checked.prog.funcs[f]? = some fn) :
  true = Tryd.pinned.checked.prog.looks []∧∀ (j:Nat) t,fn.params[j]? = some t→Tryd.pinned.checked.prog.wantsStandIn t=false:=by
 obtain rfl:f = 4:=Option.some.inj ((show Tryd.prog.funcNamed "stile/stilelaw12.FencesAlone" = some 4 by kernel_rfl).symm.trans hf) |>.symm
 obtain rfl:fn = Tryd.f4:=(Option.some.inj (Tryd.func4.symm.trans hfn)).symm
 refine⟨by kernel_rfl,fun j t ht=>?_⟩
 rw[Tryd.params4] at ht
 have hm:=Array.mem_of_getElem? ht
 simp at hm
 first | (rcases hm with rfl | rfl | rfl) | (rcases hm with rfl | rfl | rfl | rfl)
 all_goals (refine(?_ : Tryd.prog.wantsStandIn _=false);kernel_rfl)
end fencesAlone
theorem fencesAlone_card:Rows.FencesAloneCardSaid :=
 Claim7.holds_tied_plain_at .later [] _ _ _ _ fencesAlone.said (fun _ h=>by cases h) (by kernel_rfl) (fun _ h=>by cases h) fencesAlone_row_tie rfl ⟨rfl,rfl⟩ (by kernel_rfl) rfl fencesAlone.plain (by kernel_rfl)
#print axioms fencesAlone_card
end Go.Proofs.YtffgnjgphkdodaaDoor
