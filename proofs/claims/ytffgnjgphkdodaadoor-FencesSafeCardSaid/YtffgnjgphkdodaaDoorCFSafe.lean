/- FencesSafe: whatever unit is given: with fences as they are placed no racy load is open; a thread without pairs has none; they stand ahead of racy loads alone; merged ones are among those that are not, and cost no more. -/
import Derived.Test.YtffgnjgphkdodaaDoorD46
import Derived.Test.YtffgnjgphkdodaaDoorD19
namespace Go.Proofs.YtffgnjgphkdodaaDoor
open Go Go.RowKit Go.ChangeShapes Go.WideShapes Go.ChangeAt
namespace fencesSafe
set_option maxRecDepth 100000 in
theorem ZBE (H:Type) (enc:TypeId × Value→H) (W:World) (base:Nat) (args:Array Value) (ds gs:List (DataW H)) (before:List MemPlace)
  (hval:∀ (j:Nat) t v,Tryd.f6.params[j]? = some t→args[j]? = some v→Value.okWide Tryd.prog W .any base t v)
  (hW:DataW.Whole enc Tryd.prog Tryd.f6.params.toList Rows.fencesSafeSpec.vars false W args.toList ds gs before) (hL:laidMetH Tryd.prog Rows.fencesSafeRow.laid W) :
  Calls Tryd.prog 6 args W fun e W'=>∃ v,e=.returned v∧Rows.fencesSafeSpec.post enc Tryd.prog Tryd.f6 false true false false W args v W':=by
 have hW':=hW
 obtain⟨p,q,hA0,hV,rfl,hfz,hnd⟩:=hW
 have hA:DataW.TrodAll enc Tryd.prog W 0 (fun _=>true) true Tryd.f6.params.toList args.toList ds p:=hA0
 have hA2:=hA
 rw[Tryd.params6] at hA hval
 obtain⟨v0,vs0,d0,ds0,p0,q0,hargs,rfl,hp,h0,r0⟩:=trodAll_cons hA
 obtain⟨rfl,rfl,hp9⟩:=trodAll_nil r0
 obtain rfl:args=#[v0]:=by cases args;simp_all
 obtain⟨rfl,rfl⟩:=trodVars_none hV
 obtain⟨cs,u,rfl,hu,hok⟩:=ZB6 (hval 0 25 v0 rfl rfl) h0
 have hlt:=fun x hx=>hW'.lt x hx
 simp only[List.append_nil] at hW' hlt
 have hT:Tab W:=ZGA hL
 refine(ZCo u cs  W hT hu hok).mono fun e W' ⟨he,hb⟩=>?_
 subst he
 exact⟨_,rfl,ZBX (pa:=p) (pv:=[]) hW' (fun _ _ _=>trodAll_cons_mk (shut_bool Tryd.underlying4 _) trodAll_mk0)
  (fun sp hsp=>Z9 (by intro t ht;rw[Tryd.params6] at ht;exact ZCB _ (by kernel_rfl) t ht) hA2 (fun x hx=>hb.same (hlt x hx)) (fun x hx=>hsp x hx)) (fun _ _=>rfl) (by simp) hb (ok_one (by kernel_rfl) rfl (okWide_bool_mk Tryd.underlying4 _))⟩
theorem ZBC (os:Os) : laidMet Tryd.prog Rows.fencesSafeRow.laid ((laidWorld os).forCall (fun _ _=>0) ⟨#[],#[.agg #[.slice none 0 0,.slice none 0 0,.slice none 0 0]],[]⟩).memory :=
 laidMet_of_run' 8 (by kernel_rfl) (by kernel_rfl)
theorem reads (os:Os) {H:Type} (enc:TypeId × Value→H) : ∃ places,DataW.whole enc Tryd.prog ((laidWorld os).forCall (fun _ _=>0) ⟨#[],#[.agg #[.slice none 0 0,.slice none 0 0,.slice none 0 0]],[]⟩).memory Tryd.f6.params.toList Rows.fencesSafeSpec.vars false
  (#[.agg #[.slice none 0 0,.slice none 0 0,.slice none 0 0]] : Array Value).toList 8=some ([.agg [.nil,.nil,.nil]],[],places) :=
 ⟨[],by kernel_rfl⟩
set_option maxRecDepth 100000 in
theorem ZDR (os:Os) (started:os.Started) (H:Type) (enc:TypeId × Value→H) (F:Stop.Interp) :
  ReturnsInHanded {} Tryd.checked os 6 .any ((OpenSpec.ofChange Rows.fencesSafeSpec).preRow enc Tryd.prog Tryd.f6 Rows.fencesSafeRow.domain false Rows.fencesSafeRow.laid) (((OpenSpec.ofChange Rows.fencesSafeSpec).at F).post enc Tryd.prog Tryd.f6 false true false false):=by
 obtain⟨places,hx⟩:=reads os enc
 refine returnsInHanded_of_row (C:=Tryd.checked) (s:=OpenSpec.ofChange Rows.fencesSafeSpec) ZCv started (by kernel_rfl) Tryd.func6
  (witness_row_at (enc:=enc) (C:=Tryd.checked) false (laidWorld os) #[.agg #[.slice none 0 0,.slice none 0 0,.slice none 0 0]] rfl (by kernel_rfl) (by kernel_rfl) (by kernel_rfl)
   (OpenSpec.preRow_of_cond 8 hx (by kernel_rfl) (fun k hk=>by cases hk) (by kernel_rfl) (ZBC os))) ?_
 intro W base args ds gs before hval hW _ _ _ hL _ _
 exact ZBE H enc W base args ds gs before hval hW hL
theorem said:Rows.FencesSafeSaid :=
 OpenClaim.holds_of_cond 6 Tryd.f6 rfl rfl rfl rfl rfl rfl rfl ⟨rfl,rfl,rfl,rfl,rfl⟩ rfl rfl rfl rfl rfl (by kernel_rfl) Tryd.func6 (by kernel_rfl)
  (of_decide_eq_true (by kernel_rfl)) (by unfold Func.isWrapper;first | (rw[if_pos (by decide +kernel)];kernel_rfl) | (rw[if_neg (by decide +kernel)];exact⟨rfl,rfl⟩))
  (fun os started H enc _ F=>by rw[OpenClaim.pre_eq_preRow];exact ZDR os started H enc F)
theorem plain (f:FuncId) (fn:Func) (hf : Tryd.pinned.checked.prog.funcNamed "stile/stilelaw12.FencesSafe" = some f) (hfn : Tryd.pinned.checked.prog.funcs[f]? = some fn) :
  true = Tryd.pinned.checked.prog.looks []∧∀ (j:Nat) t,fn.params[j]? = some t→Tryd.pinned.checked.prog.wantsStandIn t=false:=by
 obtain rfl:f = 6:=Option.some.inj ((show Tryd.prog.funcNamed "stile/stilelaw12.FencesSafe" = some 6 by kernel_rfl).symm.trans hf) |>.symm
 obtain rfl:fn = Tryd.f6:=(Option.some.inj (Tryd.func6.symm.trans hfn)).symm
 refine⟨by kernel_rfl,fun j t ht=>?_⟩
 rw[Tryd.params6] at ht
 have hm:=Array.mem_of_getElem? ht
 simp at hm
 subst hm
 exact(show Tryd.prog.wantsStandIn 25 = false by kernel_rfl)
end fencesSafe
theorem fencesSafe_card:Rows.FencesSafeCardSaid :=
 Claim7.holds_tied_plain_at .later [] _ _ _ _ fencesSafe.said (fun _ h=>by cases h) (by kernel_rfl) (fun _ h=>by cases h) fencesSafe_row_tie rfl ⟨rfl,rfl⟩ (by kernel_rfl) rfl fencesSafe.plain (by kernel_rfl)
#print axioms fencesSafe_card
end Go.Proofs.YtffgnjgphkdodaaDoor
