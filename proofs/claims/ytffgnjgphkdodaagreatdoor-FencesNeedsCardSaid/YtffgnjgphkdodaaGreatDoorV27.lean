import Derived.Test.YtffgnjgphkdodaaGreatDoorV26
import Derived.Test.YtffgnjgphkdodaaGreatDoorV20
namespace Go.Proofs.YtffgnjgphkdodaaGreatDoor
open Go Go.RowKit
noncomputable def clsL (u:Unit_) : List Cls:=(List.range u.shared.length).map fun x:Nat=>classF u (x:Int)
theorem ZFl (u:Unit_) (cs:List Value) (w:World) (hu:UnitV (cmap w) cs u) (hok:UOk u) (hc:checkF u≠none) :
  Calls Tryz.prog 90 #[.agg cs.toArray] w fun e w'=>e=.returned (.tuple #[.slice none 0 0,.int .i64 60])∧Below w.heap.size w w' :=
 (ZAg u cs w hu hok).mono fun e w' h=>by
  rcases h with⟨h1,-⟩ | ⟨-,h1,h2⟩
  ·exact absurd h1 hc
  ·exact⟨h1,h2⟩
theorem ZE1 (u:Unit_) (cs:List Value) (w:World) (hu:UnitV (cmap w) cs u) (hok:UOk u) (hc:checkF u=none) :
  Calls Tryz.prog 90 #[.agg cs.toArray] w fun e w'=>∃ v,e=.returned (.tuple #[v,.int .i64 0])∧Clss (part w' w.heap.size w'.heap.size) v (clsL u)∧Below w.heap.size w w' :=
 (ZAg u cs w hu hok).mono fun e w' h=>by
  rcases h with⟨-,h⟩ | ⟨h1,-,-⟩
  ·exact h
  ·exact absurd hc h1
set_option maxRecDepth 100000 in
set_option maxHeartbeats 1000000 in
theorem ZCT (u:Unit_) (cs:List Value) (t:Int) (w:World) (hu:UnitV (cmap w) cs u) (hok:UOk u) :
  Calls Tryz.prog 51 #[.agg cs.toArray,.int .i64 t] w fun e w'=>∃ v,e=.returned (.tuple #[v,.int .i64 (askE u t)])∧(askE u t=0→Clss (part w' w.heap.size w'.heap.size) v (clsL u))∧Below w.heap.size w w':=by
 have HC1:=Hd_ fun w1 (h:Below w.heap.size w w1)=>ZFl u cs w1 (hu.mono (ZA h)) hok
 have HC2:=Hd_ fun w1 (h:Below w.heap.size w w1)=>ZE1 u cs w1 (hu.mono (ZA h)) hok
 obtain⟨sv,lv,gv,rfl,-,-,hgs⟩:=hu
 obtain⟨gA,gc,rfl,-⟩:=id hgs
 have hgl:=hgs.len.2.2
 have hbx:=Blk.new w 25 [sv,lv,.slice gA u.graphs.length gc]
 have hb0:=ZC w (.cells #[sv,lv,.slice gA u.graphs.length gc] 25)
 have HBX:=Hd_ (And.intro hbx hb0)
 clear hbx hb0 hgs
 by_cases hc:checkF u=none
 ·have HCC:=Hd_ hc
  clear hc
  by_cases h0:t < 0
  ·have d0:decide (t < 0)=true:=decide_eq_true h0
   have hE:=Zz (u:=u) (t:=t) HCC.out (by omega)
   rw[hE]
   clear hE
   go_enter Tryz.func51,Tryz.ntmps51
   go_wp2_with (first
    | (go_at_call 90
       refine(HC2.out _ HBX.out.2 HCC.out).mono ?_
       rintro e w1 ⟨v1,rfl,hv1,hb1⟩
       have HB1:=Hd_ (HBX.out.2.trans (hb1.mono HBX.out.2.size))
       clear hb1 hv1))
   go_ret2
   exact⟨.slice none 0 0,rfl,fun h=>absurd h (by decide),HB1.out⟩
  ·have d0:decide (t < 0)=false:=decide_eq_false h0
   have h00:0≤t:=by omega
   by_cases h1:t < u.graphs.length
   ·have d1:decide ((u.graphs.length:Int)≤t)=false:=decide_eq_false (by omega)
    have hE:=ZCJ (u:=u) (t:=t) HCC.out ⟨h00,h1⟩
    rw[hE]
    clear hE
    go_enter Tryz.func51,Tryz.ntmps51
    go_wp2_with (first
     | (go_at_call 90
        refine(HC2.out _ HBX.out.2 HCC.out).mono ?_
        rintro e w1 ⟨v1,rfl,hv1,hb1⟩
        have c2:=(HBX.out.1.below hb1 HBX.out.1.lt).cell 2
        have HB1:=Hd_ (And.intro hv1 (HBX.out.2.trans (hb1.mono HBX.out.2.size)))
        clear hb1 hv1))
    go_ret2
    exact⟨v1,rfl,fun _=>HB1.out.1.mono (Zh (by have:=HBX.out.2.size;omega) (Nat.le_refl _)),HB1.out.2⟩
   ·have d1:decide ((u.graphs.length:Int)≤t)=true:=decide_eq_true (by omega)
    have hE:=Zz (u:=u) (t:=t) HCC.out (by omega)
    rw[hE]
    clear hE
    go_enter Tryz.func51,Tryz.ntmps51
    go_wp2_with (first
     | (go_at_call 90
        refine(HC2.out _ HBX.out.2 HCC.out).mono ?_
        rintro e w1 ⟨v1,rfl,hv1,hb1⟩
        have c2:=(HBX.out.1.below hb1 HBX.out.1.lt).cell 2
        have HB1:=Hd_ (HBX.out.2.trans (hb1.mono HBX.out.2.size))
        clear hb1 hv1))
    go_ret2
    exact⟨.slice none 0 0,rfl,fun h=>absurd h (by decide),HB1.out⟩
 ·have hE:=ZCu (u:=u) (t:=t) hc
  rw[hE]
  have HCC:=Hd_ hc
  clear hc hE
  go_enter Tryz.func51,Tryz.ntmps51
  go_wp2_with (first
   | (go_at_call 90
      refine(HC1.out _ HBX.out.2 HCC.out).mono ?_
      rintro e w1 ⟨rfl,hb1⟩
      have HB1:=Hd_ (HBX.out.2.trans (hb1.mono HBX.out.2.size))
      clear hb1))
  go_ret2
  exact⟨.slice none 0 0,rfl,fun h=>absurd h (by decide),HB1.out⟩
def slRo:List Nat:=[29,30,31,32,33,34,6,7]
theorem ZS {w w':World} {base:Nat} {e:TypeId} {size n:Nat} {v:Value} {xs:List Value} (h:w.ownsRow base e size v n xs) (hb:Below w.heap.size w w') : w'.ownsRow base e size v n xs :=
 h.kept (row:=none) ⟨hb.os,hb.tape,hb.output,hb.size,fun k hk _=>hb.block k hk⟩ (by
  cases hv:v.ownBlock with
  | none=>exact .inl rfl
  | some b=>exact .inr (by simp))
def srO (base:Nat) (e:TypeId) (n:Nat) (xs:List Value) : SR:=⟨fun w v=>w.ownsRow base e 1 v n xs,fun hb h=>ZS h hb⟩
theorem Zj {w:World} {b n:Nat} {t:TypeId} {v:Value} {l:List Int} (h:w.ownsRow b t 1 v n (ints l)) : Ints (cmap w) v l :=
 (Z4 (f:=fun x:Int=>Value.int .i64 x) (R:=IntC) (fun _ _ _ _ h=>h) h (Nat.le_refl _) (Nat.le_refl _)).mono (ZU _ _ _)
theorem ZFP (g:Graph) (t F:List Int) : (openG g t F).length=g.nodes.length:=by simp[openG]
set_option maxRecDepth 100000 in
set_option maxHeartbeats 2000000 in
theorem ZFx (u:Unit_) (cs:List Value) (t:Int) (v:Value) (F:List Int) (w:World) (hu:UnitV (cmap w) cs u) (hok:UOk u) (hF:Ints (cmap w) v F) :
  Calls Tryz.prog 12 #[.agg cs.toArray,.int .i64 t,v] w (OpenPost u t F w):=by
 have HAS:=Hd_ fun w1 (h:Below w.heap.size w w1)=>ZCT u cs t w1 (hu.mono (ZA h)) hok
 obtain⟨sv,lv,gv,rfl,-,-,hgs⟩:=hu
 obtain⟨gA,gc,rfl,-⟩:=id hgs
 have hgl:=hgs.len.2.2
 have hbx:=Blk.new w 25 [sv,lv,.slice gA u.graphs.length gc]
 have hb0:=ZC w (.cells #[sv,lv,.slice gA u.graphs.length gc] 25)
 have HBX:=Hd_ (And.intro hbx hb0)
 have HG:=Hd_ hgs
 clear hbx hb0 hgs
 by_cases hE:askE u t=0
 ·obtain⟨hc,h0,h1⟩:=Z3 hE
  obtain⟨tn,rfl⟩:=Int.eq_ofNat_of_zero_le h0
  obtain⟨g,hg⟩ : ∃ g,u.graphs[tn]? = some g:=⟨_,List.getElem?_eq_getElem (by omega)⟩
  have hrg:=(ZR hc).graphs g (List.mem_of_getElem? hg)
  obtain⟨gb,go,rfl,gcs,hgv0,hgc⟩:=HG.out.at_ hg
  have hor:openR u (tn:Int) F=if fenB g.nodes.length (-1) F then (openG g (stL u g) F,0) else ([],110):=by
   unfold openR
   rw[if_pos hE,Int.toNat_natCast,hg]
  rw[hE] at HAS
  have HRT:=Hd_ fun w1 (h:Below w.heap.size w w1)=>ZBp g gcs v F w1 (hgv0.mono (ZA h)) (hF.mono (ZA h))
  have hst:=fun (cv:Value) w1 (h:Below w.heap.size w w1) (hcl:Clss (cmap w1) cv (clsL u))=>ZEg u g gcs cv w1 hrg (hgv0.mono (ZA h)) hcl
  have hsp:=fun w1 (x:Value) (h:Below w.heap.size w w1) (hx:Ints (cmap w1) x (stL u g))=>ZEh g gcs x (stL u g) v F w1 hrg.whole (hgv0.mono (ZA h)) hx (fun k hk=>ZFE hk) (by have:=ZBH u g g.nodes.length;have:=hrg.whole.most;unfold stL;omega) (hF.mono (ZA h))
  obtain⟨nv,rfl,hnv⟩:=hgv0
  obtain⟨nA,nc,rfl,-⟩:=id hnv
  obtain⟨fA,fc,rfl,-⟩:=id hF
  obtain⟨N,HN⟩ : ∃ N,Hid (g.nodes.length=N):=⟨_,rfl⟩
  rw[HN.out] at hgc HRT hst hsp hor
  have HST:=Hd_ hst
  have HSP:=Hd_ hsp
  have HGD:=Hd_ hgc
  have HOR:=Hd_ hor
  have h1':(tn:Int) < u.graphs.length:=h1
  have hld:∀ w1,Below w.heap.size w w1→∀ j x,([.string g.name,.int .i64 g.locals,.int .i64 g.slots,.slice nA N nc] : List Value)[j]? = some x→w1.cell? ⟨gb,go+tn * 4+j,none⟩=some x:=fun w1 hb j x hj=>ZA hb _ _ _ (HGD.out j x hj)
  have HLD:=Hd_ hld
  clear hE hc hg hrg hgc hor h1 hF hnv hst hsp hld
  cases hfb:fenB N (-1) F with
  | false =>
   rw[hfb] at HOR HRT
   clear hfb
   go_enter Tryz.func12,Tryz.ntmps12
   go_wp2_with (first
    | (go_at_call 51
       refine(HAS.out _ HBX.out.2).mono ?_
       rintro e w1 ⟨cv,rfl,hcl,hb1⟩
       have hcl':=(hcl rfl).mono (ZU _ _ _)
       obtain⟨cA,cc,rfl,-⟩:=id hcl'
       have HU1:=Hd_ (HBX.out.1.below hb1 HBX.out.1.lt)
       have c2:=HU1.out.cell 2
       have HB1:=Hd_ (HBX.out.2.trans (hb1.mono HBX.out.2.size))
       have HCL:=Hd_ hcl'
       clear hb1 hcl hcl')
    | (refine ZB rfl 69 _ rfl gb (go+tn * 4) rfl _ _ (HLD.out _ HB1.out) Tryz.underlying69 rfl (by kernel_rfl) ?_)
    | (refine ZI 69 rfl ?_))
   refine Stop.intro ?_
   refine wpList_store_row rfl 69 _ _ rfl w1.heap.size #[.string g.name,.int .i64 g.locals,.int .i64 g.slots,.slice nA N nc] rfl rfl 69 _ (heap_alloc_new _ _) (by kernel_rfl) rfl (by simp[Value.oneCell']) ?_
   rw[World.setRow_alloc_new]
   obtain⟨X,hX⟩ : ∃ X,w1.heap.size=X:=⟨_,rfl⟩
   have hxb0:=Blk.new w1 69 [.string g.name,.int .i64 g.locals,.int .i64 g.slots,.slice nA N nc]
   have HA1:=Hd_ (HB1.out.alloc HB1.out.size (.cells #[.string g.name,.int .i64 g.locals,.int .i64 g.slots,.slice nA N nc] 69))
   obtain⟨wA,hwA⟩ : ∃ wA,w1.alloc (.cells #[.string g.name,.int .i64 g.locals,.int .i64 g.slots,.slice nA N nc] 69)=wA:=⟨_,rfl⟩
   have hcA:Below w1.heap.size w1 wA:=by rw[← hwA];exact ZC _ _
   have HXA:Hid (Blk wA X 69 [.string g.name,.int .i64 g.locals,.int .i64 g.slots,.slice nA N nc]):=Hd_ (by rw[← hwA,← hX];exact hxb0)
   rw[hwA] at HA1 ⊢
   have HCA:=Hd_ (HCL.out.mono (ZA hcA))
   rw[hX]
   have x0:=HXA.out.cell 0
   have x1:=HXA.out.cell 1
   have x2:=HXA.out.cell 2
   have x3:=HXA.out.cell 3
   clear hxb0 hwA hcA c2 HCL
   go_wp2_with (first
    | (go_at_call 52
       refine(HRT.out _ HA1.out).mono ?_
       rintro e w2 ⟨rfl,hb2⟩
       have HB2:=Hd_ (HA1.out.trans (hb2.mono HA1.out.size))
       have HX2:=Hd_ (And.intro hb2 (HXA.out.below hb2 HXA.out.lt))
       clear hb2))
   go_ret2
   exact⟨.slice none 0 0,by rw[HOR.out];rfl,by rw[HOR.out];exact World.ownsRow_nil _ _ _ _,HB2.out⟩
  | true =>
   rw[hfb] at HOR HRT
   clear hfb
   go_enter Tryz.func12,Tryz.ntmps12
   go_wp2_with (first
    | (go_at_call 51
       refine(HAS.out _ HBX.out.2).mono ?_
       rintro e w1 ⟨cv,rfl,hcl,hb1⟩
       have hcl':=(hcl rfl).mono (ZU _ _ _)
       obtain⟨cA,cc,rfl,-⟩:=id hcl'
       have HU1:=Hd_ (HBX.out.1.below hb1 HBX.out.1.lt)
       have c2:=HU1.out.cell 2
       have HB1:=Hd_ (HBX.out.2.trans (hb1.mono HBX.out.2.size))
       have HCL:=Hd_ hcl'
       clear hb1 hcl hcl')
    | (refine ZB rfl 69 _ rfl gb (go+tn * 4) rfl _ _ (HLD.out _ HB1.out) Tryz.underlying69 rfl (by kernel_rfl) ?_)
    | (refine ZI 69 rfl ?_))
   refine Stop.intro ?_
   refine wpList_store_row rfl 69 _ _ rfl w1.heap.size #[.string g.name,.int .i64 g.locals,.int .i64 g.slots,.slice nA N nc] rfl rfl 69 _ (heap_alloc_new _ _) (by kernel_rfl) rfl (by simp[Value.oneCell']) ?_
   rw[World.setRow_alloc_new]
   obtain⟨X,hX⟩ : ∃ X,w1.heap.size=X:=⟨_,rfl⟩
   have hxb0:=Blk.new w1 69 [.string g.name,.int .i64 g.locals,.int .i64 g.slots,.slice nA N nc]
   have HA1:=Hd_ (HB1.out.alloc HB1.out.size (.cells #[.string g.name,.int .i64 g.locals,.int .i64 g.slots,.slice nA N nc] 69))
   obtain⟨wA,hwA⟩ : ∃ wA,w1.alloc (.cells #[.string g.name,.int .i64 g.locals,.int .i64 g.slots,.slice nA N nc] 69)=wA:=⟨_,rfl⟩
   have hcA:Below w1.heap.size w1 wA:=by rw[← hwA];exact ZC _ _
   have HXA:Hid (Blk wA X 69 [.string g.name,.int .i64 g.locals,.int .i64 g.slots,.slice nA N nc]):=Hd_ (by rw[← hwA,← hX];exact hxb0)
   rw[hwA] at HA1 ⊢
   have HCA:=Hd_ (HCL.out.mono (ZA hcA))
   rw[hX]
   have x0:=HXA.out.cell 0
   have x1:=HXA.out.cell 1
   have x2:=HXA.out.cell 2
   have x3:=HXA.out.cell 3
   clear hxb0 hwA hcA c2 HCL
   go_wp2_with (first
    | (go_at_call 52
       refine(HRT.out _ HA1.out).mono ?_
       rintro e w2 ⟨rfl,hb2⟩
       have HB2:=Hd_ (HA1.out.trans (hb2.mono HA1.out.size))
       have HX2:=Hd_ (And.intro hb2 (HXA.out.below hb2 HXA.out.lt))
       clear hb2))
   obtain⟨W0,rfl⟩ : ∃ W0:World,W0=w2:=⟨_,rfl⟩
   have HBA0:=HB2
   have HBA:=HX2
   have HGX:=HXA
   have HSTO:=Hd_ fun wx (h:Below W0.heap.size W0 wx)=>HST.out (.slice cA (clsL u).length cc) wx (HB2.out.trans (h.mono HB2.out.size)) (HCA.out.mono (ZA (HX2.out.1.trans (h.mono HX2.out.1.size))))
   have HSPR:=Hd_ fun wx (x:Value) (h:Below W0.heap.size W0 wx) (hx:Ints (cmap wx) x (stL u g))=>HSP.out wx x (HB2.out.trans (h.mono HB2.out.size)) hx
   refine ZAG fun a0 ha0=>?_
   have t10:a0.eval (.tmp 10)=.pointer (some ⟨X,0,none⟩):=by rw[ha0];rfl
   have t8:a0.eval (.tmp 8)=.slice cA (clsL u).length cc:=by rw[ha0];rfl
   have t2:a0.eval (.tmp 2)=.slice fA F.length fc:=by rw[ha0];rfl
   have hsz:a0.tmps.size=35:=by rw[ha0];rfl
   have HA0:=Hd_ ha0;clear ha0
   refine Zk [(29,.is (.agg #[.string g.name,.int .i64 g.locals,.int .i64 g.slots,.slice nA N nc])),(30,.is (.agg #[.string g.name,.int .i64 g.locals,.int .i64 g.slots,.slice nA N nc])),(31,.is (.slice cA (clsL u).length cc)),(32,srO W0.heap.size 3 (stL u g).length (ints (stL u g))),(33,.is (.slice fA F.length fc)),(34,srO W0.heap.size 4 N (bools (openG g (stL u g) F))),(6,srO W0.heap.size 4 N (bools (openG g (stL u g) F))),(7,.is (.int .i64 0))] (by kernel_rfl) (by kernel_rfl) ?steps ?done
   case steps =>
    refine⟨?_,?_,?_,?_,?_,?_,?_,?_,trivial⟩
    ·
     refine JW.step (slots:=slRo) rfl (by decide) (by rw[hsz];decide) (29,.is (.agg #[.string g.name,.int .i64 g.locals,.int .i64 g.slots,.slice nA N nc])) rfl rfl rfl ?_
     intro D a wx K hD hp h hK
     have hfr:Fr slRo a0 a:=h.fr
     refine ZD rfl ?_
     have q10:a.eval (.tmp 10)=.pointer (some ⟨X,0,none⟩):=(hfr.eval (j:=10) (by decide)).trans t10
     refine Z0 hK 69 _ rfl X (0) q10 _ (by have hb:=h.below;exact fun j v hj=>by rw[Nat.zero_add,(HX2.out.2.below hb HX2.out.2.lt).cell];exact hj) Tryz.underlying69 rfl (by kernel_rfl)
    ·
     refine JW.step (slots:=slRo) rfl (by decide) (by rw[hsz];decide) (30,.is (.agg #[.string g.name,.int .i64 g.locals,.int .i64 g.slots,.slice nA N nc])) rfl rfl rfl ?_
     intro D a wx K hD hp h hK
     have hfr:Fr slRo a0 a:=h.fr
     refine ZD rfl ?_
     have q10:a.eval (.tmp 10)=.pointer (some ⟨X,0,none⟩):=(hfr.eval (j:=10) (by decide)).trans t10
     refine Z0 hK 69 _ rfl X (0) q10 _ (by have hb:=h.below;exact fun j v hj=>by rw[Nat.zero_add,(HX2.out.2.below hb HX2.out.2.lt).cell];exact hj) Tryz.underlying69 rfl (by kernel_rfl)
    ·
     refine JW.step (slots:=slRo) rfl (by decide) (by rw[hsz];decide) (31,.is (.slice cA (clsL u).length cc)) rfl rfl rfl ?_
     intro D a wx K hD hp h hK
     have hfr:Fr slRo a0 a:=h.fr
     refine ZD rfl ?_
     have q8:a.eval (.tmp 8)=.slice cA (clsL u).length cc:=(hfr.eval (j:=8) (by decide)).trans t8
     exact ZP hK rfl q8
    ·
     refine JW.step (slots:=slRo) rfl (by decide) (by rw[hsz];decide) (32,srO W0.heap.size 3 (stL u g).length (ints (stL u g))) rfl rfl rfl ?_
     intro D a wx K hD hp h hK
     have hfr:Fr slRo a0 a:=h.fr
     refine ZD rfl ?_
     have q30:a.eval (.tmp 30)=.agg #[.string g.name,.int .i64 g.locals,.int .i64 g.slots,.slice nA N nc]:=h.val 1 _ rfl (hp 1 (by decide))
     have q31:a.eval (.tmp 31)=.slice cA (clsL u).length cc:=h.val 2 _ rfl (hp 2 (by decide))
     refine Zn hK Tryz.func54 (by kernel_rfl) (by kernel_rfl) rfl #[.agg #[.string g.name,.int .i64 g.locals,.int .i64 g.slots,.slice nA N nc],.slice cA (clsL u).length cc] (by simp only[List.map_toArray,List.map_cons,List.map_nil,q30,q31];try rfl) ?_
     refine(HSTO.out wx h.below).mono ?_
     rintro e w' ⟨v,rfl,hf,hb⟩
     exact⟨_,rfl,hb,Zc hf h.below.size⟩
    ·
     refine JW.step (slots:=slRo) rfl (by decide) (by rw[hsz];decide) (33,.is (.slice fA F.length fc)) rfl rfl rfl ?_
     intro D a wx K hD hp h hK
     have hfr:Fr slRo a0 a:=h.fr
     refine ZD rfl ?_
     have q2:a.eval (.tmp 2)=.slice fA F.length fc:=(hfr.eval (j:=2) (by decide)).trans t2
     exact ZP hK rfl q2
    ·
     refine JW.step (slots:=slRo) rfl (by decide) (by rw[hsz];decide) (34,srO W0.heap.size 4 N (bools (openG g (stL u g) F))) rfl rfl rfl ?_
     intro D a wx K hD hp h hK
     have hfr:Fr slRo a0 a:=h.fr
     refine ZD rfl ?_
     have q29:a.eval (.tmp 29)=.agg #[.string g.name,.int .i64 g.locals,.int .i64 g.slots,.slice nA N nc]:=h.val 0 _ rfl (hp 0 (by decide))
     have q32:=h.val 3 _ rfl (hp 3 (by decide))
     have q33:a.eval (.tmp 33)=.slice fA F.length fc:=h.val 4 _ rfl (hp 4 (by decide))
     have q32:wx.ownsRow W0.heap.size 3 1 (a.eval (.tmp 32)) (stL u g).length (ints (stL u g)):=q32
     generalize hx32:a.eval (.tmp 32)=x32 at q32
     refine Zn hK Tryz.func53 (by kernel_rfl) (by kernel_rfl) rfl #[.agg #[.string g.name,.int .i64 g.locals,.int .i64 g.slots,.slice nA N nc],x32,.slice fA F.length fc] (by simp only[List.map_toArray,List.map_cons,List.map_nil,q29,hx32,q33];try rfl) ?_
     refine(HSPR.out wx x32 h.below (Zj q32)).mono ?_
     rintro e w' ⟨v,rfl,hf,hb⟩
     exact⟨_,rfl,hb,Zc hf h.below.size⟩
    ·
     refine JW.step (slots:=slRo) rfl (by decide) (by rw[hsz];decide) (6,srO W0.heap.size 4 N (bools (openG g (stL u g) F))) rfl rfl rfl ?_
     intro D a wx K hD hp h hK
     have hfr:Fr slRo a0 a:=h.fr
     refine ZD rfl ?_
     have q34:=h.val 5 _ rfl (hp 5 (by decide))
     exact ZAO hK rfl q34
    ·
     refine JW.step (slots:=slRo) rfl (by decide) (by rw[hsz];decide) (7,.is (.int .i64 0)) rfl rfl rfl ?_
     intro D a wx K hD hp h hK
     have hfr:Fr slRo a0 a:=h.fr
     refine ZD rfl ?_
     have c0:a.eval (.const (.int .i64 0))=(.int .i64 0):=rfl
     refine ZM hK (by clear hfr;generalize a.eval=ρ at *;go_simp)
   case done =>
    intro D a wz hall h
    have hd:∀ i,i < 8→D i=true:=hall
    have hfin:=Fr.allW (slots:=slRo) h.fr (by rw[hsz];decide)
    have v6:wz.ownsRow W0.heap.size 4 1 (a.eval (.tmp 6)) N (bools (openG g (stL u g) F)):=h.val 6 _ rfl (hd 6 (by decide))
    simp only[putW,slRo] at hfin
    rw[(show a.eval (.tmp 29)=.agg #[.string g.name,.int .i64 g.locals,.int .i64 g.slots,.slice nA N nc] from h.val 0 _ rfl (hd 0 (by decide))),(show a.eval (.tmp 30)=.agg #[.string g.name,.int .i64 g.locals,.int .i64 g.slots,.slice nA N nc] from h.val 1 _ rfl (hd 1 (by decide))),(show a.eval (.tmp 31)=.slice cA (clsL u).length cc from h.val 2 _ rfl (hd 2 (by decide))),(show a.eval (.tmp 33)=.slice fA F.length fc from h.val 4 _ rfl (hd 4 (by decide))),(show a.eval (.tmp 7)=.int .i64 0 from h.val 7 _ rfl (hd 7 (by decide)))] at hfin
    have hbz:=h.below
    generalize a.eval (.tmp 6)=r6 at hfin v6
    generalize a.eval (.tmp 32)=r32 at hfin
    generalize a.eval (.tmp 34)=r34 at hfin
    rw[hfin,HA0.out]
    clear hfin HA0 h hall hd t10 t8 t2 hsz
    simp only[Act.put,List.setIfInBounds_toArray,List.set_cons_zero,List.set_cons_succ]
    have HZ:=Hd_ (And.intro hbz v6)
    clear hbz v6
    go_wp2
    go_ret2
    refine⟨r6,by rw[HOR.out];rfl,?_,HBA0.out.trans (HZ.out.1.mono HBA0.out.size)⟩
    rw[HOR.out]
    show wz.ownsRow _ _ _ _ (openG g (stL u g) F).length _
    rw[ZFP,HN.out]
    exact Zc HZ.out.2 HBA0.out.size
 ·have hor:openR u t F=([],askE u t):=by unfold openR;rw[if_neg hE]
  have hd:(askE u t != 0)=true:=by simp[hE]
  obtain⟨er,her⟩ : ∃ er,askE u t=er:=⟨_,rfl⟩
  rw[her] at hor HAS hd
  have HOR:=Hd_ hor
  clear hE hor her hF
  go_enter Tryz.func12,Tryz.ntmps12
  go_wp2_with (first
   | (go_at_call 51
      refine(HAS.out _ HBX.out.2).mono ?_
      rintro e w1 ⟨cv,rfl,-,hb1⟩
      have HB1:=Hd_ (HBX.out.2.trans (hb1.mono HBX.out.2.size))
      clear hb1))
  go_ret2
  exact⟨.slice none 0 0,by rw[HOR.out];rfl,by rw[HOR.out];exact World.ownsRow_nil _ _ _ _,HB1.out⟩
end Go.Proofs.YtffgnjgphkdodaaGreatDoor
