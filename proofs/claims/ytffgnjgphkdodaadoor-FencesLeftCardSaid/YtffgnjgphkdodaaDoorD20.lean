import Derived.Test.YtffgnjgphkdodaaDoorD15
import Derived.Test.YtffgnjgphkdodaaDoorD4
namespace Go.Proofs.YtffgnjgphkdodaaDoor
open Go Go.RowKit
theorem Zi {w:World} {base base':Nat} {e:TypeId} {size:Nat} {v:Value} {n:Nat} {xs:List Value} (h:w.ownsRow base e size v n xs) (hb:base'≤base) : w.ownsRow base' e size v n xs :=
 ⟨h.1,h.2.imp id fun ⟨g,c,cur,e,h1,r⟩=>⟨g,c,cur,e,Nat.le_trans hb h1,r⟩⟩
theorem Th.blk {w:World} {base:Nat} {u:Unit_} {g:Graph} {F:List Int} {Y:Nat} (h:Th w base u g F Y) : Y < w.heap.size:=by
 obtain⟨X,b,o,c,h1,h2,h3,h4,h5⟩:=h.ex
 exact h3.lt
set_option maxRecDepth 100000 in
set_option maxHeartbeats 1000000 in
theorem ZCb (u:Unit_) (g:Graph) (F:List Int) (Y base:Nat) (w:World) (hrg:RightG u g) (hTh:Th w base u g F Y) :
  Calls Tryd.prog 42 #[.pointer (some ⟨Y,0,none⟩)] w fun e w'=>∃ v,e=.returned v∧w'.ownsRow w.heap.size 3 1 v (stL u g).length (ints (stL u g))∧Below w.heap.size w w':=by
 obtain⟨X,nb,no,nc,hY,hX,hyb,hxb,hnv⟩:=hTh.ex
 have hw:=hrg.whole
 have hpos:=hw.pos
 have hmost:=hw.most
 have HXB:=Hd_ hxb
 have y4:=hyb.cell 4
 have hyl:=hyb.lt
 have hxl:=hxb.lt
 obtain⟨N,HN⟩ : ∃ N,Hid (g.nodes.length=N):=⟨_,rfl⟩
 rw[HN.out] at y4 hpos hmost
 clear hw hnv hyb hxb hrg hTh
 go_enter Tryd.func42,Tryd.ntmps42
 go_wp2
 go_loopw [3,11] (fun v3 v11 wr=>∃ k:Nat,v11=.int .i64 k∧k≤N∧Hid (wr.ownsRow w.heap.size 3 1 v3 (stK u g k).length (ints (stK u g k)))∧Hid (Below w.heap.size w wr)) (fun _ v11 _=>N - (intOf v11).toNat)
 case atStart=>exact⟨0,rfl,Nat.zero_le _,Hd_ (World.ownsRow_nil _ _ _ _),Hd_ (Below.refl _ _)⟩
 case round =>
  obtain⟨k,rfl,hk,HO,HB⟩:=hrel
  by_cases hlt:k < N
  ·have hsl:=ZCF u g k
   have hss:=ZB0 u g k
   have hxr:=HXB.out.below HB.out hxl
   obtain⟨mm,hmm⟩ : ∃ m,mkAt u g F k=m:=⟨_,rfl⟩
   obtain⟨ms,ml,md,mf⟩:=mm
   have hlm:∀ j v,([.bool ms,.bool ml,.bool md,.bool mf] : List Value)[j]? = some v→wr.cell? ⟨X,k * 4+j,none⟩=some v:=fun j v hj=>by
    rw[hxr.cell]
    exact ZEl ZAW (ZCf u g F (by rw[HN.out];exact hlt)) (by rw[hmm];exact hj)
   have HLM:=Hd_ hlm
   have hst:=(ZIs u g F k).1
   rw[hmm] at hst
   rw[← hst] at hss
   obtain⟨sA,sc,rfl,-⟩:=ZE HO.out
   have k0:(0:Int)≤k:=by omega
   have kN:(k:Int) < N:=by omega
   have kS:(k:Int)≤4096:=by omega
   have how2:=HO.out.alloc (.cells #[.bool ms,.bool ml,.bool md,.bool mf] 103)
   have hb2:=HB.out.alloc HB.out.size (.cells #[.bool ms,.bool ml,.bool md,.bool mf] 103)
   have hs:=HB.out.size
   have HSS:=Hd_ hss
   have HB2:=Hd_ hb2
   have hxl2:=hxr.lt
   clear hlm hst hss hmm hxr hb2
   cases ms with
   | false =>
    have HO2:=Hd_ how2
    clear how2
    go_wp2_with (first | (refine ZC rfl 103 _ rfl X (k * 4) rfl _ _ HLM.out Tryd.underlying103 rfl (by kernel_rfl) ?_))
    go_roundw
    case rel=>exact⟨k+1,by go_num,hlt,by rw[HSS.out];exact Hd_ (by simpa using HO2.out),HB2⟩
    case measure=>simp[intOf];omega
   | true =>
    have how3:=how2.alloc (.cells #[.int .i64 (k:Int)] 3)
    clear how2
    go_wp2_with (first | (refine ZC rfl 103 _ rfl X (k * 4) rfl _ _ HLM.out Tryd.underlying103 rfl (by kernel_rfl) ?_) | (refine ZN rfl ?_))
    refine Stop.intro ?_
    refine Zg Z2 rfl _ _ rfl w.heap.size (.slice sA (stK u g k).length sc) (stK u g k).length (ints (stK u g k)) rfl how3 _ 0 1 [.int .i64 (k:Int)] rfl rfl (Za _ _ _ _ (by simp)) (by simp[Value.oneCell']) (by omega) (by decide) (by simp;omega) ?_
    intro v' w4 hown5 hgr hobn
    have hb4:=(HB2.out.alloc HB2.out.size (.cells #[.int .i64 (k:Int)] 3)).grown hgr (by simp;omega) (fun b hb=>(Z5 HO.out b hb))
    have HF:=Hd_ (And.intro hown5 hb4)
    clear hown5 hgr hobn hb4 how3
    go_wp2
    go_roundw
    case rel=>exact⟨k+1,by go_num,hlt,by rw[HSS.out];exact Hd_ (by simpa [ints] using HF.out.1),Hd_ HF.out.2⟩
    case measure=>simp[intOf];omega
  ·obtain rfl:k=N:=by omega
   have hfin:stK u g k=stL u g:=by unfold stL;rw[HN.out]
   rw[hfin] at HO
   go_wp2
   go_ret
   exact⟨_,rfl,HO.out,HB.out⟩
set_option maxRecDepth 100000 in
set_option maxHeartbeats 1000000 in
theorem ZDj (u:Unit_) (cs:List Value) (t:Int) (w:World) (hu:UnitV (cmap w) cs u) (hok:UOk u) :
  Calls Tryd.prog 41 #[.agg cs.toArray,.int .i64 t] w fun e w'=>e=.returned (.int .i64 (askE u t))∧Below w.heap.size w w':=by
 have HC:=Hd_ fun w1 (h:Below w.heap.size w w1)=>Zz u cs w1 (hu.mono (ZA h)) hok
 obtain⟨sv,lv,gv,rfl,-,-,hgs⟩:=hu
 obtain⟨gA,gc,rfl,-⟩:=id hgs
 have hgl:=hgs.len.2.2
 have hbx:=Blk.new w 25 [sv,lv,.slice gA u.graphs.length gc]
 have hb0:=ZB w (.cells #[sv,lv,.slice gA u.graphs.length gc] 25)
 have HBX:=Hd_ (And.intro hbx hb0)
 clear hbx hb0 hgs
 cases hc:checkF u with
 | some r =>
  obtain⟨r1,r2⟩:=r
  have hE:=ZGY (u:=u) (t:=t) (by rw[hc];simp)
  rw[hE]
  rw[hc] at HC
  clear hc hE
  go_enter Tryd.func41,Tryd.ntmps41
  go_wp2_with (first
   | (go_at_call 22
      refine(HC.out _ HBX.out.2).mono ?_
      rintro e w1 ⟨rfl,hb1⟩
      have HB1:=Hd_ (HBX.out.2.trans (hb1.mono HBX.out.2.size))
      simp only[checkV]
      clear hb1))
  go_ret
  exact⟨rfl,HB1.out⟩
 | none =>
  rw[hc] at HC
  have HCC:=Hd_ hc
  clear hc
  by_cases h0:t < 0
  ·have d0:decide (t < 0)=true:=decide_eq_true h0
   have hE:=ZBi (u:=u) (t:=t) HCC.out (by omega)
   rw[hE]
   clear hE
   go_enter Tryd.func41,Tryd.ntmps41
   go_wp2_with (first
    | (go_at_call 22
       refine(HC.out _ HBX.out.2).mono ?_
       rintro e w1 ⟨rfl,hb1⟩
       have HB1:=Hd_ (HBX.out.2.trans (hb1.mono HBX.out.2.size))
       simp only[checkV]
       clear hb1))
   go_ret
   exact⟨rfl,HB1.out⟩
  ·have d0:decide (t < 0)=false:=decide_eq_false h0
   have h00:0≤t:=by omega
   by_cases h1:t < u.graphs.length
   ·have d1:decide ((u.graphs.length:Int)≤t)=false:=decide_eq_false (by omega)
    have hE:=ZCZ (u:=u) (t:=t) HCC.out ⟨h00,h1⟩
    rw[hE]
    clear hE
    go_enter Tryd.func41,Tryd.ntmps41
    go_wp2_with (first
     | (go_at_call 22
        refine(HC.out _ HBX.out.2).mono ?_
        rintro e w1 ⟨rfl,hb1⟩
        have c2:=(HBX.out.1.below hb1 HBX.out.1.lt).cell 2
        have HB1:=Hd_ (HBX.out.2.trans (hb1.mono HBX.out.2.size))
        simp only[checkV]
        clear hb1))
    go_ret
    exact⟨rfl,HB1.out⟩
   ·have d1:decide ((u.graphs.length:Int)≤t)=true:=decide_eq_true (by omega)
    have hE:=ZBi (u:=u) (t:=t) HCC.out (by omega)
    rw[hE]
    clear hE
    go_enter Tryd.func41,Tryd.ntmps41
    go_wp2_with (first
     | (go_at_call 22
        refine(HC.out _ HBX.out.2).mono ?_
        rintro e w1 ⟨rfl,hb1⟩
        have c2:=(HBX.out.1.below hb1 HBX.out.1.lt).cell 2
        have HB1:=Hd_ (HBX.out.2.trans (hb1.mono HBX.out.2.size))
        simp only[checkV]
        clear hb1))
    go_ret
    exact⟨rfl,HB1.out⟩
def OpenPost (u:Unit_) (t:Int) (F:List Int) (w:World) (e:Ending) (w':World) : Prop:=∃ r,e=.returned (.tuple #[r,.int .i64 (openR u t F).2])∧w'.ownsRow w.heap.size 4 1 r (openR u t F).1.length (bools (openR u t F).1)∧Below w.heap.size w w'
set_option maxRecDepth 100000 in
set_option maxHeartbeats 2000000 in
theorem ZGs (u:Unit_) (cs:List Value) (t:Int) (v:Value) (F:List Int) (w:World) (hT:Tab w) (hu:UnitV (cmap w) cs u) (hok:UOk u) (hF:Ints (cmap w) v F) :
  Calls Tryd.prog 36 #[.agg cs.toArray,.int .i64 t,v] w (OpenPost u t F w):=by
 have HBG:=Hd_ fun w1 (h:Below w.heap.size w w1)=>ZDj u cs t w1 (hu.mono (ZA h)) hok
 have HMD:=Hd_ fun w1 (h:Below w.heap.size w w1) (tn:Nat) (g:Graph) (hc:checkF u=none) (hg:u.graphs[tn]? = some g) (hf:fenB g.nodes.length (-1) F=true)=>ZCP u cs tn g v F w1 (hT.below h) (hu.mono (ZA h)) hok hc hg (hF.mono (ZA h)) hf
 have hu0:=hu
 obtain⟨sv,lv,gv,rfl,-,-,hgs⟩:=hu
 obtain⟨gA,gc,rfl,-⟩:=id hgs
 have hgl:=hgs.len.2.2
 have hbx:=Blk.new w 25 [sv,lv,.slice gA u.graphs.length gc]
 have hb0:=ZB w (.cells #[sv,lv,.slice gA u.graphs.length gc] 25)
 have HBX:=Hd_ (And.intro hbx hb0)
 have HG:=Hd_ hgs
 clear hbx hb0 hu0 hgs hT
 by_cases hE:askE u t=0
 ·obtain⟨hc,h0,h1⟩:=Zw hE
  obtain⟨tn,rfl⟩:=Int.eq_ofNat_of_zero_le h0
  obtain⟨g,hg⟩ : ∃ g,u.graphs[tn]? = some g:=⟨_,List.getElem?_eq_getElem (by omega)⟩
  have hrg:=(ZK hc).graphs g (List.mem_of_getElem? hg)
  obtain⟨gb,go,rfl,gcs,hgv0,hgc⟩:=HG.out.at_ hg
  have hor:openR u (tn:Int) F=if fenB g.nodes.length (-1) F then (openG g (stL u g) F,0) else ([],110):=by
   unfold openR
   rw[if_pos hE,Int.toNat_natCast,hg]
  rw[hE] at HBG
  have HGD:=Hd_ (And.intro hc (And.intro hg (And.intro hrg hgc)))
  have HOR:=Hd_ hor
  have HRT:=Hd_ fun w1 (h:Below w.heap.size w w1)=>ZCm g gcs v F w1 (hgv0.mono (ZA h)) (hF.mono (ZA h))
  have hgv:=hgv0
  obtain⟨nv,rfl,hnv⟩:=hgv
  have h1':(tn:Int) < u.graphs.length:=h1
  clear hE hc hg hrg hgc hor hgv0 hnv h1 hF
  have hld:∀ w1,Below w.heap.size w w1→∀ j x,([.string g.name,.int .i64 g.locals,.int .i64 g.slots,nv] : List Value)[j]? = some x→w1.cell? ⟨gb,go+tn * 4+j,none⟩=some x:=fun w1 hb j x hj=>ZA hb _ _ _ (HGD.out.2.2.2 j x hj)
  have HLD:=Hd_ hld
  clear hld
  cases hfb:fenB g.nodes.length (-1) F with
  | false =>
   have HFB:=Hd_ hfb
   rw[hfb] at HOR HRT
   clear hfb
   go_enter Tryd.func36,Tryd.ntmps36
   go_wp2_with (first
    | (go_at_call 41
       refine(HBG.out _ HBX.out.2).mono ?_
       rintro e w1 ⟨rfl,hb1⟩
       have c2:=(HBX.out.1.below hb1 HBX.out.1.lt).cell 2
       have HB1:=Hd_ (HBX.out.2.trans (hb1.mono HBX.out.2.size))
       clear hb1)
    | (refine ZC rfl 38 _ rfl gb (go+tn * 4) rfl _ _ (HLD.out _ HB1.out) Tryd.underlying38 rfl (by kernel_rfl) ?_)
    | (go_at_call 38
       refine(HRT.out _ HB1.out).mono ?_
       rintro e w2 ⟨rfl,hb2⟩
       have HB2:=Hd_ (HB1.out.trans (hb2.mono HB1.out.size))
       clear hb2))
   go_ret2
   exact⟨.slice none 0 0,by rw[HOR.out];rfl,by rw[HOR.out];exact World.ownsRow_nil _ _ _ _,HB2.out⟩
  | true =>
   have HFB:=Hd_ hfb
   rw[hfb] at HOR HRT
   clear hfb
   go_enter Tryd.func36,Tryd.ntmps36
   go_wp2_with (first
    | (go_at_call 41
       refine(HBG.out _ HBX.out.2).mono ?_
       rintro e w1 ⟨rfl,hb1⟩
       have HU1:=Hd_ (HBX.out.1.below hb1 HBX.out.1.lt)
       have c2:=HU1.out.cell 2
       have HB1:=Hd_ (HBX.out.2.trans (hb1.mono HBX.out.2.size))
       clear hb1)
    | (refine ZC rfl 38 _ rfl gb (go+tn * 4) rfl _ _ (HLD.out _ HB1.out) Tryd.underlying38 rfl (by kernel_rfl) ?_)
    | (go_at_call 38
       refine(HRT.out _ HB1.out).mono ?_
       rintro e w2 ⟨rfl,hb2⟩
       have HU2:=Hd_ (HU1.out.below hb2 HU1.out.lt)
       have d0:=HU2.out.cell 0
       have d1:=HU2.out.cell 1
       have d2:=HU2.out.cell 2
       have HB2:=Hd_ (HB1.out.trans (hb2.mono HB1.out.size))
       clear hb2)
    | (go_at_call 37
       refine(HMD.out _ HB2.out tn g HGD.out.1 HGD.out.2.1 HFB.out).mono ?_
       rintro e w3 ⟨Y,rfl,hth,hb3⟩
       have HTH:=Hd_ (And.intro hth hb3)
       clear hth hb3)
    | (go_at_call 42
       refine(ZCb u g F Y w2.heap.size w3 HGD.out.2.2.1 HTH.out.1).mono ?_
       rintro e w4 ⟨sv4,rfl,ho4,hb4⟩
       have HS4:=Hd_ (And.intro ho4 hb4)
       clear ho4 hb4)
    | (go_at_call 43
       refine(ZBz u g F Y w2.heap.size sv4 (stL u g) w4 HGD.out.2.2.1 (HTH.out.1.below HTH.out.2.size HS4.out.2) (by have:=HTH.out.2.size;have:=HS4.out.2.size;omega) (Zi HS4.out.1 HTH.out.2.size) (fun k hk=>ZE4 hk) (by have:=ZCF u g g.nodes.length;have:=HGD.out.2.2.1.whole.most;unfold stL;omega)).mono ?_
       rintro e w5 ⟨ov,ol,rfl,hov,hol,hon,hg5⟩
       have HF5:=Hd_ (And.intro hov (And.intro (ZCw hol hon) hg5))
       clear hov hol hon hg5))
   go_ret2
   have hs2:=HB2.out.size
   have hs3:=HTH.out.2.size
   have hs4:=HS4.out.2.size
   have hb4:Below w.heap.size w w4:=(HB2.out.trans (HTH.out.2.mono hs2)).trans (HS4.out.2.mono (by omega))
   refine⟨ov,by rw[HOR.out];rfl,?_,hb4.grown HF5.out.2.2 (by omega) (fun k hk=>by have:=Z5 HS4.out.1 k hk;omega)⟩
   rw[HOR.out]
   have h5:=HF5.out.1
   rw[HF5.out.2.1] at h5
   exact Zi h5 (by omega)
 ·have hor:openR u t F=([],askE u t):=by unfold openR;rw[if_neg hE]
  have hd:(askE u t != 0)=true:=by simp[hE]
  have hne:=hE
  obtain⟨er,her⟩ : ∃ er,askE u t=er:=⟨_,rfl⟩
  rw[her] at hor HBG hd
  have HOR:=Hd_ hor
  clear hE hor hne her hF
  go_enter Tryd.func36,Tryd.ntmps36
  go_wp2_with (first
   | (go_at_call 41
      refine(HBG.out _ HBX.out.2).mono ?_
      rintro e w1 ⟨rfl,hb1⟩
      have HB1:=Hd_ (HBX.out.2.trans (hb1.mono HBX.out.2.size))
      clear hb1))
  go_ret2
  exact⟨.slice none 0 0,by rw[HOR.out];rfl,by rw[HOR.out];exact World.ownsRow_nil _ _ _ _,HB1.out⟩
def LoadsPost (u:Unit_) (t:Int) (F:List Int) (w:World) (e:Ending) (w':World) : Prop:=∃ r,e=.returned (.tuple #[r,.int .i64 (loadsR u t F).2])∧w'.ownsRow w.heap.size 3 1 r (loadsR u t F).1.length (ints (loadsR u t F).1)∧Below w.heap.size w w'
set_option maxRecDepth 100000 in
set_option maxHeartbeats 2000000 in
theorem Zx (u:Unit_) (cs:List Value) (t:Int) (v:Value) (F:List Int) (w:World) (hT:Tab w) (hu:UnitV (cmap w) cs u) (hok:UOk u) (hF:Ints (cmap w) v F) :
  Calls Tryd.prog 14 #[.agg cs.toArray,.int .i64 t,v] w (LoadsPost u t F w):=by
 have HOP:=Hd_ fun w1 (h:Below w.heap.size w w1)=>ZGs u cs t v F w1 (hT.below h) (hu.mono (ZA h)) hok (hF.mono (ZA h))
 have HMD:=Hd_ fun w1 (h:Below w.heap.size w w1) (tn:Nat) (g:Graph) (hc:checkF u=none) (hg:u.graphs[tn]? = some g)=>ZCP u cs tn g (.slice none 0 0) [] w1 (hT.below h) (hu.mono (ZA h)) hok hc hg (ZBH _) rfl
 obtain⟨sv,lv,gv,rfl,-,-,hgs⟩:=hu
 have hbx:=Blk.new w 25 [sv,lv,gv]
 have hb0:=ZB w (.cells #[sv,lv,gv] 25)
 have HBX:=Hd_ (And.intro hbx hb0)
 clear hbx hb0 hgs hF hT
 by_cases hE:(openR u t F).2=0
 ·have hask:askE u t=0:=by
   by_cases h:askE u t=0
   ·exact h
   ·unfold openR at hE
    rw[if_neg h] at hE
    exact hE
  obtain⟨hc,h0,h1⟩:=Zw hask
  obtain⟨tn,rfl⟩:=Int.eq_ofNat_of_zero_le h0
  obtain⟨g,hg⟩ : ∃ g,u.graphs[tn]? = some g:=⟨_,List.getElem?_eq_getElem (by omega)⟩
  have hrg:=(ZK hc).graphs g (List.mem_of_getElem? hg)
  have hlr:loadsR u (tn:Int) F=(ldK u g (openR u (tn:Int) F).1 g.nodes.length,0):=by
   unfold loadsR
   rw[if_pos hE,Int.toNat_natCast,hg]
  have hlen:(openR u (tn:Int) F).1.length=g.nodes.length:=by
   unfold openR at hE ⊢
   rw[if_pos hask,Int.toNat_natCast,hg] at hE ⊢
   simp only at hE ⊢
   split at hE
   ·rename_i h;rw[if_pos h];exact ZBP _ _ _
   ·simp at hE
  obtain⟨ol,hol⟩ : ∃ ol,openR u (tn:Int) F=ol:=⟨_,rfl⟩
  obtain⟨l,oe⟩:=ol
  unfold OpenPost at HOP
  rw[hol] at HOP hlr hlen hE
  simp only at hE
  subst hE
  have hpos:=hrg.whole.pos
  have hmost:=hrg.whole.most
  have HGD:=Hd_ (And.intro hc (And.intro hg hrg))
  have HLR:=Hd_ hlr
  obtain⟨N,HN⟩ : ∃ N,Hid (g.nodes.length=N):=⟨_,rfl⟩
  rw[HN.out] at hpos hmost hlen HLR
  have HLE:=Hd_ hlen
  clear hask hc hg hrg hlr hol h0 h1 hlen
  go_enter Tryd.func14,Tryd.ntmps14
  go_wp2_with (first
   | (go_at_call 36
      refine(HOP.out _ HBX.out.2).mono ?_
      rintro e w1 ⟨r,rfl,hr,hb1⟩
      have HU1:=Hd_ (HBX.out.1.below hb1 HBX.out.1.lt)
      have d0:=HU1.out.cell 0
      have d1:=HU1.out.cell 1
      have d2:=HU1.out.cell 2
      have hr':=hr
      simp only at hr'
      rw[HLE.out] at hr'
      obtain⟨ob,oc,rfl,-⟩:=ZW hr' hpos
      have HB1:=Hd_ (And.intro (HBX.out.2.trans (hb1.mono HBX.out.2.size)) hr')
      clear hb1 hr hr')
   | (go_at_call 37
      refine(HMD.out _ HB1.out.1 tn g HGD.out.1 HGD.out.2.1).mono ?_
      rintro e w3 ⟨Y,rfl,hth,hb3⟩
      obtain⟨X,nb,no,nc,hY,hX,hyb,hxb,hnv⟩:=hth.ex
      have hyl:=hyb.lt
      have hxl:=hxb.lt
      have y4:=hyb.cell 4
      rw[HN.out] at y4
      have HTH:=Hd_ (And.intro hxb hb3)
      clear hth hb3 hyb hxb hnv))
  go_loopw [10,30] (fun v10 v30 wr=>∃ k:Nat,v30=.int .i64 k∧k≤N∧Hid (wr.ownsRow w3.heap.size 3 1 v10 (ldK u g l k).length (ints (ldK u g l k)))∧Hid (Below w3.heap.size w3 wr)) (fun _ v30 _=>N - (intOf v30).toNat)
  case atStart=>exact⟨0,rfl,Nat.zero_le _,Hd_ (World.ownsRow_nil _ _ _ _),Hd_ (Below.refl _ _)⟩
  case round =>
   obtain⟨k,rfl,hk,HO,HB⟩:=hrel
   by_cases hlt:k < N
   ·have hsl:=ZG4 u g l k
    have hss:=ZAB u g l k
    have hxr:=HTH.out.1.below HB.out hxl
    obtain⟨mm,hmm⟩ : ∃ m,mkAt u g [] k=m:=⟨_,rfl⟩
    obtain⟨ms,ml,md,mf⟩:=mm
    have hlm:∀ j v,([.bool ms,.bool ml,.bool md,.bool mf] : List Value)[j]? = some v→wr.cell? ⟨X,k * 4+j,none⟩=some v:=fun j v hj=>by
     rw[hxr.cell]
     exact ZEl ZAW (ZCf u g [] (by rw[HN.out];exact hlt)) (by rw[hmm];exact hj)
    have HLM:=Hd_ hlm
    have hkl:k < l.length:=by rw[HLE.out];exact hlt
    obtain⟨b,hb⟩ : ∃ b,l[k]? = some b:=⟨_,List.getElem?_eq_getElem hkl⟩
    rw[hmm,hb] at hss
    obtain⟨sA,sc,rfl,-⟩:=ZE HO.out
    have k0:(0:Int)≤k:=by omega
    have kN:(k:Int) < N:=by omega
    have kS:(k:Int)≤4096:=by omega
    have how2:=HO.out.alloc (.cells #[.bool ms,.bool ml,.bool md,.bool mf] 103)
    have hb2:=HB.out.alloc HB.out.size (.cells #[.bool ms,.bool ml,.bool md,.bool mf] 103)
    have hs:=HB.out.size
    have hocw:wr.cell? ⟨ob,k,none⟩=some (.bool b):=by
     have h1:w1.cell? ⟨ob,k,none⟩=some (.bool b):=by
      rw[World.ownsRow.cellAt HB1.out.2 k (by omega)]
      simp[bools,hb]
     have h2:=ZA (HTH.out.2) _ _ _ h1
     exact ZA HB.out _ _ _ h2
    have HSS:=Hd_ hss
    have HB2:=Hd_ hb2
    have hxl2:=hxr.lt
    have hob2:=World.block_lt_of_cell? _ _ hocw
    simp only at hob2
    clear hlm hss hmm hxr hb2 hb hkl
    by_cases hcon:b=true∧ml=true
    ·obtain⟨rfl,rfl⟩:=hcon
     have how3:=how2.alloc (.cells #[.int .i64 (k:Int)] 3)
     clear how2
     go_wp2_with (first | (refine ZC rfl 103 _ rfl X (k * 4) rfl _ _ HLM.out Tryd.underlying103 rfl (by kernel_rfl) ?_) | (refine ZN rfl ?_))
     refine Stop.intro ?_
     refine Zg Z2 rfl _ _ rfl w3.heap.size (.slice sA (ldK u g l k).length sc) (ldK u g l k).length (ints (ldK u g l k)) rfl how3 _ 0 1 [.int .i64 (k:Int)] rfl rfl (Za _ _ _ _ (by simp)) (by simp[Value.oneCell']) (by omega) (by decide) (by simp;omega) ?_
     intro v' w4 hown5 hgr hobn
     have hb4:=(HB2.out.alloc HB2.out.size (.cells #[.int .i64 (k:Int)] 3)).grown hgr (by simp;omega) (fun b hb=>(Z5 HO.out b hb))
     have HF:=Hd_ (And.intro hown5 hb4)
     clear hown5 hgr hobn hb4 how3
     go_wp2
     go_roundw
     case rel=>exact⟨k+1,by go_num,hlt,by rw[HSS.out];exact Hd_ (by simpa [ints] using HF.out.1),Hd_ HF.out.2⟩
     case measure=>simp[intOf];omega
    ·have HO2:=Hd_ how2
     clear how2
     have hno:(some b == some true && ml)=false:=by
      cases b <;> cases ml <;> simp_all
     have HNO:=Hd_ hno
     clear hno
     cases b with
     | false =>
      go_wp2_with (first | (refine ZC rfl 103 _ rfl X (k * 4) rfl _ _ HLM.out Tryd.underlying103 rfl (by kernel_rfl) ?_))
      go_roundw
      case rel=>exact⟨k+1,by go_num,hlt,by rw[HSS.out];exact Hd_ (by simpa using HO2.out),HB2⟩
      case measure=>simp[intOf];omega
     | true =>
      obtain rfl:ml=false:=by simpa using hcon
      clear hcon
      go_wp2_with (first | (refine ZC rfl 103 _ rfl X (k * 4) rfl _ _ HLM.out Tryd.underlying103 rfl (by kernel_rfl) ?_))
      go_roundw
      case rel=>exact⟨k+1,by go_num,hlt,by rw[HSS.out];exact Hd_ (by simpa using HO2.out),HB2⟩
      case measure=>simp[intOf];omega
   ·obtain rfl:k=N:=by omega
    go_wp2
    go_ret2
    have hs1:=HB1.out.1.size
    have hs3:=HTH.out.2.size
    exact⟨_,by rw[HLR.out];rfl,by rw[HLR.out];exact Zi HO.out (by omega),((HB1.out.1.trans (HTH.out.2.mono hs1)).trans (HB.out.mono (by omega)))⟩
 ·have hlr:loadsR u t F=([],(openR u t F).2):=by unfold loadsR;rw[if_neg hE]
  have hd:((openR u t F).2 != 0)=true:=by simp[hE]
  obtain⟨ol,hol⟩ : ∃ ol,openR u t F=ol:=⟨_,rfl⟩
  unfold OpenPost at HOP
  rw[hol] at HOP hlr hd
  obtain⟨l,er⟩:=ol
  simp only at hd
  have HLR:=Hd_ hlr
  clear hE hlr hol
  go_enter Tryd.func14,Tryd.ntmps14
  go_wp2_with (first
   | (go_at_call 36
      refine(HOP.out _ HBX.out.2).mono ?_
      rintro e w1 ⟨r,rfl,hr,hb1⟩
      have HB1:=Hd_ (HBX.out.2.trans (hb1.mono HBX.out.2.size))
      clear hb1 hr))
  go_ret2
  exact⟨.slice none 0 0,by rw[HLR.out];rfl,by rw[HLR.out];exact World.ownsRow_nil _ _ _ _,HB1.out⟩
theorem ZIe:SlT Tryd.prog 53 110 2 16 (.agg #[.int .i64 0,.int .i64 0]):=SlT.mk' Tryd.underlying53 (by kernel_rfl) rfl (by omega)
theorem ZJY {w:World} {base base':Nat} {e e':TypeId} {size size' n n':Nat} {v v':Value} {xs xs':List Value} (h:w.ownsRow base e size v n xs) (h':w.ownsRow base' e' size' v' n' xs') (hne:e≠e') : v.ownBlock=none∨v.ownBlock≠v'.ownBlock:=by
 rcases h.2 with⟨rfl,_⟩ | ⟨g,c,cur,rfl,_,hg,_⟩
 ·exact .inl rfl
 ·refine .inr fun e1=>?_
  have hb:Blk w g e cur.toList:=Blk.of hg rfl
  exact ZQ h' hb (Ne.symm hne) e1
def PairsPost (u:Unit_) (t:Int) (w:World) (e:Ending) (w':World) : Prop:=∃ r,e=.returned (.tuple #[r,.int .i64 (pairsR u t).2])∧w'.ownsRow w.heap.size 110 2 r (pairsR u t).1.length (pairsV (pairsR u t).1)∧Below w.heap.size w w'
set_option maxRecDepth 100000 in
set_option maxHeartbeats 4000000 in
theorem ZFk (u:Unit_) (cs:List Value) (t:Int) (w:World) (hT:Tab w) (hu:UnitV (cmap w) cs u) (hok:UOk u) :
  Calls Tryd.prog 18 #[.agg cs.toArray,.int .i64 t] w (PairsPost u t w):=by
 have HBG:=Hd_ fun w1 (h:Below w.heap.size w w1)=>ZDj u cs t w1 (hu.mono (ZA h)) hok
 have HMD:=Hd_ fun w1 (h:Below w.heap.size w w1) (tn:Nat) (g:Graph) (hc:checkF u=none) (hg:u.graphs[tn]? = some g)=>ZCP u cs tn g (.slice none 0 0) [] w1 (hT.below h) (hu.mono (ZA h)) hok hc hg (ZBH _) rfl
 obtain⟨sv,lv,gv,rfl,-,-,hgs⟩:=hu
 have hbx:=Blk.new w 25 [sv,lv,gv]
 have hb0:=ZB w (.cells #[sv,lv,gv] 25)
 have HBX:=Hd_ (And.intro hbx hb0)
 clear hbx hb0 hgs hT
 by_cases hE:askE u t=0
 ·obtain⟨hc,h0,h1⟩:=Zw hE
  obtain⟨tn,rfl⟩:=Int.eq_ofNat_of_zero_le h0
  obtain⟨g,hg⟩ : ∃ g,u.graphs[tn]? = some g:=⟨_,List.getElem?_eq_getElem (by omega)⟩
  have hrg:=(ZK hc).graphs g (List.mem_of_getElem? hg)
  have hpr:pairsR u (tn:Int)=if (prL u g (stL u g)).length≤65536 then (prL u g (stL u g),0) else ([],3):=by
   unfold pairsR
   rw[if_pos hE,Int.toNat_natCast,hg]
  rw[hE] at HBG
  have hpos:=hrg.whole.pos
  have hmost:=hrg.whole.most
  have HGD:=Hd_ (And.intro hc (And.intro hg hrg))
  have HPR:=Hd_ hpr
  have hsl:=ZCF u g g.nodes.length
  have hsl2:(stL u g).length≤4096:=by unfold stL;omega
  have hsb:∀ (j:Nat) (s:Int),(stL u g)[j]? = some s→0≤s∧s < g.nodes.length:=fun j s hj=>ZE4 (List.mem_of_getElem? hj)
  obtain⟨N,HN⟩ : ∃ N,Hid (g.nodes.length=N):=⟨_,rfl⟩
  rw[HN.out] at hpos hmost hsb
  have HSB:=Hd_ hsb
  clear hE hc hg hrg hpr h0 h1 hsl hsb
  obtain⟨S,hS⟩ : ∃ S,stL u g=S:=⟨_,rfl⟩
  rw[hS] at hsl2 HSB HPR
  have HS:=Hd_ hS
  clear hS
  go_enter Tryd.func18,Tryd.ntmps18
  go_wp2_with (first
   | (go_at_call 41
      refine(HBG.out _ HBX.out.2).mono ?_
      rintro e w1 ⟨rfl,hb1⟩
      have HU1:=Hd_ (HBX.out.1.below hb1 HBX.out.1.lt)
      have d0:=HU1.out.cell 0
      have d1:=HU1.out.cell 1
      have d2:=HU1.out.cell 2
      have HB1:=Hd_ (HBX.out.2.trans (hb1.mono HBX.out.2.size))
      clear hb1)
   | (go_at_call 37
      refine(HMD.out _ HB1.out tn g HGD.out.1 HGD.out.2.1).mono ?_
      rintro e w3 ⟨Y,rfl,hth,hb3⟩
      have HTH:=Hd_ (And.intro hth hb3)
      obtain⟨X,nb,no,nc,hY,hX,hyb,hxb,hnv⟩:=hth.ex
      have HXB:=Hd_ (And.intro hxb hyb)
      have hyl:=hyb.lt
      have hxl:=hxb.lt
      clear hth hb3 hyb hxb hnv)
   | (go_at_call 42
      refine(ZCb u g [] Y w1.heap.size w3 HGD.out.2.2 HTH.out.1).mono ?_
      rintro e w4 ⟨sv4,rfl,ho4,hb4⟩
      rw[HS.out] at ho4
      obtain⟨sA,sc,rfl,-⟩:=ZE ho4
      have HS4:=Hd_ (And.intro ho4 hb4)
      clear ho4 hb4))
  go_loopw [8,25] (fun v8 v25 wr=>∃ j:Nat,v25=.int .i64 j∧j≤S.length∧(prL u g (S.take j)).length≤65536∧Hid (wr.ownsRow w4.heap.size 110 2 v8 (prL u g (S.take j)).length (pairsV (prL u g (S.take j))))∧Hid (Below w4.heap.size w4 wr)) (fun _ v25 _=>S.length - (intOf v25).toNat)
  case atStart=>exact⟨0,rfl,Nat.zero_le _,by simp[prL],Hd_ (World.ownsRow_nil _ _ _ _),Hd_ (Below.refl _ _)⟩
  case round =>
   obtain⟨j,rfl,hj,hpl,HO,HB⟩:=hrel
   by_cases hlt:j < S.length
   ·obtain⟨s,hs⟩ : ∃ s,S[j]? = some s:=⟨_,List.getElem?_eq_getElem hlt⟩
    obtain⟨hs0,hsN⟩:=HSB.out j s hs
    obtain⟨sn,rfl⟩:=Int.eq_ofNat_of_zero_le hs0
    obtain⟨sb,sc',e,-,hsbl,-,hsc⟩:=ZW HS4.out.1 (by omega)
    injection e with e e1 e2
    subst e e2
    have hsx:=HB.out.size
    have hs34:=HS4.out.2.size
    have hs13:=HTH.out.2.size
    have scell:wr.cell? ⟨sb,j,none⟩=some (.int .i64 (sn:Int)):=ZA HB.out _ _ _ ((hsc j (by omega)).trans (by simp[ints,hs]))
    have j0:(0:Int)≤j:=by omega
    have jS:(j:Int) < S.length:=by omega
    have hlit:=ZA8 (base:=w1.heap.size) (e:=3) (size:=1) (n:=1) wr #[.int .i64 (sn:Int)] wr.heap.size rfl (by omega) (by omega) rfl (ints [(sn:Int)]) rfl
    have hth5:=(HTH.out.1.below hs13 HS4.out.2).below (by omega) (HB.out.alloc hsx (.cells #[.int .i64 (sn:Int)] 3))
    have HSP:=Hd_ (ZBz u g [] Y w1.heap.size (.slice (some ⟨wr.heap.size,0,none⟩) 1 1) [(sn:Int)] (wr.alloc (.cells #[.int .i64 (sn:Int)] 3)) HGD.out.2.2 hth5 (by simp;omega) hlit (fun k hk=>by rw[List.mem_singleton] at hk;rw[hk,HN.out];exact⟨hs0,hsN⟩) (by simp))
    have HSS:=Hd_ hs
    obtain⟨wo,rfl⟩ : ∃ wo:World,wo=wr:=⟨_,rfl⟩
    obtain⟨P,hP⟩ : ∃ P,prL u g (S.take j)=P:=⟨_,rfl⟩
    rw[hP] at hpl HO
    have HP:=Hd_ hP
    clear hs hsc hlit hth5 hP
    go_wp2_with (first
     | (go_at_call 43
        refine(HSP.out).mono ?_
        rintro e w6 ⟨ov,ol,rfl,hov,hol,hon,hg6⟩
        have hoe:=ZCw hol hon
        have hol':ol.length=N:=by rw[hol,HN.out]
        rw[hol'] at hov
        obtain⟨ob,oc,rfl,-⟩:=ZW hov (by omega)
        have hb6:Below w4.heap.size w4 w6:=(HB.out.alloc hsx _).grown hg6 (by simp;omega) (fun b hb=>by have:some wo.heap.size=some b:=hb;injection this;omega)
        have ho6:=(HO.out.alloc (.cells #[.int .i64 (sn:Int)] 3)).kept hg6 (by
         cases hq:u8.ownBlock with
         | none=>exact .inl rfl
         | some b=>exact .inr (fun e=>by have e:some b=some wo.heap.size:=e;injection e with e;have:=(World.ownsRow.lt HO.out b hq).2;omega))
        have H6:=Hd_ (And.intro ho6 (And.intro hb6 (And.intro hov (And.intro hoe hol'))))
        clear hov hol hon hg6 hoe hol' hb6 ho6))
    go_loopw [8,34] (fun v8 v34 wr=>∃ k:Nat,v34=.int .i64 k∧k≤N∧(P ++ (ldK u g ol k).map fun x=>((sn:Int),x)).length≤65536∧Hid (wr.ownsRow w4.heap.size 110 2 v8 (P ++ (ldK u g ol k).map fun x=>((sn:Int),x)).length (pairsV (P ++ (ldK u g ol k).map fun x=>((sn:Int),x))))∧Hid (Below w4.heap.size w4 wr)∧Hid (wr.ownsRow w4.heap.size 4 1 (.slice (some ⟨ob,0,none⟩) N oc) N (bools ol))) (fun _ v34 _=>N - (intOf v34).toNat)
    case atStart=>exact⟨0,rfl,Nat.zero_le _,by simpa [ldK] using hpl,Hd_ (by simpa [ldK] using H6.out.1),Hd_ H6.out.2.1,Hd_ (Zi H6.out.2.2.1 (by simp;omega))⟩
    case round =>
     obtain⟨k,rfl,hk,hql,HO,HB,HOV⟩:=hrel
     by_cases hkn:k < N
     ·have hss:=ZAB u g ol k
      have hmo:=ZIw u g ol (k:=k+1) (n:=N) (by omega)
      have hxr:=(HXB.out.1.below HS4.out.2 hxl).below HB.out (by omega)
      have hyr:=(HXB.out.2.below HS4.out.2 hyl).below HB.out (by omega)
      have y4:=hyr.cell 4
      rw[HN.out] at y4
      obtain⟨mm,hmm⟩ : ∃ m,mkAt u g [] k=m:=⟨_,rfl⟩
      obtain⟨ms,ml,md,mf⟩:=mm
      have hlm:wr.cell? ⟨X,k * 4+1,none⟩=some (.bool ml):=by
       rw[hxr.cell]
       exact ZEl ZAW (ZCf u g [] (by rw[HN.out];exact hkn)) (j:=1) (by rw[hmm];rfl)
      have hkl:k < ol.length:=by rw[H6.out.2.2.2.2];exact hkn
      obtain⟨b,hb⟩ : ∃ b,ol[k]? = some b:=⟨_,List.getElem?_eq_getElem hkl⟩
      rw[hmm,hb] at hss
      have hoc:wr.cell? ⟨ob,k,none⟩=some (.bool b):=by
       rw[World.ownsRow.cellAt HOV.out k (by omega)]
       simp[bools,hb]
      obtain⟨pA,pc,rfl,-⟩:=ZE HO.out
      have k0:(0:Int)≤k:=by omega
      have kN:(k:Int) < N:=by omega
      have kS:(k:Int)≤4096:=by omega
      have hws:=HB.out.size
      have HSK:=Hd_ hss
      obtain⟨Q,hQ⟩ : ∃ Q,P ++ (ldK u g ol k).map (fun x=>((sn:Int),x))=Q:=⟨_,rfl⟩
      have hQ1:ol[k]? = some b∧ldK u g ol (k+1)=ldK u g ol k ++ (if (some b == some true && ml)=true then [(k:Int)] else [])∧(ldK u g ol (k+1)).length≤(ldK u g ol N).length:=⟨hb,hss,hmo⟩
      have HQ1:=Hd_ hQ1
      rw[hQ] at hql HO
      have HQ:=Hd_ hQ
      rw[hQ]
      clear hss hmo hxr hyr hmm hkl hb hQ hQ1 HSK
      cases b with
      | false =>
       have hnx:Hid (P ++ (ldK u g ol (k+1)).map (fun x=>((sn:Int),x))=Q):=Hd_ (by rw[HQ1.out.2.1];simpa using HQ.out)
       go_wp2
       go_roundw
       case rel=>exact⟨k+1,by go_num,hkn,by rw[hnx.out];exact hql,by rw[hnx.out];exact HO,HB,HOV⟩
       case measure=>simp[intOf];omega
      | true =>
       cases ml with
       | false =>
        have hnx:Hid (P ++ (ldK u g ol (k+1)).map (fun x=>((sn:Int),x))=Q):=Hd_ (by rw[HQ1.out.2.1];simpa using HQ.out)
        go_wp2
        go_roundw
        case rel=>exact⟨k+1,by go_num,hkn,by rw[hnx.out];exact hql,by rw[hnx.out];exact HO,HB,HOV⟩
        case measure=>simp[intOf];omega
       | true =>
        have hnx:Hid (P ++ (ldK u g ol (k+1)).map (fun x=>((sn:Int),x))=Q ++ [((sn:Int),(k:Int))]):=Hd_ (by rw[HQ1.out.2.1,← HQ.out];simp)
        by_cases hful:Q.length=65536
        ·have dq:((Q.length:Int) == 65536)=true:=by simp;omega
         have hbig:Hid (¬ (prL u g S).length≤65536):=Hd_ fun h=>by
          have h1:=ZIj u g S (j+1)
          rw[ZGF u g HSS.out,HP.out,← H6.out.2.2.2.1,List.length_append,List.length_map,HN.out] at h1
          have h2:=congrArg List.length hnx.out
          rw[List.length_append,List.length_map,List.length_append,List.length_singleton] at h2
          have h3:=HQ1.out.2.2
          omega
         clear hful
         go_wp2
         go_ret2
         rw[if_neg hbig.out] at HPR
         refine⟨.slice none 0 0,by rw[HPR.out];rfl,by rw[HPR.out];exact World.ownsRow_nil _ _ _ _,?_⟩
         have h1:=HB1.out.size
         exact((HB1.out.trans (HTH.out.2.mono h1)).trans (HS4.out.2.mono (by omega))).trans (HB.out.mono (by omega))
        ·have dq:((Q.length:Int) == 65536)=false:=by simp;omega
         have how2:=HO.out.alloc (.cells #[.int .i64 (sn:Int),.int .i64 (k:Int)] 110)
         have hov2:=HOV.out.alloc (.cells #[.int .i64 (sn:Int),.int .i64 (k:Int)] 110)
         have HOV2:=Hd_ hov2
         have HOW:=Hd_ how2
         clear hov2
         go_wp2_with (refine ZN rfl ?_)
         refine Stop.intro ?_
         refine Zg ZIe rfl _ _ rfl w4.heap.size (.slice pA Q.length pc) Q.length (pairsV Q) rfl how2 _ 0 1 [.int .i64 (sn:Int),.int .i64 (k:Int)] rfl rfl (ZL wr [.int .i64 (sn:Int),.int .i64 (k:Int)] _ _ rfl) (by simp[Value.oneCell']) (by omega) (by decide) (by simp;omega) ?_
         intro v' w7 hown5 hgr hobn
         have hb7:=(HB.out.alloc hws (.cells #[.int .i64 (sn:Int),.int .i64 (k:Int)] 110)).grown hgr (by simp;omega) (fun b hb=>(Z5 HO.out b hb))
         have hov7:=HOV2.out.kept hgr (ZJY HOV2.out HOW.out (by decide))
         have HF:=Hd_ (And.intro hown5 (And.intro hb7 hov7))
         clear hown5 hgr hobn hb7 hov7 how2
         go_wp2
         go_roundw
         case rel=>exact⟨k+1,by go_num,hkn,by rw[hnx.out];simp;omega,by rw[hnx.out];exact Hd_ (by simpa [pairsV,pairV] using HF.out.1),Hd_ HF.out.2.1,Hd_ HF.out.2.2⟩
         case measure=>simp[intOf];omega
     ·obtain rfl:k=N:=by omega
      have hnx:Hid (prL u g (S.take (j+1))=P ++ (ldK u g ol k).map (fun x=>((sn:Int),x))):=Hd_ (by rw[ZGF u g HSS.out,HP.out,← H6.out.2.2.2.1,HN.out])
      go_wp2
      go_roundw
      case rel=>exact⟨j+1,by go_num,hlt,by rw[hnx.out];exact hql,by rw[hnx.out];exact HO,HB⟩
      case measure=>simp[intOf];omega
   ·obtain rfl:j=S.length:=by omega
    rw[List.take_length] at hpl HO
    rw[if_pos hpl] at HPR
    have HPL:=Hd_ hpl
    clear hpl
    go_wp2
    go_ret2
    have h1:=HB1.out.size
    have h3:=HTH.out.2.size
    have h4:=HS4.out.2.size
    exact⟨_,by rw[HPR.out];rfl,by rw[HPR.out];exact Zi HO.out (by omega),((HB1.out.trans (HTH.out.2.mono h1)).trans (HS4.out.2.mono (by omega))).trans (HB.out.mono (by omega))⟩
 ·have hpr:pairsR u t=([],askE u t):=by unfold pairsR;rw[if_neg hE]
  have hd:(askE u t != 0)=true:=by simp[hE]
  have hne:=hE
  obtain⟨er,her⟩ : ∃ er,askE u t=er:=⟨_,rfl⟩
  rw[her] at hpr HBG hd
  have HPR:=Hd_ hpr
  clear hE hpr hne her
  go_enter Tryd.func18,Tryd.ntmps18
  go_wp2_with (first
   | (go_at_call 41
      refine(HBG.out _ HBX.out.2).mono ?_
      rintro e w1 ⟨rfl,hb1⟩
      have HB1:=Hd_ (HBX.out.2.trans (hb1.mono HBX.out.2.size))
      clear hb1))
  go_ret2
  exact⟨.slice none 0 0,by rw[HPR.out];rfl,by rw[HPR.out];exact World.ownsRow_nil _ _ _ _,HB1.out⟩
end Go.Proofs.YtffgnjgphkdodaaDoor
