import Derived.Test.YtffgnjgphkdodaaDoorD40
import Derived.Test.YtffgnjgphkdodaaDoorD41
import Derived.Test.YtffgnjgphkdodaaDoorD29
namespace Go.Proofs.YtffgnjgphkdodaaDoor
open Go Go.RowKit
set_option maxRecDepth 100000 in
set_option maxHeartbeats 2000000 in
theorem ZJs (u:Unit_) (cs:List Value) (t:Int) (v:Value) (F:List Int) (n:Int) (w:World) (hT:Tab w) (hu:UnitV (cmap w) cs u) (hok:UOk u) (hF:Ints (cmap w) v F) (hE:¬ faultE u t F n=0) :
  Calls Tryd.prog 4 #[.agg cs.toArray,.int .i64 t,v,.int .i64 n] w fun e w'=>e=.returned (.bool true)∧Below w.heap.size w w':=by
 have HBG:=Hd_ fun w1 (h:Below w.heap.size w w1)=>Z7 w1 (hT.below h)
 have HND:=Hd_ fun w1 (h:Below w.heap.size w w1)=>Z6 u cs t v F n w1 (hT.below h) (hu.mono (ZA h)) hok (hF.mono (ZA h))
 have HAL:=Hd_ fun w1 (h:Below w.heap.size w w1)=>ZAa u cs t v F n w1 (hT.below h) (hu.mono (ZA h)) hok (hF.mono (ZA h))
 obtain⟨sv,lv,gv,rfl,-,-,-⟩:=id hu
 obtain⟨fA,fc,rfl,-⟩:=id hF
 have hbx:=Blk.new w 25 [sv,lv,gv]
 have hb0:=ZB w (.cells #[sv,lv,gv] 25)
 have HBX:=Hd_ (And.intro hbx hb0)
 clear hbx hb0 hT hok hF hu
 have hn:needR u t F n=(false,faultE u t F n):=by unfold needR;rw[if_neg hE]
 have har:aloneR u t F n=([],false,faultE u t F n):=ZEJ hE
 obtain⟨er,her⟩ : ∃ er,faultE u t F n=er:=⟨_,rfl⟩
 rw[her] at hn har hE
 have d1:(er != 0)=true:=by simp[hE]
 have d2:(er != er)=false:=by simp
 rw[hn] at HND
 unfold AlonePost at HAL
 simp only[har,List.length_nil] at HAL
 clear hE hn har her
 go_enter Tryd.func4,Tryd.ntmps4
 go_wp2_with (fail)
 refine(HBG.out _ HBX.out.2).mono ?_
 rintro e w1 ⟨rfl,hb1⟩
 have hx1:=HBX.out.1.below hb1 HBX.out.1.lt
 have x0:=hx1.cell 0
 have x1:=hx1.cell 1
 have x2:=hx1.cell 2
 have H1:=Hd_ (And.intro (HBX.out.2.trans (hb1.mono HBX.out.2.size)) hx1)
 clear hb1 hx1
 go_wp2_with (fail)
 refine(HND.out _ H1.out.1).mono ?_
 rintro e w2 ⟨rfl,hb2⟩
 clear x0 x1 x2
 have hx2:=H1.out.2.below hb2 H1.out.2.lt
 have x0:=hx2.cell 0
 have x1:=hx2.cell 1
 have x2:=hx2.cell 2
 have H2:=Hd_ (And.intro (H1.out.1.trans (hb2.mono H1.out.1.size)) hx2)
 clear hb2 hx2
 go_wp2_with (fail)
 refine(HAL.out _ H2.out.1).mono ?_
 rintro e w3 ⟨r,rfl,hr,hb3⟩
 obtain⟨rA,rc,rfl,-⟩:=ZE hr
 have H3:=Hd_ (H2.out.1.trans (hb3.mono H2.out.1.size))
 clear hr hb3 x0 x1 x2
 go_wp2
 go_ret
 exact⟨rfl,H3.out⟩
set_option maxRecDepth 100000 in
set_option maxHeartbeats 2000000 in
theorem ZI9 (u:Unit_) (cs:List Value) (tn:Nat) (g:Graph) (v:Value) (F:List Int) (n:Int) (w:World) (hT:Tab w) (hu:UnitV (cmap w) cs u) (hok:UOk u) (hF:Ints (cmap w) v F) (hE:faultE u (tn:Int) F n=0) (hg:u.graphs[tn]? = some g) (har:aloneR u (tn:Int) F n=([],false,0)) :
  Calls Tryd.prog 4 #[.agg cs.toArray,.int .i64 (tn:Int),v,.int .i64 n] w fun e w'=>e=.returned (.bool true)∧Below w.heap.size w w':=by
 have HBG:=Hd_ fun w1 (h:Below w.heap.size w w1)=>Z7 w1 (hT.below h)
 have HND:=Hd_ fun w1 (h:Below w.heap.size w w1)=>Z6 u cs (tn:Int) v F n w1 (hT.below h) (hu.mono (ZA h)) hok (hF.mono (ZA h))
 have HAL:=Hd_ fun w1 (h:Below w.heap.size w w1)=>ZAa u cs (tn:Int) v F n w1 (hT.below h) (hu.mono (ZA h)) hok (hF.mono (ZA h))
 have hcl:=fun w1 (h:Below w.heap.size w w1)=>Zt u cs w1 (hT.below h) (hu.mono (ZA h)) hok
 have HLO:=Hd_ fun w1 (h:Below w.heap.size w w1)=>Zx u cs (tn:Int) v F w1 (hT.below h) (hu.mono (ZA h)) hok (hF.mono (ZA h))
 have HUF:=Hd_ (And.intro hu hF)
 obtain⟨sv,lv,gv,rfl,-,-,-⟩:=id hu
 obtain⟨fA,fc,rfl,-⟩:=id hF
 have hbx:=Blk.new w 25 [sv,lv,gv]
 have hb0:=ZB w (.cells #[sv,lv,gv] 25)
 have HBX:=Hd_ (And.intro hbx hb0)
 clear hbx hb0 hT hok hF hu
 have hn:needR u (tn:Int) F n=(!emptyR u (tn:Int) (withoutL F n),0):=by unfold needR;rw[if_pos hE]
 obtain⟨hea,tn',g',htn,hg',hfb,-⟩:=Zy hE
 obtain rfl:tn=tn':=by omega
 obtain rfl:g=g':=by rw[hg] at hg';injection hg'
 have hc:=(Zw hea).1
 have hrg:=(ZK hc).graphs g (List.mem_of_getElem? hg)
 have hne:=ZA9 hE hg
 have hlr:=ZAA hc hg hfb
 have hel:(loadsR u (tn:Int) F).1.length=0→emptyR u (tn:Int) F=true:=fun h=>Zd.2 (List.eq_nil_of_length_eq_zero h)
 have HCL:=Hd_ fun w1 h=>(hcl w1 h).mono fun e w' hp=>(by
  rcases hp with⟨_,hp⟩ | ⟨hbad,_⟩
  ·exact hp
  ·exact absurd hc hbad:∃ v,e=.returned (.tuple #[v,.int .i64 0])∧Clss (part w' w1.heap.size w'.heap.size) v (clsU u)∧Below w1.heap.size w1 w')
 have hl0:(loadsR u (tn:Int) F).2=0:=by rw[hlr]
 obtain⟨L,hL⟩ : ∃ L,(loadsR u (tn:Int) F).1.length=L:=⟨_,rfl⟩
 unfold LoadsPost at HLO
 obtain⟨ib,hib⟩ : ∃ ib,(!emptyR u (tn:Int) (withoutL F n))=ib:=⟨_,rfl⟩
 rw[hib] at hn hne
 rw[hn] at HND
 unfold AlonePost at HAL
 rw[hL,hl0] at HLO
 rw[hL] at hel
 have hne2:L=0→ib=(aloneR u (tn:Int) F n).2.1:=fun h=>hne (hel h)
 rw[har] at hne2
 simp only[har,List.length_nil] at HAL
 clear hE hn hea hg hfb hc hrg hne hlr hel hl0 hcl hL hib har htn
 by_cases hL0:L=0
 ·obtain rfl:=hne2 hL0
  subst hL0
  clear hne2
  go_enter Tryd.func4,Tryd.ntmps4
  go_wp2_with (fail)
  refine(HBG.out _ HBX.out.2).mono ?_
  rintro e w1 ⟨rfl,hb1⟩
  have hx1:=HBX.out.1.below hb1 HBX.out.1.lt
  have x0:=hx1.cell 0
  have x1:=hx1.cell 1
  have x2:=hx1.cell 2
  have H1:=Hd_ (And.intro (HBX.out.2.trans (hb1.mono HBX.out.2.size)) hx1)
  clear hb1 hx1
  go_wp2_with (fail)
  refine(HND.out _ H1.out.1).mono ?_
  rintro e w2 ⟨rfl,hb2⟩
  clear x0 x1 x2
  have hx2:=H1.out.2.below hb2 H1.out.2.lt
  have x0:=hx2.cell 0
  have x1:=hx2.cell 1
  have x2:=hx2.cell 2
  have H2:=Hd_ (And.intro (H1.out.1.trans (hb2.mono H1.out.1.size)) hx2)
  clear hb2 hx2
  go_wp2_with (fail)
  refine(HAL.out _ H2.out.1).mono ?_
  rintro e w3 ⟨r,rfl,hr,hb3⟩
  obtain⟨rA,rc,rfl,-⟩:=ZE hr
  clear hr
  clear x0 x1 x2
  have hx3:=H2.out.2.below hb3 H2.out.2.lt
  have x0:=hx3.cell 0
  have x1:=hx3.cell 1
  have x2:=hx3.cell 2
  have H3:=Hd_ (And.intro (H2.out.1.trans (hb3.mono H2.out.1.size)) (And.intro hx3 trivial))
  clear hb3 hx3
  go_wp2_with (fail)
  refine(HCL.out _ H3.out.1).mono ?_
  rintro e w4 ⟨cv,rfl,hcs,hb4⟩
  obtain⟨cA,cn,cc,rfl⟩ : ∃ A n c,cv=.slice A n c:=by obtain⟨A,c,e,_⟩:=hcs;exact⟨_,_,_,e⟩
  clear x0 x1 x2
  have hx4:=H3.out.2.1.below hb4 H3.out.2.1.lt
  have x0:=hx4.cell 0
  have x1:=hx4.cell 1
  have x2:=hx4.cell 2
  have H4:=Hd_ (And.intro (H3.out.1.trans (hb4.mono H3.out.1.size)) (And.intro hx4 (And.intro (hcs.mono (ZV _ _ _)) hb4)))
  clear hcs hb4 hx4
  go_wp2_with (fail)
  refine(HLO.out _ H4.out.1).mono ?_
  rintro e w5 ⟨r5,rfl,hr5,hb5⟩
  obtain⟨sA,sc,rfl,-⟩:=ZE hr5
  have H5:=Hd_ (H4.out.1.trans (hb5.mono H4.out.1.size))
  clear hr5 hb5 x0 x1 x2
  go_wp2
  go_ret
  exact⟨rfl,H5.out⟩
 ·have dL:decide (0 < L)=true:=decide_eq_true (by omega)
  have dL2:decide ((0:Int) < (L:Int))=true:=decide_eq_true (by omega)
  clear hne2 hL0
  go_enter Tryd.func4,Tryd.ntmps4
  go_wp2_with (fail)
  refine(HBG.out _ HBX.out.2).mono ?_
  rintro e w1 ⟨rfl,hb1⟩
  have hx1:=HBX.out.1.below hb1 HBX.out.1.lt
  have x0:=hx1.cell 0
  have x1:=hx1.cell 1
  have x2:=hx1.cell 2
  have H1:=Hd_ (And.intro (HBX.out.2.trans (hb1.mono HBX.out.2.size)) hx1)
  clear hb1 hx1
  go_wp2_with (fail)
  refine(HND.out _ H1.out.1).mono ?_
  rintro e w2 ⟨rfl,hb2⟩
  clear x0 x1 x2
  have hx2:=H1.out.2.below hb2 H1.out.2.lt
  have x0:=hx2.cell 0
  have x1:=hx2.cell 1
  have x2:=hx2.cell 2
  have H2:=Hd_ (And.intro (H1.out.1.trans (hb2.mono H1.out.1.size)) hx2)
  clear hb2 hx2
  go_wp2_with (fail)
  refine(HAL.out _ H2.out.1).mono ?_
  rintro e w3 ⟨r,rfl,hr,hb3⟩
  obtain⟨rA,rc,rfl,-⟩:=ZE hr
  clear hr
  clear x0 x1 x2
  have hx3:=H2.out.2.below hb3 H2.out.2.lt
  have x0:=hx3.cell 0
  have x1:=hx3.cell 1
  have x2:=hx3.cell 2
  have H3:=Hd_ (And.intro (H2.out.1.trans (hb3.mono H2.out.1.size)) (And.intro hx3 trivial))
  clear hb3 hx3
  go_wp2_with (fail)
  refine(HCL.out _ H3.out.1).mono ?_
  rintro e w4 ⟨cv,rfl,hcs,hb4⟩
  obtain⟨cA,cn,cc,rfl⟩ : ∃ A n c,cv=.slice A n c:=by obtain⟨A,c,e,_⟩:=hcs;exact⟨_,_,_,e⟩
  clear x0 x1 x2
  have hx4:=H3.out.2.1.below hb4 H3.out.2.1.lt
  have x0:=hx4.cell 0
  have x1:=hx4.cell 1
  have x2:=hx4.cell 2
  have H4:=Hd_ (And.intro (H3.out.1.trans (hb4.mono H3.out.1.size)) (And.intro hx4 (And.intro (hcs.mono (ZV _ _ _)) hb4)))
  clear hcs hb4 hx4
  go_wp2_with (fail)
  refine(HLO.out _ H4.out.1).mono ?_
  rintro e w5 ⟨r5,rfl,hr5,hb5⟩
  obtain⟨sA,sc,rfl,-⟩:=ZE hr5
  have H5:=Hd_ (H4.out.1.trans (hb5.mono H4.out.1.size))
  clear hr5 hb5 x0 x1 x2
  go_wp2
  go_ret
  exact⟨rfl,H5.out⟩
set_option maxRecDepth 100000 in
set_option maxHeartbeats 2000000 in
theorem ZI8 (u:Unit_) (cs:List Value) (tn:Nat) (g:Graph) (v:Value) (F:List Int) (n:Int) (w:World) (hT:Tab w) (hu:UnitV (cmap w) cs u) (hok:UOk u) (hF:Ints (cmap w) v F) (hE:faultE u (tn:Int) F n=0) (hg:u.graphs[tn]? = some g) (s d:Nat) (har:aloneR u (tn:Int) F n=((aloneR u (tn:Int) F n).1,true,0)) (hai:AloneIs u g (withoutL F n) n (aloneR u (tn:Int) F n).1 s d) :
  Calls Tryd.prog 4 #[.agg cs.toArray,.int .i64 (tn:Int),v,.int .i64 n] w fun e w'=>e=.returned (.bool true)∧Below w.heap.size w w':=by
 have HBG:=Hd_ fun w1 (h:Below w.heap.size w w1)=>Z7 w1 (hT.below h)
 have HND:=Hd_ fun w1 (h:Below w.heap.size w w1)=>Z6 u cs (tn:Int) v F n w1 (hT.below h) (hu.mono (ZA h)) hok (hF.mono (ZA h))
 have HAL:=Hd_ fun w1 (h:Below w.heap.size w w1)=>ZAa u cs (tn:Int) v F n w1 (hT.below h) (hu.mono (ZA h)) hok (hF.mono (ZA h))
 have hcl:=fun w1 (h:Below w.heap.size w w1)=>Zt u cs w1 (hT.below h) (hu.mono (ZA h)) hok
 have HLO:=Hd_ fun w1 (h:Below w.heap.size w w1)=>Zx u cs (tn:Int) v F w1 (hT.below h) (hu.mono (ZA h)) hok (hF.mono (ZA h))
 have HUF:=Hd_ (And.intro hu hF)
 obtain⟨sv,lv,gv,rfl,-,-,-⟩:=id hu
 obtain⟨fA,fc,rfl,-⟩:=id hF
 have hbx:=Blk.new w 25 [sv,lv,gv]
 have hb0:=ZB w (.cells #[sv,lv,gv] 25)
 have HBX:=Hd_ (And.intro hbx hb0)
 clear hbx hb0 hT hok hF hu
 have hn:needR u (tn:Int) F n=(!emptyR u (tn:Int) (withoutL F n),0):=by unfold needR;rw[if_pos hE]
 obtain⟨hea,tn',g',htn,hg',hfb,-⟩:=Zy hE
 obtain rfl:tn=tn':=by omega
 obtain rfl:g=g':=by rw[hg] at hg';injection hg'
 have hc:=(Zw hea).1
 have hrg:=(ZK hc).graphs g (List.mem_of_getElem? hg)
 have hne:=ZA9 hE hg
 have hlr:=ZAA hc hg hfb
 have hel:(loadsR u (tn:Int) F).1.length=0→emptyR u (tn:Int) F=true:=fun h=>Zd.2 (List.eq_nil_of_length_eq_zero h)
 have HCL:=Hd_ fun w1 h=>(hcl w1 h).mono fun e w' hp=>(by
  rcases hp with⟨_,hp⟩ | ⟨hbad,_⟩
  ·exact hp
  ·exact absurd hc hbad:∃ v,e=.returned (.tuple #[v,.int .i64 0])∧Clss (part w' w1.heap.size w'.heap.size) v (clsU u)∧Below w1.heap.size w1 w')
 have hl0:(loadsR u (tn:Int) F).2=0:=by rw[hlr]
 obtain⟨L,hL⟩ : ∃ L,(loadsR u (tn:Int) F).1.length=L:=⟨_,rfl⟩
 unfold LoadsPost at HLO
 obtain⟨ib,hib⟩ : ∃ ib,(!emptyR u (tn:Int) (withoutL F n))=ib:=⟨_,rfl⟩
 rw[hib] at hn hne
 rw[hn] at HND
 unfold AlonePost at HAL
 rw[hL,hl0] at HLO
 rw[hL] at hel
 have hne2:L=0→ib=(aloneR u (tn:Int) F n).2.1:=fun h=>hne (hel h)
 have hal:=ZJO hrg.whole hai
 obtain⟨W,hW⟩ : ∃ W,(aloneR u (tn:Int) F n).1=W:=⟨_,rfl⟩
 rw[hW] at har hal
 rw[har] at hne2
 simp only[har] at HAL
 have HLA:=Hd_ fun w1 (h:Below w.heap.size w w1) (cv wv:Value) (hcv:Clss (cmap w1) cv (clsU u)) (hwv:Ints (cmap w1) wv W)=>ZCh u [sv,lv,gv] g tn cv (.slice fA F.length fc) wv F W n w1 (HUF.out.1.mono (ZA h)) hg hrg hcv (HUF.out.2.mono (ZA h)) hwv hal
 have HWI:Hid (∀ (wx:World) (b:Nat) (r:Value),wx.ownsRow b 3 1 r W.length (ints W)→Ints (cmap wx) r W):=Hd_ fun wx b r h=>Zv h
 obtain⟨K,hK⟩ : ∃ K,W.length=K:=⟨_,rfl⟩
 rw[hK] at HAL HWI
 clear hK
 clear hE hn hea hg hfb hc hrg hne hlr hel hl0 hcl hL hib har htn hal hai hW
 by_cases hL0:L=0
 ·obtain rfl:=hne2 hL0
  subst hL0
  clear hne2
  go_enter Tryd.func4,Tryd.ntmps4
  go_wp2_with (fail)
  refine(HBG.out _ HBX.out.2).mono ?_
  rintro e w1 ⟨rfl,hb1⟩
  have hx1:=HBX.out.1.below hb1 HBX.out.1.lt
  have x0:=hx1.cell 0
  have x1:=hx1.cell 1
  have x2:=hx1.cell 2
  have H1:=Hd_ (And.intro (HBX.out.2.trans (hb1.mono HBX.out.2.size)) hx1)
  clear hb1 hx1
  go_wp2_with (fail)
  refine(HND.out _ H1.out.1).mono ?_
  rintro e w2 ⟨rfl,hb2⟩
  clear x0 x1 x2
  have hx2:=H1.out.2.below hb2 H1.out.2.lt
  have x0:=hx2.cell 0
  have x1:=hx2.cell 1
  have x2:=hx2.cell 2
  have H2:=Hd_ (And.intro (H1.out.1.trans (hb2.mono H1.out.1.size)) hx2)
  clear hb2 hx2
  go_wp2_with (fail)
  refine(HAL.out _ H2.out.1).mono ?_
  rintro e w3 ⟨r,rfl,hr,hb3⟩
  have hri:=HWI.out _ _ _ hr
  obtain⟨rA,rc,rfl,-⟩:=ZE hr
  clear hr
  clear x0 x1 x2
  have hx3:=H2.out.2.below hb3 H2.out.2.lt
  have x0:=hx3.cell 0
  have x1:=hx3.cell 1
  have x2:=hx3.cell 2
  have H3:=Hd_ (And.intro (H2.out.1.trans (hb3.mono H2.out.1.size)) (And.intro hx3 hri))
  clear hb3 hx3
  clear hri
  go_wp2_with (fail)
  refine(HCL.out _ H3.out.1).mono ?_
  rintro e w4 ⟨cv,rfl,hcs,hb4⟩
  obtain⟨cA,cn,cc,rfl⟩ : ∃ A n c,cv=.slice A n c:=by obtain⟨A,c,e,_⟩:=hcs;exact⟨_,_,_,e⟩
  clear x0 x1 x2
  have hx4:=H3.out.2.1.below hb4 H3.out.2.1.lt
  have x0:=hx4.cell 0
  have x1:=hx4.cell 1
  have x2:=hx4.cell 2
  have H4:=Hd_ (And.intro (H3.out.1.trans (hb4.mono H3.out.1.size)) (And.intro hx4 (And.intro (hcs.mono (ZV _ _ _)) hb4)))
  clear hcs hb4 hx4
  go_wp2_with (fail)
  refine(HLA.out _ H4.out.1 _ _ H4.out.2.2.1 (H3.out.2.2.mono (ZA H4.out.2.2.2))).mono ?_
  rintro e w6 ⟨rfl,hb6⟩
  clear x0 x1 x2
  have hx6:=H4.out.2.1.below hb6 H4.out.2.1.lt
  have x0:=hx6.cell 0
  have x1:=hx6.cell 1
  have x2:=hx6.cell 2
  have H6:=Hd_ (And.intro (H4.out.1.trans (hb6.mono H4.out.1.size)) hx6)
  clear hb6 hx6
  go_wp2_with (fail)
  refine(HLO.out _ H6.out.1).mono ?_
  rintro e w5 ⟨r5,rfl,hr5,hb5⟩
  obtain⟨sA,sc,rfl,-⟩:=ZE hr5
  have H5:=Hd_ (H6.out.1.trans (hb5.mono H6.out.1.size))
  clear hr5 hb5 x0 x1 x2
  go_wp2
  go_ret
  exact⟨rfl,H5.out⟩
 ·have dL:decide (0 < L)=true:=decide_eq_true (by omega)
  have dL2:decide ((0:Int) < (L:Int))=true:=decide_eq_true (by omega)
  clear hne2 hL0
  go_enter Tryd.func4,Tryd.ntmps4
  go_wp2_with (fail)
  refine(HBG.out _ HBX.out.2).mono ?_
  rintro e w1 ⟨rfl,hb1⟩
  have hx1:=HBX.out.1.below hb1 HBX.out.1.lt
  have x0:=hx1.cell 0
  have x1:=hx1.cell 1
  have x2:=hx1.cell 2
  have H1:=Hd_ (And.intro (HBX.out.2.trans (hb1.mono HBX.out.2.size)) hx1)
  clear hb1 hx1
  go_wp2_with (fail)
  refine(HND.out _ H1.out.1).mono ?_
  rintro e w2 ⟨rfl,hb2⟩
  clear x0 x1 x2
  have hx2:=H1.out.2.below hb2 H1.out.2.lt
  have x0:=hx2.cell 0
  have x1:=hx2.cell 1
  have x2:=hx2.cell 2
  have H2:=Hd_ (And.intro (H1.out.1.trans (hb2.mono H1.out.1.size)) hx2)
  clear hb2 hx2
  go_wp2_with (fail)
  refine(HAL.out _ H2.out.1).mono ?_
  rintro e w3 ⟨r,rfl,hr,hb3⟩
  have hri:=HWI.out _ _ _ hr
  obtain⟨rA,rc,rfl,-⟩:=ZE hr
  clear hr
  clear x0 x1 x2
  have hx3:=H2.out.2.below hb3 H2.out.2.lt
  have x0:=hx3.cell 0
  have x1:=hx3.cell 1
  have x2:=hx3.cell 2
  have H3:=Hd_ (And.intro (H2.out.1.trans (hb3.mono H2.out.1.size)) (And.intro hx3 hri))
  clear hb3 hx3
  clear hri
  go_wp2_with (fail)
  refine(HCL.out _ H3.out.1).mono ?_
  rintro e w4 ⟨cv,rfl,hcs,hb4⟩
  obtain⟨cA,cn,cc,rfl⟩ : ∃ A n c,cv=.slice A n c:=by obtain⟨A,c,e,_⟩:=hcs;exact⟨_,_,_,e⟩
  clear x0 x1 x2
  have hx4:=H3.out.2.1.below hb4 H3.out.2.1.lt
  have x0:=hx4.cell 0
  have x1:=hx4.cell 1
  have x2:=hx4.cell 2
  have H4:=Hd_ (And.intro (H3.out.1.trans (hb4.mono H3.out.1.size)) (And.intro hx4 (And.intro (hcs.mono (ZV _ _ _)) hb4)))
  clear hcs hb4 hx4
  go_wp2_with (fail)
  refine(HLA.out _ H4.out.1 _ _ H4.out.2.2.1 (H3.out.2.2.mono (ZA H4.out.2.2.2))).mono ?_
  rintro e w6 ⟨rfl,hb6⟩
  clear x0 x1 x2
  have hx6:=H4.out.2.1.below hb6 H4.out.2.1.lt
  have x0:=hx6.cell 0
  have x1:=hx6.cell 1
  have x2:=hx6.cell 2
  have H6:=Hd_ (And.intro (H4.out.1.trans (hb6.mono H4.out.1.size)) hx6)
  clear hb6 hx6
  go_wp2_with (fail)
  refine(HLO.out _ H6.out.1).mono ?_
  rintro e w5 ⟨r5,rfl,hr5,hb5⟩
  obtain⟨sA,sc,rfl,-⟩:=ZE hr5
  have H5:=Hd_ (H6.out.1.trans (hb5.mono H6.out.1.size))
  clear hr5 hb5 x0 x1 x2
  go_wp2
  go_ret
  exact⟨rfl,H5.out⟩
theorem ZCW (u:Unit_) (cs:List Value) (t:Int) (v:Value) (F:List Int) (n:Int) (w:World) (hT:Tab w) (hu:UnitV (cmap w) cs u) (hok:UOk u) (hF:Ints (cmap w) v F) :
  Calls Tryd.prog 4 #[.agg cs.toArray,.int .i64 t,v,.int .i64 n] w fun e w'=>e=.returned (.bool true)∧Below w.heap.size w w':=by
 by_cases hE:faultE u t F n=0
 ·obtain⟨hea,tn,g,rfl,hg,hfb,-⟩:=Zy hE
  rcases ZDl hE hg with⟨har,-⟩ | ⟨s,d,har,hai⟩
  ·exact ZI9 u cs tn g v F n w hT hu hok hF hE hg har
  ·exact ZI8 u cs tn g v F n w hT hu hok hF hE hg s d har hai
 ·exact ZJs u cs t v F n w hT hu hok hF hE
end Go.Proofs.YtffgnjgphkdodaaDoor
