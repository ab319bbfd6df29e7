import Derived.Test.YtffgnjgphkdodaaDoorD45
import Derived.Test.YtffgnjgphkdodaaDoorD43
import Derived.Test.YtffgnjgphkdodaaDoorD29
import Derived.Test.YtffgnjgphkdodaaDoorD20
import Derived.Test.YtffgnjgphkdodaaDoorD18
import Derived.Test.YtffgnjgphkdodaaDoorD31
import Derived.BigQuiet
import Derived.Deep.CutRange
namespace Go.Proofs.YtffgnjgphkdodaaDoor
open Go Go.RowKit BigFrame
attribute [local go_sem] readAtW readUpon
set_option maxRecDepth 100000 in
set_option maxHeartbeats 4000000 in
theorem ZCo (u:Unit_) (cs:List Value) (w:World) (hT:Tab w) (hu:UnitV (cmap w) cs u) (hok:UOk u) :
  Calls Tryd.prog 6 #[.agg cs.toArray] w fun e w'=>e=.returned (.bool true)∧Below w.heap.size w w':=by
 have HBG:=Hd_ fun w1 (h:Below w.heap.size w w1)=>Z7 w1 (hT.below h)
 have HPL:=Hd_ fun m w1 (h:Below w.heap.size w w1)=>ZA7 u cs m w1 (hT.below h) (hu.mono (ZA h)) hok
 have hcl:=fun w1 (h:Below w.heap.size w w1)=>Zt u cs w1 (hT.below h) (hu.mono (ZA h)) hok
 have hsf:=fun w1 (v:Value) (L:List (List Int)) (h:Below w.heap.size w w1) (hL:Ints2 (cmap w1) v L)=>ZGi u cs v L w1 (hT.below h) (hu.mono (ZA h)) hok hL
 have hco:=fun w1 (v:Value) (L:List (List Int)) (h:Below w.heap.size w w1) (hL:Ints2 (cmap w1) v L)=>ZEF u cs v L w1 (hu.mono (ZA h)) hok hL
 have hpa:=fun w1 (t:Int) (h:Below w.heap.size w w1)=>ZFk u cs t w1 (hT.below h) (hu.mono (ZA h)) hok
 obtain⟨sv,lv,gv,rfl,-,-,hgs⟩:=hu
 obtain⟨gA,gc,rfl,-⟩:=id hgs
 have hgl:=hgs.len.2.2
 have hbx:=Blk.new w 25 [sv,lv,.slice gA u.graphs.length gc]
 have hb0:=ZB w (.cells #[sv,lv,.slice gA u.graphs.length gc] 25)
 have HBX:=Hd_ (And.intro hbx hb0)
 have HG:=Hd_ hgs
 clear hbx hb0 hgs hT
 by_cases hc:checkF u=none
 ·
  have HCL:=Hd_ fun w1 h=>(hcl w1 h).mono fun e w' hp=>(by
   rcases hp with⟨_,hp⟩ | ⟨hbad,_⟩
   ·exact hp
   ·exact absurd hc hbad:∃ v,e=.returned (.tuple #[v,.int .i64 0])∧Clss (part w' w1.heap.size w'.heap.size) v (clsU u)∧Below w1.heap.size w1 w')
  have h8:=(ZK hc).threads
  have HPA:=Hd_ hpa
  have HC:=Hd_ hc
  have HPG:=Hd_ fun m=>ZAU (m:=m) hc
  have HKL:=Hd_ fun m=>Zr u m u.graphs.length
  have hsp:=fun m=>ZGh hc m
  have hcp:=fun m=>ZHE hc m
  have hle:=ZIL (u:=u)
  obtain⟨ca,hca⟩ : ∃ x,costS u (placeK u false u.graphs.length) u.graphs.length=x:=⟨_,rfl⟩
  obtain⟨cb,hcb⟩ : ∃ x,costS u (placeK u true u.graphs.length) u.graphs.length=x:=⟨_,rfl⟩
  rw[hca,hcb] at hle
  have dle:decide (ca < cb)=false:=decide_eq_false (by omega)
  have HSP:=Hd_ (And.intro (hsp false) (hsp true))
  have HCP:=Hd_ (And.intro (show costR u (placeK u false u.graphs.length)=(ca,0) by rw[hcp,hca]) (show costR u (placeK u true u.graphs.length)=(cb,0) by rw[hcp,hcb]))
  unfold SafePost at hsf
  unfold CostPost at hco
  have HSF:=Hd_ hsf
  have HCO:=Hd_ hco
  obtain⟨G,hG⟩ : ∃ G,u.graphs.length=G:=⟨_,rfl⟩
  have HGG:=Hd_ hG
  rw[hG] at HPG HKL HBX HG hgl h8 HSP HCP HPL HCL HPA HSF HCO ⊢
  clear hcl hsf hco hpa hc hG hsp hcp hca hcb
  go_enter Tryd.func6,Tryd.ntmps6
  go_wp2_with (fail)
  refine(HBG.out _ HBX.out.2).mono ?_
  rintro e w1 ⟨rfl,hb1⟩
  have hx1:=HBX.out.1.below hb1 HBX.out.1.lt
  have x0:=hx1.cell 0
  have x1:=hx1.cell 1
  have x2:=hx1.cell 2
  have H1:=Hd_ (And.intro (HBX.out.2.trans (hb1.mono HBX.out.2.size)) hx1)
  clear hb1 hx1
  go_wp2_with (fail)
  refine(HPL.out false _ H1.out.1).mono ?_
  rintro e w2 h2
  obtain⟨av,rfl,hb2,hav⟩:=ZBY h2
  rw[HPG.out] at hav ⊢
  obtain⟨aA,ac,rfl,-⟩:=id hav
  simp only[HKL.out] at hav ⊢
  clear x0 x1 x2
  have hx2:=H1.out.2.below hb2 H1.out.2.lt
  have x0:=hx2.cell 0
  have x1:=hx2.cell 1
  have x2:=hx2.cell 2
  have H2:=Hd_ (And.intro (H1.out.1.trans (hb2.mono H1.out.1.size)) (And.intro hx2 hav))
  clear hb2 hx2 hav h2
  go_wp2_with (fail)
  refine(HPL.out true _ H2.out.1).mono ?_
  rintro e w3 h3
  obtain⟨bv,rfl,hb3,hbv⟩:=ZBY h3
  rw[HPG.out] at hbv ⊢
  obtain⟨bA,bc,rfl,-⟩:=id hbv
  simp only[HKL.out] at hbv ⊢
  clear x0 x1 x2
  have hx3:=H2.out.2.1.below hb3 H2.out.2.1.lt
  have x0:=hx3.cell 0
  have x1:=hx3.cell 1
  have x2:=hx3.cell 2
  have H3:=Hd_ (And.intro (H2.out.1.trans (hb3.mono H2.out.1.size)) (And.intro hx3 (And.intro (H2.out.2.2.mono (ZA hb3)) hbv)))
  clear hb3 hx3 hbv h3
  go_wp2_with (fail)
  refine(HCL.out _ H3.out.1).mono ?_
  rintro e w4 ⟨cv,rfl,hcs,hb4⟩
  obtain⟨cA,cn,cc,rfl⟩ : ∃ A n c,cv=.slice A n c:=by obtain⟨A,c,e,_⟩:=hcs;exact⟨_,_,_,e⟩
  clear x0 x1 x2
  have hx4:=H3.out.2.1.below hb4 H3.out.2.1.lt
  have x0:=hx4.cell 0
  have x1:=hx4.cell 1
  have x2:=hx4.cell 2
  have H4:=Hd_ (And.intro (H3.out.1.trans (hb4.mono H3.out.1.size)) (And.intro hx4 (And.intro (H3.out.2.2.1.mono (ZA hb4)) (And.intro (H3.out.2.2.2.mono (ZA hb4)) (hcs.mono (ZV _ _ _))))))
  clear hb4 hx4 hcs
  go_wp2_with (fail)
  refine(HSF.out _ _ _ H4.out.1 H4.out.2.2.1).mono ?_
  rintro e w5 ⟨rfl,hb5⟩
  rw[HSP.out.1]
  clear x0 x1 x2
  have hx5:=H4.out.2.1.below hb5 H4.out.2.1.lt
  have x0:=hx5.cell 0
  have x1:=hx5.cell 1
  have x2:=hx5.cell 2
  have H5:=Hd_ (And.intro (H4.out.1.trans (hb5.mono H4.out.1.size)) (And.intro hx5 (And.intro (H4.out.2.2.1.mono (ZA hb5)) (And.intro (H4.out.2.2.2.1.mono (ZA hb5)) (H4.out.2.2.2.2.mono (ZA hb5))))))
  clear hb5 hx5
  go_wp2_with (fail)
  refine(HSF.out _ _ _ H5.out.1 H5.out.2.2.2.1).mono ?_
  rintro e w6 ⟨rfl,hb6⟩
  rw[HSP.out.2]
  clear x0 x1 x2
  have hx6:=H5.out.2.1.below hb6 H5.out.2.1.lt
  have x0:=hx6.cell 0
  have x1:=hx6.cell 1
  have x2:=hx6.cell 2
  have H6:=Hd_ (And.intro (H5.out.1.trans (hb6.mono H5.out.1.size)) (And.intro hx6 (And.intro (H5.out.2.2.1.mono (ZA hb6)) (And.intro (H5.out.2.2.2.1.mono (ZA hb6)) (H5.out.2.2.2.2.mono (ZA hb6))))))
  clear hb6 hx6
  go_wp2_with (fail)
  refine(HCO.out _ _ _ H6.out.1 H6.out.2.2.1).mono ?_
  rintro e w7 ⟨rfl,hb7⟩
  rw[HCP.out.1]
  clear x0 x1 x2
  have hx7:=H6.out.2.1.below hb7 H6.out.2.1.lt
  have x0:=hx7.cell 0
  have x1:=hx7.cell 1
  have x2:=hx7.cell 2
  have H7:=Hd_ (And.intro (H6.out.1.trans (hb7.mono H6.out.1.size)) (And.intro hx7 (And.intro (H6.out.2.2.1.mono (ZA hb7)) (And.intro (H6.out.2.2.2.1.mono (ZA hb7)) (H6.out.2.2.2.2.mono (ZA hb7))))))
  clear hb7 hx7
  go_wp2_with (fail)
  refine(HCO.out _ _ _ H7.out.1 H7.out.2.2.2.1).mono ?_
  rintro e w8 ⟨rfl,hb8⟩
  rw[HCP.out.2]
  clear x0 x1 x2
  have hx8:=H7.out.2.1.below hb8 H7.out.2.1.lt
  have x0:=hx8.cell 0
  have x1:=hx8.cell 1
  have x2:=hx8.cell 2
  have H8:=Hd_ (And.intro (H7.out.1.trans (hb8.mono H7.out.1.size)) (And.intro hx8 (And.intro (H7.out.2.2.1.mono (ZA hb8)) (And.intro (H7.out.2.2.2.1.mono (ZA hb8)) (H7.out.2.2.2.2.mono (ZA hb8))))))
  clear hb8 hx8
  go_wp2_with (fail)
  go_loopw [17] (fun v17 wr=>∃ k:Nat,v17=.int .i64 k∧k≤G∧Hid (Below w8.heap.size w8 wr)) (fun v17 _=>G - (intOf v17).toNat)
  case atStart=>exact⟨0,rfl,Nat.zero_le _,Hd_ (Below.refl _ _)⟩
  case round =>
   clear x0 x1 x2
   obtain⟨k,rfl,hk,HB⟩:=hrel
   have hur:=H8.out.2.1.below HB.out H8.out.2.1.lt
   have x0:=hur.cell 0
   have x1:=hur.cell 1
   have x2:=hur.cell 2
   have hbw:Below w.heap.size w wr:=H8.out.1.trans (HB.out.mono H8.out.1.size)
   by_cases hlt:k < G
   ·
    obtain⟨g,hg⟩ : ∃ g,u.graphs[k]? = some g:=⟨u.graphs[k]'(by rw[HGG.out];exact hlt),List.getElem?_eq_getElem _⟩
    have hrg:=(ZK HC.out).graphs g (List.mem_of_getElem? hg)
    have hla:(placeK u false G)[k]? = some (placeL u false k):=ZAV u false hlt
    have hlb:(placeK u true G)[k]? = some (placeL u true k):=ZAV u true hlt
    obtain⟨gb,go,rfl,gcs,hgv,hgc⟩:=HG.out.at_ hg
    obtain⟨ab,ao,rfl,fva,hac,hai⟩:=H8.out.2.2.1.at_ hla
    obtain⟨bb,bo,rfl,fvb,hbc,hbi⟩:=H8.out.2.2.2.1.at_ hlb
    rw[Nat.mul_one] at hac hbc
    obtain⟨nv,rfl,hnv⟩:=id hgv
    obtain⟨nA,nc,rfl,-⟩:=id hnv
    obtain⟨rA,rac,rfl,-⟩:=id hai
    obtain⟨rB,rbc,rfl,-⟩:=id hbi
    have hpp:=fun m=>ZFj HC.out hg m
    have hld:=fun x (hx:x∈placeL u false k)=>ZG2 HC.out hg hx
    have hfen:=ZCK HC.out hg false
    have hsub:=ZBZ hg
    have hsort:(placeL u false k).Pairwise (· < ·):=(ZBe.1 hfen).2
    have HNK:Hid (∀ n∈g.nodes,n.kind=2→0≤n.thing∧n.thing < u.shared.length):=Hd_ fun n hn h=>ZFP (hrg.nodes n hn) (.inl h)
    have hmost:=hrg.whole.most
    have hal9:=hai.len.2.2
    have hbl9:=hbi.len.2.2
    obtain⟨A,hA⟩ : ∃ A,placeL u false k=A:=⟨_,rfl⟩
    obtain⟨B,hB⟩ : ∃ B,placeL u true k=B:=⟨_,rfl⟩
    have hpa:(pairsR u (k:Int)).2=0→((pairsR u (k:Int)).1=[] ↔ A=[]):=by rw[← hA];exact hpp false
    have hpb:(pairsR u (k:Int)).2=0→((pairsR u (k:Int)).1=[] ↔ B=[]):=by rw[← hB];exact hpp true
    rw[hA] at hai hac hld hsub hsort hal9
    rw[hB] at hbi hbc hsub hbl9
    obtain⟨AL,hAL⟩ : ∃ AL,A.length=AL:=⟨_,rfl⟩
    obtain⟨BL,hBL⟩ : ∃ BL,B.length=BL:=⟨_,rfl⟩
    obtain⟨N,HN⟩ : ∃ N,Hid (g.nodes.length=N):=⟨_,rfl⟩
    rw[hAL] at hai hac hal9
    rw[hBL] at hbi hbc hbl9
    rw[HN.out] at hnv hgc hmost hld
    have HAL:=Hd_ hAL
    have HBL:=Hd_ hBL
    have HLD:=Hd_ hld
    have HAB:=Hd_ (And.intro hsub hsort)
    have HAI:=Hd_ hai
    have HBI:=Hd_ hbi
    have HNV:=Hd_ hnv
    have HPE:=Hd_ (And.intro hpa hpb)
    have HCE:Hid (∀ wx,Below w8.heap.size w8 wx→wx.cell? ⟨gb,go+k * 4+3,none⟩=some (.slice nA N nc)∧wx.cell? ⟨ab,ao+k,none⟩=some (.slice rA AL rac)∧wx.cell? ⟨bb,bo+k,none⟩=some (.slice rB BL rbc)∧wx.cell? ⟨w.heap.size,2,none⟩=some (.slice (some ⟨gb,go,none⟩) G gc)):=Hd_ fun wx h=>⟨ZA (H8.out.1.trans (h.mono H8.out.1.size)) _ _ _ (hgc 3 _ rfl),ZA h _ _ _ hac,ZA h _ _ _ hbc,(H8.out.2.1.below h H8.out.2.1.lt).cell 2⟩
    have HPC:=Hd_ (HPA.out wr (k:Int) hbw)
    unfold PairsPost at HPC
    have k0:(0:Int)≤k:=by omega
    have kG:(k:Int) < G:=by omega
    clear hg hrg hla hlb hgv hgc hac hbc hai hbi hnv hpp hpa hpb hld hfen hsub hsort hA hB hAL hBL hbw hur
    obtain⟨P,hP⟩ : ∃ P,(pairsR u (k:Int)).1=P:=⟨_,rfl⟩
    obtain⟨er,her⟩ : ∃ er,(pairsR u (k:Int)).2=er:=⟨_,rfl⟩
    rw[hP,her] at HPC HPE
    obtain⟨PL,hPL⟩ : ∃ PL,P.length=PL:=⟨_,rfl⟩
    rw[hPL] at HPC
    have HPL9:=Hd_ hPL
    clear hP her hPL
    go_wp2_with (fail)
    refine(HPC.out).mono ?_
    rintro e w9 ⟨pr,rfl,hpr,hb9⟩
    obtain⟨pA,pc,rfl,-⟩:=ZE hpr
    have HB9:=Hd_ (HB.out.trans (hb9.mono HB.out.size))
    clear hpr hb9 x0 x1 x2 HPC HB
    go_upto_region 18 with(fail)
    have y1:=(HCE.out _ HB9.out).2.1
    have y2:=(HCE.out _ HB9.out).2.2.1
    have hpl:PL=0 ↔ P=[]:=by rw[← HPL9.out];exact List.length_eq_zero_iff
    have hal:AL=0 ↔ A=[]:=by rw[← HAL.out];exact List.length_eq_zero_iff
    have hbl:BL=0 ↔ B=[]:=by rw[← HBL.out];exact List.length_eq_zero_iff
    go_cut [178] from 136 to 273 (fun v178 wx=>v178=.bool false∧wx=w9)
    case first =>
     by_cases he:er=0
     ·subst he
      have h1:PL=0 ↔ AL=0:=by rw[hpl,hal];exact HPE.out.1 rfl
      have h2:PL=0 ↔ BL=0:=by rw[hpl,hbl];exact HPE.out.2 rfl
      obtain⟨z,hz⟩ : ∃ z,((PL:Int) == 0)=z:=⟨_,rfl⟩
      have hz1:((AL:Int) == 0)=z:=by
       rw[← hz]
       by_cases h:PL=0
       ·rw[h,h1.1 h]
       ·have:=fun q=>h (h1.2 q)
        rw[beq_eq_false_iff_ne.2 (by omega),beq_eq_false_iff_ne.2 (by omega)]
      have hz2:((BL:Int) == 0)=z:=by
       rw[← hz]
       by_cases h:PL=0
       ·rw[h,h2.1 h]
       ·have:=fun q=>h (h2.2 q)
        rw[beq_eq_false_iff_ne.2 (by omega),beq_eq_false_iff_ne.2 (by omega)]
      have hzz:(z != z)=false:=by simp
      clear h1 h2 hpl hal hbl
      go_wp2
      go_meet
      exact⟨rfl,rfl⟩
     ·have he2:(er == 0)=false:=beq_eq_false_iff_ne.2 he
      clear hpl hal hbl he
      go_wp2
      go_meet
      exact⟨rfl,rfl⟩
    case rest =>
     obtain⟨rfl,hwc⟩:=hcut
     subst hwc
     clear hpl hal hbl y1 y2
     go_wp2_with (fail)
     go_loopw [20] (fun v20 wr=>∃ i:Nat,v20=.int .i64 i∧i≤AL∧Hid (Below w8.heap.size w8 wr)) (fun v20 _=>AL - (intOf v20).toNat)
     case atStart=>exact⟨0,rfl,Nat.zero_le _,HB9⟩
     case round =>
      clear HB9
      obtain⟨i,rfl,hi,HB⟩:=hrel
      by_cases hlt2:i < AL
      ·
       obtain⟨x,hx⟩ : ∃ x,A[i]? = some x:=⟨A[i]'(by rw[HAL.out];exact hlt2),List.getElem?_eq_getElem _⟩
       obtain⟨xn,n,rfl,hxN,hn,hlb⟩:=HLD.out x (List.mem_of_getElem? hx)
       obtain⟨eb,eo,e,hxc⟩:=HAI.out.at_ hx
       subst e
       rw[Nat.mul_one] at hxc
       obtain⟨nb,no,e,hnc⟩:=HNV.out.at_ hn
       subst e
       have hd:=of_decide_eq_true hlb
       have hth:=HNK.out n (List.mem_of_getElem? hn) hd.1
       obtain⟨tn,htn⟩:=Int.eq_ofNat_of_zero_le hth.1
       have htn2:tn < u.shared.length:=by omega
       have hcn:(clsU u).length=u.shared.length:=by simp[clsU]
       obtain⟨cb2,co,e,hcc⟩:=H8.out.2.2.2.2.at_ (i:=tn) (x:=classF u (tn:Int)) (by simp[clsU,htn2])
       obtain⟨cA',cc',e2,-⟩:=id H8.out.2.2.2.2
       injection e2 with e2 e3 e4
       subst e2 e3 e4
       subst e
       rw[hcn]
       have hkk:(classF u (tn:Int)).kind=3:=by rw[← htn];exact hd.2
       have hc0:=ZBJ (f:=fun c:Cls=>c.cells) hcc 0 (.int .u8 (classF u (tn:Int)).kind) rfl
       rw[Nat.add_zero,hkk] at hc0
       have hbw:Below w.heap.size w wr:=H8.out.1.trans (HB.out.mono H8.out.1.size)
       have hnk:n.kind=2:=hd.1
       obtain⟨S,hS⟩ : ∃ S,u.shared.length=S:=⟨_,rfl⟩
       rw[hS] at htn2 ⊢
       have HNC:Hid (∀ wx,Below wr.heap.size wr wx→∀ j v,n.cells[j]? = some v→wx.cell? ⟨nb,no+xn * 13+j,none⟩=some v):=Hd_ fun wx h j v hj=>ZA (hbw.trans (h.mono hbw.size)) _ _ _ (hnc j v hj)
       have HTK:=Hd_ (And.intro hnk htn)
       have HC0:=Hd_ hc0
       have HXC:=Hd_ hxc
       clear hx hlb hxc hnc hd hth hn hcc hkk hc0 hcn hS hbw hnk htn
       have y0:=(HCE.out _ HB.out).2.2.2
       have y1:=(HCE.out _ HB.out).2.1
       have y3:=(HCE.out _ HB.out).1
       have i0:(0:Int)≤i:=by omega
       have iA:(i:Int) < AL:=by omega
       have z0:(0:Int)≤(xn:Nat):=by omega
       have zN:((xn:Nat) : Int) < N:=by omega
       go_upto_region 23 with(fail)
       haveI hne:Nonempty (XC (cNew wr 61 fzN n.cells 15 16)):=XC.ne Zk
       have hB:∀ x:XC (cNew wr 61 fzN n.cells 15 16),Below wr.heap.size wr x.w:=fun x=>ZAy x
       have f0:∀ x:XC (cNew wr 61 fzN n.cells 15 16),x.w.cell? ⟨w.heap.size,2,none⟩=some (.slice (some ⟨gb,go,none⟩) G gc):=fun x=>ZA (hB x) _ _ _ y0
       have f1:∀ x:XC (cNew wr 61 fzN n.cells 15 16),x.w.cell? ⟨ab,ao+k,none⟩=some (.slice (some ⟨eb,eo,none⟩) AL rac):=fun x=>ZA (hB x) _ _ _ y1
       have f2:∀ x:XC (cNew wr 61 fzN n.cells 15 16),x.w.cell? ⟨eb,eo+i,none⟩=some (.int .i64 (xn:Nat)):=fun x=>ZA (HB.out.trans ((hB x).mono HB.out.size)) _ _ _ HXC.out
       have f3:∀ x:XC (cNew wr 61 fzN n.cells 15 16),x.w.cell? ⟨gb,go+k * 4+3,none⟩=some (.slice (some ⟨nb,no,none⟩) N nc):=fun x=>ZA (hB x) _ _ _ y3
       have F6:Hid (∀ x:XC (cNew wr 61 fzN n.cells 15 16),∀ j v,n.cells[j]? = some v→x.w.cell? ⟨nb,no+xn * 13+j,none⟩=some v):=Hd_ fun x j v hj=>HNC.out _ (hB x) j v hj
       refine Z8 (cNew wr 61 fzN n.cells 15 16) [15,16] [0,1,2,3,4,5,6,7,8,9,10,11,12,13,14,15,16] (by kernel_rfl) (by kernel_rfl) (by kernel_rfl) Zk (ZDh rfl rfl) (ZDi rfl (by decide)) (ZBS (by rfl)) ?_
       repeat (refine ZAk rfl rfl (fun K hK=>?_);go_simp;refine hK _ ?_;clear hK K)
       refine ZAl (some 202) rfl rfl rfl rfl 61 _ rfl nb (no+xn * 13) rfl n.cells _ F6.out Tryd.underlying61 rfl (by kernel_rfl) ?_
       refine ZAn (some 21) rfl rfl rfl rfl (fun D A x hD _ _ hC=>ZAz rfl (.agg fzN.toArray) rfl (fun _=>by kernel_rfl) (by decide) hD hC) (fun D A x hD hpre hC=>?_)
       rw[hC.2.1 hD]
       clear hpre hC hD x A D
       refine ZAm rfl rfl rfl rfl (fun D A x hD hp hpre hC=>ZAx (W:=wr) (z:=fzN) (cs:=n.cells) rfl rfl rfl (by kernel_rfl) rfl rfl (by decide) (hpre 15 (by simp)).1 hD hC) (fun D A x hD hpre hC=>?_)
       clear hpre hC hD x A D
       refine ZBL (fun D A x hD hAA hC=>?_)
       obtain⟨q2,rfl⟩:=ZCA (hD 16 (by decide)) hC
       clear hAA hC hD A D
       simp only[Act.put,List.setIfInBounds_toArray,List.set_cons_zero,List.set_cons_succ]
       clear f0 f1 f2 f3 F6 hB hne
       have hcell:∀ j v,n.cells[j]? = some v→((wr.alloc (.cells n.cells.toArray 61)).drewN q2).cell? ⟨wr.heap.size,0+j,none⟩=some v:=ZL wr n.cells 61 wr.heap.size rfl
       have ha4:Below wr.heap.size wr ((wr.alloc (.cells n.cells.toArray 61)).drewN q2):=ZX q2 (ZB wr _)
       obtain⟨wn,hwn⟩ : ∃ wn,(wr.alloc (.cells n.cells.toArray 61)).drewN q2=wn:=⟨_,rfl⟩
       rw[hwn] at hcell ha4 ⊢
       clear hwn
       have HB4:=Hd_ (HB.out.trans (ha4.mono HB.out.size))
       have p0:=hcell 0 _ rfl
       have p3:=hcell 3 _ rfl
       rw[HTK.out.1] at p0
       rw[HTK.out.2] at p3
       rw[Nat.zero_add] at p0 p3
       have pc0:wn.cell? ⟨cb2,co+tn * 3,none⟩=some (.int .u8 3):=ZA HB4.out _ _ _ HC0.out
       have t0:(0:Int)≤(tn:Nat):=by omega
       have tS:((tn:Nat) : Int) < S:=by omega
       obtain⟨X,hX⟩ : ∃ X,wr.heap.size=X:=⟨_,rfl⟩
       rw[hX] at p0 p3 ⊢
       clear hcell ha4 hX HB y0 y1 y3 HNC
       go_wp2
       go_roundw
       case rel=>exact⟨i+1,by go_num,by omega,HB4⟩
       case measure=>simp[intOf];omega
      ·
       have y1:=(HCE.out _ HB.out).2.1
       go_wp2_with (fail)
       clear y1
       obtain⟨wo,rfl⟩ : ∃ wo:World,wo=wr:=⟨_,rfl⟩
       go_loopw [22,23] (fun v22 v23 wr=>∃ p i:Nat,v22=.int .i64 p∧v23=.int .i64 i∧p≤AL∧i≤BL∧Hid (Amid A B p i)∧Hid (Below w8.heap.size w8 wr)) (fun _ v23 _=>BL - (intOf v23).toNat)
       case atStart=>exact⟨0,0,rfl,rfl,Nat.zero_le _,Nat.zero_le _,Hd_ HAB.out.1,HB⟩
       case round =>
        clear HB
        obtain⟨p,j,rfl,rfl,hp,hj,HM,HB⟩:=hrel
        by_cases hlt3:j < BL
        ·obtain⟨y,hy⟩ : ∃ y,B[j]? = some y:=⟨B[j]'(by rw[HBL.out];exact hlt3),List.getElem?_eq_getElem _⟩
         obtain⟨fb,fo,e,hyc⟩:=HBI.out.at_ hy
         subst e
         rw[Nat.mul_one] at hyc
         have HYC:=Hd_ (And.intro hy hyc)
         clear hy hyc
         have y2:=(HCE.out _ HB.out).2.2.1
         have j0:(0:Int)≤j:=by omega
         have jB:(j:Int) < BL:=by omega
         go_wp2_with (fail)
         clear y2
         obtain⟨wo,rfl⟩ : ∃ wo:World,wo=wr:=⟨_,rfl⟩
         go_loopw [22] (fun v22 wr=>∃ p:Nat,v22=.int .i64 p∧p≤AL∧Hid (Amid A B p j)∧Hid (Below w8.heap.size w8 wr)) (fun v22 _=>AL - (intOf v22).toNat)
         case atStart=>exact⟨p,rfl,hp,HM,HB⟩
         case round =>
          clear HM HB hp
          obtain⟨p,rfl,hp,HM,HB⟩:=hrel
          have hpA:=HM.out.lt HYC.out.1
          obtain⟨x,hx⟩ : ∃ x,A[p]? = some x:=⟨A[p]'hpA,List.getElem?_eq_getElem _⟩
          rw[HAL.out] at hpA
          obtain⟨eb,eo,e,hxc⟩:=HAI.out.at_ hx
          subst e
          rw[Nat.mul_one] at hxc
          have y1:=(HCE.out _ HB.out).2.1
          have y2:=(HCE.out _ HB.out).2.2.1
          have y4:wr.cell? ⟨fb,fo+j,none⟩=some (.int .i64 y):=ZA HB.out _ _ _ HYC.out.2
          have y5:wr.cell? ⟨eb,eo+p,none⟩=some (.int .i64 x):=ZA HB.out _ _ _ hxc
          have HX:=Hd_ hx
          have p0:(0:Int)≤p:=by omega
          have pA:(p:Int) < AL:=by omega
          have pd:decide ((p:Int) < AL)=true:=decide_eq_true pA
          have pe:decide ((AL:Int)≤p)=false:=decide_eq_false (by omega)
          have pe2:decide (AL≤p)=false:=decide_eq_false (by omega)
          have pd2:decide (p < AL)=true:=decide_eq_true (by omega)
          clear hx hxc
          by_cases hxy:x < y
          ·have hxn:x≠y:=by omega
           have dxy:decide (x < y)=true:=decide_eq_true hxy
           have HM2:=Hd_ (HM.out.pass HX.out HYC.out.1 hxn)
           clear hxn hxy HM
           go_wp2_with (fail)
           refine wp_region_quiet_lit (by kernel_rfl) (by kernel_rfl) ?_
           repeat (go_big_quiet_step (fail))
           refine wpQuiet_nil ?_
           intro _ hw'
           obtain⟨n2,hw2⟩:=hw'
           subst hw2
           have HB2:=Hd_ (HB.out.trans ((ZF wr n2).mono HB.out.size))
           go_wp2
           go_roundw
           case rel=>exact⟨p+1,by go_num,by omega,HM2,HB2⟩
           case measure=>simp[intOf];omega
          ·have dxy:decide (x < y)=false:=decide_eq_false hxy
           have hxe:=HM.out.eq HAB.out.2 HX.out HYC.out.1 hxy
           subst hxe
           have dxn:(x != x)=false:=by simp
           have HM2:=Hd_ HM.out.next
           clear hxy HM
           go_wp2_with (fail)
           refine wp_region_quiet_lit (by kernel_rfl) (by kernel_rfl) ?_
           repeat (go_big_quiet_step (fail))
           refine wpQuiet_nil ?_
           intro _ hw'
           obtain⟨n2,hw2⟩:=hw'
           subst hw2
           have HB2:=Hd_ (HB.out.trans ((ZF wr n2).mono HB.out.size))
           have y1:=(HCE.out _ HB2.out).2.1
           have y2:=(HCE.out _ HB2.out).2.2.1
           have y4:(wr.drewN n2).cell? ⟨fb,fo+j,none⟩=some (.int .i64 x):=ZA HB2.out _ _ _ HYC.out.2
           have y5':(wr.drewN n2).cell? ⟨eb,eo+p,none⟩=some (.int .i64 x):=ZA (ZF wr n2) _ _ _ y5
           obtain⟨wq,hwq⟩ : ∃ wq,wr.drewN n2=wq:=⟨_,rfl⟩
           rw[hwq] at y1 y2 y4 y5' HB2 ⊢
           clear y5 HB hwq
           go_wp2_with (fail)
           refine wp_region_quiet_lit (by kernel_rfl) (by kernel_rfl) ?_
           repeat (go_big_quiet_step (fail))
           refine wpQuiet_nil ?_
           intro _ hw'
           obtain⟨n2,hw2⟩:=hw'
           subst hw2
           have HB3:=Hd_ (HB2.out.trans ((ZF wq n2).mono HB2.out.size))
           go_wp2
           go_roundw
           case rel=>exact⟨p,j+1,rfl,by go_num,by omega,by omega,HM2,HB3⟩
           case measure=>simp[intOf];omega
        ·have y2:=(HCE.out _ HB.out).2.2.1
         go_wp2
         go_roundw
         case rel=>exact⟨k+1,by go_num,by omega,HB⟩
         case measure=>simp[intOf];omega
   ·go_wp2
    go_ret
    exact⟨rfl,hbw⟩
 ·
  have HPB:=Hd_ fun m=>ZCJ (m:=m) hc
  have HCL:=Hd_ fun w1 h=>(hcl w1 h).mono fun e w' hp=>(by
   rcases hp with⟨hbad,_⟩ | ⟨_,hp⟩
   ·exact absurd hbad hc
   ·exact hp:e=.returned (.tuple #[.slice none 0 0,.int .i64 60])∧Below w1.heap.size w1 w')
  clear hcl hsf hco hpa hc
  go_enter Tryd.func6,Tryd.ntmps6
  go_wp2_with (fail)
  refine(HBG.out _ HBX.out.2).mono ?_
  rintro e w1 ⟨rfl,hb1⟩
  have hx1:=HBX.out.1.below hb1 HBX.out.1.lt
  have x0:=hx1.cell 0
  have x1:=hx1.cell 1
  have x2:=hx1.cell 2
  have H1:=Hd_ (And.intro (HBX.out.2.trans (hb1.mono HBX.out.2.size)) hx1)
  clear hb1 hx1
  go_wp2_with (fail)
  refine(HPL.out false _ H1.out.1).mono ?_
  rintro e w2 h2
  obtain⟨bv,rfl,hb2,hbv⟩:=ZBY h2
  rw[HPB.out] at hbv ⊢
  obtain⟨bA2,bc2,rfl,-⟩:=id hbv
  simp only[List.length_nil] at hbv ⊢
  clear x0 x1 x2
  have hx2:=H1.out.2.below hb2 H1.out.2.lt
  have x0:=hx2.cell 0
  have x1:=hx2.cell 1
  have x2:=hx2.cell 2
  have H2:=Hd_ (And.intro (H1.out.1.trans (hb2.mono H1.out.1.size)) hx2)
  clear hb2 hx2 hbv h2
  go_wp2_with (fail)
  refine(HPL.out true _ H2.out.1).mono ?_
  rintro e w3 h3
  obtain⟨bv,rfl,hb3,hbv⟩:=ZBY h3
  rw[HPB.out] at hbv ⊢
  obtain⟨bA3,bc3,rfl,-⟩:=id hbv
  simp only[List.length_nil] at hbv ⊢
  clear x0 x1 x2
  have hx3:=H2.out.2.below hb3 H2.out.2.lt
  have x0:=hx3.cell 0
  have x1:=hx3.cell 1
  have x2:=hx3.cell 2
  have H3:=Hd_ (And.intro (H2.out.1.trans (hb3.mono H2.out.1.size)) hx3)
  clear hb3 hx3 hbv h3
  go_wp2_with (fail)
  refine(HCL.out _ H3.out.1).mono ?_
  rintro e w4 ⟨rfl,hb4⟩
  have H4:=Hd_ (H3.out.1.trans (hb4.mono H3.out.1.size))
  clear hb4 x0 x1 x2
  go_wp2
  go_ret
  exact⟨rfl,H4.out⟩
end Go.Proofs.YtffgnjgphkdodaaDoor
