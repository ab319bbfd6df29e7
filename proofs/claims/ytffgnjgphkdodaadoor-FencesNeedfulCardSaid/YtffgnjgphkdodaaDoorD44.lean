import Derived.Test.YtffgnjgphkdodaaDoorD40
import Derived.Test.YtffgnjgphkdodaaDoorD41
import Derived.Test.YtffgnjgphkdodaaDoorD43
import Derived.Test.YtffgnjgphkdodaaDoorD3
import Derived.Test.YtffgnjgphkdodaaDoorD29
namespace Go.Proofs.YtffgnjgphkdodaaDoor
open Go Go.RowKit
theorem ZGw {u:Unit_} {t:Nat} {g:Graph} (hc:checkF u=none) (hg:u.graphs[t]? = some g) {x:Int} (hx:x∈placeL u true t) :
  needR u (t:Int) (placeL u true t) x=(true,0)∧∃ s d,aloneR u (t:Int) (placeL u true t) x=((aloneR u (t:Int) (placeL u true t) x).1,true,0)∧AloneIs u g (withoutL (placeL u true t) x) x (aloneR u (t:Int) (placeL u true t) x).1 s d:=by
 have hfb:=ZCK hc hg true
 have hlt:=(List.getElem?_eq_some_iff.1 hg).1
 have ha:askE u (t:Int)=0:=ZCZ hc ⟨by omega,by omega⟩
 have hE:faultE u (t:Int) (placeL u true t) x=0:=by
  rw[ZB9 ha (by rw[Int.toNat_natCast];exact hg),if_pos ⟨hfb,hx⟩]
 have hne:=ZFg hc hg hx
 have hal:=ZA9 hE hg (ZBN hc hg true)
 rw[hne] at hal
 refine⟨by unfold needR;rw[if_pos hE,hne];rfl,?_⟩
 rcases ZDl hE hg with⟨h1,_⟩ | ⟨s,d,h1,h2⟩
 ·rw[h1] at hal;exact absurd hal (by decide)
 ·exact⟨s,d,h1,h2⟩
theorem ZFo {u:Unit_} {g:Graph} {R:List Int} {x:Int} {l:List Int} {s d:Nat} (h:AloneIs u g R x l s d) : l[0]? = some (s:Int)∧ReachC g (-1) s:=by
 obtain⟨r,hr⟩:=ZCD (g:=g) (R:=R) (nd:=x) (spD u g R x) d (s:Int) false
 exact⟨by rw[h.is_,hr];rfl,(ZAS.1 h.st).1⟩
def srTb (base n:Nat) (cs:List Value) : SR:=⟨fun w v=>∃ r,v=.tuple #[r,.bool true,.int .i64 0]∧w.ownsRow base 3 1 r n cs,fun hb ⟨r,e,h⟩=>⟨r,e,ZT h hb⟩⟩
def slFd:List Nat:=[67,68,69,70,71,72,73,74,75,76,77,78,79,80,66,81,82,10,11]
def slFe:List Nat:=[84,85,86,87,88,89,90,91,92,93,94,95,96,97,83,98,99,100,12,13,14]
def slFf:List Nat:=[101,102,103,104,105,106,107,108,109,110,111,112,113,114,115,116,117,118,119,120,121,122,123,124,125,126,127,128,129,130,131,132,133,134,135,136,137,138,139,140,141,142]
set_option maxRecDepth 100000 in
set_option maxHeartbeats 8000000 in
theorem ZBu (u:Unit_) (cs:List Value) (w:World) (hT:Tab w) (hu:UnitV (cmap w) cs u) (hok:UOk u) :
  Calls Tryd.prog 3 #[.agg cs.toArray] w fun e w'=>e=.returned (.bool true)∧Below w.heap.size w w':=by
 have HBG:=Hd_ fun w1 (h:Below w.heap.size w w1)=>Z7 w1 (hT.below h)
 have HPL:=Hd_ fun w1 (h:Below w.heap.size w w1)=>ZA7 u cs true w1 (hT.below h) (hu.mono (ZA h)) hok
 have hcl:=fun w1 (h:Below w.heap.size w w1)=>Zt u cs w1 (hT.below h) (hu.mono (ZA h)) hok
 have hnd:=fun w1 (t:Int) (v:Value) (F:List Int) (n:Int) (h:Below w.heap.size w w1) (hF:Ints (cmap w1) v F)=>Z6 u cs t v F n w1 (hT.below h) (hu.mono (ZA h)) hok hF
 have hal:=fun w1 (t:Int) (v:Value) (F:List Int) (n:Int) (h:Below w.heap.size w w1) (hF:Ints (cmap w1) v F)=>ZAa u cs t v F n w1 (hT.below h) (hu.mono (ZA h)) hok hF
 have HUU:=Hd_ hu
 obtain⟨sv,lv,gv,rfl,-,-,hgs⟩:=hu
 obtain⟨gA,gc,rfl,-⟩:=id hgs
 have hgl:=hgs.len.2.2
 have hbx:=Blk.new w 25 [sv,lv,.slice gA u.graphs.length gc]
 have hb0:=ZB w (.cells #[sv,lv,.slice gA u.graphs.length gc] 25)
 have HBX:=Hd_ (And.intro hbx hb0)
 have HG:=Hd_ hgs
 clear hbx hb0 hgs hT
 by_cases hc:checkF u=none
 ·have HCL:=Hd_ fun w1 h=>(hcl w1 h).mono fun e w' hp=>(by
   rcases hp with⟨_,hp⟩ | ⟨hbad,_⟩
   ·exact hp
   ·exact absurd hc hbad:∃ v,e=.returned (.tuple #[v,.int .i64 0])∧Clss (part w' w1.heap.size w'.heap.size) v (clsU u)∧Below w1.heap.size w1 w')
  have h8:=(ZK hc).threads
  have HND:=Hd_ hnd
  have HAL:=Hd_ hal
  have HC:=Hd_ hc
  have HPG:=Hd_ (ZAU (m:=true) hc)
  have HKL:=Hd_ (Zr u true u.graphs.length)
  obtain⟨G,hG⟩ : ∃ G,u.graphs.length=G:=⟨_,rfl⟩
  have HGG:=Hd_ hG
  rw[hG] at HPG HKL HBX HG hgl h8 HPL HCL HND HAL HUU ⊢
  clear hcl hnd hal hc hG
  go_enter Tryd.func3,Tryd.ntmps3
  go_wp2_with (first
   | (go_at_call 7
      refine(HBG.out _ HBX.out.2).mono ?_
      rintro e w1 ⟨rfl,hb1⟩
      have hx1:=HBX.out.1.below hb1 HBX.out.1.lt
      have x0:=hx1.cell 0
      have x1:=hx1.cell 1
      have x2:=hx1.cell 2
      have H1:=Hd_ (And.intro (HBX.out.2.trans (hb1.mono HBX.out.2.size)) hx1)
      clear hb1 hx1)
   | (go_at_call 8
      refine(HPL.out _ H1.out.1).mono ?_
      rintro e w2 h2
      obtain⟨bv,rfl,hb2,hbv⟩:=ZBY h2
      rw[HPG.out] at hbv ⊢
      obtain⟨bA,bc,rfl,-⟩:=id hbv
      simp only[HKL.out] at hbv ⊢
      have hx2:=H1.out.2.below hb2 H1.out.2.lt
      have x0:=hx2.cell 0
      have x1:=hx2.cell 1
      have x2:=hx2.cell 2
      have H2:=Hd_ (And.intro (H1.out.1.trans (hb2.mono H1.out.1.size)) (And.intro hx2 hbv))
      clear hb2 hx2 hbv h2)
   | (go_at_call 9
      refine(HCL.out _ H2.out.1).mono ?_
      rintro e w3 ⟨cv,rfl,hcs,hb3⟩
      obtain⟨cA,cn,cc,rfl⟩ : ∃ A n c,cv=.slice A n c:=by obtain⟨A,c,e,_⟩:=hcs;exact⟨_,_,_,e⟩
      have hx3:=H2.out.2.1.below hb3 H2.out.2.1.lt
      have x0:=hx3.cell 0
      have x1:=hx3.cell 1
      have x2:=hx3.cell 2
      have H3:=Hd_ (And.intro (H2.out.1.trans (hb3.mono H2.out.1.size)) (And.intro hx3 (And.intro (H2.out.2.2.mono (ZA hb3)) (hcs.mono (ZV _ _ _)))))
      clear hcs hb3 hx3))
  go_loopw [7] (fun v7 wr=>∃ k:Nat,v7=.int .i64 k∧k≤G∧Hid (Below w3.heap.size w3 wr)) (fun v7 _=>G - (intOf v7).toNat)
  case atStart=>exact⟨0,rfl,Nat.zero_le _,Hd_ (Below.refl _ _)⟩
  case round =>
   clear x0 x1 x2
   obtain⟨k,rfl,hk,HB⟩:=hrel
   have hur:=H3.out.2.1.below HB.out H3.out.2.1.lt
   have x0:=hur.cell 0
   have x1:=hur.cell 1
   have x2:=hur.cell 2
   by_cases hlt:k < G
   ·obtain⟨g,hg⟩ : ∃ g,u.graphs[k]? = some g:=⟨u.graphs[k]'(by rw[HGG.out];exact hlt),List.getElem?_eq_getElem _⟩
    have hrg:=(ZK HC.out).graphs g (List.mem_of_getElem? hg)
    have hl:(placeK u true G)[k]? = some (placeL u true k):=ZAV u true hlt
    obtain⟨gb,go,rfl,gcs,hgv,hgc⟩:=HG.out.at_ hg
    obtain⟨lb,lo,rfl,fv,hfc,hfi⟩:=H3.out.2.2.1.at_ hl
    rw[Nat.mul_one] at hfc
    have hbw:Below w.heap.size w wr:=H3.out.1.trans (HB.out.mono H3.out.1.size)
    obtain⟨nv,rfl,hnv⟩:=id hgv
    obtain⟨nA,nc,rfl,-⟩:=id hnv
    have HLD:Hid (∀ j v,([.string g.name,.int .i64 g.locals,.int .i64 g.slots,.slice nA g.nodes.length nc] : List Value)[j]? = some v→wr.cell? ⟨gb,go+k * 4+j,none⟩=some v):=Hd_ fun j v hj=>ZA hbw _ _ _ (hgc j v hj)
    have HRE:=Hd_ (ZDv g _ wr hrg.whole (hgv.mono (ZA hbw)))
    obtain⟨fA,fc,rfl,-⟩:=id hfi
    have k0:(0:Int)≤k:=by omega
    have kG:(k:Int) < G:=by omega
    have HFC:=Hd_ (And.intro hfc (And.intro hfi (And.intro hg hrg)))
    clear hg hrg hl hgv hgc hfc hfi hnv hbw hur
    go_wp2_with (first
     | (refine ZC rfl 38 _ rfl gb (go+k * 4) rfl _ _ HLD.out Tryd.underlying38 rfl (by kernel_rfl) ?_)
     | (go_at_call 10
        refine(HRE.out).mono ?_
        rintro e w4 ⟨rv,rl,rfl,hrv,hrl,hrr,hb4⟩
        obtain⟨vA,vc,rfl,-⟩:=id hrv
        have H4:=Hd_ (And.intro (HB.out.trans (hb4.mono HB.out.size)) (And.intro (hrv.mono (ZV _ _ _)) (And.intro hrl hrr)))
        clear hrv hrl hrr hb4))
    clear HB x0 x1 x2 HLD HRE
    obtain⟨F,hF⟩ : ∃ F,placeL u true k=F:=⟨_,rfl⟩
    have HFE:=Hd_ hF
    rw[hF] at HFC
    clear hF
    obtain⟨FL,hFL⟩ : ∃ FL,F.length=FL:=⟨_,rfl⟩
    have hfl9:=HFC.out.2.1.len.2.2
    rw[hFL] at HFC hfl9
    have HFL:=Hd_ hFL
    obtain⟨RL,hRL⟩ : ∃ RL,rl.length=RL:=⟨_,rfl⟩
    have HRL:=Hd_ hRL
    rw[hRL] at H4
    try rw[hRL]
    clear hFL hRL
    obtain⟨wo,rfl⟩ : ∃ wo:World,wo=w4:=⟨_,rfl⟩
    go_loopw [9] (fun v9 wr=>∃ i:Nat,v9=.int .i64 i∧i≤FL∧Hid (Below wo.heap.size wo wr)) (fun v9 _=>FL - (intOf v9).toNat)
    case atStart=>exact⟨0,rfl,Nat.zero_le _,Hd_ (Below.refl _ _)⟩
    case round =>
     obtain⟨i,rfl,hi,HB⟩:=hrel
     by_cases hlt2:i < FL
     ·obtain⟨x,hx⟩ : ∃ x,F[i]? = some x:=⟨F[i]'(by rw[HFL.out];exact hlt2),List.getElem?_eq_getElem _⟩
      obtain⟨fb,fo,e,hxc⟩:=HFC.out.2.1.at_ hx
      subst e
      rw[Nat.mul_one] at hxc
      have hmem:x∈placeL u true k:=by rw[HFE.out];exact List.mem_of_getElem? hx
      obtain⟨hne,s,d,hao,hai⟩:=ZGw HC.out HFC.out.2.2.1 hmem
      rw[HFE.out] at hne hao hai
      have hway:=ZFo hai
      have hal:=ZJO HFC.out.2.2.2.whole hai
      have hsl:=hai.sl
      obtain⟨Wy,hWy⟩ : ∃ Wy,(aloneR u (k:Int) F x).1=Wy:=⟨_,rfl⟩
      rw[hWy] at hao hway hal
      obtain⟨KW,hKK⟩ : ∃ KW,Wy.length=KW:=⟨_,rfl⟩
      have hk9:=hal.len9
      have hk2:=hal.len
      rw[hKK] at hk9 hk2
      have HKL9:=Hd_ hKK
      obtain⟨vb,vo,e,hvc⟩:=H4.out.2.1.at_ ((H4.out.2.2.2 s).2 hway.2)
      subst e
      rw[Nat.mul_one] at hvc
      have hsR:s < RL:=by rw[H4.out.2.2.1];exact hsl
      obtain⟨lb',lo',e,-⟩:=H3.out.2.2.1.at_ (ZAV u true hlt)
      have hb3:∀ wx,Below wo.heap.size wo wx→Below w3.heap.size w3 wx:=fun wx h=>H4.out.1.trans (h.mono H4.out.1.size)
      have hbw:∀ wx,Below wo.heap.size wo wx→Below w.heap.size w wx:=fun wx h=>H3.out.1.trans ((hb3 wx h).mono H3.out.1.size)
      have hnx:=fun wx (h:Below wo.heap.size wo wx)=>HND.out wx (k:Int) _ F x (hbw wx h) (HFC.out.2.1.mono (ZA (hb3 wx h)))
      simp only[hne] at hnx
      have hay:=fun wx (h:Below wo.heap.size wo wx)=>HAL.out wx (k:Int) _ F x (hbw wx h) (HFC.out.2.1.mono (ZA (hb3 wx h)))
      unfold AlonePost at hay
      rw[hao] at hay
      rw[hKK] at hay
      have HLY:=Hd_ fun wx (h:Below wo.heap.size wo wx) (wv:Value) (hwv:Ints (cmap wx) wv Wy)=>ZCh u _ g k _ _ wv F Wy x wx (HUU.out.mono (ZA (hbw wx h))) HFC.out.2.2.1 HFC.out.2.2.2 (H3.out.2.2.2.mono (ZA (hb3 wx h))) (HFC.out.2.1.mono (ZA (hb3 wx h))) hwv hal
      have HNY:=Hd_ hnx
      have HAY:=Hd_ hay
      have HRW:=Hd_ fun wx (h:Below wo.heap.size wo wx)=>(ZA h _ _ _ hvc:wx.cell? ⟨vb,vo+s,none⟩=some (.bool true))
      have HXB:=Hd_ (And.intro hbw (And.intro (fun wx (h:Below wo.heap.size wo wx)=>(ZA (hb3 wx h) _ _ _ hxc:wx.cell? ⟨fb,fo+i,none⟩=some (.int .i64 x))) (And.intro (fun wx (h:Below wo.heap.size wo wx)=>(ZA (hb3 wx h) _ _ _ HFC.out.1:wx.cell? ⟨lb,lo+k,none⟩=some (.slice (some ⟨fb,fo,none⟩) FL fc))) (fun wx (h:Below wo.heap.size wo wx)=>H3.out.2.1.below (hb3 wx h) H3.out.2.1.lt))))
      have HSY:=Hd_ hway
      have i0:(0:Int)≤i:=by omega
      have iF:(i:Int) < FL:=by omega
      have HXC:=Hd_ fun wx (h:Below wr.heap.size wr wx)=>HXB.out.2.1 wx (HB.out.trans (h.mono HB.out.size))
      have HWC:=Hd_ fun wx (h:Below wr.heap.size wr wx)=>HXB.out.2.2.1 wx (HB.out.trans (h.mono HB.out.size))
      have HUW:=Hd_ fun wx (h:Below wr.heap.size wr wx)=>HXB.out.2.2.2 wx (HB.out.trans (h.mono HB.out.size))
      have HNX:=Hd_ fun wx (h:Below wr.heap.size wr wx)=>HNY.out wx (HB.out.trans (h.mono HB.out.size))
      clear hx hxc hmem hne hao hai hway hal hsl hWy hKK hvc e hb3 hbw hnx hay
      obtain⟨W0,rfl⟩ : ∃ W0:World,W0=wr:=⟨_,rfl⟩
      have q3:W0.cell? ⟨lb,lo+k,none⟩=some (.slice (some ⟨fb,fo,none⟩) FL fc):=HWC.out _ (Below.refl _ _)
      go_wp2_with (fail)
      clear q3
      refine ZAf fun a0 ha0=>?_
      have t1:a0.eval (.tmp 1)=.pointer (some ⟨w.heap.size,0,none⟩):=by rw[ha0];rfl
      have t7:a0.eval (.tmp 7)=.int .i64 (k:Nat):=by rw[ha0];rfl
      have t3:a0.eval (.tmp 3)=.slice (some ⟨lb,lo,none⟩) G bc:=by rw[ha0];rfl
      have t9:a0.eval (.tmp 9)=.int .i64 (i:Nat):=by rw[ha0];rfl
      have hsz:a0.tmps.size=143:=by rw[ha0];rfl
      have HA0:=Hd_ ha0;clear ha0
      refine Zh [(67,.is (.agg #[sv,lv,.slice (some ⟨gb,go,none⟩) G gc])),(68,.is (.int .i64 (k:Nat))),(69,.is (.slice (some ⟨lb,lo,none⟩) G bc)),(70,.is (.int .i64 (k:Nat))),(71,.is (.pointer (some ⟨lb,lo+k,none⟩))),(72,.is (.slice (some ⟨fb,fo,none⟩) FL fc)),(73,.is (.slice (some ⟨lb,lo,none⟩) G bc)),(74,.is (.int .i64 (k:Nat))),(75,.is (.pointer (some ⟨lb,lo+k,none⟩))),(76,.is (.slice (some ⟨fb,fo,none⟩) FL fc)),(77,.is (.int .i64 (i:Nat))),(78,.is (.pointer (some ⟨fb,fo+i,none⟩))),(79,.is (.int .i64 x)),(80,.is (.tuple #[.bool true,.int .i64 0])),(66,.is (.tuple #[.bool true,.int .i64 0])),(81,.is (.bool true)),(82,.is (.int .i64 0)),(10,.is (.bool true)),(11,.is (.int .i64 0))] (by kernel_rfl) (by kernel_rfl) ?steps ?done
      case steps =>
       clear HBG HPL HUU HG HND HAL HC HPG HKL HGG HFC H4 HFE HFL HRL HLY HNY HSY HA0 HXB HCL HBX HKL9 H3 HRW HAY HB
       refine⟨?_,?_,?_,?_,?_,?_,?_,?_,?_,?_,?_,?_,?_,?_,?_,?_,?_,?_,?_,trivial⟩
       ·
        refine JW.step (slots:=slFd) rfl (by decide) (by rw[hsz];decide) (67,.is (.agg #[sv,lv,.slice (some ⟨gb,go,none⟩) G gc])) rfl rfl rfl ?_
        intro D a wx K hD hp h hK
        have hfr:Fr slFd a0 a:=h.fr
        refine ZD rfl ?_
        have q1:a.eval (.tmp 1)=.pointer (some ⟨w.heap.size,0,none⟩):=(hfr.eval (j:=1) (by decide)).trans t1
        refine ZAG hK 25 _ rfl w.heap.size (0) q1 _ (by have hb:=h.below;exact fun j v hj=>by rw[Nat.zero_add,(HUW.out wx hb).cell];exact hj) Tryd.underlying25 rfl (by kernel_rfl)
       ·
        refine JW.step (slots:=slFd) rfl (by decide) (by rw[hsz];decide) (68,.is (.int .i64 (k:Nat))) rfl rfl rfl ?_
        intro D a wx K hD hp h hK
        have hfr:Fr slFd a0 a:=h.fr
        refine ZD rfl ?_
        have q7:a.eval (.tmp 7)=.int .i64 (k:Nat):=(hfr.eval (j:=7) (by decide)).trans t7
        exact ZH hK rfl q7
       ·
        refine JW.step (slots:=slFd) rfl (by decide) (by rw[hsz];decide) (69,.is (.slice (some ⟨lb,lo,none⟩) G bc)) rfl rfl rfl ?_
        intro D a wx K hD hp h hK
        have hfr:Fr slFd a0 a:=h.fr
        refine ZD rfl ?_
        have q3:a.eval (.tmp 3)=.slice (some ⟨lb,lo,none⟩) G bc:=(hfr.eval (j:=3) (by decide)).trans t3
        exact ZH hK rfl q3
       ·
        refine JW.step (slots:=slFd) rfl (by decide) (by rw[hsz];decide) (70,.is (.int .i64 (k:Nat))) rfl rfl rfl ?_
        intro D a wx K hD hp h hK
        have hfr:Fr slFd a0 a:=h.fr
        refine ZD rfl ?_
        have q7:a.eval (.tmp 7)=.int .i64 (k:Nat):=(hfr.eval (j:=7) (by decide)).trans t7
        exact ZH hK rfl q7
       ·
        refine JW.step (slots:=slFd) rfl (by decide) (by rw[hsz];decide) (71,.is (.pointer (some ⟨lb,lo+k,none⟩))) rfl rfl rfl ?_
        intro D a wx K hD hp h hK
        have hfr:Fr slFd a0 a:=h.fr
        refine ZD rfl ?_
        have q69:a.eval (.tmp 69)=.slice (some ⟨lb,lo,none⟩) G bc:=h.val 2 _ rfl (hp 2 (by decide))
        have q70:a.eval (.tmp 70)=.int .i64 (k:Nat):=h.val 3 _ rfl (hp 3 (by decide))
        have z2:(0:Int)≤(k:Nat):=by omega
        have z3:((k:Nat) : Int) < (G:Nat):=by omega
        refine ZG hK (by clear hfr;generalize a.eval=ρ at *;go_simp)
       ·
        refine JW.step (slots:=slFd) rfl (by decide) (by rw[hsz];decide) (72,.is (.slice (some ⟨fb,fo,none⟩) FL fc)) rfl rfl rfl ?_
        intro D a wx K hD hp h hK
        have hfr:Fr slFd a0 a:=h.fr
        refine ZD rfl ?_
        have q71:a.eval (.tmp 71)=.pointer (some ⟨lb,lo+k,none⟩):=h.val 4 _ rfl (hp 4 (by decide))
        have z1:wx.cell? ⟨lb,lo+k,none⟩=some (.slice (some ⟨fb,fo,none⟩) FL fc):=HWC.out wx h.below
        refine ZG hK (by clear hfr;generalize a.eval=ρ at *;go_simp)
       ·
        refine JW.step (slots:=slFd) rfl (by decide) (by rw[hsz];decide) (73,.is (.slice (some ⟨lb,lo,none⟩) G bc)) rfl rfl rfl ?_
        intro D a wx K hD hp h hK
        have hfr:Fr slFd a0 a:=h.fr
        refine ZD rfl ?_
        have q3:a.eval (.tmp 3)=.slice (some ⟨lb,lo,none⟩) G bc:=(hfr.eval (j:=3) (by decide)).trans t3
        exact ZH hK rfl q3
       ·
        refine JW.step (slots:=slFd) rfl (by decide) (by rw[hsz];decide) (74,.is (.int .i64 (k:Nat))) rfl rfl rfl ?_
        intro D a wx K hD hp h hK
        have hfr:Fr slFd a0 a:=h.fr
        refine ZD rfl ?_
        have q7:a.eval (.tmp 7)=.int .i64 (k:Nat):=(hfr.eval (j:=7) (by decide)).trans t7
        exact ZH hK rfl q7
       ·
        refine JW.step (slots:=slFd) rfl (by decide) (by rw[hsz];decide) (75,.is (.pointer (some ⟨lb,lo+k,none⟩))) rfl rfl rfl ?_
        intro D a wx K hD hp h hK
        have hfr:Fr slFd a0 a:=h.fr
        refine ZD rfl ?_
        have q73:a.eval (.tmp 73)=.slice (some ⟨lb,lo,none⟩) G bc:=h.val 6 _ rfl (hp 6 (by decide))
        have q74:a.eval (.tmp 74)=.int .i64 (k:Nat):=h.val 7 _ rfl (hp 7 (by decide))
        have z2:(0:Int)≤(k:Nat):=by omega
        have z3:((k:Nat) : Int) < (G:Nat):=by omega
        refine ZG hK (by clear hfr;generalize a.eval=ρ at *;go_simp)
       ·
        refine JW.step (slots:=slFd) rfl (by decide) (by rw[hsz];decide) (76,.is (.slice (some ⟨fb,fo,none⟩) FL fc)) rfl rfl rfl ?_
        intro D a wx K hD hp h hK
        have hfr:Fr slFd a0 a:=h.fr
        refine ZD rfl ?_
        have q75:a.eval (.tmp 75)=.pointer (some ⟨lb,lo+k,none⟩):=h.val 8 _ rfl (hp 8 (by decide))
        have z1:wx.cell? ⟨lb,lo+k,none⟩=some (.slice (some ⟨fb,fo,none⟩) FL fc):=HWC.out wx h.below
        refine ZG hK (by clear hfr;generalize a.eval=ρ at *;go_simp)
       ·
        refine JW.step (slots:=slFd) rfl (by decide) (by rw[hsz];decide) (77,.is (.int .i64 (i:Nat))) rfl rfl rfl ?_
        intro D a wx K hD hp h hK
        have hfr:Fr slFd a0 a:=h.fr
        refine ZD rfl ?_
        have q9:a.eval (.tmp 9)=.int .i64 (i:Nat):=(hfr.eval (j:=9) (by decide)).trans t9
        exact ZH hK rfl q9
       ·
        refine JW.step (slots:=slFd) rfl (by decide) (by rw[hsz];decide) (78,.is (.pointer (some ⟨fb,fo+i,none⟩))) rfl rfl rfl ?_
        intro D a wx K hD hp h hK
        have hfr:Fr slFd a0 a:=h.fr
        refine ZD rfl ?_
        have q76:a.eval (.tmp 76)=.slice (some ⟨fb,fo,none⟩) FL fc:=h.val 9 _ rfl (hp 9 (by decide))
        have q77:a.eval (.tmp 77)=.int .i64 (i:Nat):=h.val 10 _ rfl (hp 10 (by decide))
        have z2:(0:Int)≤(i:Nat):=by omega
        have z3:((i:Nat) : Int) < (FL:Nat):=by omega
        refine ZG hK (by clear hfr;generalize a.eval=ρ at *;go_simp)
       ·
        refine JW.step (slots:=slFd) rfl (by decide) (by rw[hsz];decide) (79,.is (.int .i64 x)) rfl rfl rfl ?_
        intro D a wx K hD hp h hK
        have hfr:Fr slFd a0 a:=h.fr
        refine ZD rfl ?_
        have q78:a.eval (.tmp 78)=.pointer (some ⟨fb,fo+i,none⟩):=h.val 11 _ rfl (hp 11 (by decide))
        have z1:wx.cell? ⟨fb,fo+i,none⟩=some (.int .i64 x):=HXC.out wx h.below
        refine ZG hK (by clear hfr;generalize a.eval=ρ at *;go_simp)
       ·
        refine JW.step (slots:=slFd) rfl (by decide) (by rw[hsz];decide) (80,.is (.tuple #[.bool true,.int .i64 0])) rfl rfl rfl ?_
        intro D a wx K hD hp h hK
        have hfr:Fr slFd a0 a:=h.fr
        refine ZD rfl ?_
        have q67:a.eval (.tmp 67)=.agg #[sv,lv,.slice (some ⟨gb,go,none⟩) G gc]:=h.val 0 _ rfl (hp 0 (by decide))
        have q68:a.eval (.tmp 68)=.int .i64 (k:Nat):=h.val 1 _ rfl (hp 1 (by decide))
        have q72:a.eval (.tmp 72)=.slice (some ⟨fb,fo,none⟩) FL fc:=h.val 5 _ rfl (hp 5 (by decide))
        have q79:a.eval (.tmp 79)=.int .i64 x:=h.val 12 _ rfl (hp 12 (by decide))
        refine ZAH hK Tryd.func11 (by kernel_rfl) (by kernel_rfl) rfl #[.agg #[sv,lv,.slice (some ⟨gb,go,none⟩) G gc],.int .i64 (k:Nat),.slice (some ⟨fb,fo,none⟩) FL fc,.int .i64 x] (by simp only[List.map_toArray,List.map_cons,List.map_nil,q67,q68,q72,q79];try rfl) ?_
        refine(HNX.out wx h.below).mono ?_
        rintro e w' ⟨rfl,hb⟩
        exact⟨_,rfl,hb,rfl⟩
       ·
        refine JW.step (slots:=slFd) rfl (by decide) (by rw[hsz];decide) (66,.is (.tuple #[.bool true,.int .i64 0])) rfl rfl rfl ?_
        intro D a wx K hD hp h hK
        have hfr:Fr slFd a0 a:=h.fr
        refine ZD rfl ?_
        have q80:a.eval (.tmp 80)=.tuple #[.bool true,.int .i64 0]:=h.val 13 _ rfl (hp 13 (by decide))
        exact ZH hK rfl q80
       ·
        refine JW.step (slots:=slFd) rfl (by decide) (by rw[hsz];decide) (81,.is (.bool true)) rfl rfl rfl ?_
        intro D a wx K hD hp h hK
        have hfr:Fr slFd a0 a:=h.fr
        refine ZD rfl ?_
        have q66:a.eval (.tmp 66)=.tuple #[.bool true,.int .i64 0]:=h.val 14 _ rfl (hp 14 (by decide))
        refine ZG hK (by clear hfr;generalize a.eval=ρ at *;go_simp)
       ·
        refine JW.step (slots:=slFd) rfl (by decide) (by rw[hsz];decide) (82,.is (.int .i64 0)) rfl rfl rfl ?_
        intro D a wx K hD hp h hK
        have hfr:Fr slFd a0 a:=h.fr
        refine ZD rfl ?_
        have q66:a.eval (.tmp 66)=.tuple #[.bool true,.int .i64 0]:=h.val 14 _ rfl (hp 14 (by decide))
        refine ZG hK (by clear hfr;generalize a.eval=ρ at *;go_simp)
       ·
        refine JW.step (slots:=slFd) rfl (by decide) (by rw[hsz];decide) (10,.is (.bool true)) rfl rfl rfl ?_
        intro D a wx K hD hp h hK
        have hfr:Fr slFd a0 a:=h.fr
        refine ZD rfl ?_
        have q81:a.eval (.tmp 81)=.bool true:=h.val 15 _ rfl (hp 15 (by decide))
        refine ZG hK (by clear hfr;generalize a.eval=ρ at *;go_simp)
       ·
        refine JW.step (slots:=slFd) rfl (by decide) (by rw[hsz];decide) (11,.is (.int .i64 0)) rfl rfl rfl ?_
        intro D a wx K hD hp h hK
        have hfr:Fr slFd a0 a:=h.fr
        refine ZD rfl ?_
        have q82:a.eval (.tmp 82)=.int .i64 0:=h.val 16 _ rfl (hp 16 (by decide))
        refine ZG hK (by clear hfr;generalize a.eval=ρ at *;go_simp)
      case done =>
       intro D a wz hall h
       have hd:∀ i,i < 19→D i=true:=hall
       have hfin:=Fr.allW (slots:=slFd) h.fr (by rw[hsz];decide)
       simp only[putW,slFd] at hfin
       rw[(show a.eval (.tmp 67)=.agg #[sv,lv,.slice (some ⟨gb,go,none⟩) G gc] from h.val 0 _ rfl (hd 0 (by decide))),(show a.eval (.tmp 68)=.int .i64 (k:Nat) from h.val 1 _ rfl (hd 1 (by decide))),(show a.eval (.tmp 69)=.slice (some ⟨lb,lo,none⟩) G bc from h.val 2 _ rfl (hd 2 (by decide))),(show a.eval (.tmp 70)=.int .i64 (k:Nat) from h.val 3 _ rfl (hd 3 (by decide))),(show a.eval (.tmp 71)=.pointer (some ⟨lb,lo+k,none⟩) from h.val 4 _ rfl (hd 4 (by decide))),(show a.eval (.tmp 72)=.slice (some ⟨fb,fo,none⟩) FL fc from h.val 5 _ rfl (hd 5 (by decide))),(show a.eval (.tmp 73)=.slice (some ⟨lb,lo,none⟩) G bc from h.val 6 _ rfl (hd 6 (by decide))),(show a.eval (.tmp 74)=.int .i64 (k:Nat) from h.val 7 _ rfl (hd 7 (by decide))),(show a.eval (.tmp 75)=.pointer (some ⟨lb,lo+k,none⟩) from h.val 8 _ rfl (hd 8 (by decide))),(show a.eval (.tmp 76)=.slice (some ⟨fb,fo,none⟩) FL fc from h.val 9 _ rfl (hd 9 (by decide))),(show a.eval (.tmp 77)=.int .i64 (i:Nat) from h.val 10 _ rfl (hd 10 (by decide))),(show a.eval (.tmp 78)=.pointer (some ⟨fb,fo+i,none⟩) from h.val 11 _ rfl (hd 11 (by decide))),(show a.eval (.tmp 79)=.int .i64 x from h.val 12 _ rfl (hd 12 (by decide))),(show a.eval (.tmp 80)=.tuple #[.bool true,.int .i64 0] from h.val 13 _ rfl (hd 13 (by decide))),(show a.eval (.tmp 66)=.tuple #[.bool true,.int .i64 0] from h.val 14 _ rfl (hd 14 (by decide))),(show a.eval (.tmp 81)=.bool true from h.val 15 _ rfl (hd 15 (by decide))),(show a.eval (.tmp 82)=.int .i64 0 from h.val 16 _ rfl (hd 16 (by decide))),(show a.eval (.tmp 10)=.bool true from h.val 17 _ rfl (hd 17 (by decide))),(show a.eval (.tmp 11)=.int .i64 0 from h.val 18 _ rfl (hd 18 (by decide)))] at hfin
       have hbz:=h.below
       rw[hfin,HA0.out]
       clear hfin HA0 h hall hd hsz t1 t7 t3 t9
       simp only[Act.put,List.setIfInBounds_toArray,List.set_cons_zero,List.set_cons_succ]
       have HZ:=Hd_ (HB.out.trans (hbz.mono HB.out.size))
       clear hbz
       try clear h
       have hbB:=HXB.out.1 wz HZ.out
       have HXC:=Hd_ fun wx (h:Below wz.heap.size wz wx)=>HXB.out.2.1 wx (HZ.out.trans (h.mono HZ.out.size))
       have HWC:=Hd_ fun wx (h:Below wz.heap.size wz wx)=>HXB.out.2.2.1 wx (HZ.out.trans (h.mono HZ.out.size))
       have HUW:=Hd_ fun wx (h:Below wz.heap.size wz wx)=>HXB.out.2.2.2 wx (HZ.out.trans (h.mono HZ.out.size))
       have HAX:=Hd_ fun wx (h:Below wz.heap.size wz wx)=>HAY.out wx (HZ.out.trans (h.mono HZ.out.size))
       obtain⟨W0,rfl⟩ : ∃ W0:World,W0=wz:=⟨_,rfl⟩
       go_wp2_with (fail)
       refine ZAf fun a0 ha0=>?_
       have t1:a0.eval (.tmp 1)=.pointer (some ⟨w.heap.size,0,none⟩):=by rw[ha0];rfl
       have t7:a0.eval (.tmp 7)=.int .i64 (k:Nat):=by rw[ha0];rfl
       have t3:a0.eval (.tmp 3)=.slice (some ⟨lb,lo,none⟩) G bc:=by rw[ha0];rfl
       have t9:a0.eval (.tmp 9)=.int .i64 (i:Nat):=by rw[ha0];rfl
       have hsz:a0.tmps.size=143:=by rw[ha0];rfl
       have HA0:=Hd_ ha0;clear ha0
       refine Zh [(84,.is (.agg #[sv,lv,.slice (some ⟨gb,go,none⟩) G gc])),(85,.is (.int .i64 (k:Nat))),(86,.is (.slice (some ⟨lb,lo,none⟩) G bc)),(87,.is (.int .i64 (k:Nat))),(88,.is (.pointer (some ⟨lb,lo+k,none⟩))),(89,.is (.slice (some ⟨fb,fo,none⟩) FL fc)),(90,.is (.slice (some ⟨lb,lo,none⟩) G bc)),(91,.is (.int .i64 (k:Nat))),(92,.is (.pointer (some ⟨lb,lo+k,none⟩))),(93,.is (.slice (some ⟨fb,fo,none⟩) FL fc)),(94,.is (.int .i64 (i:Nat))),(95,.is (.pointer (some ⟨fb,fo+i,none⟩))),(96,.is (.int .i64 x)),(97,srTb W0.heap.size KW (ints Wy)),(83,srTb W0.heap.size KW (ints Wy)),(98,srO W0.heap.size 3 KW (ints Wy)),(99,.is (.bool true)),(100,.is (.int .i64 0)),(12,srO W0.heap.size 3 KW (ints Wy)),(13,.is (.bool true)),(14,.is (.int .i64 0))] (by kernel_rfl) (by kernel_rfl) ?steps ?done
       case steps =>
        clear HBG HPL HUU HG HND HAL HC HPG HKL HGG HFC H4 HFE HFL HRL HLY HNY HSY HA0 HXB HCL HBX HKL9 H3 HRW HAY HNX HZ HB
        refine⟨?_,?_,?_,?_,?_,?_,?_,?_,?_,?_,?_,?_,?_,?_,?_,?_,?_,?_,?_,?_,?_,trivial⟩
        ·
         refine JW.step (slots:=slFe) rfl (by decide) (by rw[hsz];decide) (84,.is (.agg #[sv,lv,.slice (some ⟨gb,go,none⟩) G gc])) rfl rfl rfl ?_
         intro D a wx K hD hp h hK
         have hfr:Fr slFe a0 a:=h.fr
         refine ZD rfl ?_
         have q1:a.eval (.tmp 1)=.pointer (some ⟨w.heap.size,0,none⟩):=(hfr.eval (j:=1) (by decide)).trans t1
         refine ZAG hK 25 _ rfl w.heap.size (0) q1 _ (by have hb:=h.below;exact fun j v hj=>by rw[Nat.zero_add,(HUW.out wx hb).cell];exact hj) Tryd.underlying25 rfl (by kernel_rfl)
        ·
         refine JW.step (slots:=slFe) rfl (by decide) (by rw[hsz];decide) (85,.is (.int .i64 (k:Nat))) rfl rfl rfl ?_
         intro D a wx K hD hp h hK
         have hfr:Fr slFe a0 a:=h.fr
         refine ZD rfl ?_
         have q7:a.eval (.tmp 7)=.int .i64 (k:Nat):=(hfr.eval (j:=7) (by decide)).trans t7
         exact ZH hK rfl q7
        ·
         refine JW.step (slots:=slFe) rfl (by decide) (by rw[hsz];decide) (86,.is (.slice (some ⟨lb,lo,none⟩) G bc)) rfl rfl rfl ?_
         intro D a wx K hD hp h hK
         have hfr:Fr slFe a0 a:=h.fr
         refine ZD rfl ?_
         have q3:a.eval (.tmp 3)=.slice (some ⟨lb,lo,none⟩) G bc:=(hfr.eval (j:=3) (by decide)).trans t3
         exact ZH hK rfl q3
        ·
         refine JW.step (slots:=slFe) rfl (by decide) (by rw[hsz];decide) (87,.is (.int .i64 (k:Nat))) rfl rfl rfl ?_
         intro D a wx K hD hp h hK
         have hfr:Fr slFe a0 a:=h.fr
         refine ZD rfl ?_
         have q7:a.eval (.tmp 7)=.int .i64 (k:Nat):=(hfr.eval (j:=7) (by decide)).trans t7
         exact ZH hK rfl q7
        ·
         refine JW.step (slots:=slFe) rfl (by decide) (by rw[hsz];decide) (88,.is (.pointer (some ⟨lb,lo+k,none⟩))) rfl rfl rfl ?_
         intro D a wx K hD hp h hK
         have hfr:Fr slFe a0 a:=h.fr
         refine ZD rfl ?_
         have q86:a.eval (.tmp 86)=.slice (some ⟨lb,lo,none⟩) G bc:=h.val 2 _ rfl (hp 2 (by decide))
         have q87:a.eval (.tmp 87)=.int .i64 (k:Nat):=h.val 3 _ rfl (hp 3 (by decide))
         have z2:(0:Int)≤(k:Nat):=by omega
         have z3:((k:Nat) : Int) < (G:Nat):=by omega
         refine ZG hK (by clear hfr;generalize a.eval=ρ at *;go_simp)
        ·
         refine JW.step (slots:=slFe) rfl (by decide) (by rw[hsz];decide) (89,.is (.slice (some ⟨fb,fo,none⟩) FL fc)) rfl rfl rfl ?_
         intro D a wx K hD hp h hK
         have hfr:Fr slFe a0 a:=h.fr
         refine ZD rfl ?_
         have q88:a.eval (.tmp 88)=.pointer (some ⟨lb,lo+k,none⟩):=h.val 4 _ rfl (hp 4 (by decide))
         have z1:wx.cell? ⟨lb,lo+k,none⟩=some (.slice (some ⟨fb,fo,none⟩) FL fc):=HWC.out wx h.below
         refine ZG hK (by clear hfr;generalize a.eval=ρ at *;go_simp)
        ·
         refine JW.step (slots:=slFe) rfl (by decide) (by rw[hsz];decide) (90,.is (.slice (some ⟨lb,lo,none⟩) G bc)) rfl rfl rfl ?_
         intro D a wx K hD hp h hK
         have hfr:Fr slFe a0 a:=h.fr
         refine ZD rfl ?_
         have q3:a.eval (.tmp 3)=.slice (some ⟨lb,lo,none⟩) G bc:=(hfr.eval (j:=3) (by decide)).trans t3
         exact ZH hK rfl q3
        ·
         refine JW.step (slots:=slFe) rfl (by decide) (by rw[hsz];decide) (91,.is (.int .i64 (k:Nat))) rfl rfl rfl ?_
         intro D a wx K hD hp h hK
         have hfr:Fr slFe a0 a:=h.fr
         refine ZD rfl ?_
         have q7:a.eval (.tmp 7)=.int .i64 (k:Nat):=(hfr.eval (j:=7) (by decide)).trans t7
         exact ZH hK rfl q7
        ·
         refine JW.step (slots:=slFe) rfl (by decide) (by rw[hsz];decide) (92,.is (.pointer (some ⟨lb,lo+k,none⟩))) rfl rfl rfl ?_
         intro D a wx K hD hp h hK
         have hfr:Fr slFe a0 a:=h.fr
         refine ZD rfl ?_
         have q90:a.eval (.tmp 90)=.slice (some ⟨lb,lo,none⟩) G bc:=h.val 6 _ rfl (hp 6 (by decide))
         have q91:a.eval (.tmp 91)=.int .i64 (k:Nat):=h.val 7 _ rfl (hp 7 (by decide))
         have z2:(0:Int)≤(k:Nat):=by omega
         have z3:((k:Nat) : Int) < (G:Nat):=by omega
         refine ZG hK (by clear hfr;generalize a.eval=ρ at *;go_simp)
        ·
         refine JW.step (slots:=slFe) rfl (by decide) (by rw[hsz];decide) (93,.is (.slice (some ⟨fb,fo,none⟩) FL fc)) rfl rfl rfl ?_
         intro D a wx K hD hp h hK
         have hfr:Fr slFe a0 a:=h.fr
         refine ZD rfl ?_
         have q92:a.eval (.tmp 92)=.pointer (some ⟨lb,lo+k,none⟩):=h.val 8 _ rfl (hp 8 (by decide))
         have z1:wx.cell? ⟨lb,lo+k,none⟩=some (.slice (some ⟨fb,fo,none⟩) FL fc):=HWC.out wx h.below
         refine ZG hK (by clear hfr;generalize a.eval=ρ at *;go_simp)
        ·
         refine JW.step (slots:=slFe) rfl (by decide) (by rw[hsz];decide) (94,.is (.int .i64 (i:Nat))) rfl rfl rfl ?_
         intro D a wx K hD hp h hK
         have hfr:Fr slFe a0 a:=h.fr
         refine ZD rfl ?_
         have q9:a.eval (.tmp 9)=.int .i64 (i:Nat):=(hfr.eval (j:=9) (by decide)).trans t9
         exact ZH hK rfl q9
        ·
         refine JW.step (slots:=slFe) rfl (by decide) (by rw[hsz];decide) (95,.is (.pointer (some ⟨fb,fo+i,none⟩))) rfl rfl rfl ?_
         intro D a wx K hD hp h hK
         have hfr:Fr slFe a0 a:=h.fr
         refine ZD rfl ?_
         have q93:a.eval (.tmp 93)=.slice (some ⟨fb,fo,none⟩) FL fc:=h.val 9 _ rfl (hp 9 (by decide))
         have q94:a.eval (.tmp 94)=.int .i64 (i:Nat):=h.val 10 _ rfl (hp 10 (by decide))
         have z2:(0:Int)≤(i:Nat):=by omega
         have z3:((i:Nat) : Int) < (FL:Nat):=by omega
         refine ZG hK (by clear hfr;generalize a.eval=ρ at *;go_simp)
        ·
         refine JW.step (slots:=slFe) rfl (by decide) (by rw[hsz];decide) (96,.is (.int .i64 x)) rfl rfl rfl ?_
         intro D a wx K hD hp h hK
         have hfr:Fr slFe a0 a:=h.fr
         refine ZD rfl ?_
         have q95:a.eval (.tmp 95)=.pointer (some ⟨fb,fo+i,none⟩):=h.val 11 _ rfl (hp 11 (by decide))
         have z1:wx.cell? ⟨fb,fo+i,none⟩=some (.int .i64 x):=HXC.out wx h.below
         refine ZG hK (by clear hfr;generalize a.eval=ρ at *;go_simp)
        ·
         refine JW.step (slots:=slFe) rfl (by decide) (by rw[hsz];decide) (97,srTb W0.heap.size KW (ints Wy)) rfl rfl rfl ?_
         intro D a wx K hD hp h hK
         have hfr:Fr slFe a0 a:=h.fr
         refine ZD rfl ?_
         have q84:a.eval (.tmp 84)=.agg #[sv,lv,.slice (some ⟨gb,go,none⟩) G gc]:=h.val 0 _ rfl (hp 0 (by decide))
         have q85:a.eval (.tmp 85)=.int .i64 (k:Nat):=h.val 1 _ rfl (hp 1 (by decide))
         have q89:a.eval (.tmp 89)=.slice (some ⟨fb,fo,none⟩) FL fc:=h.val 5 _ rfl (hp 5 (by decide))
         have q96:a.eval (.tmp 96)=.int .i64 x:=h.val 12 _ rfl (hp 12 (by decide))
         refine ZAH hK Tryd.func12 (by kernel_rfl) (by kernel_rfl) rfl #[.agg #[sv,lv,.slice (some ⟨gb,go,none⟩) G gc],.int .i64 (k:Nat),.slice (some ⟨fb,fo,none⟩) FL fc,.int .i64 x] (by simp only[List.map_toArray,List.map_cons,List.map_nil,q84,q85,q89,q96];try rfl) ?_
         refine(HAX.out wx h.below).mono ?_
         rintro e w' ⟨r,rfl,hr,hb⟩
         exact⟨_,rfl,hb,r,rfl,Zi hr h.below.size⟩
        ·
         refine JW.step (slots:=slFe) rfl (by decide) (by rw[hsz];decide) (83,srTb W0.heap.size KW (ints Wy)) rfl rfl rfl ?_
         intro D a wx K hD hp h hK
         have hfr:Fr slFe a0 a:=h.fr
         refine ZD rfl ?_
         have q97:=h.val 13 _ rfl (hp 13 (by decide))
         exact ZH hK rfl q97
        ·
         refine JW.step (slots:=slFe) rfl (by decide) (by rw[hsz];decide) (98,srO W0.heap.size 3 KW (ints Wy)) rfl rfl rfl ?_
         intro D a wx K hD hp h hK
         have hfr:Fr slFe a0 a:=h.fr
         refine ZD rfl ?_
         have q83:=h.val 14 _ rfl (hp 14 (by decide))
         obtain⟨r60,hr1,hr2⟩:=q83
         have q83:a.eval (.tmp 83)=.tuple #[r60,.bool true,.int .i64 0]:=hr1
         refine ZBw r60 hK hr2 (by clear hfr hr1 hr2;generalize a.eval=ρ at *;go_simp)
        ·
         refine JW.step (slots:=slFe) rfl (by decide) (by rw[hsz];decide) (99,.is (.bool true)) rfl rfl rfl ?_
         intro D a wx K hD hp h hK
         have hfr:Fr slFe a0 a:=h.fr
         refine ZD rfl ?_
         have q83:=h.val 14 _ rfl (hp 14 (by decide))
         obtain⟨r60,hr1,hr2⟩:=q83
         have q83:a.eval (.tmp 83)=.tuple #[r60,.bool true,.int .i64 0]:=hr1
         refine ZG hK (by clear hfr hr1 hr2;generalize a.eval=ρ at *;go_simp)
        ·
         refine JW.step (slots:=slFe) rfl (by decide) (by rw[hsz];decide) (100,.is (.int .i64 0)) rfl rfl rfl ?_
         intro D a wx K hD hp h hK
         have hfr:Fr slFe a0 a:=h.fr
         refine ZD rfl ?_
         have q83:=h.val 14 _ rfl (hp 14 (by decide))
         obtain⟨r60,hr1,hr2⟩:=q83
         have q83:a.eval (.tmp 83)=.tuple #[r60,.bool true,.int .i64 0]:=hr1
         refine ZG hK (by clear hfr hr1 hr2;generalize a.eval=ρ at *;go_simp)
        ·
         refine JW.step (slots:=slFe) rfl (by decide) (by rw[hsz];decide) (12,srO W0.heap.size 3 KW (ints Wy)) rfl rfl rfl ?_
         intro D a wx K hD hp h hK
         have hfr:Fr slFe a0 a:=h.fr
         refine ZD rfl ?_
         have q98:=h.val 15 _ rfl (hp 15 (by decide))
         exact ZAQ hK rfl q98
        ·
         refine JW.step (slots:=slFe) rfl (by decide) (by rw[hsz];decide) (13,.is (.bool true)) rfl rfl rfl ?_
         intro D a wx K hD hp h hK
         have hfr:Fr slFe a0 a:=h.fr
         refine ZD rfl ?_
         have q99:a.eval (.tmp 99)=.bool true:=h.val 16 _ rfl (hp 16 (by decide))
         refine ZG hK (by clear hfr;generalize a.eval=ρ at *;go_simp)
        ·
         refine JW.step (slots:=slFe) rfl (by decide) (by rw[hsz];decide) (14,.is (.int .i64 0)) rfl rfl rfl ?_
         intro D a wx K hD hp h hK
         have hfr:Fr slFe a0 a:=h.fr
         refine ZD rfl ?_
         have q100:a.eval (.tmp 100)=.int .i64 0:=h.val 17 _ rfl (hp 17 (by decide))
         refine ZG hK (by clear hfr;generalize a.eval=ρ at *;go_simp)
       case done =>
        intro D a wz hall h
        have hd:∀ i,i < 21→D i=true:=hall
        have hfin:=Fr.allW (slots:=slFe) h.fr (by rw[hsz];decide)
        have v12:wz.ownsRow W0.heap.size 3 1 (a.eval (.tmp 12)) KW (ints Wy):=h.val 18 _ rfl (hd 18 (by decide))
        simp only[putW,slFe] at hfin
        rw[(show a.eval (.tmp 84)=.agg #[sv,lv,.slice (some ⟨gb,go,none⟩) G gc] from h.val 0 _ rfl (hd 0 (by decide))),(show a.eval (.tmp 85)=.int .i64 (k:Nat) from h.val 1 _ rfl (hd 1 (by decide))),(show a.eval (.tmp 86)=.slice (some ⟨lb,lo,none⟩) G bc from h.val 2 _ rfl (hd 2 (by decide))),(show a.eval (.tmp 87)=.int .i64 (k:Nat) from h.val 3 _ rfl (hd 3 (by decide))),(show a.eval (.tmp 88)=.pointer (some ⟨lb,lo+k,none⟩) from h.val 4 _ rfl (hd 4 (by decide))),(show a.eval (.tmp 89)=.slice (some ⟨fb,fo,none⟩) FL fc from h.val 5 _ rfl (hd 5 (by decide))),(show a.eval (.tmp 90)=.slice (some ⟨lb,lo,none⟩) G bc from h.val 6 _ rfl (hd 6 (by decide))),(show a.eval (.tmp 91)=.int .i64 (k:Nat) from h.val 7 _ rfl (hd 7 (by decide))),(show a.eval (.tmp 92)=.pointer (some ⟨lb,lo+k,none⟩) from h.val 8 _ rfl (hd 8 (by decide))),(show a.eval (.tmp 93)=.slice (some ⟨fb,fo,none⟩) FL fc from h.val 9 _ rfl (hd 9 (by decide))),(show a.eval (.tmp 94)=.int .i64 (i:Nat) from h.val 10 _ rfl (hd 10 (by decide))),(show a.eval (.tmp 95)=.pointer (some ⟨fb,fo+i,none⟩) from h.val 11 _ rfl (hd 11 (by decide))),(show a.eval (.tmp 96)=.int .i64 x from h.val 12 _ rfl (hd 12 (by decide))),(show a.eval (.tmp 99)=.bool true from h.val 16 _ rfl (hd 16 (by decide))),(show a.eval (.tmp 100)=.int .i64 0 from h.val 17 _ rfl (hd 17 (by decide))),(show a.eval (.tmp 13)=.bool true from h.val 19 _ rfl (hd 19 (by decide))),(show a.eval (.tmp 14)=.int .i64 0 from h.val 20 _ rfl (hd 20 (by decide)))] at hfin
        have hbz:=h.below
        generalize a.eval (.tmp 12)=r12 at hfin v12
        generalize a.eval (.tmp 83)=r83 at hfin
        generalize a.eval (.tmp 97)=r97 at hfin
        generalize a.eval (.tmp 98)=r98 at hfin
        rw[hfin,HA0.out]
        clear hfin HA0 h hall hd hsz t1 t7 t3 t9
        simp only[Act.put,List.setIfInBounds_toArray,List.set_cons_zero,List.set_cons_succ]
        obtain⟨rA,rc,rfl,-⟩:=ZE v12
        have hri:Ints (cmap wz) (.slice rA KW rc) Wy:=by
         have h9:=v12
         rw[← HKL9.out] at h9 ⊢
         exact Zv h9
        obtain⟨rb,ro,e,hrc⟩:=hri.at_ HSY.out.1
        subst e
        rw[Nat.mul_one,Nat.add_zero] at hrc
        have HZ2:=Hd_ (And.intro (HZ.out.trans (hbz.mono HZ.out.size)) (And.intro hri hrc))
        clear hbz hri hrc v12
        try clear h
        have HXC:=Hd_ fun wx (h:Below wz.heap.size wz wx)=>HXB.out.2.1 wx (HZ2.out.1.trans (h.mono HZ2.out.1.size))
        have HWC:=Hd_ fun wx (h:Below wz.heap.size wz wx)=>HXB.out.2.2.1 wx (HZ2.out.1.trans (h.mono HZ2.out.1.size))
        have HUW:=Hd_ fun wx (h:Below wz.heap.size wz wx)=>HXB.out.2.2.2 wx (HZ2.out.1.trans (h.mono HZ2.out.1.size))
        have HRC0:=Hd_ fun wx (h:Below wz.heap.size wz wx)=>ZA h _ _ _ HZ2.out.2.2
        have HRV0:=Hd_ fun wx (h:Below wz.heap.size wz wx)=>HRW.out wx (HZ2.out.1.trans (h.mono HZ2.out.1.size))
        have HLX:=Hd_ fun wx (h:Below wz.heap.size wz wx)=>HLY.out wx (HZ2.out.1.trans (h.mono HZ2.out.1.size)) _ (HZ2.out.2.1.mono (ZA h))
        obtain⟨W0,rfl⟩ : ∃ W0:World,W0=wz:=⟨_,rfl⟩
        go_wp2_with (fail)
        refine ZAf fun a0 ha0=>?_
        have t1:a0.eval (.tmp 1)=.pointer (some ⟨w.heap.size,0,none⟩):=by rw[ha0];rfl
        have t7:a0.eval (.tmp 7)=.int .i64 (k:Nat):=by rw[ha0];rfl
        have t3:a0.eval (.tmp 3)=.slice (some ⟨lb,lo,none⟩) G bc:=by rw[ha0];rfl
        have t9:a0.eval (.tmp 9)=.int .i64 (i:Nat):=by rw[ha0];rfl
        have t10:a0.eval (.tmp 10)=.bool true:=by rw[ha0];rfl
        have t11:a0.eval (.tmp 11)=.int .i64 0:=by rw[ha0];rfl
        have t13:a0.eval (.tmp 13)=.bool true:=by rw[ha0];rfl
        have t14:a0.eval (.tmp 14)=.int .i64 0:=by rw[ha0];rfl
        have t5:a0.eval (.tmp 5)=.slice cA cn cc:=by rw[ha0];rfl
        have t12:a0.eval (.tmp 12)=.slice (some ⟨rb,ro,none⟩) KW rc:=by rw[ha0];rfl
        have t8:a0.eval (.tmp 8)=.slice (some ⟨vb,vo,none⟩) RL vc:=by rw[ha0];rfl
        have hsz:a0.tmps.size=143:=by rw[ha0];rfl
        have HA0:=Hd_ ha0;clear ha0
        refine Zh [(101,.is (.bool true)),(102,.is (.bool false)),(103,.is (.bool false)),(104,.is (.int .i64 0)),(105,.is (.bool false)),(106,.is (.bool false)),(107,.is (.bool false)),(108,.is (.bool true)),(109,.is (.bool false)),(110,.is (.bool false)),(111,.is (.bool false)),(112,.is (.int .i64 0)),(113,.is (.bool false)),(114,.is (.bool false)),(115,.is (.bool false)),(116,.is (.agg #[sv,lv,.slice (some ⟨gb,go,none⟩) G gc])),(117,.is (.slice cA cn cc)),(118,.is (.int .i64 (k:Nat))),(119,.is (.slice (some ⟨lb,lo,none⟩) G bc)),(120,.is (.int .i64 (k:Nat))),(121,.is (.pointer (some ⟨lb,lo+k,none⟩))),(122,.is (.slice (some ⟨fb,fo,none⟩) FL fc)),(123,.is (.slice (some ⟨lb,lo,none⟩) G bc)),(124,.is (.int .i64 (k:Nat))),(125,.is (.pointer (some ⟨lb,lo+k,none⟩))),(126,.is (.slice (some ⟨fb,fo,none⟩) FL fc)),(127,.is (.int .i64 (i:Nat))),(128,.is (.pointer (some ⟨fb,fo+i,none⟩))),(129,.is (.int .i64 x)),(130,.is (.slice (some ⟨rb,ro,none⟩) KW rc)),(131,.is (.bool true)),(132,.is (.bool false)),(133,.is (.bool false)),(134,.is (.bool false)),(135,.is (.slice (some ⟨vb,vo,none⟩) RL vc)),(136,.is (.slice (some ⟨rb,ro,none⟩) KW rc)),(137,.is (.pointer (some ⟨rb,ro,none⟩))),(138,.is (.int .i64 (s:Nat))),(139,.is (.pointer (some ⟨vb,vo+s,none⟩))),(140,.is (.bool true)),(141,.is (.bool false)),(142,.is (.bool false))] (by kernel_rfl) (by kernel_rfl) ?steps ?done
        case steps =>
         clear HBG HPL HUU HG HND HAL HC HPG HKL HGG HFC H4 HFE HFL HRL HLY HNY HSY HA0 HXB HCL HBX HKL9 H3 HRW HAX HAY HNX HZ HZ2 HB
         refine⟨?_,?_,?_,?_,?_,?_,?_,?_,?_,?_,?_,?_,?_,?_,?_,?_,?_,?_,?_,?_,?_,?_,?_,?_,?_,?_,?_,?_,?_,?_,?_,?_,?_,?_,?_,?_,?_,?_,?_,?_,?_,?_,trivial⟩
         ·
          refine JW.step (slots:=slFf) rfl (by decide) (by rw[hsz];decide) (101,.is (.bool true)) rfl rfl rfl ?_
          intro D a wx K hD hp h hK
          have hfr:Fr slFf a0 a:=h.fr
          refine ZD rfl ?_
          have q10:a.eval (.tmp 10)=.bool true:=(hfr.eval (j:=10) (by decide)).trans t10
          exact ZH hK rfl q10
         ·
          refine JW.step (slots:=slFf) rfl (by decide) (by rw[hsz];decide) (102,.is (.bool false)) rfl rfl rfl ?_
          intro D a wx K hD hp h hK
          have hfr:Fr slFf a0 a:=h.fr
          refine ZD rfl ?_
          have q101:a.eval (.tmp 101)=.bool true:=h.val 0 _ rfl (hp 0 (by decide))
          refine ZG hK (by clear hfr;generalize a.eval=ρ at *;go_simp)
         ·
          refine JW.step (slots:=slFf) rfl (by decide) (by rw[hsz];decide) (103,.is (.bool false)) rfl rfl rfl ?_
          intro D a wx K hD hp h hK
          have hfr:Fr slFf a0 a:=h.fr
          refine ZD rfl ?_
          have q102:a.eval (.tmp 102)=.bool false:=h.val 1 _ rfl (hp 1 (by decide))
          exact ZH hK rfl q102
         ·
          refine JW.step (slots:=slFf) rfl (by decide) (by rw[hsz];decide) (104,.is (.int .i64 0)) rfl rfl rfl ?_
          intro D a wx K hD hp h hK
          have hfr:Fr slFf a0 a:=h.fr
          refine ZM rfl rfl (show a.eval (.tmp 103)=.bool false from h.val 2 _ rfl (hp 2 (by decide))) ?_
          have q11:a.eval (.tmp 11)=.int .i64 0:=(hfr.eval (j:=11) (by decide)).trans t11
          exact ZH hK rfl q11
         ·
          refine JW.step (slots:=slFf) rfl (by decide) (by rw[hsz];decide) (105,.is (.bool false)) rfl rfl rfl ?_
          intro D a wx K hD hp h hK
          have hfr:Fr slFf a0 a:=h.fr
          refine ZM rfl rfl (show a.eval (.tmp 103)=.bool false from h.val 2 _ rfl (hp 2 (by decide))) ?_
          have q104:a.eval (.tmp 104)=.int .i64 0:=h.val 3 _ rfl (hp 3 (by decide))
          have c0:a.eval (.const (.int .i64 0))=(.int .i64 0):=rfl
          refine ZG hK (by clear hfr;generalize a.eval=ρ at *;go_simp)
         ·
          refine JW.step (slots:=slFf) rfl (by decide) (by rw[hsz];decide) (106,.is (.bool false)) rfl rfl rfl ?_
          intro D a wx K hD hp h hK
          have hfr:Fr slFf a0 a:=h.fr
          refine ZD rfl ?_
          have q103:a.eval (.tmp 103)=.bool false:=h.val 2 _ rfl (hp 2 (by decide))
          have q105:a.eval (.tmp 105)=.bool false:=h.val 4 _ rfl (hp 4 (by decide))
          have c0:a.eval (.const (Value.bool true))=(Value.bool true):=rfl
          refine ZG hK (by clear hfr;generalize a.eval=ρ at *;go_simp)
         ·
          refine JW.step (slots:=slFf) rfl (by decide) (by rw[hsz];decide) (107,.is (.bool false)) rfl rfl rfl ?_
          intro D a wx K hD hp h hK
          have hfr:Fr slFf a0 a:=h.fr
          refine ZD rfl ?_
          have q106:a.eval (.tmp 106)=.bool false:=h.val 5 _ rfl (hp 5 (by decide))
          exact ZH hK rfl q106
         ·
          refine JW.step (slots:=slFf) rfl (by decide) (by rw[hsz];decide) (108,.is (.bool true)) rfl rfl rfl ?_
          intro D a wx K hD hp h hK
          have hfr:Fr slFf a0 a:=h.fr
          refine ZM rfl rfl (show a.eval (.tmp 107)=.bool false from h.val 6 _ rfl (hp 6 (by decide))) ?_
          have q13:a.eval (.tmp 13)=.bool true:=(hfr.eval (j:=13) (by decide)).trans t13
          exact ZH hK rfl q13
         ·
          refine JW.step (slots:=slFf) rfl (by decide) (by rw[hsz];decide) (109,.is (.bool false)) rfl rfl rfl ?_
          intro D a wx K hD hp h hK
          have hfr:Fr slFf a0 a:=h.fr
          refine ZM rfl rfl (show a.eval (.tmp 107)=.bool false from h.val 6 _ rfl (hp 6 (by decide))) ?_
          have q108:a.eval (.tmp 108)=.bool true:=h.val 7 _ rfl (hp 7 (by decide))
          refine ZG hK (by clear hfr;generalize a.eval=ρ at *;go_simp)
         ·
          refine JW.step (slots:=slFf) rfl (by decide) (by rw[hsz];decide) (110,.is (.bool false)) rfl rfl rfl ?_
          intro D a wx K hD hp h hK
          have hfr:Fr slFf a0 a:=h.fr
          refine ZD rfl ?_
          have q107:a.eval (.tmp 107)=.bool false:=h.val 6 _ rfl (hp 6 (by decide))
          have q109:a.eval (.tmp 109)=.bool false:=h.val 8 _ rfl (hp 8 (by decide))
          have c0:a.eval (.const (Value.bool true))=(Value.bool true):=rfl
          refine ZG hK (by clear hfr;generalize a.eval=ρ at *;go_simp)
         ·
          refine JW.step (slots:=slFf) rfl (by decide) (by rw[hsz];decide) (111,.is (.bool false)) rfl rfl rfl ?_
          intro D a wx K hD hp h hK
          have hfr:Fr slFf a0 a:=h.fr
          refine ZD rfl ?_
          have q110:a.eval (.tmp 110)=.bool false:=h.val 9 _ rfl (hp 9 (by decide))
          exact ZH hK rfl q110
         ·
          refine JW.step (slots:=slFf) rfl (by decide) (by rw[hsz];decide) (112,.is (.int .i64 0)) rfl rfl rfl ?_
          intro D a wx K hD hp h hK
          have hfr:Fr slFf a0 a:=h.fr
          refine ZM rfl rfl (show a.eval (.tmp 111)=.bool false from h.val 10 _ rfl (hp 10 (by decide))) ?_
          have q14:a.eval (.tmp 14)=.int .i64 0:=(hfr.eval (j:=14) (by decide)).trans t14
          exact ZH hK rfl q14
         ·
          refine JW.step (slots:=slFf) rfl (by decide) (by rw[hsz];decide) (113,.is (.bool false)) rfl rfl rfl ?_
          intro D a wx K hD hp h hK
          have hfr:Fr slFf a0 a:=h.fr
          refine ZM rfl rfl (show a.eval (.tmp 111)=.bool false from h.val 10 _ rfl (hp 10 (by decide))) ?_
          have q112:a.eval (.tmp 112)=.int .i64 0:=h.val 11 _ rfl (hp 11 (by decide))
          have c0:a.eval (.const (.int .i64 0))=(.int .i64 0):=rfl
          refine ZG hK (by clear hfr;generalize a.eval=ρ at *;go_simp)
         ·
          refine JW.step (slots:=slFf) rfl (by decide) (by rw[hsz];decide) (114,.is (.bool false)) rfl rfl rfl ?_
          intro D a wx K hD hp h hK
          have hfr:Fr slFf a0 a:=h.fr
          refine ZD rfl ?_
          have q111:a.eval (.tmp 111)=.bool false:=h.val 10 _ rfl (hp 10 (by decide))
          have q113:a.eval (.tmp 113)=.bool false:=h.val 12 _ rfl (hp 12 (by decide))
          have c0:a.eval (.const (Value.bool true))=(Value.bool true):=rfl
          refine ZG hK (by clear hfr;generalize a.eval=ρ at *;go_simp)
         ·
          refine JW.step (slots:=slFf) rfl (by decide) (by rw[hsz];decide) (115,.is (.bool false)) rfl rfl rfl ?_
          intro D a wx K hD hp h hK
          have hfr:Fr slFf a0 a:=h.fr
          refine ZD rfl ?_
          have q114:a.eval (.tmp 114)=.bool false:=h.val 13 _ rfl (hp 13 (by decide))
          exact ZH hK rfl q114
         ·
          refine JW.step (slots:=slFf) rfl (by decide) (by rw[hsz];decide) (116,.is (.agg #[sv,lv,.slice (some ⟨gb,go,none⟩) G gc])) rfl rfl rfl ?_
          intro D a wx K hD hp h hK
          have hfr:Fr slFf a0 a:=h.fr
          refine ZM rfl rfl (show a.eval (.tmp 115)=.bool false from h.val 14 _ rfl (hp 14 (by decide))) ?_
          have q1:a.eval (.tmp 1)=.pointer (some ⟨w.heap.size,0,none⟩):=(hfr.eval (j:=1) (by decide)).trans t1
          refine ZAG hK 25 _ rfl w.heap.size (0) q1 _ (by have hb:=h.below;exact fun j v hj=>by rw[Nat.zero_add,(HUW.out wx hb).cell];exact hj) Tryd.underlying25 rfl (by kernel_rfl)
         ·
          refine JW.step (slots:=slFf) rfl (by decide) (by rw[hsz];decide) (117,.is (.slice cA cn cc)) rfl rfl rfl ?_
          intro D a wx K hD hp h hK
          have hfr:Fr slFf a0 a:=h.fr
          refine ZM rfl rfl (show a.eval (.tmp 115)=.bool false from h.val 14 _ rfl (hp 14 (by decide))) ?_
          have q5:a.eval (.tmp 5)=.slice cA cn cc:=(hfr.eval (j:=5) (by decide)).trans t5
          exact ZH hK rfl q5
         ·
          refine JW.step (slots:=slFf) rfl (by decide) (by rw[hsz];decide) (118,.is (.int .i64 (k:Nat))) rfl rfl rfl ?_
          intro D a wx K hD hp h hK
          have hfr:Fr slFf a0 a:=h.fr
          refine ZM rfl rfl (show a.eval (.tmp 115)=.bool false from h.val 14 _ rfl (hp 14 (by decide))) ?_
          have q7:a.eval (.tmp 7)=.int .i64 (k:Nat):=(hfr.eval (j:=7) (by decide)).trans t7
          exact ZH hK rfl q7
         ·
          refine JW.step (slots:=slFf) rfl (by decide) (by rw[hsz];decide) (119,.is (.slice (some ⟨lb,lo,none⟩) G bc)) rfl rfl rfl ?_
          intro D a wx K hD hp h hK
          have hfr:Fr slFf a0 a:=h.fr
          refine ZM rfl rfl (show a.eval (.tmp 115)=.bool false from h.val 14 _ rfl (hp 14 (by decide))) ?_
          have q3:a.eval (.tmp 3)=.slice (some ⟨lb,lo,none⟩) G bc:=(hfr.eval (j:=3) (by decide)).trans t3
          exact ZH hK rfl q3
         ·
          refine JW.step (slots:=slFf) rfl (by decide) (by rw[hsz];decide) (120,.is (.int .i64 (k:Nat))) rfl rfl rfl ?_
          intro D a wx K hD hp h hK
          have hfr:Fr slFf a0 a:=h.fr
          refine ZM rfl rfl (show a.eval (.tmp 115)=.bool false from h.val 14 _ rfl (hp 14 (by decide))) ?_
          have q7:a.eval (.tmp 7)=.int .i64 (k:Nat):=(hfr.eval (j:=7) (by decide)).trans t7
          exact ZH hK rfl q7
         ·
          refine JW.step (slots:=slFf) rfl (by decide) (by rw[hsz];decide) (121,.is (.pointer (some ⟨lb,lo+k,none⟩))) rfl rfl rfl ?_
          intro D a wx K hD hp h hK
          have hfr:Fr slFf a0 a:=h.fr
          refine ZM rfl rfl (show a.eval (.tmp 115)=.bool false from h.val 14 _ rfl (hp 14 (by decide))) ?_
          have q119:a.eval (.tmp 119)=.slice (some ⟨lb,lo,none⟩) G bc:=h.val 18 _ rfl (hp 18 (by decide))
          have q120:a.eval (.tmp 120)=.int .i64 (k:Nat):=h.val 19 _ rfl (hp 19 (by decide))
          have z2:(0:Int)≤(k:Nat):=by omega
          have z3:((k:Nat) : Int) < (G:Nat):=by omega
          refine ZG hK (by clear hfr;generalize a.eval=ρ at *;go_simp)
         ·
          refine JW.step (slots:=slFf) rfl (by decide) (by rw[hsz];decide) (122,.is (.slice (some ⟨fb,fo,none⟩) FL fc)) rfl rfl rfl ?_
          intro D a wx K hD hp h hK
          have hfr:Fr slFf a0 a:=h.fr
          refine ZM rfl rfl (show a.eval (.tmp 115)=.bool false from h.val 14 _ rfl (hp 14 (by decide))) ?_
          have q121:a.eval (.tmp 121)=.pointer (some ⟨lb,lo+k,none⟩):=h.val 20 _ rfl (hp 20 (by decide))
          have z1:wx.cell? ⟨lb,lo+k,none⟩=some (.slice (some ⟨fb,fo,none⟩) FL fc):=HWC.out wx h.below
          refine ZG hK (by clear hfr;generalize a.eval=ρ at *;go_simp)
         ·
          refine JW.step (slots:=slFf) rfl (by decide) (by rw[hsz];decide) (123,.is (.slice (some ⟨lb,lo,none⟩) G bc)) rfl rfl rfl ?_
          intro D a wx K hD hp h hK
          have hfr:Fr slFf a0 a:=h.fr
          refine ZM rfl rfl (show a.eval (.tmp 115)=.bool false from h.val 14 _ rfl (hp 14 (by decide))) ?_
          have q3:a.eval (.tmp 3)=.slice (some ⟨lb,lo,none⟩) G bc:=(hfr.eval (j:=3) (by decide)).trans t3
          exact ZH hK rfl q3
         ·
          refine JW.step (slots:=slFf) rfl (by decide) (by rw[hsz];decide) (124,.is (.int .i64 (k:Nat))) rfl rfl rfl ?_
          intro D a wx K hD hp h hK
          have hfr:Fr slFf a0 a:=h.fr
          refine ZM rfl rfl (show a.eval (.tmp 115)=.bool false from h.val 14 _ rfl (hp 14 (by decide))) ?_
          have q7:a.eval (.tmp 7)=.int .i64 (k:Nat):=(hfr.eval (j:=7) (by decide)).trans t7
          exact ZH hK rfl q7
         ·
          refine JW.step (slots:=slFf) rfl (by decide) (by rw[hsz];decide) (125,.is (.pointer (some ⟨lb,lo+k,none⟩))) rfl rfl rfl ?_
          intro D a wx K hD hp h hK
          have hfr:Fr slFf a0 a:=h.fr
          refine ZM rfl rfl (show a.eval (.tmp 115)=.bool false from h.val 14 _ rfl (hp 14 (by decide))) ?_
          have q123:a.eval (.tmp 123)=.slice (some ⟨lb,lo,none⟩) G bc:=h.val 22 _ rfl (hp 22 (by decide))
          have q124:a.eval (.tmp 124)=.int .i64 (k:Nat):=h.val 23 _ rfl (hp 23 (by decide))
          have z2:(0:Int)≤(k:Nat):=by omega
          have z3:((k:Nat) : Int) < (G:Nat):=by omega
          refine ZG hK (by clear hfr;generalize a.eval=ρ at *;go_simp)
         ·
          refine JW.step (slots:=slFf) rfl (by decide) (by rw[hsz];decide) (126,.is (.slice (some ⟨fb,fo,none⟩) FL fc)) rfl rfl rfl ?_
          intro D a wx K hD hp h hK
          have hfr:Fr slFf a0 a:=h.fr
          refine ZM rfl rfl (show a.eval (.tmp 115)=.bool false from h.val 14 _ rfl (hp 14 (by decide))) ?_
          have q125:a.eval (.tmp 125)=.pointer (some ⟨lb,lo+k,none⟩):=h.val 24 _ rfl (hp 24 (by decide))
          have z1:wx.cell? ⟨lb,lo+k,none⟩=some (.slice (some ⟨fb,fo,none⟩) FL fc):=HWC.out wx h.below
          refine ZG hK (by clear hfr;generalize a.eval=ρ at *;go_simp)
         ·
          refine JW.step (slots:=slFf) rfl (by decide) (by rw[hsz];decide) (127,.is (.int .i64 (i:Nat))) rfl rfl rfl ?_
          intro D a wx K hD hp h hK
          have hfr:Fr slFf a0 a:=h.fr
          refine ZM rfl rfl (show a.eval (.tmp 115)=.bool false from h.val 14 _ rfl (hp 14 (by decide))) ?_
          have q9:a.eval (.tmp 9)=.int .i64 (i:Nat):=(hfr.eval (j:=9) (by decide)).trans t9
          exact ZH hK rfl q9
         ·
          refine JW.step (slots:=slFf) rfl (by decide) (by rw[hsz];decide) (128,.is (.pointer (some ⟨fb,fo+i,none⟩))) rfl rfl rfl ?_
          intro D a wx K hD hp h hK
          have hfr:Fr slFf a0 a:=h.fr
          refine ZM rfl rfl (show a.eval (.tmp 115)=.bool false from h.val 14 _ rfl (hp 14 (by decide))) ?_
          have q126:a.eval (.tmp 126)=.slice (some ⟨fb,fo,none⟩) FL fc:=h.val 25 _ rfl (hp 25 (by decide))
          have q127:a.eval (.tmp 127)=.int .i64 (i:Nat):=h.val 26 _ rfl (hp 26 (by decide))
          have z2:(0:Int)≤(i:Nat):=by omega
          have z3:((i:Nat) : Int) < (FL:Nat):=by omega
          refine ZG hK (by clear hfr;generalize a.eval=ρ at *;go_simp)
         ·
          refine JW.step (slots:=slFf) rfl (by decide) (by rw[hsz];decide) (129,.is (.int .i64 x)) rfl rfl rfl ?_
          intro D a wx K hD hp h hK
          have hfr:Fr slFf a0 a:=h.fr
          refine ZM rfl rfl (show a.eval (.tmp 115)=.bool false from h.val 14 _ rfl (hp 14 (by decide))) ?_
          have q128:a.eval (.tmp 128)=.pointer (some ⟨fb,fo+i,none⟩):=h.val 27 _ rfl (hp 27 (by decide))
          have z1:wx.cell? ⟨fb,fo+i,none⟩=some (.int .i64 x):=HXC.out wx h.below
          refine ZG hK (by clear hfr;generalize a.eval=ρ at *;go_simp)
         ·
          refine JW.step (slots:=slFf) rfl (by decide) (by rw[hsz];decide) (130,.is (.slice (some ⟨rb,ro,none⟩) KW rc)) rfl rfl rfl ?_
          intro D a wx K hD hp h hK
          have hfr:Fr slFf a0 a:=h.fr
          refine ZM rfl rfl (show a.eval (.tmp 115)=.bool false from h.val 14 _ rfl (hp 14 (by decide))) ?_
          have q12:a.eval (.tmp 12)=.slice (some ⟨rb,ro,none⟩) KW rc:=(hfr.eval (j:=12) (by decide)).trans t12
          exact ZH hK rfl q12
         ·
          refine JW.step (slots:=slFf) rfl (by decide) (by rw[hsz];decide) (131,.is (.bool true)) rfl rfl rfl ?_
          intro D a wx K hD hp h hK
          have hfr:Fr slFf a0 a:=h.fr
          refine ZM rfl rfl (show a.eval (.tmp 115)=.bool false from h.val 14 _ rfl (hp 14 (by decide))) ?_
          have q116:a.eval (.tmp 116)=.agg #[sv,lv,.slice (some ⟨gb,go,none⟩) G gc]:=h.val 15 _ rfl (hp 15 (by decide))
          have q117:a.eval (.tmp 117)=.slice cA cn cc:=h.val 16 _ rfl (hp 16 (by decide))
          have q118:a.eval (.tmp 118)=.int .i64 (k:Nat):=h.val 17 _ rfl (hp 17 (by decide))
          have q122:a.eval (.tmp 122)=.slice (some ⟨fb,fo,none⟩) FL fc:=h.val 21 _ rfl (hp 21 (by decide))
          have q129:a.eval (.tmp 129)=.int .i64 x:=h.val 28 _ rfl (hp 28 (by decide))
          have q130:a.eval (.tmp 130)=.slice (some ⟨rb,ro,none⟩) KW rc:=h.val 29 _ rfl (hp 29 (by decide))
          refine ZAH hK Tryd.func13 (by kernel_rfl) (by kernel_rfl) rfl #[.agg #[sv,lv,.slice (some ⟨gb,go,none⟩) G gc],.slice cA cn cc,.int .i64 (k:Nat),.slice (some ⟨fb,fo,none⟩) FL fc,.int .i64 x,.slice (some ⟨rb,ro,none⟩) KW rc] (by simp only[List.map_toArray,List.map_cons,List.map_nil,q116,q117,q118,q122,q129,q130];try rfl) ?_
          refine(HLX.out wx h.below).mono ?_
          rintro e w' ⟨rfl,hb⟩
          exact⟨_,rfl,hb,rfl⟩
         ·
          refine JW.step (slots:=slFf) rfl (by decide) (by rw[hsz];decide) (132,.is (.bool false)) rfl rfl rfl ?_
          intro D a wx K hD hp h hK
          have hfr:Fr slFf a0 a:=h.fr
          refine ZM rfl rfl (show a.eval (.tmp 115)=.bool false from h.val 14 _ rfl (hp 14 (by decide))) ?_
          have q131:a.eval (.tmp 131)=.bool true:=h.val 30 _ rfl (hp 30 (by decide))
          refine ZG hK (by clear hfr;generalize a.eval=ρ at *;go_simp)
         ·
          refine JW.step (slots:=slFf) rfl (by decide) (by rw[hsz];decide) (133,.is (.bool false)) rfl rfl rfl ?_
          intro D a wx K hD hp h hK
          have hfr:Fr slFf a0 a:=h.fr
          refine ZD rfl ?_
          have q115:a.eval (.tmp 115)=.bool false:=h.val 14 _ rfl (hp 14 (by decide))
          have q132:a.eval (.tmp 132)=.bool false:=h.val 31 _ rfl (hp 31 (by decide))
          have c0:a.eval (.const (Value.bool true))=(Value.bool true):=rfl
          refine ZG hK (by clear hfr;generalize a.eval=ρ at *;go_simp)
         ·
          refine JW.step (slots:=slFf) rfl (by decide) (by rw[hsz];decide) (134,.is (.bool false)) rfl rfl rfl ?_
          intro D a wx K hD hp h hK
          have hfr:Fr slFf a0 a:=h.fr
          refine ZD rfl ?_
          have q133:a.eval (.tmp 133)=.bool false:=h.val 32 _ rfl (hp 32 (by decide))
          exact ZH hK rfl q133
         ·
          refine JW.step (slots:=slFf) rfl (by decide) (by rw[hsz];decide) (135,.is (.slice (some ⟨vb,vo,none⟩) RL vc)) rfl rfl rfl ?_
          intro D a wx K hD hp h hK
          have hfr:Fr slFf a0 a:=h.fr
          refine ZM rfl rfl (show a.eval (.tmp 134)=.bool false from h.val 33 _ rfl (hp 33 (by decide))) ?_
          have q8:a.eval (.tmp 8)=.slice (some ⟨vb,vo,none⟩) RL vc:=(hfr.eval (j:=8) (by decide)).trans t8
          exact ZH hK rfl q8
         ·
          refine JW.step (slots:=slFf) rfl (by decide) (by rw[hsz];decide) (136,.is (.slice (some ⟨rb,ro,none⟩) KW rc)) rfl rfl rfl ?_
          intro D a wx K hD hp h hK
          have hfr:Fr slFf a0 a:=h.fr
          refine ZM rfl rfl (show a.eval (.tmp 134)=.bool false from h.val 33 _ rfl (hp 33 (by decide))) ?_
          have q12:a.eval (.tmp 12)=.slice (some ⟨rb,ro,none⟩) KW rc:=(hfr.eval (j:=12) (by decide)).trans t12
          exact ZH hK rfl q12
         ·
          refine JW.step (slots:=slFf) rfl (by decide) (by rw[hsz];decide) (137,.is (.pointer (some ⟨rb,ro,none⟩))) rfl rfl rfl ?_
          intro D a wx K hD hp h hK
          have hfr:Fr slFf a0 a:=h.fr
          refine ZM rfl rfl (show a.eval (.tmp 134)=.bool false from h.val 33 _ rfl (hp 33 (by decide))) ?_
          have q136:a.eval (.tmp 136)=.slice (some ⟨rb,ro,none⟩) KW rc:=h.val 35 _ rfl (hp 35 (by decide))
          have z1:(0:Int) < (KW:Nat):=by omega
          have z2:¬ (KW=0):=by omega
          have c0:a.eval (.const (.int .i64 0))=(.int .i64 0):=rfl
          refine ZG hK (by clear hfr;generalize a.eval=ρ at *;go_simp)
         ·
          refine JW.step (slots:=slFf) rfl (by decide) (by rw[hsz];decide) (138,.is (.int .i64 (s:Nat))) rfl rfl rfl ?_
          intro D a wx K hD hp h hK
          have hfr:Fr slFf a0 a:=h.fr
          refine ZM rfl rfl (show a.eval (.tmp 134)=.bool false from h.val 33 _ rfl (hp 33 (by decide))) ?_
          have q137:a.eval (.tmp 137)=.pointer (some ⟨rb,ro,none⟩):=h.val 36 _ rfl (hp 36 (by decide))
          have z1:wx.cell? ⟨rb,ro,none⟩=some (.int .i64 (s:Nat)):=HRC0.out wx h.below
          refine ZG hK (by clear hfr;generalize a.eval=ρ at *;go_simp)
         ·
          refine JW.step (slots:=slFf) rfl (by decide) (by rw[hsz];decide) (139,.is (.pointer (some ⟨vb,vo+s,none⟩))) rfl rfl rfl ?_
          intro D a wx K hD hp h hK
          have hfr:Fr slFf a0 a:=h.fr
          refine ZM rfl rfl (show a.eval (.tmp 134)=.bool false from h.val 33 _ rfl (hp 33 (by decide))) ?_
          have q135:a.eval (.tmp 135)=.slice (some ⟨vb,vo,none⟩) RL vc:=h.val 34 _ rfl (hp 34 (by decide))
          have q138:a.eval (.tmp 138)=.int .i64 (s:Nat):=h.val 37 _ rfl (hp 37 (by decide))
          have z2:(0:Int)≤(s:Nat):=by omega
          have z3:((s:Nat) : Int) < (RL:Nat):=by omega
          refine ZG hK (by clear hfr;generalize a.eval=ρ at *;go_simp)
         ·
          refine JW.step (slots:=slFf) rfl (by decide) (by rw[hsz];decide) (140,.is (.bool true)) rfl rfl rfl ?_
          intro D a wx K hD hp h hK
          have hfr:Fr slFf a0 a:=h.fr
          refine ZM rfl rfl (show a.eval (.tmp 134)=.bool false from h.val 33 _ rfl (hp 33 (by decide))) ?_
          have q139:a.eval (.tmp 139)=.pointer (some ⟨vb,vo+s,none⟩):=h.val 38 _ rfl (hp 38 (by decide))
          have z1:wx.cell? ⟨vb,vo+s,none⟩=some (.bool true):=HRV0.out wx h.below
          refine ZG hK (by clear hfr;generalize a.eval=ρ at *;go_simp)
         ·
          refine JW.step (slots:=slFf) rfl (by decide) (by rw[hsz];decide) (141,.is (.bool false)) rfl rfl rfl ?_
          intro D a wx K hD hp h hK
          have hfr:Fr slFf a0 a:=h.fr
          refine ZM rfl rfl (show a.eval (.tmp 134)=.bool false from h.val 33 _ rfl (hp 33 (by decide))) ?_
          have q140:a.eval (.tmp 140)=.bool true:=h.val 39 _ rfl (hp 39 (by decide))
          refine ZG hK (by clear hfr;generalize a.eval=ρ at *;go_simp)
         ·
          refine JW.step (slots:=slFf) rfl (by decide) (by rw[hsz];decide) (142,.is (.bool false)) rfl rfl rfl ?_
          intro D a wx K hD hp h hK
          have hfr:Fr slFf a0 a:=h.fr
          refine ZD rfl ?_
          have q134:a.eval (.tmp 134)=.bool false:=h.val 33 _ rfl (hp 33 (by decide))
          have q141:a.eval (.tmp 141)=.bool false:=h.val 40 _ rfl (hp 40 (by decide))
          have c0:a.eval (.const (Value.bool true))=(Value.bool true):=rfl
          refine ZG hK (by clear hfr;generalize a.eval=ρ at *;go_simp)
        case done =>
         intro D a wz hall h
         have hd:∀ i,i < 42→D i=true:=hall
         have hfin:=Fr.allW (slots:=slFf) h.fr (by rw[hsz];decide)
         simp only[putW,slFf] at hfin
         rw[(show a.eval (.tmp 101)=.bool true from h.val 0 _ rfl (hd 0 (by decide))),(show a.eval (.tmp 102)=.bool false from h.val 1 _ rfl (hd 1 (by decide))),(show a.eval (.tmp 103)=.bool false from h.val 2 _ rfl (hd 2 (by decide))),(show a.eval (.tmp 104)=.int .i64 0 from h.val 3 _ rfl (hd 3 (by decide))),(show a.eval (.tmp 105)=.bool false from h.val 4 _ rfl (hd 4 (by decide))),(show a.eval (.tmp 106)=.bool false from h.val 5 _ rfl (hd 5 (by decide))),(show a.eval (.tmp 107)=.bool false from h.val 6 _ rfl (hd 6 (by decide))),(show a.eval (.tmp 108)=.bool true from h.val 7 _ rfl (hd 7 (by decide))),(show a.eval (.tmp 109)=.bool false from h.val 8 _ rfl (hd 8 (by decide))),(show a.eval (.tmp 110)=.bool false from h.val 9 _ rfl (hd 9 (by decide))),(show a.eval (.tmp 111)=.bool false from h.val 10 _ rfl (hd 10 (by decide))),(show a.eval (.tmp 112)=.int .i64 0 from h.val 11 _ rfl (hd 11 (by decide))),(show a.eval (.tmp 113)=.bool false from h.val 12 _ rfl (hd 12 (by decide))),(show a.eval (.tmp 114)=.bool false from h.val 13 _ rfl (hd 13 (by decide))),(show a.eval (.tmp 115)=.bool false from h.val 14 _ rfl (hd 14 (by decide))),(show a.eval (.tmp 116)=.agg #[sv,lv,.slice (some ⟨gb,go,none⟩) G gc] from h.val 15 _ rfl (hd 15 (by decide))),(show a.eval (.tmp 117)=.slice cA cn cc from h.val 16 _ rfl (hd 16 (by decide))),(show a.eval (.tmp 118)=.int .i64 (k:Nat) from h.val 17 _ rfl (hd 17 (by decide))),(show a.eval (.tmp 119)=.slice (some ⟨lb,lo,none⟩) G bc from h.val 18 _ rfl (hd 18 (by decide))),(show a.eval (.tmp 120)=.int .i64 (k:Nat) from h.val 19 _ rfl (hd 19 (by decide))),(show a.eval (.tmp 121)=.pointer (some ⟨lb,lo+k,none⟩) from h.val 20 _ rfl (hd 20 (by decide))),(show a.eval (.tmp 122)=.slice (some ⟨fb,fo,none⟩) FL fc from h.val 21 _ rfl (hd 21 (by decide))),(show a.eval (.tmp 123)=.slice (some ⟨lb,lo,none⟩) G bc from h.val 22 _ rfl (hd 22 (by decide))),(show a.eval (.tmp 124)=.int .i64 (k:Nat) from h.val 23 _ rfl (hd 23 (by decide))),(show a.eval (.tmp 125)=.pointer (some ⟨lb,lo+k,none⟩) from h.val 24 _ rfl (hd 24 (by decide))),(show a.eval (.tmp 126)=.slice (some ⟨fb,fo,none⟩) FL fc from h.val 25 _ rfl (hd 25 (by decide))),(show a.eval (.tmp 127)=.int .i64 (i:Nat) from h.val 26 _ rfl (hd 26 (by decide))),(show a.eval (.tmp 128)=.pointer (some ⟨fb,fo+i,none⟩) from h.val 27 _ rfl (hd 27 (by decide))),(show a.eval (.tmp 129)=.int .i64 x from h.val 28 _ rfl (hd 28 (by decide))),(show a.eval (.tmp 130)=.slice (some ⟨rb,ro,none⟩) KW rc from h.val 29 _ rfl (hd 29 (by decide))),(show a.eval (.tmp 131)=.bool true from h.val 30 _ rfl (hd 30 (by decide))),(show a.eval (.tmp 132)=.bool false from h.val 31 _ rfl (hd 31 (by decide))),(show a.eval (.tmp 133)=.bool false from h.val 32 _ rfl (hd 32 (by decide))),(show a.eval (.tmp 134)=.bool false from h.val 33 _ rfl (hd 33 (by decide))),(show a.eval (.tmp 135)=.slice (some ⟨vb,vo,none⟩) RL vc from h.val 34 _ rfl (hd 34 (by decide))),(show a.eval (.tmp 136)=.slice (some ⟨rb,ro,none⟩) KW rc from h.val 35 _ rfl (hd 35 (by decide))),(show a.eval (.tmp 137)=.pointer (some ⟨rb,ro,none⟩) from h.val 36 _ rfl (hd 36 (by decide))),(show a.eval (.tmp 138)=.int .i64 (s:Nat) from h.val 37 _ rfl (hd 37 (by decide))),(show a.eval (.tmp 139)=.pointer (some ⟨vb,vo+s,none⟩) from h.val 38 _ rfl (hd 38 (by decide))),(show a.eval (.tmp 140)=.bool true from h.val 39 _ rfl (hd 39 (by decide))),(show a.eval (.tmp 141)=.bool false from h.val 40 _ rfl (hd 40 (by decide))),(show a.eval (.tmp 142)=.bool false from h.val 41 _ rfl (hd 41 (by decide)))] at hfin
         have hbz:=h.below
         rw[hfin,HA0.out]
         clear hfin HA0 h hall hd hsz t1 t7 t3 t9 t10 t11 t13 t14 t5 t12 t8
         simp only[Act.put,List.setIfInBounds_toArray,List.set_cons_zero,List.set_cons_succ]
         have HZ3:=Hd_ (HZ2.out.1.trans (hbz.mono HZ2.out.1.size))
         clear hbz
         go_wp2
         go_roundw
         case rel=>exact⟨i+1,by go_num,by omega,HZ3⟩
         case measure=>simp[intOf];omega
     ·have q3:wr.cell? ⟨lb,lo+k,none⟩=some (.slice fA FL fc):=ZA (H4.out.1.trans (HB.out.mono H4.out.1.size)) _ _ _ HFC.out.1
      have HB9:=Hd_ (H4.out.1.trans (HB.out.mono H4.out.1.size))
      go_wp2
      go_roundw
      case rel=>exact⟨k+1,by go_num,by omega,HB9⟩
      case measure=>simp[intOf];omega
   ·go_wp2
    go_ret
    exact⟨rfl,H3.out.1.trans (HB.out.mono H3.out.1.size)⟩
 ·have HPB:=Hd_ (ZCJ (m:=true) hc)
  have HCL:=Hd_ fun w1 h=>(hcl w1 h).mono fun e w' hp=>(by
   rcases hp with⟨hbad,_⟩ | ⟨_,hp⟩
   ·exact absurd hbad hc
   ·exact hp:e=.returned (.tuple #[.slice none 0 0,.int .i64 60])∧Below w1.heap.size w1 w')
  clear hcl hnd hal hc
  go_enter Tryd.func3,Tryd.ntmps3
  go_wp2_with (first
   | (go_at_call 7
      refine(HBG.out _ HBX.out.2).mono ?_
      rintro e w1 ⟨rfl,hb1⟩
      have hx1:=HBX.out.1.below hb1 HBX.out.1.lt
      have x0:=hx1.cell 0
      have x1:=hx1.cell 1
      have x2:=hx1.cell 2
      have H1:=Hd_ (And.intro (HBX.out.2.trans (hb1.mono HBX.out.2.size)) hx1)
      clear hb1 hx1)
   | (go_at_call 8
      refine(HPL.out _ H1.out.1).mono ?_
      rintro e w2 h2
      obtain⟨bv,rfl,hb2,hbv⟩:=ZBY h2
      rw[HPB.out] at hbv ⊢
      obtain⟨bA,bc,rfl,-⟩:=id hbv
      have hx2:=H1.out.2.below hb2 H1.out.2.lt
      have x0:=hx2.cell 0
      have x1:=hx2.cell 1
      have x2:=hx2.cell 2
      have H2:=Hd_ (H1.out.1.trans (hb2.mono H1.out.1.size))
      clear hb2 hx2 hbv h2)
   | (go_at_call 9
      refine(HCL.out _ H2.out).mono ?_
      rintro e w3 ⟨rfl,hb3⟩
      have H3:=Hd_ (H2.out.trans (hb3.mono H2.out.size))
      clear hb3))
  go_ret
  exact⟨rfl,H3.out⟩
end Go.Proofs.YtffgnjgphkdodaaDoor
