import Derived.Test.YtffgnjgphkdodaaGreatDoorV43
import Derived.Test.YtffgnjgphkdodaaGreatDoorV31
import Derived.Test.YtffgnjgphkdodaaGreatDoorV41
import Derived.Test.YtffgnjgphkdodaaGreatDoorV27
namespace Go.Proofs.YtffgnjgphkdodaaGreatDoor
open Go Go.RowKit
section
variable {u:Unit_} {g:Graph} {R:List Int} {nd:Int}
theorem ZGi {p:Bool} {j:Nat} : ((nxt nd p (j:Int) : Nat) : Int) / 2=j:=by
 unfold nxt num
 rw[Int.toNat_natCast]
 split <;> omega
theorem ZHw (hw:WholeG g) {i:Nat} {p:Bool} {n:Node} {x b:Int} (hn:g.nodes[i]? = some n) (hd:drB n=false) (ht:¬ spT u g (num i p)) (hx:(spD u g R nd)[num i p]? = some x) (hb:StepI (spD u g R nd) (goesL R nd p (fol2 n)) b) :
  (x = -1∧b = -1)∨∃ d j:Nat,x=(d:Int)+1∧b=(nxt nd p (j:Int) : Nat)∧(spD u g R nd)[nxt nd p (j:Int)]? = some (d:Int)∧bestS (spD u g R nd) R nd p (d:Int) (-1) (fol n)=(j:Int)∧(j:Int)∈fol n∧(j:Int) ∉ R∧j < g.nodes.length:=by
 have hf:=hw.fol n (List.mem_of_getElem? hn)
 have hat:∀ y∈fol n,∃ z,(spD u g R nd)[nxt nd p y]? = some z:=fun y hy=>⟨_,List.getElem?_eq_getElem (by rw[ZFv];exact ZA8 (by have:=hf y hy;omega) _)⟩
 have hmem:∀ y∈fol n,y ∉ R→(nxt nd p y:Int)∈goesL R nd p (fol2 n):=fun y h1 h2=>ZBB.2 ⟨y,(Zm n y).2 h1,h2,rfl⟩
 rcases ZJm hw hn hd ht hx with⟨h1,h2⟩ | ⟨d,j,h1,h3,h4,h5,h6⟩
 ·refine .inl ⟨h1,?_⟩
  rcases hb with⟨h,_⟩ | ⟨⟨h3,_⟩,h4,_⟩
  ·exact h
  ·obtain⟨y,h5,h6,rfl⟩:=ZBB.1 h3
   rw[ZDf (h2 y ((Zm n y).1 h5) h6)] at h4
   omega
 ·refine .inr ?_
  rcases hb with⟨_,h⟩ | ⟨⟨h7,_⟩,h8,h9⟩
  ·have:=h _ (hmem j h3 h4)
   rw[ZDf h5] at this
   omega
  ·obtain⟨y,h10,h11,rfl⟩:=ZBB.1 h7
   have hy:=(Zm n y).1 h10
   obtain⟨m,rfl⟩:=Int.eq_ofNat_of_zero_le (hf y hy).1
   obtain⟨z,hz⟩:=hat _ hy
   rw[ZDf hz] at h8
   have h12:=h9 _ (hmem j h3 h4) (by rw[ZDf h5];omega)
   rw[ZDf hz,ZDf h5] at h12
   have h13:z=(d:Int):=by
    rcases h6 _ hy h11 z hz with h | h <;> omega
   subst h13
   refine⟨d,m,h1,rfl,hz,?_,hy,h11,by have:=hf _ hy;omega⟩
   refine IsBest.inj (ZCt (fun k hk=>(hf k hk).1) hy ⟨h11,hz⟩) ⟨hy,⟨h11,hz⟩,fun y' hy' hg'=>?_⟩
   obtain⟨m',rfl⟩:=Int.eq_ofNat_of_zero_le (hf y' hy').1
   have h14:=h9 _ (hmem _ hy' hg'.1) (by rw[ZDf hg'.2];omega)
   rw[ZDf hz,ZDf hg'.2,ZGi,ZGi] at h14
   omega
end
def AwR2 (g:Graph) (D R:List Int) (nd:Int) (W8:World) (AB:Nat) (ans:List Int) (N:Nat) (d:Nat) (v23:Value) (wr:World) : Prop :=
 ∃ (i:Nat) (p:Bool) (pre:List Int) (d':Nat),d'=d∧d'≤8192∧1≤d'∧Hid (Below W8.heap.size W8 wr)∧Hid (Blk wr AB 157 [.int .i64 (i:Nat),.bool p])∧Hid (wr.ownsRow W8.heap.size 3 1 v23 (pre ++ [(i:Int)]).length (ints (pre ++ [(i:Int)]))) ∧
  Hid (pre ++ waySp g D R nd d' (i:Int) p=ans)∧Hid (i < N∧D[num i p]? = some (d':Int))
set_option maxRecDepth 100000 in
set_option maxHeartbeats 1000000 in
theorem ZFL (u:Unit_) (cs:List Value) (t:Int) (v:Value) (F:List Int) (nd:Int) (w:World) (hu:UnitV (cmap w) cs u) (hok:UOk u) (hF:Ints (cmap w) v F) :
  Calls Tryz.prog 44 #[.agg cs.toArray,.int .i64 t,v,.int .i64 nd] w (AlonePost u t F nd w):=by
 have HAS:=Hd_ fun w1 (h:Below w.heap.size w w1)=>ZDd u cs t v F nd w1 (hu.mono (ZA h)) hok (hF.mono (ZA h))
 have hwo:=fun w1 (h:Below w.heap.size w w1) (hl:F.length≤4294967295)=>ZBU v F nd w1 (hF.mono (ZA h)) hl
 have hcl:=fun w1 (h:Below w.heap.size w w1)=>ZAg u cs w1 (hu.mono (ZA h)) hok
 obtain⟨sv,lv,gv,rfl,-,-,hgs⟩:=hu
 obtain⟨gA,gc,rfl,-⟩:=id hgs
 have hgl:=hgs.len.2.2
 have hbx:=Blk.new w 25 [sv,lv,.slice gA u.graphs.length gc]
 have hb0:=ZC w (.cells #[sv,lv,.slice gA u.graphs.length gc] 25)
 have HBX:=Hd_ (And.intro hbx hb0)
 obtain⟨fA,fc,rfl,-⟩:=id hF
 have HG:=Hd_ hgs
 clear hbx hb0 hF hgs
 by_cases hE:faultE u t F nd=0
 ·obtain⟨hea,tn,g,rfl,hg,hfb,-⟩:=ZAy hE
  have hc:=(Z3 hea).1
  have hrg:=(ZR hc).graphs g (List.mem_of_getElem? hg)
  have hw:=hrg.whole
  have hpos:=hw.pos
  have hmost:=hw.most
  have hll:F.length≤4294967295:=by
   rcases ZAT F (-1) (by omega) hfb with h | h
   ·omega
   ·rw[h];simp
  obtain⟨gb,go,rfl,gcs,hgv0,hgc⟩:=HG.out.at_ hg
  have hgv:=hgv0
  obtain⟨nv,rfl,hnv⟩:=hgv0
  obtain⟨n0,hn0⟩ : ∃ n0,g.nodes[0]? = some n0:=⟨g.nodes[0]'(by omega),List.getElem?_eq_getElem _⟩
  obtain⟨nA,nc,rfl,-⟩:=id hnv
  obtain⟨nb,no,rfl,-⟩:=hnv.at_ hn0
  have har:aloneR u (tn:Int) F nd=(if firstF u g (spD u g (withoutL F nd) nd) g.nodes.length < 0 then ([],false,0)
    else (waySp g (spD u g (withoutL F nd) nd) (withoutL F nd) nd (((spD u g (withoutL F nd) nd)[num (firstF u g (spD u g (withoutL F nd) nd) g.nodes.length).toNat false]?).getD 0).toNat (firstF u g (spD u g (withoutL F nd) nd) g.nodes.length) false,true,0)):=by
   unfold aloneR
   rw[if_pos hE,Int.toNat_natCast,hg]
  have hre:=fun w1 (h:Below w.heap.size w w1)=>ZAc g _ w1 hw (hgv.mono (ZA h))
  obtain⟨R,hR⟩ : ∃ R,withoutL F nd=R:=⟨_,rfl⟩
  have hrd:=fun w1 (h:Below w.heap.size w w1) (cv rv:Value) (hcv:Clss (cmap w1) cv ((List.range u.shared.length).map fun x:Nat=>classF u (x:Int))) (hrv:Ints (cmap w1) rv R)=>ZF0 u g _ cv rv R nd w1 hw (hgv.mono (ZA h)) hcv (fun n hn hk=>ZDg (hrg.nodes n hn) (.inl hk)) hrv
  have hst:=fun w1 (h:Below w.heap.size w w1) (rv dv:Value) (i:Nat) (p:Bool) (n:Node) (hrv:Ints (cmap w1) rv R) (hdv:Ints (cmap w1) dv (spD u g R nd)) (hn:g.nodes[i]? = some n)=>ZFw g _ rv R nd i p n dv (spD u g R nd) w1 hw (hgv.mono (ZA h)) hrv hn hdv ZFv
  have htG:=(List.getElem?_eq_some_iff.1 hg).1
  rw[hE] at HAS
  rw[hR] at har
  have HAR:=Hd_ har
  have HWN:=Hd_ fun w1 h=>hwo w1 h hll
  rw[hR] at HWN
  have HCL:=Hd_ fun w1 h=>(hcl w1 h).mono fun e w' hp=>(by
   rcases hp with⟨_,hp⟩ | ⟨hbad,_⟩
   ·exact hp
   ·exact absurd hc hbad:∃ v,e=.returned (.tuple #[v,.int .i64 0])∧Clss (part w' w1.heap.size w'.heap.size) v ((List.range u.shared.length).map fun x:Nat=>classF u (x:Int))∧Below w1.heap.size w1 w')
  have HRG:=Hd_ hrg
  have HLD:=Hd_ hgc
  have HNC:Hid (∀ (i:Nat) (n:Node),g.nodes[i]? = some n→∀ (j:Nat) (x:Value),n.cells[j]? = some x→cmap w nb (no+i * 13+j)=some x):=Hd_ fun i n hn=>by
   obtain⟨nb',no',e,h⟩:=hnv.at_ hn
   injection e with e
   injection e with e1 e2
   subst e1 e2
   exact h
  obtain⟨N,HN⟩ : ∃ N,Hid (g.nodes.length=N):=⟨_,rfl⟩
  obtain⟨G,hG⟩ : ∃ G,u.graphs.length=G:=⟨_,rfl⟩
  rw[HN.out] at hre hrd hst HLD HAR hpos hmost
  rw[hG] at HBX htG HAS HCL
  have HRE:=Hd_ hre
  have HRD:=Hd_ hrd
  have HST:=Hd_ hst
  have t0:(0:Int)≤(tn:Nat):=by omega
  have tG:((tn:Nat) : Int) < G:=by omega
  clear hE hea hg hfb hc hrg hw hll hgv hgc hnv hn0 har hre hrd hst hwo hcl hR HG
  rw[hG]
  clear hG htG
  go_enter Tryz.func44,Tryz.ntmps44
  go_wp2_with (first
   | (go_at_call 85
      refine(HAS.out _ HBX.out.2).mono ?_
      rintro e w1 ⟨rfl,hb1⟩
      have HB1:=Hd_ (And.intro (HBX.out.2.trans (hb1.mono HBX.out.2.size)) (HBX.out.1.below hb1 HBX.out.1.lt))
      have q2:w1.cell? ⟨w.heap.size,2,none⟩=some (.slice (some ⟨gb,go,none⟩) G gc):=HB1.out.2.cell 2
      have HLG:Hid (∀ j v,([.string g.name,.int .i64 g.locals,.int .i64 g.slots,.slice (some ⟨nb,no,none⟩) N nc] : List Value)[j]? = some v→w1.cell? ⟨gb,go+tn * 4+j,none⟩=some v):=Hd_ fun j v hj=>ZA HB1.out.1 _ _ _ (HLD.out j v hj)
      clear hb1)
   | (refine ZB rfl 69 _ rfl gb (go+tn * 4) rfl _ _ HLG.out Tryz.underlying69 rfl (by kernel_rfl) ?_)
   | (refine ZI 69 rfl ?_))
  refine Stop.intro ?_
  refine wpList_store_row rfl 69 _ _ rfl w1.heap.size #[.string g.name,.int .i64 g.locals,.int .i64 g.slots,.slice (some ⟨nb,no,none⟩) N nc] rfl rfl 69 _ (heap_alloc_new _ _) (by kernel_rfl) rfl (by simp[Value.oneCell']) ?_
  rw[World.setRow_alloc_new]
  have hgb:=Blk.new w1 69 [.string g.name,.int .i64 g.locals,.int .i64 g.slots,.slice (some ⟨nb,no,none⟩) N nc]
  have ha2:=ZC w1 (.cells #[.string g.name,.int .i64 g.locals,.int .i64 g.slots,.slice (some ⟨nb,no,none⟩) N nc] 69)
  obtain⟨GB,hGB⟩ : ∃ GB,w1.heap.size=GB:=⟨_,rfl⟩
  obtain⟨w2,hw2⟩ : ∃ w2,w1.alloc (.cells #[.string g.name,.int .i64 g.locals,.int .i64 g.slots,.slice (some ⟨nb,no,none⟩) N nc] 69)=w2:=⟨_,rfl⟩
  rw[hw2] at hgb ha2 ⊢
  rw[hGB] at hgb ⊢
  have H2:=Hd_ (And.intro (HB1.out.1.trans (ha2.mono HB1.out.1.size)) (And.intro hgb (HB1.out.2.below ha2 HB1.out.2.lt)))
  have u0:=H2.out.2.2.cell 0
  have u1:=H2.out.2.2.cell 1
  have u2:=H2.out.2.2.cell 2
  clear hgb ha2 hGB hw2 q2 HLG HAS HB1
  go_wp2_with (first
   | (go_at_call 90
      refine(HCL.out _ H2.out.1).mono ?_
      rintro e w3 ⟨cv,rfl,hcs,hb3⟩
      obtain⟨cA,cn,cc,rfl⟩ : ∃ A n c,cv=.slice A n c:=by obtain⟨A,c,e,_⟩:=hcs;exact⟨_,_,_,e⟩
      have H3:=Hd_ (And.intro (H2.out.1.trans (hb3.mono H2.out.1.size)) (And.intro (H2.out.2.1.below hb3 H2.out.2.1.lt) (hcs.mono (ZU _ _ _))))
      have g0:=H3.out.2.1.cell 0
      have g1:=H3.out.2.1.cell 1
      have g2:=H3.out.2.1.cell 2
      have g3:=H3.out.2.1.cell 3
      clear hcs hb3 u0 u1 u2)
   | (go_at_call 91
      refine(HRE.out _ H3.out.1).mono ?_
      rintro e w4 ⟨rv,rl,rfl,hrv,hrl,hrr,hb4⟩
      obtain⟨rA,rc,rfl,-⟩:=id hrv
      rw[hrl] at hrv ⊢
      have HRV:=Hd_ (And.intro hrl hrr)
      have H4:=Hd_ (And.intro (H3.out.1.trans (hb4.mono H3.out.1.size)) (And.intro (H3.out.2.1.below hb4 H3.out.2.1.lt) (And.intro (H3.out.2.2.mono (ZA hb4)) (hrv.mono (ZU _ _ _)))))
      clear hrv hrl hrr hb4 g0 g1 g2 g3)
   | (go_at_call 77
      refine(HWN.out _ H4.out.1).mono ?_
      rintro e w5 ⟨xv,rfl,hxo,hb5⟩
      have hxi:Ints (cmap w5) xv R:=Zj hxo
      obtain⟨xA,xc,rfl,-⟩:=id hxi
      have H5:=Hd_ (And.intro (H4.out.1.trans (hb5.mono H4.out.1.size)) (And.intro (H4.out.2.1.below hb5 H4.out.2.1.lt) (And.intro (H4.out.2.2.1.mono (ZA hb5)) (And.intro (H4.out.2.2.2.mono (ZA hb5)) hxi))))
      have g0:=H5.out.2.1.cell 0
      have g1:=H5.out.2.1.cell 1
      have g2:=H5.out.2.1.cell 2
      have g3:=H5.out.2.1.cell 3
      clear hxo hb5 hxi)
   | (go_at_call 92
      refine(HRD.out _ H5.out.1 _ _ H5.out.2.2.1 H5.out.2.2.2.2).mono ?_
      rintro e w6 ⟨rfl,hdb,hb6⟩
      have H6:=Hd_ (And.intro (H5.out.1.trans (hb6.mono H5.out.1.size)) (And.intro (H5.out.2.1.below hb6 H5.out.2.1.lt) (And.intro (H5.out.2.2.1.mono (ZA hb6)) (And.intro (H5.out.2.2.2.1.mono (ZA hb6)) (And.intro (H5.out.2.2.2.2.mono (ZA hb6)) hdb)))))
      clear hdb hb6 g0 g1 g2 g3))
  clear H2 H3 H4 HCL HRE HWN HRD
  obtain⟨DB,hDB⟩ : ∃ DB,w5.heap.size+1=DB:=⟨_,rfl⟩
  rw[hDB] at H6 ⊢
  clear H5 hDB
  obtain⟨w8,rfl⟩ : ∃ w8:World,w8=w6:=⟨_,rfl⟩
  have hdl:(spD u g R nd).length=2 * N:=by rw[ZFv,HN.out]
  have hd8:∀ (i:Nat) (x:Int),(spD u g R nd)[i]? = some x→x≤8192:=fun i x hi=>by
   rcases ZAj.2 _ _ hi with⟨h1,_⟩ | ⟨e,h1,h2⟩
   ·omega
   ·have:=h2.lt (N:=2 * g.nodes.length) (fun i d hd=>ZJz hd)
    rw[HN.out] at this
    omega
  have HDI:Hid (∀ wx,Below w8.heap.size w8 wx→Ints (cmap wx) (.slice (some ⟨DB,0,none⟩) (2 * N) (2 * N)) (spD u g R nd)):=Hd_ fun wx h=>by
   have h1:=ZAW (f:=fun x:Int=>Value.int .i64 x) (R:=IntC) (l:=spD u g R nd) (n:=2 * N) (fun _ _ _ _ h=>h) (H6.out.2.2.2.2.2.below h H6.out.2.2.2.2.2.lt) (Nat.le_refl _) (Nat.le_refl _) hdl.symm (by omega)
   exact h1.mono (ZU _ _ _)
  have HDC:Hid (∀ wx,Below w8.heap.size w8 wx→∀ (k:Nat) (x:Int),(spD u g R nd)[k]? = some x→wx.cell? ⟨DB,k,none⟩=some (.int .i64 x)):=Hd_ fun wx h k x hx=>by
   rw[(H6.out.2.2.2.2.2.below h H6.out.2.2.2.2.2.lt).cell]
   simp only[ints,List.getElem?_map,hx]
   rfl
  have HD8:=Hd_ (And.intro hdl hd8)
  have HBW:Hid (∀ wx,Below w8.heap.size w8 wx→Below w.heap.size w wx):=Hd_ fun wx h=>H6.out.1.trans (h.mono H6.out.1.size)
  obtain⟨D,hD⟩ : ∃ D,spD u g R nd=D:=⟨_,rfl⟩
  have HDE:=Hd_ hD
  rw[hD] at HAR HDI HDC HD8 HST
  clear hD hdl hd8
  obtain⟨N2,hN2⟩ : ∃ N2,2 * N=N2:=⟨_,rfl⟩
  have n8:(N2:Int)≤8192:=by omega
  rw[hN2] at HDI HD8 ⊢
  have HN2:=Hd_ hN2
  clear hN2
  go_loopw [18,19,20] (fun v18 v19 v20 wr=>∃ (k:Nat) (bb:Int),v20=.int .i64 k∧k≤N∧v18=.int .i64 (firstF u g D k)∧v19=.int .i64 bb∧Hid (Below w8.heap.size w8 wr)∧Hid ((firstF u g D k < 0∧bb = -1)∨(0≤firstF u g D k∧D[num (firstF u g D k).toNat false]? = some bb∧0≤bb))) (fun _ _ v20 _=>N - (intOf v20).toNat)
  case atStart=>exact⟨0,-1,rfl,Nat.zero_le _,rfl,rfl,Hd_ (Below.refl _ _),Hd_ (.inl ⟨show(-1:Int) < 0 by decide,rfl⟩)⟩
  case round =>
   obtain⟨k,bb,rfl,hk,rfl,rfl,HB,HBB⟩:=hrel
   have g3:wr.cell? ⟨GB,3,none⟩=some (.slice (some ⟨nb,no,none⟩) N nc):=(H6.out.2.1.below HB.out H6.out.2.1.lt).cell 3
   by_cases hlt:k < N
   ·obtain⟨n,hn⟩ : ∃ n,g.nodes[k]? = some n:=⟨g.nodes[k]'(by rw[HN.out];exact hlt),List.getElem?_eq_getElem _⟩
    obtain⟨b,hb⟩ : ∃ b,rl[k]? = some b:=⟨_,List.getElem?_eq_getElem (by rw[HRV.out.1];exact hlt)⟩
    obtain⟨rb,ro,e,hrc⟩:=H6.out.2.2.2.1.at_ (x:=b) (i:=k) (by exact hb)
    subst e
    rw[Nat.mul_one] at hrc
    have hbr:b=true ↔ ReachC g (-1) k:=by rw[← HRV.out.2 k,hb];simp
    have hmk:=ZAd (u:=u) (F:=[]) hn hbr
    have r0:wr.cell? ⟨rb,ro+k,none⟩=some (.bool b):=ZA HB.out _ _ _ hrc
    obtain⟨p0,p1,p2,p3,p4,p5,p6,p7,p8,p9,p10,p11,p12⟩:=ZBW (n:=n) (w:=wr) (b:=nb) (o:=no+k * 13) fun j x hj=>ZA (HBW.out _ HB.out) _ _ _ (HNC.out k n hn j x hj)
    have k0:(0:Int)≤k:=by omega
    have kN:(k:Int) < N:=by omega
    have k4:(k:Int)≤4096:=by omega
    have hrs:=ZCR u n (.slice cA cn cc) wr (H6.out.2.2.1.mono (ZA HB.out)) (fun h=>ZDg (HRG.out.nodes n (List.mem_of_getElem? hn)) (.inr h))
    obtain⟨st,hst⟩ : ∃ st,stB u n=st:=⟨_,rfl⟩
    rw[hst] at hrs
    have HRS:=Hd_ hrs
    unfold Node.cells at HRS
    have hfs:firstF u g D (k+1)=if (b && st)=true∧0≤(D[num k false]?).getD (-1)∧(firstF u g D k < 0∨(D[num k false]?).getD (-1) < (D[num (firstF u g D k).toNat false]?).getD (-1)) then (k:Int) else firstF u g D k:=by
     show(if (mkAt u g [] k).store=true∧_ then (k:Int) else firstF u g D k)=_
     rw[hmk,hst]
    have hsd:st=true→drB n=false:=fun h=>ZI4 (u:=u) (by rw[hst];exact h)
    have HFS:=Hd_ (And.intro hfs (And.intro hsd hn))
    obtain⟨sk,hsk⟩ : ∃ sk,(!(b && st))=sk:=⟨_,rfl⟩
    have HSK:=Hd_ hsk
    obtain⟨f,hf⟩ : ∃ f,firstF u g D k=f:=⟨_,rfl⟩
    rw[hf] at HFS HBB ⊢
    clear hn hb hrc hbr hmk hrs hst hfs hsd hsk hf
    go_upto_region 14 with(fail)
    go_cut [76] from 55 to 106 (fun v76 wx=>v76=.bool sk∧Below wr.heap.size wr wx)
    case first =>
     cases b with
     | false =>
      have hs:sk=true:=by rw[← HSK.out];rfl
      subst hs
      go_wp2
      go_meet
      exact⟨rfl,Below.refl _ _⟩
     | true =>
      have hs:sk = !st:=by rw[← HSK.out];rfl
      subst hs
      go_wp2_with (first
       | (go_at_call 33
          refine(HRS.out).mono ?_
          rintro e w5 ⟨rfl,hb5⟩
          have HB5:=Hd_ hb5
          clear hb5))
      go_meet
      exact⟨rfl,HB5.out⟩
    case rest =>
     obtain⟨rfl,hb5⟩:=hcut
     have HB5:=Hd_ (HB.out.trans (hb5.mono HB.out.size))
     clear hb5 g3 r0 p0 p1 p2 p3 p4 p5 p6 p7 p8 p9 p10 p11 p12 HRS HB
     obtain⟨w5,rfl⟩ : ∃ w5:World,w5=wc:=⟨_,rfl⟩
     cases sk with
     | true =>
      have hff:firstF u g D (k+1)=f:=by
       rw[HFS.out.1,if_neg (fun h=>by have h1:=HSK.out;rw[h.1] at h1;cases h1)]
      have HFF:=Hd_ hff
      clear hff
      go_wp2
      go_roundw
      case rel =>
       first
        | exact⟨k+1,bb,by go_num,by omega,by rw[HFF.out],rfl,HB5,Hd_ (by rw[HFF.out];exact HBB.out)⟩
        | ((repeat apply Exists.intro);exact⟨⟨k+1,bb,by go_num,by omega,by rw[HFF.out],rfl,HB5,Hd_ (by rw[HFF.out];exact HBB.out)⟩,rfl⟩)
      case measure=>simp[intOf];omega
     | false =>
      have hbs:b=true∧st=true:=by simpa using HSK.out
      obtain⟨x,hx⟩ : ∃ x,D[num k false]? = some x:=⟨_,List.getElem?_eq_getElem (by rw[HD8.out.1,← HN2.out];exact ZA8 hlt false)⟩
      have hst5:=HST.out w5 (HBW.out _ HB5.out) (.slice xA R.length xc) _ k false n (H6.out.2.2.2.2.1.mono (ZA HB5.out)) (HDI.out _ HB5.out) HFS.out.2.2
      have hnt:¬ spT u g (num k false):=fun ⟨i,_,h,_⟩=>by
       have:=(ZAI h).2
       cases this
      have hsi:=fun b' (hb':StepI D (goesL R nd false (fol2 n)) b')=>ZHw (R:=R) (nd:=nd) (u:=u) HRG.out.whole HFS.out.2.2 (HFS.out.2.1 hbs.2) hnt (by rw[HDE.out];exact hx) (by rw[HDE.out];exact hb')
      rw[HDE.out] at hsi
      have HSI:=Hd_ hsi
      have HS5:=Hd_ hst5
      have hfs2:=HFS.out.1
      rw[hbs.1,hbs.2,hx] at hfs2
      simp only[Bool.and_self,true_and,Option.getD_some] at hfs2
      have HF2:=Hd_ hfs2
      have HXX:=Hd_ hx
      have c0:=(H6.out.2.1.below HB5.out H6.out.2.1.lt).cell 0
      have c1:=(H6.out.2.1.below HB5.out H6.out.2.1.lt).cell 1
      have c2:=(H6.out.2.1.below HB5.out H6.out.2.1.lt).cell 2
      have c3:=(H6.out.2.1.below HB5.out H6.out.2.1.lt).cell 3
      clear hbs hst5 hnt hsi hfs2 hx
      go_upto_region 16 with(first
       | (go_at_call 93
          refine(HS5.out).mono ?_
          rintro e w6 ⟨b',rfl,hb',hb6⟩
          have H7:=Hd_ (HB5.out.trans (hb6.mono HB5.out.size))
          have HSB:=Hd_ (HSI.out b' hb')
          clear hb' hb6))
      clear c0 c1 c2 c3
      rcases HSB.out with⟨hx1,rfl⟩ | ⟨d,j,hx1,rfl,hDj,-,-,-,hjN⟩
      ·have hff:firstF u g D (k+1)=f:=by
        rw[HF2.out,if_neg (fun h=>by have:=h.1;omega)]
       have HFF:=Hd_ hff
       have dz:decide ((0:Int)≤-1)=false:=rfl
       clear hff hx1
       go_wp2
       go_roundw
       case rel =>
        first
         | exact⟨k+1,bb,by go_num,by omega,by rw[HFF.out],rfl,H7,Hd_ (by rw[HFF.out];exact HBB.out)⟩
         | ((repeat apply Exists.intro);exact⟨⟨k+1,bb,by go_num,by omega,by rw[HFF.out],rfl,H7,Hd_ (by rw[HFF.out];exact HBB.out)⟩,rfl⟩)
       case measure=>simp[intOf];omega
      ·obtain⟨m,hm⟩ : ∃ m,nxt nd false (j:Int)=m:=⟨_,rfl⟩
       rw[hm] at hDj ⊢
       have hmN:m < N2:=by have:=(List.getElem?_eq_some_iff.1 hDj).1;rw[HD8.out.1] at this;exact this
       have dz:decide ((0:Int)≤(m:Nat))=true:=decide_eq_true (by omega)
       have y0:w6.cell? ⟨DB,m,none⟩=some (.int .i64 (d:Nat)):=HDC.out _ H7.out m _ hDj
       have m0:(0:Int)≤(m:Nat):=by omega
       have mN:((m:Nat) : Int) < N2:=by omega
       have d8:=HD8.out.2 _ _ hDj
       have HX1:=Hd_ hx1
       clear hx1 hm hDj hmN
       rcases HBB.out with⟨hf0,hb1⟩ | ⟨hf0,hD0,hb0⟩
       ·have db:decide (bb < 0)=true:=decide_eq_true (by omega)
        have hff:firstF u g D (k+1)=(k:Int):=by
         rw[HF2.out,if_pos ⟨by rw[HX1.out];omega,.inl hf0⟩]
        have HFF:=Hd_ hff
        clear hff hf0 hb1
        go_wp2
        go_roundw
        case rel =>
         first
          | exact⟨k+1,(d:Int)+1,by go_num,by omega,by rw[HFF.out],by go_num,H7,Hd_ (.inr ⟨by rw[HFF.out];omega,by rw[HFF.out,Int.toNat_natCast,HXX.out,HX1.out],by omega⟩)⟩
          | ((repeat apply Exists.intro);exact⟨⟨k+1,(d:Int)+1,by go_num,by omega,by rw[HFF.out],by go_num,H7,Hd_ (.inr ⟨by rw[HFF.out];omega,by rw[HFF.out,Int.toNat_natCast,HXX.out,HX1.out],by omega⟩)⟩,rfl⟩)
        case measure=>simp[intOf];omega
       ·have db:decide (bb < 0)=false:=decide_eq_false (by omega)
        by_cases hlb:(d:Int)+1 < bb
        ·have dl:decide ((d:Int)+1 < bb)=true:=decide_eq_true hlb
         have hff:firstF u g D (k+1)=(k:Int):=by
          rw[HF2.out,if_pos ⟨by rw[HX1.out];omega,.inr (by rw[hD0,HX1.out];exact hlb)⟩]
         have HFF:=Hd_ hff
         clear hff hf0 hD0 hb0
         go_wp2
         go_roundw
         case rel =>
          first
           | exact⟨k+1,(d:Int)+1,by go_num,by omega,by rw[HFF.out],by go_num,H7,Hd_ (.inr ⟨by rw[HFF.out];omega,by rw[HFF.out,Int.toNat_natCast,HXX.out,HX1.out],by omega⟩)⟩
           | ((repeat apply Exists.intro);exact⟨⟨k+1,(d:Int)+1,by go_num,by omega,by rw[HFF.out],by go_num,H7,Hd_ (.inr ⟨by rw[HFF.out];omega,by rw[HFF.out,Int.toNat_natCast,HXX.out,HX1.out],by omega⟩)⟩,rfl⟩)
         case measure=>simp[intOf];omega
        ·have dl:decide ((d:Int)+1 < bb)=false:=decide_eq_false hlb
         have hff:firstF u g D (k+1)=f:=by
          rw[HF2.out,if_neg (fun h=>by
           rcases h.2 with h | h
           ·omega
           ·rw[hD0,HX1.out] at h
            exact hlb h)]
         have HFF:=Hd_ hff
         clear hff hf0 hD0 hb0
         go_wp2
         go_roundw
         case rel =>
          first
           | exact⟨k+1,bb,by go_num,by omega,by rw[HFF.out],rfl,H7,Hd_ (by rw[HFF.out];exact HBB.out)⟩
           | ((repeat apply Exists.intro);exact⟨⟨k+1,bb,by go_num,by omega,by rw[HFF.out],rfl,H7,Hd_ (by rw[HFF.out];exact HBB.out)⟩,rfl⟩)
         case measure=>simp[intOf];omega
   ·obtain rfl:N=k:=by omega
    obtain⟨f,hf⟩ : ∃ f,firstF u g D N=f:=⟨_,rfl⟩
    rw[hf] at HAR HBB ⊢
    clear hf hk hlt
    rcases HBB.out with⟨h0,-⟩ | ⟨h0,hD0,hb0⟩
    ·have df:decide (f < 0)=true:=decide_eq_true h0
     rw[if_pos h0] at HAR
     clear h0
     go_wp2_with (fail)
     refine bodyPost_ret (v:=.tuple #[.slice none 0 0,.bool false,.int .i64 0]) (by simp[results,Tryz.results44,go_sem]) rfl ?_
     exact⟨.slice none 0 0,by rw[HAR.out],by rw[HAR.out];exact World.ownsRow_nil _ _ _ _,HBW.out _ HB.out⟩
    ·have df:decide (f < 0)=false:=decide_eq_false (by omega)
     rw[if_neg (by omega)] at HAR
     obtain⟨i0,rfl⟩:=Int.eq_ofNat_of_zero_le h0
     obtain⟨e0,rfl⟩:=Int.eq_ofNat_of_zero_le hb0
     rw[Int.toNat_natCast] at hD0
     rw[Int.toNat_natCast,hD0] at HAR
     simp only[Option.getD_some,Int.toNat_natCast] at HAR
     have he8:=HD8.out.2 _ _ hD0
     have he1:1≤e0:=ZJ1 (u:=u) (g:=g) (R:=R) (nd:=nd) (s:=i0) (by rw[HDE.out];exact hD0)
     have hi0:i0 < N:=by
      have h1:=(List.getElem?_eq_some_iff.1 hD0).1
      have h2:=HN2.out
      rw[HD8.out.1] at h1
      unfold num at h1
      simp at h1
      omega
     obtain⟨ans,hans⟩ : ∃ ans,waySp g D R nd e0 (i0:Int) false=ans:=⟨_,rfl⟩
     rw[hans] at HAR
     have HI0:=Hd_ (And.intro hi0 hD0)
     have HANS:=Hd_ (And.intro hans (show ans.length=e0+1 by rw[← hans,ZAC]))
     clear h0 hD0 hb0 hi0 hans
     go_wp2_with (refine ZI 157 rfl ?_)
     refine Stop.intro ?_
     obtain⟨w2,hw2⟩ : ∃ w2,wr.alloc (.cells #[.int .i64 (i0:Nat)] 3)=w2:=⟨_,rfl⟩
     have hs2:w2.heap.size=wr.heap.size+1:=by rw[← hw2];simp
     have how:w2.ownsRow w8.heap.size 3 1 (.slice (some ⟨wr.heap.size,0,none⟩) 1 1) ([] ++ [(i0:Int)]).length (ints ([] ++ [(i0:Int)])):=by
      rw[← hw2]
      exact Zv wr #[.int .i64 (i0:Nat)] wr.heap.size rfl HB.out.size (by decide) rfl [.int .i64 (i0:Nat)] rfl
     have ha2:Below wr.heap.size wr w2:=by rw[← hw2];exact ZC _ _
     rw[hw2,← hs2]
     clear hw2
     refine wpList_store_row rfl 157 _ _ rfl w2.heap.size #[.int .i64 (i0:Nat),.bool false] rfl rfl 157 _ (heap_alloc_new _ _) (by kernel_rfl) rfl (by simp[Value.oneCell']) ?_
     rw[World.setRow_alloc_new]
     have hab:=Blk.new w2 157 [.int .i64 (i0:Nat),.bool false]
     have ha3:=ZC w2 (.cells #[.int .i64 (i0:Nat),.bool false] 157)
     obtain⟨AB,hAB⟩ : ∃ AB,w2.heap.size=AB:=⟨_,rfl⟩
     obtain⟨w3,hw3⟩ : ∃ w3,w2.alloc (.cells #[.int .i64 (i0:Nat),.bool false] 157)=w3:=⟨_,rfl⟩
     rw[hw3] at hab ha3 ⊢
     rw[hAB] at hab ⊢
     have hb3:Below w8.heap.size w8 w3:=HB.out.trans ((ha2.trans (ha3.mono ha2.size)).mono HB.out.size)
     have H3:=Hd_ (And.intro hab (And.intro (ZS how ha3) hb3))
     have HAB8:Hid (w8.heap.size≤AB):=Hd_ (by have:=ha2.size;have:=HB.out.size;omega)
     clear hab ha3 ha2 hw3 hb3 how hs2 hAB HB HBB g3
     go_wp2_with (fail)
     simp only[put_none]
     obtain⟨wv,rfl⟩ : ∃ wv:World,wv=wr:=⟨_,rfl⟩
     go_loopg [23] (e0) (fun d v23 wr=>AwR2 g D R nd w8 AB ans N d v23 wr)
     case atStart=>exact⟨i0,false,[],e0,rfl,by omega,he1,Hd_ H3.out.2.2,Hd_ H3.out.1,Hd_ H3.out.2.1,Hd_ HANS.out.1,HI0⟩
     case round =>
      clear H3 HI0
      obtain⟨i,p,pre,d',hdd,hd8,hd1,HBL,HAB,HOW,HWY,HIX⟩:=hrel
      obtain⟨wo,rfl⟩ : ∃ wo:World,wo=wr:=⟨_,rfl⟩
      obtain⟨vA,vc,rfl,-⟩:=ZF HOW.out
      obtain⟨m,hm⟩ : ∃ m,g.nodes[i]? = some m:=⟨g.nodes[i]'(by rw[HN.out];exact HIX.out.1),List.getElem?_eq_getElem _⟩
      have hlen:=congrArg List.length HWY.out
      rw[List.length_append,ZAC,HANS.out.2] at hlen
      obtain⟨d,rfl⟩ : ∃ d,d'=d+1:=⟨d' - 1,by omega⟩
      have hx:(spD u g R nd)[num i p]? = some ((d:Int)+1):=by
       rw[HDE.out,HIX.out.2]
       congr 1
      have hstp:=ZEc HRG.out.whole hm hx
      have hnt:¬ spT u g (num i p):=fun ht=>by
       rcases ZAj.2 _ _ hx with⟨h1,_⟩ | ⟨e,h1,h2⟩
       ·omega
       ·have:=h2.2 0 (.nil ht);omega
      have hst5:=HST.out wo (HBW.out _ HBL.out) (.slice xA R.length xc) _ i p m (H6.out.2.2.2.2.1.mono (ZA HBL.out)) (HDI.out _ HBL.out) hm
      have hsi:=fun b' (hb':StepI D (goesL R nd p (fol2 m)) b')=>ZHw (R:=R) (nd:=nd) (u:=u) HRG.out.whole hm hstp.1 hnt hx (by rw[HDE.out];exact hb')
      rw[HDE.out] at hsi
      have HSI:=Hd_ hsi
      have HS5:=Hd_ hst5
      have HDD:=Hd_ (And.intro hdd hlen)
      have hfa:folAt g (i:Int)=fol m:=by unfold folAt;rw[Int.toNat_natCast,hm]
      have HFA:=Hd_ hfa
      have a0:wo.cell? ⟨AB,0,none⟩=some (.int .i64 (i:Nat)):=HAB.out.cell 0
      have a1:wo.cell? ⟨AB,1,none⟩=some (.bool p):=HAB.out.cell 1
      have c0:=(H6.out.2.1.below HBL.out H6.out.2.1.lt).cell 0
      have c1:=(H6.out.2.1.below HBL.out H6.out.2.1.lt).cell 1
      have c2:=(H6.out.2.1.below HBL.out H6.out.2.1.lt).cell 2
      have c3:=(H6.out.2.1.below HBL.out H6.out.2.1.lt).cell 3
      obtain⟨l,hl⟩ : ∃ l,pre ++ [(i:Int)]=l:=⟨_,rfl⟩
      have hl8:l.length≤8193:=by rw[← hl];simp;omega
      rw[hl] at HOW ⊢
      have HL:=Hd_ (And.intro hl hl8)
      clear hm hlen hx hstp hnt hst5 hsi hdd hfa hl hl8
      go_wp2_with (first
       | (go_at_call 93
          refine(HS5.out).mono ?_
          rintro e w6 ⟨b',rfl,hb',hb6⟩
          have H7:=Hd_ (And.intro (HBL.out.trans (hb6.mono HBL.out.size)) (And.intro (HAB.out.below hb6 HAB.out.lt) (ZS HOW.out hb6)))
          obtain⟨dx,j,hx1,rfl,hDj,hbst,-,-,hjN⟩:=(HSI.out b' hb').resolve_left (fun h=>by have:=h.1;omega)
          obtain rfl:d=dx:=by omega
          obtain⟨k,hk⟩ : ∃ k,nxt nd p (j:Int)=k:=⟨_,rfl⟩
          obtain⟨q,hq⟩ : ∃ q,(p || decide ((j:Int)=nd))=q:=⟨_,rfl⟩
          have hkn:k=num j q:=by rw[← hk,← hq];unfold nxt;rw[Int.toNat_natCast]
          rw[hk] at hDj ⊢
          have hk8:k≤8192:=by have h1:=(List.getElem?_eq_some_iff.1 hDj).1;rw[HD8.out.1] at h1;omega
          have hkN:k < N2:=by have h1:=(List.getElem?_eq_some_iff.1 hDj).1;rw[HD8.out.1] at h1;exact h1
          have hrp:=fun wx=>ZC8 k wx hk8
          have hk2:k / 2=j∧decide (k % 2=1)=q:=by
           rw[hkn]
           unfold num
           cases q
           ·simp
           ·simp;omega
          rw[hk2.1,hk2.2] at hrp
          have HRP:=Hd_ hrp
          have hwy:l ++ waySp g D R nd d (j:Int) q=ans:=by
           rw[← HL.out.1]
           have h1:=HWY.out
           have h2:waySp g D R nd (d+1) (i:Int) p=(i:Int) :: waySp g D R nd d (j:Int) q:=by
            show(i:Int) :: waySp g D R nd d (bestS D R nd p (d:Int) (-1) (folAt g i)) (p || decide (bestS D R nd p (d:Int) (-1) (folAt g i)=nd))=_
            rw[HFA.out,hbst,hq]
           rw[h2] at h1
           rw[← h1]
           simp
          have HWJ:=Hd_ hwy
          have k0:(0:Int)≤(k:Nat):=by omega
          have kN:((k:Nat) : Int) < N2:=by omega
          have HJX:Hid (j < N∧D[num j q]? = some (d:Int)):=Hd_ ⟨by rw[← HN.out];exact hjN,by rw[← hkn];exact hDj⟩
          have HKJ:=Hd_ hDj
          clear hb' hb6 hx1 hbst hjN hk hq hkn hDj hk8 hkN hrp hk2 hwy a0 a1 c0 c1 c2 c3)
       | (go_at_call 94
          refine(HRP.out _).mono ?_
          rintro e w7 ⟨rfl,hb7⟩
          have H8:=Hd_ (And.intro (H7.out.1.trans (hb7.mono H7.out.1.size)) (And.intro (H7.out.2.1.below hb7 H7.out.2.1.lt) (ZS H7.out.2.2 hb7)))
          clear hb7)
       | (refine ZI 157 rfl ?_))
      refine Stop.intro ?_
      refine wpList_store_row rfl 157 _ _ rfl AB #[.int .i64 (j:Nat),.bool q] rfl rfl 157 _ H8.out.2.1 (by kernel_rfl) rfl (by simp[Value.oneCell']) ?_
      have hl8:=HL.out.2
      have hb9:=Blk.setRow (cs':=[.int .i64 (j:Nat),.bool q]) H8.out.2.1
      have ho9:(w7.setRow AB #[.int .i64 (j:Nat),.bool q]).ownsRow w8.heap.size 3 1 (.slice vA l.length vc) l.length (ints l):=H8.out.2.2.kept (ZFY w7 AB _) (.inr fun e=>ZO H8.out.2.2 H8.out.2.1 (by decide) e.symm)
      have hl9:=ZAn H8.out.1 HAB8.out #[.int .i64 (j:Nat),.bool q]
      obtain⟨w9,hw9⟩ : ∃ w9,w7.setRow AB #[.int .i64 (j:Nat),.bool q]=w9:=⟨_,rfl⟩
      rw[hw9] at hb9 ho9 hl9 ⊢
      have b0:w9.cell? ⟨AB,0,none⟩=some (.int .i64 (j:Nat)):=hb9.cell 0
      have H9:=Hd_ (And.intro hb9 (And.intro ho9 hl9))
      clear hb9 ho9 hl9 hw9
      go_wp2_with (refine ZG rfl ?_)
      refine Stop.intro ?_
      have hs9:=H9.out.2.2.size
      refine ZT ZY rfl _ _ rfl w8.heap.size (.slice vA l.length vc) l.length (ints l) rfl (H9.out.2.1.alloc _) w9.heap.size 0 1 [.int .i64 (j:Nat)] rfl rfl (ZJ w9 [.int .i64 (j:Nat)] _ _ rfl) (by simp[Value.oneCell']) (by omega) (by decide) (by simp;omega) ?_
      intro v' w10 hown hgr hob
      have ha:=ZC w9 (.cells #[.int .i64 (j:Nat)] 3)
      have hb10:=(H9.out.1.below ha H9.out.1.lt).grown hgr (fun e=>ZO H9.out.2.1 H9.out.1 (by decide) e)
      have hl10:Below w8.heap.size w8 w10:=(H9.out.2.2.trans (ha.mono hs9)).grown hgr (by have:=ha.size;omega) (fun k hk=>(H9.out.2.1.lt k hk).1)
      have ho10:w10.ownsRow w8.heap.size 3 1 v' (l.length+1) (ints (l ++ [(j:Int)])):=by
       have e2:ints (l ++ [(j:Int)])=ints l ++ [.int .i64 (j:Nat)]:=by simp[ints]
       rw[e2]
       exact hown
      obtain⟨vA2,vc2,rfl,-⟩:=ZF ho10
      have y0:w10.cell? ⟨DB,k,none⟩=some (.int .i64 (d:Nat)):=HDC.out _ hl10 k _ HKJ.out
      have H10:=Hd_ (And.intro hb10 (And.intro ho10 hl10))
      clear ha hb10 hl10 ho10 hown hgr hob hs9 b0 hl8
      cases d with
      | zero =>
       have hans:l ++ [(j:Int)]=ans:=HWJ.out
       have HPR:=Hd_ hans
       clear hans
       go_wp2_with (fail)
       refine bodyPost_ret (v:=.tuple #[.slice vA2 (l.length+1) vc2,.bool true,.int .i64 0]) (by simp[results,Tryz.results44,go_sem]) rfl ?_
       refine⟨.slice vA2 (l.length+1) vc2,by rw[HAR.out],?_,?_⟩
       ·rw[HAR.out,← HPR.out,List.length_append]
        exact Zc H10.out.2.1 H6.out.1.size
       ·exact HBW.out _ H10.out.2.2
      | succ d =>
       have dz:(((d+1:Nat) : Int) == 0)=false:=by rw[beq_eq_false_iff_ne];omega
       go_wp2_with (fail)
       go_roundg (d+1)
       case measure=>have:=HDD.out.1;omega
       case rel=>exact⟨j,q,l,d+1,rfl,by omega,by omega,Hd_ H10.out.2.2,Hd_ H10.out.1,Hd_ (by rw[List.length_append];exact H10.out.2.1),HWJ,HJX⟩
 ·have har:aloneR u t F nd=([],false,faultE u t F nd):=ZEU hE
  have hd:(faultE u t F nd != 0)=true:=by simp[hE]
  obtain⟨er,her⟩ : ∃ er,faultE u t F nd=er:=⟨_,rfl⟩
  rw[her] at har HAS hd
  have HAR:=Hd_ har
  clear hE har her hwo hcl
  go_enter Tryz.func44,Tryz.ntmps44
  go_wp2_with (first
   | (go_at_call 85
      refine(HAS.out _ HBX.out.2).mono ?_
      rintro e w1 ⟨rfl,hb1⟩
      have HB1:=Hd_ (HBX.out.2.trans (hb1.mono HBX.out.2.size))
      clear hb1))
  refine bodyPost_ret (v:=.tuple #[.slice none 0 0,.bool false,.int .i64 er]) (by simp[results,Tryz.results44,go_sem]) rfl ?_
  exact⟨.slice none 0 0,by rw[HAR.out],by rw[HAR.out];exact World.ownsRow_nil _ _ _ _,HB1.out⟩
end Go.Proofs.YtffgnjgphkdodaaGreatDoor
