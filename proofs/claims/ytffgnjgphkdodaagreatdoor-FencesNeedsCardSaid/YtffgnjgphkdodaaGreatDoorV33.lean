import Derived.Test.YtffgnjgphkdodaaGreatDoorV27
import Derived.Test.YtffgnjgphkdodaaGreatDoorV20
import Derived.Test.YtffgnjgphkdodaaGreatDoorV4
import Derived.Test.YtffgnjgphkdodaaGreatDoorV7
import Derived.Laws.StructEq
import Derived.Test.YtffgnjgphkdodaaGreatDoorV2
import Derived.Test.YtffgnjgphkdodaaGreatDoorV46
namespace Go.Proofs.YtffgnjgphkdodaaGreatDoor
open Go Go.RowKit
theorem ZJI {u:Unit_} {g:Graph} {F:List Int} {i:Nat} (h:(mkAt u g F i).store=true) : ReachC g (-1) i:=by
 unfold mkAt at h
 split at h
 ·simp[mk0] at h
 ·simp only[Bool.and_eq_true,decide_eq_true_eq] at h
  exact h.1
theorem ZIE {u:Unit_} {g:Graph} {F:List Int} {k:Nat} {nd:Node} (hn:g.nodes[k]? = some nd) (h:(openG g (stL u g) F)[k]? = some true) : (mkAt u g [] k).load=ldB u nd:=by
 have hk:=(List.getElem?_eq_some_iff.1 hn).1
 have ho:=(ZGh (stL u g) F hk h).1 rfl
 have hr:=ZF5 (fun i hi=>by
  obtain⟨j,e,_,hs⟩:=ZHx.1 hi
  obtain rfl:i=j:=by omega
  exact ZJI hs) ho
 rw[ZAd hn (b:=true) (by simp[hr])]
 simp
set_option maxRecDepth 100000 in
set_option maxHeartbeats 2000000 in
theorem ZFH (u:Unit_) (cs:List Value) (t:Int) (v:Value) (F:List Int) (w:World) (hu:UnitV (cmap w) cs u) (hok:UOk u) (hF:Ints (cmap w) v F) :
  Calls Tryz.prog 14 #[.agg cs.toArray,.int .i64 t,v] w (LoadsPost u t F w):=by
 have HOP:=Hd_ fun w1 (h:Below w.heap.size w w1)=>ZFx u cs t v F w1 (hu.mono (ZA h)) hok (hF.mono (ZA h))
 have HAS:=Hd_ fun w1 (h:Below w.heap.size w w1)=>ZCT u cs t w1 (hu.mono (ZA h)) hok
 obtain⟨sv,lv,gv,rfl,-,-,hgs⟩:=hu
 obtain⟨gA,gc,rfl,-⟩:=id hgs
 have hgl:=hgs.len.2.2
 have hbx:=Blk.new w 25 [sv,lv,.slice gA u.graphs.length gc]
 have hb0:=ZC w (.cells #[sv,lv,.slice gA u.graphs.length gc] 25)
 have HBX:=Hd_ (And.intro hbx hb0)
 have HG:=Hd_ hgs
 clear hbx hb0 hgs hF
 by_cases hE:(openR u t F).2=0
 ·have hask:askE u t=0:=by
   by_cases h:askE u t=0
   ·exact h
   ·unfold openR at hE
    rw[if_neg h] at hE
    exact hE
  obtain⟨hc,h0,h1⟩:=Z3 hask
  obtain⟨tn,rfl⟩:=Int.eq_ofNat_of_zero_le h0
  obtain⟨g,hg⟩ : ∃ g,u.graphs[tn]? = some g:=⟨_,List.getElem?_eq_getElem (by omega)⟩
  have hrg:=(ZR hc).graphs g (List.mem_of_getElem? hg)
  obtain⟨gb,go,rfl,gcs,hgv0,hgc⟩:=HG.out.at_ hg
  obtain⟨nv,rfl,hnv⟩:=hgv0
  obtain⟨nA,nc,rfl,-⟩:=id hnv
  have hnl:=hnv.len.2.2
  have hlr:loadsR u (tn:Int) F=(ldK u g (openR u (tn:Int) F).1 g.nodes.length,0):=by
   unfold loadsR
   rw[if_pos hE,Int.toNat_natCast,hg]
  have hop:(openR u (tn:Int) F).1=openG g (stL u g) F:=by
   unfold openR at hE ⊢
   rw[if_pos hask,Int.toNat_natCast,hg] at hE ⊢
   simp only at hE ⊢
   split at hE
   ·rename_i h;rw[if_pos h]
   ·simp at hE
  have hlen:(openR u (tn:Int) F).1.length=g.nodes.length:=by rw[hop];exact ZBs _ _ _
  obtain⟨ol,hol⟩ : ∃ ol,openR u (tn:Int) F=ol:=⟨_,rfl⟩
  obtain⟨l,oe⟩:=ol
  unfold OpenPost at HOP
  rw[hol] at HOP hlr hlen hE hop
  simp only at hE hop
  subst hE
  rw[hask] at HAS
  have hpos:=hrg.whole.pos
  have hmost:=hrg.whole.most
  have HGD:=Hd_ (And.intro hrg (And.intro hgc hop))
  have HNV:=Hd_ hnv
  have HLR:=Hd_ hlr
  have h1':(tn:Int) < u.graphs.length:=h1
  obtain⟨N,HN⟩ : ∃ N,Hid (g.nodes.length=N):=⟨_,rfl⟩
  have hld:∀ w1,Below w.heap.size w w1→∀ j x,([.string g.name,.int .i64 g.locals,.int .i64 g.slots,.slice nA g.nodes.length nc] : List Value)[j]? = some x→w1.cell? ⟨gb,go+tn * 4+j,none⟩=some x:=fun w1 hb j x hj=>ZA hb _ _ _ (HGD.out.2.1 j x hj)
  rw[HN.out] at hpos hmost hlen HLR hnl hld
  have HLD0:=Hd_ hld
  have HLE:=Hd_ hlen
  clear hask hc hg hrg hlr hol h0 h1 hlen hgc hop hnv hld
  go_enter Tryz.func14,Tryz.ntmps14
  go_wp2_with (first
   | (go_at_call 12
      refine(HOP.out _ HBX.out.2).mono ?_
      rintro e w1 ⟨r,rfl,hr,hb1⟩
      have HU1:=Hd_ (HBX.out.1.below hb1 HBX.out.1.lt)
      have d0:=HU1.out.cell 0
      have d1:=HU1.out.cell 1
      have d2:=HU1.out.cell 2
      have hr':=hr
      simp only at hr'
      rw[HLE.out] at hr'
      obtain⟨ob,oc,rfl,-⟩:=ZW hr' hpos
      have HB1:=Hd_ (And.intro (HBX.out.2.trans (hb1.mono HBX.out.2.size)) hr')
      clear hb1 hr hr')
   | (go_at_call 51
      refine(HAS.out _ HB1.out.1).mono ?_
      rintro e w3 ⟨cv,rfl,hcl,hb3⟩
      have hcl':=(hcl (by trivial)).mono (ZU _ _ _)
      obtain⟨cA,cc,rfl,-⟩:=id hcl'
      have HU3:=Hd_ (HU1.out.below hb3 HU1.out.lt)
      have e2:=HU3.out.cell 2
      have e3:=HLD0.out w3 (HB1.out.1.trans (hb3.mono HB1.out.1.size)) 3 _ rfl
      have HTH:=Hd_ (And.intro hcl' hb3)
      clear hb3 hcl hcl'))
  go_loopw [12,38] (fun v12 v38 wr=>∃ k:Nat,v38=.int .i64 k∧k≤N∧Hid (wr.ownsRow w3.heap.size 3 1 v12 (ldK u g l k).length (ints (ldK u g l k)))∧Hid (Below w3.heap.size w3 wr)) (fun _ v38 _=>N - (intOf v38).toNat)
  case atStart=>exact⟨0,rfl,Nat.zero_le _,Hd_ (World.ownsRow_nil _ _ _ _),Hd_ (Below.refl _ _)⟩
  case round =>
   obtain⟨k,rfl,hk,HO,HB⟩:=hrel
   by_cases hlt:k < N
   ·obtain⟨nd,hnd⟩ : ∃ nd,g.nodes[k]? = some nd:=⟨g.nodes[k]'(by rw[HN.out];exact hlt),List.getElem?_eq_getElem _⟩
    obtain⟨nb,no,rfl,hnc⟩:=HNV.out.at_ hnd
    have hb3w:=HB1.out.1.trans (HTH.out.2.mono HB1.out.1.size)
    have hbw:Below w.heap.size w wr:=hb3w.trans (HB.out.mono hb3w.size)
    have HLD:Hid (∀ j v,nd.cells[j]? = some v→wr.cell? ⟨nb,no+k * 13+j,none⟩=some v):=Hd_ fun j v h=>ZA hbw _ _ _ (hnc j v h)
    have HST2:=Hd_ (ZC9 u nd (.slice cA (clsL u).length cc) (wr.alloc (.cells nd.cells.toArray 66)) (HTH.out.1.mono (ZA (HB.out.alloc HB.out.size (.cells nd.cells.toArray 66)))) (fun h=>ZDg (HGD.out.1.nodes nd (List.mem_of_getElem? hnd)) (.inl h)))
    have hsl:=ZEG u g l k
    have hss:=Z8 u g l k
    have hkl:k < l.length:=by rw[HLE.out];exact hlt
    obtain⟨b,hb⟩ : ∃ b,l[k]? = some b:=⟨_,List.getElem?_eq_getElem hkl⟩
    have hld2:b=true→(mkAt u g [] k).load=ldB u nd:=fun e=>ZIE (F:=F) hnd (by rw[← HGD.out.2.2,hb,e])
    rw[hb] at hss
    obtain⟨sA,sc,rfl,-⟩:=ZF HO.out
    have k0:(0:Int)≤k:=by omega
    have kN:(k:Int) < N:=by omega
    have kS:(k:Int)≤4096:=by omega
    have how2:=HO.out.alloc (.cells nd.cells.toArray 66)
    have hs:=HB.out.size
    have hocw:wr.cell? ⟨ob,k,none⟩=some (.bool b):=by
     have h1:w1.cell? ⟨ob,k,none⟩=some (.bool b):=by
      rw[World.ownsRow.cellAt HB1.out.2 k (by omega)]
      simp[bools,hb]
     exact ZA HB.out _ _ _ (ZA HTH.out.2 _ _ _ h1)
    have HSS:=Hd_ (And.intro hss hld2)
    have HB2:=Hd_ (HB.out.alloc hs (.cells nd.cells.toArray 66))
    have HO2:=Hd_ how2
    have hob2:=World.block_lt_of_cell? _ _ hocw
    simp only at hob2
    clear hnd hnc hkl hb hss hbw how2 hb3w hld2
    unfold Node.cells at HLD HST2 HB2 HO2
    obtain⟨sb,hsb⟩ : ∃ sb,ldB u nd=sb:=⟨_,rfl⟩
    rw[hsb] at HST2 HSS
    clear hsb
    cases b with
    | false =>
     go_wp2_with (first
      | (refine ZB rfl 66 _ rfl nb (no+k * 13) rfl _ _ HLD.out Tryz.underlying66 rfl (by kernel_rfl) ?_))
     go_roundw
     case rel=>exact⟨k+1,by go_num,hlt,by rw[HSS.out.1];exact Hd_ (by simpa using HO2.out),HB2⟩
     case measure=>simp[intOf];omega
    | true =>
     have hss:=HSS.out.1
     rw[HSS.out.2 (by trivial)] at hss
     have HSK:=Hd_ hss
     clear hss
     cases sb with
     | false =>
      go_wp2_with (first
       | (refine ZB rfl 66 _ rfl nb (no+k * 13) rfl _ _ HLD.out Tryz.underlying66 rfl (by kernel_rfl) ?_)
       | (go_at_call 55
          refine(HST2.out).mono ?_
          rintro e w4 ⟨rfl,hb3⟩
          have hO3:=HO2.out.kept (row:=none) ⟨hb3.os,hb3.tape,hb3.output,hb3.size,fun k hk _=>hb3.block k hk⟩ (by cases sA <;> simp[Value.ownBlock])
          have H3:=Hd_ (And.intro (HB2.out.trans (hb3.mono HB2.out.size)) hO3)
          clear hb3 hO3))
      go_roundw
      case rel=>exact⟨k+1,by go_num,hlt,by rw[HSK.out];exact Hd_ (by simpa using H3.out.2),Hd_ H3.out.1⟩
      case measure=>simp[intOf];omega
     | true =>
      go_wp2_with (first
       | (refine ZB rfl 66 _ rfl nb (no+k * 13) rfl _ _ HLD.out Tryz.underlying66 rfl (by kernel_rfl) ?_)
       | (go_at_call 55
          refine(HST2.out).mono ?_
          rintro e w4 ⟨rfl,hb3⟩
          have hO3:=HO2.out.kept (row:=none) ⟨hb3.os,hb3.tape,hb3.output,hb3.size,fun k hk _=>hb3.block k hk⟩ (by cases sA <;> simp[Value.ownBlock])
          have hb4:=HB2.out.trans (hb3.mono HB2.out.size)
          have hO4:=hO3.alloc (.cells #[.int .i64 (k:Int)] 3)
          have H3:=Hd_ (And.intro hb4 hO4)
          have hs3:=hb4.size
          clear hb3 hO3 hb4 hO4)
       | (refine ZG rfl ?_))
      refine Stop.intro ?_
      refine ZT ZY rfl _ _ rfl w3.heap.size (.slice sA (ldK u g l k).length sc) (ldK u g l k).length (ints (ldK u g l k)) rfl H3.out.2 _ 0 1 [.int .i64 (k:Int)] rfl rfl (ZQ _ _ _ _ rfl) (by simp[Value.oneCell']) (by omega) (by decide) (by simp;omega) ?_
      intro v' w5 hown5 hgr hobn
      have hb5:=(H3.out.1.alloc H3.out.1.size (.cells #[.int .i64 (k:Int)] 3)).grown hgr (by simp;omega) (fun b hb=>(Zg HO.out b hb))
      have HF:=Hd_ (And.intro hown5 hb5)
      clear hown5 hgr hobn hb5
      go_wp2
      go_roundw
      case rel=>exact⟨k+1,by go_num,hlt,by rw[HSK.out];exact Hd_ (by simpa [ints] using HF.out.1),Hd_ HF.out.2⟩
      case measure=>simp[intOf];omega
   ·obtain rfl:k=N:=by omega
    go_wp2
    go_ret2
    have hs1:=HB1.out.1.size
    have hs3:=HTH.out.2.size
    exact⟨_,by rw[HLR.out];rfl,by rw[HLR.out];exact Zc HO.out (by omega),((HB1.out.1.trans (HTH.out.2.mono hs1)).trans (HB.out.mono (by omega)))⟩
 ·have hlr:loadsR u t F=([],(openR u t F).2):=by unfold loadsR;rw[if_neg hE]
  have hd:((openR u t F).2 != 0)=true:=by simp[hE]
  obtain⟨ol,hol⟩ : ∃ ol,openR u t F=ol:=⟨_,rfl⟩
  unfold OpenPost at HOP
  rw[hol] at HOP hlr hd
  obtain⟨l,er⟩:=ol
  simp only at hd
  have HLR:=Hd_ hlr
  clear hE hlr hol
  go_enter Tryz.func14,Tryz.ntmps14
  go_wp2_with (first
   | (go_at_call 12
      refine(HOP.out _ HBX.out.2).mono ?_
      rintro e w1 ⟨r,rfl,hr,hb1⟩
      have HB1:=Hd_ (HBX.out.2.trans (hb1.mono HBX.out.2.size))
      clear hb1 hr))
  go_ret2
  exact⟨.slice none 0 0,by rw[HLR.out];rfl,by rw[HLR.out];exact World.ownsRow_nil _ _ _ _,HB1.out⟩
def srT (base:Nat) (e:TypeId) (n:Nat) (xs:List Value) (er:Int) : SR:=⟨fun w v=>∃ r,v=.tuple #[r,.int .i64 er]∧w.ownsRow base e 1 r n xs,fun hb ⟨r,e,h⟩=>⟨r,e,ZS h hb⟩⟩
section
variable {κ:Type} [DecidableEq κ] {kv:κ→Value} {dec:Value→Option κ} {P:Program} {w w':World} {b:Nat} {F:κ→Option Value}
def MapAt (kv:κ→Value) (dec:Value→Option κ) (w:World) (b:Nat) (F:κ→Option Value) (k:κ) (st:Nat) : Prop :=
 ∃ es clock i v e,w.heap[b]? = some (.map es clock)∧(∀ e∈es.toList,∃ k',e.key=kv k')∧(∀ k,(seek dec k es.toList 0).map (·.2)=F k)∧MapKept.Stamped es clock∧seek dec k es.toList 0=some (i,v)∧es[i]? = some e∧e.born=st
theorem MapAt.keep {k:κ} {st:Nat} (h:MapAt kv dec w b F k st) (hk:w'.heap[b]? = w.heap[b]?) : MapAt kv dec w' b F k st:=by
 obtain⟨es,c,i,v,e,h,r⟩:=h
 exact⟨es,c,i,v,e,hk.trans h,r⟩
end
end Go.Proofs.YtffgnjgphkdodaaGreatDoor
namespace Go.Proofs.YtffgnjgphkdodaaGreatDoor
open Go Go.RowKit Go.ChangeShapes Go.WideShapes Go.Deep
section
variable {H:Type} {enc:TypeId × Value→H} {w:World} {spare:Nat→Bool} {held:Bool}
def intO1 (_:CM) (cs:List Value) (n:Int) : Prop:=cs=[.int .i64 n]
theorem ZHI {n:Nat} {cs:List Value} {y:DataW H × List MemPlace} (h:DataW.trod enc Tryz.prog w 0 spare held n 3 cs=some y) : ∃ d,intO1 (cmap w) cs d∧i64 d:=by
 obtain⟨s1,e1,_,w1⟩:=DataW.trod_int Tryz.underlying3 h
 exact⟨s1,e1,bounds_i64 w1⟩
theorem ZJG {n:Nat} {cs:List Value} {y:DataW H × List MemPlace} (h:DataW.trod enc Tryz.prog w 0 spare held n 26 cs=some y) : ∃ v l,cs=[v]∧Ints (cmap w) v l∧∀ x∈l,i64 x:=by
 obtain⟨v0,l,e0,h0,hok⟩:=ZDF intO1 i64 Tryz.underlying26 ZFm (by decide) (fun n cs' y hy=>ZHI hy) h
 refine⟨v0,l,e0,h0.imp' fun m b o x hx=>?_,hok⟩
 obtain⟨cs,rfl,h2⟩:=hx
 exact h2 0 _ rfl
set_option maxRecDepth 100000 in
theorem ZF4 {base:Nat} {r:Reach} {v:Value} {d:DataW H} {p:List MemPlace} (hv:Value.okWide Tryz.prog w r base 26 v) (h:DataW.Trod enc Tryz.prog w 0 spare held 26 v d p) :
  ∃ l,Ints (cmap w) v l∧∀ x∈l,i64 x:=by
 obtain⟨a,n,c,rfl⟩:=okWide_slice Tryz.underlying26 hv
 obtain⟨fuel,hf⟩:=h
 have hf':DataW.trod enc Tryz.prog w 0 spare held fuel 26 [.slice a n c]=some (d,p):=hf
 obtain⟨v0,l,e0,h0,hok⟩:=ZJG hf'
 injection e0 with e0 _
 subst e0
 exact⟨l,h0,hok⟩
end
end Go.Proofs.YtffgnjgphkdodaaGreatDoor
