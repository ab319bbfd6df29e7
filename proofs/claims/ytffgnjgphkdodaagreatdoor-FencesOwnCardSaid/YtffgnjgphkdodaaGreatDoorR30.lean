import Derived.Test.YtffgnjgphkdodaaGreatDoorR28
import Derived.Test.YtffgnjgphkdodaaGreatDoorR21
import Derived.Test.YtffgnjgphkdodaaGreatDoorR8
import Derived.Test.YtffgnjgphkdodaaGreatDoorCards
import Derived.Test.YtffgnjgphkdodaaGreatDoorTie
import Derived.ProofKit
import Derived.Deep.DeepHandedRow
import Derived.Lib.LaidTab
import Derived.SevenTiedAt
namespace Go.Proofs.YtffgnjgphkdodaaGreatDoor
open Go Go.RowKit
theorem ZJ3 {u:Unit_} {g:Graph} {F:List Int} {i:Nat} (h:(mkAt u g F i).store=true) : ReachC g (-1) i:=by
 unfold mkAt at h
 split at h
 ·simp[mk0] at h
 ·simp only[Bool.and_eq_true,decide_eq_true_eq] at h
  exact h.1
theorem ZIw {u:Unit_} {g:Graph} {F:List Int} {k:Nat} {nd:Node} (hn:g.nodes[k]? = some nd) (h:(openG g (stL u g) F)[k]? = some true) : (mkAt u g [] k).load=ldB u nd:=by
 have hk:=(List.getElem?_eq_some_iff.1 hn).1
 have ho:=(ZHQ (stL u g) F hk h).1 rfl
 have hr:=ZGl (fun i hi=>by
  obtain⟨j,e,_,hs⟩:=ZIe.1 hi
  obtain rfl:i=j:=by omega
  exact ZJ3 hs) ho
 rw[ZA7 hn (b:=true) (by simp[hr])]
 simp
set_option maxRecDepth 100000 in
set_option maxHeartbeats 2000000 in
theorem ZCo (u:Unit_) (cs:List Value) (t:Int) (v:Value) (F:List Int) (w:World) (hu:UnitV (cmap w) cs u) (hok:UOk u) (hF:Ints (cmap w) v F) :
  Calls Tryz.prog 14 #[.agg cs.toArray,.int .i64 t,v] w (LoadsPost u t F w):=by
 have HOP:=Hd_ fun w1 (h:Below w.heap.size w w1)=>ZGd u cs t v F w1 (hu.mono (ZA h)) hok (hF.mono (ZA h))
 have HAS:=Hd_ fun w1 (h:Below w.heap.size w w1)=>ZCp u cs t w1 (hu.mono (ZA h)) hok
 obtain⟨sv,lv,gv,rfl,-,-,hgs⟩:=hu
 obtain⟨gA,gc,rfl,-⟩:=id hgs
 have hgl:=hgs.len.2.2
 have hbx:=Blk.new w 25 [sv,lv,.slice gA u.graphs.length gc]
 have hb0:=ZC w (.cells #[sv,lv,.slice gA u.graphs.length gc] 25)
 have HBX:=Hd_ (And.intro hbx hb0)
 have HG:=Hd_ hgs
 clear hbx hb0 hgs hF
 by_cases hE:(openR u t F).2=0
 ·have hask:askE u t=0:=by
   by_cases h:askE u t=0
   ·exact h
   ·unfold openR at hE
    rw[if_neg h] at hE
    exact hE
  obtain⟨hc,h0,h1⟩:=ZAL hask
  obtain⟨tn,rfl⟩:=Int.eq_ofNat_of_zero_le h0
  obtain⟨g,hg⟩ : ∃ g,u.graphs[tn]? = some g:=⟨_,List.getElem?_eq_getElem (by omega)⟩
  have hrg:=(ZM hc).graphs g (List.mem_of_getElem? hg)
  obtain⟨gb,go,rfl,gcs,hgv0,hgc⟩:=HG.out.at_ hg
  obtain⟨nv,rfl,hnv⟩:=hgv0
  obtain⟨nA,nc,rfl,-⟩:=id hnv
  have hnl:=hnv.len.2.2
  have hlr:loadsR u (tn:Int) F=(ldK u g (openR u (tn:Int) F).1 g.nodes.length,0):=by
   unfold loadsR
   rw[if_pos hE,Int.toNat_natCast,hg]
  have hop:(openR u (tn:Int) F).1=openG g (stL u g) F:=by
   unfold openR at hE ⊢
   rw[if_pos hask,Int.toNat_natCast,hg] at hE ⊢
   simp only at hE ⊢
   split at hE
   ·rename_i h;rw[if_pos h]
   ·simp at hE
  have hlen:(openR u (tn:Int) F).1.length=g.nodes.length:=by rw[hop];exact ZCG _ _ _
  obtain⟨ol,hol⟩ : ∃ ol,openR u (tn:Int) F=ol:=⟨_,rfl⟩
  obtain⟨l,oe⟩:=ol
  unfold OpenPost at HOP
  rw[hol] at HOP hlr hlen hE hop
  simp only at hE hop
  subst hE
  rw[hask] at HAS
  have hpos:=hrg.whole.pos
  have hmost:=hrg.whole.most
  have HGD:=Hd_ (And.intro hrg (And.intro hgc hop))
  have HNV:=Hd_ hnv
  have HLR:=Hd_ hlr
  have h1':(tn:Int) < u.graphs.length:=h1
  obtain⟨N,HN⟩ : ∃ N,Hid (g.nodes.length=N):=⟨_,rfl⟩
  have hld:∀ w1,Below w.heap.size w w1→∀ j x,([.string g.name,.int .i64 g.locals,.int .i64 g.slots,.slice nA g.nodes.length nc] : List Value)[j]? = some x→w1.cell? ⟨gb,go+tn * 4+j,none⟩=some x:=fun w1 hb j x hj=>ZA hb _ _ _ (HGD.out.2.1 j x hj)
  rw[HN.out] at hpos hmost hlen HLR hnl hld
  have HLD0:=Hd_ hld
  have HLE:=Hd_ hlen
  clear hask hc hg hrg hlr hol h0 h1 hlen hgc hop hnv hld
  go_enter Tryz.func14,Tryz.ntmps14
  go_wp2_with (first
   | (go_at_call 12
      refine(HOP.out _ HBX.out.2).mono ?_
      rintro e w1 ⟨r,rfl,hr,hb1⟩
      have HU1:=Hd_ (HBX.out.1.below hb1 HBX.out.1.lt)
      have d0:=HU1.out.cell 0
      have d1:=HU1.out.cell 1
      have d2:=HU1.out.cell 2
      have hr':=hr
      simp only at hr'
      rw[HLE.out] at hr'
      obtain⟨ob,oc,rfl,-⟩:=ZT hr' hpos
      have HB1:=Hd_ (And.intro (HBX.out.2.trans (hb1.mono HBX.out.2.size)) hr')
      clear hb1 hr hr')
   | (go_at_call 51
      refine(HAS.out _ HB1.out.1).mono ?_
      rintro e w3 ⟨cv,rfl,hcl,hb3⟩
      have hcl':=(hcl (by trivial)).mono (ZQ _ _ _)
      obtain⟨cA,cc,rfl,-⟩:=id hcl'
      have HU3:=Hd_ (HU1.out.below hb3 HU1.out.lt)
      have e2:=HU3.out.cell 2
      have e3:=HLD0.out w3 (HB1.out.1.trans (hb3.mono HB1.out.1.size)) 3 _ rfl
      have HTH:=Hd_ (And.intro hcl' hb3)
      clear hb3 hcl hcl'))
  go_loopw [12,38] (fun v12 v38 wr=>∃ k:Nat,v38=.int .i64 k∧k≤N∧Hid (wr.ownsRow w3.heap.size 3 1 v12 (ldK u g l k).length (ints (ldK u g l k)))∧Hid (Below w3.heap.size w3 wr)) (fun _ v38 _=>N - (intOf v38).toNat)
  case atStart=>exact⟨0,rfl,Nat.zero_le _,Hd_ (World.ownsRow_nil _ _ _ _),Hd_ (Below.refl _ _)⟩
  case round =>
   obtain⟨k,rfl,hk,HO,HB⟩:=hrel
   by_cases hlt:k < N
   ·obtain⟨nd,hnd⟩ : ∃ nd,g.nodes[k]? = some nd:=⟨g.nodes[k]'(by rw[HN.out];exact hlt),List.getElem?_eq_getElem _⟩
    obtain⟨nb,no,rfl,hnc⟩:=HNV.out.at_ hnd
    have hb3w:=HB1.out.1.trans (HTH.out.2.mono HB1.out.1.size)
    have hbw:Below w.heap.size w wr:=hb3w.trans (HB.out.mono hb3w.size)
    have HLD:Hid (∀ j v,nd.cells[j]? = some v→wr.cell? ⟨nb,no+k * 13+j,none⟩=some v):=Hd_ fun j v h=>ZA hbw _ _ _ (hnc j v h)
    have HST2:=Hd_ (ZGe u nd (.slice cA (clsL u).length cc) (wr.alloc (.cells nd.cells.toArray 66)) (HTH.out.1.mono (ZA (HB.out.alloc HB.out.size (.cells nd.cells.toArray 66)))) (fun h=>ZGK (HGD.out.1.nodes nd (List.mem_of_getElem? hnd)) (.inl h)))
    have hsl:=ZEc u g l k
    have hss:=ZAB u g l k
    have hkl:k < l.length:=by rw[HLE.out];exact hlt
    obtain⟨b,hb⟩ : ∃ b,l[k]? = some b:=⟨_,List.getElem?_eq_getElem hkl⟩
    have hld2:b=true→(mkAt u g [] k).load=ldB u nd:=fun e=>ZIw (F:=F) hnd (by rw[← HGD.out.2.2,hb,e])
    rw[hb] at hss
    obtain⟨sA,sc,rfl,-⟩:=ZF HO.out
    have k0:(0:Int)≤k:=by omega
    have kN:(k:Int) < N:=by omega
    have kS:(k:Int)≤4096:=by omega
    have how2:=HO.out.alloc (.cells nd.cells.toArray 66)
    have hs:=HB.out.size
    have hocw:wr.cell? ⟨ob,k,none⟩=some (.bool b):=by
     have h1:w1.cell? ⟨ob,k,none⟩=some (.bool b):=by
      rw[World.ownsRow.cellAt HB1.out.2 k (by omega)]
      simp[bools,hb]
     exact ZA HB.out _ _ _ (ZA HTH.out.2 _ _ _ h1)
    have HSS:=Hd_ (And.intro hss hld2)
    have HB2:=Hd_ (HB.out.alloc hs (.cells nd.cells.toArray 66))
    have HO2:=Hd_ how2
    have hob2:=World.block_lt_of_cell? _ _ hocw
    simp only at hob2
    clear hnd hnc hkl hb hss hbw how2 hb3w hld2
    unfold Node.cells at HLD HST2 HB2 HO2
    obtain⟨sb,hsb⟩ : ∃ sb,ldB u nd=sb:=⟨_,rfl⟩
    rw[hsb] at HST2 HSS
    clear hsb
    cases b with
    | false =>
     go_wp2_with (first
      | (refine ZB rfl 66 _ rfl nb (no+k * 13) rfl _ _ HLD.out Tryz.underlying66 rfl (by kernel_rfl) ?_))
     go_roundw
     case rel=>exact⟨k+1,by go_num,hlt,by rw[HSS.out.1];exact Hd_ (by simpa using HO2.out),HB2⟩
     case measure=>simp[intOf];omega
    | true =>
     have hss:=HSS.out.1
     rw[HSS.out.2 (by trivial)] at hss
     have HSK:=Hd_ hss
     clear hss
     cases sb with
     | false =>
      go_wp2_with (first
       | (refine ZB rfl 66 _ rfl nb (no+k * 13) rfl _ _ HLD.out Tryz.underlying66 rfl (by kernel_rfl) ?_)
       | (go_at_call 55
          refine(HST2.out).mono ?_
          rintro e w4 ⟨rfl,hb3⟩
          have hO3:=HO2.out.kept (row:=none) ⟨hb3.os,hb3.tape,hb3.output,hb3.size,fun k hk _=>hb3.block k hk⟩ (by cases sA <;> simp[Value.ownBlock])
          have H3:=Hd_ (And.intro (HB2.out.trans (hb3.mono HB2.out.size)) hO3)
          clear hb3 hO3))
      go_roundw
      case rel=>exact⟨k+1,by go_num,hlt,by rw[HSK.out];exact Hd_ (by simpa using H3.out.2),Hd_ H3.out.1⟩
      case measure=>simp[intOf];omega
     | true =>
      go_wp2_with (first
       | (refine ZB rfl 66 _ rfl nb (no+k * 13) rfl _ _ HLD.out Tryz.underlying66 rfl (by kernel_rfl) ?_)
       | (go_at_call 55
          refine(HST2.out).mono ?_
          rintro e w4 ⟨rfl,hb3⟩
          have hO3:=HO2.out.kept (row:=none) ⟨hb3.os,hb3.tape,hb3.output,hb3.size,fun k hk _=>hb3.block k hk⟩ (by cases sA <;> simp[Value.ownBlock])
          have hb4:=HB2.out.trans (hb3.mono HB2.out.size)
          have hO4:=hO3.alloc (.cells #[.int .i64 (k:Int)] 3)
          have H3:=Hd_ (And.intro hb4 hO4)
          have hs3:=hb4.size
          clear hb3 hO3 hb4 hO4)
       | (refine ZD rfl ?_))
      refine Stop.intro ?_
      refine ZS ZU rfl _ _ rfl w3.heap.size (.slice sA (ldK u g l k).length sc) (ldK u g l k).length (ints (ldK u g l k)) rfl H3.out.2 _ 0 1 [.int .i64 (k:Int)] rfl rfl (ZN _ _ _ _ rfl) (by simp[Value.oneCell']) (by omega) (by decide) (by simp;omega) ?_
      intro v' w5 hown5 hgr hobn
      have hb5:=(H3.out.1.alloc H3.out.1.size (.cells #[.int .i64 (k:Int)] 3)).grown hgr (by simp;omega) (fun b hb=>(Zh HO.out b hb))
      have HF:=Hd_ (And.intro hown5 hb5)
      clear hown5 hgr hobn hb5
      go_wp2
      go_roundw
      case rel=>exact⟨k+1,by go_num,hlt,by rw[HSK.out];exact Hd_ (by simpa [ints] using HF.out.1),Hd_ HF.out.2⟩
      case measure=>simp[intOf];omega
   ·obtain rfl:k=N:=by omega
    go_wp2
    go_ret2
    have hs1:=HB1.out.1.size
    have hs3:=HTH.out.2.size
    exact⟨_,by rw[HLR.out];rfl,by rw[HLR.out];exact Zb HO.out (by omega),((HB1.out.1.trans (HTH.out.2.mono hs1)).trans (HB.out.mono (by omega)))⟩
 ·have hlr:loadsR u t F=([],(openR u t F).2):=by unfold loadsR;rw[if_neg hE]
  have hd:((openR u t F).2 != 0)=true:=by simp[hE]
  obtain⟨ol,hol⟩ : ∃ ol,openR u t F=ol:=⟨_,rfl⟩
  unfold OpenPost at HOP
  rw[hol] at HOP hlr hd
  obtain⟨l,er⟩:=ol
  simp only at hd
  have HLR:=Hd_ hlr
  clear hE hlr hol
  go_enter Tryz.func14,Tryz.ntmps14
  go_wp2_with (first
   | (go_at_call 12
      refine(HOP.out _ HBX.out.2).mono ?_
      rintro e w1 ⟨r,rfl,hr,hb1⟩
      have HB1:=Hd_ (HBX.out.2.trans (hb1.mono HBX.out.2.size))
      clear hb1 hr))
  go_ret2
  exact⟨.slice none 0 0,by rw[HLR.out];rfl,by rw[HLR.out];exact World.ownsRow_nil _ _ _ _,HB1.out⟩
def srT (base:Nat) (e:TypeId) (n:Nat) (xs:List Value) (er:Int) : SR:=⟨fun w v=>∃ r,v=.tuple #[r,.int .i64 er]∧w.ownsRow base e 1 r n xs,fun hb ⟨r,e,h⟩=>⟨r,e,ZW h hb⟩⟩
end Go.Proofs.YtffgnjgphkdodaaGreatDoor
namespace Go.Proofs.YtffgnjgphkdodaaGreatDoor
open Go Go.RowKit Go.ChangeShapes Go.WideShapes Go.Deep
structure USz (u:Unit_) : Prop where
 shared:u.shared.length * 32≤140737488351232
 locks:u.locks.length * 32≤140737488351232
 graphs:u.graphs.length * 56≤140737488351232
 nodes:∀ g∈u.graphs,g.nodes.length * 96≤140737488351232
section
variable {H:Type} {enc:TypeId × Value→H} {P:Program} {w:World} {spare:Nat→Bool} {held:Bool}
theorem ZBl {e:TypeId} {p:Nat→Bool} : ∀ {ds:List (DataW H)},(DataW.weightsAll P e ds).all p=true→∀ d∈ds,(d.weights P e).all p=true
 | [],_,d,hd=>by cases hd
 | x :: ds,h,d,hd=>by
  rw[DataW.weightsAll,List.all_append,Bool.and_eq_true] at h
  rcases List.mem_cons.1 hd with e | e
  ·rw[e];exact h.1
  ·exact ZBl h.2 d e
theorem ZCE {α:Type} (RV:CM→List Value→α→Prop) (pok:α→Prop) {t e size bytes:Nat} (ht:P.underlying t=some (.slice e)) (hC:P.cellsOf e=size) (hB:P.bytesOf e=bytes) (hs:0 < size)
  (hel:∀ n cs' y,DataW.trod enc P w 0 spare held n e cs'=some y→(y.1.weights P e).all (·≤reachBytes)=true→∃ x,RV (cmap w) cs' x∧pok x) {fuel:Nat} {cs:List Value} {x:DataW H × List MemPlace} (h:DataW.trod enc P w 0 spare held fuel t cs=some x)
  (hw:(x.1.weights P t).all (·≤reachBytes)=true) :
  ∃ v xs,cs=[v]∧Sl (Cells RV) size (cmap w) v xs∧(∀ x∈xs,pok x)∧xs.length * bytes≤140737488351232:=by
 rcases open_slice ht h with⟨rfl,_⟩ | ⟨a,len,cap,m,n,D,Pl,rfl,_,hl,hm,hmm,hx,hi⟩
 ·exact⟨_,[],rfl,⟨none,0,rfl,by simp,⟨by simp[maxLen],fun _=>rfl⟩,.inl rfl⟩,(fun x hx=>by cases hx),by simp⟩
 ·have hml:len≤m:=by rw[hmm];split <;> omega
  subst hx
  simp only[DataW.weights,ht,List.all_cons,List.all_append,Bool.and_eq_true,decide_eq_true_eq,hB] at hw
  obtain⟨w1,w2,-⟩:=hw
  obtain⟨xs,h1,h2⟩:=ZD6 (n:=len) (p:=fun i x=>∃ cs',w.cells? 0 (a.add (i * P.cellsOf e)) (P.cellsOf e)=some cs'∧RV (cmap w) cs' x∧pok x) (fun i hil=>by
   obtain⟨cs',k1,k2⟩:=hi i (by omega)
   obtain⟨x,k3,k4⟩:=hel n cs' _ k2 (ZBl w2 (D i) (List.mem_map.2 ⟨i,List.mem_range.2 hil,rfl⟩))
   exact⟨x,cs',k1,k3,k4⟩)
  refine⟨_,xs,rfl,⟨some a,cap,by rw[h1],by omega,⟨hm,fun h=>by cases h⟩,?_⟩,fun x hx=>?_,?_⟩
  ·cases hxs:xs with
   | nil=>exact .inl rfl
   | cons x0 rest =>
    obtain⟨cs0,k1,_⟩:=h2 0 x0 (by rw[hxs];rfl)
    obtain⟨_,hcl,hat⟩:=World.cells?_some k1
    have hc0:=hat 0 (by omega)
    rw[Nat.zero_mul] at hc0
    obtain⟨b,o,s⟩:=a
    have hlt:0 < cs0.length:=by omega
    rw[List.getElem?_eq_getElem hlt] at hc0
    have hspot:s=none:=by simpa [Addr.add] using World.cell?_spot hc0
    subst hspot
    ·refine .inr ⟨b,o,rfl,fun i x hx=>?_⟩
     obtain⟨cs',q1,q2,_⟩:=h2 i x (by rw[hxs];exact hx)
     obtain⟨_,hcl2,hat2⟩:=World.cells?_some q1
     refine⟨cs',q2,fun j v hv=>?_⟩
     have hj:=(List.getElem?_eq_some_iff.1 hv).1
     have:=hat2 j (by omega)
     rw[hC,ZAt,ZAt,hv] at this
     exact this
  ·obtain⟨i,hi'⟩:=List.getElem?_of_mem hx
   obtain⟨_,_,_,q⟩:=h2 i x hi'
   exact q
  ·have h3:len * bytes≤((List.map D (List.range len)).length+(List.map (fun j=>D (len+j)) (List.range (m - len))).length) * bytes:=Nat.mul_le_mul_right _ (by simp)
   rw[h1]
   exact Nat.le_trans h3 w1
end
section
variable {H:Type} {enc:TypeId × Value→H} {w:World} {spare:Nat→Bool} {held:Bool}
theorem ZKd : Tryz.prog.bytesOf 118 = 32:=by kernel_rfl
theorem ZLC : Tryz.prog.bytesOf 69 = 56:=by kernel_rfl
theorem b_node : Tryz.prog.bytesOf 66 = 96:=by kernel_rfl
def graphZ (g:Graph) : Prop:=(∀ n∈g.nodes,n.ok)∧g.nodes.length * 96≤140737488351232
theorem ZGk {n:Nat} {cs:List Value} {y:DataW H × List MemPlace} (h:DataW.trod enc Tryz.prog w 0 spare held n 69 cs=some y) (hw:(y.1.weights Tryz.prog 69).all (·≤reachBytes)=true) : ∃ g,graphO (cmap w) cs g∧graphZ g:=by
 obtain⟨xs,m,_,hy,hlen,hxl,hf⟩:=DataW.trod_struct Tryz.underlying69 h
 replace hlen:=hlen.trans ZDE
 obtain⟨c0,c1,c2,c3,rfl⟩:=ZJ8 hlen
 obtain⟨y0,y1,y2,y3,rfl⟩:=ZJ8 hxl
 have f0:=hf 0 _ rfl
 have f1:=hf 1 _ rfl
 have f2:=hf 2 _ rfl
 have f3:=hf 3 _ rfl
 simp only[List.getElem_toArray,List.getElem_cons_zero,List.getElem_cons_succ,ZJe,ZEo,ZHg] at f0 f1 f2 f3
 subst hy
 simp only[DataW.weights,Tryz.underlying69,List.map_cons,List.map_nil,DataW.weightsEach,List.all_append,Bool.and_eq_true] at hw
 obtain⟨-,-,-,hw3,-⟩:=hw
 obtain⟨s0,e0,_⟩:=DataW.trod_string Tryz.underlying9 f0
 obtain⟨s1,e1,_⟩:=DataW.trod_int Tryz.underlying3 f1
 obtain⟨s2,e2,_⟩:=DataW.trod_int Tryz.underlying3 f2
 obtain⟨v,ns,e3,hn,hok,hz⟩:=ZCE nodeO Node.ok Tryz.underlying67 ZFT b_node (by decide) (fun n cs' y hy _=>ZFx hy) f3 hw3
 simp at e0 e1 e2 e3
 subst e0 e1 e2 e3
 exact⟨⟨s0,s1,s2,ns⟩,⟨_,rfl,hn.imp' fun m b o x hx=>ZBI hx⟩,hok,hz⟩
set_option maxRecDepth 100000 in
theorem ZHz {base:Nat} {r:Reach} {v:Value} {d:DataW H} {p:List MemPlace} (hv:Value.okWide Tryz.prog w r base 25 v) (h:DataW.Trod enc Tryz.prog w 0 spare held 25 v d p)
  (hw:(d.weights Tryz.prog 25).all (·≤reachBytes)=true) :
  ∃ cs u,v=.agg cs.toArray∧UnitV (cmap w) cs u∧UOk u∧USz u:=by
 obtain⟨cs,rfl,hsz⟩:=okWide_struct Tryz.underlying25 hv
 have hsz1:cs.size=3:=Eq.trans hsz ZJd
 have hsz2:cs.toList.length=3:=Array.length_toList.trans hsz1
 clear hsz hv
 obtain⟨fuel,hf0⟩:=h
 obtain⟨xs,m,_,hy,hlen,hxl,hf⟩:=DataW.trod_struct Tryz.underlying25 hf0
 clear hlen hf0
 obtain⟨c0,c1,c2,hl⟩:=ZF3 hsz2
 obtain rfl:cs=#[c0,c1,c2]:=by rw[← Array.toArray_toList (xs:=cs),hl]
 obtain⟨y0,y1,y2,rfl⟩:=ZF3 hxl
 have f0:=hf 0 _ rfl
 have f1:=hf 1 _ rfl
 have f2:=hf 2 _ rfl
 simp only[List.getElem_toArray,List.getElem_cons_zero,List.getElem_cons_succ,ZHh,ZGU] at f0 f1 f2
 injection hy with hy _
 subst hy
 simp only[DataW.weights,Tryz.underlying25,List.map_cons,List.map_nil,DataW.weightsEach,List.all_append,Bool.and_eq_true] at hw
 obtain⟨hw0,hw1,hw2,-⟩:=hw
 obtain⟨v0,d0,e0,h0,_,z0⟩:=ZCE declO (fun _=>True) Tryz.underlying22 ZD7 ZKd (by decide) (fun n cs' y hy _=>by obtain⟨d,h⟩:=ZCF hy;exact⟨d,h,trivial⟩) f0 hw0
 obtain⟨v1,d1,e1,h1,_,z1⟩:=ZCE declO (fun _=>True) Tryz.underlying22 ZD7 ZKd (by decide) (fun n cs' y hy _=>by obtain⟨d,h⟩:=ZCF hy;exact⟨d,h,trivial⟩) f1 hw1
 obtain⟨v2,g2,e2,h2,hok,z2⟩:=ZCE graphO graphZ Tryz.underlying23 ZDE ZLC (by decide) (fun n cs' y hy hz=>ZGk hy hz) f2 hw2
 simp[Value.cells] at e0 e1 e2
 subst e0 e1 e2
 have dcl:∀ {v:Value} {ds:List Decl},Sl (Cells declO) 3 (cmap w) v ds→Decls (cmap w) v ds:=fun h=>h.imp' fun m b o x hx=>by
  obtain⟨cs,rfl,h2⟩:=hx
  exact⟨h2 0 _ rfl,h2 1 _ rfl,h2 2 _ rfl⟩
 exact⟨[c0,c1,c2],⟨d0,d1,g2⟩,rfl,⟨_,_,_,rfl,dcl h0,dcl h1,h2⟩,fun g hg=>(hok g hg).1,z0,z1,z2,fun g hg=>(hok g hg).2⟩
end
end Go.Proofs.YtffgnjgphkdodaaGreatDoor
namespace Go.Proofs.YtffgnjgphkdodaaGreatDoor
open Go Go.RowKit Go.ChangeShapes Go.WideShapes Go.ChangeAt
theorem ZHO:ownKnob Tryz.prog.godebug=none:=by kernel_rfl
theorem g_tab : Tryz.prog.globalNamed "math/bits.deBruijn32tab" = some 0:=by kernel_rfl
theorem ZIE:(Tryz.prog.globals[0]?).map (·.type)=some 246:=by kernel_rfl
theorem c_tab : Tryz.prog.cellsOf 246 = 32:=by kernel_rfl
theorem c_u8 : Tryz.prog.cellsOf 5 = 1:=by kernel_rfl
theorem ZKS {W:World} (h:laidMet Tryz.prog [("math/bits.deBruijn32tab",Rows.laid_math_bits_deBruijn32tab)] W) : Tab W:=by
 have t:Lib.TabIs Tryz.prog W "math/bits.deBruijn32tab" .u8 [0,1,28,2,29,14,24,3,30,22,20,15,25,17,4,8,31,27,13,23,21,19,16,7,26,12,18,6,11,5,10,9] :=
  Lib.tabIs_of_head (rest:=[]) g_tab ZIE Tryz.underlying246 Tryz.underlying5 c_u8 c_tab h
 intro j hj
 have hj2:j < 32:=hj
 have:=t.cell g_tab j (by simpa using hj2)
 rw[this]
 congr 2
 have:∀ j,j < 32→([0,1,28,2,29,14,24,3,30,22,20,15,25,17,4,8,31,27,13,23,21,19,16,7,26,12,18,6,11,5,10,9] : List Int).getD j 0=((Lib.deBruijn32tab.getD j 0:Nat) : Int):=by decide +kernel
 exact this j hj2
theorem ZJ9:laidOutB Tryz.prog=true:=by kernel_rfl
section
variable {H:Type} {enc:TypeId × Value→H} {P:Program}
theorem ZET {f:Func} {s:ChangeSpec} {apart fresh handsOn again:Bool} {W W':World} {args:Array Value} {v:Value} {ds gs:List (DataW H)} {before pa pv:List MemPlace}
  (hW:DataW.Whole enc P f.params.toList s.vars apart W args.toList ds gs before)
  (hres:∀ (b:Nat) (sp:Nat→Bool) (hd:Bool),DataW.TrodAll enc P W' b sp hd f.resultTypes.toList (v.resultList f.resultTypes.size) (s.fn H (ds ++ gs)).results [])
  (hargs:∀ sp:Nat→Bool,(∀ p∈before,sp p.block=true)→DataW.TrodAll enc P W' 0 sp true f.params.toList args.toList (s.fn H (ds ++ gs)).args pa)
  (hvars:∀ sp:Nat→Bool,(∀ p∈before,sp p.block=true)→DataW.TrodVars enc P W' sp s.vars (s.fn H (ds ++ gs)).vars pv)
  (hps:before=pa ++ pv) (hb:Below W.heap.size W W')
  (hok:∀ (j:Nat) (t:TypeId) (r:Value),f.resultTypes[j]? = some t→(v.resultList f.resultTypes.size)[j]? = some r→Value.okWide P W' .any 0 t r) :
  s.post enc P f apart fresh handsOn again W args v W':=by
 have hlt:∀ p∈before,p.block < W.heap.size:=fun p hp=>hW.lt p hp
 have hold:∀ p∈before,(fun b=>decide (b < W.heap.size)) p.block=true:=fun p hp=>by simpa using hlt p hp
 refine⟨ds,gs,before,[],pa,pv,hW,hres _ _ _,hargs _ hold,hvars _ hold,World.keptBut_mono (fun p hp=>⟨hp,?_⟩) (hb.frame (·∈before)),fun _=>?_⟩
 ·rw[hps,List.mem_append] at hp
  exact Or.inr hp
 ·obtain⟨_,_,_,_,_,hz,hn⟩:=hW
  refine⟨hok,_,_,([] ++ pa) ++ pv,⟨[] ++ pa,pv,trodAll_append (hargs _ (fun _ _=>rfl)) (hres _ _ _),hvars _ (fun _ _=>rfl),rfl,?_,?_⟩,?_⟩
  ·intro b off hp
   have hin:MemPlace.cell b off∈before:=by rw[hps];simpa using hp
   rw[hb.frozen (hlt _ hin)]
   exact hz b off hin
  ·intro ha
   have:=hn ha
   rw[hps] at this
   simpa using this
  ·intro p hp _
   rw[hps]
   simpa using hp
end
noncomputable def laidWorld (os:Os) : World :=
 { World.holding Tryz.prog os ⟨#[],#[],[]⟩ with heap:=(World.holding Tryz.prog os ⟨#[],#[],[]⟩).heap.modify 0 fun
   | .cells _ t frozen=>.cells #[.int .u8 0,.int .u8 1,.int .u8 28,.int .u8 2,.int .u8 29,.int .u8 14,.int .u8 24,.int .u8 3,.int .u8 30,.int .u8 22,.int .u8 20,.int .u8 15,.int .u8 25,.int .u8 17,.int .u8 4,.int .u8 8,.int .u8 31,.int .u8 27,.int .u8 13,.int .u8 23,.int .u8 21,.int .u8 19,.int .u8 16,.int .u8 7,.int .u8 26,.int .u8 12,.int .u8 18,.int .u8 6,.int .u8 11,.int .u8 5,.int .u8 10,.int .u8 9] t frozen
   | o=>o }
section
variable {H:Type} {enc:TypeId × Value→H}
theorem ZAz {W W':World} {sp:Nat→Bool} : ∀ {ts:List TypeId} {vs:List Value} {ds:List (DataW H)} {ps:List MemPlace},(∀ t∈ts,Tryz.prog.readableRec t=true∧t < Tryz.prog.types.size) →
  DataW.TrodAll enc Tryz.prog W 0 (fun _=>true) true ts vs ds ps→(∀ p∈ps,W.sameAt W' p)→(∀ p∈ps,sp p.block=true)→DataW.TrodAll enc Tryz.prog W' 0 sp true ts vs ds ps
 | [],vs,ds,ps,_,h,_,_=>by
  obtain⟨rfl,rfl,rfl⟩:=trodAll_nil h
  exact trodAll_mk0
 | t :: ts,vs,ds,ps,ht,h,hs,hp=>by
  obtain⟨v,vs',d,ds',p,q,rfl,rfl,rfl,h0,r0⟩:=trodAll_cons h
  obtain⟨hr,hz⟩:=ht t (List.mem_cons_self ..)
  exact trodAll_cons_mk (WideElems.Trod_stays ZJ9 hr hz h0 (fun x hx=>hs x (List.mem_append_left _ hx)) (fun x hx=>hp x (List.mem_append_left _ hx)))
   (ZAz (fun t h=>ht t (List.mem_cons_of_mem _ h)) r0 (fun x hx=>hs x (List.mem_append_right _ hx)) (fun x hx=>hp x (List.mem_append_right _ hx)))
theorem ZGV (ts:List TypeId) (h:ts.all (fun t=>Tryz.prog.readableRec t && decide (t < Tryz.prog.types.size))=true) (t:TypeId) (ht:t∈ts) : Tryz.prog.readableRec t=true∧t < Tryz.prog.types.size:=by
 have:=List.all_eq_true.1 h t ht
 rw[Bool.and_eq_true,decide_eq_true_eq] at this
 exact this
end
theorem ZB6 {H:Type} {P:Program} {p:Nat→Bool} {t:TypeId} {ts:List TypeId} {d:DataW H} {ds:List (DataW H)} (h:(DataW.weightsEach P (t :: ts) (d :: ds)).all p=true) : (d.weights P t).all p=true:=by
 rw[DataW.weightsEach,List.all_append,Bool.and_eq_true] at h
 exact h.1
end Go.Proofs.YtffgnjgphkdodaaGreatDoor
