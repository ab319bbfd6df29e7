import Derived.Test.YtffgnjgphkdodaaGreatDoorR40
import Derived.Test.YtffgnjgphkdodaaGreatDoorR24
import Derived.Test.YtffgnjgphkdodaaGreatDoorR41
import Derived.Test.YtffgnjgphkdodaaGreatDoorR30
import Derived.Test.YtffgnjgphkdodaaGreatDoorR37
namespace Go.Proofs.YtffgnjgphkdodaaGreatDoor
open Go Go.RowKit
theorem ZJh (D:List Int) (l:List Int) (y:Int) (h:l≠[]) : argK D (l ++ [y])=if keyF D y.toNat < keyF D (argK D l).toNat then y else argK D l:=by
 cases l with
 | nil=>exact absurd rfl h
 | cons x l =>
  show(l ++ [y]).foldl _ x=_
  rw[List.foldl_append]
  rfl
theorem ZJi {D:List Int} (hD:DepOk D) {l:List Int} {i:Nat} {y:Int} {a b:Int} (hi:l[i]? = some y) (h1:0 < i) (hl:∀ x∈l,0≤x∧x < D.length) (hp:l.Pairwise (· < ·)) (ha:D[y.toNat]? = some a) (hb:D[(argK D (l.take i)).toNat]? = some b) :
  argK D (l.take (i+1))=if b≤a then y else argK D (l.take i):=by
 obtain⟨hlt,h3⟩:=List.getElem?_eq_some_iff.1 hi
 have hne:l.take i≠[]:=fun e=>by
  have:=congrArg List.length e
  rw[List.length_take,List.length_nil] at this
  omega
 rw[List.take_succ_eq_append_getElem hlt,h3,ZJh D _ y hne]
 have hm:=ZDF (D:=D) hne
 obtain⟨j,hj⟩:=List.mem_iff_getElem?.1 hm
 rw[List.getElem?_take] at hj
 split at hj
 ·rename_i hji
  have hjl:=(List.getElem?_eq_some_iff.1 hj).1
  have hlt2:=List.pairwise_iff_getElem.1 hp j i hjl hlt hji
  rw[h3] at hlt2
  rw[List.getElem?_eq_getElem hjl] at hj
  injection hj with hj
  rw[hj] at hlt2
  have hk:=hl _ (List.mem_of_mem_take hm)
  have hy:=hl _ (List.mem_of_getElem? hi)
  have:=ZFD hD ha hb
  by_cases c:b≤a
  ·rw[if_pos c,if_pos (this.2 (by omega))]
  ·rw[if_neg c,if_neg (fun h=>by have:=this.1 h;omega)]
 ·cases hj
def RmR (u:Unit_) (m:Bool) (t:Nat) (g:Graph) (w:World) (lo:Nat) (ans:List Int) (k:Nat) (v13 v15:Value) (wr:World) : Prop :=
 ∃ (todo left:List Int),Hid (Ints (part wr lo wr.heap.size) v13 left)∧Hid (Ints (part wr lo wr.heap.size) v15 todo)∧todo.length≤k∧k≤4096∧left.length≤4096∧Hid (Below w.heap.size w wr) ∧
  Hid ((m=true→mergeF u (t:Int) (depthL g) k todo left=ans)∧(m=false→left=ans)∧(∀ x∈todo,0≤x∧x < g.nodes.length)∧todo.Pairwise (· < ·))
def RPlacePost (u:Unit_) (m:Bool) (w:World) (e:Ending) (w':World) : Prop:=∃ v,e=.returned (.tuple #[v,.int .i64 (placeR u m).2])∧Sl (Cells intsV) 1 (part w' w.heap.size w'.heap.size) v (placeR u m).1∧Below w.heap.size w w'
theorem ZIq {w w':World} {lo:Nat} (h:Below w.heap.size w w') : (part w lo w.heap.size).le (part w' lo w'.heap.size) :=
 (ZR fun b _ hb=>h.block b hb).trans (Zk (Nat.le_refl _) h.size)
set_option maxRecDepth 100000 in
set_option maxHeartbeats 1000000 in
theorem ZCn (u:Unit_) (cs:List Value) (m:Bool) (w:World) (hu:UnitV (cmap w) cs u) (hok:UOk u) :
  Calls Tryz.prog 36 #[.agg cs.toArray,.bool m] w (RPlacePost u m w):=by
 have HC:=Hd_ fun w1 (h:Below w.heap.size w w1)=>ZBU u cs w1 (hu.mono (ZA h)) hok
 have HLO0:=Hd_ fun w1 (t:Nat) (h:Below w.heap.size w w1)=>ZCo u cs (t:Int) (.slice none 0 0) [] w1 (hu.mono (ZA h)) hok (ZAG _)
 have HEM0:=Hd_ fun w1 (t:Nat) (v:Value) (F:List Int) (h:Below w.heap.size w w1) (hF:Ints (cmap w1) v F)=>ZG1 u cs (t:Int) v F w1 (hu.mono (ZA h)) hok hF
 obtain⟨sv,lv,gv,rfl,-,-,hgs⟩:=hu
 obtain⟨gA,gc,rfl,-⟩:=id hgs
 have hgl:=hgs.len.2.2
 have hbx:=Blk.new w 25 [sv,lv,.slice gA u.graphs.length gc]
 have hb0:=ZC w (.cells #[sv,lv,.slice gA u.graphs.length gc] 25)
 have HBX:=Hd_ (And.intro hbx hb0)
 have HGS:=Hd_ hgs
 clear hbx hb0 hgs
 cases hc:checkF u with
 | some r =>
  obtain⟨r1,r2⟩:=r
  have HS:=Hd_ (ZEV (u:=u) (m:=m) (by rw[hc];simp))
  rw[hc] at HC
  clear hc HLO0 HEM0
  go_enter Tryz.func36,Tryz.ntmps36
  go_wp2_with (first
   | (go_at_call 57
      refine(HC.out _ HBX.out.2).mono ?_
      rintro e w1 ⟨rfl,hb1⟩
      have HB1:=Hd_ (HBX.out.2.trans (hb1.mono HBX.out.2.size))
      simp only[checkV]
      clear hb1))
  go_ret2
  refine⟨.slice none 0 0,by rw[HS.out];rfl,?_,HB1.out⟩
  rw[HS.out]
  exact⟨none,0,rfl,by simp,⟨by simp[maxLen],fun _=>rfl⟩,.inl rfl⟩
 | none =>
  have HS:=Hd_ (ZA6 (u:=u) (m:=m) hc)
  have hgm:=(ZM hc).threads
  have HCC:=Hd_ hc
  rw[hc] at HC
  clear hc
  have hG64:u.graphs.length≤4096:=by omega
  obtain⟨G,hG⟩ : ∃ G,u.graphs.length=G:=⟨_,rfl⟩
  have HGL:=Hd_ hG
  rw[hG] at hgl hG64 HBX HC HLO0 HEM0 HS HGS ⊢
  clear hG hgm
  go_enter Tryz.func36,Tryz.ntmps36
  go_wp2_with (first
   | (go_at_call 57
      refine(HC.out _ HBX.out.2).mono ?_
      rintro e w1 ⟨rfl,hb1⟩
      have HU1:=Hd_ (HBX.out.1.below hb1 HBX.out.1.lt)
      have HB1:=Hd_ (HBX.out.2.trans (hb1.mono HBX.out.2.size))
      simp only[checkV]
      clear hb1))
  go_loopw [9,10] (fun v9 v10 wr=>∃ (k:Nat) (S:Nat→Prop),v10=.int .i64 k∧k≤G∧Hid (Acc intsV 1 26 w.heap.size S v9 (placeK u m k) wr)∧Hid (Below w.heap.size w wr)∧Hid (Blk wr w.heap.size 25 [sv,lv,.slice gA G gc])) (fun _ v10 _=>G - (intOf v10).toNat)
  case atStart=>exact⟨0,_,rfl,by omega,Hd_ (Acc.nil _ _ _ _ _),HB1,HU1⟩
  case round =>
   obtain⟨k,S,rfl,hk,HACC,HB,HU⟩:=hrel
   obtain⟨vA,vc,rfl,-⟩:=HACC.out.form
   have c2:=HU.out.cell 2
   by_cases hlt:k < G
   ·obtain⟨g,hg⟩ : ∃ g,u.graphs[k]? = some g:=⟨u.graphs[k]'(by rw[HGL.out];exact hlt),List.getElem?_eq_getElem _⟩
    have HG:=Hd_ hg
    have hwg:=((ZM HCC.out).graphs g (List.mem_of_getElem? hg)).whole
    have hmost:=hwg.most
    have hpos:=hwg.pos
    obtain⟨gb,go,rfl,gcs,hgv0,hgc0⟩:=HGS.out.at_ hg
    have hdp0:=fun w1 (h:Below w.heap.size w w1)=>ZFs g gcs w1 hwg (hgv0.mono (ZA h))
    obtain⟨nv,rfl,hnv⟩:=id hgv0
    have HGC:=Hd_ hgc0
    have HDP:=Hd_ hdp0
    have c0:=HU.out.cell 0
    have c1:=HU.out.cell 1
    have k0:(0:Int)≤k:=by omega
    have kG:(k:Int) < G:=by omega
    have HLO:=Hd_ (HLO0.out wr k HB.out)
    have HFA:=Hd_ (ZFY HCC.out hg)
    have hl4:(loadsR u (k:Int) []).1.length≤4096:=Nat.le_trans (ZBf HFA.out) hmost
    obtain⟨ll,hll⟩ : ∃ ll,(loadsR u (k:Int) []).1=ll:=⟨_,rfl⟩
    rw[hll] at HFA hl4
    have HLL:=Hd_ hll
    have HDO:=Hd_ (ZGL hmost)
    have HDL:Hid ((depthL g).length=g.nodes.length):=Hd_ (Zd _ _)
    have HMP:=Hd_ (And.intro hmost hpos)
    unfold LoadsPost at HLO
    simp only[hll] at HLO
    clear hg hll hgv0 hgc0 hnv hdp0 hwg
    obtain⟨wo,rfl⟩ : ∃ wo:World,wo=wr:=⟨_,rfl⟩
    go_wp2_with (first
     | (go_at_call 14
        refine(HLO.out).mono ?_
        rintro e w3 ⟨r3,rfl,ho3,hb3⟩
        obtain⟨rA,rc,rfl,-⟩:=ZF ho3
        have HBW3:=Hd_ (HB.out.trans (hb3.mono HB.out.size))
        have HB3:=Hd_ hb3
        have HO3:=Hd_ (Zy ho3)
        have HU3:=Hd_ (HU.out.below hb3 HU.out.lt)
        have HRL:Hid (∀ A:Option Addr,A=rA→True):=Hd_ fun _ _=>trivial
        clear hb3 ho3 HRL)
     | (refine ZD rfl ?_))
    refine Stop.intro ?_
    refine ZAo (f:=fun x:Int=>Value.int .i64 x) (R:=IntC) (fun _ _ _ _ h=>h) ZU rfl _ _ rfl w3.heap.size (.slice (some ⟨w3.heap.size,0,none⟩) 0 0) 0 [] rfl (Zv w3 #[] w3.heap.size rfl (Nat.le_refl _) (by omega) rfl [] rfl) rA ll.length rc ll rfl (HO3.out.mono (ZH _ _)) (fun _=>rfl) (by omega) (by decide) (by simp) ?_
    intro v13 w5 hown5 hgr5 hob5
    have hb35:Below w3.heap.size w3 w5:=((Below.refl _ _).alloc (Nat.le_refl _) _).grown hgr5 (by simp) (fun b hb=>by
     have hb:some w3.heap.size=some b:=hb
     injection hb with hb
     omega)
    have hU5:=HU3.out.below hb35 HU3.out.lt
    have HBW5:=Hd_ (HBW3.out.trans (hb35.mono HBW3.out.size))
    have hgl5:∀ j x,([.string g.name,.int .i64 g.locals,.int .i64 g.slots,nv] : List Value)[j]? = some x→w5.cell? ⟨gb,go+k * 4+j,none⟩=some x:=fun j x hj=>ZA HBW5.out _ _ _ (HGC.out j x hj)
    have HGL5:=Hd_ hgl5
    have u2:=hU5.cell 2
    have HDP5:=Hd_ (HDP.out w5 HBW5.out)
    have HU5:=Hd_ hU5
    have HB35:=Hd_ hb35
    obtain⟨bA,bc,rfl,-⟩:=ZF hown5
    have H5:=Hd_ hown5
    clear hown5 hgr5 hob5 hb35 hU5 hgl5
    go_wp2_with (first
     | (refine ZB rfl 69 _ rfl gb (go+k * 4) rfl _ _ HGL5.out Tryz.underlying69 rfl (by kernel_rfl) ?_)
     | (go_at_call 76
        refine(HDP5.out).mono ?_
        rintro e w6 ⟨dv,rfl,hod,hb6⟩
        have HOD:=Hd_ hod
        have HB56:=Hd_ hb6
        have HO6:=Hd_ (HO3.out.mono (ZA (HB35.out.trans (hb6.mono HB35.out.size))))
        clear hod hb6)
     | (refine ZD rfl ?_))
    refine Stop.intro ?_
    refine ZAo (f:=fun x:Int=>Value.int .i64 x) (R:=IntC) (fun _ _ _ _ h=>h) ZU rfl _ _ rfl w6.heap.size (.slice (some ⟨w6.heap.size,0,none⟩) 0 0) 0 [] rfl (Zv w6 #[] w6.heap.size rfl (Nat.le_refl _) (by omega) rfl [] rfl) rA ll.length rc ll rfl (HO6.out.mono (ZH _ _)) (fun _=>rfl) (by omega) (by decide) (by simp) ?_
    intro v15 w7 hown7 hgr7 hob7
    have hb67:Below w6.heap.size w6 w7:=((Below.refl _ _).alloc (Nat.le_refl _) _).grown hgr7 (by simp) (fun b hb=>by
     have hb:some w6.heap.size=some b:=hb
     injection hb with hb
     omega)
    have hb57:=HB56.out.trans (hb67.mono HB56.out.size)
    have hb37:=HB35.out.trans (hb57.mono HB35.out.size)
    obtain⟨dcb,ddc,rfl,-,-,-,hdc⟩:=ZT HOD.out HMP.out.2
    have HDC:Hid (∀ (i:Nat) (x:Int),(depthL g)[i]? = some x→cmap w7 dcb i=some (.int .i64 x)):=Hd_ fun i x hx=>ZA hb67 _ _ _ (by
     have hi:=(List.getElem?_eq_some_iff.1 hx).1
     show w6.cell? ⟨dcb,i,none⟩=_
     rw[hdc i (by have:=HDL.out;omega)]
     simp[ints,hx])
    have HBO7:=Hd_ (HB3.out.trans (hb37.mono HB3.out.size))
    obtain⟨eA,ec,rfl,-⟩:=ZF hown7
    have hl5:([] : List Int) ++ ll=ll:=rfl
    have hs37:wo.heap.size≤w3.heap.size:=HB3.out.size
    have HLF:Hid (Ints (part w7 wo.heap.size w7.heap.size) (.slice bA (0+ll.length) bc) ll):=Hd_ (by
     have h1:=ZW H5.out hb57
     rw[Nat.zero_add] at h1 ⊢
     exact Zl (f:=fun x:Int=>Value.int .i64 x) (R:=IntC) (fun _ _ _ _ h=>h) (Zb h1 hs37) (Nat.le_refl _) (Nat.le_refl _))
    have HTD:Hid (Ints (part w7 wo.heap.size w7.heap.size) (.slice eA (0+ll.length) ec) ll):=Hd_ (by
     have h1:=hown7
     rw[Nat.zero_add] at h1 ⊢
     exact Zl (f:=fun x:Int=>Value.int .i64 x) (R:=IntC) (fun _ _ _ _ h=>h) (Zb h1 (by have:=HB35.out.size;have:=HB56.out.size;omega)) (Nat.le_refl _) (Nat.le_refl _))
    have HANS:Hid ((m=true→mergeF u (k:Int) (depthL g) ll.length ll ll=placeL u m k)∧(m=false→ll=placeL u m k)):=Hd_ ⟨fun e=>by rw[e,ZAd HG.out,HLL.out],fun e=>by rw[e,ZAS,HLL.out]⟩
    have HBX7:=Hd_ ((HU5.out.below hb57 HU5.out.lt))
    have HACC7:=Hd_ (HACC.out.keep HBO7.out)
    rw[Nat.zero_add] at HLF HTD
    clear hown7 hgr7 hob7 hb67 hb57 hb37 hdc hl5 u2 c0 c1 c2
    obtain⟨ans,hans⟩ : ∃ ans,placeL u m k=ans:=⟨_,rfl⟩
    rw[hans] at HANS
    have HAN2:=Hd_ hans
    clear hans
    go_wp2
    go_loopg [13,15] (ll.length) (fun q v13 v15 wr=>RmR u m k g w7 wo.heap.size ans q v13 v15 wr)
    case atStart=>exact⟨ll,ll,HLF,HTD,Nat.le_refl _,hl4,hl4,Hd_ (Below.refl _ _),Hd_ ⟨HANS.out.1,HANS.out.2,fun x hx=>by have:=(ZBC.1 HFA.out).1 x hx;omega,(ZBC.1 HFA.out).2⟩⟩
    case round =>
     obtain⟨todo,left,HLF,HTD,hlen,hq4,hf4,HB7,HM⟩:=hrel
     obtain⟨tA,tc,rfl,-⟩:=id HTD.out
     obtain⟨fA,fc,rfl,-⟩:=id HLF.out
     obtain⟨n,hn⟩ : ∃ n,todo.length=n:=⟨_,rfl⟩
     have HN:=Hd_ hn
     have hnq:n≤gk:=by omega
     rw[hn]
     clear hlen hn
     have hout:m=false∨n=0→left=ans:=fun h=>by
      cases hm:m with
      | false=>exact HM.out.2.1 hm
      | true =>
       rcases h with h | h
       ·rw[hm] at h;cases h
       ·have h1:=HM.out.1 hm
        rw[List.eq_nil_of_length_eq_zero (HN.out.trans h),ZCb] at h1
        exact h1
     have HOUT:=Hd_ hout
     clear hout
     cases m with
     | false =>
      have hla:left=ans:=HOUT.out (.inl rfl)
      have hkl:(placeK u false k).length≤4096:=by rw[Z0];omega
      have hb17:=HBO7.out.trans (HB7.out.mono HBO7.out.size)
      have HB17:=Hd_ hb17
      have HLA:=Hd_ hla
      clear hla hb17
      go_wp2_with (refine ZD rfl ?_)
      refine Stop.intro ?_
      have hb17:=HB17.out
      have hacc2:=HACC.out.keep hb17
      have hacc3:=hacc2.alloc (.cells #[.slice fA left.length fc] 26)
      obtain⟨rows,ho,hrl,hrs,hrx⟩:=hacc3.rows
      refine ZS ZAj rfl _ _ rfl w.heap.size (.slice vA (placeK u false k).length vc) _ rows.flatten rfl ho wr.heap.size 0 1 [.slice fA left.length fc] rfl rfl (ZN _ _ _ _ (by simp)) (by simp[Value.oneCell']) (by omega) (by decide) (by have:=HB.out.size;have:=hb17.size;simp;omega) ?_
      intro v' w' hown4 hgr hob
      have hvl:=HACC.out.lt
      have hws:=HB.out.size
      have hss:=hb17.size
      have hacc4:Acc intsV 1 26 w.heap.size (fun b=>S b∨(wo.heap.size≤b∧b < wr.heap.size)) v' (placeK u false (k+1)) w':=by
       rw[ZBv]
       refine hacc3.push hrl hrs hrx rfl hown4 hgr hob (fun b hb=>.inl hb) (fun b hb=>?_) ⟨_,rfl,?_⟩
       ·rcases hb with hb | hb
        ·exact hacc3.sep b hb
        ·exact⟨by omega,by simp;omega,fun e=>by have:=hvl b e.symm;omega⟩
       ·rw[HAN2.out,← HLA.out]
        refine HLF.out.mono ((Z5 wr (S:=fun b=>wo.heap.size≤b∧b < wr.heap.size) fun b h1 h2=>⟨h1,h2⟩).trans (ZY (fun b hb hlt=>?_) (fun b hb=>.inr hb)))
        rw[hgr.block b (by simp;omega) (fun e=>by have:=hvl b e.symm;omega),Below.heap_alloc _ _ _ hlt]
      have hbel5:=((HB.out.trans (hb17.mono hws)).alloc (by omega) (.cells #[.slice fA left.length fc] 26)).grown hgr (by simp;omega) (fun j hj=>(hvl j hj).1)
      have hbk5:=(((HBX7.out.below HB7.out HBX7.out.lt).alloc (.cells #[.slice fA left.length fc] 26))).grown hgr (HACC.out.blk HU.out (by decide))
      have HE:=Hd_ (And.intro hacc4 (And.intro hbel5 hbk5))
      clear hacc4 hbel5 hbk5 hacc2 hacc3 ho hrl hrs hrx hown4 hgr hob hvl hws hss hb17
      go_wp2
      go_roundw
      case rel=>exact⟨k+1,_,by go_num,by omega,Hd_ HE.out.1,Hd_ HE.out.2.1,Hd_ HE.out.2.2⟩
      case measure=>simp[intOf];omega
     | true =>
      cases n with
      | zero =>
       have d0:decide ((0:Int) < ((0:Nat) : Int))=false:=rfl
       have hla:left=ans:=HOUT.out (.inr rfl)
       have hkl:(placeK u true k).length≤4096:=by rw[Z0];omega
       have hb17:=HBO7.out.trans (HB7.out.mono HBO7.out.size)
       have HB17:=Hd_ hb17
       have HLA:=Hd_ hla
       clear hla hb17
       go_wp2_with (refine ZD rfl ?_)
       refine Stop.intro ?_
       have hb17:=HB17.out
       have hacc2:=HACC.out.keep hb17
       have hacc3:=hacc2.alloc (.cells #[.slice fA left.length fc] 26)
       obtain⟨rows,ho,hrl,hrs,hrx⟩:=hacc3.rows
       refine ZS ZAj rfl _ _ rfl w.heap.size (.slice vA (placeK u true k).length vc) _ rows.flatten rfl ho wr.heap.size 0 1 [.slice fA left.length fc] rfl rfl (ZN _ _ _ _ (by simp)) (by simp[Value.oneCell']) (by omega) (by decide) (by have:=HB.out.size;have:=hb17.size;simp;omega) ?_
       intro v' w' hown4 hgr hob
       have hvl:=HACC.out.lt
       have hws:=HB.out.size
       have hss:=hb17.size
       have hacc4:Acc intsV 1 26 w.heap.size (fun b=>S b∨(wo.heap.size≤b∧b < wr.heap.size)) v' (placeK u true (k+1)) w':=by
        rw[ZBv]
        refine hacc3.push hrl hrs hrx rfl hown4 hgr hob (fun b hb=>.inl hb) (fun b hb=>?_) ⟨_,rfl,?_⟩
        ·rcases hb with hb | hb
         ·exact hacc3.sep b hb
         ·exact⟨by omega,by simp;omega,fun e=>by have:=hvl b e.symm;omega⟩
        ·rw[HAN2.out,← HLA.out]
         refine HLF.out.mono ((Z5 wr (S:=fun b=>wo.heap.size≤b∧b < wr.heap.size) fun b h1 h2=>⟨h1,h2⟩).trans (ZY (fun b hb hlt=>?_) (fun b hb=>.inr hb)))
         rw[hgr.block b (by simp;omega) (fun e=>by have:=hvl b e.symm;omega),Below.heap_alloc _ _ _ hlt]
       have hbel5:=((HB.out.trans (hb17.mono hws)).alloc (by omega) (.cells #[.slice fA left.length fc] 26)).grown hgr (by simp;omega) (fun j hj=>(hvl j hj).1)
       have hbk5:=(((HBX7.out.below HB7.out HBX7.out.lt).alloc (.cells #[.slice fA left.length fc] 26))).grown hgr (HACC.out.blk HU.out (by decide))
       have HE:=Hd_ (And.intro hacc4 (And.intro hbel5 hbk5))
       clear hacc4 hbel5 hbk5 hacc2 hacc3 ho hrl hrs hrx hown4 hgr hob hvl hws hss hb17
       go_wp2
       go_roundw
       case rel=>exact⟨k+1,_,by go_num,by omega,Hd_ HE.out.1,Hd_ HE.out.2.1,Hd_ HE.out.2.2⟩
       case measure=>simp[intOf];omega
      | succ n =>
       obtain⟨x0,hx0⟩ : ∃ x,todo[0]? = some x:=⟨_,List.getElem?_eq_getElem (by have:=HN.out;omega)⟩
       obtain⟨tb,tof,rfl,hc0⟩:=HTD.out.at_ hx0
       have hx0b:=HM.out.2.2.1 x0 (List.mem_of_getElem? hx0)
       obtain⟨x0n,rfl⟩:=Int.eq_ofNat_of_zero_le hx0b.1
       have tc0:wr.cell? ⟨tb,tof,none⟩=some (.int .i64 (x0n:Nat)):=by
        have:=(ZX hc0).1
        simpa using this
       have HX0:=Hd_ hx0
       have n0:(0:Int) < (n+1:Nat):=by omega
       have n4:((n+1:Nat) : Int)≤4096:=by omega
       have dn:decide ((0:Int) < ((n+1:Nat) : Int))=true:=decide_eq_true n0
       clear hx0 hc0 hx0b
       go_wp2
       go_loopw [16,17] (fun v16 v17 wi=>∃ (i kk q:Nat),v17=.int .i64 i∧v16=.int .i64 kk∧1≤i∧i≤n+1∧wi=wr.drewN q∧Hid (argK (depthL g) (todo.take i)=(kk:Int))) (fun _ v17 _=>n+1 - (intOf v17).toNat)
       case atStart =>
        refine⟨1,x0n,0,rfl,rfl,Nat.le_refl _,by omega,rfl,Hd_ ?_⟩
        have h1:=HX0.out
        cases hq:todo with
        | nil=>rw[hq] at h1;cases h1
        | cons a b =>
         rw[hq] at h1
         injection h1 with h1
       case round =>
        obtain⟨i,kk,q,rfl,rfl,hi1,hi2,rfl,HK⟩:=hrel
        have hkk:(kk:Int)∈todo.take i:=by
         rw[← HK.out]
         exact ZDF fun e=>by
          have:=congrArg List.length e
          rw[List.length_take,List.length_nil] at this
          have:=HN.out
          omega
        have hkb:=HM.out.2.2.1 _ (List.mem_of_mem_take hkk)
        have k00:(0:Int)≤(kk:Nat):=by omega
        have k0N:((kk:Nat) : Int) < g.nodes.length:=hkb.2
        have i0:(0:Int)≤(i:Nat):=by omega
        have i4:((i:Nat) : Int)≤4096:=by omega
        clear hkk hkb
        by_cases hin:i < n+1
        ·have iN:((i:Nat) : Int) < ((n+1:Nat) : Int):=by omega
         obtain⟨y,hy⟩ : ∃ y,todo[i]? = some y:=⟨_,List.getElem?_eq_getElem (by have:=HN.out;omega)⟩
         obtain⟨tb',tof',e,hcy⟩:=HTD.out.at_ hy
         injection e with e
         injection e with e1 e2
         subst e1 e2
         have hyb:=HM.out.2.2.1 y (List.mem_of_getElem? hy)
         obtain⟨yn,rfl⟩:=Int.eq_ofNat_of_zero_le hyb.1
         have yc:wr.cell? ⟨tb,tof+i,none⟩=some (.int .i64 (yn:Nat)):=by
          have:=(ZX hcy).1
          simpa using this
         have y0:(0:Int)≤(yn:Nat):=by omega
         have yN:((yn:Nat) : Int) < g.nodes.length:=hyb.2
         have hDL:=HDL.out
         obtain⟨av,hav⟩ : ∃ a,(depthL g)[yn]? = some a:=⟨_,List.getElem?_eq_getElem (by omega)⟩
         obtain⟨bv,hbv⟩ : ∃ a,(depthL g)[kk]? = some a:=⟨_,List.getElem?_eq_getElem (by omega)⟩
         have dca:wr.cell? ⟨dcb,yn,none⟩=some (.int .i64 av):=ZA HB7.out _ _ _ (HDC.out yn av hav)
         have dcbv:wr.cell? ⟨dcb,kk,none⟩=some (.int .i64 bv):=ZA HB7.out _ _ _ (HDC.out kk bv hbv)
         have hnx:=ZJi HDO.out hy (by omega) (fun x hx=>by rw[hDL];exact HM.out.2.2.1 x hx) HM.out.2.2.2 (a:=av) (b:=bv) (by rw[Int.toNat_natCast];exact hav) (by rw[HK.out,Int.toNat_natCast];exact hbv)
         rw[HK.out] at hnx
         have HNX:=Hd_ hnx
         clear hnx hav hbv hDL hyb hcy hy
         by_cases hab:bv≤av
         ·have dab:decide (bv≤av)=true:=decide_eq_true hab
          have HAB:=Hd_ hab
          clear hab
          go_wp2
          go_quiet (fail)
          go_wp2
          go_roundw
          case rel=>exact⟨i+1,yn,_,by go_num,rfl,by omega,by omega,rfl,Hd_ (by rw[HNX.out,if_pos HAB.out])⟩
          case measure=>simp[intOf];omega
         ·have dab:decide (bv≤av)=false:=decide_eq_false hab
          have HAB:=Hd_ hab
          clear hab
          go_wp2
          go_quiet (fail)
          go_wp2
          go_roundw
          case rel=>exact⟨i+1,kk,_,by go_num,rfl,by omega,by omega,rfl,Hd_ (by rw[HNX.out,if_neg (by have:=HAB.out;omega)])⟩
          case measure=>simp[intOf];omega
        ·obtain rfl:i=n+1:=by omega
         have hargk:argK (depthL g) todo=(kk:Int):=by
          have:=HK.out
          rwa [List.take_of_length_le (by have:=HN.out;omega)] at this
         have HAR:=Hd_ hargk
         have HWT:=Hd_ (ZBo (.slice (some ⟨tb,tof,none⟩) (n+1) tc) todo (kk:Nat) (wr.drewN q) (by have h:=HTD.out;rw[HN.out] at h;exact h.mono (ZQ wr _ _)) (by have:=HN.out;omega))
         clear hargk
         go_wp2_with (fail)
         go_at_call 77
         refine(HWT.out).mono ?_
         rintro e w8 ⟨v8,rfl,ho8,hb8⟩
         obtain⟨o8,q8,rfl,-⟩:=ZF ho8
         have HB8:=Hd_ ((ZJ wr q).trans hb8)
         have HO8:=Hd_ ho8
         have HWL:=Hd_ (ZBo (.slice fA left.length fc) left (kk:Nat) w8 (HLF.out.mono ((ZQ _ _ _).trans (ZA HB8.out))) (by omega))
         clear ho8 hb8
         go_wp2_with (fail)
         go_at_call 77
         refine(HWL.out).mono ?_
         rintro e w9 ⟨v9,rfl,ho9,hb9⟩
         obtain⟨o9,q9,rfl,-⟩:=ZF ho9
         have hb19:=HB8.out.trans (hb9.mono HB8.out.size)
         have hbw9:=HB.out.trans ((HBO7.out.trans ((HB7.out.trans (hb19.mono HB7.out.size)).mono HBO7.out.size)).mono HB.out.size)
         have HEM:=Hd_ (HEM0.out w9 k _ (withoutL left (kk:Int)) hbw9 (Zy ho9))
         have hu9:=(HBX7.out.below HB7.out HBX7.out.lt).below hb19 (HBX7.out.below HB7.out HBX7.out.lt).lt
         have c0:=hu9.cell 0
         have c1:=hu9.cell 1
         have c2:=hu9.cell 2
         have H9:=Hd_ (And.intro ho9 (And.intro hb9 hb19))
         have hkt:(kk:Int)∈todo:=List.mem_of_mem_take (i:=n+1) (by
          rw[← HK.out]
          exact ZDF fun e=>by
           have:=congrArg List.length e
           rw[List.length_take,List.length_nil] at this
           have:=HN.out
           omega)
         have htne:todo≠[]:=List.ne_nil_of_mem hkt
         have HKT:=Hd_ (And.intro hkt htne)
         clear ho9 hb9 hb19 hbw9 hu9 hkt htne
         cases he:emptyR u (k:Int) (withoutL left (kk:Int)) with
         | true =>
          rw[he] at HEM
          have HE2:=Hd_ he
          clear he
          go_wp2_with (first
           | (go_at_call 78
              refine(HEM.out).mono ?_
              rintro e w10 ⟨rfl,hb10⟩
              have H10:=Hd_ hb10
              clear hb10))
          have hb110:Below wr.heap.size wr w10:=H9.out.2.2.trans (H10.out.mono H9.out.2.2.size)
          have hstp:=Z6 (u:=u) (t:=(k:Int)) (n:=gk - 1) (left:=left) HKT.out.2 HAR.out
          rw[HE2.out,if_pos rfl] at hstp
          go_roundg (gk - 1)
          case measure=>omega
          case rel =>
           have h8:=ZW HO8.out (H9.out.2.1.trans (H10.out.mono H9.out.2.1.size))
           have h9:=ZW H9.out.1 H10.out
           have hlo:wo.heap.size≤wr.heap.size:=by have:=HBO7.out.size;have:=HB7.out.size;omega
           have hlo8:=HB8.out.size
           have hlt:=ZDJ HKT.out.1
           have hn:=HN.out
           refine⟨withoutL todo (kk:Int),withoutL left (kk:Int),Hd_ ?_,Hd_ ?_,by omega,by omega,Nat.le_trans (ZCi _ _) hf4,Hd_ (HB7.out.trans (hb110.mono HB7.out.size)),Hd_ ⟨fun _=>?_,fun hm=>(by cases hm),fun x hx=>HM.out.2.2.1 x (ZAb.1 hx).1,HM.out.2.2.2.sublist (ZAa _ _)⟩⟩
           ·exact Zl (f:=fun x:Int=>Value.int .i64 x) (R:=IntC) (fun _ _ _ _ h=>h) (Zb h9 (by omega)) (Nat.le_refl _) (Nat.le_refl _)
           ·exact Zl (f:=fun x:Int=>Value.int .i64 x) (R:=IntC) (fun _ _ _ _ h=>h) (Zb h8 (by show wo.heap.size≤(wr.drewN q).heap.size;exact hlo)) (Nat.le_refl _) (Nat.le_refl _)
           ·rw[← hstp,show gk - 1+1=gk by omega]
            exact HM.out.1 trivial
         | false =>
          rw[he] at HEM
          have HE2:=Hd_ he
          clear he
          go_wp2_with (first
           | (go_at_call 78
              refine(HEM.out).mono ?_
              rintro e w10 ⟨rfl,hb10⟩
              have H10:=Hd_ hb10
              clear hb10))
          have hb110:Below wr.heap.size wr w10:=H9.out.2.2.trans (H10.out.mono H9.out.2.2.size)
          have hstp:=Z6 (u:=u) (t:=(k:Int)) (n:=gk - 1) (left:=left) HKT.out.2 HAR.out
          rw[HE2.out,if_neg (by simp)] at hstp
          go_roundg (gk - 1)
          case measure=>omega
          case rel =>
           have h8:=ZW HO8.out (H9.out.2.1.trans (H10.out.mono H9.out.2.1.size))
           have hlo:wo.heap.size≤wr.heap.size:=by have:=HBO7.out.size;have:=HB7.out.size;omega
           have hlt:=ZDJ HKT.out.1
           have hn:=HN.out
           refine⟨withoutL todo (kk:Int),left,Hd_ ?_,Hd_ ?_,by omega,by omega,hf4,Hd_ (HB7.out.trans (hb110.mono HB7.out.size)),Hd_ ⟨fun _=>?_,fun hm=>(by cases hm),fun x hx=>HM.out.2.2.1 x (ZAb.1 hx).1,HM.out.2.2.2.sublist (ZAa _ _)⟩⟩
           ·exact HLF.out.mono (ZIq hb110)
           ·exact Zl (f:=fun x:Int=>Value.int .i64 x) (R:=IntC) (fun _ _ _ _ h=>h) (Zb h8 (by show wo.heap.size≤(wr.drewN q).heap.size;exact hlo)) (Nat.le_refl _) (Nat.le_refl _)
           ·rw[← hstp,show gk - 1+1=gk by omega]
            exact HM.out.1 trivial
   ·obtain rfl:k=G:=by omega
    go_wp2
    go_ret2
    refine⟨_,by rw[HS.out];rfl,?_,HB.out⟩
    rw[HS.out]
    exact HACC.out.done (Nat.le_refl _) (Nat.le_refl _)
end Go.Proofs.YtffgnjgphkdodaaGreatDoor
