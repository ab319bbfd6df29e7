import Derived.Test.YtffgnjgphkdodaaGreatDoorV8
import Derived.Test.YtffgnjgphkdodaaGreatDoorV3
import Derived.Test.YtffgnjgphkdodaaGreatDoorV4
namespace Go.Proofs.YtffgnjgphkdodaaGreatDoor
open Go Go.RowKit
def onF (x:Int) (h:Hit) : Bool:=h.on x
def TRel (u:Unit_) (x:Int) (cs:List Value) (w:World) (T:List Hit) (v6 v7 v8:Value) (wr:World) : Prop :=
 ∃ (k:Nat) (xs:List Hit) (S:Nat→Prop),v8=.int .i64 k∧k≤u.graphs.length∧Acc hitV 2 200 w.heap.size (fun _=>False) v6 xs wr∧Acc intsV 1 26 w.heap.size S v7 (xs.map fun h=>risingL h.l) wr ∧
  (∀ b,S b→some b≠v6.ownBlock)∧Blk wr w.heap.size 25 cs∧Below w.heap.size w wr∧xs ++ (hits k (u.graphs.drop k)).filter (onF x)=T
def TRel2 (u:Unit_) (x:Int) (cs:List Value) (w:World) (T:List Hit) (k:Nat) (g:Graph) (_lo:Nat) (S1:Nat→Prop) (rv hv:Value) (rl:List Bool) (v6 v7 v11:Value) (wr:World) : Prop :=
 ∃ (i:Nat) (xs:List Hit),v11=.int .i64 i∧i≤g.nodes.length∧Acc hitV 2 200 w.heap.size (fun _=>False) v6 xs wr∧Acc intsV 1 26 w.heap.size S1 v7 (xs.map fun h=>risingL h.l) wr ∧
  (∀ b,S1 b→some b≠v6.ownBlock)∧Blk wr w.heap.size 25 cs∧Below w.heap.size w wr∧Bools (on wr S1) rv rl∧Sl (Cells intsV) 1 (on wr S1) hv ((heldL g).map risingL) ∧
  xs ++ ((hitsOf k g i (g.nodes.drop i)).filter (onF x) ++ (hits (k+1) (u.graphs.drop (k+1))).filter (onF x))=T
set_option maxRecDepth 100000 in
set_option maxHeartbeats 4000000 in
theorem ZBl (u:Unit_) (cs:List Value) (x:Int) (w:World) (hru:RightU u) (hu:UnitV (cmap w) cs u) :
  Calls Tryz.prog 133 #[.agg cs.toArray,.int .i64 x] w fun e w'=>∃ v1 v2,e=.returned (.tuple #[v1,v2])∧Hits (part w' w.heap.size w'.heap.size) v1 (touchU u x) ∧
   Sl (Cells intsV) 1 (part w' w.heap.size w'.heap.size) v2 ((touchU u x).map fun h=>risingL h.l)∧Below w.heap.size w w':=by
 obtain⟨sv,lv,gv,rfl,hs,hl,hg⟩:=hu
 have hg':=hg
 obtain⟨gA,gc,rfl,-,-,-⟩:=hg'
 have bg:=hg.len.2.2
 obtain⟨T,hT⟩ : ∃ T,touchU u x=T:=⟨_,rfl⟩
 have hTl:T.length≤32768:=by rw[← hT];exact ZAs hru x
 rw[hT]
 have hT2:(hits 0 u.graphs).filter (onF x)=T:=hT
 have HT:=Hd_ hT2;clear hT2 hT
 have hbx:=Blk.new w 25 [sv,lv,.slice gA u.graphs.length gc]
 go_enter Tryz.func133,Tryz.ntmps133
 go_wp2
 go_loopw [6,7,8] (fun v6 v7 v8 wr=>TRel u x [sv,lv,.slice gA u.graphs.length gc] w T v6 v7 v8 wr) (fun _ _ v8 _=>u.graphs.length - (intOf v8).toNat)
 case atStart=>exact⟨0,[],_,rfl,by omega,Acc.nil _ _ _ _ _,Acc.nil _ _ _ _ _,fun _ h=>h.elim,hbx,ZC _ _,HT.out⟩
 case round =>
  obtain⟨k,xs,S,rfl,hk,ha,hb,hS,hbk,hbel,hxs⟩:=hrel
  have HXS:=Hd_ hxs;clear hxs
  have hcx2:=hbk.cell 2
  have hbs:=hbel.size
  by_cases hlt:k < u.graphs.length
  ·obtain⟨g,hgk⟩ : ∃ g,u.graphs[k]? = some g:=⟨_,List.getElem?_eq_getElem hlt⟩
   obtain⟨b,o,rfl,cg,hgv,hdc⟩:=hg.at_ hgk
   have hrg:=hru.graphs g (List.mem_of_getElem? hgk)
   have hxs2:=HXS.out
   rw[ZAz hgk,hits,List.filter_append] at hxs2
   have HXS2:=Hd_ hxs2;clear hxs2
   have HGV:=hgv
   obtain⟨nv,rfl,nA,nc,rfl,hnc1,hnc2,hnn⟩:=hgv
   have hld:∀ j v,([.string g.name,.int .i64 g.locals,.int .i64 g.slots,.slice nA g.nodes.length nc] : List Value)[j]? = some v→w.cell? ⟨b,o+k * 4+j,none⟩=some v:=fun j v h=>hdc j v h
   have HLD:Hid (∀ j v,([.string g.name,.int .i64 g.locals,.int .i64 g.slots,.slice nA g.nodes.length nc] : List Value)[j]? = some v→wr.cell? ⟨b,o+k * 4+j,none⟩=some v):=fun j v h=>ZA hbel _ _ _ (hld j v h)
   have HLDW:=Hd_ hld;clear hld hdc hgk
   have hk0:(0:Int)≤k:=by omega
   have hkl:(k:Int) < u.graphs.length:=by omega
   have hul:=hru.locks
   have hnm:=hrg.whole.most
   go_wp2_with (first
    | (refine ZB rfl 69 _ rfl b (o+k * 4) rfl _ _ (by first | exact HLD.out | exact HLD1.out) Tryz.underlying69 rfl (by kernel_rfl) ?_)
    | (go_at_call 91;refine(ZAc g [.string g.name,.int .i64 g.locals,.int .i64 g.slots,.slice nA g.nodes.length nc] _ hrg.whole (HGV.mono (ZA hbel))).mono ?_;rintro e w1 ⟨rv,rl,rfl,hrv,hrl,hri,hb1⟩;have hs1:=hb1.size;have hbel1:=hbel.trans (hb1.mono hbs);have hbk1:=hbk.below hb1 hbk.lt;have hcx3:=hbk1.cell 2;have HLD1:Hid (∀ j v,([.string g.name,.int .i64 g.locals,.int .i64 g.slots,.slice nA g.nodes.length nc] : List Value)[j]? = some v→w1.cell? ⟨b,o+k * 4+j,none⟩=some v):=(fun j v h=>ZA hbel1 _ _ _ (HLDW.out j v h)))
    | (go_at_call 171;refine(ZFV u g [.string g.name,.int .i64 g.locals,.int .i64 g.slots,.slice nA g.nodes.length nc] _ hrg hul (HGV.mono (ZA hbel1))).mono ?_;rintro e w2 ⟨hv,rfl,hhv,hb2⟩))
   obtain⟨rA,rc,rfl,-⟩:=id hrv
   obtain⟨hA,hc,hve,-⟩:=id hhv
   rw[List.length_map] at hve
   subst hve
   have HHL:=Hd_ (ZBu hrg)
   have HRL:=Hd_ hrl;clear hrl
   have hs2:=hb2.size
   have hb12:Below wr.heap.size wr w2:=hb1.trans (hb2.mono hs1)
   have hv6:=ha.lt
   have hv7:=hb.lt
   have ha2:=ha.keep hb12
   have hb22:=hb.keep hb12
   have hb3:=hb22.more (S':=fun b=>S b∨(wr.heap.size≤b∧b < w2.heap.size)) (fun b h=>.inl h) (fun b h=>by
    rcases h with h | h
    ·exact hb22.sep b h
    ·exact⟨by omega,h.2,fun e=>by have:=hv7 b e.symm;omega⟩)
   have hS3:∀ b,(S b∨(wr.heap.size≤b∧b < w2.heap.size))→some b≠u6.ownBlock:=fun b h=>by
    rcases h with h | h
    ·exact hS b h
    ·exact fun e=>by have:=hv6 b e.symm;omega
   have hrv2:Bools (on w2 (fun b=>S b∨(wr.heap.size≤b∧b < w2.heap.size))) (.slice rA rl.length rc) rl :=
    hrv.mono ((ZV (fun b h1 h2=>hb2.block b h2)).trans (ZAH w2 (fun b h1 h2=>.inr ⟨h1,by omega⟩)))
   have hhv2:Sl (Cells intsV) 1 (on w2 (fun b=>S b∨(wr.heap.size≤b∧b < w2.heap.size))) (.slice hA (heldL g).length hc) ((heldL g).map risingL) :=
    hhv.mono (ZAH w2 (fun b h1 h2=>.inr ⟨by omega,h2⟩))
   have hbk2:=hbk1.below hb2 hbk1.lt
   have hbel2:=hbel1.trans (hb2.mono (by omega))
   obtain⟨S1,hS1⟩ : ∃ S1,(fun b=>S b∨(wr.heap.size≤b∧b < w2.heap.size))=S1:=⟨_,rfl⟩
   rw[hS1] at hb3 hrv2 hhv2
   have hS4:∀ b,S1 b→some b≠u6.ownBlock:=fun b h=>hS3 b (by rw[← hS1] at h;exact h)
   clear hS1 hS3 hrv hhv hb22 ha hb hS hb1 hb2 hbk hbel hbk1 hbel1
   have hmem:(part w2 0 w.heap.size).le (cmap w2):=ZU _ _ _
   obtain⟨wo,rfl⟩ : ∃ wo:World,wo=wr:=⟨_,rfl⟩
   go_wp2
   go_loopw [6,7,11] (fun v6 v7 v11 wr=>TRel2 u x [sv,lv,.slice (some ⟨b,o,none⟩) u.graphs.length gc] w T k g 0 S1 (.slice rA rl.length rc) (.slice hA (heldL g).length hc) rl v6 v7 v11 wr) (fun _ _ v11 _=>g.nodes.length - (intOf v11).toNat)
   case atStart=>exact⟨0,xs,rfl,by omega,ha2,hb3,hS4,hbk2,hbel2,hrv2,hhv2,HXS2.out⟩
   case round =>
    clear ha2 hb3 hS4 hbk2 hbel2 hrv2 hhv2
    obtain⟨i,ys,rfl,hi,ha,hb,hS,hbk,hbel,hrv,hhv,hys⟩:=hrel
    have HYS:=Hd_ hys;clear hys
    have hcx2:=hbk.cell 2
    have hbs:=hbel.size
    by_cases hil:i < g.nodes.length
    ·obtain⟨n,hni⟩ : ∃ n,g.nodes[i]? = some n:=⟨_,List.getElem?_eq_getElem hil⟩
     obtain⟨bv,hbv⟩ : ∃ v,rl[i]? = some v:=⟨_,List.getElem?_eq_getElem (by rw[HRL.out];exact hil)⟩
     obtain⟨br,or_,rfl,hrc⟩:=hrv.at_ hbv
     have hrc2:wr.cell? ⟨br,or_+i,none⟩=some (.bool bv):=by have:=on_le _ _ _ _ _ hrc;rwa [Nat.mul_one] at this
     clear hrc
     have hys2:=HYS.out
     rw[ZAz hni] at hys2
     have hi0:(0:Int)≤i:=by omega
     have hii:(i:Int) < g.nodes.length:=by omega
     have hiN:(i:Int) < rl.length:=by rw[HRL.out];exact hii
     cases bv with
     | false =>
      have hno:¬ ReachC g (-1) i:=fun h=>by
       have:=(hri i).2 h
       rw[hbv] at this;cases this
      rw[ZFU hno] at hys2
      have HYS2:=Hd_ hys2;clear hys2
      have HNI:=Hd_ hni;clear hni
      have HBV:=Hd_ hbv;clear hbv
      go_wp2
      go_roundw
      case rel=>exact⟨i+1,ys,by go_num,by omega,ha,hb,hS,hbk,hbel,hrv,hhv,HYS2.out⟩
      case measure=>simp[intOf];omega
     | true =>
      rw[ZAQ ((hri i).1 hbv),List.filter_cons] at hys2
      obtain⟨l,hl⟩ : ∃ l,(heldL g)[i]? = some l:=⟨_,List.getElem?_eq_getElem (by rw[HHL.out];exact hil)⟩
      have hla:heldAt g i=l:=by unfold heldAt;rw[hl];rfl
      have hl2:((heldL g).map risingL)[i]? = some (risingL l):=by rw[List.getElem?_map,hl];rfl
      obtain⟨bh,oh,rfl,hcell⟩:=hhv.at_ hl2
      obtain⟨_,⟨lv,rfl,hlv⟩,hcell⟩:=hcell
      have hcl:on wr S1 bh (oh+i)=some lv:=by have:=hcell 0 lv rfl;rwa [Nat.mul_one] at this
      clear hcell hl2
      obtain⟨lA,lc,rfl,-⟩:=id hlv
      rw[hla] at hys2
      obtain⟨bn,on_,rfl,hnc⟩:=Sl.at_ ⟨nA,nc,rfl,hnc1,hnc2,hnn⟩ hni
      have HLDN:Hid (∀ j v,n.cells[j]? = some v→wr.cell? ⟨bn,on_+i * 13+j,none⟩=some v):=fun j v h=>ZA hbel _ _ _ (hnc j v h)
      unfold Node.cells at HLDN
      have g3:wr.cell? ⟨b,o+k * 4+3,none⟩=some (.slice (some ⟨bn,on_,none⟩) g.nodes.length nc):=ZA hbel _ _ _ (HLDW.out 3 _ rfl)
      have HNI:=Hd_ hni;clear hni
      have HBV:=Hd_ hbv;clear hbv
      have HLA:=Hd_ hla;clear hla hl hnc
      have hsl:ys.length≤32768:=by
       have:=congrArg List.length HYS.out
       rw[List.length_append] at this
       omega
      cases hq:(touchB n && decide (n.thing=x))
      ·have hon:onF x ⟨k,i,n,l⟩=false:=hq
       rw[hon] at hys2
       have HYS2:=Hd_ hys2;clear hys2 hon
       go_wp2_with (first
        | (refine ZA3 (by rfl) 66 _ rfl bn (on_+i * 13) rfl _ _ HLDN.out Tryz.underlying66 rfl (by kernel_rfl) ?_)
        | (go_at_call 172;refine(ZBS n x _).mono ?_;rintro e w3 ⟨rfl,hb3⟩;rw[hq];clear hq))
       go_roundw
       case rel=>exact⟨i+1,ys,by go_num,by omega,ha.keep hb3,hb.keep hb3,hS,hbk.below hb3 hbk.lt,hbel.trans (hb3.mono hbs),hrv.mono (ZZ (fun b h1 h2=>hb3.block b h2) (fun _ h=>h)),hhv.mono (ZZ (fun b h1 h2=>hb3.block b h2) (fun _ h=>h)),HYS2.out⟩
       case measure=>simp[intOf];omega
      ·have hon:onF x ⟨k,i,n,l⟩=true:=hq
       rw[hon] at hys2
       have HYS2:=Hd_ hys2;clear hys2 hon
       go_wp2_with (first
        | (refine ZA3 (by rfl) 66 _ rfl bn (on_+i * 13) rfl _ _ HLDN.out Tryz.underlying66 rfl (by kernel_rfl) ?_)
        | (go_at_call 172;refine(ZBS n x _).mono ?_;rintro e w3 ⟨rfl,hb3⟩;rw[hq];clear hq)
        | (refine ZG rfl ?_))
       refine Stop.intro ?_
       have hs3:=hb3.size
       have ha3:=(ha.keep hb3).alloc (.cells #[.int .i64 (k:Nat),.int .i64 (i:Nat)] 200)
       have hb3':=(hb.keep hb3).alloc (.cells #[.int .i64 (k:Nat),.int .i64 (i:Nat)] 200)
       obtain⟨rows,ho,hrl1,hrs,hrx⟩:=ha3.rows
       refine ZT sl_acc rfl _ _ rfl w.heap.size u6 _ rows.flatten rfl ho w3.heap.size 0 1 [.int .i64 (k:Nat),.int .i64 (i:Nat)] rfl rfl (ZJ _ _ _ _ rfl) (by simp[Value.oneCell']) (by omega) (by decide) (by simp;omega) ?_
       intro v6' w4 hown4 hg4 hob4
       have ha4:Acc hitV 2 200 w.heap.size (fun _=>False) v6' (ys ++ [⟨k,i,n,l⟩]) w4:=ha3.push hrl1 hrs hrx rfl hown4 hg4 hob4 (fun b h=>h) (fun b h=>h.elim) rfl
       have hb4:=hb3'.grown hg4 (hb3'.ne ha3 (by decide)) hS
       have hS4:∀ b,S1 b→some b≠v6'.ownBlock:=fun b h=>by
        rcases hob4 with e | e
        ·rw[e];exact hS b h
        ·rw[e];intro q;injection q with q;have:=(hb.sep b h).2.1;simp at q;omega
       have hv6:=ha.lt
       have hs4:=hg4.size
       simp only[World.size_alloc] at hs4
       have hbel4:=((hbel.trans (hb3.mono hbs)).alloc (by omega) (.cells #[.int .i64 (k:Nat),.int .i64 (i:Nat)] 200)).grown hg4 (by simp;omega) (fun j hj=>(hv6 j hj).1)
       have hbk4:=((hbk.below hb3 hbk.lt).alloc (.cells #[.int .i64 (k:Nat),.int .i64 (i:Nat)] 200)).grown hg4 (ha.blk hbk (by decide))
       have hon4:(on wr S1).le (on w4 S1):=ZZ (fun b h1 h2=>by rw[hg4.block b (by simp;omega) (hS b h1),Below.heap_alloc _ _ _ (by omega),hb3.block b h2]) (fun _ h=>h)
       have hcl4:w4.cell? ⟨bh,oh+i,none⟩=some (.slice lA (risingL l).length lc):=(ZDH (hon4 _ _ _ hcl)).1
       have hiH:(i:Int) < (heldL g).length:=by rw[HHL.out];exact hii
       clear ha3 hb3' ha
       go_wp2_with (refine ZG rfl ?_)
       refine Stop.intro ?_
       have hb5:=hb4.alloc (.cells #[.slice lA (risingL l).length lc] 26)
       have ha5:=ha4.alloc (.cells #[.slice lA (risingL l).length lc] 26)
       obtain⟨rows2,ho2,hrl2,hrs2,hrx2⟩:=hb5.rows
       refine ZT ZBb rfl _ _ rfl w.heap.size u7 _ rows2.flatten rfl ho2 w4.heap.size 0 1 [.slice lA (risingL l).length lc] rfl rfl (ZQ _ _ _ _ rfl) (by simp[Value.oneCell']) (by simp;omega) (by decide) (by simp;have:=hbel4.size;omega) ?_
       intro v7' w5 hown5 hg5 hob5
       have hv7:=hb.lt
       have hs5:=hg5.size
       have hon5:(on wr S1).le (on w5 S1):=hon4.trans (ZZ (fun b h1 h2=>by rw[hg5.block b (by simp;omega) (hb.sep b h1).2.2,Below.heap_alloc _ _ _ h2]) (fun _ h=>h))
       have hb6:Acc intsV 1 26 w.heap.size S1 v7' ((ys ++ [(⟨k,i,n,l⟩ : Hit)]).map fun h=>risingL h.l) w5:=by
        rw[List.map_append]
        exact hb5.push hrl2 hrs2 hrx2 rfl hown5 hg5 hob5 (fun b h=>h) (fun b h=>hb5.sep b h) ⟨_,rfl,hlv.mono hon5⟩
       have ha6:=ha5.grown hg5 (ha5.ne hb5 (by decide)) (fun _ h=>h.elim)
       have hbel5:=(hbel4.alloc hbel4.size (.cells #[.slice lA (risingL l).length lc] 26)).grown hg5 (by simp;have:=hbel4.size;omega) (fun j hj=>(hv7 j hj).1)
       have hbk5:=(hbk4.alloc (.cells #[.slice lA (risingL l).length lc] 26)).grown hg5 (hb.blk hbk (by decide))
       go_wp2_with fail
       go_roundw
       case rel=>exact⟨i+1,ys ++ [(⟨k,i,n,l⟩ : Hit)],by go_num,by omega,ha6,hb6,hS4,hbk5,hbel5,hrv.mono hon5,hhv.mono hon5,by rw[List.append_assoc];exact HYS2.out⟩
       case measure=>simp[intOf];omega
    ·have hnil:g.nodes.drop i=[]:=List.drop_eq_nil_of_le (by omega)
     have hys2:=HYS.out
     rw[hnil,hitsOf,List.filter_nil,List.nil_append] at hys2
     have HYS2:=Hd_ hys2;clear hys2 hnil
     have hge:¬ (i:Int) < rl.length:=by rw[HRL.out];omega
     go_wp2
     go_roundw
     case rel=>exact⟨k+1,ys,S1,by go_num,by omega,ha,hb,hS,hbk,hbel,HYS2.out⟩
     case measure=>simp[intOf];omega
  ·have hnil:u.graphs.drop k=[]:=List.drop_eq_nil_of_le (by omega)
   have hxs2:=HXS.out
   rw[hnil,hits,List.filter_nil,List.append_nil] at hxs2
   subst hxs2
   clear hnil
   go_wp2
   go_ret2
   exact⟨u6,u7,rfl,ha.done (Nat.le_refl _) (Nat.le_refl _),hb.done (Nat.le_refl _) (Nat.le_refl _),hbel⟩
theorem ZHO {l:List Int} {k:Nat} (hk:k < 16) : decide ((k:Int)∈risingL l)=isIn l k:=by
 unfold isIn
 refine decide_eq_decide.2 ?_
 unfold risingL
 rw[ZGl]
 constructor
 ·rintro⟨j,h1,h2,h3⟩
  have:j=k:=by omega
  subst this
  exact of_decide_eq_true h2
 ·intro h
  exact⟨k,hk,decide_eq_true h,rfl⟩
theorem ZG0 {α:Type} (p:α→Bool) {l:List α} {j:Nat} {x:α} (h:l[j]? = some x) : (l.take (j+1)).all p=((l.take j).all p && p x):=by
 obtain⟨h1,h2⟩:=List.getElem?_eq_some_iff.1 h
 rw[List.take_succ_eq_append_getElem h1,h2,List.all_append]
 simp
def guardsTo (T:List Hit) (n:Nat) : List Int:=((List.range n).filter (fun k=>T.all fun h=>isIn h.l k)).map Int.ofNat
theorem ZEs (T:List Hit) (n:Nat) : guardsTo T (n+1)=if (T.all fun h=>isIn h.l n)=true then guardsTo T n ++ [(n:Int)] else guardsTo T n:=by
 unfold guardsTo
 rw[List.range_succ,List.filter_append]
 by_cases h:(T.all fun h=>isIn h.l n)=true
 ·rw[if_pos h];simp[h]
 ·rw[if_neg h];simp[h]
theorem ZDS (T:List Hit) (n:Nat) : (guardsTo T n).length≤n:=by
 unfold guardsTo
 rw[List.length_map]
 exact Nat.le_trans (List.length_filter_le _ _) (by simp)
set_option maxRecDepth 100000 in
set_option maxHeartbeats 4000000 in
theorem ZAM (u:Unit_) (cs:List Value) (x:Int) (w:World) (hru:RightU u) (hu:UnitV (cmap w) cs u) :
  Calls Tryz.prog 134 #[.agg cs.toArray,.int .i64 x] w fun e w'=>∃ v,e=.returned v∧Ints (part w' w.heap.size w'.heap.size) v (guardsF u x)∧Below w.heap.size w w':=by
 have hu0:=hu
 obtain⟨sv,lv,gv,rfl,hs,hl,hg⟩:=hu
 obtain⟨lA,lc,rfl,-,-,-⟩:=id hl
 have bl:=hl.len.2.2
 have hul:=hru.locks
 obtain⟨G,hG⟩ : ∃ G,guardsF u x=G:=⟨_,rfl⟩
 have hTl:=ZAs hru x
 rw[hG]
 unfold guardsF at hG
 have hbx:=Blk.new w 25 [sv,.slice lA u.locks.length lc,gv]
 have HLD:Hid (∀ j v,([sv,.slice lA u.locks.length lc,gv] : List Value)[j]? = some v→(w.alloc (.cells #[sv,.slice lA u.locks.length lc,gv] 25)).cell? ⟨w.heap.size,0+j,none⟩=some v):=ZJ w _ _ _ rfl
 go_enter Tryz.func134,Tryz.ntmps134
 go_wp2_with (first
  | (refine ZB rfl 25 _ rfl w.heap.size 0 rfl _ _ HLD.out Tryz.underlying25 rfl (by kernel_rfl) ?_)
  | (go_at_call 133;refine(ZBl u [sv,.slice lA u.locks.length lc,gv] x _ hru (hu0.mono (ZH _ _))).mono ?_;rintro e w1 ⟨v1,v2,rfl,h1,h2,hb1⟩))
 obtain⟨T,hT⟩ : ∃ T,touchU u x=T:=⟨_,rfl⟩
 rw[hT] at h1 h2 hG hTl
 obtain⟨A1,c1,rfl,-⟩:=id h1
 obtain⟨A2,c2,hve,-⟩:=id h2
 rw[List.length_map] at hve
 subst hve
 have hw1:Below w.heap.size w w1:=(ZC _ _).trans (hb1.mono (by simp))
 have hbx1:=hbx.below hb1 hbx.lt
 have hc1:=hbx1.cell 1
 have hw1s:=hw1.size
 cases T with
 | nil =>
  rw[if_pos rfl] at hG
  subst hG
  go_wp2
  go_loop [7,8] (fun v7 v8=>v7=.slice none 0 0∧v8=.int .i64 0) (fun _ v8=>0)
  case atStart=>exact⟨rfl,rfl⟩
  case round =>
   obtain⟨rfl,rfl⟩:=hrel
   go_wp2
   all_goals (
    go_ret
    exact⟨.slice none 0 0,rfl,ZAN _,hw1⟩)
 | cons a T =>
  rw[if_neg (by simp)] at hG
  have hG2:guardsTo (a :: T) u.locks.length=G:=hG
  have HG:=Hd_ hG2;clear hG hG2
  obtain⟨TT,hTT⟩ : ∃ TT,a :: T=TT:=⟨_,rfl⟩
  have hpos:0 < TT.length:=by rw[← hTT];simp
  rw[hTT] at h1 h2 hTl HG ⊢
  clear hTT hT
  have hg0:decide (0 < (TT.length:Int))=true:=by simp;omega
  go_wp2
  go_loopw [7,8] (fun v7 v8 wr=>∃ k:Nat,v8=.int .i64 k∧k≤u.locks.length∧wr.ownsRow w1.heap.size 3 1 v7 (guardsTo TT k).length (ints (guardsTo TT k))∧Below w1.heap.size w1 wr) (fun _ v8 _=>u.locks.length - (intOf v8).toNat)
  case atStart=>exact⟨0,rfl,by omega,World.ownsRow_nil _ _ _ _,Below.refl _ _⟩
  case round =>
   obtain⟨k,rfl,hk,hown,hbel⟩:=hrel
   have hbs:=hbel.size
   have hbxr:=hbx1.below hbel hbx1.lt
   have hc1r:=hbxr.cell 1
   by_cases hlt:k < u.locks.length
   ·have hlen:=ZDS TT k
    have hsuc:=ZEs TT k
    have HSUC:=Hd_ hsuc;clear hsuc
    have hk0:(0:Int)≤k:=by omega
    have hkl:(k:Int) < u.locks.length:=by omega
    go_wp2
    obtain⟨wo,rfl⟩ : ∃ wo:World,wo=wr:=⟨_,rfl⟩
    go_loop [9,10] (fun v9 v10=>∃ j:Nat,v10=.int .i64 j∧j≤TT.length∧v9=.bool ((TT.take j).all fun h=>isIn h.l k)) (fun _ v10=>TT.length - (intOf v10).toNat)
    case atStart=>exact⟨0,rfl,by omega,rfl⟩
    case round =>
     obtain⟨j,rfl,hj,rfl⟩:=hrel
     by_cases hjl:j < TT.length
     ·obtain⟨h,hh⟩ : ∃ h,TT[j]? = some h:=⟨_,List.getElem?_eq_getElem hjl⟩
      have hnx:=ZG0 (fun h:Hit=>isIn h.l k) hh
      have hh2:(TT.map fun h=>risingL h.l)[j]? = some (risingL h.l):=by rw[List.getElem?_map,hh];rfl
      obtain⟨bh,oh,rfl,_,⟨lv,rfl,hlv⟩,hcell⟩:=h2.at_ hh2
      have hcl:wo.cell? ⟨bh,oh+j,none⟩=some lv:=by have:=ZA hbel _ _ _ (ZU _ _ _ _ _ _ (hcell 0 lv rfl));rwa [Nat.mul_one] at this
      have hlv2:Ints (cmap wo) lv (risingL h.l):=hlv.mono ((ZU _ _ _).trans (ZA hbel))
      obtain⟨qA,qc,rfl,-⟩:=id hlv2
      have hin:=ZHO (l:=h.l) (k:=k) (by omega)
      have HNX:=Hd_ hnx;clear hnx hh hh2 hcell hlv
      have HIN:=Hd_ hin;clear hin
      have hj0:(0:Int)≤j:=by omega
      have hjl2:(j:Int) < TT.length:=by omega
      cases hq:((TT.take j).all fun h=>isIn h.l k)
      ·go_wp2
       go_round
       case rel=>exact⟨j+1,by go_num,by omega,congrArg Value.bool (by rw[HNX.out,hq];rfl)⟩
       case measure=>simp[intOf];omega
      ·go_wp2_with (go_at_call 173;refine(ZHU _ _ (k:Int) _ hlv2).mono ?_;rintro e w3 ⟨rfl,rfl⟩;rw[HIN.out])
       go_round
       case rel=>exact⟨j+1,by go_num,by omega,congrArg Value.bool (by rw[HNX.out,hq,Bool.true_and])⟩
       case measure=>simp[intOf];omega
     ·rw[List.take_of_length_le (by omega)]
      cases hq:(TT.all fun h=>isIn h.l k)
      ·have hs2:=HSUC.out
       rw[hq,if_neg (by simp)] at hs2
       have HS2:=Hd_ hs2;clear hs2
       go_wp2
       go_roundw
       case rel=>exact⟨k+1,by go_num,by omega,by rw[HS2.out];exact hown,hbel⟩
       case measure=>simp[intOf];omega
      ·have hs2:=HSUC.out
       rw[hq,if_pos rfl] at hs2
       have HS2:=Hd_ hs2;clear hs2
       go_wp2_with (refine ZG rfl ?_)
       refine Stop.intro ?_
       refine ZT ZY rfl _ _ rfl w1.heap.size u7 _ (ints (guardsTo TT k)) rfl (hown.alloc _) wo.heap.size 0 1 [.int .i64 (k:Nat)] rfl rfl (ZQ _ _ _ _ rfl) (by simp[Value.oneCell']) (by omega) (by decide) (by simp;omega) ?_
       intro v' w' hown4 hgr hob
       have hbel4:=(hbel.alloc hbs (.cells #[.int .i64 (k:Nat)] 3)).grown hgr (by simp;omega) (fun j hj=>Zg hown j hj)
       go_wp2_with fail
       go_roundw
       case rel=>exact⟨k+1,by go_num,by omega,by rw[HS2.out];simpa [ints] using hown4,hbel4⟩
       case measure=>simp[intOf];omega
   ·have hkk:k=u.locks.length:=by omega
    rw[hkk,HG.out] at hown
    have HK:=Hd_ hkk;clear hkk
    go_wp2
    go_ret
    exact⟨u7,rfl,Z4 (R:=IntC) (f:=Value.int .i64) (fun _ _ _ _ h=>h) hown hw1s (Nat.le_refl _),hw1.trans (hbel.mono hw1s)⟩
theorem ZE4 {m:CM} {A:Option Addr} {n c:Nat} {T:List Hit} (h:Hits m (.slice A n c) T) {i:Nat} {x:Hit} (hx:T[i]? = some x) : ∃ b o,A=some ⟨b,o,none⟩∧m b (o+i * 2)=some (.int .i64 x.t):=by
 obtain⟨b,o,e,_,rfl,hc⟩:=h.at_ hx
 exact⟨b,o,e,hc 0 _ rfl⟩
set_option maxRecDepth 100000 in
set_option maxHeartbeats 4000000 in
theorem ZAg (u:Unit_) (cs:List Value) (w:World) (hu:UnitV (cmap w) cs u) (hok:UOk u) :
  Calls Tryz.prog 90 #[.agg cs.toArray] w fun e w'=>(checkF u=none∧∃ v,e=.returned (.tuple #[v,.int .i64 0])∧Clss (part w' w.heap.size w'.heap.size) v ((List.range u.shared.length).map fun x:Nat=>classF u (x:Int))∧Below w.heap.size w w') ∨
   (checkF u≠none∧e=.returned (.tuple #[.slice none 0 0,.int .i64 60])∧Below w.heap.size w w'):=by
 have hu0:=hu
 obtain⟨sv,lv,gv,rfl,hs,hl,hg⟩:=hu
 obtain⟨sA,sc,rfl,-⟩:=id hs
 have bs:=hs.len.2.2
 have hbx:=Blk.new w 25 [.slice sA u.shared.length sc,lv,gv]
 have hun:∀ wr,Blk wr w.heap.size 25 [.slice sA u.shared.length sc,lv,gv]→∀ j v,([.slice sA u.shared.length sc,lv,gv] : List Value)[j]? = some v→wr.cell? ⟨w.heap.size,0+j,none⟩=some v:=fun wr h j v hj=>by rw[Nat.zero_add,h.cell];exact hj
 have HLD:=Hd_ (hun _ hbx)
 have HUN:=Hd_ hun;clear hun
 obtain⟨r,hr⟩ : ∃ r,checkF u=r:=⟨_,rfl⟩
 rw[hr]
 cases r with
 | some ti =>
  obtain⟨t,i⟩:=ti
  go_enter Tryz.func90,Tryz.ntmps90
  go_wp2_with (first
   | (refine ZB rfl 25 _ rfl w.heap.size 0 rfl _ _ HLD.out Tryz.underlying25 rfl (by kernel_rfl) ?_)
   | (go_at_call 57;refine(ZBD u [.slice sA u.shared.length sc,lv,gv] _ (hu0.mono (ZH _ _)) hok).mono ?_;rintro e w1 ⟨rfl,hb1⟩;rw[hr];clear hr;unfold checkV))
  go_ret2
  exact .inr ⟨by simp,rfl,(ZE _ _).trans (hb1.mono (by simp))⟩
 | none =>
  have hru:=ZR hr
  go_enter Tryz.func90,Tryz.ntmps90
  go_wp2_with (first
   | (refine ZB rfl 25 _ rfl w.heap.size 0 rfl _ _ HLD.out Tryz.underlying25 rfl (by kernel_rfl) ?_)
   | (go_at_call 57;refine(ZBD u [.slice sA u.shared.length sc,lv,gv] _ (hu0.mono (ZH _ _)) hok).mono ?_;rintro e w1 ⟨rfl,hb1⟩;rw[hr];clear hr;unfold checkV))
  have hw1:Below w.heap.size w w1:=(ZE _ _).trans (hb1.mono (by simp))
  have hbx1:=hbx.below hb1 hbx.lt
  have hz:=hru.shared
  clear hb1
  go_loopw [7,8] (fun v7 v8 wr=>∃ (k:Nat),v8=.int .i64 k∧k≤u.shared.length∧Acc clsV 3 123 w.heap.size (fun _=>False) v7 ((List.range k).map fun x:Nat=>classF u (x:Int)) wr∧Below w.heap.size w wr∧Blk wr w.heap.size 25 [.slice sA u.shared.length sc,lv,gv]) (fun _ v8 _=>u.shared.length - (intOf v8).toNat)
  case atStart=>exact⟨0,rfl,by omega,Acc.nil _ _ _ _ _,hw1,hbx1⟩
  case round =>
   obtain⟨k,rfl,hk,hacc,hbel,hbk⟩:=hrel
   have hcx0:=hbk.cell 0
   have hbs:=hbel.size
   by_cases hlt:k < u.shared.length
   ·have HLDk:=Hd_ (HUN.out _ hbk)
    have hk0:(0:Int)≤k:=by omega
    have hkl:(k:Int) < u.shared.length:=by omega
    have hsuc:(List.range (k+1)).map (fun x:Nat=>classF u (x:Int))=(List.range k).map (fun x:Nat=>classF u (x:Int)) ++ [classF u (k:Int)]:=by rw[List.range_succ,List.map_append];rfl
    have HSUC:=Hd_ hsuc;clear hsuc
    go_wp2_with (first
     | (refine ZB rfl 25 _ rfl w.heap.size 0 rfl _ _ HLDk.out Tryz.underlying25 rfl (by kernel_rfl) ?_)
     | (go_at_call 133;refine(ZBl u [.slice sA u.shared.length sc,lv,gv] (k:Int) _ hru (hu0.mono (ZA hbel))).mono ?_;rintro e w2 ⟨v1,v2,rfl,h1,h2,hb2⟩))
    have hTl:=ZAs hru k
    have hcls:classF u (k:Int)=clsOf (touchU u k) (guardsF u k):=rfl
    obtain⟨T,hT⟩ : ∃ T,touchU u (k:Int)=T:=⟨_,rfl⟩
    obtain⟨G,hG⟩ : ∃ G,guardsF u (k:Int)=G:=⟨_,rfl⟩
    rw[hT] at h1 h2 hTl
    rw[hT,hG] at hcls
    have HCLS:=Hd_ hcls;clear hcls
    have HG:=Hd_ hG;clear hG hT h2
    obtain⟨A1,c1,rfl,-⟩:=id h1
    have hs2:=hb2.size
    have hbel2:=hbel.trans (hb2.mono hbs)
    have hbk2:=hbk.below hb2 hbk.lt
    have hacc2:=hacc.keep hb2
    clear hacc
    go_wp2
    obtain⟨wo,rfl⟩ : ∃ wo:World,wo=wr:=⟨_,rfl⟩
    go_loopw [11,12] (fun v11 v12 wi=>∃ (j n:Nat),v12=.int .i64 j∧j≤T.length∧wi=w2.drewN n∧v11=.bool (!((T.take j).all fun h=>decide (h.t=(T.head?.map (·.t)).getD 0)))) (fun _ v12 _=>T.length - (intOf v12).toNat)
    case atStart=>exact⟨0,0,rfl,by omega,rfl,by simp⟩
    case round =>
     obtain⟨j,n,rfl,hj,rfl,rfl⟩:=hrel
     by_cases hjl:j < T.length
     ·obtain⟨h,hh⟩ : ∃ h,T[j]? = some h:=⟨_,List.getElem?_eq_getElem hjl⟩
      obtain⟨a,ha⟩ : ∃ a,T[0]? = some a:=⟨_,List.getElem?_eq_getElem (by omega)⟩
      have hhd:(T.head?.map (·.t)).getD 0=a.t:=by rw[List.head?_eq_getElem?,ha];rfl
      have hnx:=ZG0 (fun h:Hit=>decide (h.t=(T.head?.map (·.t)).getD 0)) hh
      rw[hhd] at hnx ⊢
      obtain⟨b1,o1,rfl,e1⟩:=ZE4 h1 hh
      obtain⟨b1',o1',he,e0⟩:=ZE4 h1 ha
      injection he with he
      injection he with he1 he2
      subst he1 he2
      have c1:w2.cell? ⟨b1,o1+j * 2,none⟩=some (.int .i64 (h.t:Nat)):=ZU _ _ _ _ _ _ e1
      have c0:w2.cell? ⟨b1,o1,none⟩=some (.int .i64 (a.t:Nat)):=by have:=ZU _ _ _ _ _ _ e0;simpa [cmap] using this
      have HNX:=Hd_ hnx;clear hnx hh ha e1 e0
      have HHD:=Hd_ hhd;clear hhd
      have hj0:(0:Int)≤j:=by omega
      have hjl2:(j:Int) < T.length:=by omega
      have hp0:(0:Int) < T.length:=by omega
      cases hq:((T.take j).all fun h=>decide (h.t=a.t))
      ·go_wp2
       go_quiet (fail)
       go_wp2
       go_roundw
       case rel=>exact⟨j+1,_,by go_num,by omega,rfl,congrArg Value.bool (by rw[HNX.out,hq];rfl)⟩
       case measure=>simp[intOf];omega
      ·cases hd:decide (h.t=a.t)
       ·have hne:((h.t:Int) != (a.t:Int))=true:=by
         have:=of_decide_eq_false hd
         simp;omega
        go_wp2
        go_quiet (fail)
        go_wp2
        go_roundw
        case rel=>exact⟨j+1,_,by go_num,by omega,rfl,congrArg Value.bool (by rw[HNX.out,hq,hd];rfl)⟩
        case measure=>simp[intOf];omega
       ·have hne:((h.t:Int) != (a.t:Int))=false:=by
         have:=of_decide_eq_true hd
         simp;omega
        go_wp2
        go_quiet (fail)
        go_wp2
        go_roundw
        case rel=>exact⟨j+1,_,by go_num,by omega,rfl,congrArg Value.bool (by rw[HNX.out,hq,hd];rfl)⟩
        case measure=>simp[intOf];omega
     ·rw[List.take_of_length_le (by omega)]
      have hbel2d:Below w.heap.size w (w2.drewN n):=⟨hbel2.os,hbel2.tape,hbel2.output,hbel2.size,hbel2.block⟩
      have HLDn:=Hd_ (HUN.out _ (hbk2.drewN n))
      have hge:¬ ((j:Int) < T.length):=by omega
      cases T with
      | nil =>
       have hln:((([] : List Hit).length:Int) == 0)=true:=rfl
       have HC2:Hid (classF u (k:Int)=⟨0,0,0⟩):=HCLS.out.trans (rfl)
       go_wp2_with (first
        | (refine ZB rfl 25 _ rfl w.heap.size 0 rfl _ _ HLDn.out Tryz.underlying25 rfl (by kernel_rfl) ?_)
        | (go_at_call 134;refine(ZAM u [.slice sA u.shared.length sc,lv,gv] (k:Int) (w2.drewN n) hru (hu0.mono (ZA hbel2d))).mono ?_;rintro e w3 ⟨v3,rfl,hg3,hb3⟩;rw[HG.out] at hg3;obtain⟨gA3,gc3,rfl,-⟩:=id hg3)
        | (refine ZG rfl ?_))
       refine Stop.intro ?_
       have hb4:Below w2.heap.size w2 w3:=⟨hb3.os,hb3.tape,hb3.output,hb3.size,hb3.block⟩
       have hs4:=hb4.size
       have hacc3:=((hacc2.keep hb4).alloc (.cells #[.int .u8 0,.int .i64 0,.int .i64 0] 123)).alloc (.cells #[.int .u8 0,.int .i64 0,.int .i64 0] 123)
       obtain⟨rows,ho,hrl,hrs,hrx⟩:=hacc3.rows
       have hlen:((List.range k).map fun x:Nat=>classF u (x:Int)).length≤64:=by simp;omega
       refine ZT sl_class rfl _ _ rfl w.heap.size u7 _ rows.flatten rfl ho (w3.heap.size+1) 0 1 [.int .u8 0,.int .i64 0,.int .i64 0] rfl rfl (ZJ _ _ _ _ (by simp)) (by simp[Value.oneCell']) (by omega) (by decide) (by simp;omega) ?_
       intro v' w' hown4 hgr hob
       have hv7:=hacc2.lt
       have hacc4:Acc clsV 3 123 w.heap.size (fun _=>False) v' ((List.range (k+1)).map fun x:Nat=>classF u (x:Int)) w':=by
        rw[HSUC.out]
        exact hacc3.push hrl hrs hrx rfl hown4 hgr hob (fun b h=>h) (fun b h=>h.elim) (by rw[HC2.out];rfl)
       have hbel5:=(((hbel2.trans (hb4.mono (by omega))).alloc (by omega) (.cells #[.int .u8 0,.int .i64 0,.int .i64 0] 123)).alloc (by simp;omega) (.cells #[.int .u8 0,.int .i64 0,.int .i64 0] 123)).grown hgr (by simp;omega) (fun j hj=>(hv7 j hj).1)
       have hbk5:=(((hbk2.below hb4 hbk2.lt).alloc (.cells #[.int .u8 0,.int .i64 0,.int .i64 0] 123)).alloc (.cells #[.int .u8 0,.int .i64 0,.int .i64 0] 123)).grown hgr (hacc2.blk hbk2 (by decide))
       go_wp2_with fail
       go_roundw
       case rel=>exact⟨k+1,by go_num,by omega,hacc4,hbel5,hbk5⟩
       case measure=>simp[intOf];omega
      | cons a T =>
       have hhd:((a :: T).head?.map (·.t)).getD 0=a.t:=rfl
       rw[hhd]
       clear hhd
       cases hq:((a :: T).all fun h=>decide (h.t=a.t))
       ·cases G with
        | nil =>
         have hgz:decide (0 < ((([] : List Int).length:Nat) : Int))=false:=by simp
         have hln:((((a :: T).length:Nat) : Int) == 0)=false:=by simp <;> omega
         have HC2:Hid (classF u (k:Int)=⟨3,0,0⟩):=HCLS.out.trans (by simp only[clsOf];rw[if_neg (by simp[hq])])
         go_wp2_with (first
          | (refine ZB rfl 25 _ rfl w.heap.size 0 rfl _ _ HLDn.out Tryz.underlying25 rfl (by kernel_rfl) ?_)
          | (go_at_call 134;refine(ZAM u [.slice sA u.shared.length sc,lv,gv] (k:Int) (w2.drewN n) hru (hu0.mono (ZA hbel2d))).mono ?_;rintro e w3 ⟨v3,rfl,hg3,hb3⟩;rw[HG.out] at hg3;obtain⟨gA3,gc3,rfl,-⟩:=id hg3)
          | (refine ZG rfl ?_))
         refine Stop.intro ?_
         have hb4:Below w2.heap.size w2 w3:=⟨hb3.os,hb3.tape,hb3.output,hb3.size,hb3.block⟩
         have hs4:=hb4.size
         have hacc3:=((hacc2.keep hb4).alloc (.cells #[.int .u8 3,.int .i64 0,.int .i64 0] 123)).alloc (.cells #[.int .u8 3,.int .i64 0,.int .i64 0] 123)
         obtain⟨rows,ho,hrl,hrs,hrx⟩:=hacc3.rows
         have hlen:((List.range k).map fun x:Nat=>classF u (x:Int)).length≤64:=by simp;omega
         refine ZT sl_class rfl _ _ rfl w.heap.size u7 _ rows.flatten rfl ho (w3.heap.size+1) 0 1 [.int .u8 3,.int .i64 0,.int .i64 0] rfl rfl (ZJ _ _ _ _ (by simp)) (by simp[Value.oneCell']) (by omega) (by decide) (by simp;omega) ?_
         intro v' w' hown4 hgr hob
         have hv7:=hacc2.lt
         have hacc4:Acc clsV 3 123 w.heap.size (fun _=>False) v' ((List.range (k+1)).map fun x:Nat=>classF u (x:Int)) w':=by
          rw[HSUC.out]
          exact hacc3.push hrl hrs hrx rfl hown4 hgr hob (fun b h=>h) (fun b h=>h.elim) (by rw[HC2.out];rfl)
         have hbel5:=(((hbel2.trans (hb4.mono (by omega))).alloc (by omega) (.cells #[.int .u8 3,.int .i64 0,.int .i64 0] 123)).alloc (by simp;omega) (.cells #[.int .u8 3,.int .i64 0,.int .i64 0] 123)).grown hgr (by simp;omega) (fun j hj=>(hv7 j hj).1)
         have hbk5:=(((hbk2.below hb4 hbk2.lt).alloc (.cells #[.int .u8 3,.int .i64 0,.int .i64 0] 123)).alloc (.cells #[.int .u8 3,.int .i64 0,.int .i64 0] 123)).grown hgr (hacc2.blk hbk2 (by decide))
         go_wp2_with fail
         go_roundw
         case rel=>exact⟨k+1,by go_num,by omega,hacc4,hbel5,hbk5⟩
         case measure=>simp[intOf];omega
        | cons g0 G =>
         have hln:((((a :: T).length:Nat) : Int) == 0)=false:=by simp <;> omega
         have HC2:Hid (classF u (k:Int)=⟨2,0,g0⟩):=HCLS.out.trans (by simp only[clsOf];rw[if_neg (by simp[hq])])
         go_wp2_with (first
          | (refine ZB rfl 25 _ rfl w.heap.size 0 rfl _ _ HLDn.out Tryz.underlying25 rfl (by kernel_rfl) ?_)
          | (go_at_call 134;refine(ZAM u [.slice sA u.shared.length sc,lv,gv] (k:Int) (w2.drewN n) hru (hu0.mono (ZA hbel2d))).mono ?_;rintro e w3 ⟨v3,rfl,hg3,hb3⟩;rw[HG.out] at hg3;obtain⟨gA3,gc3,rfl,-⟩:=id hg3;obtain⟨b3,o3,rfl,e3⟩:=hg3.at_ (i:=0) (x:=g0) rfl;have c3:w3.cell? ⟨b3,o3,none⟩=some (.int .i64 g0):=(by have:=ZU _ _ _ _ _ _ e3;simpa [cmap] using this);have lt3:b3 < w3.heap.size:=World.block_lt_of_cell? w3 ⟨b3,o3,none⟩ c3;have hg0:decide (0 < (((g0 :: G).length:Nat) : Int))=true:=(by simp <;> omega);have hg1:(0:Int) < ((g0 :: G).length:Nat):=(by simp <;> omega))
          | (refine ZG rfl ?_))
         refine Stop.intro ?_
         have hb4:Below w2.heap.size w2 w3:=⟨hb3.os,hb3.tape,hb3.output,hb3.size,hb3.block⟩
         have hs4:=hb4.size
         have hacc3:=((hacc2.keep hb4).alloc (.cells #[.int .u8 2,.int .i64 0,.int .i64 g0] 123)).alloc (.cells #[.int .u8 2,.int .i64 0,.int .i64 g0] 123)
         obtain⟨rows,ho,hrl,hrs,hrx⟩:=hacc3.rows
         have hlen:((List.range k).map fun x:Nat=>classF u (x:Int)).length≤64:=by simp;omega
         refine ZT sl_class rfl _ _ rfl w.heap.size u7 _ rows.flatten rfl ho (w3.heap.size+1) 0 1 [.int .u8 2,.int .i64 0,.int .i64 g0] rfl rfl (ZJ _ _ _ _ (by simp)) (by simp[Value.oneCell']) (by omega) (by decide) (by simp;omega) ?_
         intro v' w' hown4 hgr hob
         have hv7:=hacc2.lt
         have hacc4:Acc clsV 3 123 w.heap.size (fun _=>False) v' ((List.range (k+1)).map fun x:Nat=>classF u (x:Int)) w':=by
          rw[HSUC.out]
          exact hacc3.push hrl hrs hrx rfl hown4 hgr hob (fun b h=>h) (fun b h=>h.elim) (by rw[HC2.out];rfl)
         have hbel5:=(((hbel2.trans (hb4.mono (by omega))).alloc (by omega) (.cells #[.int .u8 2,.int .i64 0,.int .i64 g0] 123)).alloc (by simp;omega) (.cells #[.int .u8 2,.int .i64 0,.int .i64 g0] 123)).grown hgr (by simp;omega) (fun j hj=>(hv7 j hj).1)
         have hbk5:=(((hbk2.below hb4 hbk2.lt).alloc (.cells #[.int .u8 2,.int .i64 0,.int .i64 g0] 123)).alloc (.cells #[.int .u8 2,.int .i64 0,.int .i64 g0] 123)).grown hgr (hacc2.blk hbk2 (by decide))
         go_wp2_with fail
         go_roundw
         case rel=>exact⟨k+1,by go_num,by omega,hacc4,hbel5,hbk5⟩
         case measure=>simp[intOf];omega
       ·skip
        have hln:((((a :: T).length:Nat) : Int) == 0)=false:=by simp <;> omega
        obtain⟨b1,o1,rfl,e0⟩:=ZE4 h1 (i:=0) (x:=a) rfl
        have c0:w2.cell? ⟨b1,o1,none⟩=some (.int .i64 (a.t:Nat)):=by have:=ZU _ _ _ _ _ _ e0;simpa [cmap] using this
        have lt1:b1 < w2.heap.size:=World.block_lt_of_cell? w2 ⟨b1,o1,none⟩ c0
        have hp0:(0:Int) < (a :: T).length:=by simp <;> omega
        have HC2:Hid (classF u (k:Int)=⟨1,(a.t:Nat),0⟩):=HCLS.out.trans (by simp only[clsOf];rw[if_pos hq])
        go_wp2_with (first
         | (refine ZB rfl 25 _ rfl w.heap.size 0 rfl _ _ HLDn.out Tryz.underlying25 rfl (by kernel_rfl) ?_)
         | (go_at_call 134;refine(ZAM u [.slice sA u.shared.length sc,lv,gv] (k:Int) (w2.drewN n) hru (hu0.mono (ZA hbel2d))).mono ?_;rintro e w3 ⟨v3,rfl,hg3,hb3⟩;rw[HG.out] at hg3;obtain⟨gA3,gc3,rfl,-⟩:=id hg3;have c03:=(hb3.cell (p:=⟨b1,o1,none⟩) lt1).trans c0;have lt13:b1 < w3.heap.size:=World.block_lt_of_cell? w3 ⟨b1,o1,none⟩ c03)
         | (refine ZG rfl ?_))
        refine Stop.intro ?_
        have hb4:Below w2.heap.size w2 w3:=⟨hb3.os,hb3.tape,hb3.output,hb3.size,hb3.block⟩
        have hs4:=hb4.size
        have hacc3:=((hacc2.keep hb4).alloc (.cells #[.int .u8 1,.int .i64 (a.t:Nat),.int .i64 0] 123)).alloc (.cells #[.int .u8 1,.int .i64 (a.t:Nat),.int .i64 0] 123)
        obtain⟨rows,ho,hrl,hrs,hrx⟩:=hacc3.rows
        have hlen:((List.range k).map fun x:Nat=>classF u (x:Int)).length≤64:=by simp;omega
        refine ZT sl_class rfl _ _ rfl w.heap.size u7 _ rows.flatten rfl ho (w3.heap.size+1) 0 1 [.int .u8 1,.int .i64 (a.t:Nat),.int .i64 0] rfl rfl (ZJ _ _ _ _ (by simp)) (by simp[Value.oneCell']) (by omega) (by decide) (by simp;omega) ?_
        intro v' w' hown4 hgr hob
        have hv7:=hacc2.lt
        have hacc4:Acc clsV 3 123 w.heap.size (fun _=>False) v' ((List.range (k+1)).map fun x:Nat=>classF u (x:Int)) w':=by
         rw[HSUC.out]
         exact hacc3.push hrl hrs hrx rfl hown4 hgr hob (fun b h=>h) (fun b h=>h.elim) (by rw[HC2.out];rfl)
        have hbel5:=(((hbel2.trans (hb4.mono (by omega))).alloc (by omega) (.cells #[.int .u8 1,.int .i64 (a.t:Nat),.int .i64 0] 123)).alloc (by simp;omega) (.cells #[.int .u8 1,.int .i64 (a.t:Nat),.int .i64 0] 123)).grown hgr (by simp;omega) (fun j hj=>(hv7 j hj).1)
        have hbk5:=(((hbk2.below hb4 hbk2.lt).alloc (.cells #[.int .u8 1,.int .i64 (a.t:Nat),.int .i64 0] 123)).alloc (.cells #[.int .u8 1,.int .i64 (a.t:Nat),.int .i64 0] 123)).grown hgr (hacc2.blk hbk2 (by decide))
        go_wp2_with fail
        go_roundw
        case rel=>exact⟨k+1,by go_num,by omega,hacc4,hbel5,hbk5⟩
        case measure=>simp[intOf];omega
   ·have hkk:k=u.shared.length:=by omega
    rw[hkk] at hacc
    have HK:=Hd_ hkk;clear hkk
    go_wp2
    go_ret2
    exact .inl ⟨trivial,u7,rfl,hacc.done (Nat.le_refl _) (Nat.le_refl _),hbel⟩
end Go.Proofs.YtffgnjgphkdodaaGreatDoor
