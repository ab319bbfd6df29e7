import Derived.Test.YtffgnjgphkdodaaDoorD10
import Derived.Test.YtffgnjgphkdodaaDoorD2
namespace Go.Proofs.YtffgnjgphkdodaaDoor
open Go Go.RowKit
theorem ZGP {w wr wx:World} {r q:Option Nat} (h:w.grownBy wr r) (hg:wr.grownBy wx q) (hq:q=r∨∀ k,q=some k→w.heap.size≤k) : w.grownBy wx r :=
 ⟨hg.os.trans h.os,hg.tape.trans h.tape,hg.output.trans h.output,Nat.le_trans h.size hg.size,fun b hlt hne=>by
  refine(hg.block b (Nat.lt_of_lt_of_le hlt h.size) ?_).trans (h.block b hlt hne)
  rcases hq with e | e
  ·rw[e];exact hne
  ·intro hb
   have:=e b hb.symm
   omega⟩
theorem ZDU {w wr wx:World} {r:Option Nat} (h:w.grownBy wr r) (hb:Below wr.heap.size wr wx) : w.grownBy wx r :=
 ZGP h (q:=none) ⟨hb.os,hb.tape,hb.output,hb.size,fun b hlt _=>hb.block b hlt⟩ (.inr fun k hk=>by cases hk)
theorem ZJI {w wr:World} {r:Option Nat} (h:w.grownBy wr r) {b o:Nat} (hb:w.heap.size≤b) (v:Value) : w.grownBy (wr.setCell ⟨b,o,none⟩ v) r :=
 ⟨h.os,h.tape,h.output,by simpa [World.setCell] using h.size,fun k hlt hne=>(Below.heap_setCell _ _ _ _ (by show k≠b;omega)).trans (h.block k hlt hne)⟩
theorem ZGp {w:World} {g base n:Nat} {t:TypeId} {cs:List Value} (h:Blk w g t cs) (hb:base≤g) (hn:cs.length=n) (hl:n < 4294967296) : w.ownsRow base t 1 (.slice (some ⟨g,0,none⟩) n n) n cs :=
 ⟨by omega,.inr ⟨g,n,cs.toArray,rfl,hb,h,Nat.le_refl _,by simp only[maxLen];omega,by simp[hn],by simp[← hn]⟩⟩
def OB (w:World) (v v1:Value) : Prop:=v1.ownBlock=v.ownBlock∨∀ k,v1.ownBlock=some k→w.heap.size≤k
def TsR (w:World) (base:Nat) (v:Value) (g:Graph) (S:Nat→Prop) (F:List Int) (k:Nat) (v1:Value) (wr:World) : Prop :=
 ∃ l tt,wr.ownsRow base 3 1 v1 tt.length (ints tt)∧OB w v v1∧Hid (Blk wr w.heap.size 4 (bools l))∧Hid (DI g S F l tt (fun _=>False))∧Hid (w.grownBy wr v.ownBlock)∧left l+tt.length≤k∧k≤8192
def TsR2 (w:World) (base:Nat) (v:Value) (g:Graph) (S:Nat→Prop) (F:List Int) (at_:Nat) (nd:Node) (m lo hi:Nat) (fv:Value) (k:Nat) (v1 v40:Value) (wr:World) : Prop :=
 ∃ l tt j,v40=.int .i64 (j:Nat)∧j+k=(fol2 nd).length∧wr.ownsRow base 3 1 v1 tt.length (ints tt)∧OB w v v1∧Hid (Blk wr w.heap.size 4 (bools l))∧Hid (DP g S F l tt at_ nd (fol2 nd) j) ∧
  Hid (w.grownBy wr v.ownBlock)∧left l+tt.length≤m∧Hid (Ints (part wr lo hi) fv (fol2 nd))∧Hid (∀ x,v1.ownBlock=some x→x < lo∨hi≤x)∧w.heap.size < lo∧hi≤wr.heap.size
set_option maxRecDepth 100000 in
set_option maxHeartbeats 4000000 in
theorem ZBz (u:Unit_) (g:Graph) (F:List Int) (Y base:Nat) (v:Value) (t:List Int) (w:World) (hrg:RightG u g) (hTh:Th w base u g F Y) (hbase:base≤w.heap.size) (hown:w.ownsRow base 3 1 v t.length (ints t)) (ht:∀ k∈t,0≤k∧k < g.nodes.length) (htl:t.length≤4096) :
  Calls Tryd.prog 43 #[.pointer (some ⟨Y,0,none⟩),v] w fun e w'=>∃ out l,e=.returned out∧w'.ownsRow w.heap.size 4 1 out l.length (bools l)∧l.length=g.nodes.length∧(∀ i,l[i]? = some true ↔ OpenC g (fun i=>(i:Int)∈t) F i)∧w.grownBy w' v.ownBlock:=by
 obtain⟨X,nb,no,nc,hY,hX,hyb,hxb,hnv⟩:=hTh.ex
 have hw:=hrg.whole
 have hpos:=hw.pos
 have hmost:=hw.most
 have hst:DI g (fun i=>(i:Int)∈t) F (List.replicate g.nodes.length false) t (fun _=>False):=DI.start F (fun i hi=>by have:=(ht _ hi).2;omega) (fun k hk=>⟨(ht k hk).1,by rw[Int.toNat_of_nonneg (ht k hk).1];exact hk⟩) (fun i hi=>hi)
 obtain⟨S,hS⟩ : ∃ S:Nat→Prop,(fun i:Nat=>(i:Int)∈t)=S:=⟨_,rfl⟩
 rw[hS] at hst
 have HS:=Hd_ hS;clear hS
 have hlen0:left (List.replicate g.nodes.length false)≤g.nodes.length:=by
  unfold left
  refine Nat.le_trans List.count_le_length ?_
  simp
 have hneY:=ZQ hown hyb (by decide)
 have hneX:=ZQ hown hxb (by decide)
 have hob:=Z5 hown
 have hfree:∀ wr,w.grownBy wr v.ownBlock→(part w 0 base).le (cmap wr):=fun wr hg b o x hx=>by
  obtain⟨h1,-,h2⟩:=Zl hx
  unfold cmap
  rw[World.cell?_of_block (hg.block b (by omega) (fun e=>by have:=hob b e.symm;omega))]
  exact h1
 have HFREE:=Hd_ hfree;clear hfree
 have HNV:=Hd_ hnv;clear hnv
 have HYB:=Hd_ hyb
 have HXB:=Hd_ hxb
 have HRG:=Hd_ hrg;clear hrg
 have HW:=Hd_ hw;clear hw
 have HST:=Hd_ hst;clear hst
 generalize hN:g.nodes.length=N at *
 have HN:=Hd_ hN;clear hN
 have h0:0 < N:=hpos
 have y3:=hyb.cell 3
 have y4:=hyb.cell 4
 have hyl:=hyb.lt
 have hxl:=hxb.lt
 have HTT:=Hd_ ht;clear ht hTh hob
 obtain⟨vA,vc,rfl,-⟩:=ZE hown
 go_enter Tryd.func43,Tryd.ntmps43
 go_wp2_with (refine ZAX ZES rfl rfl (.tmp 14) (.tmp 14) rfl N rfl rfl (by omega) (by omega) ?_)
 clear y3 y4
 go_loopg [1] 8192 (fun k v1 wr=>TsR w base (.slice vA t.length vc) g S F k v1 wr)
 case atStart =>
  refine⟨_,t,hown.kept (row:=none) ⟨rfl,rfl,rfl,by simp,fun k hk _=>Below.heap_alloc _ _ _ hk⟩ (by cases vA <;> simp[Value.ownBlock]),.inl rfl,Hd_ (Blk.of (ZP _ _ _ rfl) ?_),HST,Hd_ (ZDU (World.grownBy.refl w _) (ZB _ _)),?_,Nat.le_refl _⟩
  ·simp[bools]
  ·omega
 case round =>
  obtain⟨l,tt,hown,hob,HOUT,HDI,HGR,hk,hk2⟩:=hrel
  have hyr:=HYB.out.grown HGR.out hneY
  have hxr:=HXB.out.grown HGR.out hneX
  have y3:=hyr.cell 3
  have y4:=hyr.cell 4
  have hyl2:=hyr.lt
  have hxl2:=hxr.lt
  have hgs:=HGR.out.size
  have HXR:=Hd_ hxr;clear hxr
  have HYR:=Hd_ hyr;clear hyr
  rcases List.eq_nil_or_concat tt with rfl | ⟨t',x,rfl⟩
  ·obtain⟨A,c6,rfl,_⟩:=ZE hown
   have hend:=HDI.out.done
   have hlen:l.length=N:=by rw[HDI.out.len,HN.out]
   have HL:=Hd_ hlen;clear hlen
   have HE:=Hd_ hend;clear hend
   go_wp2
   go_ret
   refine⟨.slice (some ⟨w.heap.size,0,none⟩) N N,l,rfl,?_,HL.out,?_,HGR.out⟩
   ·have h1:=ZGp HOUT.out (Nat.le_refl w.heap.size) (n:=l.length) (by simp[bools]) (by have:=HL.out;omega)
    rw[HL.out] at h1 ⊢
    exact h1
   ·rw[HS.out];exact HE.out
  ·obtain⟨hk0,hkN,hkl⟩:=HDI.out.todo x (by simp)
   rw[HN.out] at hkN
   obtain⟨kn,rfl⟩:=Int.eq_ofNat_of_zero_le hk0
   rw[Int.toNat_natCast] at hkl
   have HD1:Hid (DI g S F l t' (· = kn)):=by
    have:=DI.pop (k:=(kn:Int)) (t:=t') HDI.out (fun x=>by simp)
    rwa [Int.toNat_natCast] at this
   clear HDI
   simp only[List.concat_eq_append,List.length_append,List.length_singleton] at hown hk
   obtain⟨g6,c6,rfl,hg6,hg6',hc6,hcell⟩:=ZW hown (by omega)
   have hlast:wr.cell? ⟨g6,t'.length,none⟩=some (.int .i64 (kn:Nat)):=by
    rw[hcell _ (by omega)];simp[ints]
   clear hcell
   have hpop:=ownsRow_pop (size:=1) (n:=t'.length) (xs:=ints t') (last:=[.int .i64 kn]) (by simp[ints]) (by simpa [ints] using hown)
   obtain⟨nd,hnd⟩ : ∃ nd,g.nodes[kn]? = some nd:=⟨g.nodes[kn]'(by rw[HN.out];omega),List.getElem?_eq_getElem _⟩
   obtain⟨b',o',e',hnc⟩:=HNV.out.at_ hnd
   injection e' with e'
   injection e' with e1 e2
   subst e1 e2
   have HND:=Hd_ hnd;clear hnd
   have hf2:=ZBt nd
   have hld:∀ j v,nd.cells[j]? = some v→wr.cell? ⟨nb,no+kn * 13+j,none⟩=some v:=fun j v h=>HFREE.out wr HGR.out _ _ _ (hnc j v h)
   have HLD:=Hd_ hld;clear hld hnc
   go_wp2_with (first | (refine ZC rfl 61 _ rfl nb (no+kn * 13) rfl nd.cells _ HLD.out Tryd.underlying61 rfl (by kernel_rfl) ?_) | (go_at_call 64;refine(ZDw nd _).mono ?_;rintro e w1 ⟨fv,rfl,hf,hb1⟩;obtain⟨fA,fc,rfl,hfc,hfm,hfe⟩:=hf))
   have hps:DP g S F l t' kn nd (fol2 nd) 0:=DP.start HD1.out hkl HND.out (fun j=>ZAi nd j)
   have HPS:=Hd_ hps;clear hps hkl
   obtain⟨wo,rfl⟩ : ∃ wo:World,wo=wr:=⟨_,rfl⟩
   obtain⟨go,rfl⟩ : ∃ go:Nat,go=gk:=⟨_,rfl⟩
   have hszz:=hb1.size
   have hout1:=HOUT.out.lt
   have hob6:OB w (.slice vA t.length vc) (.slice (some ⟨g6,0,none⟩) t'.length c6):=by simpa [OB,Value.ownBlock] using hob
   have HFV:Hid (Ints (part w1 wo.heap.size w1.heap.size) (.slice fA (fol2 nd).length fc) (fol2 nd)):=⟨fA,fc,rfl,hfc,hfm,hfe⟩
   clear y3 y4 hlast hown hob
   go_loopg [1,40] ((fol2 nd).length) (fun k v1 v40 wr2=>TsR2 w base (.slice vA t.length vc) g S F kn nd (left l+t'.length) wo.heap.size w1.heap.size (.slice fA (fol2 nd).length fc) k v1 v40 wr2)
   case atStart =>
    refine⟨l,t',0,rfl,by omega,hpop.kept (row:=none) ⟨hb1.os,hb1.tape,hb1.output,hb1.size,fun k hk _=>hb1.block k hk⟩ (by simp[Value.ownBlock]),hob6,Hd_ (HOUT.out.below hb1 HOUT.out.lt),HPS,Hd_ (ZDU HGR.out hb1),Nat.le_refl _,HFV,?_,hout1,Nat.le_refl _⟩
    intro x hx
    have:=(hpop.lt x hx).2
    omega
   case round =>
    obtain⟨l2,t2,j,rfl,hjk,hown2,hob2,HOUT2,HP,HGR2,hm,HFI,HSEP,hlo,hhi⟩:=hrel
    have hyr:=HYB.out.grown HGR2.out hneY
    have hxr:=HXB.out.grown HGR2.out hneX
    have y4:=hyr.cell 4
    have hyl3:=hyr.lt
    have hxl3:=hxr.lt
    have hgs2:=HGR2.out.size
    have hol:=HOUT2.out.lt
    clear hyr
    by_cases hlt:j < (fol2 nd).length
    ·have hx:(fol2 nd)[j]? = some ((fol2 nd)[j]):=List.getElem?_eq_getElem hlt
     generalize (fol2 nd)[j]=x at hx
     have hxb:=HW.out.fol nd (List.mem_of_getElem? HND.out) x ((ZAi nd x).1 (List.mem_of_getElem? hx))
     rw[HN.out] at hxb
     obtain⟨xn,rfl⟩:=Int.eq_ofNat_of_zero_le hxb.1
     have hxN:xn < N:=by omega
     obtain⟨bf,of,rfl,hfc1⟩:=HFI.out.at_ hx
     obtain⟨hfc2,hbf1,hbf2⟩:=Zl hfc1
     rw[Nat.mul_one] at hfc2
     have hoc:=HOUT2.out.cell xn
     have hlx:xn < l2.length:=by rw[HP.out.di.len,HN.out];omega
     have HJ:=Hd_ hjk;clear hjk
     obtain⟨mm,hmm⟩ : ∃ m,mkAt u g F xn=m:=⟨_,rfl⟩
     obtain⟨ms,ml,md,mf⟩:=mm
     have hlm:∀ j v,([.bool ms,.bool ml,.bool md,.bool mf] : List Value)[j]? = some v→wr.cell? ⟨X,xn * 4+j,none⟩=some v:=fun j v hj=>by
      rw[hxr.cell]
      exact ZEl ZAW (ZCf u g F (by rw[HN.out];exact hxN)) (by rw[hmm];exact hj)
     have HLM:=Hd_ hlm;clear hlm
     have hm1:(mf=true ↔ (xn:Int)∈F)∧∀ n,g.nodes[xn]? = some n→drB n=md:=by
      obtain⟨nx,hnx⟩ : ∃ n,g.nodes[xn]? = some n:=⟨g.nodes[xn]'(by rw[HN.out];exact hxN),List.getElem?_eq_getElem _⟩
      unfold mkAt at hmm
      rw[hnx] at hmm
      injection hmm with q1 q2 q3 q4
      exact⟨by rw[← q4];simp,fun n hn=>by rw[hnx] at hn;injection hn with hn;rw[← hn];exact q3⟩
     have HM1:=Hd_ hm1;clear hm1 hmm hxr
     have hx0:(0:Int)≤xn:=by omega
     have hxi:(xn:Int) < N:=by omega
     cases hbv:l2[xn]? with
     | none=>rw[List.getElem?_eq_none_iff] at hbv;omega
     | some bv =>
     have hoc2:wr.cell? ⟨w.heap.size,xn,none⟩=some (.bool bv):=by rw[hoc];simp[bools,hbv]
     clear hoc hfc1
     have HX:=Hd_ hx;clear hx
     have HBV:=Hd_ hbv;clear hbv
     have HNE:Hid (u1.ownBlock=none∨u1.ownBlock≠none):=by
      show _∨_
      cases h:u1.ownBlock with
      | none=>exact .inl rfl
      | some x=>exact .inr (by simp)
     cases bv with
     | true =>
      go_wp2_with (first | (refine ZC rfl 103 _ rfl X (xn * 4) rfl _ _ HLM.out Tryd.underlying103 rfl (by kernel_rfl) ?_))
      go_roundg (gk - 1)
      case measure=>have:=HJ.out;omega
      case rel=>exact⟨l2,t2,j+1,by go_num,by have:=HJ.out;omega,hown2.kept (row:=none) ⟨rfl,rfl,rfl,by simp,fun k hk _=>Below.heap_alloc _ _ _ hk⟩ HNE.out,hob2,Hd_ (HOUT2.out.alloc _),Hd_ (HP.out.seen HX.out (.inr (by simpa using HBV.out))),Hd_ (ZDU HGR2.out (ZB _ _)),hm,Hd_ (HFI.out.mono (Zc fun b _ hb=>Below.heap_alloc _ _ _ (by omega))),HSEP,hlo,by simp;omega⟩
     | false =>
      cases mf with
      | true =>
       go_wp2_with (first | (refine ZC rfl 103 _ rfl X (xn * 4) rfl _ _ HLM.out Tryd.underlying103 rfl (by kernel_rfl) ?_))
       go_roundg (gk - 1)
       case measure=>have:=HJ.out;omega
       case rel=>exact⟨l2,t2,j+1,by go_num,by have:=HJ.out;omega,hown2.kept (row:=none) ⟨rfl,rfl,rfl,by simp,fun k hk _=>Below.heap_alloc _ _ _ hk⟩ HNE.out,hob2,Hd_ (HOUT2.out.alloc _),Hd_ (HP.out.seen HX.out (.inl (HM1.out.1.1 trivial))),Hd_ (ZDU HGR2.out (ZB _ _)),hm,Hd_ (HFI.out.mono (Zc fun b _ hb=>Below.heap_alloc _ _ _ (by omega))),HSEP,hlo,by simp;omega⟩
      | false =>
       have hnF:(xn:Int) ∉ F:=fun h=>by have:=HM1.out.1.2 h;cases this
       have HNF:=Hd_ hnF;clear hnF
       have hfz:=HOUT2.out.frozen xn
       have hne:=ZQ hown2 HOUT2.out (by decide)
       have hbt:(bools l2).set xn (.bool true)=bools (l2.set xn true):=by simp[bools,List.map_set]
       have HNI:=Hd_ hne
       have HBT:=Hd_ hbt
       clear hne hbt
       have hls:=ZBA l2 xn HBV.out
       have HLS:=Hd_ hls;clear hls
       cases md with
       | true =>
        have HP3:Hid (DP g S F (l2.set xn true) t2 kn nd (fol2 nd) (j+1)):=by
         have:=HP.out.fresh HW.out HX.out HNF.out t2 true (by simpa using HM1.out.2) (fun x=>by simp)
         exact Hd_ (by simpa using this)
        have hown3:=(ownsRow_setCell_other (a:=⟨w.heap.size,xn,none⟩) hown2 (fun e=>HNI.out e.symm) (.bool true)).alloc (.cells #[.bool ms,.bool ml,.bool true,.bool false] 103)
        have hout3:=(HOUT2.out.set_ xn (.bool true)).alloc (.cells #[.bool ms,.bool ml,.bool true,.bool false] 103)
        rw[HBT.out] at hout3
        have HOUT3:=Hd_ hout3;clear hout3
        have HGR3:=Hd_ (ZDU (ZJI HGR2.out (b:=w.heap.size) (o:=xn) (Nat.le_refl _) (.bool true)) (ZB _ (.cells #[.bool ms,.bool ml,.bool true,.bool false] 103)))
        go_wp2_with (first | (refine ZC rfl 103 _ rfl X (xn * 4) rfl _ _ HLM.out Tryd.underlying103 rfl (by kernel_rfl) ?_))
        go_roundg (gk - 1)
        case measure=>have:=HJ.out;omega
        case rel=>exact⟨l2.set xn true,t2,j+1,by go_num,by have:=HJ.out;omega,hown3,hob2,HOUT3,HP3,HGR3,by have:=HLS.out;omega,Hd_ (HFI.out.mono (Zc fun b hb1 hb=>by rw[Below.heap_alloc _ _ _ (by simp[World.setCell];omega),Below.heap_setCell _ _ _ _ (by show b≠w.heap.size;omega)])),HSEP,hlo,by simp[World.setCell];omega⟩
       | false =>
        have HP3:Hid (DP g S F (l2.set xn true) (t2 ++ [(xn:Int)]) kn nd (fol2 nd) (j+1)):=by
         have:=HP.out.fresh HW.out HX.out HNF.out (t2 ++ [(xn:Int)]) false (by simpa using HM1.out.2) (fun x=>by simp)
         exact Hd_ (by simpa using this)
        have hown3:=(ownsRow_setCell_other (a:=⟨w.heap.size,xn,none⟩) hown2 (fun e=>HNI.out e.symm) (.bool true)).alloc (.cells #[.bool ms,.bool ml,.bool false,.bool false] 103)
        have hout3:=(HOUT2.out.set_ xn (.bool true)).alloc (.cells #[.bool ms,.bool ml,.bool false,.bool false] 103)
        rw[HBT.out] at hout3
        have HOUT3:=Hd_ hout3;clear hout3
        have HGR3:=Hd_ (ZDU (ZJI HGR2.out (b:=w.heap.size) (o:=xn) (Nat.le_refl _) (.bool true)) (ZB _ (.cells #[.bool ms,.bool ml,.bool false,.bool false] 103)))
        have hown4:=hown3.alloc (.cells #[.int .i64 (xn:Nat)] 3)
        go_wp2_with (first | (refine ZC rfl 103 _ rfl X (xn * 4) rfl _ _ HLM.out Tryd.underlying103 rfl (by kernel_rfl) ?_) | (refine ZN rfl ?_))
        refine Stop.intro ?_
        refine Zg Z2 rfl _ _ rfl base u1 t2.length (ints t2) rfl hown4 _ 0 1 [.int .i64 (xn:Nat)] rfl rfl (Za _ _ _ _ (by simp[World.setCell])) (by simp[Value.oneCell']) (by omega) (by decide) (by simp[World.setCell];omega) ?_
        intro v' w' hown5 hgr hobn
        have hw':=hgr.size
        have hOUTn:=(HOUT3.out.alloc (.cells #[.int .i64 (xn:Nat)] 3)).grown hgr (ZQ hown2 HOUT2.out (by decide))
        have HOUT5:=Hd_ hOUTn;clear hOUTn
        have HGR5:=Hd_ (ZGP (ZDU HGR3.out (ZB _ (.cells #[.int .i64 (xn:Nat)] 3))) hgr (by rcases hob2 with e | e;exact .inl e;exact .inr e))
        have HFI5:Hid (Ints (part w' wo.heap.size w1.heap.size) (.slice (some ⟨bf,of,none⟩) (fol2 nd).length fc) (fol2 nd)):=Hd_ (HFI.out.mono (Zc fun b hb1 hb=>by
         rw[hgr.block b (by simp[World.setCell];omega) ?_,Below.heap_alloc _ _ _ (by simp[World.setCell];omega),Below.heap_alloc _ _ _ (by simp[World.setCell];omega),Below.heap_setCell _ _ _ _ (by show b≠w.heap.size;omega)]
         intro e
         have:=HSEP.out b e.symm
         omega))
        have hob5:OB w (.slice vA t.length vc) v':=by
         rcases hobn with e | e
         ·unfold OB;rw[e];exact hob2
         ·refine .inr fun q hq=>?_
          rw[e] at hq;injection hq with hq;subst hq;simp[World.setCell];omega
        have HSEP5:Hid (∀ x,v'.ownBlock=some x→x < wo.heap.size∨w1.heap.size≤x):=Hd_ fun x hx=>by
         rcases hobn with e | e
         ·exact HSEP.out x (by rw[← e];exact hx)
         ·rw[e] at hx;injection hx with hx;subst hx;simp[World.setCell];omega
        simp[World.setCell] at hw'
        have hown6:w'.ownsRow base 3 1 v' (t2 ++ [(xn:Int)]).length (ints (t2 ++ [(xn:Int)])):=by simpa [ints] using hown5
        clear hgr hown5 hobn hown4 hown3
        go_wp2
        go_roundg (gk - 1)
        case measure=>have:=HJ.out;omega
        case rel=>exact⟨l2.set xn true,t2 ++ [(xn:Int)],j+1,by go_num,by have:=HJ.out;omega,hown6,hob5,HOUT5,HP3,HGR5,by have:=HLS.out;simp;omega,HFI5,HSEP5,hlo,by omega⟩
    ·have hj:j=(fol2 nd).length:=by omega
     have hdone:=HP.out.done (by omega)
     have HDN:=Hd_ hdone;clear hdone
     clear hjk
     have HJ:=Hd_ hj;clear hj
     have hlt':¬ ((j:Int) < (fol2 nd).length):=by omega
     go_wp2
     go_roundg (left l2+t2.length)
     case measure=>omega
     case rel=>exact⟨l2,t2,hown2,hob2,HOUT2,HDN,HGR2,Nat.le_refl _,by omega⟩
end Go.Proofs.YtffgnjgphkdodaaDoor
