import Derived.Test.YtffgnjgphkdodaaDoorD33
import Derived.Test.YtffgnjgphkdodaaDoorD28
import Derived.Test.YtffgnjgphkdodaaDoorD9
import Derived.Test.YtffgnjgphkdodaaDoorD34
import Derived.Test.YtffgnjgphkdodaaDoorD36
namespace Go.Proofs.YtffgnjgphkdodaaDoor
open Go Go.RowKit
def fbM (o:Int) : Node:=⟨2,0,0,1 - o,dkz,dkz,3,0,2⟩
def fbE:Node:=⟨9,0,0,0,dkz,dkz,0,0,3⟩
def fbG (s:ByteArray) (o:Int) : Graph:=⟨s,0,1,[dkS o,dkL o,fbM o,fbE]⟩
def fbU:Unit_:=⟨[⟨⟨#[120]⟩,0,0⟩,⟨⟨#[121]⟩,0,0⟩],[],[fbG ⟨#[97]⟩ 0,fbG ⟨#[98]⟩ 1]⟩
theorem ZC2:checkF fbU=none:=by kernel_rfl
theorem ZH8:UOk fbU:=by
 intro g hg n hn
 have h0:=ZIG.1
 have h1:=ZIG.2.1
 have h2:=ZIG.2.2
 have h3:i64 3:=by unfold i64;omega
 have key:∀ o:Int,i64 o→i64 (1 - o)→n∈[dkS o,dkL o,fbM o,fbE]→n.ok:=fun o ho ho' hn=>by
  simp only[List.mem_cons,List.not_mem_nil,or_false] at hn
  rcases hn with rfl | rfl | rfl | rfl
  ·exact⟨by simp[dkS],by simp[dkS],h0,ho,⟨h0,h1⟩,⟨h0,h0⟩,h1,h0,h0⟩
  ·exact⟨by simp[dkL],by simp[dkL],h0,ho',⟨h0,h0⟩,⟨h0,h0⟩,h2,h0,h1⟩
  ·exact⟨by simp[fbM],by simp[fbM],h0,ho',⟨h0,h0⟩,⟨h0,h0⟩,h3,h0,h2⟩
  ·exact⟨by decide,by decide,h0,h0,⟨h0,h0⟩,⟨h0,h0⟩,h0,h0,h3⟩
 simp only[fbU,List.mem_cons,List.not_mem_nil,or_false] at hg
 rcases hg with rfl | rfl
 ·exact key 0 h0 h1 hn
 ·exact key 1 h1 h0 hn
section
variable (s:ByteArray) (o:Int)
theorem fb_f (o:Int) : fol (dkS o)=[1]∧fol (dkL o)=[2]∧fol (fbM o)=[3]∧fol fbE=[]:=⟨rfl,rfl,rfl,rfl⟩
theorem fb_nd (i:Nat) (n:Node) (h:(fbG s o).nodes[i]? = some n) : (i=0∧n=dkS o)∨(i=1∧n=dkL o)∨(i=2∧n=fbM o)∨(i=3∧n=fbE):=by
 match i,h with
 | 0,h=>injection h with h;exact .inl ⟨rfl,h.symm⟩
 | 1,h=>injection h with h;exact .inr (.inl ⟨rfl,h.symm⟩)
 | 2,h=>injection h with h;exact .inr (.inr (.inl ⟨rfl,h.symm⟩))
 | 3,h=>injection h with h;exact .inr (.inr (.inr ⟨rfl,h.symm⟩))
 | i+4,h=>simp[fbG] at h
theorem ZEn {i:Nat} {n:Node} {j:Int} (h:(fbG s o).nodes[i]? = some n) (hj:j∈fol n) : j=(i:Int)+1∧i < 3:=by
 rcases fb_nd s o i n h with⟨rfl,rfl⟩ | ⟨rfl,rfl⟩ | ⟨rfl,rfl⟩ | ⟨rfl,rfl⟩
 ·rw[(fb_f o).1] at hj;simp at hj;omega
 ·rw[(fb_f o).2.1] at hj;simp at hj;omega
 ·rw[(fb_f o).2.2.1] at hj;simp at hj;omega
 ·rw[(fb_f o).2.2.2] at hj;cases hj
theorem ZGS (m:Int) {k:Nat} (hk:k < 4) (hm:m = -1∨(k:Int) < m) : ReachC (fbG s o) m k:=by
 have r1:((0:Nat) : Int)≠m→ReachC (fbG s o) m 1:=fun h=>.step .zero h (n:=dkS o) rfl (by simp[fol,dkS])
 have r2:((0:Nat) : Int)≠m→((1:Nat) : Int)≠m→ReachC (fbG s o) m 2:=fun h h'=>.step (r1 h) h' (n:=dkL o) rfl (by simp[fol,dkL])
 have r3:((0:Nat) : Int)≠m→((1:Nat) : Int)≠m→((2:Nat) : Int)≠m→ReachC (fbG s o) m 3:=fun h h' h''=>.step (r2 h h') h'' (n:=fbM o) rfl (by simp[fol,fbM])
 match k,hk,hm with
 | 0,_,hm=>exact .zero
 | 1,_,hm=>exact r1 (by omega)
 | 2,_,hm=>exact r2 (by omega) (by omega)
 | 3,_,hm=>exact r3 (by omega) (by omega) (by omega)
theorem fb_r {k:Nat} (hk:k < 4) : ReachC (fbG s o) (-1) k:=ZGS s o (-1) hk (.inl rfl)
theorem ZIB (h p:Nat) : ¬ BackE (fbG s o) h p:=fun ⟨_,⟨n,hn,hj⟩,hd⟩=>by
 obtain⟨h1,h2⟩:=ZEn s o hn hj
 rcases hd with hd | hd
 ·omega
 ·exact hd (ZGS s o _ (by omega) (.inr (by omega)))
theorem ZJp (h i:Nat) : ¬ LoopC (fbG s o) h i:=fun hl=>by
 induction hl with
 | head hb=>exact ZIB s o _ _ hb
 | tail hb=>exact ZIB s o _ _ hb
 | back _ _ _ _ ih=>exact ih
theorem ZED (k i:Nat) : depN (fbG s o) k i=0:=by
 induction k with
 | zero=>rfl
 | succ k ih=>rw[ZDf,ih,if_neg (fun h=>ZJp s o k i h.2)]
theorem ZH9 (t:Nat) (ho:heldL (fbG s o)=[[],[],[],[]]) : hitsOf t (fbG s o) 0 [dkS o,dkL o,fbM o,fbE]=[⟨t,0,dkS o,[]⟩,⟨t,1,dkL o,[]⟩,⟨t,2,fbM o,[]⟩,⟨t,3,fbE,[]⟩]:=by
 have h0:heldAt (fbG s o) 0=[]:=by unfold heldAt;rw[ho];rfl
 have h1:heldAt (fbG s o) 1=[]:=by unfold heldAt;rw[ho];rfl
 have h2:heldAt (fbG s o) 2=[]:=by unfold heldAt;rw[ho];rfl
 have h3:heldAt (fbG s o) 3=[]:=by unfold heldAt;rw[ho];rfl
 rw[ZAs (fb_r s o (by decide)),ZAs (fb_r s o (by decide)),ZAs (fb_r s o (by decide)),ZAs (fb_r s o (by decide)),h0,h1,h2,h3]
 rfl
end
theorem ZI4:hitsU fbU=[⟨0,0,dkS 0,[]⟩,⟨0,1,dkL 0,[]⟩,⟨0,2,fbM 0,[]⟩,⟨0,3,fbE,[]⟩,⟨1,0,dkS 1,[]⟩,⟨1,1,dkL 1,[]⟩,⟨1,2,fbM 1,[]⟩,⟨1,3,fbE,[]⟩]:=by
 show hits 0 [fbG ⟨#[97]⟩ 0,fbG ⟨#[98]⟩ 1]=_
 simp only[hits]
 show hitsOf 0 (fbG ⟨#[97]⟩ 0) 0 [dkS 0,dkL 0,fbM 0,fbE] ++ (hitsOf 1 (fbG ⟨#[98]⟩ 1) 0 [dkS 1,dkL 1,fbM 1,fbE] ++ [])=_
 rw[ZH9 _ _ 0 rfl,ZH9 _ _ 1 rfl]
 rfl
theorem ZC1 (x:Int) (hx:x=0∨x=1) : (classF fbU x).kind=3:=by
 have h:touchU fbU x=if x=0 then [⟨0,0,dkS 0,[]⟩,⟨1,1,dkL 1,[]⟩,⟨1,2,fbM 1,[]⟩] else [⟨0,1,dkL 0,[]⟩,⟨0,2,fbM 0,[]⟩,⟨1,0,dkS 1,[]⟩]:=by
  unfold touchU
  rw[ZI4]
  rcases hx with rfl | rfl <;> rfl
 have hg:guardsF fbU x=[]:=by
  unfold guardsF
  split
  ·rfl
  ·rfl
 unfold classF
 rw[h,hg]
 rcases hx with rfl | rfl <;> rfl
section
variable {s:ByteArray} {o:Int}
theorem fb_m (ho:o=0∨o=1) (F:List Int) : mkAt fbU (fbG s o) F 0=⟨true,false,false,decide ((0:Int)∈F)⟩∧mkAt fbU (fbG s o) F 1=⟨false,true,false,decide ((1:Int)∈F)⟩∧mkAt fbU (fbG s o) F 2=⟨false,true,false,decide ((2:Int)∈F)⟩∧mkAt fbU (fbG s o) F 3=⟨false,false,false,decide ((3:Int)∈F)⟩:=by
 have ns:∀ n:Node,n.kind≠6→n.kind≠3→stB fbU n=false:=fun n h6 h3=>decide_eq_false (fun h=>by
  rcases h with h | h
  ·exact h6 h
  ·exact h3 h.1)
 have nl:∀ n:Node,n.kind≠2→ldB fbU n=false:=fun n h2=>decide_eq_false (fun h=>h2 h.1)
 have s0:stB fbU (dkS o)=true:=decide_eq_true (.inr ⟨rfl,ZC1 o ho⟩)
 have l1:ldB fbU (dkL o)=true:=decide_eq_true ⟨rfl,ZC1 (1 - o) (by omega)⟩
 have l2:ldB fbU (fbM o)=true:=decide_eq_true ⟨rfl,ZC1 (1 - o) (by omega)⟩
 refine⟨?_,?_,?_,?_⟩
 ·rw[ZBp (n:=dkS o) rfl (b:=true) (by simp[fb_r s o (show 0 < 4 by decide)]),s0,nl _ (by simp[dkS])]
  rfl
 ·rw[ZBp (n:=dkL o) rfl (b:=true) (by simp[fb_r s o (show 1 < 4 by decide)]),l1,ns _ (by simp[dkL]) (by simp[dkL])]
  rfl
 ·rw[ZBp (n:=fbM o) rfl (b:=true) (by simp[fb_r s o (show 2 < 4 by decide)]),l2,ns _ (by simp[fbM]) (by simp[fbM])]
  rfl
 ·rw[ZBp (n:=fbE) rfl (b:=true) (by simp[fb_r s o (show 3 < 4 by decide)]),nl _ (by decide),ns _ (by decide) (by decide)]
  rfl
theorem fb_st (ho:o=0∨o=1) : stL fbU (fbG s o)=[0]:=by
 show stK fbU (fbG s o) (0+1+1+1+1)=_
 rw[ZB0,ZB0,ZB0,ZB0,(fb_m ho []).1,(fb_m ho []).2.1,(fb_m ho []).2.2.1,(fb_m ho []).2.2.2]
 rfl
theorem ZI3:openG (fbG s o) [0] []=[false,true,true,true]:=by
 have h1:OpenC (fbG s o) (fun i=>(i:Int)∈[0]) [] 1:=.first (i:=0) (n:=dkS o) (by simp) rfl (by simp[fol,dkS]) (by simp)
 have h2:OpenC (fbG s o) (fun i=>(i:Int)∈[0]) [] 2:=.step h1 (n:=dkL o) rfl rfl (by simp[fol,dkL]) (by simp)
 have h3:OpenC (fbG s o) (fun i=>(i:Int)∈[0]) [] 3:=.step h2 (n:=fbM o) rfl rfl (by simp[fol,fbM]) (by simp)
 have key:∀ j,OpenC (fbG s o) (fun i=>(i:Int)∈[0]) [] j→0 < j∧j < 4:=fun j h=>by
  cases h with
  | first _ hn hj _=>have:=ZEn s o hn hj;omega
  | step _ hn _ hj _=>have:=ZEn s o hn hj;omega
 refine(ZCw rfl fun i=>?_).symm
 match i with
 | 0=>exact⟨fun h=>by simp at h,fun h=>by have:=key _ h;omega⟩
 | 1=>simpa using h1
 | 2=>simpa using h2
 | 3=>simpa using h3
 | i+4=>exact⟨fun h=>by simp at h,fun h=>by have:=key _ h;omega⟩
theorem ZI2:openG (fbG s o) [0] [1]=[false,false,false,false]:=by
 have h0:∀ i,¬ OpenC (fbG s o) (fun i=>(i:Int)∈[0]) [1] i:=fun i h=>by
  induction h with
  | @first a j n hs hn hj hf =>
   have:a=0:=by simpa using hs
   subst this
   have:=ZEn s o hn hj
   simp at hf
   omega
  | step _ _ _ _ _ ih=>exact ih
 refine(ZCw rfl fun i=>?_).symm
 refine⟨fun h=>?_,fun h=>(h0 i h).elim⟩
 match i,h with
 | 0,h=>simp at h
 | 1,h=>simp at h
 | 2,h=>simp at h
 | 3,h=>simp at h
 | i+4,h=>simp at h
end
theorem ZIA (t:Nat) (ht:t < 2) : ∃ s o,fbU.graphs[t]? = some (fbG s o)∧(o=0∨o=1):=by
 match t,ht with
 | 0,_=>exact⟨_,0,rfl,.inl rfl⟩
 | 1,_=>exact⟨_,1,rfl,.inr rfl⟩
theorem ZIC (t:Nat) (ht:t < 2) : askE fbU (t:Int)=0:=ZCZ ZC2 ⟨by omega,by show(t:Int) < (2:Nat);omega⟩
theorem ZBf (t:Nat) (ht:t < 2) : (loadsR fbU (t:Int) []).1=[1,2]∧(loadsR fbU (t:Int) [1]).1=[]:=by
 obtain⟨s,o,hg,ho⟩:=ZIA t ht
 have h0:openR fbU (t:Int) []=([false,true,true,true],0):=by
  unfold openR
  rw[if_pos (ZIC t ht),Int.toNat_natCast,hg]
  simp only
  rw[fb_st ho,ZI3]
  rfl
 have h1:openR fbU (t:Int) [1]=([false,false,false,false],0):=by
  unfold openR
  rw[if_pos (ZIC t ht),Int.toNat_natCast,hg]
  simp only
  rw[fb_st ho,ZI2]
  rfl
 unfold loadsR
 rw[h0,h1,if_pos rfl,if_pos rfl,Int.toNat_natCast,hg]
 refine⟨?_,?_⟩
 ·show ldK fbU (fbG s o) [false,true,true,true] (0+1+1+1+1)=_
  rw[ZAB,ZAB,ZAB,ZAB,(fb_m ho []).1,(fb_m ho []).2.1,(fb_m ho []).2.2.1,(fb_m ho []).2.2.2]
  rfl
 ·show ldK fbU (fbG s o) [false,false,false,false] (0+1+1+1+1)=_
  rw[ZAB,ZAB,ZAB,ZAB]
  rfl
theorem ZH7:placeR fbU false=([[1,2],[1,2]],0):=by
 rw[ZAU ZC2]
 show([placeL fbU false 0,placeL fbU false 1],(0:Int))=_
 rw[Z4,Z4,(ZBf 0 (by decide)).1,(ZBf 1 (by decide)).1]
theorem ZGT (t:Nat) (ht:t < 2) : placeL fbU true t=[1]:=by
 obtain⟨s,o,hg,ho⟩:=ZIA t ht
 have hD:depthL (fbG s o)=[0,0,0,0]:=by
  show [(depN (fbG s o) 4 0:Int),(depN (fbG s o) 4 1:Int),(depN (fbG s o) 4 2:Int),(depN (fbG s o) 4 3:Int)]=_
  rw[ZED,ZED,ZED,ZED]
  rfl
 have e1:emptyR fbU (t:Int) [1]=true:=Zd.2 (ZBf t ht).2
 have e0:¬ emptyR fbU (t:Int) []=true:=fun h=>by
  have:=Zd.1 h
  rw[(ZBf t ht).1] at this
  cases this
 have a2:argK [0,0,0,0] [1,2]=2:=by decide
 have a1:argK [0,0,0,0] [1]=1:=by decide
 have w1:withoutL [1,2] 2=[1]:=by decide
 have w2:withoutL [1] 1=[]:=by decide
 rw[ZAK hg,(ZBf t ht).1,hD]
 show mergeF fbU (t:Int) [0,0,0,0] (1+1) [1,2] [1,2]=_
 rw[ZAE (by simp) a2,w1,if_pos e1,show(1:Nat)=0+1 from rfl,ZAE (by simp) a1,w2,if_neg e0]
 rfl
theorem ZH6:placeR fbU true=([[1],[1]],0):=by
 rw[ZAU ZC2]
 show([placeL fbU true 0,placeL fbU true 1],(0:Int))=_
 rw[ZGT 0 (by decide),ZGT 1 (by decide)]
theorem ZGU:faultE fbU 0 [1] 1=0:=by
 have h:=ZB9 (F:=[1]) (n:=1) (ZIC 0 (by decide)) (g:=fbG ⟨#[97]⟩ 0) rfl
 have e:faultE fbU ((0:Nat) : Int) [1] 1=0:=h.trans (if_pos ⟨rfl,by simp⟩)
 exact e
theorem ZJo:needR fbU 0 [1] 1=(true,0):=by
 have w2:withoutL [1] 1=[]:=by decide
 have e0:emptyR fbU ((0:Nat) : Int) []=false:=by
  unfold emptyR
  rw[(ZBf 0 (by decide)).1]
  rfl
 unfold needR
 rw[if_pos ZGU,w2]
 exact congrArg (fun b=>(!b,(0:Int))) e0
theorem ZJq:costR fbU [[1,2],[1,2]]=(4,0):=by
 have hc:∀ (s:ByteArray) (o:Int),costG (fbG s o) [1,2]=2:=fun s o=>by
  show([cost1 (depN (fbG s o) 4 1:Nat),cost1 (depN (fbG s o) 4 2:Nat)]).sum=2
  rw[ZED,ZED]
  rfl
 rw[ZCY ZC2 ⟨rfl,fun t g l hg hl=>by
  have ht:t < 2:=(List.getElem?_eq_some_iff.1 hl).1
  obtain⟨s,o,hg',_⟩:=ZIA t ht
  rw[hg'] at hg
  injection hg with hg
  subst hg
  have:l=[1,2]:=by
   match t,hl with
   | 0,hl=>injection hl with hl;exact hl.symm
   | 1,hl=>injection hl with hl;exact hl.symm
  subst this
  rfl⟩]
 show(costS fbU [[1,2],[1,2]] (0+1+1),(0:Int))=_
 rw[ZAw (g:=fbG ⟨#[98]⟩ 1) (F:=[1,2]) rfl rfl,ZAw (g:=fbG ⟨#[97]⟩ 0) (F:=[1,2]) rfl rfl,ZEG,hc,hc]
 rfl
theorem ZI5:aloneR fbU 0 [1] 1=([0,1],true,0):=by
 have ho:(0:Int)=0∨(0:Int)=1:=.inl rfl
 have w2:withoutL [1] 1=[]:=by decide
 obtain⟨g,hg⟩ : ∃ g,fbG ⟨#[97]⟩ 0=g:=⟨_,rfl⟩
 have hgu:fbU.graphs[(0:Int).toNat]? = some g:=by rw[← hg];rfl
 have hN:g.nodes.length=4:=by rw[← hg];rfl
 have hld:ldB fbU (dkL 0)=true:=decide_eq_true ⟨rfl,ZC1 (1 - 0) (by omega)⟩
 have hT:spT fbU g (num 1 true):=by rw[← hg];exact⟨1,dkL 0,rfl,rfl,hld⟩
 have hE:spE g [] 1 (num 0 false) (num 1 true):=by
  rw[← hg]
  exact⟨0,false,1,dkS 0,rfl,rfl,rfl,rfl,by simp[fol,dkS],by simp⟩
 have d1:(spD fbU g [] 1)[num 1 true]? = some 0:=ZAd.at_ (ZBm (by omega) true) (.inr ⟨0,rfl,.nil hT,fun _ _=>Nat.zero_le _⟩)
 have d0:(spD fbU g [] 1)[num 0 false]? = some 1:=ZAd.at_ (ZBm (by omega) false) (.inr ⟨1,rfl,.step hE (.nil hT),fun e he=>by
  cases he with
  | nil h =>
   obtain⟨i,n,h1,_⟩:=h
   have:=(ZAO h1).2
   cases this
  | step _ _=>omega⟩)
 obtain⟨m0,m1,m2,m3⟩:=fb_m (s:=⟨#[97]⟩) ho []
 rw[hg] at m0 m1 m2 m3
 have f1:firstF fbU g (spD fbU g [] 1) 1=0:=by
  unfold firstF
  rw[if_pos ⟨by rw[m0],by rw[d0];decide,.inl (show(-1:Int) < 0 by decide)⟩]
  rfl
 have f2:firstF fbU g (spD fbU g [] 1) 2=0:=by
  unfold firstF
  rw[if_neg (fun h=>by have:=h.1;rw[m1] at this;cases this),f1]
 have f3:firstF fbU g (spD fbU g [] 1) 3=0:=by
  unfold firstF
  rw[if_neg (fun h=>by have:=h.1;rw[m2] at this;cases this),f2]
 have f4:firstF fbU g (spD fbU g [] 1) 4=0:=by
  unfold firstF
  rw[if_neg (fun h=>by have:=h.1;rw[m3] at this;cases this),f3]
 have hb:bestS (spD fbU g [] 1) [] 1 false ((0:Nat) : Int) (-1) (folAt g 0)=1:=by
  have hf:folAt g 0=[1]:=by rw[← hg];rfl
  rw[hf]
  show(if ((1:Int) ∉ ([] : List Int)∧(spD fbU g [] 1)[nxt 1 false 1]? = some ((0:Nat) : Int))∧((-1:Int) < 0∨(1:Int) < -1) then (1:Int) else -1)=1
  rw[if_pos ⟨⟨by simp,d1⟩,.inl (by decide)⟩]
 unfold aloneR
 rw[if_pos ZGU,hgu,w2]
 simp only
 rw[hN,f4,if_neg (by decide)]
 show(waySp g (spD fbU g [] 1) [] 1 (((spD fbU g [] 1)[num 0 false]?).getD 0).toNat 0 false,true,(0:Int))=_
 rw[d0]
 show((0:Int) :: [bestS (spD fbU g [] 1) [] 1 false ((0:Nat) : Int) (-1) (folAt g 0)],true,(0:Int))=_
 rw[hb]
theorem ZFF (v1 v2:Value) (l1 l2:List Int) (w:World) (h1:Ints (cmap w) v1 l1) (h2:Ints (cmap w) v2 l2) :
  Calls Tryd.prog 21 #[v1,v2] w fun e w'=>e=.returned (.bool (decide (l1=l2)))∧∃ n,w'=w.drewN n:=by
 have H:=Hd_ (ZD2 v1 v2 l1 l2 w h1 h2)
 clear h1 h2
 go_enter Tryd.func21,Tryd.ntmps21
 go_wp2_with fail
 refine H.out.mono ?_
 rintro e w1 ⟨rfl,q,rfl⟩
 go_wp2_with fail
 go_ret
 exact⟨rfl,q,rfl⟩
theorem ZCu {m:CM} {v:Value} {L:List (List Int)} (h:Ints2 m v L) : Sl (Cells intsV) 1 m v L:=by
 obtain⟨A,c,rfl,h1,h2,h3⟩:=h
 refine⟨A,c,rfl,h1,h2,h3.imp id fun ⟨b,o,e,h⟩=>⟨b,o,e,fun i x hx=>?_⟩⟩
 obtain⟨v,h4,h5⟩:=h i x hx
 refine⟨[v],⟨v,rfl,h5⟩,fun j v' hj=>?_⟩
 match j,hj with
 | 0,hj=>injection hj with hj;subst hj;exact h4
theorem lit2 (w:World) (c1 c2:List Value) (l1 l2:List Int) (n1 n2:Nat) (h1:c1=ints l1) (h2:c2=ints l2) (hn1:n1=l1.length) (hn2:n2=l2.length) (hs:n1≤1000∧n2≤1000) :
  Ints2 (cmap (((w.alloc (.cells c1.toArray 3)).alloc (.cells c2.toArray 3)).alloc (.cells #[.slice (some ⟨w.heap.size,0,none⟩) n1 n1,.slice (some ⟨w.heap.size+1,0,none⟩) n2 n2] 39))) (.slice (some ⟨w.heap.size+1+1,0,none⟩) 2 2) [l1,l2] ∧
  Below w.heap.size w (((w.alloc (.cells c1.toArray 3)).alloc (.cells c2.toArray 3)).alloc (.cells #[.slice (some ⟨w.heap.size,0,none⟩) n1 n1,.slice (some ⟨w.heap.size+1,0,none⟩) n2 n2] 39)):=by
 subst h1 h2 hn1 hn2
 have b1:Blk (((w.alloc (.cells (ints l1).toArray 3)).alloc (.cells (ints l2).toArray 3)).alloc (.cells #[.slice (some ⟨w.heap.size,0,none⟩) l1.length l1.length,.slice (some ⟨w.heap.size+1,0,none⟩) l2.length l2.length] 39)) w.heap.size 3 (ints l1):=((Blk.new w _ _).alloc _).alloc _
 have b2:Blk (((w.alloc (.cells (ints l1).toArray 3)).alloc (.cells (ints l2).toArray 3)).alloc (.cells #[.slice (some ⟨w.heap.size,0,none⟩) l1.length l1.length,.slice (some ⟨w.heap.size+1,0,none⟩) l2.length l2.length] 39)) (w.heap.size+1) 3 (ints l2):=(Blk.of (ZP _ _ _ (by simp)) rfl:Blk _ _ _ _).alloc _
 have b3:Blk (((w.alloc (.cells (ints l1).toArray 3)).alloc (.cells (ints l2).toArray 3)).alloc (.cells #[.slice (some ⟨w.heap.size,0,none⟩) l1.length l1.length,.slice (some ⟨w.heap.size+1,0,none⟩) l2.length l2.length] 39)) (w.heap.size+1+1) 39 [.slice (some ⟨w.heap.size,0,none⟩) l1.length l1.length,.slice (some ⟨w.heap.size+1,0,none⟩) l2.length l2.length]:=Blk.of (ZP _ _ _ (by simp)) rfl
 refine⟨⟨_,_,rfl,Nat.le_refl _,⟨by simp[maxLen],fun h=>by cases h⟩,.inr ⟨_,0,rfl,fun i x hx=>?_⟩⟩,((ZB w _).alloc (by simp) _).alloc (by simp;omega) _⟩
 match i,hx with
 | 0,hx =>
  injection hx with hx
  subst hx
  exact⟨_,b3.cell 0,(ZA1 (f:=fun x:Int=>Value.int .i64 x) (R:=IntC) (fun _ _ _ _ h=>h) b1 (Nat.le_refl _) (Nat.le_refl _) rfl (Nat.lt_of_le_of_lt hs.1 (by decide))).mono (ZV _ _ _)⟩
 | 1,hx =>
  injection hx with hx
  subst hx
  exact⟨_,b3.cell 1,(ZA1 (f:=fun x:Int=>Value.int .i64 x) (R:=IntC) (fun _ _ _ _ h=>h) b2 (Nat.le_refl _) (Nat.le_refl _) rfl (Nat.lt_of_le_of_lt hs.2 (by decide))).mono (ZV _ _ _)⟩
set_option maxRecDepth 100000 in
set_option maxHeartbeats 1000000 in
theorem ZEB (s:ByteArray) (o y:Int) (w:World) (hy:y=1 - o) :
  Calls Tryd.prog 19 #[.string s,.int .i64 o,.int .i64 y] w fun e w'=>∃ nb,e=.returned (.agg #[.string s,.int .i64 0,.int .i64 1,.slice (some ⟨nb,0,none⟩) 4 4])∧Blk w' nb 61 ([dkS o,dkL o,fbM o,fbE].flatMap Node.cells)∧Below w.heap.size w w':=by
 have hb0:=ZB w (.cells #[.string ⟨#[]⟩,.int .i64 0,.int .i64 0,.slice none 0 0] 38)
 go_enter Tryd.func19,Tryd.ntmps19
 go_wp2_with (refine ZO 38 rfl ?_)
 refine Stop.intro ?_
 have hz:=(Blk.new w 38 [.string ⟨#[]⟩,.int .i64 0,.int .i64 0,.slice none 0 0]).alloc (.cells ([dkS o,dkL o,fbM o,fbE].flatMap Node.cells).toArray 61)
 have hn:Blk ((w.alloc (.cells #[.string ⟨#[]⟩,.int .i64 0,.int .i64 0,.slice none 0 0] 38)).alloc (.cells ([dkS o,dkL o,fbM o,fbE].flatMap Node.cells).toArray 61)) (w.heap.size+1) 61 ([dkS o,dkL o,fbM o,fbE].flatMap Node.cells):=Blk.of (ZP _ _ _ (by simp)) rfl
 have hb1:=hb0.alloc (by simp) (.cells ([dkS o,dkL o,fbM o,fbE].flatMap Node.cells).toArray 61)
 change wpList _ _ _ _ _ ((w.alloc (.cells #[.string ⟨#[]⟩,.int .i64 0,.int .i64 0,.slice none 0 0] 38)).alloc (.cells ([dkS o,dkL o,fbM o,fbE].flatMap Node.cells).toArray 61))
 obtain⟨W1,hW1⟩ : ∃ W1:World,(w.alloc (.cells #[.string ⟨#[]⟩,.int .i64 0,.int .i64 0,.slice none 0 0] 38)).alloc (.cells ([dkS o,dkL o,fbM o,fbE].flatMap Node.cells).toArray 61)=W1:=⟨_,rfl⟩
 have hz:Blk W1 w.heap.size 38 [.string ⟨#[]⟩,.int .i64 0,.int .i64 0,.slice none 0 0]:=by rw[← hW1];exact hz
 rw[hW1] at hn hb1 ⊢
 clear hW1 hb0
 refine wpList_store_row rfl 38 _ _ rfl w.heap.size #[.string s,.int .i64 0,.int .i64 1,.slice (some ⟨w.heap.size+1,0,none⟩) 4 4] rfl rfl 38 _ hz (by kernel_rfl) rfl (by simp[Value.oneCell']) ?_
 have hx:=Blk.setRow (cs':=[.string s,.int .i64 0,.int .i64 1,.slice (some ⟨w.heap.size+1,0,none⟩) 4 4]) hz
 have hn2:Blk (W1.setRow w.heap.size #[.string s,.int .i64 0,.int .i64 1,.slice (some ⟨w.heap.size+1,0,none⟩) 4 4]) (w.heap.size+1) 61 ([dkS o,dkL o,fbM o,fbE].flatMap Node.cells):=(Ze (w:=W1) (g:=w.heap.size) (b:=w.heap.size+1) (by omega) _).trans hn
 have hb2:=ZBU hb1 (Nat.le_refl _) #[.string s,.int .i64 0,.int .i64 1,.slice (some ⟨w.heap.size+1,0,none⟩) 4 4]
 obtain⟨W2,hW2⟩ : ∃ W2:World,W1.setRow w.heap.size #[.string s,.int .i64 0,.int .i64 1,.slice (some ⟨w.heap.size+1,0,none⟩) 4 4]=W2:=⟨_,rfl⟩
 rw[hW2] at hx hn2 hb2 ⊢
 have u0:=hx.cell 0
 have u1:=hx.cell 1
 have u2:=hx.cell 2
 have u3:=hx.cell 3
 have v0:=hx.frozen 0
 have v1:=hx.frozen 1
 have v2:=hx.frozen 2
 have v3:=hx.frozen 3
 have hul:=hx.lt
 clear hz hn hb1 hW2
 go_wp2_with (fail)
 refine bodyPost_ret (v:=.agg #[.string s,.int .i64 0,.int .i64 1,.slice (some ⟨w.heap.size+1,0,none⟩) 4 4]) (by simp[results,Tryd.results19,go_sem,u0,u1,u2,u3,hul]) rfl ⟨_,rfl,hn2,hb2⟩
theorem ZJn {w:World} {na nb xb gb:Nat} {T1 T2 T3:TypeId} (ha:Blk w na T1 ([dkS 0,dkL 0,fbM 0,fbE].flatMap Node.cells)) (hb:Blk w nb T1 ([dkS 1,dkL 1,fbM 1,fbE].flatMap Node.cells)) (hx:Blk w xb T2 [.string ⟨#[120]⟩,.int .i64 0,.int .i64 0,.string ⟨#[121]⟩,.int .i64 0,.int .i64 0])
  (hg:Blk w gb T3 [.string ⟨#[97]⟩,.int .i64 0,.int .i64 1,.slice (some ⟨na,0,none⟩) 4 4,.string ⟨#[98]⟩,.int .i64 0,.int .i64 1,.slice (some ⟨nb,0,none⟩) 4 4]) :
  UnitV (cmap w) [.slice (some ⟨xb,0,none⟩) 2 2,.slice none 0 0,.slice (some ⟨gb,0,none⟩) 2 2] fbU:=by
 refine⟨_,_,_,rfl,ZHD hx,⟨none,0,rfl,by simp[fbU],⟨by simp[maxLen],fun _=>rfl⟩,.inl rfl⟩,⟨_,_,rfl,Nat.le_refl _,⟨by simp[maxLen],fun h=>by cases h⟩,.inr ⟨gb,0,rfl,fun i x hx=>?_⟩⟩⟩
 match i,hx with
 | 0,hx =>
  simp[fbU] at hx
  subst hx
  refine⟨_,⟨_,rfl,ZDo ha 4 rfl (by decide)⟩,fun j v hv=>?_⟩
  match j,hv with
  | 0,hv=>simp at hv;subst hv;exact hg.cell 0
  | 1,hv=>simp at hv;subst hv;exact hg.cell 1
  | 2,hv=>simp at hv;subst hv;exact hg.cell 2
  | 3,hv=>simp at hv;subst hv;exact hg.cell 3
 | 1,hx =>
  simp[fbU] at hx
  subst hx
  refine⟨_,⟨_,rfl,ZDo hb 4 rfl (by decide)⟩,fun j v hv=>?_⟩
  match j,hv with
  | 0,hv=>simp at hv;subst hv;exact hg.cell 4
  | 1,hv=>simp at hv;subst hv;exact hg.cell 5
  | 2,hv=>simp at hv;subst hv;exact hg.cell 6
  | 3,hv=>simp at hv;subst hv;exact hg.cell 7
structure FbI (w wr:World) (X na nb db gb:Nat) : Prop where
 u:UnitV (cmap wr) [.slice (some ⟨db,0,none⟩) 2 2,.slice none 0 0,.slice (some ⟨gb,0,none⟩) 2 2] fbU
 x:Blk wr X 25 [.slice (some ⟨db,0,none⟩) 2 2,.slice none 0 0,.slice (some ⟨gb,0,none⟩) 2 2]
 b:Below w.heap.size w wr
theorem FbI.below {w wr wx:World} {X na nb db gb:Nat} (h:FbI w wr X na nb db gb) (hb:Below wr.heap.size wr wx) : FbI w wx X na nb db gb:=⟨h.u.mono (ZA hb),h.x.below hb h.x.lt,h.b.trans (hb.mono h.b.size)⟩
theorem ZEf (w:World) (c:List Value) (l:List Int) (n:Nat) (h:c=ints l) (hn:n=l.length) (hs:n≤1000) : Ints (cmap (w.alloc (.cells c.toArray 3))) (.slice (some ⟨w.heap.size,0,none⟩) n n) l:=by
 subst h hn
 exact(ZA1 (f:=fun x:Int=>Value.int .i64 x) (R:=IntC) (fun _ _ _ _ h=>h) (Blk.new w 3 (ints l)) (Nat.le_refl _) (Nat.le_refl _) rfl (Nat.lt_of_le_of_lt hs (by decide))).mono (ZV _ _ _)
theorem ZGG {u:Unit_} {m:Bool} {w w':World} {e:Ending} {L:List (List Int)} (hL:placeR u m=(L,0)) (hs:L.length < 4294967296) (h:PlacePost u m w e w') : ∃ v,e=.returned (.tuple #[v,.int .i64 0])∧Below w.heap.size w w'∧Ints2 (cmap w') v L:=by
 obtain⟨v,rfl,hb,h⟩:=h
 rcases h with⟨h1,_⟩ | ⟨X,vs,_,h1,rfl,hX,hr⟩
 ·rw[hL] at h1
  injection h1 with _ h1
  cases h1
 ·rw[hL] at h1 ⊢
  injection h1 with h1 _
  rw[← h1] at hr
  have hl:L.length=u.graphs.length:=by rw[h1];exact Zr _ _ _
  have:=hr.sl hX hs
  rw[hl] at this
  exact⟨_,rfl,hb,this.mono (ZV _ _ _)⟩
set_option maxRecDepth 100000 in
set_option maxHeartbeats 2000000 in
theorem Z7 (w:World) (hT:Tab w) : Calls Tryd.prog 7 #[] w fun e w'=>e=.returned (.bool true)∧Below w.heap.size w w':=by
 have HT:=Hd_ hT
 have hb0:=ZB w (.cells #[.string ⟨#[120]⟩,.int .i64 0,.int .i64 0,.string ⟨#[121]⟩,.int .i64 0,.int .i64 0] 66)
 have hx0:=Blk.new w 66 [.string ⟨#[120]⟩,.int .i64 0,.int .i64 0,.string ⟨#[121]⟩,.int .i64 0,.int .i64 0]
 have H0:=Hd_ (And.intro hb0 hx0)
 clear hb0 hx0 hT
 go_enter Tryd.func7,Tryd.ntmps7
 go_wp2_with (fail)
 refine(ZEB ⟨#[97]⟩ 0 1 _ rfl).mono ?_
 rintro e w1 ⟨na,rfl,hna,hb1⟩
 have H1:=Hd_ (And.intro hna (And.intro (H0.out.1.trans (hb1.mono H0.out.1.size)) (H0.out.2.below hb1 H0.out.2.lt)))
 clear hna hb1 H0
 go_wp2_with (fail)
 refine(ZEB ⟨#[98]⟩ 1 0 _ rfl).mono ?_
 rintro e w2 ⟨nb,rfl,hnb,hb2⟩
 have H2:=Hd_ (And.intro hnb (And.intro (H1.out.1.below hb2 H1.out.1.lt) (And.intro (H1.out.2.1.trans (hb2.mono H1.out.2.1.size)) (H1.out.2.2.below hb2 H1.out.2.2.lt))))
 clear hnb hb2 H1
 go_wp2_with (refine ZO 25 rfl ?_)
 refine Stop.intro ?_
 have hg3:=Blk.new w2 38 [.string ⟨#[97]⟩,.int .i64 0,.int .i64 1,.slice (some ⟨na,0,none⟩) 4 4,.string ⟨#[98]⟩,.int .i64 0,.int .i64 1,.slice (some ⟨nb,0,none⟩) 4 4]
 have hb3:=ZB w2 (.cells #[.string ⟨#[97]⟩,.int .i64 0,.int .i64 1,.slice (some ⟨na,0,none⟩) 4 4,.string ⟨#[98]⟩,.int .i64 0,.int .i64 1,.slice (some ⟨nb,0,none⟩) 4 4] 38)
 obtain⟨W3,hW3⟩ : ∃ W3:World,w2.alloc (.cells #[.string ⟨#[97]⟩,.int .i64 0,.int .i64 1,.slice (some ⟨na,0,none⟩) 4 4,.string ⟨#[98]⟩,.int .i64 0,.int .i64 1,.slice (some ⟨nb,0,none⟩) 4 4] 38)=W3:=⟨_,rfl⟩
 have hs3:W3.heap.size=w2.heap.size+1:=by rw[← hW3];simp
 rw[hW3] at hg3 hb3 ⊢
 rw[← hs3]
 refine wpList_store_row rfl 25 _ _ rfl W3.heap.size #[.slice (some ⟨w.heap.size,0,none⟩) 2 2,.slice none 0 0,.slice (some ⟨w2.heap.size,0,none⟩) 2 2] rfl rfl 25 _ (heap_alloc_new _ _) (by kernel_rfl) rfl (by simp[Value.oneCell']) ?_
 rw[World.setRow_alloc_new]
 have hxb:=Blk.new W3 25 [.slice (some ⟨w.heap.size,0,none⟩) 2 2,.slice none 0 0,.slice (some ⟨w2.heap.size,0,none⟩) 2 2]
 have hb4:=ZB W3 (.cells #[.slice (some ⟨w.heap.size,0,none⟩) 2 2,.slice none 0 0,.slice (some ⟨w2.heap.size,0,none⟩) 2 2] 25)
 obtain⟨X,hX⟩ : ∃ X,W3.heap.size=X:=⟨_,rfl⟩
 obtain⟨W4,hW4⟩ : ∃ W4:World,W3.alloc (.cells #[.slice (some ⟨w.heap.size,0,none⟩) 2 2,.slice none 0 0,.slice (some ⟨w2.heap.size,0,none⟩) 2 2] 25)=W4:=⟨_,rfl⟩
 rw[hW4] at hxb hb4 ⊢
 rw[hX] at hxb ⊢
 have hb24:=hb3.trans (hb4.mono hb3.size)
 have HI:Hid (FbI w W4 X na nb w.heap.size w2.heap.size):=Hd_ ⟨ZJn (H2.out.2.1.below hb24 H2.out.2.1.lt) (H2.out.1.below hb24 H2.out.1.lt) (H2.out.2.2.2.below hb24 H2.out.2.2.2.lt) (hg3.below hb4 hg3.lt),hxb,H2.out.2.2.1.trans (hb24.mono H2.out.2.2.1.size)⟩
 have x0:=hxb.cell 0
 have x1:=hxb.cell 1
 have x2:=hxb.cell 2
 clear hg3 hb3 hb4 hb24 hxb hW3 hW4 hX hs3
 go_wp2_with (fail)
 refine(ZA7 fbU _ false _ (HT.out.below HI.out.b) HI.out.u ZH8).mono ?_
 rintro e w5 h5
 obtain⟨av,rfl,hb5,ha5⟩:=ZGG ZH7 (by decide) h5
 obtain⟨aA,ac,rfl,-⟩:=id ha5
 have HA5:=Hd_ ha5
 have HI5:=Hd_ (HI.out.below hb5)
 have x0:=HI5.out.x.cell 0
 have x1:=HI5.out.x.cell 1
 have x2:=HI5.out.x.cell 2
 clear h5 hb5 ha5 HI
 go_wp2_with (fail)
 refine(ZA7 fbU _ true _ (HT.out.below HI5.out.b) HI5.out.u ZH8).mono ?_
 rintro e w6 h6
 obtain⟨bv,rfl,hb6,ha6⟩:=ZGG ZH6 (by decide) h6
 obtain⟨bA,bc,rfl,-⟩:=id ha6
 have HA6:=Hd_ (And.intro (HA5.out.mono (ZA hb6)) ha6)
 have HI6:=Hd_ (HI5.out.below hb6)
 have x0:=HI6.out.x.cell 0
 have x1:=HI6.out.x.cell 1
 have x2:=HI6.out.x.cell 2
 have hl7:=ZEf w6 [.int .i64 1] [1] 1 rfl rfl (by decide)
 have hb7:=ZB w6 (.cells #[.int .i64 1] 3)
 have HI7:=Hd_ (And.intro (HI6.out.below hb7) hl7)
 clear h6 hb6 ha6 HI5 HA5 hl7
 go_wp2_with (fail)
 refine(Z6 fbU _ 0 _ [1] 1 _ (HT.out.below HI7.out.1.b) HI7.out.1.u ZH8 HI7.out.2).mono ?_
 rintro e w8 ⟨rfl,hb8⟩
 rw[ZJo]
 have hb68:=hb7.trans (hb8.mono hb7.size)
 have HI8:=Hd_ (HI6.out.below hb68)
 have HA8:=Hd_ (And.intro (HA6.out.1.mono (ZA hb68)) (HA6.out.2.mono (ZA hb68)))
 have x0:=HI8.out.x.cell 0
 have x1:=HI8.out.x.cell 1
 have x2:=HI8.out.x.cell 2
 have hl9:=ZEf w8 [.int .i64 1] [1] 1 rfl rfl (by decide)
 have hb9:=ZB w8 (.cells #[.int .i64 1] 3)
 have HI9:=Hd_ (And.intro (HI8.out.below hb9) hl9)
 clear hb7 hb8 hb68 HI6 HI7 HA6 hl9
 go_wp2_with (fail)
 refine(ZAa fbU _ 0 _ [1] 1 _ (HT.out.below HI9.out.1.b) HI9.out.1.u ZH8 HI9.out.2).mono ?_
 rintro e w10 ⟨r,rfl,hr,hb10⟩
 rw[ZI5] at hr ⊢
 have hb810:=hb9.trans (hb10.mono hb9.size)
 have HI10:=Hd_ (HI8.out.below hb810)
 have hrl:Ints (cmap w10) r [0,1]:=Zv hr
 obtain⟨rA,rc,rfl,-⟩:=ZE hr
 have HA10:=Hd_ (And.intro (HA8.out.1.mono (ZA hb810)) (And.intro (HA8.out.2.mono (ZA hb810)) hrl))
 have x0:=HI10.out.x.cell 0
 have x1:=HI10.out.x.cell 1
 have x2:=HI10.out.x.cell 2
 clear hb9 hb10 hb810 HI8 HI9 HA8 hr hrl
 go_wp2_with (fail)
 refine(ZEF fbU _ _ [[1,2],[1,2]] _ HI10.out.u ZH8 HA10.out.1).mono ?_
 rintro e w11 ⟨rfl,hb11⟩
 rw[ZJq]
 have HI11:=Hd_ (HI10.out.b.trans (hb11.mono HI10.out.b.size))
 have HA11:=Hd_ (And.intro (HA10.out.1.mono (ZA hb11)) (And.intro (HA10.out.2.1.mono (ZA hb11)) (HA10.out.2.2.mono (ZA hb11))))
 obtain⟨hl12,hb12⟩:=lit2 w11 [.int .i64 1,.int .i64 2] [.int .i64 1,.int .i64 2] [1,2] [1,2] 2 2 rfl rfl rfl rfl (by decide)
 have HL12:=Hd_ (And.intro hl12 hb12)
 clear hb11 HI10 HA10 hl12 hb12
 go_wp2_with (fail)
 go_at_call 20
 refine(ZDQ _ _ [[1,2],[1,2]] _ (ZCu (HA11.out.1.mono (ZA HL12.out.2))) (ZCu HL12.out.1)).mono ?_
 rintro e w12 ⟨rfl,q,hq⟩
 have hb12:Below w11.heap.size w11 w12:=by rw[hq];exact below_drewN HL12.out.2 q
 have HI12:=Hd_ (HI11.out.trans (hb12.mono HI11.out.size))
 have HA12:=Hd_ (And.intro (HA11.out.2.1.mono (ZA hb12)) (HA11.out.2.2.mono (ZA hb12)))
 obtain⟨hl13,hb13⟩:=lit2 w12 [.int .i64 1] [.int .i64 1] [1] [1] 1 1 rfl rfl rfl rfl (by decide)
 have HL13:=Hd_ (And.intro hl13 hb13)
 clear hb12 HI11 HA11 hl13 hb13 HL12 hq
 go_wp2_with (fail)
 go_at_call 20
 refine(ZDQ _ _ [[1],[1]] _ (ZCu (HA12.out.1.mono (ZA HL13.out.2))) (ZCu HL13.out.1)).mono ?_
 rintro e w13 ⟨rfl,q,hq⟩
 have hb13:Below w12.heap.size w12 w13:=by rw[hq];exact below_drewN HL13.out.2 q
 have HI13:=Hd_ (HI12.out.trans (hb13.mono HI12.out.size))
 have HA13:=Hd_ (HA12.out.2.mono (ZA hb13))
 have hl14:=ZEf w13 [.int .i64 0,.int .i64 1] [0,1] 2 rfl rfl (by decide)
 have hb14:=ZB w13 (.cells #[.int .i64 0,.int .i64 1] 3)
 have HL14:=Hd_ (And.intro hl14 hb14)
 clear hb13 HI12 HA12 hl14 hb14 HL13 hq
 go_wp2_with (fail)
 go_at_call 21
 refine(ZFF _ _ [0,1] [0,1] _ (HA13.out.mono (ZA HL14.out.2)) HL14.out.1).mono ?_
 rintro e w14 ⟨rfl,q,hq⟩
 have hd:decide (([0,1] : List Int)=[0,1])=true:=decide_eq_true rfl
 rw[hd]
 have hb14:Below w13.heap.size w13 w14:=by rw[hq];exact below_drewN HL14.out.2 q
 have HI14:=Hd_ (HI13.out.trans (hb14.mono HI13.out.size))
 clear hb14 hq hd HL14 HA13 HI13
 go_wp2_with (fail)
 go_ret
 exact⟨rfl,HI14.out⟩
end Go.Proofs.YtffgnjgphkdodaaDoor
