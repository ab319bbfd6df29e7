import Derived.Test.YtffgnjgphkdodaaDoorD4
import Derived.Test.YtffgnjgphkdodaaDoorD1
import Derived.OpenShut
import Derived.Deep.Slices
import Derived.Deep.Fields
import Derived.ChangeSame
import Derived.Carry
namespace Go.Proofs.YtffgnjgphkdodaaDoor
open Go Go.RowKit Go.ChangeShapes Go.WideShapes Go.Deep
section
variable {H:Type} {enc:TypeId × Value→H} {P:Program} {w:World} {spare:Nat→Bool} {held:Bool}
theorem ZF4 {α:Type} {p:Nat→α→Prop} {n:Nat} (h:∀ i,i < n→∃ x,p i x) : ∃ xs:List α,xs.length=n∧∀ i x,xs[i]? = some x→p i x:=by
 induction n with
 | zero=>exact⟨[],rfl,fun i x h=>by simp at h⟩
 | succ n ih =>
  obtain⟨xs,h1,h2⟩:=ih (fun i hi=>h i (by omega))
  obtain⟨x,hx⟩:=h n (by omega)
  refine⟨xs ++ [x],by simp[h1],fun i y hy=>?_⟩
  rw[List.getElem?_append] at hy
  split at hy
  ·exact h2 i y hy
  ·rename_i hi
   have:i=n:=by
    have:=(List.getElem?_eq_some_iff.1 hy).1
    simp at this;omega
   subst this
   rw[h1,Nat.sub_self] at hy
   simp at hy
   subst hy
   exact hx
theorem ZDJ {α:Type} (RV:CM→List Value→α→Prop) (pok:α→Prop) {t e size:Nat} (ht:P.underlying t=some (.slice e)) (hC:P.cellsOf e=size) (hs:0 < size)
  (hel:∀ n cs' y,DataW.trod enc P w 0 spare held n e cs'=some y→∃ x,RV (cmap w) cs' x∧pok x) {fuel:Nat} {cs:List Value} {x:DataW H × List MemPlace} (h:DataW.trod enc P w 0 spare held fuel t cs=some x) :
  ∃ v xs,cs=[v]∧Sl (Cells RV) size (cmap w) v xs∧∀ x∈xs,pok x:=by
 rcases open_slice ht h with⟨rfl,_⟩ | ⟨a,len,cap,m,n,D,Pl,rfl,_,hl,hm,hmm,_,hi⟩
 ·exact⟨_,[],rfl,⟨none,0,rfl,by simp,⟨by simp[maxLen],fun _=>rfl⟩,.inl rfl⟩,fun x hx=>by cases hx⟩
 ·have hml:len≤m:=by rw[hmm];split <;> omega
  obtain⟨xs,h1,h2⟩:=ZF4 (n:=len) (p:=fun i x=>∃ cs',w.cells? 0 (a.add (i * P.cellsOf e)) (P.cellsOf e)=some cs'∧RV (cmap w) cs' x∧pok x) (fun i hil=>by
   obtain⟨cs',k1,k2⟩:=hi i (by omega)
   obtain⟨x,k3,k4⟩:=hel n cs' _ k2
   exact⟨x,cs',k1,k3,k4⟩)
  refine⟨_,xs,rfl,⟨some a,cap,by rw[h1],by omega,⟨hm,fun h=>by cases h⟩,?_⟩,fun x hx=>?_⟩
  ·cases hxs:xs with
   | nil=>exact .inl rfl
   | cons x0 rest =>
    obtain⟨cs0,k1,_⟩:=h2 0 x0 (by rw[hxs];rfl)
    obtain⟨_,hcl,hat⟩:=World.cells?_some k1
    have hc0:=hat 0 (by omega)
    rw[Nat.zero_mul] at hc0
    obtain⟨b,o,s⟩:=a
    have hlt:0 < cs0.length:=by omega
    rw[List.getElem?_eq_getElem hlt] at hc0
    have hspot:s=none:=by simpa [Addr.add] using World.cell?_spot hc0
    subst hspot
    ·refine .inr ⟨b,o,rfl,fun i x hx=>?_⟩
     obtain⟨cs',q1,q2,_⟩:=h2 i x (by rw[hxs];exact hx)
     obtain⟨_,hcl2,hat2⟩:=World.cells?_some q1
     refine⟨cs',q2,fun j v hv=>?_⟩
     have hj:=(List.getElem?_eq_some_iff.1 hv).1
     have:=hat2 j (by omega)
     rw[hC,ZDn,ZDn,hv] at this
     exact this
  ·obtain⟨i,hx⟩:=List.getElem?_of_mem hx
   obtain⟨_,_,_,q⟩:=h2 i x hx
   exact q
end
section
variable {H:Type} {enc:TypeId × Value→H} {w:World} {spare:Nat→Bool} {held:Bool}
theorem ZG3 {α:Type} {l:List α} (h:l.length=3) : ∃ a0 a1 a2,l=[a0,a1,a2]:=by
 match l,h with
 | [a0,a1,a2],_=>exact⟨a0,a1,a2,rfl⟩
theorem list4 {α:Type} {l:List α} (h:l.length=4) : ∃ a0 a1 a2 a3,l=[a0,a1,a2,a3]:=by
 match l,h with
 | [a0,a1,a2,a3],_=>exact⟨a0,a1,a2,a3,rfl⟩
theorem list9 {α:Type} {l:List α} (h:l.length=9) : ∃ a0 a1 a2 a3 a4 a5 a6 a7 a8,l=[a0,a1,a2,a3,a4,a5,a6,a7,a8]:=by
 match l,h with
 | [a0,a1,a2,a3,a4,a5,a6,a7,a8],_=>exact⟨a0,a1,a2,a3,a4,a5,a6,a7,a8,rfl⟩
theorem list13 {α:Type} {l:List α} (h:l.length=13) : ∃ a0 a1 a2 a3 a4 a5 a6 a7 a8 a9 a10 a11 a12,l=[a0,a1,a2,a3,a4,a5,a6,a7,a8,a9,a10,a11,a12]:=by
 match l,h with
 | [a0,a1,a2,a3,a4,a5,a6,a7,a8,a9,a10,a11,a12],_=>exact⟨a0,a1,a2,a3,a4,a5,a6,a7,a8,a9,a10,a11,a12,rfl⟩
theorem ZJM : Tryd.prog.cellsOf 9 = 1:=by kernel_rfl
theorem ZFT : Tryd.prog.cellsOf 3 = 1:=by kernel_rfl
theorem ZJN : Tryd.prog.cellsOf 2 = 1:=by kernel_rfl
theorem ZJx : Tryd.prog.cellsOf 4 = 1:=by kernel_rfl
theorem ZJw : Tryd.prog.cellsOf 56 = 1:=by kernel_rfl
theorem c1_op : Tryd.prog.cellsOf 57 = 1:=by kernel_rfl
theorem ZJL : Tryd.prog.cellsOf 59 = 3:=by kernel_rfl
theorem ZGX : Tryd.prog.cellsOf 61 = 13:=by kernel_rfl
theorem ZJC : Tryd.prog.cellsOf 36 = 1:=by kernel_rfl
theorem ZF5 : Tryd.prog.cellsOf 66 = 3:=by kernel_rfl
theorem ZGW : Tryd.prog.cellsOf 38 = 4:=by kernel_rfl
theorem ZJD : Tryd.prog.cellsOf 22 = 1:=by kernel_rfl
theorem ZIT : Tryd.prog.cellsOf 23 = 1:=by kernel_rfl
theorem ZJv : Tryd.prog.cellsOf 25 = 3:=by kernel_rfl
def declO (_:CM) (cs:List Value) (d:Decl) : Prop:=cs=[.string d.name,.int .i64 d.word,.int .i64 d.at_]
theorem ZFB {n:Nat} {cs:List Value} {y:DataW H × List MemPlace} (h:DataW.trod enc Tryd.prog w 0 spare held n 66 cs=some y) : ∃ d,declO (cmap w) cs d:=by
 obtain⟨xs,m,_,_,hlen,hxl,hf⟩:=DataW.trod_struct Tryd.underlying66 h
 replace hlen:=hlen.trans ZF5
 obtain⟨c0,c1,c2,rfl⟩:=ZG3 hlen
 obtain⟨y0,y1,y2,rfl⟩:=ZG3 hxl
 have f0:=hf 0 _ rfl
 have f1:=hf 1 _ rfl
 have f2:=hf 2 _ rfl
 simp only[List.getElem_toArray,List.getElem_cons_zero,List.getElem_cons_succ,ZJM,ZFT,ZJN] at f0 f1 f2
 obtain⟨s0,e0,_⟩:=DataW.trod_string Tryd.underlying9 f0
 obtain⟨s1,e1,_⟩:=DataW.trod_int Tryd.underlying2 f1
 obtain⟨s2,e2,_⟩:=DataW.trod_int Tryd.underlying3 f2
 simp at e0 e1 e2
 subst e0 e1 e2
 exact⟨⟨s0,s1,s2⟩,rfl⟩
theorem ZGJ {n:Nat} {cs:List Value} {y:DataW H × List MemPlace} (h:DataW.trod enc Tryd.prog w 0 spare held n 59 cs=some y) : ∃ v:Val,cs=[.bool v.isSlot,.int .i64 v.slot,.int .i64 v.word]∧v.ok:=by
 obtain⟨xs,m,_,_,hlen,hxl,hf⟩:=DataW.trod_struct Tryd.underlying59 h
 replace hlen:=hlen.trans ZJL
 obtain⟨c0,c1,c2,rfl⟩:=ZG3 hlen
 obtain⟨y0,y1,y2,rfl⟩:=ZG3 hxl
 have f0:=hf 0 _ rfl
 have f1:=hf 1 _ rfl
 have f2:=hf 2 _ rfl
 simp only[List.getElem_toArray,List.getElem_cons_zero,List.getElem_cons_succ,ZJx,ZFT,ZJN] at f0 f1 f2
 obtain⟨s0,e0,_⟩:=DataW.trod_bool Tryd.underlying4 f0
 obtain⟨s1,e1,_,w1⟩:=DataW.trod_int Tryd.underlying3 f1
 obtain⟨s2,e2,_,w2⟩:=DataW.trod_int Tryd.underlying2 f2
 simp at e0 e1 e2
 subst e0 e1 e2
 exact⟨⟨s0,s1,s2⟩,rfl,bounds_i64 w1,bounds_i64 w2⟩
def nodeO (_:CM) (cs:List Value) (n:Node) : Prop:=cs=n.cells
set_option maxHeartbeats 1000000 in
theorem ZHg {n:Nat} {cs:List Value} {y:DataW H × List MemPlace} (h:DataW.trod enc Tryd.prog w 0 spare held n 61 cs=some y) : ∃ d,nodeO (cmap w) cs d∧d.ok:=by
 obtain⟨xs,m,_,_,hlen,hxl,hf⟩:=DataW.trod_struct Tryd.underlying61 h
 replace hlen:=hlen.trans ZGX
 obtain⟨c0,c1,c2,c3,c4,c5,c6,c7,c8,c9,c10,c11,c12,rfl⟩:=list13 hlen
 obtain⟨y0,y1,y2,y3,y4,y5,y6,y7,y8,rfl⟩:=list9 hxl
 have f0:=hf 0 _ rfl
 have f1:=hf 1 _ rfl
 have f2:=hf 2 _ rfl
 have f3:=hf 3 _ rfl
 have f4:=hf 4 _ rfl
 have f5:=hf 5 _ rfl
 have f6:=hf 6 _ rfl
 have f7:=hf 7 _ rfl
 have f8:=hf 8 _ rfl
 simp only[List.getElem_toArray,List.getElem_cons_zero,List.getElem_cons_succ,ZJw,c1_op,ZFT,ZJL] at f0 f1 f2 f3 f4 f5 f6 f7 f8
 obtain⟨s0,e0,_,w0⟩:=DataW.trod_int Tryd.underlying56 f0
 obtain⟨s1,e1,_,w1⟩:=DataW.trod_int Tryd.underlying57 f1
 obtain⟨s2,e2,_,w2⟩:=DataW.trod_int Tryd.underlying3 f2
 obtain⟨s3,e3,_,w3⟩:=DataW.trod_int Tryd.underlying3 f3
 obtain⟨s4,e4,w4⟩:=ZGJ f4
 obtain⟨s5,e5,w5⟩:=ZGJ f5
 obtain⟨s6,e6,_,w6⟩:=DataW.trod_int Tryd.underlying3 f6
 obtain⟨s7,e7,_,w7⟩:=DataW.trod_int Tryd.underlying3 f7
 obtain⟨s8,e8,_,w8⟩:=DataW.trod_int Tryd.underlying3 f8
 simp at e0 e1 e2 e3 e4 e5 e6 e7 e8
 obtain⟨e4a,e4b,e4c⟩:=e4
 obtain⟨e5a,e5b,e5c⟩:=e5
 subst e0 e1 e2 e3 e4a e4b e4c e5a e5b e5c e6 e7 e8
 exact⟨⟨s0,s1,s2,s3,s4,s5,s6,s7,s8⟩,rfl,bounds_u8 w0,bounds_u8 w1,bounds_i64 w2,bounds_i64 w3,w4,w5,bounds_i64 w6,bounds_i64 w7,bounds_i64 w8⟩
def graphO (m:CM) (cs:List Value) (g:Graph) : Prop:=GraphV m cs g
theorem ZGr {n:Nat} {cs:List Value} {y:DataW H × List MemPlace} (h:DataW.trod enc Tryd.prog w 0 spare held n 38 cs=some y) : ∃ g,graphO (cmap w) cs g∧∀ n∈g.nodes,n.ok:=by
 obtain⟨xs,m,_,_,hlen,hxl,hf⟩:=DataW.trod_struct Tryd.underlying38 h
 replace hlen:=hlen.trans ZGW
 obtain⟨c0,c1,c2,c3,rfl⟩:=list4 hlen
 obtain⟨y0,y1,y2,y3,rfl⟩:=list4 hxl
 have f0:=hf 0 _ rfl
 have f1:=hf 1 _ rfl
 have f2:=hf 2 _ rfl
 have f3:=hf 3 _ rfl
 simp only[List.getElem_toArray,List.getElem_cons_zero,List.getElem_cons_succ,ZJM,ZFT,ZJC] at f0 f1 f2 f3
 obtain⟨s0,e0,_⟩:=DataW.trod_string Tryd.underlying9 f0
 obtain⟨s1,e1,_⟩:=DataW.trod_int Tryd.underlying3 f1
 obtain⟨s2,e2,_⟩:=DataW.trod_int Tryd.underlying3 f2
 obtain⟨v,ns,e3,hn,hok⟩:=ZDJ nodeO Node.ok Tryd.underlying36 ZGX (by decide) (fun n cs' y hy=>ZHg hy) f3
 simp at e0 e1 e2 e3
 subst e0 e1 e2 e3
 exact⟨⟨s0,s1,s2,ns⟩,⟨_,rfl,hn.imp' fun m b o x hx=>ZBJ hx⟩,hok⟩
set_option maxRecDepth 100000 in
theorem ZB6 {base:Nat} {r:Reach} {v:Value} {d:DataW H} {p:List MemPlace} (hv:Value.okWide Tryd.prog w r base 25 v) (h:DataW.Trod enc Tryd.prog w 0 spare held 25 v d p) :
  ∃ cs u,v=.agg cs.toArray∧UnitV (cmap w) cs u∧UOk u:=by
 obtain⟨cs,rfl,hsz⟩:=okWide_struct Tryd.underlying25 hv
 have hsz1:cs.size=3:=Eq.trans hsz ZJv
 have hsz2:cs.toList.length=3:=Array.length_toList.trans hsz1
 clear hsz hv
 obtain⟨fuel,hf0⟩:=h
 obtain⟨xs,m,_,_,hlen,hxl,hf⟩:=DataW.trod_struct Tryd.underlying25 hf0
 clear hlen hf0
 obtain⟨c0,c1,c2,hl⟩:=ZG3 hsz2
 obtain rfl:cs=#[c0,c1,c2]:=by rw[← Array.toArray_toList (xs:=cs),hl]
 obtain⟨y0,y1,y2,rfl⟩:=ZG3 hxl
 have f0:=hf 0 _ rfl
 have f1:=hf 1 _ rfl
 have f2:=hf 2 _ rfl
 simp only[List.getElem_toArray,List.getElem_cons_zero,List.getElem_cons_succ,ZJD,ZIT] at f0 f1 f2
 obtain⟨v0,d0,e0,h0,_⟩:=ZDJ declO (fun _=>True) Tryd.underlying22 ZF5 (by decide) (fun n cs' y hy=>by obtain⟨d,h⟩:=ZFB hy;exact⟨d,h,trivial⟩) f0
 obtain⟨v1,d1,e1,h1,_⟩:=ZDJ declO (fun _=>True) Tryd.underlying22 ZF5 (by decide) (fun n cs' y hy=>by obtain⟨d,h⟩:=ZFB hy;exact⟨d,h,trivial⟩) f1
 obtain⟨v2,g2,e2,h2,hok⟩:=ZDJ graphO (fun g=>∀ n∈g.nodes,n.ok) Tryd.underlying23 ZGW (by decide) (fun n cs' y hy=>ZGr hy) f2
 simp[Value.cells] at e0 e1 e2
 subst e0 e1 e2
 have dcl:∀ {v:Value} {ds:List Decl},Sl (Cells declO) 3 (cmap w) v ds→Decls (cmap w) v ds:=fun h=>h.imp' fun m b o x hx=>by
  obtain⟨cs,rfl,h2⟩:=hx
  exact⟨h2 0 _ rfl,h2 1 _ rfl,h2 2 _ rfl⟩
 exact⟨[c0,c1,c2],⟨d0,d1,g2⟩,rfl,⟨_,_,_,rfl,dcl h0,dcl h1,h2⟩,hok⟩
end
end Go.Proofs.YtffgnjgphkdodaaDoor
