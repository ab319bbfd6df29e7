import Derived.Test.YtffgnjgphkdodaaGreatDoorR20
import Derived.Test.YtffgnjgphkdodaaGreatDoorR4
import Derived.Test.YtffgnjgphkdodaaGreatDoorR3
import Derived.Test.YtffgnjgphkdodaaGreatDoorR14
import Derived.Test.YtffgnjgphkdodaaGreatDoorR5
import Derived.Laws.StructEq
import Derived.Test.YtffgnjgphkdodaaGreatDoorR1
import Derived.OpenShut
import Derived.Deep.Slices
import Derived.Deep.Fields
import Derived.ChangeSame
import Derived.Carry
namespace Go.Proofs.YtffgnjgphkdodaaGreatDoor
open Go Go.RowKit
def FenAll (u:Unit_) (L:List (List Int)) : Prop:=∀ (t:Nat) (g:Graph) (l:List Int),u.graphs[t]? = some g→L[t]? = some l→fenB g.nodes.length (-1) l=true
def v0:Val:=⟨false,0,0⟩
def nd (k next origin:Int) : Node:=⟨k,0,0,0,v0,v0,next,0,origin⟩
def nodesA:List Node:=[nd 5 1 0,nd 3 2 1,nd 6 3 2,nd 9 0 3]
def nodesB:List Node:=[nd 3 1 0,nd 9 0 1]
def strA:ByteArray:=⟨#[97]⟩
def strB:ByteArray:=⟨#[98]⟩
def strX:ByteArray:=⟨#[120]⟩
def strL:ByteArray:=⟨#[108]⟩
def twoU (nb:List Node) : Unit_:=⟨[⟨strX,0,0⟩],[⟨strL,0,0⟩],[⟨strA,0,0,nodesA⟩,⟨strB,0,0,nb⟩]⟩
structure TwoMem (w:World) (gb ba bb xb lb:Nat) (nbv:Value) : Prop where
 a:Blk w ba 66 (nodesA.flatMap Node.cells)
 b:Blk w bb 66 (nodesB.flatMap Node.cells)
 x:Blk w xb 118 [.string strX,.int .i64 0,.int .i64 0]
 l:Blk w lb 118 [.string strL,.int .i64 0,.int .i64 0]
 g:Blk w gb 69 [.string strA,.int .i64 0,.int .i64 0,.slice (some ⟨ba,0,none⟩) 4 4,.string strB,.int .i64 0,.int .i64 0,nbv]
theorem TwoMem.below {w w':World} {gb ba bb xb lb:Nat} {nbv:Value} (h:TwoMem w gb ba bb xb lb nbv) (hb:Below w.heap.size w w') : TwoMem w' gb ba bb xb lb nbv :=
 ⟨h.a.below hb h.a.lt,h.b.below hb h.b.lt,h.x.below hb h.x.lt,h.l.below hb h.l.lt,h.g.below hb h.g.lt⟩
theorem ZEB {w:World} {b:Nat} {t:TypeId} {ns:List Node} (h:Blk w b t (ns.flatMap Node.cells)) (n:Nat) (hn:n=ns.length) (hl:n≤1000) : Nodes (cmap w) (.slice (some ⟨b,0,none⟩) n n) ns:=by
 subst hn
 refine⟨_,_,rfl,Nat.le_refl _,⟨by simp only[maxLen];omega,fun h=>by cases h⟩,.inr ⟨b,0,rfl,fun i x hx j v hv=>?_⟩⟩
 show w.cell? ⟨b,0+i * 13+j,none⟩=some v
 rw[Nat.zero_add,h.cell,List.flatMap_def]
 refine ZCe (ns.map Node.cells) 13 i x.cells (fun r hr=>?_) ?_ j v hv
 ·obtain⟨q,_,rfl⟩:=List.mem_map.1 hr;rfl
 ·rw[List.getElem?_map,hx];rfl
theorem ZGW {w:World} {b:Nat} {t:TypeId} {s:ByteArray} (h:Blk w b t [.string s,.int .i64 0,.int .i64 0]) : Decls (cmap w) (.slice (some ⟨b,0,none⟩) 1 1) [⟨s,0,0⟩]:=by
 refine⟨_,_,rfl,Nat.le_refl _,⟨by simp[maxLen],fun h=>by cases h⟩,.inr ⟨b,0,rfl,fun i x hx=>?_⟩⟩
 match i,hx with
 | 0,hx =>
  simp at hx
  subst hx
  exact⟨h.cell 0,h.cell 1,h.cell 2⟩
theorem TwoMem.unit {w:World} {gb ba bb xb lb:Nat} {nbv:Value} {nb:List Node} (h:TwoMem w gb ba bb xb lb nbv) (hn:Nodes (cmap w) nbv nb) :
  UnitV (cmap w) [.slice (some ⟨xb,0,none⟩) 1 1,.slice (some ⟨lb,0,none⟩) 1 1,.slice (some ⟨gb,0,none⟩) 2 2] (twoU nb):=by
 refine⟨_,_,_,rfl,ZGW h.x,ZGW h.l,⟨_,_,rfl,Nat.le_refl _,⟨by simp[maxLen],fun h=>by cases h⟩,.inr ⟨gb,0,rfl,fun i x hx=>?_⟩⟩⟩
 match i,hx with
 | 0,hx =>
  simp[twoU] at hx
  subst hx
  refine⟨_,⟨_,rfl,ZEB h.a 4 rfl (by decide)⟩,fun j v hv=>?_⟩
  have hj:=(List.getElem?_eq_some_iff.1 hv).1
  match j,hv with
  | 0,hv=>simp at hv;subst hv;exact h.g.cell 0
  | 1,hv=>simp at hv;subst hv;exact h.g.cell 1
  | 2,hv=>simp at hv;subst hv;exact h.g.cell 2
  | 3,hv=>simp at hv;subst hv;exact h.g.cell 3
 | 1,hx =>
  simp[twoU] at hx
  subst hx
  refine⟨_,⟨_,rfl,hn⟩,fun j v hv=>?_⟩
  match j,hv with
  | 0,hv=>simp at hv;subst hv;exact h.g.cell 4
  | 1,hv=>simp at hv;subst hv;exact h.g.cell 5
  | 2,hv=>simp at hv;subst hv;exact h.g.cell 6
  | 3,hv=>simp at hv;subst hv;exact h.g.cell 7
def gA:Graph:=⟨strA,0,0,nodesA⟩
def dkz:Val:=⟨false,0,0⟩
def dkS (o:Int) : Node:=⟨3,0,0,o,⟨false,0,1⟩,dkz,1,0,0⟩
def dkL (o:Int) : Node:=⟨2,0,0,1 - o,dkz,dkz,2,0,1⟩
theorem ZJU:i64 0∧i64 1∧i64 2:=by unfold i64;omega
section
variable (s:ByteArray) (o:Int)
end
section
variable {s:ByteArray} {o:Int}
end
theorem ZHf {u:Unit_} {m:CM} {A:Option Addr} {n c:Nat} (h:Clss m (.slice A n c) ((List.range u.shared.length).map fun x:Nat=>classF u (x:Int))) {k:Nat} (hk:k < u.shared.length) : ∃ b o,A=some ⟨b,o,none⟩∧m b (o+k * 3)=some (.int .u8 (classF u (k:Int)).kind):=by
 obtain⟨b,o,rfl,cs,rfl,hc⟩:=h.at_ (i:=k) (x:=classF u (k:Int)) (by rw[List.getElem?_map,List.getElem?_range hk];rfl)
 exact⟨b,o,rfl,by have:=hc 0 _ rfl;simpa using this⟩
set_option maxHeartbeats 1000000 in
theorem ZFm (u:Unit_) (n:Node) (cv:Value) (w:World) (hcl:Clss (cmap w) cv ((List.range u.shared.length).map fun x:Nat=>classF u (x:Int))) (hth:n.kind=3→0≤n.thing∧n.thing < u.shared.length) :
  Calls Tryz.prog 33 #[cv,.agg n.cells.toArray] w fun e w'=>e=.returned (.bool (stB u n))∧Below w.heap.size w w':=by
 obtain⟨A,c,rfl,-⟩:=id hcl
 have hlen:=hcl.len
 simp only[List.length_map,List.length_range] at hlen
 obtain⟨r,hr⟩ : ∃ r,stB u n=r:=⟨_,rfl⟩
 rw[hr]
 unfold stB at hr
 simp only[List.length_map,List.length_range]
 by_cases h6:n.kind=6
 ·have d6:(n.kind == 6)=true:=by simp[h6]
  obtain rfl:r=true:=by rw[← hr];exact decide_eq_true (.inl h6)
  unfold Node.cells
  clear hr hth hcl h6
  go_enter Tryz.func33,Tryz.ntmps33
  go_wp2
  go_ret
  exact⟨rfl,ZE _ _⟩
 ·have d6:(n.kind == 6)=false:=by simp[h6]
  by_cases h3:n.kind=3
  ·have d3:(n.kind == 3)=true:=by simp[h3]
   obtain⟨t0,t1⟩:=hth h3
   obtain⟨k,hk⟩:=Int.eq_ofNat_of_zero_le t0
   rw[hk] at t1 hr
   obtain⟨b,o,rfl,hc⟩:=ZHf hcl (k:=k) (by omega)
   have hc':w.cell? ⟨b,o+k * 3,none⟩=some (.int .u8 (classF u (k:Int)).kind):=hc
   obtain⟨kd,hkd⟩ : ∃ kd,(classF u (k:Int)).kind=kd:=⟨_,rfl⟩
   rw[hkd] at hc' hr
   have hr2:r=(kd == 3):=by
    rw[← hr,Bool.eq_iff_iff]
    simp[h3]
   subst hr2
   unfold Node.cells
   rw[hk]
   have k0:(0:Int)≤k:=by omega
   have hbl:=World.block_lt_of_cell? _ _ hc'
   simp only at hbl
   clear hr hth hcl h6 h3 hc hk t0
   cases hd:(kd == 3) with
   | true =>
    go_enter Tryz.func33,Tryz.ntmps33
    go_wp2
    go_ret
    exact⟨rfl,ZE _ _⟩
   | false =>
    go_enter Tryz.func33,Tryz.ntmps33
    go_wp2
    go_ret
    exact⟨rfl,ZE _ _⟩
  ·have d3:(n.kind == 3)=false:=by simp[h3]
   obtain rfl:r=false:=by rw[← hr];exact decide_eq_false (by omega)
   unfold Node.cells
   clear hr hth hcl h6 h3
   go_enter Tryz.func33,Tryz.ntmps33
   go_wp2
   go_ret
   exact⟨rfl,ZE _ _⟩
set_option maxHeartbeats 1000000 in
theorem ZGe (u:Unit_) (n:Node) (cv:Value) (w:World) (hcl:Clss (cmap w) cv ((List.range u.shared.length).map fun x:Nat=>classF u (x:Int))) (hth:n.kind=2→0≤n.thing∧n.thing < u.shared.length) :
  Calls Tryz.prog 55 #[cv,.agg n.cells.toArray] w fun e w'=>e=.returned (.bool (ldB u n))∧Below w.heap.size w w':=by
 obtain⟨A,c,rfl,-⟩:=id hcl
 have hlen:=hcl.len
 simp only[List.length_map,List.length_range] at hlen
 obtain⟨r,hr⟩ : ∃ r,ldB u n=r:=⟨_,rfl⟩
 rw[hr]
 unfold ldB at hr
 simp only[List.length_map,List.length_range]
 by_cases h3:n.kind=2
 ·have d3:(n.kind == 2)=true:=by simp[h3]
  obtain⟨t0,t1⟩:=hth h3
  obtain⟨k,hk⟩:=Int.eq_ofNat_of_zero_le t0
  rw[hk] at t1 hr
  obtain⟨b,o,rfl,hc⟩:=ZHf hcl (k:=k) (by omega)
  have hc':w.cell? ⟨b,o+k * 3,none⟩=some (.int .u8 (classF u (k:Int)).kind):=hc
  obtain⟨kd,hkd⟩ : ∃ kd,(classF u (k:Int)).kind=kd:=⟨_,rfl⟩
  rw[hkd] at hc' hr
  have hr2:r=(kd == 3):=by
   rw[← hr,Bool.eq_iff_iff]
   simp[h3]
  subst hr2
  unfold Node.cells
  rw[hk]
  have k0:(0:Int)≤k:=by omega
  have hbl:=World.block_lt_of_cell? _ _ hc'
  simp only at hbl
  clear hr hth hcl h3 hc hk t0
  cases hd:(kd == 3) with
  | true =>
   go_enter Tryz.func55,Tryz.ntmps55
   go_wp2
   go_ret
   exact⟨rfl,ZE _ _⟩
  | false =>
   go_enter Tryz.func55,Tryz.ntmps55
   go_wp2
   go_ret
   exact⟨rfl,ZE _ _⟩
 ·have d3:(n.kind == 2)=false:=by simp[h3]
  obtain rfl:r=false:=by rw[← hr];exact decide_eq_false (by omega)
  unfold Node.cells
  clear hr hth hcl h3
  go_enter Tryz.func55,Tryz.ntmps55
  go_wp2
  go_ret
  exact⟨rfl,ZE _ _⟩
end Go.Proofs.YtffgnjgphkdodaaGreatDoor
namespace Go.Proofs.YtffgnjgphkdodaaGreatDoor
open Go
theorem ZGz {N:Nat} : ∀ (F:List Int) (q:Int),(∀ x∈F,q < x∧x < N)→F.Pairwise (· < ·)→fenB N q F=true
 | [],_,_,_=>rfl
 | n :: F,q,h,hp=>by
  have hp':=List.pairwise_cons.1 hp
  simp only[fenB,Bool.and_eq_true,decide_eq_true_eq]
  exact⟨h n (by simp),ZGz F n (fun x hx=>⟨hp'.1 x hx,(h x (by simp[hx])).2⟩) hp'.2⟩
theorem ZKt (u:Unit_) (g:Graph) (l:List Bool) : fenB g.nodes.length (-1) (ldK u g l g.nodes.length)=true:=by
 refine ZGz _ _ (fun x hx=>?_) ?_
 ·obtain⟨i,rfl,h1,_⟩:=ZKs.1 hx
  omega
 ·unfold ldK
  refine List.Pairwise.map _ (fun a b h=>?_) (List.Pairwise.filter _ List.pairwise_lt_range)
  exact Int.ofNat_lt.2 h
end Go.Proofs.YtffgnjgphkdodaaGreatDoor
namespace Go.Proofs.YtffgnjgphkdodaaGreatDoor
open Go Go.RowKit
theorem ZIK {w:World} {b:Nat} {t:TypeId} {s s':ByteArray} (h:Blk w b t [.string s,.int .i64 0,.int .i64 0,.string s',.int .i64 0,.int .i64 0]) : Decls (cmap w) (.slice (some ⟨b,0,none⟩) 2 2) [⟨s,0,0⟩,⟨s',0,0⟩]:=by
 refine⟨_,_,rfl,Nat.le_refl _,⟨by simp[maxLen],fun h=>by cases h⟩,.inr ⟨b,0,rfl,fun i x hx=>?_⟩⟩
 match i,hx with
 | 0,hx =>
  simp at hx
  subst hx
  exact⟨h.cell 0,h.cell 1,h.cell 2⟩
 | 1,hx =>
  simp at hx
  subst hx
  exact⟨h.cell 3,h.cell 4,h.cell 5⟩
end Go.Proofs.YtffgnjgphkdodaaGreatDoor
namespace Go.Proofs.YtffgnjgphkdodaaGreatDoor
open Go Go.RowKit Go.ChangeShapes Go.WideShapes Go.Deep
section
variable {H:Type} {enc:TypeId × Value→H} {P:Program} {w:World} {spare:Nat→Bool} {held:Bool}
theorem ZD6 {α:Type} {p:Nat→α→Prop} {n:Nat} (h:∀ i,i < n→∃ x,p i x) : ∃ xs:List α,xs.length=n∧∀ i x,xs[i]? = some x→p i x:=by
 induction n with
 | zero=>exact⟨[],rfl,fun i x h=>by simp at h⟩
 | succ n ih =>
  obtain⟨xs,h1,h2⟩:=ih (fun i hi=>h i (by omega))
  obtain⟨x,hx⟩:=h n (by omega)
  refine⟨xs ++ [x],by simp[h1],fun i y hy=>?_⟩
  rw[List.getElem?_append] at hy
  split at hy
  ·exact h2 i y hy
  ·rename_i hi
   have:i=n:=by
    have:=(List.getElem?_eq_some_iff.1 hy).1
    simp at this;omega
   subst this
   rw[h1,Nat.sub_self] at hy
   simp at hy
   subst hy
   exact hx
theorem ZE8 {α:Type} (RV:CM→List Value→α→Prop) (pok:α→Prop) {t e size:Nat} (ht:P.underlying t=some (.slice e)) (hC:P.cellsOf e=size) (hs:0 < size)
  (hel:∀ n cs' y,DataW.trod enc P w 0 spare held n e cs'=some y→∃ x,RV (cmap w) cs' x∧pok x) {fuel:Nat} {cs:List Value} {x:DataW H × List MemPlace} (h:DataW.trod enc P w 0 spare held fuel t cs=some x) :
  ∃ v xs,cs=[v]∧Sl (Cells RV) size (cmap w) v xs∧∀ x∈xs,pok x:=by
 rcases open_slice ht h with⟨rfl,_⟩ | ⟨a,len,cap,m,n,D,Pl,rfl,_,hl,hm,hmm,_,hi⟩
 ·exact⟨_,[],rfl,⟨none,0,rfl,by simp,⟨by simp[maxLen],fun _=>rfl⟩,.inl rfl⟩,fun x hx=>by cases hx⟩
 ·have hml:len≤m:=by rw[hmm];split <;> omega
  obtain⟨xs,h1,h2⟩:=ZD6 (n:=len) (p:=fun i x=>∃ cs',w.cells? 0 (a.add (i * P.cellsOf e)) (P.cellsOf e)=some cs'∧RV (cmap w) cs' x∧pok x) (fun i hil=>by
   obtain⟨cs',k1,k2⟩:=hi i (by omega)
   obtain⟨x,k3,k4⟩:=hel n cs' _ k2
   exact⟨x,cs',k1,k3,k4⟩)
  refine⟨_,xs,rfl,⟨some a,cap,by rw[h1],by omega,⟨hm,fun h=>by cases h⟩,?_⟩,fun x hx=>?_⟩
  ·cases hxs:xs with
   | nil=>exact .inl rfl
   | cons x0 rest =>
    obtain⟨cs0,k1,_⟩:=h2 0 x0 (by rw[hxs];rfl)
    obtain⟨_,hcl,hat⟩:=World.cells?_some k1
    have hc0:=hat 0 (by omega)
    rw[Nat.zero_mul] at hc0
    obtain⟨b,o,s⟩:=a
    have hlt:0 < cs0.length:=by omega
    rw[List.getElem?_eq_getElem hlt] at hc0
    have hspot:s=none:=by simpa [Addr.add] using World.cell?_spot hc0
    subst hspot
    ·refine .inr ⟨b,o,rfl,fun i x hx=>?_⟩
     obtain⟨cs',q1,q2,_⟩:=h2 i x (by rw[hxs];exact hx)
     obtain⟨_,hcl2,hat2⟩:=World.cells?_some q1
     refine⟨cs',q2,fun j v hv=>?_⟩
     have hj:=(List.getElem?_eq_some_iff.1 hv).1
     have:=hat2 j (by omega)
     rw[hC,ZAt,ZAt,hv] at this
     exact this
  ·obtain⟨i,hx⟩:=List.getElem?_of_mem hx
   obtain⟨_,_,_,q⟩:=h2 i x hx
   exact q
end
section
variable {H:Type} {enc:TypeId × Value→H} {w:World} {spare:Nat→Bool} {held:Bool}
theorem ZF3 {α:Type} {l:List α} (h:l.length=3) : ∃ a0 a1 a2,l=[a0,a1,a2]:=by
 match l,h with
 | [a0,a1,a2],_=>exact⟨a0,a1,a2,rfl⟩
theorem ZJ8 {α:Type} {l:List α} (h:l.length=4) : ∃ a0 a1 a2 a3,l=[a0,a1,a2,a3]:=by
 match l,h with
 | [a0,a1,a2,a3],_=>exact⟨a0,a1,a2,a3,rfl⟩
theorem list9 {α:Type} {l:List α} (h:l.length=9) : ∃ a0 a1 a2 a3 a4 a5 a6 a7 a8,l=[a0,a1,a2,a3,a4,a5,a6,a7,a8]:=by
 match l,h with
 | [a0,a1,a2,a3,a4,a5,a6,a7,a8],_=>exact⟨a0,a1,a2,a3,a4,a5,a6,a7,a8,rfl⟩
theorem list13 {α:Type} {l:List α} (h:l.length=13) : ∃ a0 a1 a2 a3 a4 a5 a6 a7 a8 a9 a10 a11 a12,l=[a0,a1,a2,a3,a4,a5,a6,a7,a8,a9,a10,a11,a12]:=by
 match l,h with
 | [a0,a1,a2,a3,a4,a5,a6,a7,a8,a9,a10,a11,a12],_=>exact⟨a0,a1,a2,a3,a4,a5,a6,a7,a8,a9,a10,a11,a12,rfl⟩
theorem ZJe : Tryz.prog.cellsOf 9 = 1:=by kernel_rfl
theorem ZEo : Tryz.prog.cellsOf 3 = 1:=by kernel_rfl
theorem ZKc : Tryz.prog.cellsOf 2 = 1:=by kernel_rfl
theorem ZLB : Tryz.prog.cellsOf 4 = 1:=by kernel_rfl
theorem ZLA : Tryz.prog.cellsOf 61 = 1:=by kernel_rfl
theorem c1_op : Tryz.prog.cellsOf 62 = 1:=by kernel_rfl
theorem ZKb : Tryz.prog.cellsOf 64 = 3:=by kernel_rfl
theorem ZFT : Tryz.prog.cellsOf 66 = 13:=by kernel_rfl
theorem ZHg : Tryz.prog.cellsOf 67 = 1:=by kernel_rfl
theorem ZD7 : Tryz.prog.cellsOf 118 = 3:=by kernel_rfl
theorem ZDE : Tryz.prog.cellsOf 69 = 4:=by kernel_rfl
theorem ZHh : Tryz.prog.cellsOf 22 = 1:=by kernel_rfl
theorem ZGU : Tryz.prog.cellsOf 23 = 1:=by kernel_rfl
theorem ZJd : Tryz.prog.cellsOf 25 = 3:=by kernel_rfl
def declO (_:CM) (cs:List Value) (d:Decl) : Prop:=cs=[.string d.name,.int .i64 d.word,.int .i64 d.at_]
theorem ZCF {n:Nat} {cs:List Value} {y:DataW H × List MemPlace} (h:DataW.trod enc Tryz.prog w 0 spare held n 118 cs=some y) : ∃ d,declO (cmap w) cs d:=by
 obtain⟨xs,m,_,_,hlen,hxl,hf⟩:=DataW.trod_struct Tryz.underlying118 h
 replace hlen:=hlen.trans ZD7
 obtain⟨c0,c1,c2,rfl⟩:=ZF3 hlen
 obtain⟨y0,y1,y2,rfl⟩:=ZF3 hxl
 have f0:=hf 0 _ rfl
 have f1:=hf 1 _ rfl
 have f2:=hf 2 _ rfl
 simp only[List.getElem_toArray,List.getElem_cons_zero,List.getElem_cons_succ,ZJe,ZEo,ZKc] at f0 f1 f2
 obtain⟨s0,e0,_⟩:=DataW.trod_string Tryz.underlying9 f0
 obtain⟨s1,e1,_⟩:=DataW.trod_int Tryz.underlying2 f1
 obtain⟨s2,e2,_⟩:=DataW.trod_int Tryz.underlying3 f2
 simp at e0 e1 e2
 subst e0 e1 e2
 exact⟨⟨s0,s1,s2⟩,rfl⟩
theorem ZHP {n:Nat} {cs:List Value} {y:DataW H × List MemPlace} (h:DataW.trod enc Tryz.prog w 0 spare held n 64 cs=some y) : ∃ v:Val,cs=[.bool v.isSlot,.int .i64 v.slot,.int .i64 v.word]∧v.ok:=by
 obtain⟨xs,m,_,_,hlen,hxl,hf⟩:=DataW.trod_struct Tryz.underlying64 h
 replace hlen:=hlen.trans ZKb
 obtain⟨c0,c1,c2,rfl⟩:=ZF3 hlen
 obtain⟨y0,y1,y2,rfl⟩:=ZF3 hxl
 have f0:=hf 0 _ rfl
 have f1:=hf 1 _ rfl
 have f2:=hf 2 _ rfl
 simp only[List.getElem_toArray,List.getElem_cons_zero,List.getElem_cons_succ,ZLB,ZEo,ZKc] at f0 f1 f2
 obtain⟨s0,e0,_⟩:=DataW.trod_bool Tryz.underlying4 f0
 obtain⟨s1,e1,_,w1⟩:=DataW.trod_int Tryz.underlying3 f1
 obtain⟨s2,e2,_,w2⟩:=DataW.trod_int Tryz.underlying2 f2
 simp at e0 e1 e2
 subst e0 e1 e2
 exact⟨⟨s0,s1,s2⟩,rfl,bounds_i64 w1,bounds_i64 w2⟩
def nodeO (_:CM) (cs:List Value) (n:Node) : Prop:=cs=n.cells
set_option maxHeartbeats 1000000 in
theorem ZFx {n:Nat} {cs:List Value} {y:DataW H × List MemPlace} (h:DataW.trod enc Tryz.prog w 0 spare held n 66 cs=some y) : ∃ d,nodeO (cmap w) cs d∧d.ok:=by
 obtain⟨xs,m,_,_,hlen,hxl,hf⟩:=DataW.trod_struct Tryz.underlying66 h
 replace hlen:=hlen.trans ZFT
 obtain⟨c0,c1,c2,c3,c4,c5,c6,c7,c8,c9,c10,c11,c12,rfl⟩:=list13 hlen
 obtain⟨y0,y1,y2,y3,y4,y5,y6,y7,y8,rfl⟩:=list9 hxl
 have f0:=hf 0 _ rfl
 have f1:=hf 1 _ rfl
 have f2:=hf 2 _ rfl
 have f3:=hf 3 _ rfl
 have f4:=hf 4 _ rfl
 have f5:=hf 5 _ rfl
 have f6:=hf 6 _ rfl
 have f7:=hf 7 _ rfl
 have f8:=hf 8 _ rfl
 simp only[List.getElem_toArray,List.getElem_cons_zero,List.getElem_cons_succ,ZLA,c1_op,ZEo,ZKb] at f0 f1 f2 f3 f4 f5 f6 f7 f8
 obtain⟨s0,e0,_,w0⟩:=DataW.trod_int Tryz.underlying61 f0
 obtain⟨s1,e1,_,w1⟩:=DataW.trod_int Tryz.underlying62 f1
 obtain⟨s2,e2,_,w2⟩:=DataW.trod_int Tryz.underlying3 f2
 obtain⟨s3,e3,_,w3⟩:=DataW.trod_int Tryz.underlying3 f3
 obtain⟨s4,e4,w4⟩:=ZHP f4
 obtain⟨s5,e5,w5⟩:=ZHP f5
 obtain⟨s6,e6,_,w6⟩:=DataW.trod_int Tryz.underlying3 f6
 obtain⟨s7,e7,_,w7⟩:=DataW.trod_int Tryz.underlying3 f7
 obtain⟨s8,e8,_,w8⟩:=DataW.trod_int Tryz.underlying3 f8
 simp at e0 e1 e2 e3 e4 e5 e6 e7 e8
 obtain⟨e4a,e4b,e4c⟩:=e4
 obtain⟨e5a,e5b,e5c⟩:=e5
 subst e0 e1 e2 e3 e4a e4b e4c e5a e5b e5c e6 e7 e8
 exact⟨⟨s0,s1,s2,s3,s4,s5,s6,s7,s8⟩,rfl,bounds_u8 w0,bounds_u8 w1,bounds_i64 w2,bounds_i64 w3,w4,w5,bounds_i64 w6,bounds_i64 w7,bounds_i64 w8⟩
def graphO (m:CM) (cs:List Value) (g:Graph) : Prop:=GraphV m cs g
theorem ZH1 {n:Nat} {cs:List Value} {y:DataW H × List MemPlace} (h:DataW.trod enc Tryz.prog w 0 spare held n 69 cs=some y) : ∃ g,graphO (cmap w) cs g∧∀ n∈g.nodes,n.ok:=by
 obtain⟨xs,m,_,_,hlen,hxl,hf⟩:=DataW.trod_struct Tryz.underlying69 h
 replace hlen:=hlen.trans ZDE
 obtain⟨c0,c1,c2,c3,rfl⟩:=ZJ8 hlen
 obtain⟨y0,y1,y2,y3,rfl⟩:=ZJ8 hxl
 have f0:=hf 0 _ rfl
 have f1:=hf 1 _ rfl
 have f2:=hf 2 _ rfl
 have f3:=hf 3 _ rfl
 simp only[List.getElem_toArray,List.getElem_cons_zero,List.getElem_cons_succ,ZJe,ZEo,ZHg] at f0 f1 f2 f3
 obtain⟨s0,e0,_⟩:=DataW.trod_string Tryz.underlying9 f0
 obtain⟨s1,e1,_⟩:=DataW.trod_int Tryz.underlying3 f1
 obtain⟨s2,e2,_⟩:=DataW.trod_int Tryz.underlying3 f2
 obtain⟨v,ns,e3,hn,hok⟩:=ZE8 nodeO Node.ok Tryz.underlying67 ZFT (by decide) (fun n cs' y hy=>ZFx hy) f3
 simp at e0 e1 e2 e3
 subst e0 e1 e2 e3
 exact⟨⟨s0,s1,s2,ns⟩,⟨_,rfl,hn.imp' fun m b o x hx=>ZBI hx⟩,hok⟩
set_option maxRecDepth 100000 in
theorem ZIv {base:Nat} {r:Reach} {v:Value} {d:DataW H} {p:List MemPlace} (hv:Value.okWide Tryz.prog w r base 25 v) (h:DataW.Trod enc Tryz.prog w 0 spare held 25 v d p) :
  ∃ cs u,v=.agg cs.toArray∧UnitV (cmap w) cs u∧UOk u:=by
 obtain⟨cs,rfl,hsz⟩:=okWide_struct Tryz.underlying25 hv
 have hsz1:cs.size=3:=Eq.trans hsz ZJd
 have hsz2:cs.toList.length=3:=Array.length_toList.trans hsz1
 clear hsz hv
 obtain⟨fuel,hf0⟩:=h
 obtain⟨xs,m,_,_,hlen,hxl,hf⟩:=DataW.trod_struct Tryz.underlying25 hf0
 clear hlen hf0
 obtain⟨c0,c1,c2,hl⟩:=ZF3 hsz2
 obtain rfl:cs=#[c0,c1,c2]:=by rw[← Array.toArray_toList (xs:=cs),hl]
 obtain⟨y0,y1,y2,rfl⟩:=ZF3 hxl
 have f0:=hf 0 _ rfl
 have f1:=hf 1 _ rfl
 have f2:=hf 2 _ rfl
 simp only[List.getElem_toArray,List.getElem_cons_zero,List.getElem_cons_succ,ZHh,ZGU] at f0 f1 f2
 obtain⟨v0,d0,e0,h0,_⟩:=ZE8 declO (fun _=>True) Tryz.underlying22 ZD7 (by decide) (fun n cs' y hy=>by obtain⟨d,h⟩:=ZCF hy;exact⟨d,h,trivial⟩) f0
 obtain⟨v1,d1,e1,h1,_⟩:=ZE8 declO (fun _=>True) Tryz.underlying22 ZD7 (by decide) (fun n cs' y hy=>by obtain⟨d,h⟩:=ZCF hy;exact⟨d,h,trivial⟩) f1
 obtain⟨v2,g2,e2,h2,hok⟩:=ZE8 graphO (fun g=>∀ n∈g.nodes,n.ok) Tryz.underlying23 ZDE (by decide) (fun n cs' y hy=>ZH1 hy) f2
 simp[Value.cells] at e0 e1 e2
 subst e0 e1 e2
 have dcl:∀ {v:Value} {ds:List Decl},Sl (Cells declO) 3 (cmap w) v ds→Decls (cmap w) v ds:=fun h=>h.imp' fun m b o x hx=>by
  obtain⟨cs,rfl,h2⟩:=hx
  exact⟨h2 0 _ rfl,h2 1 _ rfl,h2 2 _ rfl⟩
 exact⟨[c0,c1,c2],⟨d0,d1,g2⟩,rfl,⟨_,_,_,rfl,dcl h0,dcl h1,h2⟩,hok⟩
end
end Go.Proofs.YtffgnjgphkdodaaGreatDoor
