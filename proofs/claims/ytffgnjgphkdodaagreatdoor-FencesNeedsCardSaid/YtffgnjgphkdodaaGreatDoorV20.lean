import Derived.Test.YtffgnjgphkdodaaGreatDoorV19
import Derived.Test.YtffgnjgphkdodaaGreatDoorV4
import Derived.Test.YtffgnjgphkdodaaGreatDoorV3
import Derived.Test.YtffgnjgphkdodaaGreatDoorV14
import Derived.Test.YtffgnjgphkdodaaGreatDoorV5
import Derived.Laws.StructEq
namespace Go.Proofs.YtffgnjgphkdodaaGreatDoor
open Go Go.RowKit
def FenAll (u:Unit_) (L:List (List Int)) : Prop:=∀ (t:Nat) (g:Graph) (l:List Int),u.graphs[t]? = some g→L[t]? = some l→fenB g.nodes.length (-1) l=true
def v0:Val:=⟨false,0,0⟩
def nd (k next origin:Int) : Node:=⟨k,0,0,0,v0,v0,next,0,origin⟩
def nodesA:List Node:=[nd 5 1 0,nd 3 2 1,nd 6 3 2,nd 9 0 3]
def nodesB:List Node:=[nd 3 1 0,nd 9 0 1]
def strA:ByteArray:=⟨#[97]⟩
def strB:ByteArray:=⟨#[98]⟩
def strX:ByteArray:=⟨#[120]⟩
def strL:ByteArray:=⟨#[108]⟩
def twoU (nb:List Node) : Unit_:=⟨[⟨strX,0,0⟩],[⟨strL,0,0⟩],[⟨strA,0,0,nodesA⟩,⟨strB,0,0,nb⟩]⟩
structure TwoMem (w:World) (gb ba bb xb lb:Nat) (nbv:Value) : Prop where
 a:Blk w ba 66 (nodesA.flatMap Node.cells)
 b:Blk w bb 66 (nodesB.flatMap Node.cells)
 x:Blk w xb 118 [.string strX,.int .i64 0,.int .i64 0]
 l:Blk w lb 118 [.string strL,.int .i64 0,.int .i64 0]
 g:Blk w gb 69 [.string strA,.int .i64 0,.int .i64 0,.slice (some ⟨ba,0,none⟩) 4 4,.string strB,.int .i64 0,.int .i64 0,nbv]
theorem TwoMem.below {w w':World} {gb ba bb xb lb:Nat} {nbv:Value} (h:TwoMem w gb ba bb xb lb nbv) (hb:Below w.heap.size w w') : TwoMem w' gb ba bb xb lb nbv :=
 ⟨h.a.below hb h.a.lt,h.b.below hb h.b.lt,h.x.below hb h.x.lt,h.l.below hb h.l.lt,h.g.below hb h.g.lt⟩
theorem ZDp {w:World} {b:Nat} {t:TypeId} {ns:List Node} (h:Blk w b t (ns.flatMap Node.cells)) (n:Nat) (hn:n=ns.length) (hl:n≤1000) : Nodes (cmap w) (.slice (some ⟨b,0,none⟩) n n) ns:=by
 subst hn
 refine⟨_,_,rfl,Nat.le_refl _,⟨by simp only[maxLen];omega,fun h=>by cases h⟩,.inr ⟨b,0,rfl,fun i x hx j v hv=>?_⟩⟩
 show w.cell? ⟨b,0+i * 13+j,none⟩=some v
 rw[Nat.zero_add,h.cell,List.flatMap_def]
 refine ZCE (ns.map Node.cells) 13 i x.cells (fun r hr=>?_) ?_ j v hv
 ·obtain⟨q,_,rfl⟩:=List.mem_map.1 hr;rfl
 ·rw[List.getElem?_map,hx];rfl
theorem ZFo {w:World} {b:Nat} {t:TypeId} {s:ByteArray} (h:Blk w b t [.string s,.int .i64 0,.int .i64 0]) : Decls (cmap w) (.slice (some ⟨b,0,none⟩) 1 1) [⟨s,0,0⟩]:=by
 refine⟨_,_,rfl,Nat.le_refl _,⟨by simp[maxLen],fun h=>by cases h⟩,.inr ⟨b,0,rfl,fun i x hx=>?_⟩⟩
 match i,hx with
 | 0,hx =>
  simp at hx
  subst hx
  exact⟨h.cell 0,h.cell 1,h.cell 2⟩
theorem TwoMem.unit {w:World} {gb ba bb xb lb:Nat} {nbv:Value} {nb:List Node} (h:TwoMem w gb ba bb xb lb nbv) (hn:Nodes (cmap w) nbv nb) :
  UnitV (cmap w) [.slice (some ⟨xb,0,none⟩) 1 1,.slice (some ⟨lb,0,none⟩) 1 1,.slice (some ⟨gb,0,none⟩) 2 2] (twoU nb):=by
 refine⟨_,_,_,rfl,ZFo h.x,ZFo h.l,⟨_,_,rfl,Nat.le_refl _,⟨by simp[maxLen],fun h=>by cases h⟩,.inr ⟨gb,0,rfl,fun i x hx=>?_⟩⟩⟩
 match i,hx with
 | 0,hx =>
  simp[twoU] at hx
  subst hx
  refine⟨_,⟨_,rfl,ZDp h.a 4 rfl (by decide)⟩,fun j v hv=>?_⟩
  have hj:=(List.getElem?_eq_some_iff.1 hv).1
  match j,hv with
  | 0,hv=>simp at hv;subst hv;exact h.g.cell 0
  | 1,hv=>simp at hv;subst hv;exact h.g.cell 1
  | 2,hv=>simp at hv;subst hv;exact h.g.cell 2
  | 3,hv=>simp at hv;subst hv;exact h.g.cell 3
 | 1,hx =>
  simp[twoU] at hx
  subst hx
  refine⟨_,⟨_,rfl,hn⟩,fun j v hv=>?_⟩
  match j,hv with
  | 0,hv=>simp at hv;subst hv;exact h.g.cell 4
  | 1,hv=>simp at hv;subst hv;exact h.g.cell 5
  | 2,hv=>simp at hv;subst hv;exact h.g.cell 6
  | 3,hv=>simp at hv;subst hv;exact h.g.cell 7
def gA:Graph:=⟨strA,0,0,nodesA⟩
def dkz:Val:=⟨false,0,0⟩
def dkS (o:Int) : Node:=⟨3,0,0,o,⟨false,0,1⟩,dkz,1,0,0⟩
def dkL (o:Int) : Node:=⟨2,0,0,1 - o,dkz,dkz,2,0,1⟩
theorem ZIk:i64 0∧i64 1∧i64 2:=by unfold i64;omega
section
variable (s:ByteArray) (o:Int)
end
section
variable {s:ByteArray} {o:Int}
end
theorem ZGw {u:Unit_} {m:CM} {A:Option Addr} {n c:Nat} (h:Clss m (.slice A n c) ((List.range u.shared.length).map fun x:Nat=>classF u (x:Int))) {k:Nat} (hk:k < u.shared.length) : ∃ b o,A=some ⟨b,o,none⟩∧m b (o+k * 3)=some (.int .u8 (classF u (k:Int)).kind):=by
 obtain⟨b,o,rfl,cs,rfl,hc⟩:=h.at_ (i:=k) (x:=classF u (k:Int)) (by rw[List.getElem?_map,List.getElem?_range hk];rfl)
 exact⟨b,o,rfl,by have:=hc 0 _ rfl;simpa using this⟩
set_option maxHeartbeats 1000000 in
theorem ZCR (u:Unit_) (n:Node) (cv:Value) (w:World) (hcl:Clss (cmap w) cv ((List.range u.shared.length).map fun x:Nat=>classF u (x:Int))) (hth:n.kind=3→0≤n.thing∧n.thing < u.shared.length) :
  Calls Tryz.prog 33 #[cv,.agg n.cells.toArray] w fun e w'=>e=.returned (.bool (stB u n))∧Below w.heap.size w w':=by
 obtain⟨A,c,rfl,-⟩:=id hcl
 have hlen:=hcl.len
 simp only[List.length_map,List.length_range] at hlen
 obtain⟨r,hr⟩ : ∃ r,stB u n=r:=⟨_,rfl⟩
 rw[hr]
 unfold stB at hr
 simp only[List.length_map,List.length_range]
 by_cases h6:n.kind=6
 ·have d6:(n.kind == 6)=true:=by simp[h6]
  obtain rfl:r=true:=by rw[← hr];exact decide_eq_true (.inl h6)
  unfold Node.cells
  clear hr hth hcl h6
  go_enter Tryz.func33,Tryz.ntmps33
  go_wp2
  go_ret
  exact⟨rfl,ZE _ _⟩
 ·have d6:(n.kind == 6)=false:=by simp[h6]
  by_cases h3:n.kind=3
  ·have d3:(n.kind == 3)=true:=by simp[h3]
   obtain⟨t0,t1⟩:=hth h3
   obtain⟨k,hk⟩:=Int.eq_ofNat_of_zero_le t0
   rw[hk] at t1 hr
   obtain⟨b,o,rfl,hc⟩:=ZGw hcl (k:=k) (by omega)
   have hc':w.cell? ⟨b,o+k * 3,none⟩=some (.int .u8 (classF u (k:Int)).kind):=hc
   obtain⟨kd,hkd⟩ : ∃ kd,(classF u (k:Int)).kind=kd:=⟨_,rfl⟩
   rw[hkd] at hc' hr
   have hr2:r=(kd == 3):=by
    rw[← hr,Bool.eq_iff_iff]
    simp[h3]
   subst hr2
   unfold Node.cells
   rw[hk]
   have k0:(0:Int)≤k:=by omega
   have hbl:=World.block_lt_of_cell? _ _ hc'
   simp only at hbl
   clear hr hth hcl h6 h3 hc hk t0
   cases hd:(kd == 3) with
   | true =>
    go_enter Tryz.func33,Tryz.ntmps33
    go_wp2
    go_ret
    exact⟨rfl,ZE _ _⟩
   | false =>
    go_enter Tryz.func33,Tryz.ntmps33
    go_wp2
    go_ret
    exact⟨rfl,ZE _ _⟩
  ·have d3:(n.kind == 3)=false:=by simp[h3]
   obtain rfl:r=false:=by rw[← hr];exact decide_eq_false (by omega)
   unfold Node.cells
   clear hr hth hcl h6 h3
   go_enter Tryz.func33,Tryz.ntmps33
   go_wp2
   go_ret
   exact⟨rfl,ZE _ _⟩
set_option maxHeartbeats 1000000 in
theorem ZC9 (u:Unit_) (n:Node) (cv:Value) (w:World) (hcl:Clss (cmap w) cv ((List.range u.shared.length).map fun x:Nat=>classF u (x:Int))) (hth:n.kind=2→0≤n.thing∧n.thing < u.shared.length) :
  Calls Tryz.prog 55 #[cv,.agg n.cells.toArray] w fun e w'=>e=.returned (.bool (ldB u n))∧Below w.heap.size w w':=by
 obtain⟨A,c,rfl,-⟩:=id hcl
 have hlen:=hcl.len
 simp only[List.length_map,List.length_range] at hlen
 obtain⟨r,hr⟩ : ∃ r,ldB u n=r:=⟨_,rfl⟩
 rw[hr]
 unfold ldB at hr
 simp only[List.length_map,List.length_range]
 by_cases h3:n.kind=2
 ·have d3:(n.kind == 2)=true:=by simp[h3]
  obtain⟨t0,t1⟩:=hth h3
  obtain⟨k,hk⟩:=Int.eq_ofNat_of_zero_le t0
  rw[hk] at t1 hr
  obtain⟨b,o,rfl,hc⟩:=ZGw hcl (k:=k) (by omega)
  have hc':w.cell? ⟨b,o+k * 3,none⟩=some (.int .u8 (classF u (k:Int)).kind):=hc
  obtain⟨kd,hkd⟩ : ∃ kd,(classF u (k:Int)).kind=kd:=⟨_,rfl⟩
  rw[hkd] at hc' hr
  have hr2:r=(kd == 3):=by
   rw[← hr,Bool.eq_iff_iff]
   simp[h3]
  subst hr2
  unfold Node.cells
  rw[hk]
  have k0:(0:Int)≤k:=by omega
  have hbl:=World.block_lt_of_cell? _ _ hc'
  simp only at hbl
  clear hr hth hcl h3 hc hk t0
  cases hd:(kd == 3) with
  | true =>
   go_enter Tryz.func55,Tryz.ntmps55
   go_wp2
   go_ret
   exact⟨rfl,ZE _ _⟩
  | false =>
   go_enter Tryz.func55,Tryz.ntmps55
   go_wp2
   go_ret
   exact⟨rfl,ZE _ _⟩
 ·have d3:(n.kind == 2)=false:=by simp[h3]
  obtain rfl:r=false:=by rw[← hr];exact decide_eq_false (by omega)
  unfold Node.cells
  clear hr hth hcl h3
  go_enter Tryz.func55,Tryz.ntmps55
  go_wp2
  go_ret
  exact⟨rfl,ZE _ _⟩
end Go.Proofs.YtffgnjgphkdodaaGreatDoor
namespace Go.Proofs.YtffgnjgphkdodaaGreatDoor
open Go
theorem ZGL {N:Nat} : ∀ (F:List Int) (q:Int),(∀ x∈F,q < x∧x < N)→F.Pairwise (· < ·)→fenB N q F=true
 | [],_,_,_=>rfl
 | n :: F,q,h,hp=>by
  have hp':=List.pairwise_cons.1 hp
  simp only[fenB,Bool.and_eq_true,decide_eq_true_eq]
  exact⟨h n (by simp),ZGL F n (fun x hx=>⟨hp'.1 x hx,(h x (by simp[hx])).2⟩) hp'.2⟩
theorem ZKB (u:Unit_) (g:Graph) (l:List Bool) : fenB g.nodes.length (-1) (ldK u g l g.nodes.length)=true:=by
 refine ZGL _ _ (fun x hx=>?_) ?_
 ·obtain⟨i,rfl,h1,_⟩:=ZKA.1 hx
  omega
 ·unfold ldK
  refine List.Pairwise.map _ (fun a b h=>?_) (List.Pairwise.filter _ List.pairwise_lt_range)
  exact Int.ofNat_lt.2 h
end Go.Proofs.YtffgnjgphkdodaaGreatDoor
namespace Go.Proofs.YtffgnjgphkdodaaGreatDoor
open Go Go.RowKit
theorem ZHb {w:World} {b:Nat} {t:TypeId} {s s':ByteArray} (h:Blk w b t [.string s,.int .i64 0,.int .i64 0,.string s',.int .i64 0,.int .i64 0]) : Decls (cmap w) (.slice (some ⟨b,0,none⟩) 2 2) [⟨s,0,0⟩,⟨s',0,0⟩]:=by
 refine⟨_,_,rfl,Nat.le_refl _,⟨by simp[maxLen],fun h=>by cases h⟩,.inr ⟨b,0,rfl,fun i x hx=>?_⟩⟩
 match i,hx with
 | 0,hx =>
  simp at hx
  subst hx
  exact⟨h.cell 0,h.cell 1,h.cell 2⟩
 | 1,hx =>
  simp at hx
  subst hx
  exact⟨h.cell 3,h.cell 4,h.cell 5⟩
end Go.Proofs.YtffgnjgphkdodaaGreatDoor
