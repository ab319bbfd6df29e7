import Derived.Test.YtffgnjgphkdodaaDoorD5
import Derived.Test.YtffgnjgphkdodaaDoorD4
import Derived.Test.YtffgnjgphkdodaaDoorD15
import Derived.Test.YtffgnjgphkdodaaDoorD21
import Derived.Laws.StructEq
import Derived.Test.YtffgnjgphkdodaaDoorD25
import Derived.Test.YtffgnjgphkdodaaDoorD11
import Derived.Test.YtffgnjgphkdodaaDoorD30
import Derived.Test.YtffgnjgphkdodaaDoorD9
namespace Go.Proofs.YtffgnjgphkdodaaDoor
open Go Go.RowKit
def v0:Val:=⟨false,0,0⟩
def nd (k next origin:Int) : Node:=⟨k,0,0,0,v0,v0,next,0,origin⟩
def nodesA:List Node:=[nd 5 1 0,nd 3 2 1,nd 6 3 2,nd 9 0 3]
def nodesB:List Node:=[nd 3 1 0,nd 9 0 1]
def strA:ByteArray:=⟨#[97]⟩
def strB:ByteArray:=⟨#[98]⟩
def strX:ByteArray:=⟨#[120]⟩
def strL:ByteArray:=⟨#[108]⟩
def twoU (nb:List Node) : Unit_:=⟨[⟨strX,0,0⟩],[⟨strL,0,0⟩],[⟨strA,0,0,nodesA⟩,⟨strB,0,0,nb⟩]⟩
structure TwoMem (w:World) (gb ba bb xb lb:Nat) (nbv:Value) : Prop where
 a:Blk w ba 61 (nodesA.flatMap Node.cells)
 b:Blk w bb 61 (nodesB.flatMap Node.cells)
 x:Blk w xb 66 [.string strX,.int .i64 0,.int .i64 0]
 l:Blk w lb 66 [.string strL,.int .i64 0,.int .i64 0]
 g:Blk w gb 38 [.string strA,.int .i64 0,.int .i64 0,.slice (some ⟨ba,0,none⟩) 4 4,.string strB,.int .i64 0,.int .i64 0,nbv]
theorem TwoMem.below {w w':World} {gb ba bb xb lb:Nat} {nbv:Value} (h:TwoMem w gb ba bb xb lb nbv) (hb:Below w.heap.size w w') : TwoMem w' gb ba bb xb lb nbv :=
 ⟨h.a.below hb h.a.lt,h.b.below hb h.b.lt,h.x.below hb h.x.lt,h.l.below hb h.l.lt,h.g.below hb h.g.lt⟩
theorem ZDo {w:World} {b:Nat} {t:TypeId} {ns:List Node} (h:Blk w b t (ns.flatMap Node.cells)) (n:Nat) (hn:n=ns.length) (hl:n≤1000) : Nodes (cmap w) (.slice (some ⟨b,0,none⟩) n n) ns:=by
 subst hn
 refine⟨_,_,rfl,Nat.le_refl _,⟨by simp only[maxLen];omega,fun h=>by cases h⟩,.inr ⟨b,0,rfl,fun i x hx j v hv=>?_⟩⟩
 show w.cell? ⟨b,0+i * 13+j,none⟩=some v
 rw[Nat.zero_add,h.cell,List.flatMap_def]
 refine ZCU (ns.map Node.cells) 13 i x.cells (fun r hr=>?_) ?_ j v hv
 ·obtain⟨q,_,rfl⟩:=List.mem_map.1 hr;rfl
 ·rw[List.getElem?_map,hx];rfl
theorem ZFW {w:World} {b:Nat} {t:TypeId} {s:ByteArray} (h:Blk w b t [.string s,.int .i64 0,.int .i64 0]) : Decls (cmap w) (.slice (some ⟨b,0,none⟩) 1 1) [⟨s,0,0⟩]:=by
 refine⟨_,_,rfl,Nat.le_refl _,⟨by simp[maxLen],fun h=>by cases h⟩,.inr ⟨b,0,rfl,fun i x hx=>?_⟩⟩
 match i,hx with
 | 0,hx =>
  simp at hx
  subst hx
  exact⟨h.cell 0,h.cell 1,h.cell 2⟩
theorem TwoMem.unit {w:World} {gb ba bb xb lb:Nat} {nbv:Value} {nb:List Node} (h:TwoMem w gb ba bb xb lb nbv) (hn:Nodes (cmap w) nbv nb) :
  UnitV (cmap w) [.slice (some ⟨xb,0,none⟩) 1 1,.slice (some ⟨lb,0,none⟩) 1 1,.slice (some ⟨gb,0,none⟩) 2 2] (twoU nb):=by
 refine⟨_,_,_,rfl,ZFW h.x,ZFW h.l,⟨_,_,rfl,Nat.le_refl _,⟨by simp[maxLen],fun h=>by cases h⟩,.inr ⟨gb,0,rfl,fun i x hx=>?_⟩⟩⟩
 match i,hx with
 | 0,hx =>
  simp[twoU] at hx
  subst hx
  refine⟨_,⟨_,rfl,ZDo h.a 4 rfl (by decide)⟩,fun j v hv=>?_⟩
  have hj:=(List.getElem?_eq_some_iff.1 hv).1
  match j,hv with
  | 0,hv=>simp at hv;subst hv;exact h.g.cell 0
  | 1,hv=>simp at hv;subst hv;exact h.g.cell 1
  | 2,hv=>simp at hv;subst hv;exact h.g.cell 2
  | 3,hv=>simp at hv;subst hv;exact h.g.cell 3
 | 1,hx =>
  simp[twoU] at hx
  subst hx
  refine⟨_,⟨_,rfl,hn⟩,fun j v hv=>?_⟩
  match j,hv with
  | 0,hv=>simp at hv;subst hv;exact h.g.cell 4
  | 1,hv=>simp at hv;subst hv;exact h.g.cell 5
  | 2,hv=>simp at hv;subst hv;exact h.g.cell 6
  | 3,hv=>simp at hv;subst hv;exact h.g.cell 7
def gA:Graph:=⟨strA,0,0,nodesA⟩
def dkz:Val:=⟨false,0,0⟩
def dkS (o:Int) : Node:=⟨3,0,0,o,⟨false,0,1⟩,dkz,1,0,0⟩
def dkL (o:Int) : Node:=⟨2,0,0,1 - o,dkz,dkz,2,0,1⟩
theorem ZIG:i64 0∧i64 1∧i64 2:=by unfold i64;omega
section
variable (s:ByteArray) (o:Int)
end
section
variable {s:ByteArray} {o:Int}
end
theorem ZHD {w:World} {b:Nat} {t:TypeId} {s s':ByteArray} (h:Blk w b t [.string s,.int .i64 0,.int .i64 0,.string s',.int .i64 0,.int .i64 0]) : Decls (cmap w) (.slice (some ⟨b,0,none⟩) 2 2) [⟨s,0,0⟩,⟨s',0,0⟩]:=by
 refine⟨_,_,rfl,Nat.le_refl _,⟨by simp[maxLen],fun h=>by cases h⟩,.inr ⟨b,0,rfl,fun i x hx=>?_⟩⟩
 match i,hx with
 | 0,hx =>
  simp at hx
  subst hx
  exact⟨h.cell 0,h.cell 1,h.cell 2⟩
 | 1,hx =>
  simp at hx
  subst hx
  exact⟨h.cell 3,h.cell 4,h.cell 5⟩
theorem ZH1 (w:World) (g:Nat) (cs:Array Value) : w.grownBy (w.setRow g cs) (some g):=⟨rfl,rfl,rfl,by simp[World.setRow],fun b _ hn=>Ze (fun e=>hn (by rw[e])) cs⟩
def AlonePost (u:Unit_) (t:Int) (F:List Int) (n:Int) (w:World) (e:Ending) (w':World) : Prop:=∃ r,e=.returned (.tuple #[r,.bool (aloneR u t F n).2.1,.int .i64 (aloneR u t F n).2.2])∧w'.ownsRow w.heap.size 3 1 r (aloneR u t F n).1.length (ints (aloneR u t F n).1)∧Below w.heap.size w w'
set_option maxRecDepth 100000 in
set_option maxHeartbeats 1000000 in
theorem ZDQ (v1 v2:Value) (L:List (List Int)) (w:World) (h1:Sl (Cells intsV) 1 (cmap w) v1 L) (h2:Sl (Cells intsV) 1 (cmap w) v2 L) :
  Calls Tryd.prog 20 #[v1,v2] w fun e w'=>e=.returned (.bool true)∧∃ n,w'=w.drewN n:=by
 obtain⟨A1,c1,rfl,-⟩:=id h1
 obtain⟨A2,c2,rfl,-⟩:=id h2
 have b1:=h1.len.2.2
 have hb:((L.length:Int) != (L.length:Int))=false:=by simp
 go_enter Tryd.func20,Tryd.ntmps20
 go_wp2
 go_loopw [5] (fun v wr=>∃ (k n:Nat),v=.int .i64 k∧k≤L.length∧wr=w.drewN n) (fun v _=>L.length - (intOf v).toNat)
 case atStart=>exact⟨0,0,rfl,by omega,rfl⟩
 case round =>
  obtain⟨k,n,rfl,hk,hw⟩:=hrel
  have m1:Sl (Cells intsV) 1 (cmap wr) (.slice A1 L.length c1) L:=by rw[hw];exact h1
  have m2:Sl (Cells intsV) 1 (cmap wr) (.slice A2 L.length c2) L:=by rw[hw];exact h2
  have HW:=Hd_ hw;clear hw
  by_cases hlt:k < L.length
  ·obtain⟨l,hl⟩ : ∃ l,L[k]? = some l:=⟨_,List.getElem?_eq_getElem hlt⟩
   obtain⟨bb1,o1,rfl,_,⟨l1,rfl,g1⟩,q1⟩:=m1.at_ hl
   obtain⟨bb2,o2,rfl,_,⟨l2,rfl,g2⟩,q2⟩:=m2.at_ hl
   have p1:wr.cell? ⟨bb1,o1+k,none⟩=some l1:=by have:=q1 0 l1 rfl;rwa [Nat.mul_one] at this
   have p2:wr.cell? ⟨bb2,o2+k,none⟩=some l2:=by have:=q2 0 l2 rfl;rwa [Nat.mul_one] at this
   obtain⟨a1,d1,rfl,-⟩:=id g1
   obtain⟨a2,d2,rfl,-⟩:=id g2
   clear q1 q2
   have HL:=Hd_ hl;clear hl
   have hk0:(0:Int)≤k:=by omega
   have hkl:(k:Int) < L.length:=by omega
   go_wp2
   go_quiet (first | (go_at_call 44;refine Calls.quiet_of ((ZD2 _ _ l l _ (by exact g1) (by exact g2)).mono fun e w' ⟨h1,h2⟩=>⟨by rw[h1,decide_eq_true rfl],h2⟩)))
   go_wp2
   go_roundw
   case rel=>exact⟨k+1,_,by go_num,by omega,by rw[HW.out];exact World.drewN_drewN _ _ _⟩
   case measure=>simp[intOf];omega
  ·go_wp2
   go_ret
   exact⟨rfl,_,HW.out⟩
end Go.Proofs.YtffgnjgphkdodaaDoor
