import Derived.Test.YtffgnjgphkdodaaGreatDoorV28
import Derived.Test.YtffgnjgphkdodaaGreatDoorV10
import Derived.Test.YtffgnjgphkdodaaGreatDoorV33
import Derived.Test.YtffgnjgphkdodaaGreatDoorV8
import Derived.Test.YtffgnjgphkdodaaGreatDoorV30
import Derived.Test.YtffgnjgphkdodaaGreatDoorV24
import Derived.Test.YtffgnjgphkdodaaGreatDoorV16
import Derived.Test.YtffgnjgphkdodaaGreatDoorV18
import Derived.Test.YtffgnjgphkdodaaGreatDoorV38
import Derived.Test.YtffgnjgphkdodaaGreatDoorV23
namespace Go.Proofs.YtffgnjgphkdodaaGreatDoor
open Go Go.RowKit
theorem ZFY (w:World) (g:Nat) (cs:Array Value) : w.grownBy (w.setRow g cs) (some g):=⟨rfl,rfl,rfl,by simp[World.setRow],fun b _ hn=>Zf (fun e=>hn (by rw[e])) cs⟩
def AlonePost (u:Unit_) (t:Int) (F:List Int) (n:Int) (w:World) (e:Ending) (w':World) : Prop:=∃ r,e=.returned (.tuple #[r,.bool (aloneR u t F n).2.1,.int .i64 (aloneR u t F n).2.2])∧w'.ownsRow w.heap.size 3 1 r (aloneR u t F n).1.length (ints (aloneR u t F n).1)∧Below w.heap.size w w'
set_option maxRecDepth 100000 in
set_option maxHeartbeats 1000000 in
theorem ZDN (v1 v2:Value) (L:List (List Int)) (w:World) (h1:Sl (Cells intsV) 1 (cmap w) v1 L) (h2:Sl (Cells intsV) 1 (cmap w) v2 L) :
  Calls Tryz.prog 37 #[v1,v2] w fun e w'=>e=.returned (.bool true)∧∃ n,w'=w.drewN n:=by
 obtain⟨A1,c1,rfl,-⟩:=id h1
 obtain⟨A2,c2,rfl,-⟩:=id h2
 have b1:=h1.len.2.2
 have hb:((L.length:Int) != (L.length:Int))=false:=by simp
 go_enter Tryz.func37,Tryz.ntmps37
 go_wp2
 go_loopw [5] (fun v wr=>∃ (k n:Nat),v=.int .i64 k∧k≤L.length∧wr=w.drewN n) (fun v _=>L.length - (intOf v).toNat)
 case atStart=>exact⟨0,0,rfl,by omega,rfl⟩
 case round =>
  obtain⟨k,n,rfl,hk,hw⟩:=hrel
  have m1:Sl (Cells intsV) 1 (cmap wr) (.slice A1 L.length c1) L:=by rw[hw];exact h1
  have m2:Sl (Cells intsV) 1 (cmap wr) (.slice A2 L.length c2) L:=by rw[hw];exact h2
  have HW:=Hd_ hw;clear hw
  by_cases hlt:k < L.length
  ·obtain⟨l,hl⟩ : ∃ l,L[k]? = some l:=⟨_,List.getElem?_eq_getElem hlt⟩
   obtain⟨bb1,o1,rfl,_,⟨l1,rfl,g1⟩,q1⟩:=m1.at_ hl
   obtain⟨bb2,o2,rfl,_,⟨l2,rfl,g2⟩,q2⟩:=m2.at_ hl
   have p1:wr.cell? ⟨bb1,o1+k,none⟩=some l1:=by have:=q1 0 l1 rfl;rwa [Nat.mul_one] at this
   have p2:wr.cell? ⟨bb2,o2+k,none⟩=some l2:=by have:=q2 0 l2 rfl;rwa [Nat.mul_one] at this
   obtain⟨a1,d1,rfl,-⟩:=id g1
   obtain⟨a2,d2,rfl,-⟩:=id g2
   clear q1 q2
   have HL:=Hd_ hl;clear hl
   have hk0:(0:Int)≤k:=by omega
   have hkl:(k:Int) < L.length:=by omega
   go_wp2
   go_quiet (first | (go_at_call 79;refine Calls.quiet_of ((ZBI _ _ l l _ (by exact g1) (by exact g2)).mono fun e w' ⟨h1,h2⟩=>⟨by rw[h1,decide_eq_true rfl],h2⟩)))
   go_wp2
   go_roundw
   case rel=>exact⟨k+1,_,by go_num,by omega,by rw[HW.out];exact World.drewN_drewN _ _ _⟩
   case measure=>simp[intOf];omega
  ·go_wp2
   go_ret
   exact⟨rfl,_,HW.out⟩
open Classical in
noncomputable def domT (g:Graph) (i k:Nat) : List Bool:=(List.range g.nodes.length).map fun n=>if n < k then decide (Rch g i∧Rch g n∧DomC g i n) else false
noncomputable def domB (g:Graph) (i:Nat) : List Bool:=domT g i g.nodes.length
structure RowsB (g:Graph) (w:World) (X N i B:Nat) (vs:List Value) : Prop where
 blk:Blk w X 28 vs
 len:vs.length=N
 rows:∀ j,j < i→∃ rb,vs[j]? = some (.slice (some ⟨rb,0,none⟩) N N)∧X < rb∧rb < B∧Blk w rb 4 (bools (domB g j))
theorem RowsB.below {g:Graph} {w w':World} {X N i B:Nat} {vs:List Value} (h:RowsB g w X N i B vs) (hb:Below w.heap.size w w') : RowsB g w' X N i B vs :=
 ⟨h.blk.below hb h.blk.lt,h.len,fun j hj=>by
  obtain⟨rb,h1,h2,h3,h4⟩:=h.rows j hj
  exact⟨rb,h1,h2,h3,h4.below hb h4.lt⟩⟩
theorem RowsB.now {g:Graph} {w:World} {X N i B:Nat} {vs:List Value} (h:RowsB g w X N i B vs) : RowsB g w X N i w.heap.size vs :=
 ⟨h.blk,h.len,fun j hj=>by
  obtain⟨rb,h1,h2,h3,h4⟩:=h.rows j hj
  exact⟨rb,h1,h2,h4.lt,h4⟩⟩
theorem RowsB.far {g:Graph} {w:World} {X N i B k:Nat} {vs:List Value} (h:RowsB g w X N i B vs) {R:Nat} (hX:X < R) (hB:B≤R) (v:Value) : RowsB g (w.setCell ⟨R,k,none⟩ v) X N i B vs :=
 ⟨h.blk.far (p:=⟨R,k,none⟩) (by show X≠R;omega) _,h.len,fun j hj=>by
  obtain⟨rb,h1,h2,h3,h4⟩:=h.rows j hj
  exact⟨rb,h1,h2,h3,h4.far (p:=⟨R,k,none⟩) (by show rb≠R;omega) _⟩⟩
theorem RowsB.next {g:Graph} {w:World} {X N i B rb:Nat} {vs:List Value} (h:RowsB g w X N i B vs) (hi:i < N) (hr:Blk w rb 4 (bools (domB g i))) (hX:X < rb) (hB:B≤rb) : RowsB g (w.setCell ⟨X,i,none⟩ (.slice (some ⟨rb,0,none⟩) N N)) X N (i+1) (rb+1) (vs.set i (.slice (some ⟨rb,0,none⟩) N N)) :=
 ⟨h.blk.set_ i _,by rw[List.length_set];exact h.len,fun j hj=>by
  by_cases e:j=i
  ·subst e
   exact⟨rb,by rw[List.getElem?_set,if_pos rfl,if_pos (by rw[h.len];exact hi)],hX,by omega,hr.far (p:=⟨X,j,none⟩) (by show rb≠X;omega) _⟩
  ·obtain⟨rb',h1,h2,h3,h4⟩:=h.rows j (by omega)
   exact⟨rb',by rw[List.getElem?_set,if_neg (fun q=>e q.symm)];exact h1,h2,by omega,h4.far (p:=⟨X,i,none⟩) (by show rb'≠X;omega) _⟩⟩
attribute [local go_sem] readAtW readUpon
structure LK (g:Graph) (h:Nat) (ins:List Bool) (T:List Int) (tl:Nat→Prop) (hd:Prop) (k:Nat) (ex:Nat→Nat→Prop) : Prop where
 len:ins.length=g.nodes.length
 sub:∀ n:Nat,ins[n]? = some true→LoopC g h n
 todo:∀ x∈T,∃ n:Nat,x=n∧ins[n]? = some true
 mem:∀ n:Nat,ins[n]? = some true→(n:Int)∈T∨(hd∧n=h)
 tails:∀ p,BackE g h p→tl p→ins[p]? = some true
 closed:∀ (j x:Nat),j < k→T[j]? = some (x:Int)→x≠h→∀ q,Edge g q x→Rch g q→ins[q]? = some true∨ex x q
section
variable {g:Graph} {h:Nat} {ins:List Bool} {T:List Int} {tl:Nat→Prop} {hd:Prop} {k:Nat} {ex:Nat→Nat→Prop}
theorem LK.start:LK g h (List.replicate g.nodes.length false) [] (fun _=>False) False 0 (fun _ _=>False):=by
 have hno:∀ n:Nat,(List.replicate g.nodes.length false)[n]? = some true→False:=fun n hn=>by
  rw[List.getElem?_replicate] at hn
  split at hn <;> cases hn
 exact⟨by simp,fun n hn=>(hno n hn).elim,fun x hx=>(by cases hx),fun n hn=>(hno n hn).elim,fun _ _ q=>q.elim,fun j x hj=>by omega⟩
theorem LK.pass {tl':Nat→Prop} (hl:LK g h ins T tl hd k ex) (ht:∀ q,BackE g h q→tl' q→tl q∨ins[q]? = some true) : LK g h ins T tl' hd k ex :=
 ⟨hl.len,hl.sub,hl.todo,hl.mem,fun q hq hqt=>by
  rcases ht q hq hqt with q1 | q1
  ·exact hl.tails q hq q1
  ·exact q1,hl.closed⟩
theorem LK.narrow {ex':Nat→Nat→Prop} (hl:LK g h ins T tl hd k ex) (hex:∀ x q,Rch g q→ex x q→ex' x q∨ins[q]? = some true) : LK g h ins T tl hd k ex' :=
 ⟨hl.len,hl.sub,hl.todo,hl.mem,hl.tails,fun j x hj hx hne q he hr=>by
  rcases hl.closed j x hj hx hne q he hr with q1 | q1
  ·exact .inl q1
  ·rcases hex x q hr q1 with q2 | q2
   ·exact .inr q2
   ·exact .inl q2⟩
theorem LK.add {n:Nat} {tl':Nat→Prop} {ex':Nat→Nat→Prop} (hl:LK g h ins T tl hd k ex) (hc:LoopC g h n) (hnl:n < ins.length) (hk:k≤T.length) (ht:∀ q,BackE g h q→tl' q→tl q∨q=n) (hex:∀ x q,ex x q→ex' x q∨q=n) : LK g h (ins.set n true) (T ++ [(n:Int)]) tl' hd k ex':=by
 have hset:∀ m:Nat,(ins.set n true)[m]? = some true ↔ ins[m]? = some true∨m=n:=by
  intro m
  rw[List.getElem?_set]
  by_cases e:n=m
  ·subst e;simp[hnl]
  ·rw[if_neg e]
   constructor
   ·exact .inl
   ·rintro(q | q)
    ·exact q
    ·exact absurd q.symm e
 refine⟨by simpa using hl.len,fun m hm=>?_,fun x hx=>?_,fun m hm=>?_,fun p hp hpt=>?_,fun j x hj hx hne q he hr=>?_⟩
 ·rcases(hset m).1 hm with q | q
  ·exact hl.sub m q
  ·subst q;exact hc
 ·rw[List.mem_append,List.mem_singleton] at hx
  rcases hx with hx | hx
  ·obtain⟨m,q1,q2⟩:=hl.todo x hx
   exact⟨m,q1,(hset m).2 (.inl q2)⟩
  ·exact⟨n,hx,(hset n).2 (.inr rfl)⟩
 ·rcases(hset m).1 hm with q | q
  ·rcases hl.mem m q with q2 | q2
   ·exact .inl (by simp[q2])
   ·exact .inr q2
  ·exact .inl (by simp[q])
 ·rcases ht p hp hpt with q | q
  ·exact(hset p).2 (.inl (hl.tails p hp q))
  ·exact(hset p).2 (.inr q)
 ·rw[List.getElem?_append_left (by omega)] at hx
  rcases hl.closed j x hj hx hne q he hr with q1 | q1
  ·exact .inl ((hset q).2 (.inl q1))
  ·rcases hex x q q1 with q2 | q2
   ·exact .inr q2
   ·exact .inl ((hset q).2 (.inr q2))
theorem LK.head (hl:LK g h ins T tl hd k ex) (hc:LoopC g h h) (hnl:h < ins.length) : LK g h (ins.set h true) T tl True k ex:=by
 have hset:∀ m:Nat,(ins.set h true)[m]? = some true ↔ ins[m]? = some true∨m=h:=by
  intro m
  rw[List.getElem?_set]
  by_cases e:h=m
  ·subst e;simp[hnl]
  ·rw[if_neg e]
   constructor
   ·exact .inl
   ·rintro(q | q)
    ·exact q
    ·exact absurd q.symm e
 refine⟨by simpa using hl.len,fun m hm=>?_,fun x hx=>?_,fun m hm=>?_,fun p hp hpt=>(hset p).2 (.inl (hl.tails p hp hpt)),fun j x hj hx hne q he hr=>?_⟩
 ·rcases(hset m).1 hm with q | q
  ·exact hl.sub m q
  ·subst q;exact hc
 ·obtain⟨m,q1,q2⟩:=hl.todo x hx
  exact⟨m,q1,(hset m).2 (.inl q2)⟩
 ·rcases(hset m).1 hm with q | q
  ·rcases hl.mem m q with q2 | q2
   ·exact .inl q2
   ·exact .inr ⟨trivial,q2.2⟩
  ·exact .inr ⟨trivial,q⟩
 ·rcases hl.closed j x hj hx hne q he hr with q1 | q1
  ·exact .inl ((hset q).2 (.inl q1))
  ·exact .inr q1
theorem LK.skip (hl:LK g h ins T tl hd k (fun _ _=>False)) (hx:T[k]? = some (h:Int)) : LK g h ins T tl hd (k+1) (fun _ _=>False) :=
 ⟨hl.len,hl.sub,hl.todo,hl.mem,hl.tails,fun j x hj hjx hne q he hr=>by
  by_cases e:j=k
  ·subst e
   rw[hx] at hjx
   injection hjx with hjx
   exact absurd (by omega) hne
  ·exact hl.closed j x (by omega) hjx hne q he hr⟩
theorem LK.open_ {n:Nat} {Q:List Int} (hl:LK g h ins T tl hd k (fun _ _=>False)) (hx:T[k]? = some (n:Int)) (hQ:∀ q:Nat,Edge g q n→(q:Int)∈Q) : LK g h ins T tl hd (k+1) (fun x q=>x=n∧(q:Int)∈Q.drop 0) :=
 ⟨hl.len,hl.sub,hl.todo,hl.mem,hl.tails,fun j x hj hjx hne q he hr=>by
  by_cases e:j=k
  ·subst e
   rw[hx] at hjx
   injection hjx with hjx
   obtain rfl:x=n:=by omega
   exact .inr ⟨rfl,by rw[List.drop_zero];exact hQ q he⟩
  ·rcases hl.closed j x (by omega) hjx hne q he hr with q1 | q1
   ·exact .inl q1
   ·exact q1.elim⟩
theorem LK.done (hl:LK g h ins T tl True T.length (fun _ _=>False)) (ht:∀ p,BackE g h p→tl p) (hh:ins[h]? = some true) (i:Nat) : ins[i]? = some true ↔ LoopC g h i:=by
 refine⟨hl.sub i,fun hc=>?_⟩
 induction hc with
 | head _=>exact hh
 | tail hb=>exact hl.tails _ hb (ht _ hb)
 | @back j q _ hne he hr ih =>
  rcases hl.mem _ ih with q1 | q1
  ·obtain⟨p,hp⟩:=List.getElem?_of_mem q1
   rcases hl.closed p j (List.getElem?_eq_some_iff.1 hp).1 hp hne q he hr with q2 | q2
   ·exact q2
   ·exact q2.elim
  ·exact absurd q1.2 hne
end
structure DqK (g:Graph) (h:Nat) (w3:World) (IB:Nat) (ins:List Bool) (wr:World) : Prop where
 in_:Blk wr IB 4 (bools ins)
 out:Blk wr w3.heap.size 3 (ints (depL g h))
 below:Below w3.heap.size w3 wr
 size:IB+1≤wr.heap.size
theorem DqK.append {g:Graph} {h IB:Nat} {w3 wr wx:World} {ins:List Bool} {v:Value} {n:Nat} {xs:List Value} (hk:DqK g h w3 IB ins wr) (hlt:w3.heap.size < IB) (o:Obj) (hr:(wr.alloc o).ownsRow (IB+1) 3 1 v n xs) (hg:(wr.alloc o).grownBy wx v.ownBlock) : DqK g h w3 IB ins wx:=by
 have hs:=hk.size
 have hne:∀ b,b < IB+1→some b≠v.ownBlock:=fun b hb e=>by have:=Zg hr b e.symm;omega
 refine⟨(hk.in_.alloc o).grown hg (hne IB (by omega)),(hk.out.alloc o).grown hg (hne _ (by omega)),(hk.below.alloc (by have:=hk.below.size;omega) o).grown hg (by have:=hk.below.size;simp;omega) (fun b hb=>by have:=Zg hr b hb;omega),?_⟩
 have:=hg.size
 simp at this
 omega
theorem DqK.set_ {g:Graph} {h IB:Nat} {w3 wr:World} {ins:List Bool} (hk:DqK g h w3 IB ins wr) (hlt:w3.heap.size < IB) (n:Nat) : DqK g h w3 IB (ins.set n true) (wr.setCell ⟨IB,n,none⟩ (.bool true)) :=
 ⟨by have h1:=hk.in_.set_ n (.bool true);rwa [show(bools ins).set n (.bool true)=bools (ins.set n true) by simp[bools,List.map_set]] at h1,hk.out.far (p:=⟨IB,n,none⟩) (by show w3.heap.size≠IB;omega) _,hk.below.setCell (p:=⟨IB,n,none⟩) (by show w3.heap.size≤IB;omega) _,by rw[World.size_setCell];exact hk.size⟩
end Go.Proofs.YtffgnjgphkdodaaGreatDoor
