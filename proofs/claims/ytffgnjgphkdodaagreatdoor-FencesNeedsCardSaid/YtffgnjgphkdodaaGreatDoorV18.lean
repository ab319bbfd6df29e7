import Derived.Test.YtffgnjgphkdodaaGreatDoorV3
import Derived.Laws.Closers25b
import Derived.Test.YtffgnjgphkdodaaGreatDoorV1
import Derived.Test.YtffgnjgphkdodaaGreatDoorV17
import Derived.Great.BuildSlice
import Derived.Deep.AppendLies
import Derived.Laws.IdiomCopy
import Derived.Test.YtffgnjgphkdodaaGreatDoorV46
import Derived.Test.YtffgnjgphkdodaaGreatDoorV8
import Derived.Test.YtffgnjgphkdodaaGreatDoorCards
import Derived.Test.YtffgnjgphkdodaaGreatDoorTie
import Derived.ProofKit
import Derived.Deep.DeepHandedRow
import Derived.Lib.LaidTab
import Derived.SevenTiedAt
namespace Go.Proofs.YtffgnjgphkdodaaGreatDoor
open Go Go.RowKit
structure Mach where
 at_:List Nat
 slots:List (List Int)
 mem:List Int
 holders:List Int
 prints:List (Int × Int)
def Mach.slot (m:Mach) (t:Nat) (j:Int) : Int:=(((m.slots[t]?).getD [])[j.toNat]?).getD 0
def Mach.val (m:Mach) (t:Nat) (v:Val) : Int:=if v.isSlot then m.slot t v.slot else v.word
structure Did where
 thread:Int
 node:Int
 kind:Int
 thing:Int
 word:Int
 put:Int
deriving DecidableEq
def Did.cells (d:Did) : List Value:=[.int .i64 d.thread,.int .i64 d.node,.int .u8 d.kind,.int .i64 d.thing,.int .i64 d.word,.int .i64 d.put]
def Shape (w w':World) : Prop:=∀ (g:Nat) (cur:Array Value) (t:TypeId),w.heap[g]? = some (.cells cur t (0,0))→∃ cur':Array Value,w'.heap[g]? = some (.cells cur' t (0,0))∧cur'.size=cur.size
theorem Shape.refl (w:World) : Shape w w:=fun _ cur _ h=>⟨cur,h,rfl⟩
theorem Shape.trans {a b c:World} (h:Shape a b) (k:Shape b c) : Shape a c:=fun g cur t hg=>by
 obtain⟨c1,h1,e1⟩:=h g cur t hg
 obtain⟨c2,h2,e2⟩:=k g c1 t h1
 exact⟨c2,h2,e2.trans e1⟩
theorem Shape.alloc (w:World) (o:Obj) : Shape w (w.alloc o):=fun _ cur _ hg=>⟨cur,(heap_alloc_old w o (lt_of_block hg)).trans hg,rfl⟩
theorem Shape.below {w w':World} (h:Below w.heap.size w w') : Shape w w':=fun g cur _ hg=>⟨cur,(h.block g (lt_of_block hg)).trans hg,rfl⟩
theorem Shape.setCell (w:World) (g i:Nat) (v:Value) : Shape w (w.setCell ⟨g,i,none⟩ v):=fun k cur t hk=>by
 by_cases e:k=g
 ·subst e
  exact⟨_,heap_setCell_same w k i cur t v hk,by simp⟩
 ·exact⟨cur,(heap_setCell_other w ⟨g,i,none⟩ k v e).trans hk,rfl⟩
def OkRow (w:World) (base:Nat) (e:TypeId) (size:Nat) (v:Value) (n:Nat) : Prop:=∃ ys,w.ownsRow base e size v n ys
theorem OkRow.shape {w w':World} {base:Nat} {e:TypeId} {size:Nat} {v:Value} {n:Nat} (h:OkRow w base e size v n) (hs:Shape w w') : OkRow w' base e size v n:=by
 obtain⟨ys,h1,h2⟩:=h
 rcases h2 with⟨rfl,rfl⟩ | ⟨g,cap,cur,rfl,hb,hh,hn,hm,hc,ht⟩
 ·exact⟨[],by simp,.inl ⟨rfl,rfl⟩⟩
 ·obtain⟨cur',k1,k2⟩:=hs g cur e hh
  refine⟨cur'.toList.take (n * size),?_,.inr ⟨g,cap,cur',rfl,hb,k1,hn,hm,by omega,rfl⟩⟩
  have:n * size≤cap * size:=Nat.mul_le_mul_right _ hn
  simp;omega
theorem OkRow.low {w:World} {base base':Nat} {e:TypeId} {size:Nat} {v:Value} {n:Nat} (h:OkRow w base e size v n) (hb:base'≤base) : OkRow w base' e size v n:=by
 obtain⟨ys,h1,h2⟩:=h
 refine⟨ys,h1,?_⟩
 rcases h2 with k | ⟨g,cap,cur,k1,k2,k3⟩
 ·exact .inl k
 ·exact .inr ⟨g,cap,cur,k1,by omega,k3⟩
theorem OkRow.at_ {w:World} {base:Nat} {e:TypeId} {v:Value} {n:Nat} (h:OkRow w base e 1 v n) {i:Nat} (hi:i < n) : ∃ g c x,v=.slice (some ⟨g,0,none⟩) n c∧base≤g∧w.cell? ⟨g,i,none⟩=some x∧w.frozen? ⟨g,i,none⟩=false∧∃ cur,w.heap[g]? = some (.cells cur e (0,0)):=by
 obtain⟨ys,h1,h2⟩:=h
 rcases id h2 with⟨rfl,rfl⟩ | ⟨g,cap,cur,rfl,hb,hh,hn,hm,hc,ht⟩
 ·omega
 ·have hlt:i < cur.size:=by omega
  refine⟨g,cap,cur[i],rfl,hb,?_,frozen_of_row w g i _ _ hh,cur,hh⟩
  rw[cell_of_row w g i cur e (0,0) hh]
  exact Array.getElem?_eq_getElem hlt
theorem ZH5 {w:World} {g g':Nat} {c c':Array Value} {t t':TypeId} (h:w.heap[g]? = some (.cells c t (0,0))) (h':w.heap[g']? = some (.cells c' t' (0,0))) (hne:t≠t') : g≠g':=by
 intro e
 subst e
 rw[h] at h'
 injection h' with h'
 injection h' with _ h' _
 exact hne h'
theorem ZH8 {w:World} {b b':Nat} {t t':TypeId} {s s' n n':Nat} {v v':Value} {xs xs':List Value} (h:w.ownsRow b t s v n xs) (h':w.ownsRow b' t' s' v' n' xs') (hne:t≠t') : v.ownBlock=none∨v.ownBlock≠v'.ownBlock:=by
 rcases h.2 with⟨rfl,_⟩ | ⟨g,cap,cur,rfl,_,hh,_⟩
 ·exact .inl rfl
 ·refine .inr ?_
  rcases h'.2 with⟨rfl,_⟩ | ⟨g',cap',cur',rfl,_,hh',_⟩
  ·simp[Value.ownBlock]
  ·simp only[Value.ownBlock]
   intro e
   injection e with e
   exact ZH5 hh hh' hne e
def OkRows (w:World) (base:Nat) (t e:TypeId) (v:Value) (n K:Nat) : Prop:=∃ ys,w.ownsRow base t 1 v n ys∧∀ r∈ys,∃ k,k≤K∧OkRow w base e 1 r k
section
variable {w w':World} {base:Nat} {t e:TypeId} {v:Value} {n K:Nat}
theorem OkRows.nil (w:World) (base:Nat) (t e:TypeId) (K:Nat) : OkRows w base t e (.slice none 0 0) 0 K:=⟨[],World.ownsRow_nil _ _ _ _,fun _ h=>by cases h⟩
theorem OkRows.row (h:OkRows w base t e v n K) : OkRow w base t 1 v n:=by obtain⟨ys,h1,_⟩:=h;exact⟨ys,h1⟩
theorem OkRows.form (h:OkRows w base t e v n K) : ∃ A c,v=.slice A n c:=by obtain⟨ys,h1,_⟩:=h;obtain⟨A,c,h2,_⟩:=ZF h1;exact⟨A,c,h2⟩
theorem OkRows.lt (h:OkRows w base t e v n K) : ∀ k,v.ownBlock=some k→base≤k∧k < w.heap.size:=by obtain⟨ys,h1,_⟩:=h;exact h1.lt
theorem OkRows.mono {K':Nat} (h:OkRows w base t e v n K) (hK:K≤K') : OkRows w base t e v n K':=by
 obtain⟨ys,h1,h2⟩:=h
 exact⟨ys,h1,fun r hr=>by obtain⟨k,h3,h4⟩:=h2 r hr;exact⟨k,by omega,h4⟩⟩
theorem OkRows.low {base':Nat} (h:OkRows w base t e v n K) (hb:base'≤base) : OkRows w base' t e v n K:=by
 obtain⟨ys,h1,h2⟩:=h
 refine⟨ys,⟨h1.1,?_⟩,fun r hr=>by obtain⟨k,h3,h4⟩:=h2 r hr;exact⟨k,h3,h4.low hb⟩⟩
 rcases h1.2 with k | ⟨g,cap,cur,k1,k2,k3⟩
 ·exact .inl k
 ·exact .inr ⟨g,cap,cur,k1,by omega,k3⟩
theorem OkRows.far (h:OkRows w base t e v n K) (hs:Shape w w') (hc:∀ g,v.ownBlock=some g→w'.heap[g]? = w.heap[g]?) : OkRows w' base t e v n K:=by
 obtain⟨ys,h1,h2⟩:=h
 refine⟨ys,⟨h1.1,?_⟩,fun r hr=>by obtain⟨k,h3,h4⟩:=h2 r hr;exact⟨k,h3,h4.shape hs⟩⟩
 rcases h1.2 with k | ⟨g,cap,cur,rfl,k2,k3,k4⟩
 ·exact .inl k
 ·exact .inr ⟨g,cap,cur,rfl,k2,(hc g rfl).trans k3,k4⟩
theorem OkRows.below (h:OkRows w base t e v n K) (hb:Below w.heap.size w w') : OkRows w' base t e v n K :=
 h.far (Shape.below hb) fun g hg=>hb.block g (h.lt g hg).2
theorem OkRows.at_ (h:OkRows w base t e v n K) {i:Nat} (hi:i < n) : ∃ g c r k,v=.slice (some ⟨g,0,none⟩) n c∧base≤g∧w.cell? ⟨g,i,none⟩=some r∧w.frozen? ⟨g,i,none⟩=false∧(∃ cur,w.heap[g]? = some (.cells cur t (0,0)))∧k≤K∧OkRow w base e 1 r k:=by
 obtain⟨ys,h1,h2⟩:=h
 obtain⟨g,c,x,rfl,hb,hx,hf,cur,hh⟩:=OkRow.at_ ⟨ys,h1⟩ hi
 have hl:i < ys.length:=by have:=h1.1;omega
 have hy:ys[i]? = some ys[i]:=List.getElem?_eq_getElem hl
 have hcell:=h1.cells (g:=g) rfl i _ hy
 rw[ZDo,Nat.zero_add,hx] at hcell
 injection hcell with hcell
 obtain⟨k,h3,h4⟩:=h2 _ (List.mem_of_getElem? hy)
 exact⟨g,c,x,k,rfl,hb,hx,hf,⟨cur,hh⟩,h3,by rw[hcell];exact h4⟩
theorem OkRows.put {A:Option Addr} {g c i k:Nat} {r:Value} (h:OkRows w base t e (.slice A n c) n K) (hA:A=some ⟨g,0,none⟩) (_hi:i < n) (hr:OkRow w base e 1 r k) (hk:k≤K) : OkRows (w.setCell ⟨g,i,none⟩ r) base t e (.slice A n c) n K:=by
 subst hA
 have hsh:=Shape.setCell w g i r
 obtain⟨ys,h1,h2⟩:=h
 rcases id h1.2 with⟨h0,_⟩ | ⟨g',cap,cur,h0,hb,hh,hn,hm,hcs,ht⟩
 ·cases h0
 ·injection h0 with e1 e2 e3
  injection e1 with e1
  injection e1 with e1
  subst e1 e3
  refine⟨ys.set i r,⟨by simp[h1.1],.inr ⟨g,c,_,rfl,hb,heap_setCell_same w g i cur t r hh,hn,hm,by simp[hcs],?_⟩⟩,fun x hx=>?_⟩
  ·rw[Array.toList_setIfInBounds,List.take_set,ht]
  ·rcases List.mem_or_eq_of_mem_set hx with hx | hx
   ·obtain⟨k',h3,h4⟩:=h2 x hx
    exact⟨k',h3,h4.shape hsh⟩
   ·subst hx
    exact⟨k,hk,hr.shape hsh⟩
theorem OkRows.push {w2:World} {r v':Value} {k:Nat} {ys:List Value} (_h:w.ownsRow base t 1 v n ys) (h2:∀ r∈ys,∃ k,k≤K∧OkRow w base e 1 r k) (hte:t≠e) (hr:OkRow w base e 1 r k) (hk:k≤K) (ho:w2.ownsRow base t 1 v' (n+1) (ys ++ [r])) (hg:w.grownBy w2 v.ownBlock) : OkRows w2 base t e v' (n+1) K:=by
 have kp:∀ r k,OkRow w base e 1 r k→OkRow w2 base e 1 r k:=fun r k ⟨zs,hz⟩=>⟨zs,hz.kept hg (ZH8 hz _h (fun e=>hte e.symm))⟩
 refine⟨_,ho,fun x hx=>?_⟩
 rcases List.mem_append.1 hx with hx | hx
 ·obtain⟨k',h3,h4⟩:=h2 x hx
  exact⟨k',h3,kp _ _ h4⟩
 ·rw[List.mem_singleton] at hx
  subst hx
  exact⟨k,hk,kp _ _ hr⟩
end
section
variable {P:Program}
end
structure FrW (S:Nat→Prop) (w w':World) : Prop where
 os:w'.os=w.os
 tape:w'.tape=w.tape
 output:w'.output=w.output
 size:w.heap.size≤w'.heap.size
 block:∀ k,k < w.heap.size→¬ S k→w'.heap[k]? = w.heap[k]?
section
variable {S S' R:Nat→Prop} {w w' a b c:World}
theorem FrW.refl (S:Nat→Prop) (w:World) : FrW S w w:=⟨rfl,rfl,rfl,Nat.le_refl _,fun _ _ _=>rfl⟩
theorem FrW.trans (h:FrW S a b) (k:FrW S b c) : FrW S a c :=
 ⟨k.os.trans h.os,k.tape.trans h.tape,k.output.trans h.output,Nat.le_trans h.size k.size,fun i hi hS=>(k.block i (Nat.lt_of_lt_of_le hi h.size) hS).trans (h.block i hi hS)⟩
theorem FrW.mono (h:FrW S w w') (hS:∀ b,S b→S' b) : FrW S' w w':=⟨h.os,h.tape,h.output,h.size,fun k hk hn=>h.block k hk fun e=>hn (hS k e)⟩
theorem FrW.of_below (S:Nat→Prop) (h:Below w.heap.size w w') : FrW S w w':=⟨h.os,h.tape,h.output,h.size,fun k hk _=>h.block k hk⟩
theorem FrW.setCell (w:World) {p:Addr} (hp:S p.block) (u:Value) : FrW S w (w.setCell p u):=⟨rfl,rfl,rfl,by simp[World.setCell],fun _ _ hn=>Below.heap_setCell _ _ _ _ fun e=>hn (e ▸ hp)⟩
theorem FrW.grown {row:Option Nat} (hg:w.grownBy w' row) (hr:∀ k,row=some k→S k) : FrW S w w':=⟨hg.os,hg.tape,hg.output,hg.size,fun k hk hn=>hg.block k hk fun e=>hn (hr k e.symm)⟩
theorem FrW.below {B:Nat} (h:FrW S w w') (hS:∀ k,S k→B≤k) (hB:B≤w.heap.size) : Below B w w' :=
 ⟨h.os,h.tape,h.output,h.size,fun k hk=>h.block k (by omega) fun e=>by have:=hS k e;omega⟩
theorem FrW.cell (h:FrW S w w') {p:Addr} {v:Value} (hc:w.cell? p=some v) (hp:¬ S p.block) : w'.cell? p=some v :=
 (World.cell?_of_block (h.block p.block (World.block_lt_of_cell? w p hc) hp)).trans hc
theorem FrW.on (h:FrW S w w') (hR:∀ b,R b→¬ S b) : (on w R).le (on w' R):=ZZ (fun b hb hlt=>h.block b hlt (hR b hb)) (fun _ h=>h)
theorem Blk.fr {g:Nat} {t:TypeId} {cs:List Value} (h:Blk w g t cs) (hf:FrW S w w') (hg:¬ S g) : Blk w' g t cs:=(hf.block g h.lt hg).trans h
theorem ZBK {base:Nat} {e:TypeId} {size n:Nat} {v:Value} {xs:List Value} (h:w.ownsRow base e size v n xs) (hf:FrW S w w') (hv:∀ b,v.ownBlock=some b→¬ S b) : w'.ownsRow base e size v n xs:=by
 refine⟨h.1,?_⟩
 rcases h.2 with k | ⟨g,cap,cur,rfl,k2,k3,k4⟩
 ·exact .inl k
 ·exact .inr ⟨g,cap,cur,rfl,k2,(hf.block g (lt_of_block k3) (hv g rfl)).trans k3,k4⟩
end
structure Lay where
 sv:Value
 lv:Value
 gv:Value
 av:Value
 ov:Value
 mv:Value
 hv:Value
 pv:Value
 gl:List Nat
def Lay.cells (L:Lay) : List Value:=[L.sv,L.lv,L.gv,L.av,L.ov,L.mv,L.hv,L.pv]
def Lay.mut (L:Lay) (g b:Nat) : Prop:=b=g∨L.av.ownBlock=some b∨L.mv.ownBlock=some b∨L.hv.ownBlock=some b∨L.pv.ownBlock=some b∨b∈L.gl
def SlotC (m:CM) (b o:Nat) (x:Nat × Nat) : Prop:=m b o=some (.slice (some ⟨x.1,0,none⟩) x.2 x.2)
instance:Mono SlotC:=⟨fun hm h=>hm _ _ _ h⟩
def i64sV (l:List Int) : List Value:=l.map (Value.int .i64)
def natsV (l:List Nat) : List Value:=l.map fun n:Nat=>Value.int .i64 n
def printsV (l:List (Int × Int)) : List Value:=(l.map fun p=>[Value.int .i64 p.1,Value.int .i64 p.2]).flatten
structure MachB (w:World) (R:Nat→Prop) (g:Nat) (L:Lay) (u:Unit_) (m:Mach) : Prop where
 blk:Blk w g 115 L.cells
 unit:UnitV (on w R) [L.sv,L.lv,L.gv] u
 at_:w.ownsRow 0 3 1 L.av m.at_.length (natsV m.at_)
 mem:w.ownsRow 0 2 1 L.mv m.mem.length (i64sV m.mem)
 hold:w.ownsRow 0 3 1 L.hv m.holders.length (i64sV m.holders)
 prints:w.ownsRow 0 232 2 L.pv m.prints.length (printsV m.prints)
 outer:Sl SlotC 1 (on w R) L.ov (L.gl.zip (m.slots.map List.length))
 gl:L.gl.length=m.slots.length
 slot:∀ (t k:Nat) (l:List Int),L.gl[t]? = some k→m.slots[t]? = some l→Blk w k 2 (i64sV l)
 nodup:L.gl.Nodup
 memgl:∀ b,L.mv.ownBlock=some b→b ∉ L.gl
 athold:∀ b,L.av.ownBlock=some b→L.hv.ownBlock≠some b
 sep:∀ b,L.mut g b→¬ R b
section
variable {w w':World} {R S:Nat→Prop} {g:Nat} {L:Lay} {u:Unit_} {m:Mach}
theorem MachB.glb (h:MachB w R g L u m) {k:Nat} (hk:k∈L.gl) : ∃ cur,w.heap[k]? = some (.cells cur 2 (0,0)):=by
 obtain⟨t,ht⟩:=List.getElem?_of_mem hk
 have hl:t < m.slots.length:=by rw[← h.gl];exact(List.getElem?_eq_some_iff.1 ht).1
 exact⟨_,h.slot t k _ ht (List.getElem?_eq_getElem hl)⟩
theorem MachB.lt (h:MachB w R g L u m) {b:Nat} (hb:L.mut g b) : b < w.heap.size:=by
 rcases hb with rfl | hb | hb | hb | hb | hb
 ·exact h.blk.lt
 ·exact(h.at_.lt b hb).2
 ·exact(h.mem.lt b hb).2
 ·exact(h.hold.lt b hb).2
 ·exact(h.prints.lt b hb).2
 ·obtain⟨_,hh⟩:=h.glb hb;exact lt_of_block hh
theorem MachB.fr (h:MachB w R g L u m) (hf:FrW S w w') (hS:∀ b,L.mut g b→¬ S b) (hR:∀ b,R b→¬ S b) : MachB w' R g L u m where
 blk:=h.blk.fr hf (hS g (.inl rfl))
 unit:=h.unit.mono (hf.on hR)
 at_:=ZBK h.at_ hf fun b hb=>hS b (.inr (.inl hb))
 mem:=ZBK h.mem hf fun b hb=>hS b (.inr (.inr (.inl hb)))
 hold:=ZBK h.hold hf fun b hb=>hS b (.inr (.inr (.inr (.inl hb))))
 prints:=ZBK h.prints hf fun b hb=>hS b (.inr (.inr (.inr (.inr (.inl hb)))))
 outer:=h.outer.mono (hf.on hR)
 gl:=h.gl
 slot:=fun t k l h1 h2=>(h.slot t k l h1 h2).fr hf (hS k (.inr (.inr (.inr (.inr (.inr (List.mem_of_getElem? h1)))))))
 nodup:=h.nodup
 memgl:=h.memgl
 athold:=h.athold
 sep:=h.sep
theorem MachB.below (h:MachB w R g L u m) (hf:Below w.heap.size w w') : MachB w' R g L u m :=
 h.fr (FrW.of_below (fun _=>False) hf) (fun _ _=>id) (fun _ _=>id)
theorem MachB.drewN (h:MachB w R g L u m) (n:Nat) : MachB (w.drewN n) R g L u m:=h.below (ZK w n)
end
section
variable {S S':Nat→Prop} {w y x a b c:World}
theorem FrW.andThen (h:FrW S a b) (k:FrW S' b c) (hS:∀ q,q < a.heap.size→S' q→S q) : FrW S a c :=
 ⟨k.os.trans h.os,k.tape.trans h.tape,k.output.trans h.output,Nat.le_trans h.size k.size,fun i hi hn=>(k.block i (Nat.lt_of_lt_of_le hi h.size) fun e=>hn (hS i hi e)).trans (h.block i hi hn)⟩
end
structure Apd (y x0 x1:World) (base:Nat) (e:TypeId) (size:Nat) (v:Value) (n:Nat) (xs news:List Value) (nb cap:Nat) : Prop where
 bel:Below y.heap.size y x0
 gr:x0.grownBy x1 v.ownBlock
 own:x1.ownsRow base e size (.slice (some ⟨nb,0,none⟩) (n+1) cap) (n+1) (xs ++ news)
 at_:v.ownBlock=some nb∨nb=x0.heap.size
theorem Apd.fr {y x0 x1:World} {base:Nat} {e:TypeId} {size:Nat} {v:Value} {n:Nat} {xs news:List Value} {nb cap:Nat} (h:Apd y x0 x1 base e size v n xs news nb cap) : FrW (fun q=>v.ownBlock=some q) y x1 :=
 (FrW.of_below _ h.bel).andThen (FrW.grown (S:=fun q=>v.ownBlock=some q) h.gr fun _q e=>e) (fun _ _ e=>e)
section
variable {P:Program} {ops:Array Oper} {y:World} {base:Nat} {e:TypeId} {size:Nat} {v:Value} {n:Nat} {xs:List Value} {news:List Value} {g c:Nat} {i1 i2 i3:Nat}
end
section
variable {P:Program} {ops:Array Oper} {y:World} {base:Nat} {e:TypeId} {size:Nat} {v:Value} {n:Nat} {xs:List Value} {news:Value→List Value} {g c:Nat} {T0:TypeId} {cs0:List Value} {len0:Nat} {i0 i1 i2 i3:Nat}
end
end Go.Proofs.YtffgnjgphkdodaaGreatDoor
namespace Go.Proofs.YtffgnjgphkdodaaGreatDoor
open Go Go.RowKit Go.ChangeShapes Go.WideShapes Go.ChangeAt
theorem ZJE:ownKnob Tryz.prog.godebug=none:=by kernel_rfl
theorem g_tab : Tryz.prog.globalNamed "math/bits.deBruijn32tab" = some 0:=by kernel_rfl
theorem ZHW:(Tryz.prog.globals[0]?).map (·.type)=some 246:=by kernel_rfl
theorem c_tab : Tryz.prog.cellsOf 246 = 32:=by kernel_rfl
theorem c_u8 : Tryz.prog.cellsOf 5 = 1:=by kernel_rfl
theorem tab_of {W:World} (h:laidMet Tryz.prog [("math/bits.deBruijn32tab",Rows.laid_math_bits_deBruijn32tab)] W) : Tab W:=by
 have t:Lib.TabIs Tryz.prog W "math/bits.deBruijn32tab" .u8 [0,1,28,2,29,14,24,3,30,22,20,15,25,17,4,8,31,27,13,23,21,19,16,7,26,12,18,6,11,5,10,9] :=
  Lib.tabIs_of_head (rest:=[]) g_tab ZHW Tryz.underlying246 Tryz.underlying5 c_u8 c_tab h
 intro j hj
 have hj2:j < 32:=hj
 have:=t.cell g_tab j (by simpa using hj2)
 rw[this]
 congr 2
 have:∀ j,j < 32→([0,1,28,2,29,14,24,3,30,22,20,15,25,17,4,8,31,27,13,23,21,19,16,7,26,12,18,6,11,5,10,9] : List Int).getD j 0=((Lib.deBruijn32tab.getD j 0:Nat) : Int):=by decide +kernel
 exact this j hj2
theorem ZJO:laidOutB Tryz.prog=true:=by kernel_rfl
section
variable {H:Type} {enc:TypeId × Value→H} {P:Program}
theorem ZHG {f:Func} {s:ChangeSpec} {apart fresh handsOn again:Bool} {W W':World} {args:Array Value} {v:Value} {ds gs:List (DataW H)} {before pa pv:List MemPlace}
  (hW:DataW.Whole enc P f.params.toList s.vars apart W args.toList ds gs before)
  (hres:∀ (b:Nat) (sp:Nat→Bool) (hd:Bool),DataW.TrodAll enc P W' b sp hd f.resultTypes.toList (v.resultList f.resultTypes.size) (s.fn H (ds ++ gs)).results [])
  (hargs:∀ sp:Nat→Bool,(∀ p∈before,sp p.block=true)→DataW.TrodAll enc P W' 0 sp true f.params.toList args.toList (s.fn H (ds ++ gs)).args pa)
  (hvars:∀ sp:Nat→Bool,(∀ p∈before,sp p.block=true)→DataW.TrodVars enc P W' sp s.vars (s.fn H (ds ++ gs)).vars pv)
  (hps:before=pa ++ pv) (hb:Below W.heap.size W W')
  (hok:∀ (j:Nat) (t:TypeId) (r:Value),f.resultTypes[j]? = some t→(v.resultList f.resultTypes.size)[j]? = some r→Value.okWide P W' .any 0 t r) :
  s.post enc P f apart fresh handsOn again W args v W':=by
 have hlt:∀ p∈before,p.block < W.heap.size:=fun p hp=>hW.lt p hp
 have hold:∀ p∈before,(fun b=>decide (b < W.heap.size)) p.block=true:=fun p hp=>by simpa using hlt p hp
 refine⟨ds,gs,before,[],pa,pv,hW,hres _ _ _,hargs _ hold,hvars _ hold,World.keptBut_mono (fun p hp=>⟨hp,?_⟩) (hb.frame (·∈before)),fun _=>?_⟩
 ·rw[hps,List.mem_append] at hp
  exact Or.inr hp
 ·obtain⟨_,_,_,_,_,hz,hn⟩:=hW
  refine⟨hok,_,_,([] ++ pa) ++ pv,⟨[] ++ pa,pv,trodAll_append (hargs _ (fun _ _=>rfl)) (hres _ _ _),hvars _ (fun _ _=>rfl),rfl,?_,?_⟩,?_⟩
  ·intro b off hp
   have hin:MemPlace.cell b off∈before:=by rw[hps];simpa using hp
   rw[hb.frozen (hlt _ hin)]
   exact hz b off hin
  ·intro ha
   have:=hn ha
   rw[hps] at this
   simpa using this
  ·intro p hp _
   rw[hps]
   simpa using hp
end
noncomputable def laidWorld (os:Os) : World :=
 { World.holding Tryz.prog os ⟨#[],#[],[]⟩ with heap:=(World.holding Tryz.prog os ⟨#[],#[],[]⟩).heap.modify 0 fun
   | .cells _ t frozen=>.cells #[.int .u8 0,.int .u8 1,.int .u8 28,.int .u8 2,.int .u8 29,.int .u8 14,.int .u8 24,.int .u8 3,.int .u8 30,.int .u8 22,.int .u8 20,.int .u8 15,.int .u8 25,.int .u8 17,.int .u8 4,.int .u8 8,.int .u8 31,.int .u8 27,.int .u8 13,.int .u8 23,.int .u8 21,.int .u8 19,.int .u8 16,.int .u8 7,.int .u8 26,.int .u8 12,.int .u8 18,.int .u8 6,.int .u8 11,.int .u8 5,.int .u8 10,.int .u8 9] t frozen
   | o=>o }
section
variable {H:Type} {enc:TypeId × Value→H}
theorem ZBk {W W':World} {sp:Nat→Bool} : ∀ {ts:List TypeId} {vs:List Value} {ds:List (DataW H)} {ps:List MemPlace},(∀ t∈ts,Tryz.prog.readableRec t=true∧t < Tryz.prog.types.size) →
  DataW.TrodAll enc Tryz.prog W 0 (fun _=>true) true ts vs ds ps→(∀ p∈ps,W.sameAt W' p)→(∀ p∈ps,sp p.block=true)→DataW.TrodAll enc Tryz.prog W' 0 sp true ts vs ds ps
 | [],vs,ds,ps,_,h,_,_=>by
  obtain⟨rfl,rfl,rfl⟩:=trodAll_nil h
  exact trodAll_mk0
 | t :: ts,vs,ds,ps,ht,h,hs,hp=>by
  obtain⟨v,vs',d,ds',p,q,rfl,rfl,rfl,h0,r0⟩:=trodAll_cons h
  obtain⟨hr,hz⟩:=ht t (List.mem_cons_self ..)
  exact trodAll_cons_mk (WideElems.Trod_stays ZJO hr hz h0 (fun x hx=>hs x (List.mem_append_left _ hx)) (fun x hx=>hp x (List.mem_append_left _ hx)))
   (ZBk (fun t h=>ht t (List.mem_cons_of_mem _ h)) r0 (fun x hx=>hs x (List.mem_append_right _ hx)) (fun x hx=>hp x (List.mem_append_right _ hx)))
theorem ZIy (ts:List TypeId) (h:ts.all (fun t=>Tryz.prog.readableRec t && decide (t < Tryz.prog.types.size))=true) (t:TypeId) (ht:t∈ts) : Tryz.prog.readableRec t=true∧t < Tryz.prog.types.size:=by
 have:=List.all_eq_true.1 h t ht
 rw[Bool.and_eq_true,decide_eq_true_eq] at this
 exact this
end
end Go.Proofs.YtffgnjgphkdodaaGreatDoor
