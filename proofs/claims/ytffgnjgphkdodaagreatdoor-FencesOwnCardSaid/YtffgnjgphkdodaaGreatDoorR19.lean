import Derived.Test.YtffgnjgphkdodaaGreatDoorR3
import Derived.Laws.Closers25b
import Derived.Test.YtffgnjgphkdodaaGreatDoorR18
import Derived.Test.YtffgnjgphkdodaaGreatDoorR17
import Derived.Great.BuildSlice
import Derived.Deep.AppendLies
import Derived.Laws.IdiomCopy
import Derived.Test.YtffgnjgphkdodaaGreatDoorR4
import Derived.Test.YtffgnjgphkdodaaGreatDoorR7
import Derived.Laws.StructEq
import Derived.Test.YtffgnjgphkdodaaGreatDoorR2
import Derived.Test.YtffgnjgphkdodaaGreatDoorR1
import Derived.ArgAppend
namespace Go.Proofs.YtffgnjgphkdodaaGreatDoor
open Go Go.RowKit
structure Mach where
 at_:List Nat
 slots:List (List Int)
 mem:List Int
 holders:List Int
 prints:List (Int × Int)
def Mach.slot (m:Mach) (t:Nat) (j:Int) : Int:=(((m.slots[t]?).getD [])[j.toNat]?).getD 0
def Mach.val (m:Mach) (t:Nat) (v:Val) : Int:=if v.isSlot then m.slot t v.slot else v.word
structure Did where
 thread:Int
 node:Int
 kind:Int
 thing:Int
 word:Int
 put:Int
deriving DecidableEq
def Did.cells (d:Did) : List Value:=[.int .i64 d.thread,.int .i64 d.node,.int .u8 d.kind,.int .i64 d.thing,.int .i64 d.word,.int .i64 d.put]
structure FrW (S:Nat→Prop) (w w':World) : Prop where
 os:w'.os=w.os
 tape:w'.tape=w.tape
 output:w'.output=w.output
 size:w.heap.size≤w'.heap.size
 block:∀ k,k < w.heap.size→¬ S k→w'.heap[k]? = w.heap[k]?
section
variable {S S' R:Nat→Prop} {w w' a b c:World}
theorem FrW.refl (S:Nat→Prop) (w:World) : FrW S w w:=⟨rfl,rfl,rfl,Nat.le_refl _,fun _ _ _=>rfl⟩
theorem FrW.trans (h:FrW S a b) (k:FrW S b c) : FrW S a c :=
 ⟨k.os.trans h.os,k.tape.trans h.tape,k.output.trans h.output,Nat.le_trans h.size k.size,fun i hi hS=>(k.block i (Nat.lt_of_lt_of_le hi h.size) hS).trans (h.block i hi hS)⟩
theorem FrW.mono (h:FrW S w w') (hS:∀ b,S b→S' b) : FrW S' w w':=⟨h.os,h.tape,h.output,h.size,fun k hk hn=>h.block k hk fun e=>hn (hS k e)⟩
theorem FrW.of_below (S:Nat→Prop) (h:Below w.heap.size w w') : FrW S w w':=⟨h.os,h.tape,h.output,h.size,fun k hk _=>h.block k hk⟩
theorem FrW.setCell (w:World) {p:Addr} (hp:S p.block) (u:Value) : FrW S w (w.setCell p u):=⟨rfl,rfl,rfl,by simp[World.setCell],fun _ _ hn=>Below.heap_setCell _ _ _ _ fun e=>hn (e ▸ hp)⟩
theorem FrW.grown {row:Option Nat} (hg:w.grownBy w' row) (hr:∀ k,row=some k→S k) : FrW S w w':=⟨hg.os,hg.tape,hg.output,hg.size,fun k hk hn=>hg.block k hk fun e=>hn (hr k e.symm)⟩
theorem FrW.below {B:Nat} (h:FrW S w w') (hS:∀ k,S k→B≤k) (hB:B≤w.heap.size) : Below B w w' :=
 ⟨h.os,h.tape,h.output,h.size,fun k hk=>h.block k (by omega) fun e=>by have:=hS k e;omega⟩
theorem FrW.cell (h:FrW S w w') {p:Addr} {v:Value} (hc:w.cell? p=some v) (hp:¬ S p.block) : w'.cell? p=some v :=
 (World.cell?_of_block (h.block p.block (World.block_lt_of_cell? w p hc) hp)).trans hc
theorem FrW.on (h:FrW S w w') (hR:∀ b,R b→¬ S b) : (on w R).le (on w' R):=ZY (fun b hb hlt=>h.block b hlt (hR b hb)) (fun _ h=>h)
theorem Blk.fr {g:Nat} {t:TypeId} {cs:List Value} (h:Blk w g t cs) (hf:FrW S w w') (hg:¬ S g) : Blk w' g t cs:=(hf.block g h.lt hg).trans h
theorem ZAT {base:Nat} {e:TypeId} {size n:Nat} {v:Value} {xs:List Value} (h:w.ownsRow base e size v n xs) (hf:FrW S w w') (hv:∀ b,v.ownBlock=some b→¬ S b) : w'.ownsRow base e size v n xs:=by
 refine⟨h.1,?_⟩
 rcases h.2 with k | ⟨g,cap,cur,rfl,k2,k3,k4⟩
 ·exact .inl k
 ·exact .inr ⟨g,cap,cur,rfl,k2,(hf.block g (lt_of_block k3) (hv g rfl)).trans k3,k4⟩
end
structure Lay where
 sv:Value
 lv:Value
 gv:Value
 av:Value
 ov:Value
 mv:Value
 hv:Value
 pv:Value
 gl:List Nat
def Lay.cells (L:Lay) : List Value:=[L.sv,L.lv,L.gv,L.av,L.ov,L.mv,L.hv,L.pv]
def Lay.mut (L:Lay) (g b:Nat) : Prop:=b=g∨L.av.ownBlock=some b∨L.mv.ownBlock=some b∨L.hv.ownBlock=some b∨L.pv.ownBlock=some b∨b∈L.gl
def SlotC (m:CM) (b o:Nat) (x:Nat × Nat) : Prop:=m b o=some (.slice (some ⟨x.1,0,none⟩) x.2 x.2)
instance:Mono SlotC:=⟨fun hm h=>hm _ _ _ h⟩
def i64sV (l:List Int) : List Value:=l.map (Value.int .i64)
def natsV (l:List Nat) : List Value:=l.map fun n:Nat=>Value.int .i64 n
def printsV (l:List (Int × Int)) : List Value:=(l.map fun p=>[Value.int .i64 p.1,Value.int .i64 p.2]).flatten
structure MachB (w:World) (R:Nat→Prop) (g:Nat) (L:Lay) (u:Unit_) (m:Mach) : Prop where
 blk:Blk w g 115 L.cells
 unit:UnitV (on w R) [L.sv,L.lv,L.gv] u
 at_:w.ownsRow 0 3 1 L.av m.at_.length (natsV m.at_)
 mem:w.ownsRow 0 2 1 L.mv m.mem.length (i64sV m.mem)
 hold:w.ownsRow 0 3 1 L.hv m.holders.length (i64sV m.holders)
 prints:w.ownsRow 0 232 2 L.pv m.prints.length (printsV m.prints)
 outer:Sl SlotC 1 (on w R) L.ov (L.gl.zip (m.slots.map List.length))
 gl:L.gl.length=m.slots.length
 slot:∀ (t k:Nat) (l:List Int),L.gl[t]? = some k→m.slots[t]? = some l→Blk w k 2 (i64sV l)
 nodup:L.gl.Nodup
 memgl:∀ b,L.mv.ownBlock=some b→b ∉ L.gl
 athold:∀ b,L.av.ownBlock=some b→L.hv.ownBlock≠some b
 sep:∀ b,L.mut g b→¬ R b
section
variable {w w':World} {R S:Nat→Prop} {g:Nat} {L:Lay} {u:Unit_} {m:Mach}
theorem MachB.glb (h:MachB w R g L u m) {k:Nat} (hk:k∈L.gl) : ∃ cur,w.heap[k]? = some (.cells cur 2 (0,0)):=by
 obtain⟨t,ht⟩:=List.getElem?_of_mem hk
 have hl:t < m.slots.length:=by rw[← h.gl];exact(List.getElem?_eq_some_iff.1 ht).1
 exact⟨_,h.slot t k _ ht (List.getElem?_eq_getElem hl)⟩
theorem MachB.lt (h:MachB w R g L u m) {b:Nat} (hb:L.mut g b) : b < w.heap.size:=by
 rcases hb with rfl | hb | hb | hb | hb | hb
 ·exact h.blk.lt
 ·exact(h.at_.lt b hb).2
 ·exact(h.mem.lt b hb).2
 ·exact(h.hold.lt b hb).2
 ·exact(h.prints.lt b hb).2
 ·obtain⟨_,hh⟩:=h.glb hb;exact lt_of_block hh
theorem MachB.fr (h:MachB w R g L u m) (hf:FrW S w w') (hS:∀ b,L.mut g b→¬ S b) (hR:∀ b,R b→¬ S b) : MachB w' R g L u m where
 blk:=h.blk.fr hf (hS g (.inl rfl))
 unit:=h.unit.mono (hf.on hR)
 at_:=ZAT h.at_ hf fun b hb=>hS b (.inr (.inl hb))
 mem:=ZAT h.mem hf fun b hb=>hS b (.inr (.inr (.inl hb)))
 hold:=ZAT h.hold hf fun b hb=>hS b (.inr (.inr (.inr (.inl hb))))
 prints:=ZAT h.prints hf fun b hb=>hS b (.inr (.inr (.inr (.inr (.inl hb)))))
 outer:=h.outer.mono (hf.on hR)
 gl:=h.gl
 slot:=fun t k l h1 h2=>(h.slot t k l h1 h2).fr hf (hS k (.inr (.inr (.inr (.inr (.inr (List.mem_of_getElem? h1)))))))
 nodup:=h.nodup
 memgl:=h.memgl
 athold:=h.athold
 sep:=h.sep
theorem MachB.below (h:MachB w R g L u m) (hf:Below w.heap.size w w') : MachB w' R g L u m :=
 h.fr (FrW.of_below (fun _=>False) hf) (fun _ _=>id) (fun _ _=>id)
theorem MachB.drewN (h:MachB w R g L u m) (n:Nat) : MachB (w.drewN n) R g L u m:=h.below (ZJ w n)
end
theorem ZE1 {P:Program} (w:World) (b o:Nat) (ty:TypeId) (v:Value) (hc:(w.cell? ⟨b,o,none⟩).isSome=true) (hf:w.frozen? ⟨b,o,none⟩=false) (hi:(P.info? ty).map (·.size)=some 1) (hv:v.cells=#[v]) (h1:v.oneCell'=true) :
  (storeVar ty ⟨b,o,none⟩ v).run P w=.ok () (w.setCell ⟨b,o,none⟩ v):=by
 have:=run_storeCells_cells (P:=P) b o [v] 0 w (fun j hj=>by
   have hj0:j=0:=by simpa using hj
   subst hj0;exact hc) (fun j hj=>by
   have hj0:j=0:=by simpa using hj
   subst hj0;exact hf) (fun x hx=>by rw[List.mem_singleton] at hx;subst hx;exact h1)
 cases hq:P.info? ty with
 | none=>simp[hq] at hi
 | some i =>
  have hs:i.size=1:=by simp[hq] at hi;exact hi
  simp only[Nat.add_zero] at this
  simp[storeVar,sizeOf,typeInfo,hq,hv,hs,this,World.setCells]
section
variable {S S':Nat→Prop} {w y x a b c:World}
theorem FrW.andThen (h:FrW S a b) (k:FrW S' b c) (hS:∀ q,q < a.heap.size→S' q→S q) : FrW S a c :=
 ⟨k.os.trans h.os,k.tape.trans h.tape,k.output.trans h.output,Nat.le_trans h.size k.size,fun i hi hn=>(k.block i (Nat.lt_of_lt_of_le hi h.size) fun e=>hn (hS i hi e)).trans (h.block i hi hn)⟩
end
structure Apd (y x0 x1:World) (base:Nat) (e:TypeId) (size:Nat) (v:Value) (n:Nat) (xs news:List Value) (nb cap:Nat) : Prop where
 bel:Below y.heap.size y x0
 gr:x0.grownBy x1 v.ownBlock
 own:x1.ownsRow base e size (.slice (some ⟨nb,0,none⟩) (n+1) cap) (n+1) (xs ++ news)
 at_:v.ownBlock=some nb∨nb=x0.heap.size
theorem Apd.fr {y x0 x1:World} {base:Nat} {e:TypeId} {size:Nat} {v:Value} {n:Nat} {xs news:List Value} {nb cap:Nat} (h:Apd y x0 x1 base e size v n xs news nb cap) : FrW (fun q=>v.ownBlock=some q) y x1 :=
 (FrW.of_below _ h.bel).andThen (FrW.grown (S:=fun q=>v.ownBlock=some q) h.gr fun _q e=>e) (fun _ _ e=>e)
structure ApC (y:World) (base:Nat) (e:TypeId) (size:Nat) (v:Value) (n:Nat) (xs:List Value) (news:List Value) (g c:Nat) (i1 i2 i3:Nat) (D:Nat→Bool) (A:Nat→Value) (x:World) : Prop where
 o3:D i3=true→D i2=true
 o2:D i2=true→D i1=true
 r1:D i1=true→∃ nb,A i1=.slice (some ⟨nb,0,none⟩) 1 1∧(D i2=false→Blk x nb e news)
 r2:D i2=true→∃ nb cap,A i2=.slice (some ⟨nb,0,none⟩) (n+1) cap∧(D i3=false→∃ x0,Apd y x0 x base e size v n xs news nb cap)
 bel:D i2=false→Below y.heap.size y x
 fr:D i3=false→FrW (fun q=>v.ownBlock=some q) y x
 fin:D i3=true→∃ nb cap x0 x1,Apd y x0 x1 base e size v n xs news nb cap∧x=x1.setCell ⟨g,c,none⟩ (.slice (some ⟨nb,0,none⟩) (n+1) cap)
def cAp (y:World) (base:Nat) (e:TypeId) (size:Nat) (v:Value) (n:Nat) (xs:List Value) (news:List Value) (g c:Nat) (i1 i2 i3:Nat) : WCls:=fun D A x=>ApC y base e size v n xs news g c i1 i2 i3 D A x
section
variable {P:Program} {ops:Array Oper} {y:World} {base:Nat} {e:TypeId} {size:Nat} {v:Value} {n:Nat} {xs:List Value} {news:List Value} {g c:Nat} {i1 i2 i3:Nat}
theorem ZCP (A:Nat→Value) : cAp y base e size v n xs news g c i1 i2 i3 (fun _=>false) A y.drew :=
 ⟨fun h=>(by cases h),fun h=>(by cases h),fun h=>(by cases h),fun h=>(by cases h),fun _=>(Below.refl _ _).drew,fun _=>FrW.of_below _ (Below.refl _ _).drew,fun h=>(by cases h)⟩
theorem ZKZ:∀ D A x k,[i1,i2,i3].contains k=false→cAp y base e size v n xs news g c i1 i2 i3 D A x→cAp y base e size v n xs news g c i1 i2 i3 (upD D k) A x:=fun D A x k hk h=>by
 have e1:upD D k i1=D i1:=ZDQ hk (by simp)
 have e2:upD D k i2=D i2:=ZDQ hk (by simp)
 have e3:upD D k i3=D i3:=ZDQ hk (by simp)
 have h':ApC y base e size v n xs news g c i1 i2 i3 D A x:=h
 show ApC y base e size v n xs news g c i1 i2 i3 (upD D k) A x
 constructor
 ·rw[e3,e2];exact h'.o3
 ·rw[e2,e1];exact h'.o2
 ·rw[e1,e2];exact h'.r1
 ·rw[e2,e3];exact h'.r2
 ·rw[e2];exact h'.bel
 ·rw[e3];exact h'.fr
 ·rw[e3];exact h'.fin
theorem ZKa (d1:dstOf ops i1≠none) (d2:dstOf ops i2≠none) : ∀ D A A' x,(∀ k,[i1,i2,i3].contains k=true→D k=true→dstOf ops k≠none→A k=A' k)→cAp y base e size v n xs news g c i1 i2 i3 D A x→cAp y base e size v n xs news g c i1 i2 i3 D A' x:=fun D A A' x hA h=>by
 have h':ApC y base e size v n xs news g c i1 i2 i3 D A x:=h
 exact⟨h'.o3,h'.o2,fun hD=>by rw[← hA i1 (by simp) hD d1];exact h'.r1 hD,fun hD=>by rw[← hA i2 (by simp) hD d2];exact h'.r2 hD,h'.bel,h'.fr,h'.fin⟩
theorem ZGT (n12:i1≠i2) (n13:i1≠i3) (_n23:i2≠i3) {o:Oper} {a:Act} {t:TypeId} {parts:Array (Nat × Operand)} (ho:o.op=.buildSlice t 1 parts) {D:Nat→Bool} {A:Nat→Value} {x:World} (hr:(Instr.buildSlice t 1 (parts.map fun (i,x)=>(i,a.eval x))).run P x=.ok (.slice (some ⟨x.heap.size,0,none⟩) 1 1) (x.alloc (.cells news.toArray e)))
  (hD:D i1=false) (h:cAp y base e size v n xs news g c i1 i2 i3 D A x) : actAtW P o a x (fun v' w'=>cAp y base e size v n xs news g c i1 i2 i3 (upD D i1) (upV A i1 v') w'):=by
 have h':ApC y base e size v n xs news g c i1 i2 i3 D A x:=h
 have h2:D i2=false:=by
  cases hq:D i2 with
  | false=>rfl
  | true=>rw[h'.o2 hq] at hD;cases hD
 have h3:D i3=false:=by
  cases hq:D i3 with
  | false=>rfl
  | true=>rw[h'.o3 hq] at h2;cases h2
 unfold actAtW execOp
 simp only[ho,hr,Sem.run_bind,Result.andThen_ok,actUpon]
 have hb:=(h'.bel h2).alloc (h'.bel h2).size (.cells news.toArray e)
 refine⟨?_,?_,fun _=>⟨x.heap.size,by simp[upV],fun _=>Blk.new x _ _⟩,?_,fun _=>hb,fun _=>FrW.of_below _ hb,?_⟩
 ·rw[Zx _ n13.symm,h3];exact fun h=>(by cases h)
 ·rw[Zx _ n12.symm,h2];exact fun h=>(by cases h)
 ·rw[Zx _ n12.symm,h2];exact fun h=>(by cases h)
 ·rw[Zx _ n13.symm,h3];exact fun h=>(by cases h)
theorem ZEn (n12:i1≠i2) (_n13:i1≠i3) (n23:i2≠i3) {t bytes:Nat} {z:Value} (T:SlT P t e size bytes z) {o:Oper} {a:Act} {s q:Operand} (hbase:base≤y.heap.size) (hown:∀ x,Below y.heap.size y x→x.ownsRow base e size v n xs) (ho:o.op=.call { callee:=.builtin .append,args:=#[s,q],argTypes:=#[t,t] }) (hs:a.eval s=v) {nb:Nat} (he:a.eval q=.slice (some ⟨nb,0,none⟩) 1 1)
  (hpr:(n+1) * bytes≤140737488355328) (hn:n+1≤maxLen) {D:Nat→Bool} {A:Nat→Value} {x:World} (hl:news.length=size) (h1':∀ u∈news,u.oneCell'=true) (hD:D i2=false) (hD1:D i1=true) (hA1:A i1=.slice (some ⟨nb,0,none⟩) 1 1) (h:cAp y base e size v n xs news g c i1 i2 i3 D A x) :
  actAtW P o a x (fun v' w'=>cAp y base e size v n xs news g c i1 i2 i3 (upD D i2) (upV A i2 v') w'):=by
 have h':ApC y base e size v n xs news g c i1 i2 i3 D A x:=h
 have h2:=hD
 have h3:D i3=false:=by
  cases hq:D i3 with
  | false=>rfl
  | true=>rw[h'.o3 hq] at h2;cases h2
 obtain⟨nb',e1,e2⟩:=h'.r1 hD1
 obtain rfl:nb=nb':=by rw[hA1] at e1;injection e1 with e1;injection e1 with e1;injection e1
 have hblk:=e2 hD
 have hbel:=h'.bel hD
 obtain⟨ie,k1,k2,k3,k4⟩:=T.info
 obtain⟨gb,cap,w1,hr,k5,k6,k7,k8⟩:=run_append_lies (P:=P) x t o.type base e ie z size bytes T.ht k1 k2 k3 k4 T.hzs T.hsz v n xs (hown x hbel) ⟨nb,0,none⟩ 1 1 news (by rw[hl,Nat.one_mul]) (fun j u hj=>by rw[ZAt,Nat.zero_add,hblk.cell];exact hj) h1' (by omega) hn hpr (Nat.le_trans hbase hbel.size) _ rfl
 unfold actAtW execOp
 simp only[ho,resolve,invoke,builtin,Sem.run_bind,Sem.run_pure,Result.andThen_ok,List.map_toArray,List.map_cons,List.map_nil,hs,he,hr,actUpon]
 refine⟨?_,fun _=>by rw[Zx _ n12];exact hD1,fun _=>⟨nb,by simp only[upV,if_neg n12];exact hA1,fun h=>(by rw[ZAO] at h;cases h)⟩,fun _=>⟨gb,cap,by simp[upV],fun _=>⟨x,hbel,k6,k5,k7⟩⟩,fun h=>(by rw[ZAO] at h;cases h),fun _=>(FrW.of_below _ hbel).andThen (FrW.grown (S:=fun q=>v.ownBlock=some q) k6 fun q e=>e) (fun _ _ e=>e),?_⟩
 ·rw[Zx _ n23.symm,h3];exact fun h=>(by cases h)
 ·rw[Zx _ n23.symm,h3];exact fun h=>(by cases h)
theorem ZGS (_n12:i1≠i2) (n13:i1≠i3) (n23:i2≠i3) {o:Oper} {a:Act} {t:TypeId} {s q:Operand} {Tg:TypeId} {csg:List Value} (hblk:Blk y g Tg csg) (hc:c < csg.length) (hgv:v.ownBlock≠some g) (hi:(P.info? t).map (·.size)=some 1) (ho:o.op=.store t s q) (hs:a.eval s=.pointer (some ⟨g,c,none⟩)) {nb cap:Nat} (he:a.eval q=.slice (some ⟨nb,0,none⟩) (n+1) cap)
  {D:Nat→Bool} {A:Nat→Value} {x:World} (hD:D i3=false) (hD1:D i2=true) (hA1:A i2=.slice (some ⟨nb,0,none⟩) (n+1) cap) (h:cAp y base e size v n xs news g c i1 i2 i3 D A x) :
  actAtW P o a x (fun v' w'=>cAp y base e size v n xs news g c i1 i2 i3 (upD D i3) (upV A i3 v') w'):=by
 have h':ApC y base e size v n xs news g c i1 i2 i3 D A x:=h
 obtain⟨nb',cap',e1,e2⟩:=h'.r2 hD1
 obtain⟨rfl,rfl⟩ : nb=nb'∧cap=cap':=by
  rw[hA1] at e1
  injection e1 with e1 _ e3
  injection e1 with e1
  injection e1 with e1
  exact⟨e1,e3⟩
 obtain⟨x0,k1⟩:=e2 hD
 have hfr:=h'.fr hD
 have hgx:=hblk.fr hfr hgv
 have hst:=ZE1 (P:=P) x g c t (.slice (some ⟨nb,0,none⟩) (n+1) cap) (by rw[hgx.cell c,List.getElem?_eq_getElem hc];rfl) (hgx.frozen c) hi rfl rfl
 unfold actAtW execOp
 simp only[ho,hs,he,Instr.storeAt,Instr.sureAddr,Sem.run_bind,Sem.run_pure,Result.andThen_ok,hst,actUpon]
 refine⟨fun _=>by rw[Zx _ n23];exact hD1,fun _=>by rw[Zx _ n13];exact h'.o2 hD1,fun _=>?_,fun _=>?_,fun h=>(by rw[Zx _ n23,hD1] at h;cases h),fun h=>(by rw[ZAO] at h;cases h),fun _=>⟨nb,cap,x0,x,k1,rfl⟩⟩
 ·obtain⟨q,h1,h2⟩:=h'.r1 (h'.o2 hD1)
  exact⟨q,by simp only[upV,if_neg n13];exact h1,fun h=>(by rw[Zx _ n23,hD1] at h;cases h)⟩
 ·exact⟨nb,cap,by simp only[upV,if_neg n23];exact hA1,fun h=>(by rw[ZAO] at h;cases h)⟩
end
section
variable {P:Program} {ops:Array Oper} {y:World} {base:Nat} {e:TypeId} {size:Nat} {v:Value} {n:Nat} {xs:List Value} {news:Value→List Value} {g c:Nat} {T0:TypeId} {cs0:List Value} {len0:Nat} {i0 i1 i2 i3:Nat}
end
set_option maxHeartbeats 1000000 in
theorem ZK6 (p1:ByteArray) (p2 p3:Int) (w:World) : (Op.equalIn 10000 118 (.agg #[.string p1,.int .i64 p2,.int .i64 p3]) (.agg #[.string p1,.int .i64 p2,.int .i64 p3])).run Tryz.prog w=.ok true w:=by
 have hS : Tryz.prog.underlying 118 = some (.struct (Tryz.prog.fieldsOf 118)):=by kernel_rfl
 have hp : Tryz.prog.stoodInHeld 118 = false:=by kernel_rfl
 rw[show(10000:Nat)=9999+1 from rfl,run_equalIn_agg w 9999 118 _ _ hS hp]
 simp only[Program.fieldsOf,Tryz.underlying118]
 go_simp
set_option maxRecDepth 10000 in
set_option maxHeartbeats 4000000 in
theorem ZK5 (n:Node) (w:World) : (Op.equalIn 10000 66 (.agg n.cells.toArray) (.agg n.cells.toArray)).run Tryz.prog w=.ok true w:=by
 have hS : Tryz.prog.underlying 66 = some (.struct (Tryz.prog.fieldsOf 66)):=by kernel_rfl
 have hp : Tryz.prog.stoodInHeld 66 = false:=by kernel_rfl
 unfold Node.cells
 rw[show(10000:Nat)=9999+1 from rfl,run_equalIn_agg w 9999 66 _ _ hS hp]
 simp only[Program.fieldsOf,Tryz.underlying66]
 go_simp
section
variable {κ:Type} [DecidableEq κ] {kv:κ→Value} {dec:Value→Option κ} {P:Program} {w w':World} {b:Nat} {F:κ→Option Value}
def MapAt (kv:κ→Value) (dec:Value→Option κ) (w:World) (b:Nat) (F:κ→Option Value) (k:κ) (st:Nat) : Prop :=
 ∃ es clock i v e,w.heap[b]? = some (.map es clock)∧(∀ e∈es.toList,∃ k',e.key=kv k')∧(∀ k,(seek dec k es.toList 0).map (·.2)=F k)∧MapKept.Stamped es clock∧seek dec k es.toList 0=some (i,v)∧es[i]? = some e∧e.born=st
theorem MapAt.keep {k:κ} {st:Nat} (h:MapAt kv dec w b F k st) (hk:w'.heap[b]? = w.heap[b]?) : MapAt kv dec w' b F k st:=by
 obtain⟨es,c,i,v,e,h,r⟩:=h
 exact⟨es,c,i,v,e,hk.trans h,r⟩
end
theorem ZDp:∀ (rows:List (List Value)) (size j:Nat) (u:Value),0 < size→(∀ r∈rows,r.length=size)→rows.flatten[j]? = some u→∃ i k r,rows[i]? = some r∧r[k]? = some u∧j=i * size+k
 | [],_,_,_,_,_,h=>by simp at h
 | q :: rows,size,j,u,hs,hl,h=>by
  have hq:=hl q (by simp)
  rw[List.flatten_cons,List.getElem?_append,hq] at h
  by_cases hj:j < size
  ·rw[if_pos hj] at h
   exact⟨0,j,q,rfl,h,by simp⟩
  ·rw[if_neg hj] at h
   obtain⟨i,k,r,h1,h2,h3⟩:=ZDp rows size (j - size) u hs (fun r hr=>hl r (by simp[hr])) h
   exact⟨i+1,k,r,by simpa using h1,h2,by rw[Nat.succ_mul];omega⟩
structure RowR {α:Type} (R:CM→Nat→Nat→α→Prop) (f:α→List Value) (size:Nat) : Prop where
 dn:∀ m b o x,R m b o x→∀ j v,(f x)[j]? = some v→m b (o+j)=some v
 up:∀ m b o x,(∀ j v,(f x)[j]? = some v→m b (o+j)=some v)→R m b o x
 len:∀ x,(f x).length=size
 one:∀ x,∀ u∈f x,u.oneCell'=true
def Decl.cells (d:Decl) : List Value:=[.string d.name,.int .i64 d.word,.int .i64 d.at_]
theorem ZHI:RowR DeclC Decl.cells 3 where
 dn:=fun m b o d h j v hj=>by
  obtain⟨h1,h2,h3⟩:=h
  match j,hj with
  | 0,hj=>injection hj with hj;subst hj;exact h1
  | 1,hj=>injection hj with hj;subst hj;exact h2
  | 2,hj=>injection hj with hj;subst hj;exact h3
 up:=fun m b o d h=>⟨h 0 _ rfl,h 1 _ rfl,h 2 _ rfl⟩
 len:=fun _=>rfl
 one:=fun d u hu=>by
  simp[Decl.cells] at hu
  rcases hu with rfl | rfl | rfl <;> rfl
theorem ZJw:RowR NodeC Node.cells 13 where
 dn:=fun m b o d h=>h
 up:=fun m b o d h=>h
 len:=fun _=>rfl
 one:=fun d u hu=>by
  simp[Node.cells] at hu
  rcases hu with rfl | rfl | rfl | rfl | rfl | rfl | rfl | rfl | rfl | rfl | rfl | rfl | rfl <;> rfl
section
variable {P:Program} {α:Type} {R:CM→Nat→Nat→α→Prop} {f:α→List Value} {t e size bytes:Nat} {z:Value}
theorem ZHH (hR:RowR R f size) (T:SlT P t e size bytes z) (w:World) (ty:Nat) (g:Addr) (A:Option Addr) (m c:Nat) (l:List α) (hr:Sl R size (cmap w) (.slice A m c) l) (hb:m * bytes≤140737488355328) :
  ∃ A' c' w',(Builtin.append_ #[t,t] ty #[.slice (some g) 0 0,.slice A m c]).run P w=.ok (.slice A' m c') w'∧Sl R size (part w' w.heap.size w'.heap.size) (.slice A' m c') l∧Below w.heap.size w w':=by
 obtain⟨i,hi,hz,hsz,hby⟩:=T.info
 have hm:=hr.len.1
 obtain⟨A0,c0,he,hlc,⟨h4,h5⟩,h6⟩:=hr
 injection he with e1 e2 e3
 subst e1 e3
 have hml:m≤maxLen:=by omega
 by_cases hl:l=[]
 ·subst hl
  obtain rfl:m=0:=hm
  refine⟨some g,0,w,?_,⟨some g,0,rfl,Nat.le_refl _,⟨by simp[maxLen],fun h=>by cases h⟩,.inl rfl⟩,Below.refl _ _⟩
  cases A with
  | none=>simp[Builtin.append_,run_underlying T.ht,sizeOf,typeInfo,hi,Builtin.lenOf,Builtin.firstCells,storeCells]
  | some a=>simp[Builtin.append_,run_underlying T.ht,sizeOf,typeInfo,hi,Builtin.lenOf,Builtin.firstCells,storeCells,loadCells,loadCellsFrom]
 ·rcases h6 with h6 | ⟨b,o,rfl,h6⟩
  ·exact absurd h6 hl
  have hpos:0 < m:=by
   cases l with
   | nil=>exact absurd rfl hl
   | cons a r=>rw[e2];simp
  have hrl:∀ r∈l.map f,r.length=size:=fun r hr=>by
   obtain⟨x,_,rfl⟩:=List.mem_map.1 hr
   exact hR.len x
  have hfl:(l.map f).flatten.length=m * size:=by
   have:∀ l:List α,(l.map f).flatten.length=l.length * size:=by
    intro l
    induction l with
    | nil=>simp
    | cons x l ih=>rw[List.map_cons,List.flatten_cons,List.length_append,ih,hR.len,List.length_cons,Nat.succ_mul,Nat.add_comm]
   rw[this,← e2]
  obtain⟨v',w',hrun,hown,hg⟩:=run_append_arg_grows (P:=P) w t ty e i z size bytes T.ht hi hz hsz hby T.hzs T.hsz g 0 0 [] (by simp) (fun j u h=>by simp at h) ⟨b,o,none⟩ m c (l.map f).flatten hfl (fun j u hj=>by
   obtain⟨k,q,r,k1,k2,rfl⟩:=ZDp _ _ _ _ T.hsz hrl hj
   rw[List.getElem?_map] at k1
   cases hx:l[k]? with
   | none=>rw[hx] at k1;cases k1
   | some x =>
    rw[hx] at k1
    injection k1 with k1
    subst k1
    have:=hR.dn _ _ _ _ (h6 k x hx) q u k2
    rw[ZAt,← Nat.add_assoc]
    exact this) (by omega) (by omega) (by rw[Nat.zero_add];exact hb)
  rw[Nat.zero_add,List.nil_append] at hown
  obtain⟨A',c',rfl,_⟩:=ZF hown
  refine⟨A',c',w',hrun,?_,⟨hg.os,hg.tape,hg.output,hg.size,fun k hk=>hg.block k hk (by simp)⟩⟩
  have hacc:Acc (fun _ cs x=>cs=f x) size e w.heap.size (fun _=>False) (.slice A' m c') l w':=by
   refine⟨⟨l.map f,by rw[← e2];exact hown,by simp,hrl,fun i r x hi hx=>?_⟩,fun _ h=>h.elim⟩
   rw[List.getElem?_map,hx] at hi
   injection hi with hi
   exact hi.symm
  haveI:MonoV (fun (_:CM) cs (x:α)=>cs=f x):=⟨fun _ h=>h⟩
  exact(hacc.done (Nat.le_refl _) (Nat.le_refl _)).imp' fun m b o x hx=>hR.up _ _ _ _ (ZBI hx)
theorem ZFh (hR:RowR R f size) (T:SlT P t e size bytes z) {ops:Array Oper} {o:Oper} {a:Act} {w:World} {K:Act→World→Prop} {Q:Exit→Act→World→Prop} {E:Prop} (hgd:o.guard=none) (s x:Operand)
  (ho:o.op=.call { callee:=.builtin .append,args:=#[s,x],argTypes:=#[t,t] }) (g:Addr) (hs:a.eval s=.slice (some g) 0 0) (A:Option Addr) (m c:Nat) (l:List α) (hx:a.eval x=.slice A m c) (hr:Sl R size (cmap w) (.slice A m c) l)
  (hb:m * bytes≤140737488355328) (h:∀ A' c' w',Sl R size (part w' w.heap.size w'.heap.size) (.slice A' m c') l→Below w.heap.size w w'→K (a.put o.dst (.slice A' m c')) w') :
  if Region.wanted o (yielded ops a.tmps)=true then Oper.wp P o a w K Q else E:=by
 have hw:Region.wanted o (yielded ops a.tmps)=true:=by simp[Region.wanted,hgd]
 rw[if_pos hw]
 obtain⟨A',c',w',hrun,h1,h2⟩:=ZHH hR T w o.type g A m c l hr hb
 unfold Oper.wp
 simp[execOp,ho,resolve,invoke,builtin,hs,hx,hrun,Result.andThen]
 exact h A' c' w' h1 h2
theorem ZHj (hR:RowR R f size) (T:SlT P t e size bytes z) {ops:Array Oper} {rest:List Oper} {o:Oper} {a:Act} {w:World} {Q:Exit→Act→World→Prop} (hgd:o.guard=none) (s x:Operand)
  (ho:o.op=.call { callee:=.builtin .append,args:=#[s,x],argTypes:=#[t,t] }) (g:Addr) (hs:a.eval s=.slice (some g) 0 0) (A:Option Addr) (m c:Nat) (l:List α) (hx:a.eval x=.slice A m c) (hr:Sl R size (cmap w) (.slice A m c) l)
  (hb:m * bytes≤140737488355328) (h:∀ A' c' w',Sl R size (part w' w.heap.size w'.heap.size) (.slice A' m c') l→Below w.heap.size w w'→wpList P ops Q rest (a.put o.dst (.slice A' m c')) w') : wpList P ops Q (o :: rest) a w:=by
 refine wpList_plain hgd fun K hK=>?_
 obtain⟨A',c',w',hrun,h1,h2⟩:=ZHH hR T w o.type g A m c l hr hb
 unfold Oper.wp execOp
 simp only[ho,resolve,invoke,builtin,Sem.run_bind,Sem.run_pure,Result.andThen_ok,List.map_toArray,List.map_cons,List.map_nil,hs,hx,hrun]
 exact hK _ _ (h A' c' w' h1 h2)
end
end Go.Proofs.YtffgnjgphkdodaaGreatDoor
