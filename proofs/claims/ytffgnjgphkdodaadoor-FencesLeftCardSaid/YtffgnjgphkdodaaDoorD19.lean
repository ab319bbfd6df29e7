import Derived.Test.YtffgnjgphkdodaaDoorD4
import Derived.Laws.Closers25b
import Derived.Test.YtffgnjgphkdodaaDoorD3
import Derived.Test.YtffgnjgphkdodaaDoorD18
import Derived.Great.BuildSlice
import Derived.Deep.AppendLies
import Derived.Laws.IdiomCopy
import Derived.Test.YtffgnjgphkdodaaDoorD14
import Derived.Test.YtffgnjgphkdodaaDoorD1
import Derived.Test.YtffgnjgphkdodaaDoorD10
import Derived.Test.YtffgnjgphkdodaaDoorD38
import Derived.Test.YtffgnjgphkdodaaDoorD9
import Derived.Test.YtffgnjgphkdodaaDoorCards
import Derived.Test.YtffgnjgphkdodaaDoorTie
import Derived.ProofKit
import Derived.Deep.DeepHandedRow
import Derived.Lib.LaidTab
import Derived.SevenTiedAt
namespace Go.Proofs.YtffgnjgphkdodaaDoor
open Go Go.RowKit
structure Mach where
 at_:List Nat
 slots:List (List Int)
 mem:List Int
 holders:List Int
 prints:List (Int × Int)
def Mach.slot (m:Mach) (t:Nat) (j:Int) : Int:=(((m.slots[t]?).getD [])[j.toNat]?).getD 0
def Mach.val (m:Mach) (t:Nat) (v:Val) : Int:=if v.isSlot then m.slot t v.slot else v.word
structure Did where
 thread:Int
 node:Int
 kind:Int
 thing:Int
 word:Int
 put:Int
deriving DecidableEq
def Did.cells (d:Did) : List Value:=[.int .i64 d.thread,.int .i64 d.node,.int .u8 d.kind,.int .i64 d.thing,.int .i64 d.word,.int .i64 d.put]
structure FrW (S:Nat→Prop) (w w':World) : Prop where
 os:w'.os=w.os
 tape:w'.tape=w.tape
 output:w'.output=w.output
 size:w.heap.size≤w'.heap.size
 block:∀ k,k < w.heap.size→¬ S k→w'.heap[k]? = w.heap[k]?
section
variable {S S' R:Nat→Prop} {w w' a b c:World}
theorem FrW.refl (S:Nat→Prop) (w:World) : FrW S w w:=⟨rfl,rfl,rfl,Nat.le_refl _,fun _ _ _=>rfl⟩
theorem FrW.trans (h:FrW S a b) (k:FrW S b c) : FrW S a c :=
 ⟨k.os.trans h.os,k.tape.trans h.tape,k.output.trans h.output,Nat.le_trans h.size k.size,fun i hi hS=>(k.block i (Nat.lt_of_lt_of_le hi h.size) hS).trans (h.block i hi hS)⟩
theorem FrW.mono (h:FrW S w w') (hS:∀ b,S b→S' b) : FrW S' w w':=⟨h.os,h.tape,h.output,h.size,fun k hk hn=>h.block k hk fun e=>hn (hS k e)⟩
theorem FrW.of_below (S:Nat→Prop) (h:Below w.heap.size w w') : FrW S w w':=⟨h.os,h.tape,h.output,h.size,fun k hk _=>h.block k hk⟩
theorem FrW.setCell (w:World) {p:Addr} (hp:S p.block) (u:Value) : FrW S w (w.setCell p u):=⟨rfl,rfl,rfl,by simp[World.setCell],fun _ _ hn=>Below.heap_setCell _ _ _ _ fun e=>hn (e ▸ hp)⟩
theorem FrW.grown {row:Option Nat} (hg:w.grownBy w' row) (hr:∀ k,row=some k→S k) : FrW S w w':=⟨hg.os,hg.tape,hg.output,hg.size,fun k hk hn=>hg.block k hk fun e=>hn (hr k e.symm)⟩
theorem FrW.below {B:Nat} (h:FrW S w w') (hS:∀ k,S k→B≤k) (hB:B≤w.heap.size) : Below B w w' :=
 ⟨h.os,h.tape,h.output,h.size,fun k hk=>h.block k (by omega) fun e=>by have:=hS k e;omega⟩
theorem FrW.cell (h:FrW S w w') {p:Addr} {v:Value} (hc:w.cell? p=some v) (hp:¬ S p.block) : w'.cell? p=some v :=
 (World.cell?_of_block (h.block p.block (World.block_lt_of_cell? w p hc) hp)).trans hc
theorem FrW.on (h:FrW S w w') (hR:∀ b,R b→¬ S b) : (on w R).le (on w' R):=Zf (fun b hb hlt=>h.block b hlt (hR b hb)) (fun _ h=>h)
theorem Blk.fr {g:Nat} {t:TypeId} {cs:List Value} (h:Blk w g t cs) (hf:FrW S w w') (hg:¬ S g) : Blk w' g t cs:=(hf.block g h.lt hg).trans h
end
structure Lay where
 sv:Value
 lv:Value
 gv:Value
 av:Value
 ov:Value
 mv:Value
 hv:Value
 pv:Value
 gl:List Nat
def Lay.cells (L:Lay) : List Value:=[L.sv,L.lv,L.gv,L.av,L.ov,L.mv,L.hv,L.pv]
def SlotC (m:CM) (b o:Nat) (x:Nat × Nat) : Prop:=m b o=some (.slice (some ⟨x.1,0,none⟩) x.2 x.2)
instance:Mono SlotC:=⟨fun hm h=>hm _ _ _ h⟩
section
variable {w w':World} {R S:Nat→Prop} {g:Nat} {L:Lay} {u:Unit_} {m:Mach}
end
section
variable {S S':Nat→Prop} {w y x a b c:World}
theorem FrW.andThen (h:FrW S a b) (k:FrW S' b c) (hS:∀ q,q < a.heap.size→S' q→S q) : FrW S a c :=
 ⟨k.os.trans h.os,k.tape.trans h.tape,k.output.trans h.output,Nat.le_trans h.size k.size,fun i hi hn=>(k.block i (Nat.lt_of_lt_of_le hi h.size) fun e=>hn (hS i hi e)).trans (h.block i hi hn)⟩
end
structure Apd (y x0 x1:World) (base:Nat) (e:TypeId) (size:Nat) (v:Value) (n:Nat) (xs news:List Value) (nb cap:Nat) : Prop where
 bel:Below y.heap.size y x0
 gr:x0.grownBy x1 v.ownBlock
 own:x1.ownsRow base e size (.slice (some ⟨nb,0,none⟩) (n+1) cap) (n+1) (xs ++ news)
 at_:v.ownBlock=some nb∨nb=x0.heap.size
theorem Apd.fr {y x0 x1:World} {base:Nat} {e:TypeId} {size:Nat} {v:Value} {n:Nat} {xs news:List Value} {nb cap:Nat} (h:Apd y x0 x1 base e size v n xs news nb cap) : FrW (fun q=>v.ownBlock=some q) y x1 :=
 (FrW.of_below _ h.bel).andThen (FrW.grown (S:=fun q=>v.ownBlock=some q) h.gr fun _q e=>e) (fun _ _ e=>e)
section
variable {P:Program} {ops:Array Oper} {y:World} {base:Nat} {e:TypeId} {size:Nat} {v:Value} {n:Nat} {xs:List Value} {news:List Value} {g c:Nat} {i1 i2 i3:Nat}
end
section
variable {P:Program} {ops:Array Oper} {y:World} {base:Nat} {e:TypeId} {size:Nat} {v:Value} {n:Nat} {xs:List Value} {news:Value→List Value} {g c:Nat} {T0:TypeId} {cs0:List Value} {len0:Nat} {i0 i1 i2 i3:Nat}
end
attribute [local go_sem] readAtW readUpon
theorem gbT {w wr wx:World} {r:Option Nat} (h:w.grownBy wr r) (k:wr.grownBy wx r) : w.grownBy wx r :=
 ⟨k.os.trans h.os,k.tape.trans h.tape,k.output.trans h.output,Nat.le_trans h.size k.size,fun b hlt hne=>(k.block b (Nat.lt_of_lt_of_le hlt h.size) hne).trans (h.block b hlt hne)⟩
def farK:Spot→Nat:=Prod.snd
structure KeepR (R:Nat→Prop) (w w':World) : Prop where
 os:w'.os=w.os
 tape:w'.tape=w.tape
 output:w'.output=w.output
 size:w.heap.size≤w'.heap.size
 block:∀ b,R b→w'.heap[b]? = w.heap[b]?
theorem KeepR.refl (R:Nat→Prop) (w:World) : KeepR R w w:=⟨rfl,rfl,rfl,Nat.le_refl _,fun _ _=>rfl⟩
theorem KeepR.trans {R:Nat→Prop} {a b c:World} (h:KeepR R a b) (k:KeepR R b c) : KeepR R a c:=⟨k.os.trans h.os,k.tape.trans h.tape,k.output.trans h.output,Nat.le_trans h.size k.size,fun i hi=>(k.block i hi).trans (h.block i hi)⟩
theorem KeepR.of_below {R:Nat→Prop} {w w':World} (hb:Below w.heap.size w w') (hR:∀ b,R b→b < w.heap.size) : KeepR R w w':=⟨hb.os,hb.tape,hb.output,hb.size,fun b h=>hb.block b (hR b h)⟩
theorem KeepR.setCell {R:Nat→Prop} {w w':World} (h:KeepR R w w') {p:Addr} (hR:∀ b,R b→b≠p.block) (v:Value) : KeepR R w (w'.setCell p v):=⟨h.os,h.tape,h.output,by simpa [World.setCell] using h.size,fun b hb=>(Below.heap_setCell _ _ _ _ (hR b hb)).trans (h.block b hb)⟩
theorem KeepR.alloc {R:Nat→Prop} {w w':World} (h:KeepR R w w') (hR:∀ b,R b→b < w.heap.size) (o:Obj) : KeepR R w (w'.alloc o):=h.trans (.of_below (ZB _ _) fun b hb=>Nat.lt_of_lt_of_le (hR b hb) h.size)
theorem DnOk.leaf {L:List Spot} {n i:Nat} (h:DnOk farK L n i) (hn:n≤2 * i+1) : HpN farK L n:=h.done fun k h0 hk hp=>by omega
end Go.Proofs.YtffgnjgphkdodaaDoor
namespace Go.Proofs.YtffgnjgphkdodaaDoor
open Go Go.RowKit Go.ChangeShapes Go.WideShapes Go.ChangeAt
theorem ZCv:ownKnob Tryd.prog.godebug=none:=by kernel_rfl
theorem g_tab : Tryd.prog.globalNamed "math/bits.deBruijn32tab" = some 0:=by kernel_rfl
theorem ZG8:(Tryd.prog.globals[0]?).map (·.type)=some 166:=by kernel_rfl
theorem c_tab : Tryd.prog.cellsOf 166 = 32:=by kernel_rfl
theorem c_u8 : Tryd.prog.cellsOf 5 = 1:=by kernel_rfl
theorem ZGA {W:World} (h:laidMet Tryd.prog [("math/bits.deBruijn32tab",Rows.laid_math_bits_deBruijn32tab)] W) : Tab W:=by
 have t:Lib.TabIs Tryd.prog W "math/bits.deBruijn32tab" .u8 [0,1,28,2,29,14,24,3,30,22,20,15,25,17,4,8,31,27,13,23,21,19,16,7,26,12,18,6,11,5,10,9] :=
  Lib.tabIs_of_head (rest:=[]) g_tab ZG8 Tryd.underlying166 Tryd.underlying5 c_u8 c_tab h
 intro j hj
 have hj2:j < 32:=hj
 have:=t.cell g_tab j (by simpa using hj2)
 rw[this]
 congr 2
 have:∀ j,j < 32→([0,1,28,2,29,14,24,3,30,22,20,15,25,17,4,8,31,27,13,23,21,19,16,7,26,12,18,6,11,5,10,9] : List Int).getD j 0=((Lib.deBruijn32tab.getD j 0:Nat) : Int):=by decide +kernel
 exact this j hj2
theorem ZIx:laidOutB Tryd.prog=true:=by kernel_rfl
section
variable {H:Type} {enc:TypeId × Value→H} {P:Program}
theorem ZBX {f:Func} {s:ChangeSpec} {apart fresh handsOn again:Bool} {W W':World} {args:Array Value} {v:Value} {ds gs:List (DataW H)} {before pa pv:List MemPlace}
  (hW:DataW.Whole enc P f.params.toList s.vars apart W args.toList ds gs before)
  (hres:∀ (b:Nat) (sp:Nat→Bool) (hd:Bool),DataW.TrodAll enc P W' b sp hd f.resultTypes.toList (v.resultList f.resultTypes.size) (s.fn H (ds ++ gs)).results [])
  (hargs:∀ sp:Nat→Bool,(∀ p∈before,sp p.block=true)→DataW.TrodAll enc P W' 0 sp true f.params.toList args.toList (s.fn H (ds ++ gs)).args pa)
  (hvars:∀ sp:Nat→Bool,(∀ p∈before,sp p.block=true)→DataW.TrodVars enc P W' sp s.vars (s.fn H (ds ++ gs)).vars pv)
  (hps:before=pa ++ pv) (hb:Below W.heap.size W W')
  (hok:∀ (j:Nat) (t:TypeId) (r:Value),f.resultTypes[j]? = some t→(v.resultList f.resultTypes.size)[j]? = some r→Value.okWide P W' .any 0 t r) :
  s.post enc P f apart fresh handsOn again W args v W':=by
 have hlt:∀ p∈before,p.block < W.heap.size:=fun p hp=>hW.lt p hp
 have hold:∀ p∈before,(fun b=>decide (b < W.heap.size)) p.block=true:=fun p hp=>by simpa using hlt p hp
 refine⟨ds,gs,before,[],pa,pv,hW,hres _ _ _,hargs _ hold,hvars _ hold,World.keptBut_mono (fun p hp=>⟨hp,?_⟩) (hb.frame (·∈before)),fun _=>?_⟩
 ·rw[hps,List.mem_append] at hp
  exact Or.inr hp
 ·obtain⟨_,_,_,_,_,hz,hn⟩:=hW
  refine⟨hok,_,_,([] ++ pa) ++ pv,⟨[] ++ pa,pv,trodAll_append (hargs _ (fun _ _=>rfl)) (hres _ _ _),hvars _ (fun _ _=>rfl),rfl,?_,?_⟩,?_⟩
  ·intro b off hp
   have hin:MemPlace.cell b off∈before:=by rw[hps];simpa using hp
   rw[hb.frozen (hlt _ hin)]
   exact hz b off hin
  ·intro ha
   have:=hn ha
   rw[hps] at this
   simpa using this
  ·intro p hp _
   rw[hps]
   simpa using hp
end
noncomputable def laidWorld (os:Os) : World :=
 { World.holding Tryd.prog os ⟨#[],#[],[]⟩ with heap:=(World.holding Tryd.prog os ⟨#[],#[],[]⟩).heap.modify 0 fun
   | .cells _ t frozen=>.cells #[.int .u8 0,.int .u8 1,.int .u8 28,.int .u8 2,.int .u8 29,.int .u8 14,.int .u8 24,.int .u8 3,.int .u8 30,.int .u8 22,.int .u8 20,.int .u8 15,.int .u8 25,.int .u8 17,.int .u8 4,.int .u8 8,.int .u8 31,.int .u8 27,.int .u8 13,.int .u8 23,.int .u8 21,.int .u8 19,.int .u8 16,.int .u8 7,.int .u8 26,.int .u8 12,.int .u8 18,.int .u8 6,.int .u8 11,.int .u8 5,.int .u8 10,.int .u8 9] t frozen
   | o=>o }
section
variable {H:Type} {enc:TypeId × Value→H}
theorem Z9 {W W':World} {sp:Nat→Bool} : ∀ {ts:List TypeId} {vs:List Value} {ds:List (DataW H)} {ps:List MemPlace},(∀ t∈ts,Tryd.prog.readableRec t=true∧t < Tryd.prog.types.size) →
  DataW.TrodAll enc Tryd.prog W 0 (fun _=>true) true ts vs ds ps→(∀ p∈ps,W.sameAt W' p)→(∀ p∈ps,sp p.block=true)→DataW.TrodAll enc Tryd.prog W' 0 sp true ts vs ds ps
 | [],vs,ds,ps,_,h,_,_=>by
  obtain⟨rfl,rfl,rfl⟩:=trodAll_nil h
  exact trodAll_mk0
 | t :: ts,vs,ds,ps,ht,h,hs,hp=>by
  obtain⟨v,vs',d,ds',p,q,rfl,rfl,rfl,h0,r0⟩:=trodAll_cons h
  obtain⟨hr,hz⟩:=ht t (List.mem_cons_self ..)
  exact trodAll_cons_mk (WideElems.Trod_stays ZIx hr hz h0 (fun x hx=>hs x (List.mem_append_left _ hx)) (fun x hx=>hp x (List.mem_append_left _ hx)))
   (Z9 (fun t h=>ht t (List.mem_cons_of_mem _ h)) r0 (fun x hx=>hs x (List.mem_append_right _ hx)) (fun x hx=>hp x (List.mem_append_right _ hx)))
theorem ZCB (ts:List TypeId) (h:ts.all (fun t=>Tryd.prog.readableRec t && decide (t < Tryd.prog.types.size))=true) (t:TypeId) (ht:t∈ts) : Tryd.prog.readableRec t=true∧t < Tryd.prog.types.size:=by
 have:=List.all_eq_true.1 h t ht
 rw[Bool.and_eq_true,decide_eq_true_eq] at this
 exact this
end
end Go.Proofs.YtffgnjgphkdodaaDoor
