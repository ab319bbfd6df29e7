import Derived.Test.YtffgnjgphkdodaaGreatDoorV9
import Derived.Test.YtffgnjgphkdodaaGreatDoorV13
import Derived.Test.YtffgnjgphkdodaaGreatDoorV1
import Derived.Test.YtffgnjgphkdodaaGreatDoorV18
import Derived.Test.YtffgnjgphkdodaaGreatDoorV16
namespace Go.Proofs.YtffgnjgphkdodaaGreatDoor
open Go
noncomputable def stK (u:Unit_) (g:Graph) (k:Nat) : List Int:=((List.range k).filter fun i=>(mkAt u g [] i).store).map fun i:Nat=>(i:Int)
noncomputable def stL (u:Unit_) (g:Graph) : List Int:=stK u g g.nodes.length
theorem ZBG (u:Unit_) (g:Graph) (k:Nat) : stK u g (k+1)=stK u g k ++ if (mkAt u g [] k).store then [(k:Int)] else []:=by
 unfold stK
 rw[List.range_succ,List.filter_append,List.map_append]
 congr 1
 by_cases h:(mkAt u g [] k).store=true
 ·simp[h]
 ·simp[h]
theorem ZBH (u:Unit_) (g:Graph) (k:Nat) : (stK u g k).length≤k:=by
 unfold stK
 rw[List.length_map]
 refine Nat.le_trans (List.length_filter_le _ _) ?_
 simp
theorem ZHx {u:Unit_} {g:Graph} {k:Nat} {x:Int} : x∈stK u g k ↔ ∃ i:Nat,x=i∧i < k∧(mkAt u g [] i).store=true:=by
 unfold stK
 simp only[List.mem_map,List.mem_filter,List.mem_range]
 constructor
 ·rintro⟨i,⟨h1,h2⟩,rfl⟩;exact⟨i,rfl,h1,h2⟩
 ·rintro⟨i,rfl,h1,h2⟩;exact⟨i,⟨h1,h2⟩,rfl⟩
theorem ZJK (u:Unit_) (g:Graph) (F:List Int) (i:Nat) : (mkAt u g F i).store=(mkAt u g [] i).store∧(mkAt u g F i).load=(mkAt u g [] i).load∧(mkAt u g F i).drain=(mkAt u g [] i).drain:=by
 unfold mkAt
 cases g.nodes[i]? <;> simp
theorem ZFE {u:Unit_} {g:Graph} {x:Int} (h:x∈stL u g) : 0≤x∧x < g.nodes.length:=by
 obtain⟨i,rfl,h1,_⟩:=ZHx.1 h
 omega
open Classical in
noncomputable def openG (g:Graph) (t F:List Int) : List Bool:=(List.range g.nodes.length).map fun i=>decide (OpenC g (fun i=>(i:Int)∈t) F i)
theorem ZBs (g:Graph) (t F:List Int) : (openG g t F).length=g.nodes.length:=by simp[openG]
theorem ZGh {g:Graph} (t F:List Int) {i:Nat} (h:i < g.nodes.length) {b:Bool} (hb:(openG g t F)[i]? = some b) : b=true ↔ OpenC g (fun i=>(i:Int)∈t) F i:=by
 unfold openG at hb
 rw[List.getElem?_map,List.getElem?_range h] at hb
 injection hb with hb
 rw[← hb]
 simp
theorem ZCl {g:Graph} {t F:List Int} {l:List Bool} (h1:l.length=g.nodes.length) (h2:∀ i:Nat,l[i]? = some true ↔ OpenC g (fun i=>(i:Int)∈t) F i) : l=openG g t F:=by
 apply List.ext_getElem?
 intro i
 by_cases hi:i < g.nodes.length
 ·have e1:l[i]? = some (l[i]'(by omega)):=List.getElem?_eq_getElem _
  have e2:(openG g t F)[i]? = some ((openG g t F)[i]'(by rw[ZBs];exact hi)):=List.getElem?_eq_getElem _
  have h3:=ZGh t F hi e2
  have h4:=h2 i
  rw[e1,e2]
  congr 1
  rw[e1] at h4
  rw[Bool.eq_iff_iff,h3,← h4]
  simp
 ·rw[List.getElem?_eq_none (by omega),List.getElem?_eq_none (by rw[ZBs];omega)]
open Classical in
noncomputable def askE (u:Unit_) (t:Int) : Int:=if checkF u=none then if 0≤t∧t < u.graphs.length then 0 else 2 else 60
theorem ZCu {u:Unit_} {t:Int} (h:checkF u≠none) : askE u t=60:=by unfold askE;rw[if_neg h]
theorem Zz {u:Unit_} {t:Int} (h:checkF u=none) (ht:¬ (0≤t∧t < u.graphs.length)) : askE u t=2:=by unfold askE;rw[if_pos h,if_neg ht]
theorem ZCJ {u:Unit_} {t:Int} (h:checkF u=none) (ht:0≤t∧t < u.graphs.length) : askE u t=0:=by unfold askE;rw[if_pos h,if_pos ht]
theorem Z3 {u:Unit_} {t:Int} (h:askE u t=0) : checkF u=none∧0≤t∧t < u.graphs.length:=by
 unfold askE at h
 split at h
 ·rename_i h1
  split at h
  ·rename_i h2;exact⟨h1,h2⟩
  ·omega
 ·omega
noncomputable def openR (u:Unit_) (t:Int) (F:List Int) : List Bool × Int :=
 if askE u t=0 then match u.graphs[t.toNat]? with
  | some g=>if fenB g.nodes.length (-1) F then (openG g (stL u g) F,0) else ([],110)
  | none=>([],0)
 else ([],askE u t)
noncomputable def ldK (u:Unit_) (g:Graph) (l:List Bool) (k:Nat) : List Int:=((List.range k).filter fun i=>l[i]? == some true && (mkAt u g [] i).load).map fun i:Nat=>(i:Int)
theorem Z8 (u:Unit_) (g:Graph) (l:List Bool) (k:Nat) : ldK u g l (k+1)=ldK u g l k ++ if l[k]? == some true && (mkAt u g [] k).load then [(k:Int)] else []:=by
 unfold ldK
 rw[List.range_succ,List.filter_append,List.map_append]
 congr 1
 by_cases h:(l[k]? == some true && (mkAt u g [] k).load)=true
 ·simp only[List.filter_cons,h,if_true,List.filter_nil,List.map_cons,List.map_nil]
 ·simp only[List.filter_cons,h,if_false,List.filter_nil,List.map_nil,Bool.false_eq_true]
theorem ZEG (u:Unit_) (g:Graph) (l:List Bool) (k:Nat) : (ldK u g l k).length≤k:=by
 unfold ldK
 rw[List.length_map]
 refine Nat.le_trans (List.length_filter_le _ _) ?_
 simp
theorem ZKA {u:Unit_} {g:Graph} {l:List Bool} {k:Nat} {x:Int} : x∈ldK u g l k ↔ ∃ i:Nat,x=i∧i < k∧l[i]? = some true∧(mkAt u g [] i).load=true:=by
 unfold ldK
 simp only[List.mem_map,List.mem_filter,List.mem_range,Bool.and_eq_true,beq_iff_eq]
 constructor
 ·rintro⟨i,⟨h1,h2,h3⟩,rfl⟩;exact⟨i,rfl,h1,h2,h3⟩
 ·rintro⟨i,rfl,h1,h2,h3⟩;exact⟨i,⟨h1,h2,h3⟩,rfl⟩
noncomputable def loadsR (u:Unit_) (t:Int) (F:List Int) : List Int × Int :=
 if (openR u t F).2=0 then match u.graphs[t.toNat]? with
  | some g=>(ldK u g (openR u t F).1 g.nodes.length,0)
  | none=>([],0)
 else ([],(openR u t F).2)
end Go.Proofs.YtffgnjgphkdodaaGreatDoor
namespace Go.Proofs.YtffgnjgphkdodaaGreatDoor
open Go Go.RowKit
attribute [local go_sem] readAtW readUpon
theorem gbT {w wr wx:World} {r:Option Nat} (h:w.grownBy wr r) (k:wr.grownBy wx r) : w.grownBy wx r :=
 ⟨k.os.trans h.os,k.tape.trans h.tape,k.output.trans h.output,Nat.le_trans h.size k.size,fun b hlt hne=>(k.block b (Nat.lt_of_lt_of_le hlt h.size) hne).trans (h.block b hlt hne)⟩
def spotV (s:Spot) : List Value:=[.int .i64 (s.1:Int),.int .i64 (s.2:Int)]
theorem ZFF (s:Spot) : (spotV s).length=2:=rfl
def spotsV (L:List Spot) : List Value:=L.flatMap spotV
def farK:Spot→Nat:=Prod.snd
def QOwn (w:World) (base:Nat) (v:Value) (L:List Spot) : Prop:=w.ownsRow base 176 2 v L.length (spotsV L)
theorem QOwn.cells {w:World} {base:Nat} {v:Value} {L:List Spot} (h:QOwn w base v L) (hn:0 < L.length) : ∃ g c,v=.slice (some ⟨g,0,none⟩) L.length c∧base≤g∧g < w.heap.size∧L.length≤c∧c≤maxLen∧∀ i s,L[i]? = some s→w.cell? ⟨g,i * 2,none⟩=some (.int .i64 (s.1:Int))∧w.cell? ⟨g,i * 2+1,none⟩=some (.int .i64 (s.2:Int)):=by
 have hmax:∀ A n c,v=.slice A n c→c≤maxLen:=fun A n c e=>by
  rcases h.2 with⟨rfl,h0⟩ | ⟨g,cap,cur,rfl,_,_,_,hm,_⟩
  ·injection e with _ _ e3;rw[← e3];exact Nat.zero_le _
  ·injection e with _ _ e3;rw[← e3];exact hm
 obtain⟨g,c,e,h1,h2,h3,h4⟩:=ZW h hn
 have hlt:∀ i s,L[i]? = some s→i < L.length:=fun i s hi=>(List.getElem?_eq_some_iff.1 hi).1
 refine⟨g,c,e,h1,h2,h3,hmax _ _ _ e,fun i s hi=>⟨?_,?_⟩⟩
 ·rw[h4 _ (by have:=hlt i s hi;omega)]
  exact ZDx ZFF hi (j:=0) rfl
 ·rw[h4 _ (by have:=hlt i s hi;omega)]
  exact ZDx ZFF hi (j:=1) rfl
structure KeepR (R:Nat→Prop) (w w':World) : Prop where
 os:w'.os=w.os
 tape:w'.tape=w.tape
 output:w'.output=w.output
 size:w.heap.size≤w'.heap.size
 block:∀ b,R b→w'.heap[b]? = w.heap[b]?
theorem KeepR.refl (R:Nat→Prop) (w:World) : KeepR R w w:=⟨rfl,rfl,rfl,Nat.le_refl _,fun _ _=>rfl⟩
theorem KeepR.trans {R:Nat→Prop} {a b c:World} (h:KeepR R a b) (k:KeepR R b c) : KeepR R a c:=⟨k.os.trans h.os,k.tape.trans h.tape,k.output.trans h.output,Nat.le_trans h.size k.size,fun i hi=>(k.block i hi).trans (h.block i hi)⟩
theorem KeepR.of_below {R:Nat→Prop} {w w':World} (hb:Below w.heap.size w w') (hR:∀ b,R b→b < w.heap.size) : KeepR R w w':=⟨hb.os,hb.tape,hb.output,hb.size,fun b h=>hb.block b (hR b h)⟩
theorem KeepR.setCell {R:Nat→Prop} {w w':World} (h:KeepR R w w') {p:Addr} (hR:∀ b,R b→b≠p.block) (v:Value) : KeepR R w (w'.setCell p v):=⟨h.os,h.tape,h.output,by simpa [World.setCell] using h.size,fun b hb=>(Below.heap_setCell _ _ _ _ (hR b hb)).trans (h.block b hb)⟩
theorem KeepR.alloc {R:Nat→Prop} {w w':World} (h:KeepR R w w') (hR:∀ b,R b→b < w.heap.size) (o:Obj) : KeepR R w (w'.alloc o):=h.trans (.of_below (ZC _ _) fun b hb=>Nat.lt_of_lt_of_le (hR b hb) h.size)
structure Qs (R:Nat→Prop) (w:World) (qb:Nat) (L:List Spot) : Prop where
 ex:∃ v,Blk w qb 173 [v]∧QOwn w 0 v L∧∀ b,R b→b < w.heap.size∧b≠qb∧v.ownBlock≠some b
theorem Qs.below {R:Nat→Prop} {w w':World} {qb:Nat} {L:List Spot} (h:Qs R w qb L) (hb:Below w.heap.size w w') : Qs R w' qb L∧KeepR R w w':=by
 obtain⟨v,h1,h2,h3⟩:=h.ex
 exact⟨⟨v,h1.below hb h1.lt,h2.kept (row:=none) ⟨hb.os,hb.tape,hb.output,hb.size,fun k hk _=>hb.block k hk⟩ (by cases h:v.ownBlock <;> simp),fun b k=>⟨Nat.lt_of_lt_of_le (h3 b k).1 hb.size,(h3 b k).2⟩⟩,.of_below hb fun b k=>(h3 b k).1⟩
theorem DnOk.leaf {L:List Spot} {n i:Nat} (h:DnOk farK L n i) (hn:n≤2 * i+1) : HpN farK L n:=h.done fun k h0 hk hp=>by omega
def fills (N k:Nat) : List Value:=List.replicate k (.int .i64 (-1)) ++ List.replicate (N - k) (.int .i64 0)
theorem ZET {B:Nat} {w wr w':World} {R:Nat→Prop} (h:Below B w wr) (hk:KeepR R wr w') (hR:∀ b,b < B→R b) : Below B w w':=⟨hk.os.trans h.os,hk.tape.trans h.tape,hk.output.trans h.output,Nat.le_trans h.size hk.size,fun b hb=>(hk.block b (hR b hb)).trans (h.block b hb)⟩
theorem Qs.setCell {R:Nat→Prop} {w:World} {qb:Nat} {L:List Spot} (h:Qs R w qb L) {p:Addr} (hp:R p.block) (x:Value) : Qs R (w.setCell p x) qb L:=by
 obtain⟨v,h1,h2,h3⟩:=h.ex
 exact⟨v,h1.far (fun e=>(h3 _ hp).2.1 e.symm) x,ownsRow_setCell_other h2 (h3 _ hp).2.2 x,fun b hb=>⟨by simpa [World.setCell] using (h3 b hb).1,(h3 b hb).2⟩⟩
theorem Qs.more {R:Nat→Prop} {w:World} {qb sb:Nat} {L:List Spot} (h:Qs R w qb L) (o:Obj) (hs:sb=w.heap.size) : Qs (fun b=>R b∨b=sb) (w.alloc o) qb L:=by
 obtain⟨v,h1,h2,h3⟩:=h.ex
 have hl:=h1.lt
 refine⟨v,h1.alloc o,World.ownsRow.alloc h2 o,fun b hb=>?_⟩
 rcases hb with hb | hb
 ·exact⟨by have:=(h3 b hb).1;simp;omega,(h3 b hb).2⟩
 ·exact⟨by simp;omega,by omega,fun e=>by have:=(World.ownsRow.lt h2 b e).2;omega⟩
theorem Qs.less {R R':Nat→Prop} {w:World} {qb:Nat} {L:List Spot} (h:Qs R w qb L) (hR:∀ b,R' b→R b) : Qs R' w qb L:=by
 obtain⟨v,h1,h2,h3⟩:=h.ex
 exact⟨v,h1,h2,fun b hb=>h3 b (hR b hb)⟩
def FaI (w w2:World) (g:Graph) (tg sb sn sf M:Nat) (row out:List Int) (v70:Value) (wr:World) : Prop :=
 ∃ p L,v70=.int .i64 ((p:Nat) : Int)∧p≤row.length∧Hid (Blk wr w.heap.size 3 (ints out))∧Hid (Qs (fun b=>b < w2.heap.size∨b=sb) wr (w2.heap.size+1) L∧HpN farK L L.length)∧Hid (DK g tg out L (fun a b=>a=sn∧(b:Int)∈row.drop p))∧Hid (Blk wr sb 176 [.int .i64 (sn:Int),.int .i64 (sf:Int)]) ∧
  Hid (w2.grownBy wr (some w.heap.size))∧Hid (Below w.heap.size w wr)∧L.length+(row.length - p)≤M
end Go.Proofs.YtffgnjgphkdodaaGreatDoor
