import Derived.Test.YtffgnjgphkdodaaDoorD26
import Derived.Test.YtffgnjgphkdodaaDoorD1
import Derived.Maps.RangeRun
import Derived.Test.YtffgnjgphkdodaaDoorD2
namespace Go.Proofs.YtffgnjgphkdodaaDoor
open Go
def BackE (g:Graph) (h p:Nat) : Prop:=Rch g p∧Edge g p h∧DomC g h p
inductive LoopC (g:Graph) (h:Nat) : Nat→Prop
 | head {p:Nat} : BackE g h p→LoopC g h h
 | tail {p:Nat} : BackE g h p→LoopC g h p
 | back {j q:Nat} : LoopC g h j→j≠h→Edge g q j→Rch g q→LoopC g h q
theorem BackE.rch {g:Graph} {h p:Nat} (hb:BackE g h p) : Rch g h:=hb.1.step hb.2.1
theorem LoopC.rch {g:Graph} {h i:Nat} (hl:LoopC g h i) : Rch g i:=by
 induction hl with
 | head hb=>exact hb.rch
 | tail hb=>exact hb.1
 | back _ _ _ hr _=>exact hr
open Classical in
noncomputable def depN (g:Graph) (k i:Nat) : Nat:=(List.range k).countP fun h=>decide (Rch g h∧LoopC g h i)
noncomputable def depL (g:Graph) (k:Nat) : List Int:=(List.range g.nodes.length).map fun i=>(depN g k i:Int)
noncomputable def depthL (g:Graph) : List Int:=depL g g.nodes.length
theorem Zj (g:Graph) (k:Nat) : (depL g k).length=g.nodes.length:=by simp[depL]
theorem ZBT (g:Graph) (k:Nat) {i:Nat} (h:i < g.nodes.length) : (depL g k)[i]? = some (depN g k i:Int):=by simp[depL,h]
theorem ZII (g:Graph) (k i:Nat) : depN g k i≤k:=by
 unfold depN
 refine Nat.le_trans List.countP_le_length ?_
 simp
theorem ZIJ (g:Graph) : depL g 0=List.replicate g.nodes.length 0:=by
 apply List.ext_getElem?
 intro i
 by_cases h:i < g.nodes.length
 ·rw[ZBT g 0 h,List.getElem?_replicate,if_pos h];rfl
 ·rw[List.getElem?_eq_none (by rw[Zj];omega),List.getElem?_eq_none (by simp;omega)]
open Classical in
theorem ZDf (g:Graph) (h i:Nat) : depN g (h+1) i=depN g h i+if Rch g h∧LoopC g h i then 1 else 0:=by
 unfold depN
 rw[List.range_succ,List.countP_append,List.countP_cons,List.countP_nil]
 by_cases c:Rch g h∧LoopC g h i
 ·simp[c]
 ·simp[c]
open Classical in
noncomputable def incL (l:List Int) (D:Int→Prop) : List Int:=(List.range l.length).map fun i=>l.getD i 0+if D i then 1 else 0
theorem ZBd (l:List Int) (D:Int→Prop) : (incL l D).length=l.length:=by simp[incL]
open Classical in
theorem ZCQ (l:List Int) (D:Int→Prop) {i:Nat} (h:i < l.length) : (incL l D)[i]? = some (l.getD i 0+if D i then 1 else 0):=by simp[incL,h]
theorem ZHu (l:List Int) {D:Int→Prop} (h:∀ i,¬ D i) : incL l D=l:=by
 apply List.ext_getElem?
 intro i
 by_cases hi:i < l.length
 ·rw[ZCQ l D hi,if_neg (h _),ZCS l hi];simp
 ·rw[List.getElem?_eq_none (by rw[ZBd];omega),List.getElem?_eq_none (by omega)]
theorem ZHt {l:List Int} {D D':Int→Prop} {k:Nat} {x:Int} (hx:(incL l D)[k]? = some x) (hk:¬ D k) (hD:∀ i,D' i ↔ D i∨i=k) : (incL l D).set k (x+1)=incL l D':=by
 apply List.ext_getElem?
 intro i
 by_cases hi:i < l.length
 ·rw[List.getElem?_set,ZCQ l D' hi,ZBd]
  by_cases e:k=i
  ·subst e
   rw[if_pos rfl,if_pos hi]
   rw[ZCQ l D hi,if_neg hk] at hx
   injection hx with hx
   rw[if_pos ((hD _).2 (.inr rfl))]
   congr 1;omega
  ·rw[if_neg e,ZCQ l D hi]
   by_cases c:D i
   ·rw[if_pos c,if_pos ((hD _).2 (.inl c))]
   ·rw[if_neg c,if_neg]
    intro h
    rcases(hD _).1 h with h | h
    ·exact c h
    ·omega
 ·rw[List.getElem?_eq_none (by rw[List.length_set,ZBd];omega),List.getElem?_eq_none (by rw[ZBd];omega)]
theorem ZHv {g:Graph} {h:Nat} (hr:Rch g h) {D:Int→Prop} (hD:∀ i:Nat,D i ↔ LoopC g h i) : incL (depL g h) D=depL g (h+1):=by
 apply List.ext_getElem?
 intro i
 by_cases hi:i < g.nodes.length
 ·rw[ZCQ _ _ (by rw[Zj];exact hi),ZBT g (h+1) hi,ZDf]
  have h1:=ZCS (depL g h) (k:=i) (by rw[Zj];exact hi)
  rw[ZBT g h hi] at h1
  injection h1 with h1
  rw[← h1]
  by_cases c:LoopC g h i
  ·rw[if_pos ((hD i).2 c),if_pos ⟨hr,c⟩];congr 1
  ·rw[if_neg (fun q=>c ((hD i).1 q)),if_neg (fun q=>c q.2)];congr 1
 ·rw[List.getElem?_eq_none (by rw[ZBd,Zj];omega),List.getElem?_eq_none (by rw[Zj];omega)]
theorem ZIK {g:Graph} {h:Nat} (hr:¬ Rch g h) : depL g (h+1)=depL g h:=by
 apply List.ext_getElem?
 intro i
 by_cases hi:i < g.nodes.length
 ·rw[ZBT _ _ hi,ZBT _ _ hi,ZDf,if_neg (fun q=>hr q.1)];simp
 ·rw[List.getElem?_eq_none (by rw[Zj];omega),List.getElem?_eq_none (by rw[Zj];omega)]
structure LI (g:Graph) (h:Nat) (S T:List Int) (tl:Nat→Prop) (ex:Nat→Nat→Prop) : Prop where
 sub:∀ x∈S,∃ n:Nat,x=n∧LoopC g h n
 todo:∀ x∈T,∃ n:Nat,x=n∧LoopC g h n
 tails:∀ p:Nat,BackE g h p→tl p→((p:Int)∈S∨(p:Int)∈T)
 head:T≠[]→(h:Int)∈S
 closed:∀ x:Nat,(x:Int)∈S→x≠h→∀ q,Edge g q x→Rch g q→(q:Int)∈S∨(q:Int)∈T∨ex x q
section
variable {g:Graph} {h:Nat} {S T:List Int} {tl:Nat→Prop} {ex:Nat→Nat→Prop}
theorem LI.start:LI g h [] [] (fun _=>False) (fun _ _=>False):=⟨fun x hx=>(by cases hx),fun x hx=>(by cases hx),fun _ _ h=>h.elim,fun h=>absurd rfl h,fun x hx=>(by cases hx)⟩
theorem LI.pass (hl:LI g h S T tl (fun _ _=>False)) {p:Nat} (hn:¬ BackE g h p) {tl':Nat→Prop} (ht:∀ q,tl' q→tl q∨q=p) : LI g h S T tl' (fun _ _=>False) :=
 ⟨hl.sub,hl.todo,fun q hq hqt=>by
  rcases ht q hqt with h1 | h1
  ·exact hl.tails q hq h1
  ·subst h1;exact absurd hq hn,hl.head,hl.closed⟩
theorem LI.tail_ (hl:LI g h S T tl (fun _ _=>False)) {p:Nat} (hb:BackE g h p) {tl':Nat→Prop} (ht:∀ q,tl' q→tl q∨q=p) : LI g h ((h:Int) :: S) (T ++ [(p:Int)]) tl' (fun _ _=>False) :=
 ⟨fun x hx=>by
  rcases List.mem_cons.1 hx with rfl | hx
  ·exact⟨h,rfl,.head hb⟩
  ·exact hl.sub x hx,fun x hx=>by
  rw[List.mem_append,List.mem_singleton] at hx
  rcases hx with hx | rfl
  ·exact hl.todo x hx
  ·exact⟨p,rfl,.tail hb⟩,fun q hq hqt=>by
  rcases ht q hqt with h1 | h1
  ·rcases hl.tails q hq h1 with h2 | h2
   ·exact .inl (by simp[h2])
   ·exact .inr (by simp[h2])
  ·subst h1;exact .inr (by simp),fun _=>by simp,fun x hx hne q he hr=>by
  rcases List.mem_cons.1 hx with h1 | hx
  ·omega
  ·rcases hl.closed x hx hne q he hr with h2 | h2 | h2
   ·exact .inl (by simp[h2])
   ·exact .inr (.inl (by simp[h2]))
   ·exact h2.elim⟩
theorem LI.skip {n:Int} (hl:LI g h S (T ++ [n]) tl (fun _ _=>False)) (hn:n∈S) : LI g h S T tl (fun _ _=>False) :=
 ⟨hl.sub,fun x hx=>hl.todo x (by simp[hx]),fun p hp ht=>by
  rcases hl.tails p hp ht with h1 | h1
  ·exact .inl h1
  ·rw[List.mem_append,List.mem_singleton] at h1
   rcases h1 with h1 | h1
   ·exact .inr h1
   ·exact .inl (h1 ▸ hn),fun _=>hl.head (by simp),fun x hx hne q he hr=>by
  rcases hl.closed x hx hne q he hr with h1 | h1 | h1
  ·exact .inl h1
  ·rw[List.mem_append,List.mem_singleton] at h1
   rcases h1 with h1 | h1
   ·exact .inr (.inl h1)
   ·exact .inl (h1 ▸ hn)
  ·exact h1.elim⟩
theorem LI.take_ {n:Nat} (hl:LI g h S (T ++ [(n:Int)]) tl (fun _ _=>False)) (_hn:(n:Int) ∉ S) : LI g h ((n:Int) :: S) T tl (fun x _=>x=n):=by
 obtain⟨n',e,hc⟩:=hl.todo (n:Int) (by simp)
 obtain rfl:n=n':=by omega
 refine⟨fun x hx=>?_,fun x hx=>hl.todo x (by simp[hx]),fun p hp ht=>?_,fun _=>by have:=hl.head (by simp);simp[this],fun x hx hne q he hr=>?_⟩
 ·rcases List.mem_cons.1 hx with rfl | hx
  ·exact⟨n,rfl,hc⟩
  ·exact hl.sub x hx
 ·rcases hl.tails p hp ht with h1 | h1
  ·exact .inl (by simp[h1])
  ·rw[List.mem_append,List.mem_singleton] at h1
   rcases h1 with h1 | h1
   ·exact .inr h1
   ·exact .inl (by simp[h1])
 ·rcases List.mem_cons.1 hx with h1 | hx
  ·exact .inr (.inr (by omega))
  ·rcases hl.closed x hx hne q he hr with h1 | h1 | h1
   ·exact .inl (by simp[h1])
   ·rw[List.mem_append,List.mem_singleton] at h1
    rcases h1 with h1 | h1
    ·exact .inr (.inl h1)
    ·exact .inl (by simp[h1])
   ·exact h1.elim
theorem LI.drop_ {n p:Nat} {ex':Nat→Nat→Prop} (hl:LI g h S T tl ex) (hp:¬ Rch g p) (hex:∀ x q,ex x q→ex' x q∨(x=n∧q=p)) : LI g h S T tl ex' :=
 ⟨hl.sub,hl.todo,hl.tails,hl.head,fun x hx hne q he hr=>by
  rcases hl.closed x hx hne q he hr with h1 | h1 | h1
  ·exact .inl h1
  ·exact .inr (.inl h1)
  ·rcases hex x q h1 with h2 | ⟨_,rfl⟩
   ·exact .inr (.inr h2)
   ·exact absurd hr hp⟩
theorem LI.more {n p:Nat} {ex':Nat→Nat→Prop} (hl:LI g h S T tl ex) (hr:Rch g p) (he:Edge g p n) (hn:(n:Int)∈S) (hnh:n≠h) (hh:(h:Int)∈S) (hex:∀ x q,ex x q→ex' x q∨(x=n∧q=p)) : LI g h S (T ++ [(p:Int)]) tl ex':=by
 obtain⟨n',e,hc⟩:=hl.sub (n:Int) hn
 obtain rfl:n=n':=by omega
 refine⟨hl.sub,fun x hx=>?_,fun q hq ht=>?_,fun _=>hh,fun x hx hne q he hr=>?_⟩
 ·rw[List.mem_append,List.mem_singleton] at hx
  rcases hx with hx | rfl
  ·exact hl.todo x hx
  ·exact⟨p,rfl,.back hc hnh he hr⟩
 ·rcases hl.tails q hq ht with h1 | h1
  ·exact .inl h1
  ·exact .inr (by simp[h1])
 ·rcases hl.closed x hx hne q he hr with h1 | h1 | h1
  ·exact .inl h1
  ·exact .inr (.inl (by simp[h1]))
  ·rcases hex x q h1 with h2 | ⟨_,rfl⟩
   ·exact .inr (.inr h2)
   ·exact .inr (.inl (by simp))
theorem LI.narrow {ex':Nat→Nat→Prop} (hl:LI g h S T tl ex) (hex:∀ x q,Edge g q x→Rch g q→ex x q→ex' x q) : LI g h S T tl ex' :=
 ⟨hl.sub,hl.todo,hl.tails,hl.head,fun x hx hne q he hr=>by
  rcases hl.closed x hx hne q he hr with h1 | h1 | h1
  ·exact .inl h1
  ·exact .inr (.inl h1)
  ·exact .inr (.inr (hex x q he hr h1))⟩
theorem LI.done (hl:LI g h S [] tl (fun _ _=>False)) (ht:∀ p,BackE g h p→tl p) (hh:∀ p,BackE g h p→(h:Int)∈S) (i:Nat) : (i:Int)∈S ↔ LoopC g h i:=by
 constructor
 ·intro hi
  obtain⟨n,e,hc⟩:=hl.sub _ hi
  obtain rfl:i=n:=by omega
  exact hc
 ·intro hc
  induction hc with
  | head hb=>exact hh _ hb
  | tail hb =>
   rcases hl.tails _ hb (ht _ hb) with h1 | h1
   ·exact h1
   ·cases h1
  | back _ hne he hr ih =>
   rcases hl.closed _ ih hne _ he hr with h1 | h1 | h1
   ·exact h1
   ·cases h1
   ·exact h1.elim
end
def unf (N:Nat) (S:List Int) : Nat:=(List.range N).countP fun i:Nat=>decide ((i:Int) ∉ S)
theorem unf_le (N:Nat) (S:List Int) : unf N S≤N:=by
 unfold unf
 refine Nat.le_trans List.countP_le_length ?_
 simp
theorem ZFR {α:Type} {p q:α→Bool} : ∀ {l:List α} {x:α},x∈l→(∀ y∈l,q y=true→p y=true)→p x=true→q x=false→l.countP q < l.countP p
 | [],_,h,_,_,_=>by cases h
 | y :: l,x,h,hpq,hp,hq=>by
  rw[List.countP_cons,List.countP_cons]
  rcases List.mem_cons.1 h with rfl | h
  ·rw[hp,hq]
   have:l.countP q≤l.countP p:=List.countP_mono_left fun z hz=>hpq z (by simp[hz])
   simp
   omega
  ·have:=ZFR h (fun z hz=>hpq z (by simp[hz])) hp hq
   cases hqy:q y with
   | true=>rw[hpq y (by simp) hqy];simp;omega
   | false=>cases p y <;> simp <;> omega
theorem unf_lt {N n:Nat} {S:List Int} (hn:n < N) (hs:(n:Int) ∉ S) : unf N ((n:Int) :: S) < unf N S:=by
 unfold unf
 refine ZFR (x:=n) (List.mem_range.2 hn) (fun y _ hy=>?_) (by simp[hs]) (by simp)
 simp only[List.mem_cons,not_or,decide_eq_true_eq] at hy ⊢
 exact hy.2
end Go.Proofs.YtffgnjgphkdodaaDoor
namespace Go.Proofs.YtffgnjgphkdodaaDoor
open Go Go.RowKit
open Go.ChangeMaps (setBlock)
section
variable {κ:Type} [DecidableEq κ] {kv:κ→Value} {dec:Value→Option κ} {P:Program} {w w':World} {b r:Nat} {F:κ→Option Value} {left:κ→Prop} {cnt:Nat}
def RgIs (kv:κ→Value) (dec:Value→Option κ) (w:World) (b r:Nat) (F:κ→Option Value) (left:κ→Prop) (cnt:Nat) : Prop :=
 ∃ es clock since seen c0,w.heap[b]? = some (.map es clock)∧(∀ e∈es.toList,∃ k',e.key=kv k')∧(∀ k,(seek dec k es.toList 0).map (·.2)=F k)∧MapKept.Stamped es clock∧w.heap[r]? = some (.mapIter (some b) since seen c0) ∧
  (∀ x∈es.toList,x.born < since)∧since≤c0∧since≤clock∧(leftOf es seen).size=cnt∧∀ k,left k ↔ ∃ x∈es.toList,x.key=kv k∧seen.contains x.born=false
theorem ZEU (hdk:∀ k,dec (kv k)=some k) {es:List MapEntry} (hk:∀ e∈es,∃ k',e.key=kv k') (k:κ) : seek dec k es 0≠none ↔ ∃ x∈es,x.key=kv k:=by
 constructor
 ·intro h
  cases hs:seek dec k es 0 with
  | none=>exact absurd hs h
  | some p =>
   obtain⟨j,v⟩:=p
   obtain⟨_,e,he,hd⟩:=ZEV k es 0 j v hs
   have hm:=List.mem_of_getElem? he
   obtain⟨k',hk'⟩:=hk e hm
   rw[hk',hdk] at hd
   injection hd with hd
   exact⟨e,hm,by rw[hk',hd]⟩
 ·rintro⟨x,hx,hxk⟩ h
  exact ZBM k es 0 h x hx (by rw[hxk,hdk])
theorem ZGE (hdk:∀ k,dec (kv k)=some k) : ∀ {es:List MapEntry} (i:Nat),es.Pairwise (fun x y=>x.key≠y.key)→(∀ e∈es,∃ k',e.key=kv k')→∀ {x:MapEntry} {k:κ},x∈es→x.key=kv k→(seek dec k es i).map (·.2)=some x.val
 | [],_,_,_,_,_,h,_=>by cases h
 | e :: es,i,hp,hk,x,k,hx,hxk=>by
  obtain⟨h1,h2⟩:=List.pairwise_cons.1 hp
  unfold seek
  rcases List.mem_cons.1 hx with rfl | hx
  ·rw[if_pos (by rw[hxk,hdk])];rfl
  ·rw[if_neg]
   ·exact ZGE hdk (i+1) h2 (fun e he=>hk e (by simp[he])) hx hxk
   ·intro hd
    obtain⟨k',hk'⟩:=hk e (by simp)
    rw[hk',hdk] at hd
    injection hd with hd
    exact h1 x hx (by rw[hk',hxk,hd])
theorem RgIs.map (h:RgIs kv dec w b r F left cnt) : MapIs kv dec w b F:=by
 obtain⟨es,clock,_,_,_,h1,h2,h3,h4,_⟩:=h
 exact⟨es,clock,h1,h2,h3,h4⟩
theorem RgIs.lt (h:RgIs kv dec w b r F left cnt) : r < w.heap.size:=by
 obtain⟨es,clock,_,_,_,_,_,_,_,h5,_⟩:=h
 exact lt_of_block h5
theorem RgIs.keep (h:RgIs kv dec w b r F left cnt) (hb:w'.heap[b]? = w.heap[b]?) (hr:w'.heap[r]? = w.heap[r]?) : RgIs kv dec w' b r F left cnt:=by
 obtain⟨es,clock,since,seen,c0,h1,h2,h3,h4,h5,rest⟩:=h
 exact⟨es,clock,since,seen,c0,hb.trans h1,h2,h3,h4,hr.trans h5,rest⟩
theorem RgIs.setCell (h:RgIs kv dec w b r F left cnt) {p:Addr} (hb:b≠p.block) (hr:r≠p.block) (u:Value) : RgIs kv dec (w.setCell p u) b r F left cnt:=h.keep (Below.heap_setCell w p u b hb) (Below.heap_setCell w p u r hr)
theorem RgIs.ne (h:RgIs kv dec w b r F left cnt) : r≠b:=by
 obtain⟨es,clock,since,seen,c0,h1,_,_,_,h5,_⟩:=h
 intro e
 rw[e,h1] at h5
 cases h5
theorem ZHr {t kt et:TypeId} (hdk:∀ k,dec (kv k)=some k) (ht:P.underlying t=some (.map kt et)) (h:MapIs kv dec w b F) :
  ∃ w' cnt,(Instr.range t (.map (some b))).run P w=.ok (.pointer (some ⟨w.heap.size,0,none⟩)) w'∧RgIs kv dec w' b w.heap.size F (fun k=>F k≠none) cnt∧Below w.heap.size w w'∧w'.heap.size=w.heap.size+1:=by
 have hlt:=h.lt
 obtain⟨es,clock,hb,hk,hs,hst⟩:=h
 refine⟨_,_,run_range_map w t kt et b es clock ht hb,⟨es,clock,clock,#[],clock,(Below.heap_alloc w _ b hlt).trans hb,hk,hs,hst,heap_alloc_new w _,hst.1,Nat.le_refl _,Nat.le_refl _,rfl,fun k=>?_⟩,ZB _ _,by simp⟩
 show F k≠none ↔ _
 rw[← hs k]
 have h1:=ZEU hdk hk k
 constructor
 ·intro h
  obtain⟨x,hx,hxk⟩:=h1.1 (fun e=>h (by rw[e];rfl))
  exact⟨x,hx,hxk,by simp⟩
 ·rintro⟨x,hx,hxk,_⟩ h
  refine h1.2 ⟨x,hx,hxk⟩ ?_
  cases hs:seek dec k es.toList 0 with
  | none=>rfl
  | some p=>rw[hs] at h;cases h
theorem ZIt (hdk:∀ k,dec (kv k)=some k) (h:RgIs kv dec w b r F left cnt) (ty:TypeId) :
  (cnt=0∧(∀ k,¬ left k)∧(Instr.next (.pointer (some ⟨r,0,none⟩)) false ty).run P w=.ok (.tuple #[.bool false]) w) ∨
  ∃ k v w' cnt',left k∧F k=some v∧(Instr.next (.pointer (some ⟨r,0,none⟩)) false ty).run P w=.ok (.tuple #[.bool true,kv k,v]) w'∧RgIs kv dec w' b r F (fun x=>left x∧x≠k) cnt'∧cnt' < cnt ∧
   w.grownBy w' (some r)∧w'.heap.size=w.heap.size∧(Instr.entry (.pointer (some ⟨r,0,none⟩))).run P w'=.ok (.tuple #[kv k,v]) w':=by
 have hne:=h.ne
 obtain⟨es,clock,since,seen,c0,hb,hk,hs,hst,hr,hold,hsc,hsk,rfl,hl⟩:=h
 have hst3:=(MapKept.stamped_iff es clock).1 hst
 rcases run_next_at (P:=P) w ty r b since c0 seen es clock hr hb hold hsc with⟨h0,hrun⟩ | ⟨e,he,w1,hal,hrun⟩
 ·refine .inl ⟨h0,fun k hk'=>?_,hrun⟩
  obtain⟨x,hx,_,hx2⟩:=(hl k).1 hk'
  rw[all_seen es seen h0 x hx] at hx2
  cases hx2
 ·obtain⟨hem,hes⟩:=mem_left he
  obtain⟨k,hke⟩:=hk e hem
  have hr1:w1.heap[r]? = some (.mapIter (some b) since seen c0):=by rcases hal with rfl | rfl <;> exact hr
  have hb1:w1.heap[b]? = some (.map es clock):=by rcases hal with rfl | rfl <;> exact hb
  have hset:=MapKept.heap_set (o':=.mapIter (some b) since (seen.push e.born) clock) hr1
  have hb':(setBlock w1 r (.mapIter (some b) since (seen.push e.born) clock)).heap[b]? = some (.map es clock):=(hset.2 b (fun e1=>hne e1.symm)).trans hb1
  refine .inr ⟨k,e.val,_,_,(hl k).2 ⟨e,hem,hke,hes⟩,?_,by rw[← hke];exact hrun,⟨es,clock,since,seen.push e.born,clock,hb',hk,hs,hst,hset.1,hold,hsk,hsk,rfl,fun x=>?_⟩,left_shrinks es seen e he,?_,?_,by
   rw[← hke];exact run_entry_at _ r b since seen es clock e hset.1 hb' hem hst3.2.1⟩
  ·rw[← hs k];exact ZGE hdk 0 hst3.2.2 hk hem hke
  ·show(left x∧x≠k) ↔ _
   rw[hl x]
   constructor
   ·rintro⟨⟨y,hy,hyk,hy2⟩,hxk⟩
    refine⟨y,hy,hyk,?_⟩
    rw[contains_push,hy2,Bool.false_or,beq_eq_false_iff_ne]
    intro hbe
    have:y=e:=by
     have hnb:=hst3.2.1
     obtain⟨i,hi⟩:=List.getElem?_of_mem hy
     obtain⟨j,hj⟩:=List.getElem?_of_mem hem
     have h1:(es.toList.map (·.born))[i]? = some y.born:=by rw[List.getElem?_map,hi];rfl
     have h2:(es.toList.map (·.born))[j]? = some e.born:=by rw[List.getElem?_map,hj];rfl
     have hlt:i < (es.toList.map (·.born)).length:=(List.getElem?_eq_some_iff.1 h1).1
     have hij:i=j:=(List.getElem?_inj hlt hnb).1 (h1.trans ((congrArg some hbe).trans h2.symm))
     subst hij
     rw[hi] at hj
     injection hj
    subst this
    rw[hyk] at hke
    have:=hdk x
    rw[hke,hdk] at this
    injection this with this
    exact hxk this.symm
   ·rintro⟨y,hy,hyk,hy2⟩
    rw[contains_push] at hy2
    simp only[Bool.or_eq_false_iff,beq_eq_false_iff_ne] at hy2
    refine⟨⟨y,hy,hyk,hy2.1⟩,?_⟩
    rintro rfl
    have hpw:=hst3.2.2
    apply hy2.2
    obtain⟨i,hi⟩:=List.getElem?_of_mem hy
    obtain⟨j,hj⟩:=List.getElem?_of_mem hem
    have hkn:(es.toList.map (·.key)).Nodup:=hst.2.2
    have h1:(es.toList.map (·.key))[i]? = some y.key:=by rw[List.getElem?_map,hi];rfl
    have h2:(es.toList.map (·.key))[j]? = some e.key:=by rw[List.getElem?_map,hj];rfl
    have hlt:i < (es.toList.map (·.key)).length:=(List.getElem?_eq_some_iff.1 h1).1
    have hij:i=j:=(List.getElem?_inj hlt hkn).1 (h1.trans ((congrArg some (hyk.trans hke.symm)).trans h2.symm))
    subst hij
    rw[hi] at hj
    injection hj with hj
    rw[hj]
  ·rcases hal with rfl | rfl <;> exact⟨rfl,rfl,rfl,by simp[setBlock],fun i _ hi=>hset.2 i (fun e1=>hi (by rw[e1]))⟩
  ·rcases hal with rfl | rfl <;> simp[setBlock]
theorem ZIX {t kt et:TypeId} (K:KeyT P kt kv dec) (ht:P.underlying t=some (.map kt et)) {ops:Array Oper} {rest:List Oper} {o:Oper} {a:Act} {Q:Exit→Act→World→Prop} (hgd:o.guard=none) (m:Operand) (ho:o.op=.range t m) (b:Nat) (F:κ→Option Value)
  (h:MapIs kv dec w b F) (hm:a.eval m=.map (some b)) (hn:∀ w' cnt,RgIs kv dec w' b w.heap.size F (fun k=>F k≠none) cnt→Below w.heap.size w w'→w'.heap.size=w.heap.size+1→wpList P ops Q rest (a.put o.dst (.pointer (some ⟨w.heap.size,0,none⟩))) w') : wpList P ops Q (o :: rest) a w:=by
 refine wpList_plain hgd fun K' hK'=>?_
 obtain⟨w',cnt,hr,h1,h2,h3⟩:=ZHr K.dk ht h
 unfold Oper.wp
 simp[execOp,ho,hm,hr,Result.andThen]
 exact hK' _ _ (hn w' cnt h1 h2 h3)
theorem ZJQ (hdk:∀ k,dec (kv k)=some k) {ops:Array Oper} {rest:List Oper} {o:Oper} {a:Act} {Q:Exit→Act→World→Prop} (hgd:o.guard=none) (it:Operand) (ho:o.op=.next it false) (b r:Nat) (F:κ→Option Value) (left:κ→Prop) (cnt:Nat)
  (h:RgIs kv dec w b r F left cnt) (hit:a.eval it=.pointer (some ⟨r,0,none⟩)) (hd:cnt=0→(∀ k,¬ left k)→wpList P ops Q rest (a.put o.dst (.tuple #[.bool false])) w)
  (hm:∀ k v w' cnt',left k→F k=some v→RgIs kv dec w' b r F (fun x=>left x∧x≠k) cnt'→cnt' < cnt→w.grownBy w' (some r)→w'.heap.size=w.heap.size→(Instr.entry (.pointer (some ⟨r,0,none⟩))).run P w'=.ok (.tuple #[kv k,v]) w'→wpList P ops Q rest (a.put o.dst (.tuple #[.bool true,kv k,v])) w') : wpList P ops Q (o :: rest) a w:=by
 refine wpList_plain hgd fun K' hK'=>?_
 unfold Oper.wp
 rcases ZIt (P:=P) hdk h o.type with⟨h0,hl,hrun⟩ | ⟨k,v,w',cnt',h1,h2,hrun,h3,h4,h5,h6,h7⟩
 ·simp[execOp,ho,hit,hrun,Result.andThen]
  exact hK' _ _ (hd h0 hl)
 ·simp[execOp,ho,hit,hrun,Result.andThen]
  exact hK' _ _ (hm k v w' cnt' h1 h2 h3 h4 h5 h6 h7)
theorem ZGf {ops:Array Oper} {rest:List Oper} {o:Oper} {a:Act} {Q:Exit→Act→World→Prop} {t:TypeId} {x:Operand} (_ho:o.op=.range t x) (h:Stop (wpList P ops Q (o :: rest) a w)) : wpList P ops Q (o :: rest) a w:=h.out
theorem ZHU {ops:Array Oper} {rest:List Oper} {o:Oper} {a:Act} {Q:Exit→Act→World→Prop} {x:Operand} {c:Bool} (_ho:o.op=.next x c) (h:Stop (wpList P ops Q (o :: rest) a w)) : wpList P ops Q (o :: rest) a w:=h.out
end
def DmPost (g:Graph) (h n:Nat) (w:World) (e:Ending) (w':World) : Prop:=∃ r,e=.returned (.bool r)∧(r=true ↔ DomC g h n)∧w'=w
set_option maxRecDepth 100000 in
set_option maxHeartbeats 1000000 in
theorem ZF1 (g:Graph) (out:List Int) (h n B b c:Nat) (w:World) (hw:WholeG g) (hd:Doms g out) (hb:BoxI w B b c (out.set 0 (-1))) (hn:Rch g n) :
  Calls Tryd.prog 63 #[.int .i64 (h:Int),.int .i64 (n:Int),.pointer (some ⟨B,0,none⟩)] w (DmPost g h n w):=by
 obtain⟨pl,hpl⟩:=hd.next
 have hlen:=hd.len
 have hpos:=hw.pos
 have hmost:=hw.most
 have x0:=hb.box
 rw[List.length_set] at x0
 have HD:=Hd_ hd
 have HB:=Hd_ hb
 have HP:=Hd_ hpl
 have HW:=Hd_ hw
 have HNR:=Hd_ hn
 obtain⟨N,HN⟩ : ∃ N,Hid (g.nodes.length=N):=⟨_,rfl⟩
 rw[HN.out] at hlen hpos hmost
 rw[hlen] at x0
 clear hd hb hpl hw hn
 go_enter Tryd.func63,Tryd.ntmps63
 go_wp2
 go_loop [1] (fun v1=>∃ x:Int,v1=.int .i64 x∧Hid ((x = -1∧¬ Ch out n h)∨∃ a:Nat,x=a∧Rch g a∧(Ch out n h ↔ Ch out a h))) (fun v1=>if intOf v1 < 0 then 0 else pl (intOf v1).toNat+1)
 case atStart=>exact⟨n,rfl,Hd_ (.inr ⟨n,rfl,HNR.out,Iff.rfl⟩)⟩
 case round =>
  obtain⟨x,rfl,HX⟩:=hrel
  by_cases hx0:x < 0
  ·have d0:decide ((0:Int)≤x)=false:=decide_eq_false (by omega)
   have hno:¬ DomC g h n:=by
    rcases HX.out with⟨_,h1⟩ | ⟨a,h1,_⟩
    ·exact fun h2=>h1 ((HD.out.dom n h HNR.out).2 h2)
    ·omega
   have HNO:=Hd_ hno
   clear hx0 hno
   go_wp2
   go_ret
   exact⟨false,rfl,⟨fun h1=>(by cases h1),fun h1=>absurd h1 HNO.out⟩,rfl⟩
  ·have d0:decide ((0:Int)≤x)=true:=decide_eq_true (by omega)
   obtain⟨a,rfl,har,hch⟩ : ∃ a:Nat,x=a∧Rch g a∧(Ch out n h ↔ Ch out a h):=by
    rcases HX.out with⟨h1,_⟩ | h1
    ·omega
    ·exact h1
   have haN:=har.lt HW.out
   rw[HN.out] at haN
   have a0:(0:Int)≤a:=by omega
   have aN:(a:Int) < N:=by omega
   have HA:=Hd_ (And.intro har hch)
   clear hx0 har hch
   by_cases hah:a=h
   ·have d1:((a:Int) == (h:Int))=true:=by simp[hah]
    have d2:(a == h)=true:=by simp[hah]
    have HYES:Hid (DomC g h n):=Hd_ ((HD.out.dom n h HNR.out).1 (HA.out.2.2 (by rw[hah];exact .refl _)))
    clear hah
    go_wp2
    go_ret
    exact⟨true,rfl,⟨fun _=>HYES.out,fun _=>rfl⟩,rfl⟩
   ·have d1:((a:Int) == (h:Int))=false:=by simp;omega
    have d2:(a == h)=false:=by simp;omega
    by_cases h0:a=0
    ·subst h0
     have c0:=HB.out.blk 0 (-1) (by rw[List.getElem?_set,if_pos rfl,if_pos (by omega)])
     have HNX:Hid (¬ Ch out n h):=Hd_ fun q=>hah (CK.zero_chain (HA.out.2.1 q)).symm
     clear hah
     go_wp2
     go_round
     case rel=>exact⟨-1,rfl,Hd_ (.inl ⟨rfl,HNX.out⟩)⟩
     case measure=>simp[intOf]
    ·obtain⟨k,hk1,hk2,hk3⟩:=(HP.out a HA.out.1).2 h0
     have c0:=HB.out.blk a (k:Int) (by rw[List.getElem?_set,if_neg (fun e=>h0 e.symm)];exact hk1)
     have HNX:Hid (Rch g k∧(Ch out n h ↔ Ch out k h)):=Hd_ ⟨hk2,HA.out.2.trans ⟨fun q=>q.tail hah hk1,fun q=>.step h0 hk1 q⟩⟩
     clear hah hk1 hk2 h0
     go_wp2
     go_round
     case rel=>exact⟨k,rfl,Hd_ (.inr ⟨k,rfl,HNX.out.1,HNX.out.2⟩)⟩
     case measure => have q1:¬ ((k:Nat) : Int) < 0:=by omega
                     have q2:¬ ((a:Nat) : Int) < 0:=by omega
                     show(if ((k:Nat) : Int) < 0 then 0 else pl ((k:Nat) : Int).toNat+1) < (if ((a:Nat) : Int) < 0 then 0 else pl ((a:Nat) : Int).toNat+1)
                     rw[if_neg q1,if_neg q2,Int.toNat_natCast,Int.toNat_natCast];omega
def setF (S:List Int) : Int→Option Value:=fun x=>if x∈S then some (.bool true) else none
theorem ZGD (S:List Int) (k:Int) : (fun k'=>if k'=k then some (.bool true) else setF S k')=setF (k :: S):=by
 funext x
 unfold setF
 by_cases h:x=k
 ·simp[h]
 ·simp[h]
theorem ZIf (S:List Int) (k:Int) : (setF S k).getD (.bool false)=.bool (decide (k∈S)):=by
 unfold setF
 by_cases h:k∈S <;> simp[h]
structure DpK (g:Graph) (h:Nat) (w4:World) (MB:Nat) (S:List Int) (wr:World) : Prop where
 map:MapIs (fun n:Int=>Value.int .i64 n) decInt wr MB (setF S)
 out:Blk wr w4.heap.size 3 (ints (depL g h))
 below:Below w4.heap.size w4 wr
 size:MB+1≤wr.heap.size
theorem DpK.append {g:Graph} {h MB:Nat} {w4 wr wx:World} {S:List Int} {v:Value} {n:Nat} {xs:List Value} (hk:DpK g h w4 MB S wr) (hlt:w4.heap.size < MB) (o:Obj) (hr:(wr.alloc o).ownsRow (MB+1) 3 1 v n xs) (hg:(wr.alloc o).grownBy wx v.ownBlock) : DpK g h w4 MB S wx:=by
 have hs:=hk.size
 have hne:∀ b,b < MB+1→some b≠v.ownBlock:=fun b hb e=>by have:=Z5 hr b e.symm;omega
 refine⟨(hk.map.alloc o).grown hg (hne MB (by omega)),(hk.out.alloc o).grown hg (hne _ (by omega)),(hk.below.alloc (by have:=hk.below.size;omega) o).grown hg (by have:=hk.below.size;simp;omega) (fun b hb=>by have:=Z5 hr b hb;omega),?_⟩
 have:=hg.size
 simp at this
 omega
theorem DpK.update {g:Graph} {h MB:Nat} {w4 wr wx:World} {S S':List Int} (hk:DpK g h w4 MB S wr) (hlt:w4.heap.size < MB) (hm:MapIs (fun n:Int=>Value.int .i64 n) decInt wx MB (setF S')) (hg:wr.grownBy wx (some MB)) : DpK g h w4 MB S' wx :=
 ⟨hm,hk.out.grown hg (fun e=>by injection e with e;omega),hk.below.grown hg hk.below.size (fun b hb=>by injection hb with hb;omega),Nat.le_trans hk.size hg.size⟩
def DpA (g:Graph) (h:Nat) (w4:World) (MB:Nat) (P:List Int) (v10 v47:Value) (wr:World) : Prop :=
 ∃ (s:Nat) (T S:List Int),v47=.int .i64 s∧s≤P.length∧Hid (wr.ownsRow (MB+1) 3 1 v10 T.length (ints T))∧Hid (DpK g h w4 MB S wr)∧Hid (LI g h S T (fun p=>(p:Int)∈P.take s) (fun _ _=>False))∧Hid (∀ p:Nat,BackE g h p→(p:Int)∈P.take s→(h:Int)∈S)∧T.length≤s
def DpB (g:Graph) (h:Nat) (w4:World) (MB N kg:Nat) (v10:Value) (wr:World) : Prop :=
 ∃ (T S:List Int),Hid (wr.ownsRow (MB+1) 3 1 v10 T.length (ints T))∧Hid (DpK g h w4 MB S wr)∧Hid (LI g h S T (fun _=>True) (fun _ _=>False))∧Hid (∀ p:Nat,BackE g h p→(h:Int)∈S)∧(N+1) * unf N S+T.length≤kg∧kg≤20000000
def DpC (g:Graph) (h:Nat) (w4:World) (MB n:Nat) (S P:List Int) (T0:Nat) (v10 v92:Value) (wr:World) : Prop :=
 ∃ (s:Nat) (T:List Int),v92=.int .i64 s∧s≤P.length∧Hid (wr.ownsRow (MB+1) 3 1 v10 T.length (ints T))∧Hid (DpK g h w4 MB S wr)∧Hid (LI g h S T (fun _=>True) (fun x q=>x=n∧(q:Int)∈P.drop s))∧T.length≤T0+s
def DpD (g:Graph) (h:Nat) (w4:World) (MB RB:Nat) (S:List Int) (kg:Nat) (wr:World) : Prop :=
 ∃ (left:Int→Prop) (cnt:Nat),Hid (RgIs (fun n:Int=>Value.int .i64 n) decInt wr MB RB (setF S) left cnt)∧Hid (Blk wr w4.heap.size 3 (ints (incL (depL g h) fun i=>i∈S∧¬ left i)))∧Hid (Below w4.heap.size w4 wr)∧Hid (∀ i,left i→i∈S)∧cnt≤kg
def DpPost (g:Graph) (w:World) (e:Ending) (w':World) : Prop:=∃ v,e=.returned v∧w'.ownsRow w.heap.size 3 1 v g.nodes.length (ints (depthL g))∧Below w.heap.size w w'
set_option maxRecDepth 100000 in
set_option maxHeartbeats 8000000 in
theorem ZDe (g:Graph) (cs:List Value) (w:World) (hw:WholeG g) (hg:GraphV (cmap w) cs g) :
  Calls Tryd.prog 40 #[.agg cs.toArray] w (DpPost g w):=by
 have HDM:=Hd_ (fun w1 (h:Below w.heap.size w w1)=>ZCq g cs w1 hw (hg.mono (ZA h)))
 have HSP:=Hd_ (fun w1 (h:Below w.heap.size w w1)=>ZCc g cs (-1) w1 hw (hg.mono (ZA h)))
 have HAH:=Hd_ (fun w1 (h:Below w.heap.size w w1)=>ZBF g cs w1 hw (hg.mono (ZA h)))
 obtain⟨nv,rfl,hn⟩:=hg
 obtain⟨nA,nc,rfl,-⟩:=id hn
 have bn:=hn.len.2.2
 have hpos:=hw.pos
 have hmost:=hw.most
 have HW:=Hd_ hw
 obtain⟨N,HN⟩ : ∃ N,Hid (g.nodes.length=N):=⟨_,rfl⟩
 unfold DoPost at HDM
 rw[HN.out] at bn hpos hmost HDM HSP HAH
 have hbx:=Blk.new w 38 [.string g.name,.int .i64 g.locals,.int .i64 g.slots,.slice nA N nc]
 have hb0:=ZB w (.cells #[.string g.name,.int .i64 g.locals,.int .i64 g.slots,.slice nA N nc] 38)
 have HBX:=Hd_ (And.intro hbx hb0)
 clear hbx hb0 hw hn
 rw[HN.out]
 have hq:=fun (w:World) (A:Addr) (c:Nat)=>Lib.run_eql_slice_nil w 39 3 (some A) N c 0 0 Tryd.underlying39
 simp only[Option.isNone_some] at hq
 go_enter Tryd.func40,Tryd.ntmps40
 go_wp2_with (first
  | (go_at_call 62
     refine(HDM.out _ HBX.out.2).mono ?_
     rintro e w1 ⟨out,v1,rfl,ho1,hdo,hb1⟩
     obtain⟨ub,uc,rfl,-,hubl,-,huc⟩:=ZW ho1 (by omega)
     have hwa:=hb1.alloc hb1.size (.cells #[.slice (some ⟨ub,0,none⟩) N uc] 39)
     have hbx1:=(HBX.out.1.below hb1 HBX.out.1.lt).alloc (.cells #[.slice (some ⟨ub,0,none⟩) N uc] 39)
     have c0:=hbx1.cell 0
     have c1:=hbx1.cell 1
     have c2:=hbx1.cell 2
     have c3:=hbx1.cell 3
     have hub1:=Blk.new w1 39 [.slice (some ⟨ub,0,none⟩) N uc]
     have u0:=hub1.cell 0
     have hbi:BoxI (w1.alloc (.cells #[.slice (some ⟨ub,0,none⟩) N uc] 39)) w1.heap.size ub uc (out.set 0 (-1)):=⟨by rw[List.length_set,hdo.len,HN.out];exact u0,fun k x hx=>by
      have hk:=(List.getElem?_eq_some_iff.1 hx).1
      rw[List.length_set,hdo.len,HN.out] at hk
      have h1:=(huc k (by omega)).trans (show(ints (out.set 0 (-1)))[k]? = some (.int .i64 x) by simp only[ints,List.getElem?_map,hx];rfl)
      exact ZA (ZB w1 _) _ _ _ h1⟩
     have H1:=Hd_ (And.intro (HBX.out.2.trans (hwa.mono HBX.out.2.size)) (And.intro hbx1 (And.intro hdo hbi)))
     clear ho1 hdo hb1 hubl huc hwa hbx1 hub1 hbi)
  | (go_at_call 58
     refine(HSP.out _ H1.out.1).mono ?_
     rintro e w3 ⟨v3,rl,rfl,hrl,hrn,hrr,hb3⟩
     obtain⟨rA,rc,rfl,-⟩:=id hrl
     rw[hrn] at hrl ⊢
     have hbx3:=H1.out.2.1.below hb3 H1.out.2.1.lt
     have c0:=hbx3.cell 0
     have c1:=hbx3.cell 1
     have c2:=hbx3.cell 2
     have c3:=hbx3.cell 3
     have H3:=Hd_ (And.intro (H1.out.1.trans (hb3.mono H1.out.1.size)) (And.intro hbx3 (And.intro hrl (And.intro hrn (And.intro hrr hb3)))))
     clear hrl hrn hrr hb3 hbx3)
  | (go_at_call 59
     refine(HAH.out _ H3.out.1).mono ?_
     rintro e w4 ⟨av,rfl,ha,hb4⟩
     obtain⟨aA,an,ac,rfl,-⟩ : ∃ A n c,av=.slice A n c∧True:=by obtain⟨A,c,rfl,_⟩:=ha;exact⟨_,_,_,rfl,trivial⟩
     have hbx4:=H3.out.2.1.below hb4 H3.out.2.1.lt
     have c3:=hbx4.cell 3
     have gl4:=hbx4.lt
     have H4:=Hd_ (And.intro ha (And.intro hb4 hbx4))
     clear ha hb4 hbx4)
  | (refine ZAX Z2 rfl rfl (.tmp 28) (.tmp 28) rfl N rfl rfl (by omega) (by omega) ?_))
 have hw4:=(H3.out.1.trans (H4.out.2.1.mono H3.out.1.size))
 have HW4:=Hd_ hw4
 have hs4:=hw4.size
 have ha1:=H4.out.1
 rw[HN.out] at ha1
 have han:N=an:=by have:=ha1.len.1;simpa using this.symm
 subst han
 obtain⟨ab,ao,rfl,-⟩:=ha1.at_ (i:=0) (x:=predK g N 0) (by rw[List.getElem?_map,List.getElem?_range hpos];rfl)
 have HA:=Hd_ ha1
 obtain⟨rl,hrl4,hrr4⟩ : ∃ rl:List Bool,Bools (cmap w4) (.slice rA N rc) rl∧rl.length=N∧∀ i:Nat,rl[i]? = some true ↔ Rch g i :=
  ⟨_,(H3.out.2.2.1.mono (ZV _ _ _)).mono (ZA H4.out.2.1),H3.out.2.2.2.1,fun i=>H3.out.2.2.2.2.1 i⟩
 have HRL:=Hd_ (And.intro hrl4 hrr4)
 have HBI:Hid (BoxI w4 w1.heap.size ub uc (out.set 0 (-1))):=Hd_ ⟨ZA H4.out.2.1 _ _ _ (ZA H3.out.2.2.2.2.2 _ _ _ H1.out.2.2.2.box),fun k x hx=>ZA H4.out.2.1 _ _ _ (ZA H3.out.2.2.2.2.2 _ _ _ (H1.out.2.2.2.blk k x hx))⟩
 have hu4:w1.heap.size < w4.heap.size:=by
  have h1:=H3.out.2.2.2.2.2.size
  have h2:=H4.out.2.1.size
  simp at h1
  omega
 clear ha1 hrl4 hrr4 hw4
 go_loopw [33] (fun v33 wr=>∃ h:Nat,v33=.int .i64 h∧h≤N∧Hid (Blk wr w4.heap.size 3 (ints (depL g h)))∧Hid (Below w4.heap.size w4 wr)) (fun v33 _=>N - (intOf v33).toNat)
 case atStart=>exact⟨0,rfl,Nat.zero_le _,Hd_ (Blk.of (ZP _ _ _ rfl) (by rw[ZIJ,HN.out];simp[ints])),Hd_ (ZB _ _)⟩
 case round =>
  obtain⟨h,rfl,hh,HO,HB⟩:=hrel
  by_cases hlt:h < N
  ·have h0:(0:Int)≤h:=by omega
   have hNI:(h:Int) < N:=by omega
   have h8:(h:Int)≤4096:=by omega
   obtain⟨b,hb⟩ : ∃ b,rl[h]? = some b:=⟨rl[h]'(by rw[HRL.out.2.1];exact hlt),List.getElem?_eq_getElem _⟩
   obtain⟨rb,ro,rfl,hrc1⟩:=HRL.out.1.at_ hb
   rw[Nat.mul_one] at hrc1
   have rcell:wr.cell? ⟨rb,ro+h,none⟩=some (.bool b):=ZA HB.out _ _ _ hrc1
   have hbr:b=true ↔ Rch g h:=by rw[← HRL.out.2.2 h,hb];simp
   have HBR:=Hd_ hbr
   have hrbl:rb < w4.heap.size:=World.block_lt_of_cell? _ _ hrc1
   clear hb hrc1 hbr
   cases b with
   | false =>
    have hnr:¬ Rch g h:=fun q=>by have:=HBR.out.2 q;cases this
    have HSK:=Hd_ (ZIK hnr)
    clear hnr
    go_wp2
    go_roundw
    case rel=>exact⟨h+1,by go_num,hlt,Hd_ (by rw[HSK.out];exact HO.out),HB⟩
    case measure=>simp[intOf];omega
   | true =>
    have hrh:Rch g h:=HBR.out.1 rfl
    have HRH:=Hd_ hrh
    have hark:((List.range N).map (predK g N))[h]? = some (predK g N h):=by simp[hlt]
    obtain⟨ab',ao',e',rv,hac,hri⟩:=HA.out.at_ hark
    injection e' with e'
    injection e' with e1 e2
    subst e1 e2
    obtain⟨rvA,rvc,rfl,-⟩:=id hri
    rw[Nat.mul_one] at hac
    have acl4:=(Zl hac).1
    have hri4:Ints (cmap w4) (.slice rvA (predK g N h).length rvc) (predK g N h):=hri.mono (ZV _ _ _)
    have hpe:∀ z:Nat,(z:Int)∈predK g N h ↔ Edge g z h:=fun z=>by
     have:=ZCI HW.out (n:=h) (q:=z)
     rwa [HN.out] at this
    have hpb:∀ z∈predK g N h,0≤z∧z < N:=fun z hz=>by
     obtain⟨i,nd,q1,q2,_⟩:=(ZAo g h N z).1 hz
     omega
    have hpl:=Z3 g h N
    obtain⟨P,hP⟩ : ∃ P,predK g N h=P:=⟨_,rfl⟩
    rw[hP] at acl4 hri4 hpe hpb hpl
    have HPE:=Hd_ (And.intro hpe hpb)
    have HRI:=Hd_ (And.intro hri4 acl4)
    have hws:=HB.out.size
    have hO1:=HO.out.lt
    obtain⟨w0,rfl⟩ : ∃ w0:World,w0=wr:=⟨_,rfl⟩
    obtain⟨MB,hMB⟩ : ∃ MB,w0.heap.size=MB:=⟨_,rfl⟩
    rw[hMB] at hO1
    have HMB:=Hd_ hMB
    have hkk:DpK g h w4 MB [] (w0.alloc (.map #[] 0)):=⟨by
     have h1:MapIs (fun n:Int=>Value.int .i64 n) decInt (w0.alloc (.map #[] 0)) MB (fun _=>none):=MapIs.new w0 MB hMB.symm
     have h2:setF []=fun _=>none:=by funext x;simp[setF]
     rw[h2];exact h1,HO.out.alloc _,HB.out.alloc hws _,by simp;omega⟩
    have HKK:=Hd_ hkk
    have acell:(w0.alloc (.map #[] 0)).cell? ⟨ab,ao+h,none⟩=some (.slice rvA P.length rvc):=ZA hkk.below _ _ _ acl4
    clear hrh hark hac hri hri4 hpe hpb hP hMB hkk acl4 hrbl
    go_wp2_with (refine ZE1 rfl ?_)
    refine Stop.intro ?_
    refine ZBW rfl rfl ?_
    rw[HMB.out]
    go_wp2
    go_loopw [10,47] (fun v10 v47 wr=>DpA g h w4 MB P v10 v47 wr) (fun _ v47 _=>P.length - (intOf v47).toNat)
    case atStart=>exact⟨0,[],[],rfl,Nat.zero_le _,Hd_ (World.ownsRow_nil _ _ _ _),HKK,Hd_ (LI.start.narrow (fun _ _ _ _ q=>q) |> fun q=>⟨q.sub,q.todo,fun p _ hp=>by simp at hp,q.head,q.closed⟩),Hd_ (fun p _ hp=>by simp at hp),Nat.le_refl _⟩
    case round =>
     obtain⟨s,T,S,rfl,hs,HT,HK,HLI,HHS,htl⟩:=hrel
     obtain⟨tA,tc,rfl,-⟩:=ZE HT.out
     by_cases hsl:s < P.length
     ·obtain⟨xp,hxp⟩ : ∃ x,P[s]? = some x:=⟨_,List.getElem?_eq_getElem hsl⟩
      obtain⟨xp0,xpk⟩:=HPE.out.2 xp (List.mem_of_getElem? hxp)
      obtain⟨p,rfl⟩:=Int.eq_ofNat_of_zero_le xp0
      obtain⟨pvb,pvo,rfl,hpc2⟩:=HRI.out.1.at_ hxp
      rw[Nat.mul_one] at hpc2
      have pcell:wr.cell? ⟨pvb,pvo+s,none⟩=some (.int .i64 (p:Nat)):=ZA HK.out.below _ _ _ hpc2
      obtain⟨bp,hbp⟩ : ∃ b,rl[p]? = some b:=⟨rl[p]'(by rw[HRL.out.2.1];omega),List.getElem?_eq_getElem _⟩
      obtain⟨rb',ro',e',hrc2⟩:=HRL.out.1.at_ hbp
      injection e' with e'
      injection e' with e1 e2
      subst e1 e2
      rw[Nat.mul_one] at hrc2
      have rcp:wr.cell? ⟨rb,ro+p,none⟩=some (.bool bp):=ZA HK.out.below _ _ _ hrc2
      have hbr:bp=true ↔ Rch g p:=by rw[← HRL.out.2.2 p,hbp];simp
      have s0:(0:Int)≤s:=by omega
      have sP:(s:Int) < P.length:=by omega
      have s8:(s:Int)≤4096:=by omega
      have p0:(0:Int)≤p:=by omega
      have htk:=ZZ hxp
      have hed:=(HPE.out.1 p).1 (List.mem_of_getElem? hxp)
      have HX:=Hd_ (And.intro htk (And.intro hed hbr))
      clear hxp hpc2 hbp hrc2 hbr htk hed
      have hnobk:∀ (_:¬ BackE g h p),Hid (LI g h S T (fun q=>(q:Int)∈P.take (s+1)) (fun _ _=>False))∧Hid (∀ q:Nat,BackE g h q→(q:Int)∈P.take (s+1)→(h:Int)∈S):=fun hno =>
       ⟨Hd_ (HLI.out.pass hno fun q hq=>by
        rcases(HX.out.1 _).1 hq with q1 | q1
        ·exact .inl q1
        ·exact .inr (by omega)),Hd_ fun q hq hqt=>by
        rcases(HX.out.1 _).1 hqt with q1 | q1
        ·exact HHS.out q hq q1
        ·obtain rfl:q=p:=by omega
         exact absurd hq hno⟩
      have HNB:=Hd_ hnobk
      clear hnobk
      cases bp with
      | false =>
       have hno:¬ BackE g h p:=fun q=>by have:=HX.out.2.2.2 q.1;cases this
       have HN2:=Hd_ (HNB.out hno)
       clear hno
       go_wp2
       go_roundw
       case rel=>exact⟨s+1,T,S,by go_num,hsl,HT,HK,HN2.out.1,HN2.out.2,by omega⟩
       case measure=>simp[intOf];omega
      | true =>
       have hrp:Rch g p:=HX.out.2.2.1 rfl
       have hbi:BoxI wr w1.heap.size ub uc (out.set 0 (-1)):=⟨ZA HK.out.below _ _ _ HBI.out.box,fun k x hx=>ZA HK.out.below _ _ _ (HBI.out.blk k x hx)⟩
       have hdc:=ZF1 g out h p w1.heap.size ub uc wr HW.out H1.out.2.2.1 hbi hrp
       have HRP:=Hd_ hrp
       clear hbi hrp
       by_cases hdm:DomC g h p
       case neg =>
        have HDC:Hid (Calls Tryd.prog 63 #[.int .i64 (h:Int),.int .i64 (p:Int),.pointer (some ⟨w1.heap.size,0,none⟩)] wr fun e w'=>e=.returned (.bool false)∧w'=wr):=Hd_ (hdc.mono fun e w' hq=>by
         obtain⟨r,q1,q2,q3⟩:=hq
         have:r=false:=by
          cases r with
          | false=>rfl
          | true=>exact absurd (q2.1 rfl) hdm
         exact⟨by rw[q1,this],q3⟩)
        have hno:¬ BackE g h p:=fun q=>hdm q.2.2
        have HN2:=Hd_ (HNB.out hno)
        clear hno hdc hdm
        go_wp2_with (first
         | (go_at_call 63
            refine(HDC.out).mono ?_
            rintro e wq ⟨rfl,rfl⟩))
        go_roundw
        case rel=>exact⟨s+1,T,S,by go_num,hsl,HT,HK,HN2.out.1,HN2.out.2,by omega⟩
        case measure=>simp[intOf];omega
       case pos =>
        have HDC:Hid (Calls Tryd.prog 63 #[.int .i64 (h:Int),.int .i64 (p:Int),.pointer (some ⟨w1.heap.size,0,none⟩)] wr fun e w'=>e=.returned (.bool true)∧w'=wr):=Hd_ (hdc.mono fun e w' hq=>by
         obtain⟨r,q1,q2,q3⟩:=hq
         exact⟨by rw[q1,q2.2 hdm],q3⟩)
        have hbk:BackE g h p:=⟨HRP.out,HX.out.2.1,hdm⟩
        have HLT:Hid (LI g h ((h:Int) :: S) (T ++ [(p:Int)]) (fun q=>(q:Int)∈P.take (s+1)) (fun _ _=>False)):=Hd_ (HLI.out.tail_ hbk fun q hq=>by
         rcases(HX.out.1 _).1 hq with q1 | q1
         ·exact .inl q1
         ·exact .inr (by omega))
        clear hbk hdc hdm
        go_wp2_with (first
         | (go_at_call 63
            refine(HDC.out).mono ?_
            rintro e wq ⟨rfl,rfl⟩)
         | (refine Zn rfl ?_))
        refine Stop.intro ?_
        refine Zu ZBr Tryd.underlying133 rfl _ _ _ (.inl rfl) MB (setF S) HK.out.map (h:Int) (.bool true) rfl rfl rfl ?_
        intro w5 hm5 hg5
        rw[ZGD] at hm5
        have hk5:=HK.out.update hO1 hm5 hg5
        have ht5:=HT.out.kept hg5 (by
         cases hq:(Value.slice tA T.length tc).ownBlock with
         | none=>exact .inl rfl
         | some b=>exact .inr (fun e=>by have:=Z5 HT.out b hq;injection e with e;omega))
        have hta:=ht5.alloc (.cells #[.int .i64 (p:Nat)] 3)
        have HK5:=Hd_ (And.intro hk5 hta)
        clear hm5 hg5 hk5 ht5 hta
        go_wp2_with (refine ZN rfl ?_)
        refine Stop.intro ?_
        refine Zg Z2 rfl _ _ rfl (MB+1) (.slice tA T.length tc) T.length (ints T) rfl HK5.out.2 _ 0 1 [.int .i64 (p:Nat)] rfl rfl (Za _ _ _ _ rfl) (by simp[Value.oneCell']) (by omega) (by decide) (by have:=HK5.out.1.size;simp;omega) ?_
        intro v' w6 hown6 hgr hobn
        have hk6:=HK5.out.1.append hO1 _ HK5.out.2 hgr
        have HF:=Hd_ (And.intro hown6 hk6)
        clear hown6 hgr hobn hk6
        go_wp2
        go_roundw
        case rel=>exact⟨s+1,T ++ [(p:Int)],(h:Int) :: S,by go_num,hsl,Hd_ (by simpa [ints] using HF.out.1),Hd_ HF.out.2,HLT,Hd_ (fun _ _ _=>by simp),by simp;omega⟩
        case measure=>simp[intOf];omega
     ·obtain rfl:s=P.length:=by omega
      have hun:=unf_le N S
      have hli:LI g h S T (fun _=>True) (fun _ _=>False):=⟨HLI.out.sub,HLI.out.todo,fun p hp _=>HLI.out.tails p hp (by rw[List.take_length];exact(HPE.out.1 p).2 hp.2.1),HLI.out.head,HLI.out.closed⟩
      have hhs:∀ p:Nat,BackE g h p→(h:Int)∈S:=fun p hp=>HHS.out p hp (by rw[List.take_length];exact(HPE.out.1 p).2 hp.2.1)
      have hpot:(N+1) * unf N S+T.length≤20000000:=by
       have h1:(N+1) * unf N S≤4097 * 4096:=Nat.mul_le_mul (by omega) (by omega)
       omega
      have HIN:Hid (DpB g h w4 MB N 20000000 (.slice tA T.length tc) wr):=Hd_ ⟨T,S,HT,HK,Hd_ hli,Hd_ hhs,hpot,Nat.le_refl _⟩
      clear hun hli hhs hpot
      go_wp2
      go_loopg [10] 20000000 (fun kg v10 wr=>DpB g h w4 MB N kg v10 wr)
      case atStart=>exact HIN.out
      case round =>
       obtain⟨T,S,HT,HK,HLI,HHS,hkg,hkg2⟩:=hrel
       have HKG:=Hd_ (And.intro hkg hkg2)
       clear hkg hkg2
       rcases List.eq_nil_or_concat T with rfl | ⟨T',x,hTx⟩
       ·obtain⟨tA2,tc2,rfl,-⟩:=ZE HT.out
        have hnn:([] : List Int).length=0:=rfl
        rw[hnn]
        have hall:=HLI.out.done (fun _ _=>trivial) HHS.out
        have HALL:=Hd_ hall
        have hsz:=HK.out.size
        have hsub:=HLI.out.sub
        have HSUB:Hid (∀ x∈S,∃ n:Nat,x=n∧n < N∧LoopC g h n):=Hd_ fun x hx=>by
         obtain⟨n,e1,e2⟩:=hsub x hx
         have:=e2.rch.lt HW.out
         rw[HN.out] at this
         exact⟨n,e1,this,e2⟩
        clear hall hsub
        go_wp2_with (refine ZGf rfl ?_)
        refine Stop.intro ?_
        refine ZIX ZBr Tryd.underlying133 rfl _ rfl MB (setF S) HK.out.map rfl ?_
        intro w5 cnt hrg hb5 hs5
        have HST:Hid (DpD g h w4 MB wr.heap.size S cnt w5):=Hd_ ⟨_,cnt,Hd_ hrg,Hd_ (by
         rw[ZHu]
         ·exact HK.out.out.below hb5 HK.out.out.lt
         ·rintro i ⟨q1,q2⟩
          exact q2 (by simp[setF,q1])),Hd_ (HK.out.below.trans (hb5.mono HK.out.below.size)),Hd_ (fun i hi=>by
         apply Classical.byContradiction
         intro q
         exact hi (by simp[setF,q])),Nat.le_refl _⟩
        obtain⟨RB,hRB⟩ : ∃ RB,wr.heap.size=RB:=⟨_,rfl⟩
        rw[hRB] at HST hsz
        rw[hRB]
        clear hrg hb5 hs5
        go_wp2
        simp only[Act.put,List.setIfInBounds_toArray,List.set_cons_zero,List.set_cons_succ]
        go_loopg [] cnt (fun kg wr=>DpD g h w4 MB RB S kg wr)
        case atStart=>exact HST.out
        case round =>
         obtain⟨left,cnt,HR,HO3,HB3,HLS,hck⟩:=hrel
         go_wp2_with (refine ZHU rfl ?_)
         refine Stop.intro ?_
         refine ZJQ (kv:=fun n:Int=>Value.int .i64 n) (dec:=decInt) (ZBr).dk rfl _ rfl MB RB (setF S) left cnt HR.out rfl ?_ ?_
         ·intro _ hno
          have hfin:=ZHv HRH.out (D:=fun i=>i∈S∧¬ left i) (fun i=>⟨fun q=>(HALL.out i).1 q.1,fun q=>⟨(HALL.out i).2 q,hno _⟩⟩)
          rw[hfin] at HO3
          clear hno hfin
          go_wp2
          go_roundw
          case rel=>exact⟨h+1,by go_num,hlt,HO3,HB3⟩
          case measure=>simp[intOf];omega
         ·intro kz v w6 cnt' hlk hFk hrg' hcl hg6 hs6 hen
          have hkS:=HLS.out kz hlk
          obtain⟨kn,rfl,hknN,hkl⟩:=HSUB.out kz hkS
          have hv:v=.bool true:=by
           unfold setF at hFk
           rw[if_pos hkS] at hFk
           injection hFk with hFk
           exact hFk.symm
          subst hv
          have hen':(Instr.entry (.pointer (some ⟨RB,0,none⟩))).run Tryd.prog w6=.ok (.tuple #[.int .i64 (kn:Int),.bool true]) w6:=hen
          have ho6:=HO3.out.grown hg6 (fun e=>by injection e with e;omega)
          have hil:kn < (incL (depL g h) fun i=>i∈S∧¬ left i).length:=by rw[ZBd,Zj,HN.out];exact hknN
          obtain⟨x,hx⟩ : ∃ x,(incL (depL g h) fun i=>i∈S∧¬ left i)[kn]? = some x:=⟨_,List.getElem?_eq_getElem hil⟩
          have oc:w6.cell? ⟨w4.heap.size,kn,none⟩=some (.int .i64 x):=by rw[ho6.cell];simp[ints,hx]
          have of:=ho6.frozen kn
          have hxb:0≤x∧x≤4096:=by
           have h1:=hx
           rw[ZCQ _ _ (by rw[Zj,HN.out];exact hknN),if_neg (fun q=>q.2 hlk)] at h1
           have h2:=ZCS (depL g h) (k:=kn) (by rw[Zj,HN.out];exact hknN)
           rw[ZBT g h (by rw[HN.out];exact hknN)] at h2
           injection h1 with h1
           injection h2 with h2
           have:=ZII g h kn
           omega
          obtain⟨x0,x8⟩:=hxb
          have k0:(0:Int)≤kn:=by omega
          have kN:(kn:Int) < N:=by omega
          have hst:=ZHt (D':=fun i=>i∈S∧¬ (left i∧i≠(kn:Int))) hx (fun q=>q.2 hlk) (fun i=>by
           constructor
           ·rintro⟨q1,q2⟩
            by_cases e:i=(kn:Int)
            ·exact .inr e
            ·exact .inl ⟨q1,fun q3=>q2 ⟨q3,e⟩⟩
           ·rintro(⟨q1,q2⟩ | rfl)
            ·exact⟨q1,fun q3=>q2 q3.1⟩
            ·exact⟨hkS,fun q3=>q3.2 rfl⟩)
          have h1:=ho6.set_ kn (.int .i64 (x+1))
          rw[show(ints (incL (depL g h) fun i=>i∈S∧¬ left i)).set kn (.int .i64 (x+1))=ints (incL (depL g h) fun i=>i∈S∧¬ (left i∧i≠(kn:Int))) by rw[← hst];simp[ints,List.map_set]] at h1
          have hb6:=HB3.out.grown hg6 HB3.out.size (fun b hb=>by injection hb with hb;omega)
          have HS6:=Hd_ (And.intro h1 (And.intro (hrg'.setCell (p:=⟨w4.heap.size,kn,none⟩) (by show MB≠w4.heap.size;omega) (by show RB≠w4.heap.size;omega) (.int .i64 (x+1))) (hb6.setCell (p:=⟨w4.heap.size,kn,none⟩) (Nat.le_refl _) (.int .i64 (x+1)))))
          have HLS2:Hid (∀ i,left i∧i≠(kn:Int)→i∈S):=Hd_ fun i q=>HLS.out i q.1
          clear hlk hFk hrg' hg6 hs6 hen hkS hkl ho6 hil hx hst h1 hb6
          go_wp2
          go_roundg cnt'
          case measure=>omega
          case rel=>exact⟨_,cnt',Hd_ HS6.out.2.1,Hd_ HS6.out.1,Hd_ HS6.out.2.2,HLS2,Nat.le_refl _⟩
       ·rw[List.concat_eq_append] at hTx
        subst hTx
        obtain⟨m,hm⟩ : ∃ m,T'.length=m:=⟨_,rfl⟩
        have HT0:=HT.out
        rw[List.length_append,List.length_singleton,hm] at HT0
        clear HT
        have HT:=Hd_ HT0
        obtain⟨n,rfl,hnl⟩:=HLI.out.todo x (by simp)
        have hnN:=hnl.rch.lt HW.out
        rw[HN.out] at hnN
        obtain⟨tb,tc3,e,-,htbl,htcap,htc⟩:=ZW HT.out (by omega)
        subst e
        have mtc:(m:Int)≤(tc3:Int):=by omega
        have tcell:wr.cell? ⟨tb,m,none⟩=some (.int .i64 (n:Nat)):=(htc m (by omega)).trans (by simp only[ints,List.map_append];rw[List.getElem?_append_right (by simp[hm])];simp[hm])
        have hpop:=ownsRow_pop (size:=1) (n:=m) (xs:=ints T') (last:=[.int .i64 (n:Int)]) (by simp[ints,hm]) (by simpa [ints] using HT0)
        have HM:=Hd_ (And.intro hm hpop)
        have hmb:(m:Int)≤20000000:=by
         have h1:=HKG.out
         rw[List.length_append,List.length_singleton,hm] at h1
         omega
        have n0:(0:Int)≤n:=by omega
        have nN:(n:Int) < N:=by omega
        have hmapis:=HK.out.map
        have HMI:=Hd_ hmapis
        clear HT0 htc hpop hm hmapis
        go_wp2_with (refine Zo rfl ?_)
        refine Stop.intro ?_
        refine ZBK ZBr Tryd.underlying133 rfl _ _ rfl MB (setF S) HMI.out (n:Int) rfl rfl (.bool false) (by kernel_rfl) ?_
        rw[ZIf]
        by_cases hnS:(n:Int)∈S
        ·rw[decide_eq_true hnS]
         have HSK:=Hd_ (HLI.out.skip hnS)
         clear hnS
         go_wp2
         go_roundg ((N+1) * unf N S+T'.length)
         case measure=>have h1:=HKG.out.1;rw[List.length_append,List.length_singleton] at h1;omega
         case rel=>exact⟨T',S,Hd_ (by rw[HM.out.1];exact HM.out.2),HK,HSK,HHS,Nat.le_refl _,by have h1:=HKG.out;rw[List.length_append,List.length_singleton] at h1;omega⟩
        ·rw[decide_eq_false hnS]
         have HTK:=Hd_ (HLI.out.take_ hnS)
         have hhead:=HLI.out.head (by simp)
         have hnh:n≠h:=fun e=>hnS (by rw[e];exact hhead)
         have hul:=unf_lt hnN hnS
         have HUL:=Hd_ (And.intro hul (And.intro hnh hhead))
         have hark2:((List.range N).map (predK g N))[n]? = some (predK g N n):=by simp[hnN]
         obtain⟨ab',ao',e',rv2,hac2,hri2⟩:=HA.out.at_ hark2
         injection e' with e'
         injection e' with e1 e2
         subst e1 e2
         obtain⟨sA,sc,rfl,-⟩:=id hri2
         rw[Nat.mul_one] at hac2
         have acl2:=(Zl hac2).1
         have hri5:Ints (cmap w4) (.slice sA (predK g N n).length sc) (predK g N n):=hri2.mono (ZV _ _ _)
         have hpe2:∀ z:Nat,(z:Int)∈predK g N n ↔ Edge g z n:=fun z=>by
          have:=ZCI HW.out (n:=n) (q:=z)
          rwa [HN.out] at this
         have hpb2:∀ z∈predK g N n,0≤z∧z < N:=fun z hz=>by
          obtain⟨i,nd,q1,q2,_⟩:=(ZAo g n N z).1 hz
          omega
         have hpl2:=Z3 g n N
         obtain⟨Q,hQ⟩ : ∃ Q,predK g N n=Q:=⟨_,rfl⟩
         rw[hQ] at acl2 hri5 hpe2 hpb2 hpl2
         have HPE2:=Hd_ (And.intro hpe2 (And.intro hpb2 hri5))
         have HAC2:=Hd_ acl2
         clear hnl hnS hhead hnh hul hark2 hac2 hri2 hri5 hpe2 hpb2 hQ acl2
         go_wp2_with (refine Zn rfl ?_)
         refine Stop.intro ?_
         refine Zu ZBr Tryd.underlying133 rfl _ _ _ (.inl rfl) MB (setF S) HMI.out (n:Int) (.bool true) rfl rfl rfl ?_
         intro w5 hm5 hg5
         rw[ZGD] at hm5
         have hk5:=HK.out.update hO1 hm5 hg5
         have ht5:=HM.out.2.kept hg5 (.inr (fun e=>by have e:some tb=some MB:=e;have:=Z5 HM.out.2 tb rfl;injection e with e;omega))
         have acell2:w5.cell? ⟨ab,ao+n,none⟩=some (.slice sA Q.length sc):=ZA hk5.below _ _ _ HAC2.out
         have HK5:=Hd_ (And.intro hk5 ht5)
         have HLI5:Hid (LI g h ((n:Int) :: S) T' (fun _=>True) (fun x q=>x=n∧(q:Int)∈Q.drop 0)):=Hd_ (HTK.out.narrow fun x q he hr hx=>⟨hx,by rw[List.drop_zero];exact(HPE2.out.1 q).2 (hx ▸ he)⟩)
         clear hm5 hg5 hk5 ht5 tcell
         go_wp2
         go_loopw [10,92] (fun v10 v92 wr=>DpC g h w4 MB n ((n:Int) :: S) Q m v10 v92 wr) (fun _ v92 _=>Q.length - (intOf v92).toNat)
         case atStart=>exact⟨0,T',rfl,Nat.zero_le _,Hd_ (by rw[HM.out.1];exact HK5.out.2),Hd_ HK5.out.1,HLI5,by rw[HM.out.1];omega⟩
         case round =>
          obtain⟨s2,T2,rfl,hs2,HT2,HK2,HLI2,htl2⟩:=hrel
          obtain⟨tA2,tc2,rfl,-⟩:=ZE HT2.out
          by_cases hsl:s2 < Q.length
          ·obtain⟨xp,hxp⟩ : ∃ x,Q[s2]? = some x:=⟨_,List.getElem?_eq_getElem hsl⟩
           obtain⟨xp0,xpk⟩:=HPE2.out.2.1 xp (List.mem_of_getElem? hxp)
           obtain⟨p,rfl⟩:=Int.eq_ofNat_of_zero_le xp0
           obtain⟨pvb,pvo,rfl,hpc2⟩:=HPE2.out.2.2.at_ hxp
           rw[Nat.mul_one] at hpc2
           have pcell:wr.cell? ⟨pvb,pvo+s2,none⟩=some (.int .i64 (p:Nat)):=ZA HK2.out.below _ _ _ hpc2
           obtain⟨bp,hbp⟩ : ∃ b,rl[p]? = some b:=⟨rl[p]'(by rw[HRL.out.2.1];omega),List.getElem?_eq_getElem _⟩
           obtain⟨rb',ro',e',hrc2⟩:=HRL.out.1.at_ hbp
           injection e' with e'
           injection e' with e1 e2
           subst e1 e2
           rw[Nat.mul_one] at hrc2
           have rcp:wr.cell? ⟨rb,ro+p,none⟩=some (.bool bp):=ZA HK2.out.below _ _ _ hrc2
           have hbr:bp=true ↔ Rch g p:=by rw[← HRL.out.2.2 p,hbp];simp
           have s0:(0:Int)≤s2:=by omega
           have sP:(s2:Int) < Q.length:=by omega
           have s8:(s2:Int)≤4096:=by omega
           have p0:(0:Int)≤p:=by omega
           have hdr:Q.drop s2=(p:Int) :: Q.drop (s2+1):=by
            rw[List.drop_eq_getElem_cons hsl]
            congr 1
            rw[List.getElem?_eq_getElem hsl] at hxp
            injection hxp
           have hex:∀ x q:Nat,(x=n∧(q:Int)∈Q.drop s2)→(x=n∧(q:Int)∈Q.drop (s2+1))∨(x=n∧q=p):=fun x q hx=>by
            rw[hdr,List.mem_cons] at hx
            rcases hx with⟨h1,h2 | h2⟩
            ·exact .inr ⟨h1,by omega⟩
            ·exact .inl ⟨h1,h2⟩
           have hed:=(HPE2.out.1 p).1 (List.mem_of_getElem? hxp)
           have HX:=Hd_ (And.intro hex (And.intro hed hbr))
           clear hxp hpc2 hbp hrc2 hbr hdr hex hed
           cases bp with
           | false =>
            have HLD:=Hd_ (HLI2.out.drop_ (fun q=>by have:=HX.out.2.2.2 q;cases this) HX.out.1)
            go_wp2
            go_roundw
            case rel=>exact⟨s2+1,T2,by go_num,hsl,HT2,HK2,HLD,by omega⟩
            case measure=>simp[intOf];omega
           | true =>
            have HLM:=Hd_ (HLI2.out.more (HX.out.2.2.1 rfl) HX.out.2.1 (by simp) HUL.out.2.1 (by simp[HUL.out.2.2]) HX.out.1)
            have hta:=HT2.out.alloc (.cells #[.int .i64 (p:Nat)] 3)
            have HTA:=Hd_ hta
            have hszz:=HK2.out.size
            have htl3:T2.length≤20010000:=by omega
            clear hta
            go_wp2_with (refine ZN rfl ?_)
            refine Stop.intro ?_
            refine Zg Z2 rfl _ _ rfl (MB+1) (.slice tA2 T2.length tc2) T2.length (ints T2) rfl HTA.out _ 0 1 [.int .i64 (p:Nat)] rfl rfl (Za _ _ _ _ rfl) (by simp[Value.oneCell']) (by omega) (by decide) (by simp;omega) ?_
            intro v' w6 hown6 hgr hobn
            have hk6:=HK2.out.append hO1 _ HTA.out hgr
            have HF:=Hd_ (And.intro hown6 hk6)
            clear hown6 hgr hobn hk6
            go_wp2
            go_roundw
            case rel=>exact⟨s2+1,T2 ++ [(p:Int)],by go_num,hsl,Hd_ (by simpa [ints] using HF.out.1),Hd_ HF.out.2,HLM,by simp;omega⟩
            case measure=>simp[intOf];omega
          ·obtain rfl:s2=Q.length:=by omega
           have hme:(N+1) * unf N ((n:Int) :: S)+T2.length+1≤(N+1) * unf N S+(T' ++ [(n:Int)]).length:=by
            have h1:=HUL.out.1
            have h2:(N+1) * (unf N ((n:Int) :: S)+1)≤(N+1) * unf N S:=Nat.mul_le_mul (Nat.le_refl _) h1
            rw[Nat.mul_add,Nat.mul_one] at h2
            rw[List.length_append,List.length_singleton,HM.out.1]
            omega
           have HME:=Hd_ hme
           have HLN:Hid (LI g h ((n:Int) :: S) T2 (fun _=>True) (fun _ _=>False)):=Hd_ (HLI2.out.narrow fun x q _ _ hx=>by rw[List.drop_length] at hx;exact absurd hx.2 (by simp))
           clear hme
           go_wp2
           go_roundg ((N+1) * unf N ((n:Int) :: S)+T2.length)
           case measure=>have h1:=HKG.out.1;have:=HME.out;omega
           case rel=>exact⟨T2,(n:Int) :: S,HT2,HK2,HLN,Hd_ (fun p hp=>by have:=HHS.out p hp;simp[this]),Nat.le_refl _,by have h1:=HKG.out;have:=HME.out;omega⟩
  ·obtain rfl:h=N:=by omega
   go_wp2
   go_ret
   refine⟨_,rfl,?_,HW4.out.trans (HB.out.mono hs4)⟩
   rw[HN.out]
   unfold depthL
   rw[HN.out]
   exact ZEZ HO.out hs4 (by simp[ints,Zj,HN.out]) (by omega)
end Go.Proofs.YtffgnjgphkdodaaDoor
