import Derived.Test.YtffgnjgphkdodaaDoorD1
import Derived.Test.YtffgnjgphkdodaaDoorD3
import Derived.Test.YtffgnjgphkdodaaDoorD2
import Derived.Test.YtffgnjgphkdodaaDoorD13
import Derived.Test.YtffgnjgphkdodaaDoorD7
namespace Go.Proofs.YtffgnjgphkdodaaDoor
open Go
def sizesOk (g:Graph) : Bool:=decide (0≤g.locals∧g.locals≤64∧g.locals≤g.slots∧g.slots≤4160∧1≤g.nodes.length∧g.nodes.length≤4096)
def ndOk (u:Unit_) (g:Graph) (n:Node) : Bool:=nodeOk u.shared.length u.locks.length g.slots g.nodes.length n
def ndBad (u:Unit_) (g:Graph) : Nat→List Node→Option Nat
 | _,[]=>none
 | i,n :: ns=>if ndOk u g n then ndBad u g (i+1) ns else some i
def heldBad (g:Graph) : Option Nat:=match heldF g with
 | .error a=>some a
 | .ok _=>none
def graphBad (u:Unit_) (g:Graph) : Option Nat :=
 if sizesOk g then (match ndBad u g 0 g.nodes with | some i=>some i | none=>heldBad g) else some 0
def graphsBad (u:Unit_) : Nat→List Graph→Option (Nat × Nat)
 | _,[]=>none
 | t,g :: gs=>match graphBad u g with
  | some i=>some (t,i)
  | none=>graphsBad u (t+1) gs
def checkF (u:Unit_) : Option (Nat × Nat):=if namedOk u then graphsBad u 0 u.graphs else some (0,0)
def checkV (r:Option (Nat × Nat)) : Value:=match r with
 | none=>.tuple #[.int .i64 0,.int .i64 0,.int .i64 0]
 | some (t,i)=>.tuple #[.int .i64 60,.int .i64 t,.int .i64 i]
theorem ZCN {u:Unit_} {g:Graph} : ∀ (ns:List Node) (i:Nat),ndBad u g i ns=none→∀ n∈ns,ndOk u g n=true
 | [],_,_,n,hn=>by cases hn
 | m :: ns,i,h,n,hn=>by
  unfold ndBad at h
  split at h
  ·rename_i hm
   rcases List.mem_cons.1 hn with e | e
   ·subst e;exact hm
   ·exact ZCN ns (i+1) h n e
  ·cases h
theorem ZEx {u:Unit_} {g:Graph} (h1:sizesOk g=true) (h2:∀ n∈g.nodes,ndOk u g n=true) : WholeG g:=by
 unfold sizesOk at h1
 rw[decide_eq_true_eq] at h1
 obtain⟨_,_,_,_,h5,h6⟩:=h1
 refine⟨h5,h6,fun n hn=>?_,fun n hn k hk=>?_⟩
 ·have:=h2 n hn
  unfold ndOk nodeOk at this
  rw[Bool.and_eq_true] at this
  have:=this.1
  unfold nodeHead at this
  rw[decide_eq_true_eq] at this
  omega
 ·have:=h2 n hn
  unfold ndOk nodeOk at this
  simp only[Bool.and_eq_true] at this
  obtain⟨g1,_,_,_,_,_,g2,g3⟩:=this
  unfold nodeHead at g1
  rw[decide_eq_true_eq] at g1
  unfold fol at hk
  split at hk
  ·cases hk
  ·have hun:uNext n.kind=true:=by unfold uNext;rw[decide_eq_true_eq];omega
   unfold numOk at g2
   rw[if_pos hun,decide_eq_true_eq] at g2
   split at hk
   ·rename_i h8
    unfold numOk at g3
    rw[if_pos (decide_eq_true h8.1),decide_eq_true_eq] at g3
    simp only[List.mem_cons,List.not_mem_nil,or_false] at hk
    rcases hk with e | e <;> subst e <;> assumption
   ·simp only[List.mem_cons,List.not_mem_nil,or_false] at hk
    subst hk;exact g2
structure RightG (u:Unit_) (g:Graph) : Prop where
 whole:WholeG g
 nodes:∀ n∈g.nodes,ndOk u g n=true
 held:∃ L,heldF g=.ok L
theorem ZEh {u:Unit_} {g:Graph} (h:graphBad u g=none) : RightG u g:=by
 unfold graphBad at h
 split at h
 ·rename_i h1
  split at h
  ·cases h
  ·rename_i h2
   have h3:=ZCN _ _ h2
   refine⟨ZEx h1 h3,h3,?_⟩
   unfold heldBad at h
   cases h4:heldF g with
   | error a=>rw[h4] at h;cases h
   | ok L=>exact⟨L,rfl⟩
 ·cases h
theorem ZBo {u:Unit_} : ∀ (gs:List Graph) (t:Nat),graphsBad u t gs=none→∀ g∈gs,RightG u g
 | [],_,_,g,hg=>by cases hg
 | a :: gs,t,h,g,hg=>by
  unfold graphsBad at h
  cases ha:graphBad u a with
  | some i=>rw[ha] at h;cases h
  | none =>
   rw[ha] at h
   rcases List.mem_cons.1 hg with e | e
   ·subst e;exact ZEh ha
   ·exact ZBo gs (t+1) h g e
structure RightU (u:Unit_) : Prop where
 shared:u.shared.length≤64
 locks:u.locks.length≤16
 threads:u.graphs.length≤8
 graphs:∀ g∈u.graphs,RightG u g
theorem ZK {u:Unit_} (h:checkF u=none) : RightU u:=by
 unfold checkF at h
 split at h
 ·rename_i h1
  unfold namedOk at h1
  simp only[Bool.and_eq_true,decide_eq_true_eq] at h1
  exact⟨h1.1,h1.2.1,h1.2.2.1,ZBo _ _ h⟩
 ·cases h
structure HI (g:Graph) (s:HS) : Prop where
 ok:HOk g.nodes.length s
 some_:∀ (i:Nat) l,s.locks[i]? = some l→l≠[]→s.found[i]? = some true
 mem:∀ l∈s.locks,∀ k∈l,∃ n∈g.nodes,n.kind=5∧n.thing=k
 reach:∀ i:Nat,s.found[i]? = some true→ReachC g (-1) i
 inTodo:∀ i:Nat,s.found[i]? = some true→i∈s.todo
theorem HI.start {g:Graph} (h:1≤g.nodes.length) : HI g (hStart g.nodes.length):=by
 have h0:∀ i:Nat,((List.replicate g.nodes.length false).set 0 true)[i]? = some true→i=0:=by
  intro i hi
  rw[List.getElem?_set] at hi
  split at hi
  ·rename_i e;exact e.symm
  ·rw[List.getElem?_replicate] at hi
   split at hi <;> cases hi
 refine⟨HOk.start h,fun i l hl hne=>?_,fun l hl k hk=>?_,fun i hi=>?_,fun i hi=>?_⟩
 ·simp only[hStart,List.getElem?_replicate] at hl
  split at hl
  ·injection hl with hl;exact absurd hl.symm hne
  ·cases hl
 ·simp only[hStart] at hl
  rw[List.eq_of_mem_replicate hl] at hk
  cases hk
 ·rw[h0 i hi];exact .zero
 ·rw[h0 i hi];simp[hStart]
theorem HI.visit {g:Graph} {s s':HS} (h:HI g s) {dd:Nat} (hto:dd < g.nodes.length) {now:List Int} (hn:now.length≤s.todo.length) (hr:ReachC g (-1) dd) (hm:∀ k∈now,∃ n∈g.nodes,n.kind=5∧n.thing=k)
  (hv:hVisit now s dd=.ok s') : HI g s'∧s.todo.length≤s'.todo.length:=by
 unfold hVisit at hv
 split at hv
 ·split at hv
  ·injection hv with hv;subst hv;exact⟨h,Nat.le_refl _⟩
  ·cases hv
 ·rename_i hf
  injection hv with hv
  subst hv
  refine⟨⟨h.ok.visit hto hf hn,fun i l hl hne=>?_,fun l hl k hk=>?_,fun i hi=>?_,fun i hi=>?_⟩,by simp⟩
  ·dsimp only at hl ⊢
   rw[List.getElem?_set] at hl ⊢
   split at hl
   ·rename_i e;rw[if_pos e,if_pos (by rw[h.ok.found];exact hto)]
   ·rename_i e;rw[if_neg e];exact h.some_ i l hl hne
  ·dsimp only at hl
   rcases List.mem_or_eq_of_mem_set hl with e | e
   ·exact h.mem l e k hk
   ·subst e;exact hm k hk
  ·dsimp only at hi
   rw[List.getElem?_set] at hi
   split at hi
   ·rename_i e;subst e;exact hr
   ·exact h.reach i hi
  ·dsimp only at hi ⊢
   rw[List.getElem?_set] at hi
   split at hi
   ·rename_i e;subst e;simp
   ·rw[List.mem_append];exact .inl (h.inTodo i hi)
theorem HI.visits {g:Graph} {now:List Int} (hm:∀ k∈now,∃ n∈g.nodes,n.kind=5∧n.thing=k) : ∀ (fs:List Int) (s s':HS),HI g s→now.length≤s.todo.length→(∀ x∈fs,x.toNat < g.nodes.length∧ReachC g (-1) x.toNat) →
  hVisits now s fs=.ok s'→HI g s'∧s.todo.length≤s'.todo.length
 | [],s,s',h,_,_,hv=>by
  unfold hVisits at hv
  injection hv with hv;subst hv;exact⟨h,Nat.le_refl _⟩
 | x :: fs,s,s',h,hn,hx,hv=>by
  unfold hVisits at hv
  cases h1:hVisit now s x.toNat with
  | error e=>rw[h1] at hv;cases hv
  | ok s1 =>
   rw[h1] at hv
   have hx1:=hx x (by simp)
   obtain⟨a,b⟩:=h.visit hx1.1 hn hx1.2 hm h1
   obtain⟨c,d⟩:=HI.visits hm fs s1 s' a (by omega) (fun y hy=>hx y (by simp[hy])) hv
   exact⟨c,by omega⟩
theorem ZI0 {g:Graph} {n:Node} (hn:n∈g.nodes) {cur now:List Int} (hm:∀ k∈cur,∃ n∈g.nodes,n.kind=5∧n.thing=k) (h:hNow n cur=some now) : (∀ k∈now,∃ n∈g.nodes,n.kind=5∧n.thing=k)∧now.length≤cur.length+1:=by
 unfold hNow at h
 split at h
 ·rename_i h5
  injection h with h;subst h
  refine⟨fun k hk=>?_,by simp⟩
  rcases List.mem_append.1 hk with e | e
  ·exact hm k e
  ·rw[List.mem_singleton] at e;exact⟨n,hn,h5,e.symm⟩
 ·split at h
  ·split at h
   ·injection h with h;subst h
    exact⟨fun k hk=>hm k ((List.dropLast_sublist _).subset hk),by simp;omega⟩
   ·cases h
  ·split at h
   ·split at h
    ·injection h with h;subst h;exact⟨fun k hk=>(by cases hk),by simp⟩
    ·cases h
   ·injection h with h;subst h;exact⟨hm,by omega⟩
theorem ZFu {g:Graph} (hw:WholeG g) : ∀ (f k:Nat) (s:HS) (L:List (List Int)),HI g s→hRun g f k s=.ok L→∃ s',HI g s'∧L=s'.locks
 | 0,k,s,L,h,hr=>by
  unfold hRun at hr;injection hr with hr;exact⟨s,h,hr.symm⟩
 | f+1,k,s,L,h,hr=>by
  cases h1:s.todo[k]? with
  | none=>simp only[hRun,h1] at hr;injection hr with hr;exact⟨s,h,hr.symm⟩
  | some at_ =>
   cases h2:g.nodes[at_]? with
   | none=>simp only[hRun,h1,h2] at hr;injection hr with hr;exact⟨s,h,hr.symm⟩
   | some n =>
    cases h3:hNow n (hCur s at_) with
    | none=>simp only[hRun,h1,h2,h3] at hr;cases hr
    | some now =>
     cases h4:hVisits now s (fol n) with
     | error e=>simp only[hRun,h1,h2,h3,h4] at hr;cases hr
     | ok s' =>
      simp only[hRun,h1,h2,h3,h4] at hr
      have hn:n∈g.nodes:=List.mem_of_getElem? h2
      have hc:∀ k∈hCur s at_,∃ n∈g.nodes,n.kind=5∧n.thing=k:=by
       intro k hk
       unfold hCur at hk
       cases h5:s.locks[at_]? with
       | none=>rw[h5] at hk;cases hk
       | some l=>rw[h5] at hk;exact h.mem l (List.mem_of_getElem? h5) k hk
      obtain⟨q1,q2⟩:=ZI0 hn hc h3
      have hl:=h.ok.len k at_ h1
      have hk:=(List.getElem?_eq_some_iff.1 h1).1
      have hf:=h.ok.todo at_ (List.mem_of_getElem? h1)
      have hra:=h.reach at_ hf.2
      obtain⟨q3,_⟩:=HI.visits q1 (fol n) s s' h (by omega) (fun x hx=>by
       have hb:=hw.fol n hn x hx
       refine⟨by omega,.step hra (by omega) h2 ?_⟩
       rw[Int.toNat_of_nonneg hb.1];exact hx) h4
      exact ZFu hw f (k+1) s' L q3 hr
def heldL (g:Graph) : List (List Int):=match heldF g with
 | .ok L=>L
 | .error _=>[]
def heldAt (g:Graph) (i:Nat) : List Int:=((heldL g)[i]?).getD []
theorem ZEg {g:Graph} {L:List (List Int)} (h:heldF g=.ok L) : heldL g=L:=by unfold heldL;rw[h]
theorem ZFH {u:Unit_} {g:Graph} (h:RightG u g) : (heldL g).length=g.nodes.length:=by
 obtain⟨L,hL⟩:=h.held
 rw[ZEg hL]
 obtain⟨s,h1,h2⟩:=ZFu h.whole _ _ _ L (HI.start h.whole.pos) hL
 rw[h2,h1.ok.locks]
theorem ZFG {u:Unit_} {g:Graph} (h:RightG u g) {l:List Int} (hl:l∈heldL g) {k:Int} (hk:k∈l) : 0≤k∧k < u.locks.length:=by
 obtain⟨L,hL⟩:=h.held
 rw[ZEg hL] at hl
 obtain⟨s,h1,h2⟩:=ZFu h.whole _ _ _ L (HI.start h.whole.pos) hL
 subst h2
 obtain⟨n,hn,h5,rfl⟩:=h1.mem l hl k hk
 have:=h.nodes n hn
 unfold ndOk nodeOk at this
 simp only[Bool.and_eq_true] at this
 obtain⟨_,_,_,g4,_⟩:=this
 unfold numOk at g4
 have hu:uThing n.kind=true:=by unfold uThing;rw[decide_eq_true_eq];omega
 rw[if_pos hu,if_pos (.inl h5),decide_eq_true_eq] at g4
 exact g4
end Go.Proofs.YtffgnjgphkdodaaDoor
namespace Go.Proofs.YtffgnjgphkdodaaDoor
open Go Go.RowKit
structure NMem (cs:List Value) (w:World) (l:List ByteArray) (wr:World) : Prop where
 box:Blk wr w.heap.size 25 cs
 ptr:Blk wr (w.heap.size+2) 134 [.map (some (w.heap.size+1))]
 map:MapIs (fun n:List UInt8=>Value.string ⟨n.toArray⟩) decStr wr (w.heap.size+1) (seenF l)
 below:Below w.heap.size w wr
theorem NMem.alloc {cs:List Value} {w:World} {l:List ByteArray} {wr:World} (h:NMem cs w l wr) (o:Obj) : NMem cs w l (wr.alloc o) where
 box:=h.box.alloc o
 ptr:=h.ptr.alloc o
 map:=h.map.alloc o
 below:=h.below.alloc h.below.size o
theorem NMem.add {cs:List Value} {w:World} {l l':List ByteArray} {wr wx:World} (h:NMem cs w l wr) (hm:MapIs (fun n:List UInt8=>Value.string ⟨n.toArray⟩) decStr wx (w.heap.size+1) (seenF l')) (hg:wr.grownBy wx (some (w.heap.size+1))) : NMem cs w l' wx where
 box:=h.box.grown hg (by simp)
 ptr:=h.ptr.grown hg (by simp)
 map:=hm
 below:=h.below.grown hg h.below.size (fun k hk=>by simp at hk;omega)
set_option maxRecDepth 100000 in
set_option maxHeartbeats 4000000 in
theorem ZDO (u:Unit_) (cs:List Value) (w:World) (hu:UnitV (cmap w) cs u) :
  Calls Tryd.prog 45 #[.agg cs.toArray] w fun e w'=>e=.returned (.bool (namedOk u))∧Below w.heap.size w w':=by
 obtain⟨sv,lv,gv,rfl,hs,hl,hg⟩:=hu
 have hs':=hs
 obtain⟨sA,sc,rfl,-,-,-⟩:=hs'
 have hl':=hl
 obtain⟨lA,lc,rfl,-,-,-⟩:=hl'
 have hg':=hg
 obtain⟨gA,gc,rfl,-,-,-⟩:=hg'
 have bs:=hs.len.2.2
 have bl:=hl.len.2.2
 have bg:=hg.len.2.2
 obtain⟨r,hr⟩ : ∃ r,namedOk u=r:=⟨_,rfl⟩
 rw[hr]
 by_cases h1:u.shared.length≤64
 ·by_cases h2:u.locks.length≤16
  ·by_cases h3:u.graphs.length≤8
   ·have hr2:nmOk [] (nmAll u)=r:=by rw[← hr];simp[namedOk,h1,h2,h3]
    clear hr
    have HR:=Hd_ hr2;clear hr2
    go_enter Tryd.func45,Tryd.ntmps45
    go_upto_region 3 with fail
    apply wp_region_lit
    refine ZBW rfl rfl ?_
    go_wp2_with fail
    go_loopw [32] (fun v wr=>∃ (k:Nat) (l:List ByteArray),v=.int .i64 k∧k≤u.shared.length∧NMem [.slice sA u.shared.length sc,.slice lA u.locks.length lc,.slice gA u.graphs.length gc] w l wr∧nmOk l (nmDecls (u.shared.drop k) true ++ (nmDecls u.locks false ++ nmGraphs u.graphs))=r) (fun v _=>u.shared.length - (intOf v).toNat)
    case atStart =>
     refine⟨0,[],rfl,by omega,{ box:=?_,ptr:=?_,map:=?_,below:=ZFX _ _ _ _ },HR.out⟩
     ·exact((Blk.new w _ _).alloc _).alloc _
     ·exact Blk.of (ZP _ _ _ (by simp)) rfl
     ·rw[ZHX];exact(MapIs.new _ _ (by simp)).alloc _
    case round =>
     obtain⟨k,l,rfl,hk,hm,hn⟩:=hrel
     by_cases hlt:k < u.shared.length
     ·obtain⟨d,hd⟩ : ∃ d,u.shared[k]? = some d:=⟨_,List.getElem?_eq_getElem hlt⟩
      obtain⟨b,o,rfl,hdc⟩:=hs.at_ hd
      have hld:∀ j v,([.string d.name,.int .i64 d.word,.int .i64 d.at_] : List Value)[j]? = some v→wr.cell? ⟨b,o+k * 3+j,none⟩=some v:=by
       intro j v h
       refine ZA hm.below _ _ _ ?_
       obtain⟨q1,q2,q3⟩:=hdc
       match j,h with
       | 0,h=>injection h with h;subst h;exact q1
       | 1,h=>injection h with h;subst h;exact q2
       | 2,h=>injection h with h;subst h;exact q3
       | j+3,h=>cases h
      have HLD:=Hd_ hld;clear hld
      have HN:=Hd_ hn;clear hn
      have HD:=Hd_ hd;clear hd
      have hk0:(0:Int)≤k:=by omega
      have hkl:(k:Int) < u.shared.length:=by omega
      have hm2:=hm.alloc (.cells #[.string d.name,.int .i64 d.word,.int .i64 d.at_] 66)
      have hptr:=hm2.ptr.cell 0
      have hdr:u.shared.drop k=d :: u.shared.drop (k+1):=by
       rw[List.drop_eq_getElem_cons hlt]
       congr 1
       have h:=HD.out
       rw[List.getElem?_eq_getElem hlt] at h
       injection h
      have hn2:=HN.out
      rw[hdr] at hn2
      simp only[nmDecls,List.map_cons,List.cons_append,nmOk,Bool.true_or,Bool.and_true] at hn2
      have HDR:=Hd_ hdr;clear hdr
      cases hq:(nameB d.name && !(inB l d.name))
      ·rw[hq,Bool.false_and] at hn2
       have HN2:=Hd_ hn2;clear hn2
       go_wp2_with (first | (refine ZC rfl 66 _ rfl b (o+k * 3) rfl _ _ HLD.out Tryd.underlying66 rfl (by kernel_rfl) ?_) | (go_at_call 65;refine(ZAb d.name l (w.heap.size+1) _ _ hptr hm2.map).mono ?_;rintro e w2 ⟨rfl,hm3,hg3⟩;rw[hq];clear hq))
       go_ret
       exact⟨by rw[← HN2.out];rfl,(hm2.add hm3 hg3).below⟩
      ·rw[hq,Bool.true_and] at hn2
       have HN2:=Hd_ hn2;clear hn2
       go_wp2_with (first | (refine ZC rfl 66 _ rfl b (o+k * 3) rfl _ _ HLD.out Tryd.underlying66 rfl (by kernel_rfl) ?_) | (go_at_call 65;refine(ZAb d.name l (w.heap.size+1) _ _ hptr hm2.map).mono ?_;rintro e w2 ⟨rfl,hm3,hg3⟩;rw[hq];clear hq))
       go_roundw
       case rel=>exact⟨k+1,l ++ [d.name],by go_num,by omega,hm2.add hm3 hg3,HN2.out⟩
       case measure=>simp[intOf];omega
     ·have hbc1:=hm.box.cell 1
      have hnil:u.shared.drop k=[]:=List.drop_eq_nil_of_le (by omega)
      rw[hnil] at hn
      have hnl:nmOk l (nmDecls u.locks false ++ nmGraphs u.graphs)=r:=hn
      have HNL:=Hd_ hnl;clear hnl hn hnil
      go_wp2_with fail
      go_loopw [45] (fun v wr=>∃ (k:Nat) (l:List ByteArray),v=.int .i64 k∧k≤u.locks.length∧NMem [.slice sA u.shared.length sc,.slice lA u.locks.length lc,.slice gA u.graphs.length gc] w l wr∧nmOk l (nmDecls (u.locks.drop k) false ++ nmGraphs u.graphs)=r) (fun v _=>u.locks.length - (intOf v).toNat)
      case atStart=>exact⟨0,l,rfl,by omega,hm,HNL.out⟩
      case round =>
       obtain⟨k,l,rfl,hk,hm,hn⟩:=hrel
       by_cases hlt:k < u.locks.length
       ·obtain⟨d,hd⟩ : ∃ d,u.locks[k]? = some d:=⟨_,List.getElem?_eq_getElem hlt⟩
        obtain⟨b,o,rfl,hdc⟩:=hl.at_ hd
        have hld:∀ j v,([.string d.name,.int .i64 d.word,.int .i64 d.at_] : List Value)[j]? = some v→wr.cell? ⟨b,o+k * 3+j,none⟩=some v:=by
         intro j v h
         refine ZA hm.below _ _ _ ?_
         obtain⟨q1,q2,q3⟩:=hdc
         match j,h with
         | 0,h=>injection h with h;subst h;exact q1
         | 1,h=>injection h with h;subst h;exact q2
         | 2,h=>injection h with h;subst h;exact q3
         | j+3,h=>cases h
        have HLD:=Hd_ hld;clear hld
        have HN:=Hd_ hn;clear hn
        have HD:=Hd_ hd;clear hd
        have hk0:(0:Int)≤k:=by omega
        have hkl:(k:Int) < u.locks.length:=by omega
        have hb1:=Blk.new wr 66 [.string d.name,.int .i64 d.word,.int .i64 d.at_]
        have hm2:=hm.alloc (.cells #[.string d.name,.int .i64 d.word,.int .i64 d.at_] 66)
        have hptr:=hm2.ptr.cell 0
        have hdr:u.locks.drop k=d :: u.locks.drop (k+1):=by
         rw[List.drop_eq_getElem_cons hlt]
         congr 1
         have h:=HD.out
         rw[List.getElem?_eq_getElem hlt] at h
         injection h
        have hn2:=HN.out
        rw[hdr] at hn2
        simp only[nmDecls,List.map_cons,List.cons_append,nmOk,Bool.false_or] at hn2
        have HDR:=Hd_ hdr;clear hdr
        have hmp:=hm.map.lt
        cases hq:(nameB d.name && !(inB l d.name))
        ·rw[hq,Bool.false_and,Bool.false_and] at hn2
         have HN2:=Hd_ hn2;clear hn2
         go_wp2_with (first | (refine ZC rfl 66 _ rfl b (o+k * 3) rfl _ _ HLD.out Tryd.underlying66 rfl (by kernel_rfl) ?_) | (go_at_call 65;refine(ZAb d.name l (w.heap.size+1) _ _ hptr hm2.map).mono ?_;rintro e w2 ⟨rfl,hm3,hg3⟩;rw[hq];clear hq;have hb3:=hb1.grown hg3 (by simp;omega)))
         go_ret
         exact⟨by rw[← HN2.out];rfl,(hm2.add hm3 hg3).below⟩
        ·cases hz:(d.word == 0)
         ·have hz2:(d.word != 0)=true:=by rw[bne,hz];rfl
          rw[hz,Bool.and_false,Bool.false_and] at hn2
          have HN2:=Hd_ hn2;clear hn2
          go_wp2_with (first | (refine ZC rfl 66 _ rfl b (o+k * 3) rfl _ _ HLD.out Tryd.underlying66 rfl (by kernel_rfl) ?_) | (go_at_call 65;refine(ZAb d.name l (w.heap.size+1) _ _ hptr hm2.map).mono ?_;rintro e w2 ⟨rfl,hm3,hg3⟩;rw[hq];clear hq;have hb3:=hb1.grown hg3 (by simp;omega);have hc3:w2.cell? ⟨wr.heap.size,1,none⟩=some (.int .i64 d.word):=hb3.cell 1))
          go_ret
          exact⟨by rw[← HN2.out];rfl,(hm2.add hm3 hg3).below⟩
         ·have hz2:(d.word != 0)=false:=by rw[bne,hz];rfl
          rw[hq,hz,Bool.true_and,Bool.true_and] at hn2
          have HN2:=Hd_ hn2;clear hn2
          go_wp2_with (first | (refine ZC rfl 66 _ rfl b (o+k * 3) rfl _ _ HLD.out Tryd.underlying66 rfl (by kernel_rfl) ?_) | (go_at_call 65;refine(ZAb d.name l (w.heap.size+1) _ _ hptr hm2.map).mono ?_;rintro e w2 ⟨rfl,hm3,hg3⟩;rw[hq];clear hq;have hb3:=hb1.grown hg3 (by simp;omega);have hc3:w2.cell? ⟨wr.heap.size,1,none⟩=some (.int .i64 d.word):=hb3.cell 1))
          go_roundw
          case rel=>exact⟨k+1,l ++ [d.name],by go_num,by omega,hm2.add hm3 hg3,HN2.out⟩
          case measure=>simp[intOf];omega
       ·have hbc2:=hm.box.cell 2
        have hnil:u.locks.drop k=[]:=List.drop_eq_nil_of_le (by omega)
        rw[hnil] at hn
        have hnl:nmOk l (nmGraphs u.graphs)=r:=hn
        have HNL2:=Hd_ hnl;clear hnl hn hnil
        go_wp2_with fail
        go_loopw [63] (fun v wr=>∃ (k:Nat) (l:List ByteArray),v=.int .i64 k∧k≤u.graphs.length∧NMem [.slice sA u.shared.length sc,.slice lA u.locks.length lc,.slice gA u.graphs.length gc] w l wr∧nmOk l (nmGraphs (u.graphs.drop k))=r) (fun v _=>u.graphs.length - (intOf v).toNat)
        case atStart=>exact⟨0,l,rfl,by omega,hm,HNL2.out⟩
        case round =>
         obtain⟨k,l,rfl,hk,hm,hn⟩:=hrel
         by_cases hlt:k < u.graphs.length
         ·obtain⟨d,hd⟩ : ∃ d,u.graphs[k]? = some d:=⟨_,List.getElem?_eq_getElem hlt⟩
          obtain⟨b,o,rfl,cs,⟨nv,rfl,nA,nc,rfl,-⟩,hdc⟩:=hg.at_ hd
          have hld:∀ j v,([.string d.name,.int .i64 d.locals,.int .i64 d.slots,.slice nA d.nodes.length nc] : List Value)[j]? = some v→wr.cell? ⟨b,o+k * 4+j,none⟩=some v:=fun j v h=>ZA hm.below _ _ _ (hdc j v h)
          have HLD:=Hd_ hld;clear hld
          clear hdc
          have HN:=Hd_ hn;clear hn
          have HD:=Hd_ hd;clear hd
          have hk0:(0:Int)≤k:=by omega
          have hkl:(k:Int) < u.graphs.length:=by omega
          have hm2:=hm.alloc (.cells #[.string d.name,.int .i64 d.locals,.int .i64 d.slots,.slice nA d.nodes.length nc] 38)
          have hptr:=hm2.ptr.cell 0
          have hdr:u.graphs.drop k=d :: u.graphs.drop (k+1):=by
           rw[List.drop_eq_getElem_cons hlt]
           congr 1
           have h:=HD.out
           rw[List.getElem?_eq_getElem hlt] at h
           injection h
          have hn2:=HN.out
          rw[hdr] at hn2
          simp only[nmGraphs,List.map_cons,nmOk,Bool.and_true] at hn2
          have HDR:=Hd_ hdr;clear hdr
          have hmp:=hm.map.lt
          cases hq:(nameB d.name && !(inB l d.name))
          ·rw[hq,Bool.false_and] at hn2
           have HN2:=Hd_ hn2;clear hn2
           go_wp2_with (first | (refine ZC rfl 38 _ rfl b (o+k * 4) rfl _ _ HLD.out Tryd.underlying38 rfl (by kernel_rfl) ?_) | (go_at_call 65;refine(ZAb d.name l (w.heap.size+1) _ _ hptr hm2.map).mono ?_;rintro e w2 ⟨rfl,hm3,hg3⟩;rw[hq];clear hq))
           go_ret
           exact⟨by rw[← HN2.out];rfl,(hm2.add hm3 hg3).below⟩
          ·rw[hq,Bool.true_and] at hn2
           have HN2:=Hd_ hn2;clear hn2
           go_wp2_with (first | (refine ZC rfl 38 _ rfl b (o+k * 4) rfl _ _ HLD.out Tryd.underlying38 rfl (by kernel_rfl) ?_) | (go_at_call 65;refine(ZAb d.name l (w.heap.size+1) _ _ hptr hm2.map).mono ?_;rintro e w2 ⟨rfl,hm3,hg3⟩;rw[hq];clear hq))
           go_roundw
           case rel=>exact⟨k+1,l ++ [d.name],by go_num,by omega,hm2.add hm3 hg3,HN2.out⟩
           case measure=>simp[intOf];omega
         ·have hnil:u.graphs.drop k=[]:=List.drop_eq_nil_of_le (by omega)
          rw[hnil] at hn
          have HN3:=Hd_ hn;clear hn hnil
          go_wp2_with fail
          go_ret
          exact⟨by rw[← HN3.out];rfl,hm.below⟩
   ·have d3:decide (8 < (u.graphs.length:Int))=true:=by simp;omega
    have hr2:r=false:=by rw[← hr];simp[namedOk,h3]
    have HR:=Hd_ hr2;clear hr2 hr
    go_enter Tryd.func45,Tryd.ntmps45
    go_wp2_with fail
    go_ret
    exact⟨by rw[HR.out];rfl,ZI _ _⟩
  ·have d3:decide (16 < (u.locks.length:Int))=true:=by simp;omega
   have hr2:r=false:=by rw[← hr];simp[namedOk,h2]
   have HR:=Hd_ hr2;clear hr2 hr
   go_enter Tryd.func45,Tryd.ntmps45
   go_wp2_with fail
   go_ret
   exact⟨by rw[HR.out];rfl,ZI _ _⟩
 ·have d3:decide (64 < (u.shared.length:Int))=true:=by simp;omega
  have hr2:r=false:=by rw[← hr];simp[namedOk,h1]
  have HR:=Hd_ hr2;clear hr2 hr
  go_enter Tryd.func45,Tryd.ntmps45
  go_wp2_with fail
  go_ret
  exact⟨by rw[HR.out];rfl,ZI _ _⟩
theorem ZJk {u:Unit_} {g:Graph} (h:sizesOk g=false) (k:Nat) (gs:List Graph) : graphsBad u k (g :: gs)=some (k,0):=by
 simp[graphsBad,graphBad,h]
theorem ZJl {u:Unit_} {g:Graph} (h:sizesOk g=true) {i:Nat} (h2:ndBad u g 0 g.nodes=some i) (k:Nat) (gs:List Graph) : graphsBad u k (g :: gs)=some (k,i):=by
 simp[graphsBad,graphBad,h,h2]
theorem ZJm {u:Unit_} {g:Graph} (h:sizesOk g=true) (h2:ndBad u g 0 g.nodes=none) {a:Nat} (h3:heldF g=.error a) (k:Nat) (gs:List Graph) : graphsBad u k (g :: gs)=some (k,a):=by
 simp[graphsBad,graphBad,h,h2,heldBad,h3]
theorem gb_ok {u:Unit_} {g:Graph} (h:sizesOk g=true) (h2:ndBad u g 0 g.nodes=none) {L:List (List Int)} (h3:heldF g=.ok L) (k:Nat) (gs:List Graph) : graphsBad u k (g :: gs)=graphsBad u (k+1) gs:=by
 simp[graphsBad,graphBad,h,h2,heldBad,h3]
theorem ZEo {α:Type} {l:List α} {k:Nat} {x:α} (h:l[k]? = some x) : l.drop k=x :: l.drop (k+1):=by
 have hk:=(List.getElem?_eq_some_iff.1 h)
 obtain⟨hlt,hx⟩:=hk
 rw[List.drop_eq_getElem_cons hlt,hx]
def UOk (u:Unit_) : Prop:=∀ g∈u.graphs,∀ n∈g.nodes,n.ok
set_option maxRecDepth 100000 in
set_option maxHeartbeats 4000000 in
theorem Zz (u:Unit_) (cs:List Value) (w:World) (hu:UnitV (cmap w) cs u) (hok:UOk u) :
  Calls Tryd.prog 22 #[.agg cs.toArray] w fun e w'=>e=.returned (checkV (checkF u))∧Below w.heap.size w w':=by
 have hu0:=hu
 obtain⟨sv,lv,gv,rfl,hs,hl,hg⟩:=hu
 have hg':=hg
 obtain⟨gA,gc,rfl,-,-,-⟩:=hg'
 have bg:=hg.len.2.2
 obtain⟨r,hr⟩ : ∃ r,checkF u=r:=⟨_,rfl⟩
 rw[hr]
 have hub:∀ (wr:World),Blk wr w.heap.size 25 [sv,lv,.slice gA u.graphs.length gc]→∀ j v,([sv,lv,.slice gA u.graphs.length gc] : List Value)[j]? = some v→wr.cell? ⟨w.heap.size,0+j,none⟩=some v:=fun wr h j v hj=>by rw[Nat.zero_add,h.cell];exact hj
 have hbx:=Blk.new w 25 [sv,lv,.slice gA u.graphs.length gc]
 have HLD:=Hd_ (hub _ hbx)
 have HUB:=Hd_ hub;clear hub
 cases hn:namedOk u
 ·have hr2:r=some (0,0):=by rw[← hr];simp[checkF,hn]
  have HR:=Hd_ hr2;clear hr2 hr
  go_enter Tryd.func22,Tryd.ntmps22
  go_wp2_with (first
   | (refine ZC rfl 25 _ rfl w.heap.size 0 rfl _ _ HLD.out Tryd.underlying25 rfl (by kernel_rfl) ?_)
   | (go_at_call 45;refine(ZDO u [sv,lv,.slice gA u.graphs.length gc] _ (hu0.mono (ZJ _ _))).mono ?_;rintro e w1 ⟨rfl,hb1⟩;rw[hn];clear hn))
  go_ret3
  exact⟨by rw[HR.out];rfl,(ZI _ _).trans (hb1.mono (by simp))⟩
 ·have hr2:graphsBad u 0 u.graphs=r:=by rw[← hr];simp[checkF,hn]
  have HR:=Hd_ hr2;clear hr2 hr
  go_enter Tryd.func22,Tryd.ntmps22
  go_wp2_with (first
   | (refine ZC rfl 25 _ rfl w.heap.size 0 rfl _ _ HLD.out Tryd.underlying25 rfl (by kernel_rfl) ?_)
   | (go_at_call 45;refine(ZDO u [sv,lv,.slice gA u.graphs.length gc] _ (hu0.mono (ZJ _ _))).mono ?_;rintro e w1 ⟨rfl,hb1⟩;rw[hn];clear hn;have hbx1:=hbx.below hb1 hbx.lt;have hcx1:=hbx1.cell 2))
  go_loopw [17] (fun v wr=>∃ k:Nat,v=.int .i64 k∧k≤u.graphs.length∧Blk wr w.heap.size 25 [sv,lv,.slice gA u.graphs.length gc]∧Below w.heap.size w wr∧graphsBad u k (u.graphs.drop k)=r) (fun v _=>u.graphs.length - (intOf v).toNat)
  case atStart=>exact⟨0,rfl,by omega,hbx1,(ZI _ _).trans (hb1.mono (by simp)),HR.out⟩
  case round =>
   obtain⟨k,rfl,hk,hbk,hbel,hrk⟩:=hrel
   clear HLD hbx hbx1 hcx1 hb1 HR
   by_cases hlt:k < u.graphs.length
   ·obtain⟨g,hgk⟩ : ∃ g,u.graphs[k]? = some g:=⟨_,List.getElem?_eq_getElem hlt⟩
    obtain⟨b,o,rfl,cg,hgv,hdc⟩:=hg.at_ hgk
    have hnok:=hok g (List.mem_of_getElem? hgk)
    rw[ZEo hgk] at hrk
    have HRK:=Hd_ hrk;clear hrk
    have HGK:=Hd_ hgk;clear hgk
    have HGV:=hgv
    obtain⟨nv,rfl,nA,nc,rfl,hnc1,hnc2,hnn⟩:=hgv
    have hld:∀ j v,([.string g.name,.int .i64 g.locals,.int .i64 g.slots,.slice nA g.nodes.length nc] : List Value)[j]? = some v→wr.cell? ⟨b,o+k * 4+j,none⟩=some v:=fun j v h=>ZA hbel _ _ _ (hdc j v h)
    have HLD:=Hd_ hld;clear hld
    clear hdc
    have hk0:(0:Int)≤k:=by omega
    have hkl:(k:Int) < u.graphs.length:=by omega
    have hbl:=hbk.lt
    cases hz:sizesOk g
    ·have hrr:r=some (k,0):=by rw[← HRK.out,ZJk hz]
     have HRR:=Hd_ hrr;clear hrr
     have hz2:¬ (0≤g.locals∧g.locals≤64∧g.locals≤g.slots∧g.slots≤4160∧1≤g.nodes.length∧g.nodes.length≤4096):=by
      unfold sizesOk at hz
      exact of_decide_eq_false hz
     have HZ:=Hd_ hz2;clear hz2 hz
     go_wp2_with (first | (refine ZC rfl 38 _ rfl b (o+k * 4) rfl _ _ HLD.out Tryd.underlying38 rfl (by kernel_rfl) ?_))
     all_goals (first | (exfalso;have hz3:=HZ.out;omega) | (go_ret3;exact⟨by rw[HRR.out];rfl,hbel.alloc hbel.size _⟩))
    ·have hz2:0≤g.locals∧g.locals≤64∧g.locals≤g.slots∧g.slots≤4160∧1≤g.nodes.length∧g.nodes.length≤4096:=by
      have hz3:=hz
      unfold sizesOk at hz3
      exact of_decide_eq_true hz3
     obtain⟨z1,z2,z3,z4,z5,z6⟩:=hz2
     have HZ:=Hd_ hz;clear hz
     have d1:decide (g.locals < 0)=false:=by simp;omega
     have d2:decide (64 < g.locals)=false:=by simp;omega
     have d3:decide (g.slots < g.locals)=false:=by simp;omega
     have d4:decide (4160 < g.slots)=false:=by simp;omega
     have d5:decide ((g.nodes.length:Int) < 1)=false:=by simp;omega
     have d6:decide (4096 < (g.nodes.length:Int))=false:=by simp;omega
     have hbk1:=hbk.alloc (.cells #[.string g.name,.int .i64 g.locals,.int .i64 g.slots,.slice nA g.nodes.length nc] 38)
     have hbg1:=Blk.new wr 38 [.string g.name,.int .i64 g.locals,.int .i64 g.slots,.slice nA g.nodes.length nc]
     have hbel1:=hbel.alloc hbel.size (.cells #[.string g.name,.int .i64 g.locals,.int .i64 g.slots,.slice nA g.nodes.length nc] 38)
     obtain⟨r2,hr2⟩ : ∃ r2,ndBad u g 0 g.nodes=r2:=⟨_,rfl⟩
     have HR2:=Hd_ hr2;clear hr2
     go_wp2_with (first | (refine ZC rfl 38 _ rfl b (o+k * 4) rfl _ _ HLD.out Tryd.underlying38 rfl (by kernel_rfl) ?_))
     clear d1 d2 d3 d4 d5 d6
     obtain⟨wo,rfl⟩ : ∃ wo:World,wo=wr:=⟨_,rfl⟩
     go_loopw [58] (fun v wi=>∃ i:Nat,v=.int .i64 i∧i≤g.nodes.length∧Blk wi w.heap.size 25 [sv,lv,.slice (some ⟨b,o,none⟩) u.graphs.length gc] ∧
      Blk wi wo.heap.size 38 [.string g.name,.int .i64 g.locals,.int .i64 g.slots,.slice nA g.nodes.length nc]∧Below w.heap.size w wi∧ndBad u g i (g.nodes.drop i)=r2) (fun v _=>g.nodes.length - (intOf v).toNat)
     case atStart=>exact⟨0,rfl,by omega,hbk1,hbg1,hbel1,HR2.out⟩
     case round =>
      obtain⟨i,rfl,hi,hbk2,hbg2,hbel2,hri⟩:=hrel
      have hbgl:=hbg2.lt
      by_cases hit:i < g.nodes.length
      ·obtain⟨n,hni⟩ : ∃ n,g.nodes[i]? = some n:=⟨_,List.getElem?_eq_getElem hit⟩
       have hno:=hnok n (List.mem_of_getElem? hni)
       rw[ZEo hni] at hri
       unfold ndBad at hri
       obtain⟨bn,on_,rfl,hnc⟩:=Sl.at_ ⟨nA,nc,rfl,hnc1,hnc2,hnn⟩ hni
       have hld3:∀ j v,n.cells[j]? = some v→wr.cell? ⟨bn,on_+i * 13+j,none⟩=some v:=fun j v h=>ZA hbel2 _ _ _ (hnc j v h)
       have HLD3:=Hd_ hld3;clear hld3
       have HNI:=Hd_ hni;clear hni
       clear hnc
       have hi0:(0:Int)≤i:=by omega
       have hil:(i:Int) < g.nodes.length:=by omega
       have HK:=Hd_ (HUB.out _ (hbk2.alloc (.cells n.cells.toArray 61)))
       have HG:Hid (∀ j v,([.string g.name,.int .i64 g.locals,.int .i64 g.slots,.slice (some ⟨bn,on_,none⟩) g.nodes.length nc] : List Value)[j]? = some v→(wr.alloc (.cells n.cells.toArray 61)).cell? ⟨wo.heap.size,0+j,none⟩=some v) :=
        fun j v hj=>by rw[Nat.zero_add,(hbg2.alloc _).cell];exact hj
       have HNL:Hid (∀ j v,n.cells[j]? = some v→(wr.alloc (.cells n.cells.toArray 61)).cell? ⟨wr.heap.size,0+j,none⟩=some v):=ZL _ _ _ _ rfl
       unfold Node.cells at HLD3 HNL HK HG
       cases hq:ndOk u g n
       ·rw[hq] at hri
        have HRI:=Hd_ hri;clear hri
        go_wp2_with (first
         | (refine ZC rfl 61 _ rfl bn (on_+i * 13) rfl _ _ HLD3.out Tryd.underlying61 rfl (by kernel_rfl) ?_)
         | (refine ZC rfl 25 _ rfl w.heap.size 0 rfl _ _ HK.out Tryd.underlying25 rfl (by kernel_rfl) ?_)
         | (refine ZC rfl 38 _ rfl wo.heap.size 0 rfl _ _ HG.out Tryd.underlying38 rfl (by kernel_rfl) ?_)
         | (refine ZC rfl 61 _ rfl wr.heap.size 0 rfl _ _ HNL.out Tryd.underlying61 rfl (by kernel_rfl) ?_)
         | (go_at_call 46;refine(ZDF u g n (cmap w) _ _ hu0 HGV hno.kind.1 hno.op _).mono ?_;rintro e w3 ⟨rfl,hb3⟩;unfold ndOk at hq;rw[hq];clear hq))
        have hrr:r=some (k,i):=by rw[← HRK.out,ZJl HZ.out (by rw[HR2.out,← HRI.out];rfl)]
        go_ret3
        exact⟨by rw[hrr];rfl,(hbel2.alloc hbel2.size _).trans (hb3.mono (by have:=hbel2.size;simp;omega))⟩
       ·rw[hq] at hri
        have HRI:=Hd_ hri;clear hri
        go_wp2_with (first
         | (refine ZC rfl 61 _ rfl bn (on_+i * 13) rfl _ _ HLD3.out Tryd.underlying61 rfl (by kernel_rfl) ?_)
         | (refine ZC rfl 25 _ rfl w.heap.size 0 rfl _ _ HK.out Tryd.underlying25 rfl (by kernel_rfl) ?_)
         | (refine ZC rfl 38 _ rfl wo.heap.size 0 rfl _ _ HG.out Tryd.underlying38 rfl (by kernel_rfl) ?_)
         | (refine ZC rfl 61 _ rfl wr.heap.size 0 rfl _ _ HNL.out Tryd.underlying61 rfl (by kernel_rfl) ?_)
         | (go_at_call 46;refine(ZDF u g n (cmap w) _ _ hu0 HGV hno.kind.1 hno.op _).mono ?_;rintro e w3 ⟨rfl,hb3⟩;unfold ndOk at hq;rw[hq];clear hq))
        go_roundw
        case rel=>exact⟨i+1,by go_num,by omega,(hbk2.alloc _).below hb3 (hbk2.alloc _).lt,(hbg2.alloc _).below hb3 (hbg2.alloc _).lt,(hbel2.alloc hbel2.size _).trans (hb3.mono (by have:=hbel2.size;simp;omega)),HRI.out⟩
        case measure=>simp[intOf];omega
      ·have hnil:g.nodes.drop i=[]:=List.drop_eq_nil_of_le (by omega)
       rw[hnil] at hri
       have hr3:r2=none:=by rw[← hri];rfl
       have hbad:ndBad u g 0 g.nodes=none:=by rw[HR2.out,hr3]
       have hwg:=ZEx HZ.out (ZCN _ _ hbad)
       have HB:=Hd_ hbad;clear hri hnil hr3 hbad HR2
       have HG:Hid (∀ j v,([.string g.name,.int .i64 g.locals,.int .i64 g.slots,.slice nA g.nodes.length nc] : List Value)[j]? = some v→wr.cell? ⟨wo.heap.size,0+j,none⟩=some v) :=
        fun j v hj=>by rw[Nat.zero_add,hbg2.cell];exact hj
       go_wp2_with (first
        | (refine ZC rfl 38 _ rfl wo.heap.size 0 rfl _ _ HG.out Tryd.underlying38 rfl (by kernel_rfl) ?_))
       refine(ZEA g [.string g.name,.int .i64 g.locals,.int .i64 g.slots,.slice nA g.nodes.length nc] _ hwg (HGV.mono (ZA hbel2))).mono ?_
       have hs2:=hbel2.size
       rintro e w4 (⟨v,L,rfl,h1,h2,h3⟩ | ⟨a,rfl,h1,h3⟩)
       ·have hok4:=gb_ok HZ.out HB.out h1 k (u.graphs.drop (k+1))
        have H1:=Hd_ (hok4.symm.trans HRK.out);clear hok4 h1
        clear h2
        go_wp2_with fail
        go_roundw
        case rel=>exact⟨k+1,by go_num,by omega,hbk2.below h3 hbk2.lt,hbel2.trans (h3.mono (by omega)),H1.out⟩
        case measure=>simp[intOf];omega
       ·have hrr:r=some (k,a):=by rw[← HRK.out,ZJm HZ.out HB.out h1]
        have HRR:=Hd_ hrr;clear hrr h1
        have hd:decide (0≤(a:Int))=true:=by simp
        go_wp2_with fail
        go_ret3
        exact⟨by rw[HRR.out];rfl,hbel2.trans (h3.mono (by omega))⟩
   ·have hnil:u.graphs.drop k=[]:=List.drop_eq_nil_of_le (by omega)
    rw[hnil] at hrk
    have hr3:r=none:=by rw[← hrk];rfl
    have HN3:=Hd_ hr3;clear hrk hnil hr3
    go_wp2_with fail
    go_ret3
    exact⟨by rw[HN3.out];rfl,hbel⟩
end Go.Proofs.YtffgnjgphkdodaaDoor
