import Derived.WalkKit
import Derived.WalkSpells
import Derived.WalkLawsBesides
import Derived.Lib.Hide
import Derived.BigQuiet
import Derived.Deep.QuietTactic
import Derived.Deep.DeepFit
import Derived.Deep.RegionWith
import Derived.Deep.DeepCutAuto
import Derived.Deep.LoopGhost
import Derived.Maps.AppendAt
import Derived.WalkSmall
import Derived.Deep.RegionLaw
import Derived.MapKept
namespace Go.Proofs.YtffgnjgphkdodaaDoor
open Go Go.RowKit
theorem Hd_{p:Prop}(h:p):Hid p:=Lib.hid h
abbrev CM:=Nat→Nat→Option Value
def cmap (w:World) : CM:=fun b o=>w.cell? ⟨b,o,none⟩
def CM.le (m m':CM) : Prop:=∀ b o v,m b o=some v→m' b o=some v
def part (w:World) (lo hi:Nat) : CM:=fun b o=>if lo≤b∧b < hi then w.cell? ⟨b,o,none⟩ else none
theorem CM.le.refl (m:CM) : m.le m:=fun _ _ _ h=>h
theorem CM.le.trans {a b c:CM} (h:a.le b) (k:b.le c) : a.le c:=fun x o v hv=>k x o v (h x o v hv)
theorem ZV (w:World) (lo hi:Nat) : (part w lo hi).le (cmap w):=by
 intro b o v h
 unfold part at h
 split at h
 ·exact h
 ·cases h
theorem Zc {w w':World} {lo hi:Nat} (h:∀ b,lo≤b→b < hi→w'.heap[b]? = w.heap[b]?) : (part w lo hi).le (part w' lo hi):=by
 intro b o v hv
 unfold part at hv ⊢
 split at hv
 ·rename_i hb
  rw[if_pos hb]
  rw[World.cell?_of_block (h b hb.1 hb.2)]
  exact hv
 ·cases hv
theorem ZAL {w:World} {lo hi lo' hi':Nat} (h1:lo'≤lo) (h2:hi≤hi') : (part w lo hi).le (part w lo' hi'):=by
 intro b o v hv
 unfold part at hv ⊢
 split at hv
 ·rw[if_pos (by omega)];exact hv
 ·cases hv
theorem ZIQ (w:World) : (cmap w).le (part w 0 w.heap.size):=by
 intro b o v hv
 have hb:=World.block_lt_of_cell? w ⟨b,o,none⟩ hv
 unfold part
 rw[if_pos ⟨Nat.zero_le _,hb⟩]
 exact hv
theorem ZA {w w':World} (h:Below w.heap.size w w') : (cmap w).le (cmap w'):=by
 intro b o v hv
 have hb:=World.block_lt_of_cell? w ⟨b,o,none⟩ hv
 exact(h.cell (p:=⟨b,o,none⟩) hb).trans hv
open Classical in
noncomputable def on (w:World) (S:Nat→Prop) : CM:=fun b o=>if S b then w.cell? ⟨b,o,none⟩ else none
theorem on_le (w:World) (S:Nat→Prop) : (on w S).le (cmap w):=by
 intro b o v h
 unfold on at h
 split at h
 ·exact h
 ·cases h
theorem ZGu {w:World} {S:Nat→Prop} {b o:Nat} {v:Value} (h:on w S b o=some v) : w.cell? ⟨b,o,none⟩=some v∧S b:=by
 unfold on at h
 split at h
 ·exact⟨h,by assumption⟩
 ·cases h
theorem ZDL {w:World} {S:Nat→Prop} {b o:Nat} {v:Value} (h:w.cell? ⟨b,o,none⟩=some v) (hS:S b) : on w S b o=some v:=by
 unfold on
 rw[if_pos hS]
 exact h
theorem Zf {w w':World} {S S':Nat→Prop} (h:∀ b,S b→b < w.heap.size→w'.heap[b]? = w.heap[b]?) (hS:∀ b,S b→S' b) : (on w S).le (on w' S'):=by
 intro b o v hv
 obtain⟨h1,h2⟩:=ZGu hv
 have hb:=World.block_lt_of_cell? w ⟨b,o,none⟩ h1
 refine ZDL ?_ (hS b h2)
 rw[World.cell?_of_block (h b h2 hb)]
 exact h1
theorem ZCL (w:World) {lo hi:Nat} {S:Nat→Prop} (h:∀ b,lo≤b→b < hi→S b) : (part w lo hi).le (on w S):=by
 intro b o v hv
 unfold part at hv
 split at hv
 ·rename_i hb;exact ZDL hv (h b hb.1 hb.2)
 ·cases hv
theorem ZHk (w:World) {lo hi:Nat} {S:Nat→Prop} (h:∀ b,S b→lo≤b∧b < hi) : (on w S).le (part w lo hi):=by
 intro b o v hv
 obtain⟨h1,h2⟩:=ZGu hv
 unfold part
 rw[if_pos (h b h2)]
 exact h1
def Sl {α:Type} (R:CM→Nat→Nat→α→Prop) (size:Nat) (m:CM) (v:Value) (xs:List α) : Prop :=
 ∃ A c,v=.slice A xs.length c∧xs.length≤c∧(c≤maxLen∧(A=none→c=0))∧(xs=[]∨∃ b o,A=some ⟨b,o,none⟩∧∀ i x,xs[i]? = some x→R m b (o+i * size) x)
class Mono {α:Type} (R:CM→Nat→Nat→α→Prop) : Prop where
 mono:∀ {m m':CM} {b o:Nat} {x:α},m.le m'→R m b o x→R m' b o x
theorem Sl.mono {α:Type} {R:CM→Nat→Nat→α→Prop} [hR:Mono R] {size:Nat} {m m':CM} {v:Value} {xs:List α} (hm:m.le m') (h:Sl R size m v xs) : Sl R size m' v xs:=by
 obtain⟨A,c,rfl,h1,h2,h3⟩:=h
 refine⟨A,c,rfl,h1,h2,?_⟩
 rcases h3 with h3 | ⟨b,o,rfl,h3⟩
 ·exact .inl h3
 ·exact .inr ⟨b,o,rfl,fun i x hx=>hR.mono hm (h3 i x hx)⟩
theorem Sl.at_ {α:Type} {R:CM→Nat→Nat→α→Prop} {size:Nat} {m:CM} {A:Option Addr} {n c:Nat} {xs:List α} (h:Sl R size m (.slice A n c) xs) {i:Nat} {x:α} (hx:xs[i]? = some x) :
  ∃ b o,A=some ⟨b,o,none⟩∧R m b (o+i * size) x:=by
 obtain⟨A',c',he,_,_,h3⟩:=h
 injection he with h1 _ _
 subst h1
 rcases h3 with h3 | ⟨b,o,e,h3⟩
 ·subst h3;simp at hx
 ·exact⟨b,o,e,h3 i x hx⟩
theorem Sl.len {α:Type} {R:CM→Nat→Nat→α→Prop} {size:Nat} {m:CM} {A:Option Addr} {n c:Nat} {xs:List α} (h:Sl R size m (.slice A n c) xs) : n=xs.length∧n≤c∧n≤9223372036854775807:=by
 obtain⟨A',c',he,h1,⟨h2,_⟩,_⟩:=h
 injection he with _ h4 h5
 simp only[maxLen] at h2
 omega
theorem Sl.dropLast {α:Type} {R:CM→Nat→Nat→α→Prop} {size:Nat} {m:CM} {A:Option Addr} {n c:Nat} {xs:List α} (h:Sl R size m (.slice A n c) xs) : Sl R size m (.slice A (n - 1) c) xs.dropLast:=by
 obtain⟨A',c',he,h1,h2,h3⟩:=h
 injection he with e1 e2 e3
 subst e1 e2 e3
 refine⟨A,c,by simp,by simp;omega,h2,?_⟩
 rcases h3 with h3 | ⟨b,o,e,h3⟩
 ·subst h3;exact .inl rfl
 ·refine .inr ⟨b,o,e,fun i x hx=>h3 i x ?_⟩
  rw[List.getElem?_dropLast] at hx
  split at hx
  ·exact hx
  ·cases hx
theorem Zl {w:World} {lo hi b o:Nat} {v:Value} (h:part w lo hi b o=some v) : w.cell? ⟨b,o,none⟩=some v∧lo≤b∧b < hi:=by
 unfold part at h
 split at h
 ·rename_i hb;exact⟨h,hb.1,hb.2⟩
 ·cases h
def IntC (m:CM) (b o:Nat) (n:Int) : Prop:=m b o=some (.int .i64 n)
def BoolC (m:CM) (b o:Nat) (n:Bool) : Prop:=m b o=some (.bool n)
instance:Mono IntC:=⟨fun hm h=>hm _ _ _ h⟩
instance:Mono BoolC:=⟨fun hm h=>hm _ _ _ h⟩
abbrev Ints:=Sl IntC 1
abbrev Bools:=Sl BoolC 1
def IntsC (m:CM) (b o:Nat) (x:List Int) : Prop:=∃ v,m b o=some v∧Ints m v x
instance:Mono IntsC:=⟨fun hm ⟨v,h,k⟩=>⟨v,hm _ _ _ h,k.mono hm⟩⟩
abbrev Ints2:=Sl IntsC 1
structure Val where
 isSlot:Bool
 slot:Int
 word:Int
deriving DecidableEq
structure Node where
 kind:Int
 op:Int
 slot:Int
 thing:Int
 a:Val
 b:Val
 next:Int
 els:Int
 origin:Int
deriving DecidableEq
structure Decl where
 name:ByteArray
 word:Int
 at_:Int
structure Graph where
 name:ByteArray
 locals:Int
 slots:Int
 nodes:List Node
structure Unit_ where
 shared:List Decl
 locks:List Decl
 graphs:List Graph
def i64 (n:Int) : Prop:=-9223372036854775808≤n∧n≤9223372036854775807
def Val.ok (v:Val) : Prop:=i64 v.slot∧i64 v.word
structure Node.ok (n:Node) : Prop where
 kind:0≤n.kind∧n.kind≤255
 op:0≤n.op∧n.op≤255
 slot:i64 n.slot
 thing:i64 n.thing
 a:n.a.ok
 b:n.b.ok
 next:i64 n.next
 els:i64 n.els
 origin:i64 n.origin
def Node.cells (n:Node) : List Value:=[.int .u8 n.kind,.int .u8 n.op,.int .i64 n.slot,.int .i64 n.thing,.bool n.a.isSlot,.int .i64 n.a.slot,.int .i64 n.a.word,
 .bool n.b.isSlot,.int .i64 n.b.slot,.int .i64 n.b.word,.int .i64 n.next,.int .i64 n.els,.int .i64 n.origin]
def NodeC (m:CM) (b o:Nat) (n:Node) : Prop:=∀ j v,n.cells[j]? = some v→m b (o+j)=some v
instance:Mono NodeC:=⟨fun hm h j v hv=>hm _ _ _ (h j v hv)⟩
abbrev Nodes:=Sl NodeC 13
def DeclC (m:CM) (b o:Nat) (d:Decl) : Prop:=m b o=some (.string d.name)∧m b (o+1)=some (.int .i64 d.word)∧m b (o+2)=some (.int .i64 d.at_)
instance:Mono DeclC:=⟨fun hm ⟨h1,h2,h3⟩=>⟨hm _ _ _ h1,hm _ _ _ h2,hm _ _ _ h3⟩⟩
abbrev Decls:=Sl DeclC 3
def GraphV (m:CM) (cs:List Value) (g:Graph) : Prop:=∃ v,cs=[.string g.name,.int .i64 g.locals,.int .i64 g.slots,v]∧Nodes m v g.nodes
def GraphC (m:CM) (b o:Nat) (g:Graph) : Prop:=∃ cs,GraphV m cs g∧∀ j v,cs[j]? = some v→m b (o+j)=some v
theorem GraphV.mono {m m':CM} {cs:List Value} {g:Graph} (hm:m.le m') (h:GraphV m cs g) : GraphV m' cs g:=by
 obtain⟨v,h1,h2⟩:=h
 exact⟨v,h1,h2.mono hm⟩
instance:Mono GraphC:=⟨fun hm ⟨cs,h1,h2⟩=>⟨cs,h1.mono hm,fun j v hv=>hm _ _ _ (h2 j v hv)⟩⟩
abbrev Graphs:=Sl GraphC 4
def UnitV (m:CM) (cs:List Value) (u:Unit_) : Prop:=∃ s l g,cs=[s,l,g]∧Decls m s u.shared∧Decls m l u.locks∧Graphs m g u.graphs
theorem UnitV.mono {m m':CM} {cs:List Value} {u:Unit_} (hm:m.le m') (h:UnitV m cs u) : UnitV m' cs u:=by
 obtain⟨s,l,g,h1,h2,h3,h4⟩:=h
 exact⟨s,l,g,h1,h2.mono hm,h3.mono hm,h4.mono hm⟩
end Go.Proofs.YtffgnjgphkdodaaDoor
namespace Go.Proofs.YtffgnjgphkdodaaDoor
open Go
def fol (n:Node) : List Int:=if n.kind=9 then [] else if n.kind=8∧n.els≠n.next then [n.next,n.els] else [n.next]
def fol2 (n:Node) : List Int:=if n.kind=9 then [] else if n.kind=8 then [n.next,n.els] else [n.next]
theorem ZAi (n:Node) (k:Int) : k∈fol2 n ↔ k∈fol n:=by
 unfold fol fol2
 split
 ·rfl
 ·by_cases h:n.kind=8 <;> by_cases h2:n.els=n.next <;> simp[h,h2]
theorem ZAt (n:Node) : (fol n).length≤2:=by
 unfold fol
 split
 ·simp
 ·split <;> simp
structure WholeG (g:Graph) : Prop where
 pos:1≤g.nodes.length
 most:g.nodes.length≤4096
 kind:∀ n∈g.nodes,1≤n.kind∧n.kind≤9
 fol:∀ n∈g.nodes,∀ k∈fol n,0≤k∧k < g.nodes.length
inductive ReachC (g:Graph) (cut:Int) : Nat→Prop
 | zero:ReachC g cut 0
 | step {i j:Nat} {n:Node} : ReachC g cut i→(i:Int)≠cut→g.nodes[i]? = some n→(j:Int)∈fol n→ReachC g cut j
structure SI (g:Graph) (cut:Int) (l:List Bool) (t:List Int) (ex:Nat→Prop) : Prop where
 len:l.length=g.nodes.length
 zero:l[0]? = some true
 todo:∀ k∈t,0≤k∧k < g.nodes.length∧l[k.toNat]? = some true
 sound:∀ i:Nat,l[i]? = some true→ReachC g cut i
 closed:∀ i:Nat,l[i]? = some true→(i:Int)∈t∨(i:Int)=cut∨ex i∨∀ n,g.nodes[i]? = some n→∀ j∈fol n,l[j.toNat]? = some true
def Pend (g:Graph) (cut:Int) (l:List Bool) (t:List Int) (at_:Nat) (n:Node) (fs:List Int) (k:Nat) : Prop :=
 SI g cut l t (· = at_)∧g.nodes[at_]? = some n∧(at_:Int)≠cut∧l[at_]? = some true∧(∀ j,j∈fs ↔ j∈fol n)∧∀ i j,i < k→fs[i]? = some j→l[j.toNat]? = some true
theorem Zq {l:List Bool} {i j:Nat} (h:l[i]? = some true) : (l.set j true)[i]? = some true:=by
 rw[List.getElem?_set]
 split
 ·have:i < l.length:=(List.getElem?_eq_some_iff.1 h).1
  rename_i e;subst e;simp[this]
 ·exact h
theorem SI.start {g:Graph} (cut:Int) (h:1≤g.nodes.length) : SI g cut ((List.replicate g.nodes.length false).set 0 true) [0] (fun _=>False):=by
 have hz:((List.replicate g.nodes.length false).set 0 true)[0]? = some true:=by rw[List.getElem?_set,if_pos rfl,if_pos (by simp;omega)]
 have h0:∀ i:Nat,((List.replicate g.nodes.length false).set 0 true)[i]? = some true→i=0:=by
  intro i hi
  rw[List.getElem?_set] at hi
  split at hi
  ·omega
  ·rw[List.getElem?_replicate] at hi;split at hi <;> cases hi
 refine⟨by simp,hz,?_,?_,?_⟩
 ·intro k hk;simp at hk;subst hk;exact⟨by omega,by omega,hz⟩
 ·intro i hi;rw[h0 i hi];exact .zero
 ·intro i hi;rw[h0 i hi];simp
theorem SI.pop {g:Graph} {cut:Int} {l:List Bool} {t:List Int} {k:Int} {tt:List Int} (h:SI g cut l tt (fun _=>False)) (ht:∀ x,x∈tt ↔ x∈t∨x=k) : SI g cut l t (· = k.toNat) :=
 ⟨h.len,h.zero,fun x hx=>h.todo x ((ht x).2 (.inl hx)),h.sound,fun i hi=>by
  rcases h.closed i hi with h1 | h1 | h1 | h1
  ·rcases(ht _).1 h1 with h1 | h1
   ·exact .inl h1
   ·exact .inr (.inr (.inl (by omega)))
  ·exact .inr (.inl h1)
  ·exact h1.elim
  ·exact .inr (.inr (.inr h1))⟩
theorem SI.cut {g:Graph} {cut:Int} {l:List Bool} {t:List Int} {k:Int} (hk:0≤k) (h:SI g cut l t (· = k.toNat)) (hc:k=cut) : SI g cut l t (fun _=>False) :=
 ⟨h.len,h.zero,h.todo,h.sound,fun i hi=>by
  rcases h.closed i hi with h1 | h1 | h1 | h1
  ·exact .inl h1
  ·exact .inr (.inl h1)
  ·exact .inr (.inl (by subst h1;omega))
  ·exact .inr (.inr (.inr h1))⟩
theorem Pend.start {g:Graph} {cut:Int} {l:List Bool} {t:List Int} {k:Int} {n:Node} {fs:List Int} (hk:0≤k) (h:SI g cut l t (· = k.toNat)) (hl:l[k.toNat]? = some true) (hc:k≠cut) (hn:g.nodes[k.toNat]? = some n) (hf:∀ j,j∈fs ↔ j∈fol n) :
  Pend g cut l t k.toNat n fs 0:=⟨h,hn,by omega,hl,hf,fun i j hi=>by omega⟩
theorem Pend.seen {g:Graph} {cut:Int} {l:List Bool} {t:List Int} {at_:Nat} {n:Node} {fs:List Int} {k:Nat} {j:Int} (h:Pend g cut l t at_ n fs k) (hj:fs[k]? = some j) (hl:l[j.toNat]? = some true) : Pend g cut l t at_ n fs (k+1):=by
 obtain⟨h1,h2,h3,h4,h5,h6⟩:=h
 refine⟨h1,h2,h3,h4,h5,fun i x hi hx=>?_⟩
 by_cases e:i=k
 ·subst e;rw[hj] at hx;injection hx with hx;subst hx;exact hl
 ·exact h6 i x (by omega) hx
theorem Pend.fresh {g:Graph} {cut:Int} {l:List Bool} {t:List Int} {at_:Nat} {n:Node} {fs:List Int} {k:Nat} {j:Int} (hw:WholeG g) (h:Pend g cut l t at_ n fs k) (hj:fs[k]? = some j) (tt:List Int) (htt:∀ x,x∈tt ↔ x∈t∨x=j) : Pend g cut (l.set j.toNat true) tt at_ n fs (k+1):=by
 obtain⟨h1,h2,h3,h4,h5,h6⟩:=h
 have hm:j∈fol n:=(h5 j).1 (List.mem_of_getElem? hj)
 have hb:=hw.fol n (List.mem_of_getElem? h2) j hm
 have hlj:(l.set j.toNat true)[j.toNat]? = some true:=by
  have:=h1.len
  rw[List.getElem?_set,if_pos rfl,if_pos (by omega)]
 refine⟨⟨by simpa using h1.len,Zq h1.zero,?_,?_,?_⟩,h2,h3,Zq h4,h5,?_⟩
 ·intro x hx
  rcases(htt x).1 hx with hx | hx
  ·have:=h1.todo x hx
   exact⟨this.1,this.2.1,Zq this.2.2⟩
  ·subst hx;exact⟨hb.1,hb.2,hlj⟩
 ·intro i hi
  rw[List.getElem?_set] at hi
  split at hi
  ·rename_i e
   refine .step (h1.sound at_ h4) h3 h2 ?_
   have:(i:Int)=j:=by omega
   rw[this];exact hm
  ·exact h1.sound i hi
 ·intro i hi
  rw[List.getElem?_set] at hi
  split at hi
  ·rename_i e
   exact .inl ((htt _).2 (.inr (by omega)))
  ·rcases h1.closed i hi with q | q | q | q
   ·exact .inl ((htt _).2 (.inl q))
   ·exact .inr (.inl q)
   ·exact .inr (.inr (.inl q))
   ·exact .inr (.inr (.inr fun m hm j hj=>Zq (q m hm j hj)))
 ·intro i x hi hx
  by_cases e:i=k
  ·subst e;rw[hj] at hx;injection hx with hx;subst hx;exact hlj
  ·exact Zq (h6 i x (by omega) hx)
theorem Pend.done {g:Graph} {cut:Int} {l:List Bool} {t:List Int} {at_:Nat} {n:Node} {fs:List Int} {k:Nat} (h:Pend g cut l t at_ n fs k) (hk:fs.length≤k) : SI g cut l t (fun _=>False):=by
 obtain⟨h1,h2,h3,h4,h5,h6⟩:=h
 refine⟨h1.len,h1.zero,h1.todo,h1.sound,fun i hi=>?_⟩
 rcases h1.closed i hi with q | q | q | q
 ·exact .inl q
 ·exact .inr (.inl q)
 ·subst q
  refine .inr (.inr (.inr fun m hm j hj=>?_))
  rw[h2] at hm;injection hm with hm;subst hm
  obtain⟨p,hp⟩:=List.getElem?_of_mem ((h5 j).2 hj)
  exact h6 p j (by have:=(List.getElem?_eq_some_iff.1 hp).1;omega) hp
 ·exact .inr (.inr (.inr q))
theorem SI.done {g:Graph} {cut:Int} {l:List Bool} (_hw:WholeG g) (h:SI g cut l [] (fun _=>False)) (i:Nat) : l[i]? = some true ↔ ReachC g cut i:=by
 refine⟨h.sound i,fun r=>?_⟩
 induction r with
 | zero=>exact h.zero
 | @step i j n _ hc hn hj ih =>
  rcases h.closed i ih with q | q | q | q
  ·cases q
  ·exact absurd q hc
  ·exact q.elim
  ·have:=q n hn j hj
   simpa using this
def left (l:List Bool) : Nat:=l.count false
theorem ZBA:∀ (l:List Bool) (i:Nat),l[i]? = some false→left (l.set i true)+1=left l
 | [],i,h=>by simp at h
 | b :: l,0,h=>by simp at h;subst h;simp[left]
 | b :: l,i+1,h=>by
  have:=ZBA l i (by simpa using h)
  cases b <;> simp[left] at * <;> omega
def hNow (n:Node) (cur:List Int) : Option (List Int) :=
 if n.kind=5 then some (cur ++ [n.thing]) else if n.kind=6 then (if cur.getLast? = some n.thing then some cur.dropLast else none)
 else if n.kind=9 then (if cur=[] then some [] else none) else some cur
structure HS where
 locks:List (List Int)
 found:List Bool
 todo:List Nat
def hVisit (now:List Int) (s:HS) (dd:Nat) : Except Nat HS :=
 if s.found[dd]? = some true then (if s.locks[dd]? = some now then .ok s else .error dd)
 else .ok ⟨s.locks.set dd now,s.found.set dd true,s.todo ++ [dd]⟩
def hVisits (now:List Int) : HS→List Int→Except Nat HS
 | s,[]=>.ok s
 | s,t :: ts=>match hVisit now s t.toNat with
  | .ok s'=>hVisits now s' ts
  | .error e=>.error e
def hCur (s:HS) (at_:Nat) : List Int:=(s.locks[at_]?).getD []
def hRun (g:Graph) : Nat→Nat→HS→Except Nat (List (List Int))
 | 0,_,s=>.ok s.locks
 | f+1,k,s=>match s.todo[k]? with
  | none=>.ok s.locks
  | some at_=>match g.nodes[at_]? with
   | none=>.ok s.locks
   | some n=>match hNow n (hCur s at_) with
    | none=>.error at_
    | some now=>match hVisits now s (fol n) with
     | .error e=>.error e
     | .ok s'=>hRun g f (k+1) s'
def hStart (n:Nat) : HS:=⟨List.replicate n [],(List.replicate n false).set 0 true,[0]⟩
def heldF (g:Graph) : Except Nat (List (List Int)):=hRun g (g.nodes.length+1) 0 (hStart g.nodes.length)
structure HOk (n:Nat) (s:HS) : Prop where
 locks:s.locks.length=n
 found:s.found.length=n
 todo:∀ t∈s.todo,t < n∧s.found[t]? = some true
 count:s.todo.length+left s.found=n
 len:∀ p t,s.todo[p]? = some t→(hCur s t).length≤p
theorem ZBn (n:Nat) : left (List.replicate n false)=n:=by simp[left]
theorem HOk.start {n:Nat} (h:1≤n) : HOk n (hStart n):=by
 have h0:((List.replicate n false).set 0 true)[0]? = some true:=by rw[List.getElem?_set,if_pos rfl,if_pos (by simp;omega)]
 refine⟨by simp[hStart],by simp[hStart],?_,?_,?_⟩
 ·intro t ht
  simp[hStart] at ht
  subst ht
  exact⟨by omega,h0⟩
 ·have:=ZBA (List.replicate n false) 0 (by rw[List.getElem?_replicate,if_pos (by omega)])
  rw[ZBn] at this
  simp only[hStart,List.length_singleton];omega
 ·intro p t hp
  have ht:t∈[0]:=List.mem_of_getElem? hp
  simp at ht
  subst ht
  simp[hCur,hStart,List.getElem?_replicate]
  split <;> simp
theorem HOk.lt {n:Nat} {s:HS} (h:HOk n s) : s.todo.length≤n:=by have:=h.count;omega
theorem HOk.visit {n:Nat} {s:HS} (h:HOk n s) {dd:Nat} (hto:dd < n) (hf:s.found[dd]?≠some true) {now:List Int} (hn:now.length≤s.todo.length) :
  HOk n ⟨s.locks.set dd now,s.found.set dd true,s.todo ++ [dd]⟩:=by
 have hff:s.found[dd]? = some false:=by
  cases hq:s.found[dd]? with
  | none=>rw[List.getElem?_eq_none_iff] at hq;have:=h.found;omega
  | some b => cases b
              ·rfl
              ·exact absurd hq hf
 refine⟨by simpa using h.locks,by simpa using h.found,?_,?_,?_⟩
 ·intro t ht
  simp only[List.mem_append,List.mem_singleton] at ht
  rcases ht with ht | ht
  ·obtain⟨h1,h2⟩:=h.todo t ht
   exact⟨h1,Zq h2⟩
  ·subst ht
   refine⟨hto,?_⟩
   dsimp only
   rw[List.getElem?_set,if_pos rfl,if_pos (by rw[h.found];exact hto)]
 ·have:=ZBA _ _ hff
  have:=h.count
  simp only[List.length_append,List.length_singleton];omega
 ·intro p t hp
  dsimp only at hp
  rw[List.getElem?_append] at hp
  split at hp
  ·rename_i hlt
   have hm:=h.todo t (List.mem_of_getElem? hp)
   have hne:dd≠t:=fun e=>by subst e;rw[hff] at hm;cases hm.2
   have:=h.len p t hp
   simp only[hCur,List.getElem?_set,hne,if_false]
   exact this
  ·have h0:p - s.todo.length=0:=by
    have:=(List.getElem?_eq_some_iff.1 hp).1
    simp at this;omega
   rw[h0] at hp
   simp at hp
   subst hp
   simp only[hCur]
   rw[List.getElem?_set,if_pos rfl,if_pos (by rw[h.locks];exact hto)]
   simp;omega
def hRest (g:Graph) (f k:Nat) (now:List Int) (s:HS) (fs:List Int) : Except Nat (List (List Int)):=match hVisits now s fs with
 | .error e=>.error e
 | .ok s'=>hRun g f (k+1) s'
theorem ZG6 (g:Graph) (f k:Nat) (now:List Int) (s:HS) (x:Int) (fs:List Int) : hRest g f k now s (x :: fs)=match hVisit now s x.toNat with
 | .ok s'=>hRest g f k now s' fs
 | .error e=>.error e:=by
 simp only[hRest,hVisits]
 cases hVisit now s x.toNat <;> rfl
theorem ZHz (g:Graph) (f k:Nat) (now:List Int) (s:HS) : hRest g f k now s []=hRun g f (k+1) s:=rfl
theorem ZHy (g:Graph) {f k:Nat} {s:HS} {at_:Nat} {n:Node} (h1:s.todo[k]? = some at_) (h2:g.nodes[at_]? = some n) :
  hRun g (f+1) k s=match hNow n (hCur s at_) with
   | none=>.error at_
   | some now=>hRest g f k now s (fol n):=by
 simp only[hRun,h1,h2,hRest]
theorem ZIz (g:Graph) {f k:Nat} {s:HS} (h:s.todo.length≤k) : hRun g f k s=.ok s.locks:=by
 cases f with
 | zero=>rfl
 | succ f=>simp only[hRun,List.getElem?_eq_none h]
end Go.Proofs.YtffgnjgphkdodaaDoor
namespace Go.Proofs.YtffgnjgphkdodaaDoor
open Go Go.RowKit
theorem ZDn (b o j:Nat) : (⟨b,o,none⟩ : Addr).add j=⟨b,o+j,none⟩:=by unfold Addr.add;split <;> simp_all
section
variable {P:Program}
def isRowType:TypeDesc→Bool
 | .struct _ | .array _ _=>true
 | _=>false
theorem ZBl (w:World) (b o:Nat) (ty:TypeId) (cs:List Value) (d:TypeDesc) (hc:∀ j v,cs[j]? = some v→w.cell? ⟨b,o+j,none⟩=some v)
  (hu:P.underlying ty=some d) (hd:isRowType d=true) (hi:(P.info? ty).map (·.size)=some cs.length) :
  (loadVar ty ⟨b,o,none⟩).run P w=.ok (.agg cs.toArray) w:=by
 have hl:(loadCells ⟨b,o,none⟩ cs.length).run P w=.ok cs.toArray w :=
  run_loadCells_list (P:=P) w ⟨b,o,none⟩ cs (fun j v hv=>by rw[ZDn];exact hc j v hv)
 cases hq:P.info? ty with
 | none=>simp[hq] at hi
 | some i =>
  have hs:i.size=cs.length:=by simpa [hq] using hi
  have hagg:(isAgg ty).run P w=.ok true w:=by
   unfold isAgg
   rw[Sem.run_bind,run_underlying hu w]
   cases d <;> simp_all [isRowType]
  simp[loadVar,Sem.run_bind,hagg,sizeOf,typeInfo,hq,hs,hl]
theorem ZDy {o:Oper} {a:Act} {w:World} {K:Act→World→Prop} {Q:Exit→Act→World→Prop} (ty:TypeId) (x:Operand) (ho:o.op=.load ty x)
  (b f:Nat) (hx:a.eval x=.pointer (some ⟨b,f,none⟩)) (cs:List Value) (d:TypeDesc) (hc:∀ j v,cs[j]? = some v→w.cell? ⟨b,f+j,none⟩=some v)
  (hu:P.underlying ty=some d) (hd:isRowType d=true) (hi:(P.info? ty).map (·.size)=some cs.length)
  (h:K (a.put o.dst (.agg cs.toArray)) w) : o.wp P a w K Q:=by
 unfold Oper.wp execOp
 simp only[ho,hx,Instr.loadAt,Instr.sureAddr,Sem.run_bind,Sem.run_pure,Result.andThen_ok,ZBl w b f ty cs d hc hu hd hi]
 exact h
theorem ZC {ops:Array Oper} {rest:List Oper} {o:Oper} {a:Act} {w:World} {Q:Exit→Act→World→Prop} (hgd:o.guard=none) (ty:TypeId) (x:Operand) (ho:o.op=.load ty x)
  (b f:Nat) (hx:a.eval x=.pointer (some ⟨b,f,none⟩)) (cs:List Value) (d:TypeDesc) (hc:∀ j v,cs[j]? = some v→w.cell? ⟨b,f+j,none⟩=some v)
  (hu:P.underlying ty=some d) (hd:isRowType d=true) (hi:(P.info? ty).map (·.size)=some cs.length)
  (h:wpList P ops Q rest (a.put o.dst (.agg cs.toArray)) w) : wpList P ops Q (o :: rest) a w :=
 wpList_plain hgd fun _ hK=>ZDy ty x ho b f hx cs d hc hu hd hi (hK _ _ h)
@[irreducible] def Stop (p:Prop) : Prop:=p
theorem Stop.intro {p:Prop} (h:p) : Stop p:=by unfold Stop;exact h
theorem Stop.out {p:Prop} (h:Stop p) : p:=by unfold Stop at h;exact h
theorem ZO {ops:Array Oper} {rest:List Oper} {o:Oper} {a:Act} {w:World} {Q:Exit→Act→World→Prop} (ty:TypeId) {x y:Operand} (_ho:o.op=.store ty x y) (h:Stop (wpList P ops Q (o :: rest) a w)) : wpList P ops Q (o :: rest) a w:=h.out
theorem ZN {ops:Array Oper} {rest:List Oper} {o:Oper} {a:Act} {w:World} {Q:Exit→Act→World→Prop} {args:Array Operand} {ts:Array TypeId} (_ho:o.op=.call { callee:=.builtin .append,args:=args,argTypes:=ts }) (h:Stop (wpList P ops Q (o :: rest) a w)) : wpList P ops Q (o :: rest) a w:=h.out
structure SlT (P:Program) (t e size bytes:Nat) (z:Value) : Prop where
 ht:P.underlying t=some (.slice e)
 info:∃ i,P.info? e=some i∧i.zero=some z∧i.size=size∧i.bytes=bytes
 hzs:z.cells.size=size
 hsz:0 < size
theorem SlT.mk' {t e size bytes:Nat} {z:Value} (ht:P.underlying t=some (.slice e)) (hi:(P.info? e).map (fun i=>(i.zero,i.size,i.bytes))=some (some z,size,bytes))
  (hzs:z.cells.size=size) (hsz:0 < size) : SlT P t e size bytes z:=by
 obtain⟨i,h1,h2,h3,h4⟩:=info_parts hi
 exact⟨ht,⟨i,h1,h2,h3,h4⟩,hzs,hsz⟩
theorem Zg {t e size bytes:Nat} {z:Value} (T:SlT P t e size bytes z) {ops:Array Oper} {rest:List Oper} {o:Oper} {a:Act} {w:World} {Q:Exit→Act→World→Prop} (hgd:o.guard=none) (s x:Operand)
  (ho:o.op=.call { callee:=.builtin .append,args:=#[s,x],argTypes:=#[t,t] })
  (base:Nat) (v:Value) (n:Nat) (xs:List Value) (hs:a.eval s=v) (hown:w.ownsRow base e size v n xs)
  (g off c:Nat) (news:List Value) (hx:a.eval x=.slice (some ⟨g,off,none⟩) 1 c) (hl:news.length=size) (hnews:∀ j u,news[j]? = some u→w.cell? ⟨g,off+j,none⟩=some u) (h1:∀ u∈news,u.oneCell'=true)
  (hn:n < 4294967296) (hb:bytes≤1024) (hbase:base≤w.heap.size)
  (h:∀ v' w',w'.ownsRow base e size v' (n+1) (xs ++ news)→w.grownBy w' v.ownBlock→(v'.ownBlock=v.ownBlock∨v'.ownBlock=some w.heap.size)→wpList P ops Q rest (a.put o.dst v') w') : wpList P ops Q (o :: rest) a w:=by
 obtain⟨i,hi,hz,hsz,hby⟩:=T.info
 refine wpList_append_own_at w hgd s x t ho base e i z size bytes T.ht hi hz hsz hby T.hzs T.hsz v n xs hs hown ⟨g,off,none⟩ 1 c news hx (by omega) (fun j u hj=>by rw[ZDn];exact hnews j u hj) h1 (by simp only[maxLen];omega) ?_ hbase fun v' w' h1 h2 _ h4=>h v' w' h1 h2 h4
 have:(n+1) * bytes≤4294967296 * 1024:=Nat.mul_le_mul (by omega) hb
 omega
theorem ZE3 {t e size bytes:Nat} {z:Value} (T:SlT P t e size bytes z) {ops:Array Oper} {o:Oper} {a:Act} {w:World} {K:Act→World→Prop} {Q:Exit→Act→World→Prop} {E:Prop} (hgd:o.guard=none) (s x:Operand)
  (ho:o.op=.call { callee:=.builtin .append,args:=#[s,x],argTypes:=#[t,t] })
  (base:Nat) (v:Value) (n:Nat) (xs:List Value) (hs:a.eval s=v) (hown:w.ownsRow base e size v n xs)
  (g off c:Nat) (news:List Value) (hx:a.eval x=.slice (some ⟨g,off,none⟩) 1 c) (hl:news.length=size) (hnews:∀ j u,news[j]? = some u→w.cell? ⟨g,off+j,none⟩=some u) (h1:∀ u∈news,u.oneCell'=true)
  (hn:n < 4294967296) (hb:bytes≤1024) (hbase:base≤w.heap.size)
  (h:∀ v' w',w'.ownsRow base e size v' (n+1) (xs ++ news)→w.grownBy w' v.ownBlock→(v'.ownBlock=v.ownBlock∨v'.ownBlock=some w.heap.size)→K (a.put o.dst v') w') :
  if Region.wanted o (yielded ops a.tmps)=true then Oper.wp P o a w K Q else E:=by
 have hw:Region.wanted o (yielded ops a.tmps)=true:=by simp[Region.wanted,hgd]
 rw[if_pos hw]
 obtain⟨i,hi,hz,hsz,hby⟩:=T.info
 obtain⟨v',w',hr,h2,h3,_,h5⟩:=run_append_own_at (P:=P) w base t o.type e i z size bytes T.ht hi hz hsz hby T.hzs T.hsz v n xs hown ⟨g,off,none⟩ 1 c news (by omega) (fun j u hj=>by rw[ZDn];exact hnews j u hj) h1 (by simp only[maxLen];omega) (by
  have:(n+1) * bytes≤4294967296 * 1024:=Nat.mul_le_mul (by omega) hb
  omega) hbase
 unfold Oper.wp execOp
 simp only[ho,resolve,invoke,builtin,Sem.run_bind,Sem.run_pure,Result.andThen_ok,List.map_toArray,List.map_cons,List.map_nil,hs,hx,hr]
 exact h v' w' h2 h3 h5
theorem ZJE {α:Type} {R:CM→Nat→Nat→α→Prop} {f:α→Value} (hR:∀ m b o x,R m b o x→m b o=some (f x)) {t e bytes:Nat} {z:Value} (T:SlT P t e 1 bytes z) {ops:Array Oper} {rest:List Oper} {o:Oper} {a:Act} {w:World} {Q:Exit→Act→World→Prop} (hgd:o.guard=none) (s x:Operand)
  (ho:o.op=.call { callee:=.builtin .append,args:=#[s,x],argTypes:=#[t,t] })
  (base:Nat) (v:Value) (n:Nat) (xs:List Value) (hs:a.eval s=v) (hown:w.ownsRow base e 1 v n xs)
  (A:Addr) (m c:Nat) (l:List α) (hx:a.eval x=.slice (some A) m c) (hr:Sl R 1 (cmap w) (.slice (some A) m c) l) (h1:∀ u,(f u).oneCell'=true)
  (hn:n+m < 4294967296) (hb:bytes≤1024) (hbase:base≤w.heap.size)
  (h:∀ v' w',w'.ownsRow base e 1 v' (n+m) (xs ++ l.map f)→w.grownBy w' v.ownBlock→(v'.ownBlock=v.ownBlock∨v'.ownBlock=some w.heap.size)→wpList P ops Q rest (a.put o.dst v') w') : wpList P ops Q (o :: rest) a w:=by
 obtain⟨i,hi,hz,hsz,hby⟩:=T.info
 have hm:=hr.len.1
 refine wpList_append_own_at w hgd s x t ho base e i z 1 bytes T.ht hi hz hsz hby T.hzs T.hsz v n xs hs hown A m c (l.map f) hx (by simp[hm]) (fun j u hj=>?_) (fun u hu=>?_) (by simp only[maxLen];omega) ?_ hbase fun v' w' h1 h2 _ h4=>h v' w' h1 h2 h4
 ·rw[List.getElem?_map] at hj
  cases hl:l[j]? with
  | none=>rw[hl] at hj;cases hj
  | some y =>
   rw[hl] at hj
   injection hj with hj
   subst hj
   obtain⟨b,f',e1,h2⟩:=hr.at_ hl
   injection e1 with e1
   subst e1
   rw[ZDn]
   have:=hR _ _ _ _ h2
   rwa [Nat.mul_one] at this
 ·obtain⟨y,_,rfl⟩:=List.mem_map.1 hu
  exact h1 y
 ·have:(n+m) * bytes≤4294967296 * 1024:=Nat.mul_le_mul (by omega) hb
  omega
theorem ZAX {t e bytes:Nat} {z:Value} (T:SlT P t e 1 bytes z) (hz1:z.cells=#[z]) {ops:Array Oper} {rest:List Oper} {o:Oper} {a:Act} {w:World} {Q:Exit→Act→World→Prop} (hgd:o.guard=none) (x y:Operand)
  (ho:o.op=.makeSlice t x y) (n:Nat) (hx:a.eval x=.int .i64 (n:Int)) (hy:a.eval y=.int .i64 (n:Int)) (hn:n < 4294967296) (hb:bytes≤1024)
  (h:wpList P ops Q rest (a.put o.dst (.slice (some ⟨w.heap.size,0,none⟩) n n)) (w.alloc (.cells (List.replicate n z).toArray e))) : wpList P ops Q (o :: rest) a w:=by
 obtain⟨i,hi,hz,hsz,hby⟩:=T.info
 refine wpList_plain hgd fun K hK=>?_
 have hbn:((i.bytes:Nat) : Int) * (n:Int)≤281474976710656:=by
  have:i.bytes * n≤1024 * 4294967296:=Nat.mul_le_mul (by omega) (by omega)
  have:((i.bytes * n:Nat) : Int)≤281474976710656:=by omega
  rwa [Int.natCast_mul] at this
 have hr:=run_make (P:=P) w t e i z T.ht hi hz .i64 .i64 n n (by omega) (Int.le_refl _) hbn (by omega)
 have hm:madeCells z.cells ((n:Int).toNat * i.size)=(List.replicate n z).toArray:=by
  rw[hz1,hsz,Nat.mul_one,Int.toNat_natCast,← toList_madeCells_one,Array.toArray_toList]
 rw[hm,Int.toNat_natCast] at hr
 unfold Oper.wp execOp
 simp only[ho,hx,hy,Sem.run_bind,Sem.run_pure,Result.andThen_ok,hr]
 exact hK _ _ h
end
def Blk (w:World) (g:Nat) (t:TypeId) (cs:List Value) : Prop:=w.heap[g]? = some (.cells cs.toArray t (0,0))
section
variable {w w':World} {g:Nat} {t:TypeId} {cs:List Value}
theorem Blk.lt (h:Blk w g t cs) : g < w.heap.size:=lt_of_block h
theorem Blk.cell (h:Blk w g t cs) (i:Nat) : w.cell? ⟨g,i,none⟩=cs[i]?:=by
 have:=cell_of_row w g i cs.toArray t (0,0) h
 simpa using this
theorem Blk.frozen (h:Blk w g t cs) (i:Nat) : w.frozen? ⟨g,i,none⟩=false:=frozen_of_row w g i _ t h
theorem Blk.new (w:World) (t:TypeId) (cs:List Value) : Blk (w.alloc (.cells cs.toArray t)) w.heap.size t cs:=heap_alloc_new w _
theorem Blk.alloc (h:Blk w g t cs) (o:Obj) : Blk (w.alloc o) g t cs:=(Below.heap_alloc w o g h.lt).trans h
theorem Blk.drew (h:Blk w g t cs) : Blk w.drew g t cs:=h
theorem Blk.drewN (h:Blk w g t cs) (n:Nat) : Blk (w.drewN n) g t cs:=h
theorem Blk.set_ (h:Blk w g t cs) (i:Nat) (u:Value) : Blk (w.setCell ⟨g,i,none⟩ u) g t (cs.set i u):=by
 unfold Blk at *
 rw[heap_setCell_same w g i _ t u h]
 simp
theorem Blk.far (h:Blk w g t cs) {p:Addr} (hp:g≠p.block) (u:Value) : Blk (w.setCell p u) g t cs:=(heap_setCell_other w p g u hp).trans h
theorem Blk.below {B:Nat} (h:Blk w g t cs) (hb:Below B w w') (hg:g < B) : Blk w' g t cs:=(hb.block g hg).trans h
theorem Blk.grown {row:Option Nat} (h:Blk w g t cs) (hb:w.grownBy w' row) (hg:some g≠row) : Blk w' g t cs:=(hb.block g h.lt hg).trans h
theorem Blk.of {a:Array Value} (h:w.heap[g]? = some (.cells a t (0,0))) (e:a.toList=cs) : Blk w g t cs:=by
 unfold Blk;rw[h,← e]
theorem ZP (w:World) (o:Obj) (g:Nat) (h:g=w.heap.size) : (w.alloc o).heap[g]? = some o:=by subst h;exact heap_alloc_new w o
theorem Za (w:World) (x:Value) (t:TypeId) (g:Nat) (h:g=w.heap.size) : ∀ j u,[x][j]? = some u→(w.alloc (.cells #[x] t)).cell? ⟨g,0+j,none⟩=some u:=by
 intro j u hj
 subst h
 rw[World.cell?_alloc_new]
 simpa using hj
theorem ZL (w:World) (x:List Value) (t:TypeId) (g:Nat) (h:g=w.heap.size) : ∀ j u,x[j]? = some u→(w.alloc (.cells x.toArray t)).cell? ⟨g,0+j,none⟩=some u:=by
 intro j u hj
 subst h
 rw[World.cell?_alloc_new]
 simpa using hj
theorem ZA8 {base:Nat} {e:TypeId} {size n:Nat} (w:World) (cs:Array Value) (g:Nat) (hg:g=w.heap.size) (hb:base≤w.heap.size) (hm:n < 4294967296) (hs:cs.size=n * size) (xs:List Value) (hx:cs.toList=xs) :
  (w.alloc (.cells cs e)).ownsRow base e size (.slice (some ⟨g,0,none⟩) n n) n xs:=by
 subst hg;subst hx
 exact World.ownsRow_lit w cs n hb (by simp only[maxLen];omega) hs
theorem ZA1 {α:Type} {R:CM→Nat→Nat→α→Prop} {f:α→Value} (hR:∀ m b o x,m b o=some (f x)→R m b o x) {l:List α} (h:Blk w g t (l.map f)) {lo hi n:Nat} (hlo:lo≤g) (hhi:w.heap.size≤hi) (hn:n=l.length) (hl:n < 4294967296) :
  Sl R 1 (part w lo hi) (.slice (some ⟨g,0,none⟩) n n) l:=by
 subst hn
 refine⟨_,_,rfl,Nat.le_refl _,⟨by simp only[maxLen];omega,fun h=>by cases h⟩,.inr ⟨g,0,rfl,fun i x hx=>hR _ _ _ _ ?_⟩⟩
 have:=h.lt
 unfold part
 rw[if_pos ⟨hlo,by omega⟩,h.cell]
 simp[hx]
theorem ZQ {base:Nat} {e:TypeId} {size n:Nat} {v:Value} {xs:List Value} (h:w.ownsRow base e size v n xs) (hg:Blk w g t cs) (hne:e≠t) : some g≠v.ownBlock:=by
 rcases h.2 with⟨rfl,_⟩ | ⟨g',cap,cur,rfl,_,hh,_⟩
 ·simp[Value.ownBlock]
 ·intro he
  have:g=g':=by simpa [Value.ownBlock] using he
  subst this
  unfold Blk at hg
  rw[hh] at hg
  injection hg with hg
  injection hg with _ ht
  exact hne ht
theorem Z5 {base:Nat} {e:TypeId} {size n:Nat} {v:Value} {xs:List Value} (h:w.ownsRow base e size v n xs) (k:Nat) (hk:v.ownBlock=some k) : base≤k:=(h.lt k hk).1
theorem ZE {base:Nat} {e:TypeId} {size n:Nat} {v:Value} {xs:List Value} (h:w.ownsRow base e size v n xs) : ∃ A c,v=.slice A n c∧n≤c:=by
 rcases h.2 with⟨rfl,rfl⟩ | ⟨g',cap,cur,rfl,_,_,hn,_⟩
 ·exact⟨_,_,rfl,Nat.le_refl _⟩
 ·exact⟨_,_,rfl,hn⟩
theorem ZA0 {α:Type} {R:CM→Nat→Nat→α→Prop} {f:α→Value} (hR:∀ m b o x,m b o=some (f x)→R m b o x) {base n:Nat} {e:TypeId} {v:Value} {l:List α} (h:w.ownsRow base e 1 v n (l.map f)) {lo hi:Nat} (hlo:lo≤base) (hhi:w.heap.size≤hi) :
  Sl R 1 (part w lo hi) v l:=by
 have hl:n=l.length:=by have:=h.1;simpa using this.symm
 subst hl
 rcases h.2 with⟨rfl,h0⟩ | ⟨g,cap,cur,rfl,hb,hh,hnc,hcm,_⟩
 ·exact⟨none,0,by rw[h0],by omega,⟨by simp[maxLen],fun _=>rfl⟩,.inl (List.eq_nil_of_length_eq_zero h0)⟩
 ·refine⟨_,cap,rfl,hnc,⟨hcm,fun h=>by cases h⟩,.inr ⟨g,0,rfl,fun i x hx=>hR _ _ _ _ ?_⟩⟩
  have hg:=lt_of_block hh
  unfold part
  rw[if_pos ⟨by omega,by omega⟩]
  have hi:i < l.length:=(List.getElem?_eq_some_iff.1 hx).1
  have:=h.cellAt i (by omega)
  rw[Nat.zero_add,Nat.mul_one,this]
  simp[hx]
theorem ZW {base:Nat} {e:TypeId} {size n:Nat} {v:Value} {xs:List Value} (h:w.ownsRow base e size v n xs) (hn:0 < n) :
  ∃ g cap,v=.slice (some ⟨g,0,none⟩) n cap∧base≤g∧g < w.heap.size∧n≤cap∧∀ j,j < n * size→w.cell? ⟨g,j,none⟩=xs[j]?:=by
 rcases h.2 with⟨rfl,h0⟩ | ⟨g,cap,cur,rfl,hb,hh,hnc,_⟩
 ·omega
 ·exact⟨g,cap,rfl,hb,lt_of_block hh,hnc,fun j hj=>h.cellAt j hj⟩
end
theorem ZFU {W w1:World} (hb:Below W.heap.size W w1) : (∀ b o,b < W.heap.size→w1.cell? ⟨b,o,none⟩=W.cell? ⟨b,o,none⟩)∧(∀ b o,b < W.heap.size→w1.frozen? ⟨b,o,none⟩=W.frozen? ⟨b,o,none⟩) :=
 ⟨fun b o h=>hb.cell (p:=⟨b,o,none⟩) h,fun b o h=>hb.frozen (p:=⟨b,o,none⟩) h⟩
theorem ZB (w:World) (o:Obj) : Below w.heap.size w (w.alloc o):=(Below.refl _ _).alloc (Nat.le_refl _) _
theorem ZFX (w:World) (a b c:Obj) : Below w.heap.size w (((w.alloc a).alloc b).alloc c):=(((Below.refl _ _).alloc (Nat.le_refl _) _).alloc (by simp) _).alloc (by simp;omega) _
theorem ZY {a b:Bool} (h:a=b) : Ending.returned (.bool a)=.returned (.bool b):=by rw[h]
theorem ZI (w:World) (o:Obj) : Below w.heap.size w (w.alloc o):=(Below.refl _ _).alloc (Nat.le_refl _) _
theorem ZJ (w:World) (o:Obj) : (cmap w).le (cmap (w.alloc o)):=ZA (ZI w o)
theorem ZFS (w:World) : (cmap w).le (cmap w.drew):=fun _ _ _ h=>h
def seek {κ:Type} [DecidableEq κ] (dec:Value→Option κ) (k:κ) : List MapEntry→Nat→Option (Nat × Value)
 | [],_=>none
 | e :: es,i=>if dec e.key=some k then some (i,e.val) else seek dec k es (i+1)
structure KeyT (P:Program) (kt:TypeId) {κ:Type} [DecidableEq κ] (kv:κ→Value) (dec:Value→Option κ) : Prop where
 dk:∀ k,dec (kv k)=some k
 find:∀ (es:List MapEntry) k w,(∀ e∈es,∃ k',e.key=kv k')→(Instr.findKey kt (kv k) es).run P w=.ok (seek dec k es 0) w
 check:∀ b k w,(Instr.checkKey b 10000 kt (kv k)).run P w=.ok () w
 same:∀ k,Instr.sameBits 10000 (kv k) (kv k)=true
def MapIs {κ:Type} [DecidableEq κ] (kv:κ→Value) (dec:Value→Option κ) (w:World) (b:Nat) (F:κ→Option Value) : Prop :=
 ∃ es clock,w.heap[b]? = some (.map es clock)∧(∀ e∈es.toList,∃ k',e.key=kv k')∧(∀ k,(seek dec k es.toList 0).map (·.2)=F k)∧MapKept.Stamped es clock
section
variable {κ:Type} [DecidableEq κ] {kv:κ→Value} {dec:Value→Option κ}
theorem ZE6 (k:κ) (x:MapEntry) : ∀ (es:List MapEntry) (i:Nat),(seek dec k (es ++ [x]) i).map (·.2)=((seek dec k es i).map (·.2)).or (if dec x.key=some k then some x.val else none)
 | [],i=>by simp[seek]
 | e :: es,i=>by
  simp only[List.cons_append,seek]
  split
  ·rfl
  ·exact ZE6 k x es (i+1)
theorem ZEV (k:κ) : ∀ (es:List MapEntry) (i j:Nat) (v:Value),seek dec k es i=some (j,v)→i≤j∧∃ e,es[j - i]? = some e∧dec e.key=some k
 | [],_,_,_,h=>by cases h
 | e :: es,i,j,v,h=>by
  unfold seek at h
  split at h
  ·injection h with h;injection h with h1 h2;subst h1
   exact⟨Nat.le_refl _,e,by simp,by assumption⟩
  ·obtain⟨h1,e',h2,h3⟩:=ZEV k es (i+1) j v h
   refine⟨by omega,e',?_,h3⟩
   rw[show j - i=(j - (i+1))+1 by omega]
   simpa using h2
theorem ZBM (k:κ) : ∀ (es:List MapEntry) (i:Nat),seek dec k es i=none→∀ e∈es,dec e.key=some k→False
 | [],_,_,e,he,_=>by cases he
 | e0 :: es,i,h,e,he,hd=>by
  unfold seek at h
  split at h
  ·cases h
  ·rename_i hne
   rcases List.mem_cons.1 he with rfl | he
   ·exact hne hd
   ·exact ZBM k es (i+1) h e he hd
theorem ZDD (k k':κ) (u:Value) (hk:Value) (hd:dec hk=some k) : ∀ (es:List MapEntry) (i j:Nat) (v:Value),seek dec k es i=some (j,v) →
  (seek dec k' (es.modify (j - i) fun e=>{ e with key:=hk,val:=u }) i).map (·.2)=if k'=k then some u else (seek dec k' es i).map (·.2)
 | [],_,_,_,h=>by cases h
 | e :: es,i,j,v,h=>by
  unfold seek at h
  split at h
  ·rename_i he
   injection h with h;injection h with h1 h2;subst h1
   simp only[Nat.sub_self,List.modify_zero_cons,seek,hd,he]
   by_cases e1:k'=k
   ·subst e1;simp
   ·have e2:¬ (some k=some k'):=fun h=>e1 (by injection h with h;exact h.symm)
    simp[e1,e2]
  ·rename_i he
   obtain⟨h1,_⟩:=ZEV k es (i+1) j v h
   have ih:=ZDD k k' u hk hd es (i+1) j v h
   rw[show j - i=(j - (i+1))+1 by omega,List.modify_succ_cons]
   simp only[seek]
   by_cases e1:dec e.key=some k'
   ·have e2:k'≠k:=fun e3=>he (by rw[← e3];exact e1)
    simp[e1,e2]
   ·simp only[e1,if_false]
    exact ih
variable {P:Program} {w w':World} {b:Nat} {F:κ→Option Value}
theorem MapIs.lt (h:MapIs kv dec w b F) : b < w.heap.size:=by obtain⟨es,c,h,_⟩:=h;exact lt_of_block h
theorem MapIs.keep (h:MapIs kv dec w b F) (hk:w'.heap[b]? = w.heap[b]?) : MapIs kv dec w' b F:=by
 obtain⟨es,c,h,r⟩:=h;exact⟨es,c,hk.trans h,r⟩
theorem MapIs.alloc (h:MapIs kv dec w b F) (o:Obj) : MapIs kv dec (w.alloc o) b F:=h.keep (Below.heap_alloc w o b h.lt)
theorem MapIs.setCell (h:MapIs kv dec w b F) {p:Addr} (hp:b≠p.block) (u:Value) : MapIs kv dec (w.setCell p u) b F:=h.keep (Below.heap_setCell w p u b hp)
theorem MapIs.grown {row:Option Nat} (h:MapIs kv dec w b F) (hg:w.grownBy w' row) (hr:some b≠row) : MapIs kv dec w' b F:=h.keep (hg.block b h.lt hr)
theorem MapIs.below {B:Nat} (h:MapIs kv dec w b F) (hb:Below B w w') (hB:b < B) : MapIs kv dec w' b F:=h.keep (hb.block b hB)
theorem MapIs.drew (h:MapIs kv dec w b F) : MapIs kv dec w.drew b F:=h
theorem MapIs.drewN (h:MapIs kv dec w b F) (n:Nat) : MapIs kv dec (w.drewN n) b F:=h
theorem MapIs.new (w:World) (b:Nat) (hb:b=w.heap.size) : MapIs kv dec (w.alloc (.map #[] 0)) b (fun _=>none) :=
 ⟨#[],0,by subst hb;exact heap_alloc_new w _,by simp,fun _=>rfl,MapKept.stamped_empty 0⟩
theorem ZAr {kt et t:TypeId} (K:KeyT P kt kv dec) (ht:P.underlying t=some (.map kt et)) (h:MapIs kv dec w b F) (k:κ) (z:Value) (hz:(zeroValue et).run P w=.ok z w) (ok:Bool) :
  (Instr.lookup t (.map (some b)) (kv k) ok).run P w=.ok (if ok then .tuple #[(F k).getD z,.bool (F k).isSome] else (F k).getD z) w:=by
 obtain⟨es,c,hb,hk,hF,hst⟩:=h
 have hf:=K.find es.toList k w hk
 have hF':=hF k
 cases hs:seek dec k es.toList 0 with
 | none =>
  rw[hs] at hf hF'
  simp only[Option.map_none] at hF'
  rw[← hF']
  cases ok <;> simp[Instr.lookup,Sem.run_bind,run_underlying ht,getObj,Sem.run,hb,K.check,hf,hz]
 | some x =>
  rw[hs] at hf hF'
  simp only[Option.map_some] at hF'
  rw[← hF']
  cases ok <;> simp[Instr.lookup,Sem.run_bind,run_underlying ht,getObj,Sem.run,hb,K.check,hf]
theorem ZG0 {kt et t:TypeId} (K:KeyT P kt kv dec) (ht:P.underlying t=some (.map kt et)) (h:MapIs kv dec w b F) (k:κ) (u:Value) :
  ∃ w',(Instr.mapUpdate t (.map (some b)) (kv k) u).run P w=.ok () w'∧MapIs kv dec w' b (fun k'=>if k'=k then some u else F k')∧w.grownBy w' (some b):=by
 obtain⟨es,c,hb,hk,hF,hst⟩:=h
 have hf:=K.find es.toList k w hk
 have hlt:=lt_of_block hb
 have setb:∀ o,(w.heap.setIfInBounds b o)[b]? = some o:=fun o=>by simp[hlt]
 have grow:∀ o,w.grownBy { w with heap:=w.heap.setIfInBounds b o } (some b):=fun o =>
  ⟨rfl,rfl,rfl,by simp,fun i _ hi=>by
   show(w.heap.setIfInBounds b o)[i]? = _
   rw[Array.getElem?_setIfInBounds_ne]
   intro e;exact hi (by rw[e])⟩
 cases hs:seek dec k es.toList 0 with
 | none =>
  rw[hs] at hf
  refine⟨{ w with heap:=w.heap.setIfInBounds b (.map (es.push { key:=kv k,val:=u,born:=c }) (c+1)) },?_,⟨_,_,setb _,?_,?_,?_⟩,grow _⟩
  ·simp[Instr.mapUpdate,Sem.run_bind,run_underlying ht,getObj,setObj,Sem.run,hb,K.check,hf]
  ·intro e he
   simp at he
   rcases he with he | he
   ·exact hk e (by simpa using he)
   ·subst he;exact⟨k,rfl⟩
  ·intro k'
   simp only[Array.toList_push,ZE6,hF,K.dk]
   by_cases e:k'=k
   ·subst e
    have:=hF k'
    rw[hs] at this
    simp at this
    simp[← this]
   ·have e2:¬ (some k=some k'):=fun h=>e (by injection h with h;exact h.symm)
    simp[e,e2]
  ·refine MapKept.stamped_push hst fun x hx he=>?_
   have hd:dec x.key=some k:=by rw[he];exact K.dk k
   exact ZBM k es.toList 0 hs x hx hd
 | some x =>
  obtain⟨i,v⟩:=x
  rw[hs] at hf
  obtain⟨_,e0,he0,hd0⟩:=ZEV k es.toList 0 i v hs
  simp only[Nat.sub_zero,Array.getElem?_toList] at he0
  have hm:e0∈es.toList:=by
   rw[Array.mem_toList_iff]
   exact Array.mem_of_getElem? he0
  obtain⟨k0,hk0⟩:=hk e0 hm
  have:k0=k:=by
   rw[hk0,K.dk] at hd0
   injection hd0
  subst this
  refine⟨{ w with heap:=w.heap.setIfInBounds b (.map (es.modify i fun e=>{ e with key:=kv k0,val:=u }) c) },?_,⟨_,_,setb _,?_,?_,?_⟩,grow _⟩
  ·simp[Instr.mapUpdate,Sem.run_bind,run_underlying ht,getObj,setObj,Sem.run,hb,K.check,hf,he0,hk0,Instr.keyThatStays,K.same]
  ·intro e he
   rw[Array.toList_modify] at he
   obtain⟨j,hj⟩:=List.getElem?_of_mem he
   rw[List.getElem?_modify] at hj
   split at hj
   ·cases hq:es.toList[j]? with
    | none=>rw[hq] at hj;cases hj
    | some y=>rw[hq] at hj;simp at hj;subst hj;exact⟨k0,rfl⟩
   ·cases hq:es.toList[j]? with
    | none=>rw[hq] at hj;cases hj
    | some y=>rw[hq] at hj;simp at hj;subst hj;exact hk y (List.mem_of_getElem? hq)
  ·intro k'
   have:=ZDD k0 k' u (kv k0) (K.dk k0) es.toList 0 i v hs
   rw[Nat.sub_zero] at this
   rw[Array.toList_modify,this,hF]
  ·refine MapKept.stamped_modify hst _ _ (fun _ _=>rfl) (fun e he he2=>?_)
   have:e=e0:=by
    have h1:es[i]? = some e0:=he0
    rw[h1] at he2
    injection he2 with he2
    exact he2.symm
   subst this
   exact hk0.symm
theorem ZBK {kt et t:TypeId} (K:KeyT P kt kv dec) (ht:P.underlying t=some (.map kt et)) {ops:Array Oper} {rest:List Oper} {o:Oper} {a:Act} {Q:Exit→Act→World→Prop} (hgd:o.guard=none) (m x:Operand)
  (ho:o.op=.lookup t m x false) (b:Nat) (F:κ→Option Value) (h:MapIs kv dec w b F) (k:κ) (hm:a.eval m=.map (some b)) (hx:a.eval x=kv k) (z:Value) (hz:(zeroValue et).run P w=.ok z w)
  (hn:wpList P ops Q rest (a.put o.dst ((F k).getD z)) w) : wpList P ops Q (o :: rest) a w:=by
 refine wpList_plain hgd fun K' hK'=>?_
 have hr:=ZAr K ht h k z hz false
 unfold Oper.wp
 simp only[Bool.false_eq_true,if_false] at hr
 simp[execOp,ho,hm,hx,hr,Result.andThen]
 exact hK' _ _ hn
theorem ZDx {kt et t:TypeId} (K:KeyT P kt kv dec) (ht:P.underlying t=some (.map kt et)) {ops:Array Oper} {rest:List Oper} {o:Oper} {a:Act} {Q:Exit→Act→World→Prop} (hgd:o.guard=none) (m x:Operand)
  (ho:o.op=.lookup t m x true) (b:Nat) (F:κ→Option Value) (h:MapIs kv dec w b F) (k:κ) (hm:a.eval m=.map (some b)) (hx:a.eval x=kv k) (z:Value) (hz:(zeroValue et).run P w=.ok z w)
  (hn:wpList P ops Q rest (a.put o.dst (.tuple #[(F k).getD z,.bool (F k).isSome])) w) : wpList P ops Q (o :: rest) a w:=by
 refine wpList_plain hgd fun K' hK'=>?_
 have hr:=ZAr K ht h k z hz true
 unfold Oper.wp
 simp only[if_true] at hr
 simp[execOp,ho,hm,hx,hr,Result.andThen]
 exact hK' _ _ hn
theorem Zu {kt et t:TypeId} (K:KeyT P kt kv dec) (ht:P.underlying t=some (.map kt et)) {ops:Array Oper} {rest:List Oper} {o:Oper} {a:Act} {Q:Exit→Act→World→Prop} (hgd:o.guard=none) (m x y:Operand)
  (ho:o.op=.mapUpdate t m x y∨o.op=.insert t m x y) (b:Nat) (F:κ→Option Value) (h:MapIs kv dec w b F) (k:κ) (u:Value) (hm:a.eval m=.map (some b)) (hx:a.eval x=kv k) (hy:a.eval y=u)
  (hn:∀ w',MapIs kv dec w' b (fun k'=>if k'=k then some u else F k')→w.grownBy w' (some b)→wpList P ops Q rest (a.put o.dst undef) w') : wpList P ops Q (o :: rest) a w:=by
 refine wpList_plain hgd fun K' hK'=>?_
 obtain⟨w',hr,h1,h2⟩:=ZG0 K ht h k u
 unfold Oper.wp
 rcases ho with ho | ho
 ·simp[execOp,ho,hm,hx,hy,hr,Result.andThen]
  exact hK' _ _ (hn w' h1 h2)
 ·simp[execOp,ho,hm,hx,hy,hr,Result.andThen]
  exact hK' _ _ (hn w' h1 h2)
theorem ZBW {t:TypeId} {ops:Array Oper} {rest:List Oper} {o:Oper} {a:Act} {Q:Exit→Act→World→Prop} (hgd:o.guard=none) (ho:o.op=.makeMap t none)
  (hn:wpList P ops Q rest (a.put o.dst (.map (some w.heap.size))) (w.alloc (.map #[] 0))) : wpList P ops Q (o :: rest) a w:=by
 refine wpList_plain hgd fun K' hK'=>?_
 have hr:=run_makeMap (P:=P) t w
 unfold Oper.wp
 simp[execOp,ho,hr,Result.andThen]
 exact hK' _ _ hn
theorem Zo {ops:Array Oper} {rest:List Oper} {o:Oper} {a:Act} {Q:Exit→Act→World→Prop} {t:TypeId} {x y:Operand} {b:Bool} (_ho:o.op=.lookup t x y b) (h:Stop (wpList P ops Q (o :: rest) a w)) : wpList P ops Q (o :: rest) a w:=h.out
theorem Zn {ops:Array Oper} {rest:List Oper} {o:Oper} {a:Act} {Q:Exit→Act→World→Prop} {t:TypeId} {x y z:Operand} (_ho:o.op=.mapUpdate t x y z) (h:Stop (wpList P ops Q (o :: rest) a w)) : wpList P ops Q (o :: rest) a w:=h.out
theorem ZE1 {ops:Array Oper} {rest:List Oper} {o:Oper} {a:Act} {Q:Exit→Act→World→Prop} {t:TypeId} (_ho:o.op=.makeMap t none) (h:Stop (wpList P ops Q (o :: rest) a w)) : wpList P ops Q (o :: rest) a w:=h.out
theorem ZIS {kt:TypeId} {q:IntKind} (h:P.underlying kt=some (.int q)) (b:Bool) (n:Nat) (k:Int) (w:World) : (Instr.checkKey b (n+1) kt (.int q k)).run P w=.ok () w:=by
 simp[Instr.checkKey,Sem.run_bind,run_underlying h]
theorem ZIR {kt:TypeId} (h:P.underlying kt=some .string) (b:Bool) (n:Nat) (s:ByteArray) (w:World) : (Instr.checkKey b (n+1) kt (.string s)).run P w=.ok () w:=by
 simp[Instr.checkKey,Sem.run_bind,run_underlying h]
def decInt (v:Value) : Option Int:=match v with | .int _ n=>some n | _=>none
theorem ZDa (q:IntKind) (k:Int) : ∀ (es:List MapEntry) (i:Nat),(∀ e∈es,∃ k',e.key=.int q k')→Instr.findNow (.int q) (.int q k) es i=some (seek decInt k es i)
 | [],_,_=>rfl
 | e :: es,i,h=>by
  obtain⟨k',hk⟩:=h e (by simp)
  have ih:=ZDa q k es (i+1) (fun e he=>h e (by simp[he]))
  unfold Instr.findNow seek
  rw[hk]
  by_cases e1:k=k'
  ·subst e1;simp[Instr.sameNow,decInt]
  ·have e2:¬ (k'=k):=fun h=>e1 h.symm
   have e3:(k == k')=false:=by simpa using e1
   simp[Instr.sameNow,decInt,e2,e3,ih]
theorem ZJh {kt:TypeId} {q:IntKind} (h:P.underlying kt=some (.int q)) : KeyT P kt (fun n:Int=>Value.int q n) decInt where
 dk:=fun _=>rfl
 find:=fun es k w hk=>by
  simp[Instr.findKey,Sem.run_bind,run_underlying h,ZDa q k es 0 hk]
 check:=fun b k w=>ZIS h b 9999 k w
 same:=fun k=>by simp[Instr.sameBits]
def decStr (v:Value) : Option (List UInt8):=match v with | .string s=>some s.data.toList | _=>none
theorem ZDZ (k:List UInt8) : ∀ (es:List MapEntry) (i:Nat),(∀ e∈es,∃ k':List UInt8,e.key=.string ⟨k'.toArray⟩)→Instr.findNow .string (.string ⟨k.toArray⟩) es i=some (seek decStr k es i)
 | [],_,_=>rfl
 | e :: es,i,h=>by
  obtain⟨k',hk⟩:=h e (by simp)
  have ih:=ZDZ k es (i+1) (fun e he=>h e (by simp[he]))
  unfold Instr.findNow seek
  rw[hk]
  by_cases e1:k=k'
  ·subst e1
   have e3:((⟨k.toArray⟩ : ByteArray) == ⟨k.toArray⟩)=true:=(MapKept.bytes_beq _ _).2 rfl
   simp[Instr.sameNow,decStr,e3]
  ·have e2:¬ (k'=k):=fun h=>e1 h.symm
   have e3:((⟨k.toArray⟩ : ByteArray) == ⟨k'.toArray⟩)=false:=by
    rw[← Bool.not_eq_true,MapKept.bytes_beq]
    intro h;injection h with h;exact e1 (by simpa using h)
   simp[Instr.sameNow,decStr,e2,e3,ih]
theorem ZJf {kt:TypeId} (h:P.underlying kt=some .string) : KeyT P kt (fun n:List UInt8=>Value.string ⟨n.toArray⟩) decStr where
 dk:=fun _=>by simp[decStr]
 find:=fun es k w hk=>by
  simp[Instr.findKey,Sem.run_bind,run_underlying h,ZDZ k es 0 hk]
 check:=fun b k w=>ZIR h b 9999 _ w
 same:=fun k=>(MapKept.bytes_beq _ _).2 rfl
end
def Cells {α:Type} (RV:CM→List Value→α→Prop) (m:CM) (b o:Nat) (x:α) : Prop:=∃ cs,RV m cs x∧∀ j v,cs[j]? = some v→m b (o+j)=some v
class MonoV {α:Type} (RV:CM→List Value→α→Prop) : Prop where
 mono:∀ {m m':CM} {cs:List Value} {x:α},m.le m'→RV m cs x→RV m' cs x
instance {α:Type} (RV:CM→List Value→α→Prop) [h:MonoV RV] : Mono (Cells RV):=⟨fun hm ⟨cs,h1,h2⟩=>⟨cs,h.mono hm h1,fun j v hv=>hm _ _ _ (h2 j v hv)⟩⟩
theorem Sl.imp {α β:Type} {R:CM→Nat→Nat→α→Prop} {R':CM→Nat→Nat→β→Prop} {size:Nat} {m:CM} {v:Value} {xs:List α} {f:α→β} (h:Sl R size m v xs) (hR:∀ m b o x,R m b o x→R' m b o (f x)) : Sl R' size m v (xs.map f):=by
 obtain⟨A,c,rfl,h1,h2,h3⟩:=h
 refine⟨A,c,by simp,by simpa using h1,h2,?_⟩
 rcases h3 with h3 | ⟨b,o,rfl,h3⟩
 ·subst h3;exact .inl rfl
 ·refine .inr ⟨b,o,rfl,fun i x hx=>?_⟩
  rw[List.getElem?_map] at hx
  cases hy:xs[i]? with
  | none=>rw[hy] at hx;cases hx
  | some y=>rw[hy] at hx;injection hx with hx;subst hx;exact hR _ _ _ _ (h3 i y hy)
theorem Sl.imp' {α:Type} {R R':CM→Nat→Nat→α→Prop} {size:Nat} {m:CM} {v:Value} {xs:List α} (h:Sl R size m v xs) (hR:∀ m b o x,R m b o x→R' m b o x) : Sl R' size m v xs:=by
 have:=Sl.imp (f:=id) h hR
 simpa using this
structure Acc {α:Type} (RV:CM→List Value→α→Prop) (size:Nat) (e:TypeId) (base:Nat) (S:Nat→Prop) (v:Value) (xs:List α) (wr:World) : Prop where
 ex:∃ rows:List (List Value),wr.ownsRow base e size v xs.length rows.flatten∧rows.length=xs.length∧(∀ r∈rows,r.length=size) ∧
  (∀ (i:Nat) r x,rows[i]? = some r→xs[i]? = some x→RV (on wr S) r x)
 sep:∀ b,S b→base≤b∧b < wr.heap.size∧some b≠v.ownBlock
section
variable {α:Type} {RV:CM→List Value→α→Prop} {size:Nat} {e:TypeId} {base:Nat} {S:Nat→Prop} {v:Value} {xs:List α} {wr wx:World}
theorem Acc.own (h:Acc RV size e base S v xs wr) : ∃ ys,wr.ownsRow base e size v xs.length ys:=by obtain⟨r,h1,_⟩:=h.ex;exact⟨_,h1⟩
theorem Acc.form (h:Acc RV size e base S v xs wr) : ∃ A c,v=.slice A xs.length c∧xs.length≤c:=by obtain⟨ys,h1⟩:=h.own;exact ZE h1
theorem Acc.lt (h:Acc RV size e base S v xs wr) : ∀ k,v.ownBlock=some k→base≤k∧k < wr.heap.size:=by obtain⟨ys,h1⟩:=h.own;exact h1.lt
theorem Acc.blk (h:Acc RV size e base S v xs wr) {g:Nat} {t:TypeId} {cs:List Value} (hb:Blk wr g t cs) (hne:e≠t) : some g≠v.ownBlock:=by obtain⟨ys,h1⟩:=h.own;exact ZQ h1 hb hne
theorem Acc.nil (RV:CM→List Value→α→Prop) (size:Nat) (e:TypeId) (base:Nat) (wr:World) : Acc RV size e base (fun _=>False) (.slice none 0 0) [] wr :=
 ⟨⟨[],World.ownsRow_nil _ _ _ _,rfl,fun _ h=>(by cases h),fun _ _ _ h=>(by cases h)⟩,fun _ h=>h.elim⟩
theorem Acc.grown [hM:MonoV RV] (h:Acc RV size e base S v xs wr) {row:Option Nat} (hg:wr.grownBy wx row) (hv:v.ownBlock=none∨v.ownBlock≠row) (hS:∀ b,S b→some b≠row) : Acc RV size e base S v xs wx:=by
 obtain⟨rows,h1,h2,h3,h4⟩:=h.ex
 refine⟨⟨rows,h1.kept hg hv,h2,h3,fun i r x hr hx=>hM.mono (Zf (fun b hb hlt=>hg.block b hlt (hS b hb)) (fun _ h=>h)) (h4 i r x hr hx)⟩,fun b hb=>?_⟩
 have:=h.sep b hb
 exact⟨this.1,Nat.lt_of_lt_of_le this.2.1 hg.size,this.2.2⟩
theorem Acc.keep [hM:MonoV RV] (h:Acc RV size e base S v xs wr) (hb:Below wr.heap.size wr wx) : Acc RV size e base S v xs wx :=
 h.grown (row:=none) ⟨hb.os,hb.tape,hb.output,hb.size,fun k hk _=>hb.block k hk⟩ (by cases hv:v.ownBlock with | none=>exact .inl rfl | some x=>exact .inr (by simp)) (fun _ _=>by simp)
theorem Acc.alloc [hM:MonoV RV] (h:Acc RV size e base S v xs wr) (o:Obj) : Acc RV size e base S v xs (wr.alloc o):=h.keep (ZB _ _)
theorem Acc.setCell [hM:MonoV RV] (h:Acc RV size e base S v xs wr) {p:Addr} (hv:v.ownBlock≠some p.block) (hS:¬ S p.block) (u:Value) : Acc RV size e base S v xs (wr.setCell p u):=by
 refine h.grown (row:=some p.block) ⟨rfl,rfl,rfl,by simp[World.setCell],fun k hk hne=>Below.heap_setCell _ _ _ _ (fun e=>hne (by rw[e]))⟩ (.inr hv) (fun b hb e=>?_)
 injection e with e
 subst e
 exact hS hb
theorem Acc.rows (h:Acc RV size e base S v xs wr) : ∃ rows:List (List Value),wr.ownsRow base e size v xs.length rows.flatten∧rows.length=xs.length∧(∀ r∈rows,r.length=size) ∧
  (∀ (i:Nat) r x,rows[i]? = some r→xs[i]? = some x→RV (on wr S) r x):=h.ex
theorem Acc.push [hM:MonoV RV] (h:Acc RV size e base S v xs wr) {rows:List (List Value)} (hl:rows.length=xs.length) (hr:∀ r∈rows,r.length=size)
  (hx:∀ (i:Nat) r x,rows[i]? = some r→xs[i]? = some x→RV (on wr S) r x) {r:List Value} (hrl:r.length=size) {x:α} {v':Value} (ho:wx.ownsRow base e size v' (xs.length+1) (rows.flatten ++ r)) (hg:wr.grownBy wx v.ownBlock) (hob:v'.ownBlock=v.ownBlock∨v'.ownBlock=some wr.heap.size)
  {S':Nat→Prop} (hS:∀ b,S b→S' b) (hS':∀ b,S' b→base≤b∧b < wr.heap.size∧some b≠v.ownBlock) (hnew:RV (on wx S') r x) : Acc RV size e base S' v' (xs ++ [x]) wx:=by
 refine⟨⟨rows ++ [r],by simpa using ho,by simp[hl],fun q hq=>?_,fun i q y hq hy=>?_⟩,fun b hb=>?_⟩
 ·rcases List.mem_append.1 hq with k | k
  ·exact hr q k
  ·rw[List.mem_singleton] at k;subst k;exact hrl
 ·rw[List.getElem?_append] at hq hy
  rw[hl] at hq
  by_cases hi:i < xs.length
  ·rw[if_pos hi] at hq hy
   exact hM.mono (Zf (fun b hb hlt=>hg.block b hlt (h.sep b hb).2.2) hS) (hx i q y hq hy)
  ·rw[if_neg hi] at hq hy
   have hi0:i - xs.length=0:=by
    have:=(List.getElem?_eq_some_iff.1 hq).1
    simp at this;omega
   rw[hi0] at hq hy
   simp at hq hy
   subst hq hy
   exact hnew
 ·have h1:=hS' b hb
  refine⟨h1.1,Nat.lt_of_lt_of_le h1.2.1 hg.size,?_⟩
  rcases hob with k | k
  ·rw[k];exact h1.2.2
  ·rw[k];intro e2;injection e2 with e2;omega
theorem ZCU:∀ (rows:List (List Value)) (size i:Nat) (r:List Value),(∀ r∈rows,r.length=size)→rows[i]? = some r→∀ j u,r[j]? = some u→rows.flatten[i * size+j]? = some u
 | [],_,_,_,_,h,_,_,_=>by simp at h
 | q :: rows,size,0,r,hl,h,j,u,hu=>by
  simp at h;subst h
  have hj:=(List.getElem?_eq_some_iff.1 hu).1
  rw[List.flatten_cons,List.getElem?_append,if_pos (by omega),Nat.zero_mul,Nat.zero_add];exact hu
 | q :: rows,size,i+1,r,hl,h,j,u,hu=>by
  have hq:=hl q (by simp)
  rw[List.flatten_cons,List.getElem?_append,if_neg (by rw[Nat.succ_mul];omega),hq]
  have e1:(i+1) * size+j - size=i * size+j:=by rw[Nat.succ_mul];omega
  rw[e1]
  exact ZCU rows size i r (fun r hr=>hl r (by simp[hr])) (by simpa using h) j u hu
theorem Acc.done [hM:MonoV RV] (h:Acc RV size e base S v xs wr) {lo hi:Nat} (hlo:lo≤base) (hhi:wr.heap.size≤hi) : Sl (Cells RV) size (part wr lo hi) v xs:=by
 obtain⟨rows,h1,h2,h3,h4⟩:=h.ex
 rcases h1.2 with⟨rfl,h0⟩ | ⟨g,cap,cur,rfl,hb,hh,hnc,hcm,_⟩
 ·exact⟨none,0,by rw[h0],by omega,⟨by simp[maxLen],fun _=>rfl⟩,.inl (List.eq_nil_of_length_eq_zero h0)⟩
 ·refine⟨_,cap,rfl,hnc,⟨hcm,fun h=>by cases h⟩,.inr ⟨g,0,rfl,fun i x hx=>?_⟩⟩
  have hi':i < rows.length:=by rw[h2];exact(List.getElem?_eq_some_iff.1 hx).1
  have hr:rows[i]? = some rows[i]:=List.getElem?_eq_getElem hi'
  have hrl:=h3 _ (List.mem_of_getElem? hr)
  refine⟨rows[i],hM.mono (ZHk wr fun b hb=>?_) (h4 i _ x hr hx),fun j u hu=>?_⟩
  ·have:=h.sep b hb;omega
  ·have hg:=lt_of_block hh
   have hj:=(List.getElem?_eq_some_iff.1 hu).1
   unfold part
   rw[if_pos ⟨by omega,by omega⟩]
   have hle:i * size+j < xs.length * size:=by
    have:(i+1) * size≤xs.length * size:=Nat.mul_le_mul_right _ (by omega)
    rw[Nat.succ_mul] at this
    omega
   rw[Nat.zero_add,h1.cellAt _ hle]
   exact ZCU rows size i _ h3 hr j u hu
end
theorem ZF (w:World) (n:Nat) : Below w.heap.size w (w.drewN n):=⟨rfl,rfl,rfl,Nat.le_refl _,fun _ _=>rfl⟩
theorem ZDN {w:World} {b o:Nat} {n:Node} (h:∀ j v,n.cells[j]? = some v→w.cell? ⟨b,o+j,none⟩=some v) :
  w.cell? ⟨b,o,none⟩=some (.int .u8 n.kind)∧w.cell? ⟨b,o+1,none⟩=some (.int .u8 n.op)∧w.cell? ⟨b,o+2,none⟩=some (.int .i64 n.slot)∧w.cell? ⟨b,o+3,none⟩=some (.int .i64 n.thing)∧w.cell? ⟨b,o+4,none⟩=some (.bool n.a.isSlot) ∧
  w.cell? ⟨b,o+5,none⟩=some (.int .i64 n.a.slot)∧w.cell? ⟨b,o+6,none⟩=some (.int .i64 n.a.word)∧w.cell? ⟨b,o+7,none⟩=some (.bool n.b.isSlot)∧w.cell? ⟨b,o+8,none⟩=some (.int .i64 n.b.slot)∧w.cell? ⟨b,o+9,none⟩=some (.int .i64 n.b.word) ∧
  w.cell? ⟨b,o+10,none⟩=some (.int .i64 n.next)∧w.cell? ⟨b,o+11,none⟩=some (.int .i64 n.els)∧w.cell? ⟨b,o+12,none⟩=some (.int .i64 n.origin) :=
 ⟨h 0 _ rfl,h 1 _ rfl,h 2 _ rfl,h 3 _ rfl,h 4 _ rfl,h 5 _ rfl,h 6 _ rfl,h 7 _ rfl,h 8 _ rfl,h 9 _ rfl,h 10 _ rfl,h 11 _ rfl,h 12 _ rfl⟩
theorem ZBJ {α:Type} {f:α→List Value} {m:CM} {b o:Nat} {x:α} (h:Cells (fun _ cs x=>cs=f x) m b o x) : ∀ j v,(f x)[j]? = some v→m b (o+j)=some v:=by
 obtain⟨cs,rfl,h⟩:=h
 exact h
instance {α:Type} (f:α→List Value) : MonoV (fun (_:CM) cs (x:α)=>cs=f x):=⟨fun _ h=>h⟩
def InnerV {α:Type} (R:CM→Nat→Nat→α→Prop) (size:Nat) (m:CM) (cs:List Value) (x:List α) : Prop:=∃ v,cs=[v]∧Sl R size m v x
instance {α:Type} (R:CM→Nat→Nat→α→Prop) [Mono R] (size:Nat) : MonoV (InnerV R size):=⟨fun hm ⟨v,h1,h2⟩=>⟨v,h1,h2.mono hm⟩⟩
end Go.Proofs.YtffgnjgphkdodaaDoor
