import Derived.Test.YtffgnjgphkdodaaDoorD2
import Derived.Test.YtffgnjgphkdodaaDoorD1
import Derived.Test.YtffgnjgphkdodaaDoorD8
import Derived.Test.YtffgnjgphkdodaaDoorD7
namespace Go.Proofs.YtffgnjgphkdodaaDoor
open Go Go.RowKit
def numOk (n:Int) (used:Bool) (most:Int) : Bool:=if used then decide (0≤n∧n < most) else decide (n=0)
def Val.cells (v:Val) : List Value:=[.bool v.isSlot,.int .i64 v.slot,.int .i64 v.word]
def valOk (v:Val) (used:Bool) (slots:Int) : Bool :=
 if used then (if v.isSlot then decide (0≤v.slot∧v.slot < slots∧v.word=0) else decide (v.slot=0)) else decide (v.isSlot=false∧v.slot=0∧v.word=0)
def uSlot (k:Int) : Bool:=decide (k=1∨k=2∨k=4)
def uThing (k:Int) : Bool:=decide (2≤k∧k≤6)
def uA (k:Int) : Bool:=decide (k=1∨k=3∨k=4∨k=7∨k=8)
def uNext (k:Int) : Bool:=decide (1≤k∧k≤8)
def nodeHead (n:Node) : Bool:=decide (1≤n.kind∧n.kind≤9∧0≤n.origin∧n.origin < 4096)
def nodeOk (shared locks:Nat) (slots:Int) (nodes:Nat) (n:Node) : Bool :=
 nodeHead n && (numOk n.op (decide (n.kind=1)) 19 && (numOk n.slot (uSlot n.kind) slots &&
  (numOk n.thing (uThing n.kind) (if n.kind=5∨n.kind=6 then locks else shared) && (valOk n.a (uA n.kind) slots && (valOk n.b (decide (n.kind=1) && twoB n.op) slots &&
  (numOk n.next (uNext n.kind) nodes && numOk n.els (decide (n.kind=8)) nodes))))))
def Shape (w w':World) : Prop:=∀ (g:Nat) (cur:Array Value) (t:TypeId),w.heap[g]? = some (.cells cur t (0,0))→∃ cur':Array Value,w'.heap[g]? = some (.cells cur' t (0,0))∧cur'.size=cur.size
theorem Shape.refl (w:World) : Shape w w:=fun _ cur _ h=>⟨cur,h,rfl⟩
theorem Shape.trans {a b c:World} (h:Shape a b) (k:Shape b c) : Shape a c:=fun g cur t hg=>by
 obtain⟨c1,h1,e1⟩:=h g cur t hg
 obtain⟨c2,h2,e2⟩:=k g c1 t h1
 exact⟨c2,h2,e2.trans e1⟩
theorem Shape.alloc (w:World) (o:Obj) : Shape w (w.alloc o):=fun _ cur _ hg=>⟨cur,(heap_alloc_old w o (lt_of_block hg)).trans hg,rfl⟩
theorem Shape.below {w w':World} (h:Below w.heap.size w w') : Shape w w':=fun g cur _ hg=>⟨cur,(h.block g (lt_of_block hg)).trans hg,rfl⟩
theorem Shape.setCell (w:World) (g i:Nat) (v:Value) : Shape w (w.setCell ⟨g,i,none⟩ v):=fun k cur t hk=>by
 by_cases e:k=g
 ·subst e
  exact⟨_,heap_setCell_same w k i cur t v hk,by simp⟩
 ·exact⟨cur,(heap_setCell_other w ⟨g,i,none⟩ k v e).trans hk,rfl⟩
def OkRow (w:World) (base:Nat) (e:TypeId) (size:Nat) (v:Value) (n:Nat) : Prop:=∃ ys,w.ownsRow base e size v n ys
theorem OkRow.shape {w w':World} {base:Nat} {e:TypeId} {size:Nat} {v:Value} {n:Nat} (h:OkRow w base e size v n) (hs:Shape w w') : OkRow w' base e size v n:=by
 obtain⟨ys,h1,h2⟩:=h
 rcases h2 with⟨rfl,rfl⟩ | ⟨g,cap,cur,rfl,hb,hh,hn,hm,hc,ht⟩
 ·exact⟨[],by simp,.inl ⟨rfl,rfl⟩⟩
 ·obtain⟨cur',k1,k2⟩:=hs g cur e hh
  refine⟨cur'.toList.take (n * size),?_,.inr ⟨g,cap,cur',rfl,hb,k1,hn,hm,by omega,rfl⟩⟩
  have:n * size≤cap * size:=Nat.mul_le_mul_right _ hn
  simp;omega
theorem OkRow.at_ {w:World} {base:Nat} {e:TypeId} {v:Value} {n:Nat} (h:OkRow w base e 1 v n) {i:Nat} (hi:i < n) : ∃ g c x,v=.slice (some ⟨g,0,none⟩) n c∧base≤g∧w.cell? ⟨g,i,none⟩=some x∧w.frozen? ⟨g,i,none⟩=false∧∃ cur,w.heap[g]? = some (.cells cur e (0,0)):=by
 obtain⟨ys,h1,h2⟩:=h
 rcases id h2 with⟨rfl,rfl⟩ | ⟨g,cap,cur,rfl,hb,hh,hn,hm,hc,ht⟩
 ·omega
 ·have hlt:i < cur.size:=by omega
  refine⟨g,cap,cur[i],rfl,hb,?_,frozen_of_row w g i _ _ hh,cur,hh⟩
  rw[cell_of_row w g i cur e (0,0) hh]
  exact Array.getElem?_eq_getElem hlt
theorem ZHb {w:World} {g g':Nat} {c c':Array Value} {t t':TypeId} (h:w.heap[g]? = some (.cells c t (0,0))) (h':w.heap[g']? = some (.cells c' t' (0,0))) (hne:t≠t') : g≠g':=by
 intro e
 subst e
 rw[h] at h'
 injection h' with h'
 injection h' with _ h' _
 exact hne h'
theorem ZHd {w:World} {b b':Nat} {t t':TypeId} {s s' n n':Nat} {v v':Value} {xs xs':List Value} (h:w.ownsRow b t s v n xs) (h':w.ownsRow b' t' s' v' n' xs') (hne:t≠t') : v.ownBlock=none∨v.ownBlock≠v'.ownBlock:=by
 rcases h.2 with⟨rfl,_⟩ | ⟨g,cap,cur,rfl,_,hh,_⟩
 ·exact .inl rfl
 ·refine .inr ?_
  rcases h'.2 with⟨rfl,_⟩ | ⟨g',cap',cur',rfl,_,hh',_⟩
  ·simp[Value.ownBlock]
  ·simp only[Value.ownBlock]
   intro e
   injection e with e
   exact ZHb hh hh' hne e
def OkRows (w:World) (base:Nat) (t e:TypeId) (v:Value) (n K:Nat) : Prop:=∃ ys,w.ownsRow base t 1 v n ys∧∀ r∈ys,∃ k,k≤K∧OkRow w base e 1 r k
section
variable {w w':World} {base:Nat} {t e:TypeId} {v:Value} {n K:Nat}
theorem OkRows.nil (w:World) (base:Nat) (t e:TypeId) (K:Nat) : OkRows w base t e (.slice none 0 0) 0 K:=⟨[],World.ownsRow_nil _ _ _ _,fun _ h=>by cases h⟩
theorem OkRows.row (h:OkRows w base t e v n K) : OkRow w base t 1 v n:=by obtain⟨ys,h1,_⟩:=h;exact⟨ys,h1⟩
theorem OkRows.form (h:OkRows w base t e v n K) : ∃ A c,v=.slice A n c:=by obtain⟨ys,h1,_⟩:=h;obtain⟨A,c,h2,_⟩:=ZE h1;exact⟨A,c,h2⟩
theorem OkRows.lt (h:OkRows w base t e v n K) : ∀ k,v.ownBlock=some k→base≤k∧k < w.heap.size:=by obtain⟨ys,h1,_⟩:=h;exact h1.lt
theorem OkRows.mono {K':Nat} (h:OkRows w base t e v n K) (hK:K≤K') : OkRows w base t e v n K':=by
 obtain⟨ys,h1,h2⟩:=h
 exact⟨ys,h1,fun r hr=>by obtain⟨k,h3,h4⟩:=h2 r hr;exact⟨k,by omega,h4⟩⟩
theorem OkRows.far (h:OkRows w base t e v n K) (hs:Shape w w') (hc:∀ g,v.ownBlock=some g→w'.heap[g]? = w.heap[g]?) : OkRows w' base t e v n K:=by
 obtain⟨ys,h1,h2⟩:=h
 refine⟨ys,⟨h1.1,?_⟩,fun r hr=>by obtain⟨k,h3,h4⟩:=h2 r hr;exact⟨k,h3,h4.shape hs⟩⟩
 rcases h1.2 with k | ⟨g,cap,cur,rfl,k2,k3,k4⟩
 ·exact .inl k
 ·exact .inr ⟨g,cap,cur,rfl,k2,(hc g rfl).trans k3,k4⟩
theorem OkRows.below (h:OkRows w base t e v n K) (hb:Below w.heap.size w w') : OkRows w' base t e v n K :=
 h.far (Shape.below hb) fun g hg=>hb.block g (h.lt g hg).2
theorem OkRows.at_ (h:OkRows w base t e v n K) {i:Nat} (hi:i < n) : ∃ g c r k,v=.slice (some ⟨g,0,none⟩) n c∧base≤g∧w.cell? ⟨g,i,none⟩=some r∧w.frozen? ⟨g,i,none⟩=false∧(∃ cur,w.heap[g]? = some (.cells cur t (0,0)))∧k≤K∧OkRow w base e 1 r k:=by
 obtain⟨ys,h1,h2⟩:=h
 obtain⟨g,c,x,rfl,hb,hx,hf,cur,hh⟩:=OkRow.at_ ⟨ys,h1⟩ hi
 have hl:i < ys.length:=by have:=h1.1;omega
 have hy:ys[i]? = some ys[i]:=List.getElem?_eq_getElem hl
 have hcell:=h1.cells (g:=g) rfl i _ hy
 rw[ZDn,Nat.zero_add,hx] at hcell
 injection hcell with hcell
 obtain⟨k,h3,h4⟩:=h2 _ (List.mem_of_getElem? hy)
 exact⟨g,c,x,k,rfl,hb,hx,hf,⟨cur,hh⟩,h3,by rw[hcell];exact h4⟩
theorem OkRows.put {A:Option Addr} {g c i k:Nat} {r:Value} (h:OkRows w base t e (.slice A n c) n K) (hA:A=some ⟨g,0,none⟩) (_hi:i < n) (hr:OkRow w base e 1 r k) (hk:k≤K) : OkRows (w.setCell ⟨g,i,none⟩ r) base t e (.slice A n c) n K:=by
 subst hA
 have hsh:=Shape.setCell w g i r
 obtain⟨ys,h1,h2⟩:=h
 rcases id h1.2 with⟨h0,_⟩ | ⟨g',cap,cur,h0,hb,hh,hn,hm,hcs,ht⟩
 ·cases h0
 ·injection h0 with e1 e2 e3
  injection e1 with e1
  injection e1 with e1
  subst e1 e3
  refine⟨ys.set i r,⟨by simp[h1.1],.inr ⟨g,c,_,rfl,hb,heap_setCell_same w g i cur t r hh,hn,hm,by simp[hcs],?_⟩⟩,fun x hx=>?_⟩
  ·rw[Array.toList_setIfInBounds,List.take_set,ht]
  ·rcases List.mem_or_eq_of_mem_set hx with hx | hx
   ·obtain⟨k',h3,h4⟩:=h2 x hx
    exact⟨k',h3,h4.shape hsh⟩
   ·subst hx
    exact⟨k,hk,hr.shape hsh⟩
theorem OkRows.push {w2:World} {r v':Value} {k:Nat} {ys:List Value} (_h:w.ownsRow base t 1 v n ys) (h2:∀ r∈ys,∃ k,k≤K∧OkRow w base e 1 r k) (hte:t≠e) (hr:OkRow w base e 1 r k) (hk:k≤K) (ho:w2.ownsRow base t 1 v' (n+1) (ys ++ [r])) (hg:w.grownBy w2 v.ownBlock) : OkRows w2 base t e v' (n+1) K:=by
 have kp:∀ r k,OkRow w base e 1 r k→OkRow w2 base e 1 r k:=fun r k ⟨zs,hz⟩=>⟨zs,hz.kept hg (ZHd hz _h (fun e=>hte e.symm))⟩
 refine⟨_,ho,fun x hx=>?_⟩
 rcases List.mem_append.1 hx with hx | hx
 ·obtain⟨k',h3,h4⟩:=h2 x hx
  exact⟨k',h3,kp _ _ h4⟩
 ·rw[List.mem_singleton] at hx
  subst hx
  exact⟨k,hk,kp _ _ hr⟩
end
section
variable {P:Program}
end
set_option maxHeartbeats 400000 in
theorem ZDv (g:Graph) (cs:List Value) (w:World) (hw:WholeG g) (hg:GraphV (cmap w) cs g) :
  Calls Tryd.prog 10 #[.agg cs.toArray] w fun e w'=>∃ v l,e=.returned v∧Bools (part w' w.heap.size w'.heap.size) v l∧l.length=g.nodes.length∧(∀ i,l[i]? = some true ↔ ReachC g (-1) i)∧Below w.heap.size w w':=by
 have hg':=hg
 obtain⟨nv,rfl,-⟩:=hg'
 have hld:∀ j v,([.string g.name,.int .i64 g.locals,.int .i64 g.slots,nv] : List Value)[j]? = some v→(w.alloc (.cells #[.string g.name,.int .i64 g.locals,.int .i64 g.slots,nv] 38)).cell? ⟨w.heap.size,0+j,none⟩=some v:=ZL w _ _ _ rfl
 have HLD:=Hd_ hld;clear hld
 have hbx:=Blk.new w 38 [.string g.name,.int .i64 g.locals,.int .i64 g.slots,nv]
 go_enter Tryd.func10,Tryd.ntmps10
 go_wp2_with (first
  | (refine ZC rfl 38 _ rfl w.heap.size 0 rfl _ _ (by first | exact HLD.out | exact HLD1.out) Tryd.underlying38 rfl (by kernel_rfl) ?_)
  | (go_at_call 27;refine(ZEy g [.string g.name,.int .i64 g.locals,.int .i64 g.slots,nv] _ hw (hg.mono (ZJ _ _))).mono ?_;rintro e w1 ⟨rfl,hb1⟩;have hbx1:=hbx.below hb1 hbx.lt;have HLD1:Hid (∀ j v,([.string g.name,.int .i64 g.locals,.int .i64 g.slots,nv] : List Value)[j]? = some v→w1.cell? ⟨w.heap.size,0+j,none⟩=some v):=(fun j v h=>by rw[Nat.zero_add,hbx1.cell];exact h))
  | (go_at_call 28;refine(ZEL g [.string g.name,.int .i64 g.locals,.int .i64 g.slots,nv] (-1) _ hw (hg.mono ((ZJ _ _).trans (ZA hb1)))).mono ?_;rintro e w2 ⟨v,l,rfl,h1,h2,h3,h4⟩))
 go_ret
 have hs:=hb1.size
 simp at hs
 exact⟨v,l,rfl,h1.mono (ZAL (by omega) (Nat.le_refl _)),h2,h3,(ZI _ _).trans ((hb1.mono (by simp)).trans (h4.mono (by omega)))⟩
end Go.Proofs.YtffgnjgphkdodaaDoor
