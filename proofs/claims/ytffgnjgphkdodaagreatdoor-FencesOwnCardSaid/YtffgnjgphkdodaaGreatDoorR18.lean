import Derived.Test.YtffgnjgphkdodaaGreatDoorR1
namespace Go.Proofs.YtffgnjgphkdodaaGreatDoor
open Go Go.RowKit
def Shape (w w':World) : Prop:=∀ (g:Nat) (cur:Array Value) (t:TypeId),w.heap[g]? = some (.cells cur t (0,0))→∃ cur':Array Value,w'.heap[g]? = some (.cells cur' t (0,0))∧cur'.size=cur.size
theorem Shape.refl (w:World) : Shape w w:=fun _ cur _ h=>⟨cur,h,rfl⟩
theorem Shape.trans {a b c:World} (h:Shape a b) (k:Shape b c) : Shape a c:=fun g cur t hg=>by
 obtain⟨c1,h1,e1⟩:=h g cur t hg
 obtain⟨c2,h2,e2⟩:=k g c1 t h1
 exact⟨c2,h2,e2.trans e1⟩
theorem Shape.alloc (w:World) (o:Obj) : Shape w (w.alloc o):=fun _ cur _ hg=>⟨cur,(heap_alloc_old w o (lt_of_block hg)).trans hg,rfl⟩
theorem Shape.below {w w':World} (h:Below w.heap.size w w') : Shape w w':=fun g cur _ hg=>⟨cur,(h.block g (lt_of_block hg)).trans hg,rfl⟩
theorem Shape.setCell (w:World) (g i:Nat) (v:Value) : Shape w (w.setCell ⟨g,i,none⟩ v):=fun k cur t hk=>by
 by_cases e:k=g
 ·subst e
  exact⟨_,heap_setCell_same w k i cur t v hk,by simp⟩
 ·exact⟨cur,(heap_setCell_other w ⟨g,i,none⟩ k v e).trans hk,rfl⟩
def OkRow (w:World) (base:Nat) (e:TypeId) (size:Nat) (v:Value) (n:Nat) : Prop:=∃ ys,w.ownsRow base e size v n ys
theorem OkRow.shape {w w':World} {base:Nat} {e:TypeId} {size:Nat} {v:Value} {n:Nat} (h:OkRow w base e size v n) (hs:Shape w w') : OkRow w' base e size v n:=by
 obtain⟨ys,h1,h2⟩:=h
 rcases h2 with⟨rfl,rfl⟩ | ⟨g,cap,cur,rfl,hb,hh,hn,hm,hc,ht⟩
 ·exact⟨[],by simp,.inl ⟨rfl,rfl⟩⟩
 ·obtain⟨cur',k1,k2⟩:=hs g cur e hh
  refine⟨cur'.toList.take (n * size),?_,.inr ⟨g,cap,cur',rfl,hb,k1,hn,hm,by omega,rfl⟩⟩
  have:n * size≤cap * size:=Nat.mul_le_mul_right _ hn
  simp;omega
theorem OkRow.low {w:World} {base base':Nat} {e:TypeId} {size:Nat} {v:Value} {n:Nat} (h:OkRow w base e size v n) (hb:base'≤base) : OkRow w base' e size v n:=by
 obtain⟨ys,h1,h2⟩:=h
 refine⟨ys,h1,?_⟩
 rcases h2 with k | ⟨g,cap,cur,k1,k2,k3⟩
 ·exact .inl k
 ·exact .inr ⟨g,cap,cur,k1,by omega,k3⟩
theorem OkRow.at_ {w:World} {base:Nat} {e:TypeId} {v:Value} {n:Nat} (h:OkRow w base e 1 v n) {i:Nat} (hi:i < n) : ∃ g c x,v=.slice (some ⟨g,0,none⟩) n c∧base≤g∧w.cell? ⟨g,i,none⟩=some x∧w.frozen? ⟨g,i,none⟩=false∧∃ cur,w.heap[g]? = some (.cells cur e (0,0)):=by
 obtain⟨ys,h1,h2⟩:=h
 rcases id h2 with⟨rfl,rfl⟩ | ⟨g,cap,cur,rfl,hb,hh,hn,hm,hc,ht⟩
 ·omega
 ·have hlt:i < cur.size:=by omega
  refine⟨g,cap,cur[i],rfl,hb,?_,frozen_of_row w g i _ _ hh,cur,hh⟩
  rw[cell_of_row w g i cur e (0,0) hh]
  exact Array.getElem?_eq_getElem hlt
theorem ZBO {w:World} {g g':Nat} {c c':Array Value} {t t':TypeId} (h:w.heap[g]? = some (.cells c t (0,0))) (h':w.heap[g']? = some (.cells c' t' (0,0))) (hne:t≠t') : g≠g':=by
 intro e
 subst e
 rw[h] at h'
 injection h' with h'
 injection h' with _ h' _
 exact hne h'
theorem ZIr {w:World} {b b':Nat} {t t':TypeId} {s s' n n':Nat} {v v':Value} {xs xs':List Value} (h:w.ownsRow b t s v n xs) (h':w.ownsRow b' t' s' v' n' xs') (hne:t≠t') : v.ownBlock=none∨v.ownBlock≠v'.ownBlock:=by
 rcases h.2 with⟨rfl,_⟩ | ⟨g,cap,cur,rfl,_,hh,_⟩
 ·exact .inl rfl
 ·refine .inr ?_
  rcases h'.2 with⟨rfl,_⟩ | ⟨g',cap',cur',rfl,_,hh',_⟩
  ·simp[Value.ownBlock]
  ·simp only[Value.ownBlock]
   intro e
   injection e with e
   exact ZBO hh hh' hne e
def OkRows (w:World) (base:Nat) (t e:TypeId) (v:Value) (n K:Nat) : Prop:=∃ ys,w.ownsRow base t 1 v n ys∧∀ r∈ys,∃ k,k≤K∧OkRow w base e 1 r k
section
variable {w w':World} {base:Nat} {t e:TypeId} {v:Value} {n K:Nat}
theorem OkRows.nil (w:World) (base:Nat) (t e:TypeId) (K:Nat) : OkRows w base t e (.slice none 0 0) 0 K:=⟨[],World.ownsRow_nil _ _ _ _,fun _ h=>by cases h⟩
theorem OkRows.row (h:OkRows w base t e v n K) : OkRow w base t 1 v n:=by obtain⟨ys,h1,_⟩:=h;exact⟨ys,h1⟩
theorem OkRows.form (h:OkRows w base t e v n K) : ∃ A c,v=.slice A n c:=by obtain⟨ys,h1,_⟩:=h;obtain⟨A,c,h2,_⟩:=ZF h1;exact⟨A,c,h2⟩
theorem OkRows.lt (h:OkRows w base t e v n K) : ∀ k,v.ownBlock=some k→base≤k∧k < w.heap.size:=by obtain⟨ys,h1,_⟩:=h;exact h1.lt
theorem OkRows.mono {K':Nat} (h:OkRows w base t e v n K) (hK:K≤K') : OkRows w base t e v n K':=by
 obtain⟨ys,h1,h2⟩:=h
 exact⟨ys,h1,fun r hr=>by obtain⟨k,h3,h4⟩:=h2 r hr;exact⟨k,by omega,h4⟩⟩
theorem OkRows.low {base':Nat} (h:OkRows w base t e v n K) (hb:base'≤base) : OkRows w base' t e v n K:=by
 obtain⟨ys,h1,h2⟩:=h
 refine⟨ys,⟨h1.1,?_⟩,fun r hr=>by obtain⟨k,h3,h4⟩:=h2 r hr;exact⟨k,h3,h4.low hb⟩⟩
 rcases h1.2 with k | ⟨g,cap,cur,k1,k2,k3⟩
 ·exact .inl k
 ·exact .inr ⟨g,cap,cur,k1,by omega,k3⟩
theorem OkRows.far (h:OkRows w base t e v n K) (hs:Shape w w') (hc:∀ g,v.ownBlock=some g→w'.heap[g]? = w.heap[g]?) : OkRows w' base t e v n K:=by
 obtain⟨ys,h1,h2⟩:=h
 refine⟨ys,⟨h1.1,?_⟩,fun r hr=>by obtain⟨k,h3,h4⟩:=h2 r hr;exact⟨k,h3,h4.shape hs⟩⟩
 rcases h1.2 with k | ⟨g,cap,cur,rfl,k2,k3,k4⟩
 ·exact .inl k
 ·exact .inr ⟨g,cap,cur,rfl,k2,(hc g rfl).trans k3,k4⟩
theorem OkRows.below (h:OkRows w base t e v n K) (hb:Below w.heap.size w w') : OkRows w' base t e v n K :=
 h.far (Shape.below hb) fun g hg=>hb.block g (h.lt g hg).2
theorem OkRows.at_ (h:OkRows w base t e v n K) {i:Nat} (hi:i < n) : ∃ g c r k,v=.slice (some ⟨g,0,none⟩) n c∧base≤g∧w.cell? ⟨g,i,none⟩=some r∧w.frozen? ⟨g,i,none⟩=false∧(∃ cur,w.heap[g]? = some (.cells cur t (0,0)))∧k≤K∧OkRow w base e 1 r k:=by
 obtain⟨ys,h1,h2⟩:=h
 obtain⟨g,c,x,rfl,hb,hx,hf,cur,hh⟩:=OkRow.at_ ⟨ys,h1⟩ hi
 have hl:i < ys.length:=by have:=h1.1;omega
 have hy:ys[i]? = some ys[i]:=List.getElem?_eq_getElem hl
 have hcell:=h1.cells (g:=g) rfl i _ hy
 rw[ZAt,Nat.zero_add,hx] at hcell
 injection hcell with hcell
 obtain⟨k,h3,h4⟩:=h2 _ (List.mem_of_getElem? hy)
 exact⟨g,c,x,k,rfl,hb,hx,hf,⟨cur,hh⟩,h3,by rw[hcell];exact h4⟩
theorem OkRows.put {A:Option Addr} {g c i k:Nat} {r:Value} (h:OkRows w base t e (.slice A n c) n K) (hA:A=some ⟨g,0,none⟩) (_hi:i < n) (hr:OkRow w base e 1 r k) (hk:k≤K) : OkRows (w.setCell ⟨g,i,none⟩ r) base t e (.slice A n c) n K:=by
 subst hA
 have hsh:=Shape.setCell w g i r
 obtain⟨ys,h1,h2⟩:=h
 rcases id h1.2 with⟨h0,_⟩ | ⟨g',cap,cur,h0,hb,hh,hn,hm,hcs,ht⟩
 ·cases h0
 ·injection h0 with e1 e2 e3
  injection e1 with e1
  injection e1 with e1
  subst e1 e3
  refine⟨ys.set i r,⟨by simp[h1.1],.inr ⟨g,c,_,rfl,hb,heap_setCell_same w g i cur t r hh,hn,hm,by simp[hcs],?_⟩⟩,fun x hx=>?_⟩
  ·rw[Array.toList_setIfInBounds,List.take_set,ht]
  ·rcases List.mem_or_eq_of_mem_set hx with hx | hx
   ·obtain⟨k',h3,h4⟩:=h2 x hx
    exact⟨k',h3,h4.shape hsh⟩
   ·subst hx
    exact⟨k,hk,hr.shape hsh⟩
theorem OkRows.push {w2:World} {r v':Value} {k:Nat} {ys:List Value} (_h:w.ownsRow base t 1 v n ys) (h2:∀ r∈ys,∃ k,k≤K∧OkRow w base e 1 r k) (hte:t≠e) (hr:OkRow w base e 1 r k) (hk:k≤K) (ho:w2.ownsRow base t 1 v' (n+1) (ys ++ [r])) (hg:w.grownBy w2 v.ownBlock) : OkRows w2 base t e v' (n+1) K:=by
 have kp:∀ r k,OkRow w base e 1 r k→OkRow w2 base e 1 r k:=fun r k ⟨zs,hz⟩=>⟨zs,hz.kept hg (ZIr hz _h (fun e=>hte e.symm))⟩
 refine⟨_,ho,fun x hx=>?_⟩
 rcases List.mem_append.1 hx with hx | hx
 ·obtain⟨k',h3,h4⟩:=h2 x hx
  exact⟨k',h3,kp _ _ h4⟩
 ·rw[List.mem_singleton] at hx
  subst hx
  exact⟨k,hk,kp _ _ hr⟩
end
section
variable {P:Program}
theorem ZE2 {t e size bytes:Nat} {z:Value} (T:SlT P t e size bytes z) (w:World) (ty:Nat) (base:Nat) (v:Value) (n:Nat) (h:OkRow w base e size v n) (g off m c:Nat) (news:List Value) (hl:news.length=m * size) (hnews:∀ j u,news[j]? = some u→w.cell? ⟨g,off+j,none⟩=some u) (h1:∀ u∈news,u.oneCell'=true)
  (hn:n+m < 4294967296) (hb:bytes≤1024) (hbase:base≤w.heap.size) :
  ∃ v' w',(Builtin.append_ #[t,t] ty #[v,.slice (some ⟨g,off,none⟩) m c]).run P w=.ok v' w'∧OkRow w' base e size v' (n+m)∧w.grownBy w' v.ownBlock∧Shape w w':=by
 obtain⟨i,hi,hz,hsz,hby⟩:=T.info
 obtain⟨xs,hown⟩:=h
 have hbytes:(n+m) * bytes≤140737488355328:=by
  have:(n+m) * bytes≤4294967296 * 1024:=Nat.mul_le_mul (by omega) hb
  omega
 have hnews':∀ j u,news[j]? = some u→w.cell? ((⟨g,off,none⟩ : Addr).add j)=some u:=fun j u hj=>by rw[ZAt];exact hnews j u hj
 obtain⟨v',w',hr,h2,h3,_,_⟩:=run_append_own_at (P:=P) w base t ty e i z size bytes T.ht hi hz hsz hby T.hzs T.hsz v n xs hown ⟨g,off,none⟩ m c news hl hnews' h1 (by simp only[maxLen];omega) hbytes hbase
 refine⟨v',w',hr,⟨_,h2⟩,h3,?_⟩
 intro k cur t' hk
 by_cases hne:some k=v.ownBlock
 ·rcases id hown.2 with⟨rfl,_⟩ | ⟨g',cap,cur',rfl,hbg,hg,hnc,hcm,hcs,htake⟩
  ·cases hne
  ·injection hne with hne
   subst hne
   rw[hg] at hk
   injection hk with hk
   injection hk with hk1 hk2 _
   subst hk1 hk2
   by_cases hroom:n+m≤cap
   ·have hfit:n * i.size+news.length≤cur'.size:=by rw[hsz,hl,hcs,← Nat.add_mul];exact Nat.mul_le_mul_right _ hroom
    have hr2:=run_append_room (P:=P) w t ty e i T.ht hi k n cap cur' hg ⟨g,off,none⟩ m c news (by rw[hsz];exact hl) hnews' h1 hroom hfit
    rw[hr] at hr2
    injection hr2 with _ hr2
    subst hr2
    refine⟨_,setRow_heap w k cur' _ e _ hg,?_⟩
    simp only[List.size_toArray,List.length_append,List.length_take,List.length_drop,Array.length_toList]
    omega
   ·have holds:∀ j u,xs[j]? = some u→w.cell? ((⟨k,0,none⟩ : Addr).add j)=some u:=hown.cells (g:=k) rfl
    have hfits:=growslice_fits (old:=cap) (need:=n+m) (by omega) hbytes
    have hr2:=run_append_grow (P:=P) w t ty e i z T.ht hi hz ⟨k,0,none⟩ n cap xs (by rw[hsz];exact hown.1) holds ⟨g,off,none⟩ m c news (by rw[hsz];exact hl) hnews' (by omega) (by omega) (by rw[hby];exact hfits)
    rw[hr] at hr2
    injection hr2 with _ hr2
    subst hr2
    exact⟨cur',(heap_alloc_old w.drew _ (lt_of_block hg)).trans hg,rfl⟩
 ·exact⟨cur,(h3.block k (lt_of_block hk) hne).trans hk,rfl⟩
theorem app_sp {t e size bytes:Nat} {z:Value} (T:SlT P t e size bytes z) {ops:Array Oper} {rest:List Oper} {o:Oper} {a:Act} {w:World} {Q:Exit→Act→World→Prop} (hgd:o.guard=none) (s x:Operand)
  (ho:o.op=.call { callee:=.builtin .append,args:=#[s,x],argTypes:=#[t,t] })
  (base:Nat) (v:Value) (n:Nat) (hs:a.eval s=v) (h:OkRow w base e size v n)
  (g off m c:Nat) (news:List Value) (hx:a.eval x=.slice (some ⟨g,off,none⟩) m c) (hl:news.length=m * size) (hnews:∀ j u,news[j]? = some u→w.cell? ⟨g,off+j,none⟩=some u) (h1:∀ u∈news,u.oneCell'=true)
  (hn:n+m < 4294967296) (hb:bytes≤1024) (hbase:base≤w.heap.size)
  (hK:∀ v' w',OkRow w' base e size v' (n+m)→w.grownBy w' v.ownBlock→Shape w w'→wpList P ops Q rest (a.put o.dst v') w') : wpList P ops Q (o :: rest) a w:=by
 refine wpList_plain hgd fun K hK'=>?_
 obtain⟨v',w',hrun,k1,k2,k3⟩:=ZE2 T w o.type base v n h g off m c news hl hnews h1 hn hb hbase
 unfold Oper.wp execOp
 simp only[ho,resolve,invoke,builtin,Sem.run_bind,Sem.run_pure,Result.andThen_ok,List.map_toArray,List.map_cons,List.map_nil,hs,hx,hrun]
 exact hK' _ _ (hK v' w' k1 k2 k3)
end
end Go.Proofs.YtffgnjgphkdodaaGreatDoor
