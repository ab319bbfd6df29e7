import Derived.Test.YtffgnjgphkdodaaDoorD1
import Derived.Test.YtffgnjgphkdodaaDoorD6
namespace Go.Proofs.YtffgnjgphkdodaaDoor
open Go
section
variable {α:Type}
def swL (L:List α) (i j:Nat) : List α:=match L[i]?,L[j]? with
 | some a,some b=>(L.set i b).set j a
 | _,_=>L
theorem ZJF {L:List α} {i j:Nat} {a b:α} (hi:L[i]? = some a) (hj:L[j]? = some b) : swL L i j=(L.set i b).set j a:=by unfold swL;rw[hi,hj]
theorem ZU (L:List α) (i j:Nat) : (swL L i j).length=L.length:=by
 unfold swL;split <;> simp
theorem ZBk {L:List α} {i j:Nat} (hi:i < L.length) (hj:j < L.length) (k:Nat) : (swL L i j)[k]? = if k=j then L[i]? else if k=i then L[j]? else L[k]?:=by
 rw[ZJF (List.getElem?_eq_getElem hi) (List.getElem?_eq_getElem hj),List.getElem?_set,List.getElem?_set]
 by_cases h1:k=j
 ·have h1':=h1.symm
  simp[h1,hj,List.getElem?_eq_getElem hi]
 ·have h1':¬ j=k:=fun e=>h1 e.symm
  rw[if_neg h1',if_neg h1]
  by_cases h2:k=i
  ·simp[h2,hi,List.getElem?_eq_getElem hj]
  ·have h2':¬ i=k:=fun e=>h2 e.symm
   rw[if_neg h2',if_neg h2]
theorem ZDB {L:List α} {i j:Nat} (hi:i < L.length) (hj:j < L.length) (x:α) : x∈swL L i j ↔ x∈L:=by
 rw[List.mem_iff_getElem?,List.mem_iff_getElem?]
 constructor
 ·rintro⟨k,hk⟩
  rw[ZBk hi hj] at hk
  split at hk
  ·exact⟨_,hk⟩
  ·split at hk <;> exact⟨_,hk⟩
 ·rintro⟨k,hk⟩
  by_cases h1:k=i
  ·refine⟨j,?_⟩
   rw[ZBk hi hj,if_pos rfl,← h1];exact hk
  ·by_cases h2:k=j
   ·refine⟨i,?_⟩
    rw[ZBk hi hj]
    by_cases e:i=j
    ·rw[if_pos e,e,← h2];exact hk
    ·rw[if_neg e,if_pos rfl,← h2];exact hk
   ·refine⟨k,?_⟩
    rw[ZBk hi hj,if_neg h2,if_neg h1];exact hk
end
abbrev Spot:=Nat × Nat
section
variable {α:Type} (κ:α→Nat)
def keyN (L:List α) (i:Nat) : Nat:=match L[i]? with
 | some x=>κ x
 | none=>0
variable {κ}
theorem ZEe {L:List α} {i:Nat} {x:α} (h:L[i]? = some x) : keyN κ L i=κ x:=by unfold keyN;rw[h]
theorem ZAC {L:List α} {i j:Nat} (hi:i < L.length) (hj:j < L.length) (k:Nat) : keyN κ (swL L i j) k=if k=j then keyN κ L i else if k=i then keyN κ L j else keyN κ L k:=by
 unfold keyN
 rw[ZBk hi hj]
 by_cases h1:k=j
 ·rw[if_pos h1,if_pos h1]
 ·rw[if_neg h1,if_neg h1]
  by_cases h2:k=i
  ·rw[if_pos h2,if_pos h2]
  ·rw[if_neg h2,if_neg h2]
variable (κ)
def HpN (L:List α) (n:Nat) : Prop:=∀ k,0 < k→k < n→keyN κ L ((k - 1) / 2)≤keyN κ L k
structure UpOk (L:List α) (j:Nat) : Prop where
 lt:j < L.length
 other:∀ k,0 < k→k < L.length→k≠j→keyN κ L ((k - 1) / 2)≤keyN κ L k
 grand:∀ k,0 < k→k < L.length→(k - 1) / 2=j→0 < j→keyN κ L ((j - 1) / 2)≤keyN κ L k
variable {κ}
theorem UpOk.step {L:List α} {j:Nat} (h:UpOk κ L j) (hj:0 < j) (hl:keyN κ L j < keyN κ L ((j - 1) / 2)) : UpOk κ (swL L ((j - 1) / 2) j) ((j - 1) / 2):=by
 have hlt:=h.lt
 obtain⟨i,hi⟩ : ∃ i,(j - 1) / 2=i:=⟨_,rfl⟩
 rw[hi] at hl ⊢
 have hil:i < L.length:=by omega
 refine⟨by rw[ZU];exact hil,fun k h0 hk hne=>?_,fun k h0 hk hp hi0=>?_⟩
 ·rw[ZU] at hk
  rw[ZAC hil hlt,ZAC hil hlt]
  by_cases c1:k=j
  ·subst c1
   rw[hi,if_neg (by omega),if_pos rfl,if_pos rfl];omega
  ·rw[if_neg c1 (c:=k=j),if_neg hne (c:=k=i)]
   by_cases c2:(k - 1) / 2=j
   ·rw[if_pos c2]
    have:=h.grand k h0 hk c2 hj
    rw[hi] at this;exact this
   ·rw[if_neg c2]
    have h3:=h.other k h0 hk c1
    by_cases c3:(k - 1) / 2=i
    ·rw[if_pos c3];rw[c3] at h3;omega
    ·rw[if_neg c3];exact h3
 ·rw[ZU] at hk
  rw[ZAC hil hlt,ZAC hil hlt,if_neg (by omega),if_neg (by omega)]
  have h1:=h.other i hi0 hil (by omega)
  by_cases c1:k=j
  ·rw[if_pos c1];exact h1
  ·rw[if_neg c1,if_neg (by omega)]
   have h3:=h.other k h0 hk c1
   rw[hp] at h3;omega
theorem UpOk.done {L:List α} {j:Nat} (h:UpOk κ L j) (hl:0 < j→keyN κ L ((j - 1) / 2)≤keyN κ L j) : HpN κ L L.length:=fun k h0 hk=>by
 by_cases c:k=j
 ·subst c;exact hl h0
 ·exact h.other k h0 hk c
variable (κ)
structure DnOk (L:List α) (n i:Nat) : Prop where
 le:n≤L.length
 other:∀ k,0 < k→k < n→(k - 1) / 2≠i→keyN κ L ((k - 1) / 2)≤keyN κ L k
 grand:∀ k,0 < k→k < n→(k - 1) / 2=i→0 < i→keyN κ L ((i - 1) / 2)≤keyN κ L k
variable {κ}
theorem DnOk.step {L:List α} {n i j:Nat} (h:DnOk κ L n i) (hj0:0 < j) (hj:j < n) (hp:(j - 1) / 2=i) (hl:keyN κ L j < keyN κ L i) (hm:∀ k,0 < k→k < n→(k - 1) / 2=i→keyN κ L j≤keyN κ L k) : DnOk κ (swL L i j) n j:=by
 have hle:=h.le
 have hil:i < L.length:=by omega
 have hjl:j < L.length:=by omega
 refine⟨by rw[ZU];exact hle,fun k h0 hk hne=>?_,fun k h0 hk hpk _=>?_⟩
 ·rw[ZAC hil hjl,ZAC hil hjl,if_neg hne]
  by_cases c1:(k - 1) / 2=i
  ·rw[if_pos c1]
   by_cases c2:k=j
   ·rw[if_pos c2];omega
   ·rw[if_neg c2,if_neg (by omega)];exact hm k h0 hk c1
  ·rw[if_neg c1,if_neg (by omega)]
   by_cases c2:k=i
   ·rw[if_pos c2,c2]
    exact h.grand j hj0 hj hp (by omega)
   ·rw[if_neg c2];exact h.other k h0 hk c1
 ·rw[ZAC hil hjl,ZAC hil hjl,hp,if_neg (by omega),if_pos rfl,if_neg (by omega),if_neg (by omega)]
  have:=h.other k h0 hk (by omega)
  rw[hpk] at this;exact this
theorem DnOk.done {L:List α} {n i:Nat} (h:DnOk κ L n i) (hl:∀ k,0 < k→k < n→(k - 1) / 2=i→keyN κ L i≤keyN κ L k) : HpN κ L n:=fun k h0 hk=>by
 by_cases c:(k - 1) / 2=i
 ·rw[c];exact hl k h0 hk c
 ·exact h.other k h0 hk c
theorem HpN.least {L:List α} {n:Nat} (h:HpN κ L n) : ∀ k,k < n→keyN κ L 0≤keyN κ L k:=by
 intro k
 induction k using Nat.strongRecOn with
 | ind k ih =>
  intro hk
  rcases Nat.eq_zero_or_pos k with rfl | h0
  ·exact Nat.le_refl _
  ·exact Nat.le_trans (ih ((k - 1) / 2) (by omega) (by omega)) (h k h0 hk)
theorem DnOk.of_swap {L:List α} {n:Nat} (h:HpN κ L L.length) (hn:L.length=n+1) : DnOk κ (swL L 0 n) n 0:=by
 refine⟨by rw[ZU];omega,fun k h0 hk hne=>?_,fun k _ _ _ h0=>by omega⟩
 rw[ZAC (by omega) (by omega),ZAC (by omega) (by omega),if_neg (by omega),if_neg hne,if_neg (by omega),if_neg (by omega)]
 exact h k h0 (by omega)
theorem HpN.take {L:List α} {n m:Nat} (h:HpN κ L n) (hm:n=m) : HpN κ (L.take n) m:=by
 subst hm
 intro k h0 hk
 have e:∀ k,k < n→keyN κ (L.take n) k=keyN κ L k:=fun k hk=>by unfold keyN;rw[List.getElem?_take_of_lt hk]
 rw[e _ (by omega),e _ hk];exact h k h0 hk
end
inductive WayN (g:Graph) (tg:Nat) : Nat→Nat→Prop
 | nil:WayN g tg tg 0
 | step {i j d:Nat} {n:Node} : g.nodes[i]? = some n→drB n=false→(j:Int)∈fol n→WayN g tg j d→WayN g tg i (d+1)
def MinW (g:Graph) (tg i d:Nat) : Prop:=WayN g tg i d∧∀ e,WayN g tg i e→d≤e
theorem WayN.min {g:Graph} {tg i d:Nat} (h:WayN g tg i d) : ∃ e,MinW g tg i e∧e≤d:=by
 induction d using Nat.strongRecOn with
 | ind d ih =>
  by_cases c:∃ e,e < d∧WayN g tg i e
  ·obtain⟨e,h1,h2⟩:=c
   obtain⟨x,h3,h4⟩:=ih e h1 h2
   exact⟨x,h3,by omega⟩
  ·exact⟨d,⟨h,fun e he=>Nat.le_of_not_lt fun hlt=>c ⟨e,hlt,he⟩⟩,Nat.le_refl _⟩
theorem MinW.pred {g:Graph} {tg i d:Nat} (h:MinW g tg i (d+1)) : ∃ n j,g.nodes[i]? = some n∧drB n=false∧((j:Nat) : Int)∈fol n∧MinW g tg j d:=by
 obtain⟨h1,h2⟩:=h
 cases h1 with
 | @step _ j _ n hn hd hj hw =>
  refine⟨n,j,hn,hd,hj,hw,fun e he=>?_⟩
  have:=h2 _ (.step hn hd hj he)
  omega
theorem MinW.inj {g:Graph} {tg i d e:Nat} (h:MinW g tg i d) (h':MinW g tg i e) : d=e:=by
 have:=h.2 _ h'.1
 have:=h'.2 _ h.1
 omega
theorem ZGI:∀ (m n:Nat) (f:Nat→Nat),(∀ e,e < n→f e < m)→(∀ a b,a < n→b < n→f a=f b→a=b)→n≤m
 | 0,0,_,_,_=>Nat.le_refl _
 | 0,n+1,f,h,_=>by have:=h 0 (by omega);omega
 | m+1,0,_,_,_=>Nat.zero_le _
 | m+1,n+1,f,h,hi=>by
  have:=ZGI m n (fun e=>if f e=m then f n else f e) (fun e he=>by
   have h1:=h e (by omega)
   have h2:=h n (by omega)
   by_cases c:f e=m
   ·simp only[if_pos c]
    by_cases c2:f n=m
    ·have:=hi e n (by omega) (by omega) (c.trans c2.symm);omega
    ·omega
   ·simp only[if_neg c];omega) (fun a b ha hb hab=>by
   have hn:∀ x,x < n→f x≠f n:=fun x hx e=>by have:=hi x n (by omega) (by omega) e;omega
   by_cases ca:f a=m
   ·by_cases cb:f b=m
    ·exact hi a b (by omega) (by omega) (ca.trans cb.symm)
    ·simp only[if_pos ca,if_neg cb] at hab
     exact absurd hab.symm (hn b hb)
   ·by_cases cb:f b=m
    ·simp only[if_neg ca,if_pos cb] at hab
     exact absurd hab (hn a ha)
    ·simp only[if_neg ca,if_neg cb] at hab
     exact hi a b (by omega) (by omega) hab)
  omega
theorem WayN.lt {g:Graph} {tg i d:Nat} (ht:tg < g.nodes.length) (h:WayN g tg i d) : i < g.nodes.length:=by
 cases h with
 | nil=>exact ht
 | step hn _ _ _=>exact(List.getElem?_eq_some_iff.1 hn).1
theorem MinW.lt {g:Graph} {tg i d:Nat} (ht:tg < g.nodes.length) (h:MinW g tg i d) : d < g.nodes.length:=by
 have key:∀ k e,e+k=d→∃ j,MinW g tg j e:=by
  intro k
  induction k with
  | zero =>
   intro e he
   have hed:e=d:=by omega
   exact⟨i,by rw[hed];exact h⟩
  | succ k ih =>
   intro e he
   obtain⟨j,hj⟩:=ih (e+1) (by omega)
   obtain⟨n,j',_,_,_,h4⟩:=hj.pred
   exact⟨j',h4⟩
 have hf:∀ e,e < d+1→∃ j,MinW g tg j e:=fun e he=>key (d - e) e (by omega)
 have:=ZGI g.nodes.length (d+1) (fun e=>if he:e < d+1 then Classical.choose (hf e he) else 0) (fun e he=>by
  simp only[dif_pos he]
  exact(Classical.choose_spec (hf e he)).1.lt ht) (fun a b ha hb hab=>by
  simp only[dif_pos ha,dif_pos hb] at hab
  have h1:=Classical.choose_spec (hf a ha)
  have h2:=Classical.choose_spec (hf b hb)
  rw[hab] at h1
  exact h1.inj h2)
 exact this
def FarV (g:Graph) (tg i:Nat) (x:Int) : Prop:=(x = -1∧∀ d,¬ WayN g tg i d)∨∃ d:Nat,x=d∧MinW g tg i d
theorem FarV.inj {g:Graph} {tg i:Nat} {x y:Int} (h:FarV g tg i x) (h':FarV g tg i y) : x=y:=by
 rcases h with⟨rfl,h1⟩ | ⟨d,rfl,h1⟩ <;> rcases h' with⟨rfl,h2⟩ | ⟨e,rfl,h2⟩
 ·rfl
 ·exact absurd h2.1 (h1 e)
 ·exact absurd h1.1 (h2 d)
 ·rw[h1.inj h2]
def FarL (g:Graph) (tg:Nat) (l:List Int) : Prop:=l.length=g.nodes.length∧∀ i x,l[i]? = some x→FarV g tg i x
theorem FarL.inj {g:Graph} {tg:Nat} {l l':List Int} (h:FarL g tg l) (h':FarL g tg l') : l=l':=by
 apply List.ext_getElem?
 intro i
 by_cases hi:i < g.nodes.length
 ·have e1:l[i]? = some (l[i]'(by rw[h.1];exact hi)):=List.getElem?_eq_getElem _
  have e2:l'[i]? = some (l'[i]'(by rw[h'.1];exact hi)):=List.getElem?_eq_getElem _
  rw[e1,e2,(h.2 i _ e1).inj (h'.2 i _ e2)]
 ·rw[List.getElem?_eq_none (by rw[h.1];omega),List.getElem?_eq_none (by rw[h'.1];omega)]
structure DK (g:Graph) (tg:Nat) (out:List Int) (L:List Spot) (ex:Nat→Nat→Prop) : Prop where
 len:out.length=g.nodes.length
 val:∀ (i:Nat) (x:Int),out[i]? = some x→x = -1∨∃ d:Nat,x=d∧MinW g tg i d
 ways:∀ k f,(k,f)∈L→k < g.nodes.length∧WayN g tg k f
 zero:(∃ y:Int,out[tg]? = some y∧0≤y)∨(tg,0)∈L
 next:∀ (s:Nat) (x:Nat),out[s]? = some (x:Int)→∀ k n,g.nodes[k]? = some n→drB n=false→(s:Int)∈fol n→(∃ y:Int,out[k]? = some y∧0≤y)∨(k,x+1)∈L∨ex s k
section
variable {g:Graph} {tg:Nat} {out:List Int} {L L':List Spot} {s f:Nat}
theorem DK.start (ht:tg < g.nodes.length) : DK g tg (List.replicate g.nodes.length (-1)) [(tg,0)] (fun _ _=>False):=by
 have h0:∀ (i:Nat) (x:Int),(List.replicate g.nodes.length (-1))[i]? = some x→x = -1:=by
  intro i x hi
  rw[List.getElem?_replicate] at hi;split at hi
  ·injection hi with hi;exact hi.symm
  ·cases hi
 refine⟨by simp,fun i x hi=>.inl (h0 i x hi),fun k f hk=>?_,.inr (by simp),fun s x hs=>?_⟩
 ·simp only[List.mem_singleton,Prod.mk.injEq] at hk
  rw[hk.1,hk.2];exact⟨ht,.nil⟩
 ·have:=h0 _ _ hs;omega
theorem DK.claim (h:DK g tg out L (fun _ _=>False)) {i d:Nat} (hw:WayN g tg i d) : (∃ x:Nat,out[i]? = some (x:Int)∧x≤d)∨∃ k f,(k,f)∈L∧f≤d:=by
 induction hw with
 | nil =>
  rcases h.zero with⟨y,h1,h2⟩ | h1
  ·rcases h.val _ _ h1 with rfl | ⟨d,rfl,hm⟩
   ·omega
   ·exact .inl ⟨d,h1,hm.2 _ .nil⟩
  ·exact .inr ⟨_,_,h1,Nat.le_refl _⟩
 | @step i j d n hn hd hj hw ih =>
  rcases ih with⟨x,h1,h2⟩ | ⟨k,f,h1,h2⟩
  ·rcases h.next j x h1 i n hn hd hj with⟨y,h3,h4⟩ | h3 | h3
   ·rcases h.val _ _ h3 with rfl | ⟨e,rfl,hm⟩
    ·omega
    ·exact .inl ⟨e,h3,hm.2 _ (.step hn hd hj hw)⟩
   ·exact .inr ⟨_,_,h3,by omega⟩
   ·exact h3.elim
  ·exact .inr ⟨k,f,h1,by omega⟩
theorem DK.skip (h:DK g tg out L (fun _ _=>False)) (hL:∀ x,x∈L ↔ x∈L'∨x=(s,f)) {y:Int} (hs:out[s]? = some y) (hy:0≤y) : DK g tg out L' (fun _ _=>False):=by
 refine⟨h.len,h.val,fun k f hk=>h.ways k f ((hL _).2 (.inl hk)),?_,fun a x ha k n hn hd hj=>?_⟩
 ·rcases h.zero with q | q
  ·exact .inl q
  ·rcases(hL _).1 q with q | q
   ·exact .inr q
   ·injection q with q1 q2
    subst q1
    exact .inl ⟨y,hs,hy⟩
 ·rcases h.next a x ha k n hn hd hj with q | q | q
  ·exact .inl q
  ·rcases(hL _).1 q with q | q
   ·exact .inr (.inl q)
   ·injection q with q1 q2
    subst q1
    exact .inl ⟨y,hs,hy⟩
  ·exact q.elim
theorem DK.take_ (h:DK g tg out L (fun _ _=>False)) (hL:∀ x,x∈L ↔ x∈L'∨x=(s,f)) (hm:∀ x∈L,f≤x.2) {y:Int} (hs:out[s]? = some y) (hy:y < 0) : DK g tg (out.set s (f:Int)) L' (fun a _=>a=s):=by
 have hlen:=h.len
 have hslt:s < out.length:=(List.getElem?_eq_some_iff.1 hs).1
 have hws:=h.ways s f ((hL _).2 (.inr rfl))
 have hmin:MinW g tg s f:=⟨hws.2,fun e he=>by
  rcases h.claim he with⟨x,h1,h2⟩ | ⟨k,f',h1,h2⟩
  ·rw[hs] at h1;injection h1 with h1;omega
  ·have:=hm _ h1
   simp only at this
   omega⟩
 have hself:(out.set s (f:Int))[s]? = some (f:Int):=by rw[List.getElem?_set,if_pos rfl,if_pos hslt]
 have hup:∀ k:Nat,(∃ y:Int,out[k]? = some y∧0≤y)→∃ y:Int,(out.set s (f:Int))[k]? = some y∧0≤y:=by
  rintro k ⟨z,hz,hz0⟩
  by_cases e:s=k
  ·subst e;exact⟨_,hself,by omega⟩
  ·exact⟨z,by rw[List.getElem?_set,if_neg e];exact hz,hz0⟩
 refine⟨by simpa using hlen,fun i x hi=>?_,fun k f' hk=>h.ways k f' ((hL _).2 (.inl hk)),?_,fun a x ha k n hn hd hj=>?_⟩
 ·rw[List.getElem?_set] at hi
  split at hi
  ·rename_i e
   injection hi with hi
   subst e
   exact .inr ⟨f,hi.symm,hmin⟩
  ·exact h.val i x hi
 ·rcases h.zero with q | q
  ·exact .inl (hup _ q)
  ·rcases(hL _).1 q with q | q
   ·exact .inr q
   ·injection q with q1 q2
    rw[q1]
    exact .inl ⟨_,hself,by omega⟩
 ·by_cases e:s=a
  ·exact .inr (.inr e.symm)
  ·rw[List.getElem?_set,if_neg e] at ha
   rcases h.next a x ha k n hn hd hj with q | q | q
   ·exact .inl (hup _ q)
   ·rcases(hL _).1 q with q | q
    ·exact .inr (.inl q)
    ·injection q with q1 q2
     rw[q1]
     exact .inl ⟨_,hself,by omega⟩
   ·exact q.elim
theorem DK.pass {ex ex':Nat→Nat→Prop} {k:Nat} (h:DK g tg out L ex) (hex:∀ a b,ex a b→ex' a b∨(a=s∧b=k)) (hp:(∃ y:Int,out[k]? = some y∧0≤y)∨∀ n,g.nodes[k]? = some n→drB n=true) : DK g tg out L ex':=by
 refine⟨h.len,h.val,h.ways,h.zero,fun a x ha b n hn hd hj=>?_⟩
 rcases h.next a x ha b n hn hd hj with q | q | q
 ·exact .inl q
 ·exact .inr (.inl q)
 ·rcases hex a b q with q | ⟨rfl,rfl⟩
  ·exact .inr (.inr q)
  ·rcases hp with hp | hp
   ·exact .inl hp
   ·rw[hp n hn] at hd;cases hd
theorem DK.push {ex ex':Nat→Nat→Prop} {k:Nat} {n:Node} (h:DK g tg out L ex) (hex:∀ a b,ex a b→ex' a b∨(a=s∧b=k)) (hs:out[s]? = some (f:Int)) (hn:g.nodes[k]? = some n) (hd:drB n=false) (hj:(s:Int)∈fol n) (hL:∀ x,x∈L' ↔ x∈L∨x=(k,f+1)) : DK g tg out L' ex':=by
 refine⟨h.len,h.val,fun a b hab=>?_,?_,fun a x ha b m hm hd' hj'=>?_⟩
 ·rcases(hL _).1 hab with q | q
  ·exact h.ways a b q
  ·injection q with q1 q2
   subst q1 q2
   refine⟨(List.getElem?_eq_some_iff.1 hn).1,.step hn hd hj ?_⟩
   rcases h.val _ _ hs with e | ⟨d,e,hm⟩
   ·omega
   ·have:f=d:=by omega
    rw[this];exact hm.1
 ·rcases h.zero with q | q
  ·exact .inl q
  ·exact .inr ((hL _).2 (.inl q))
 ·rcases h.next a x ha b m hm hd' hj' with q | q | q
  ·exact .inl q
  ·exact .inr (.inl ((hL _).2 (.inl q)))
  ·rcases hex a b q with q | ⟨rfl,rfl⟩
   ·exact .inr (.inr q)
   ·refine .inr (.inl ((hL _).2 (.inr ?_)))
    rw[hs] at ha;injection ha with ha
    have:f=x:=by omega
    rw[this]
theorem DK.narrow {ex ex':Nat→Nat→Prop} (h:DK g tg out L ex) (hex:∀ (a b:Nat) (n:Node),g.nodes[b]? = some n→(a:Int)∈fol n→ex a b→ex' a b) : DK g tg out L ex' :=
 ⟨h.len,h.val,h.ways,h.zero,fun a x ha b n hn hd hj=>by
  rcases h.next a x ha b n hn hd hj with q | q | q
  ·exact .inl q
  ·exact .inr (.inl q)
  ·exact .inr (.inr (hex a b n hn hj q))⟩
theorem DK.done (h:DK g tg out [] (fun _ _=>False)) : FarL g tg out:=by
 refine⟨h.len,fun i x hi=>?_⟩
 rcases h.val i x hi with rfl | q
 ·refine .inl ⟨rfl,fun d hd=>?_⟩
  rcases h.claim hd with⟨y,h1,_⟩ | ⟨_,_,h1,_⟩
  ·rw[hi] at h1;injection h1 with h1;omega
  ·cases h1
 ·exact .inr q
end
def bd (r p i:Nat) : Nat:=if i < p then r+1 else r
theorem ZBV (r i:Nat) : bd r 0 i=r:=by unfold bd;rw[if_neg (by omega)]
theorem ZEs (r p:Nat) : bd r p p=r:=by unfold bd;rw[if_neg (by omega)]
theorem ZHJ (r p:Nat) : bd r (p+1) p=r+1:=by unfold bd;rw[if_pos (by omega)]
theorem bd_lt {r p i:Nat} (h:i < p) : bd r p i=r+1:=by unfold bd;rw[if_pos h]
theorem ZHI {r p i:Nat} (h:i≠p) : bd r (p+1) i=bd r p i:=by
 unfold bd
 by_cases c:i < p
 ·rw[if_pos c,if_pos (by omega)]
 ·rw[if_neg c,if_neg (by omega)]
structure RFs (g:Graph) (tg:Nat) (out:List Int) (r p:Nat) : Prop where
 len:out.length=g.nodes.length
 val:∀ (i:Nat) (x:Int),out[i]? = some x→(x = -1∧∀ d,WayN g tg i d→bd r p i < d)∨∃ d:Nat,x=d∧MinW g tg i d∧d≤bd r p i
section
variable {g:Graph} {tg:Nat} {out:List Int} {r p:Nat}
theorem RFs.start:RFs g tg ((List.replicate g.nodes.length (-1)).set tg 0) 0 0:=by
 refine⟨by simp,fun i x hi=>?_⟩
 rw[ZBV]
 rw[List.getElem?_set] at hi
 split at hi
 ·rename_i e
  split at hi
  ·injection hi with hi
   subst e
   exact .inr ⟨0,hi.symm,⟨.nil,fun _ _=>Nat.zero_le _⟩,Nat.zero_le _⟩
  ·cases hi
 ·rename_i e
  rw[List.getElem?_replicate] at hi;split at hi
  ·injection hi with hi
   refine .inl ⟨hi.symm,fun d hd=>?_⟩
   cases hd with
   | nil=>exact absurd rfl e
   | step _ _ _ _=>omega
  ·cases hi
theorem RFs.round (h:RFs g tg out r g.nodes.length) : RFs g tg out (r+1) 0:=by
 refine⟨h.len,fun i x hi=>?_⟩
 have hl:=(List.getElem?_eq_some_iff.1 hi).1
 rw[h.len] at hl
 have:=h.val i x hi
 rw[bd_lt hl] at this
 rw[ZBV];exact this
theorem RFs.pass (h:RFs g tg out r p) {n:Node} {x:Int} (hn:g.nodes[p]? = some n) (hx:out[p]? = some x) (hp:0≤x∨drB n=true) : RFs g tg out r (p+1):=by
 refine⟨h.len,fun i y hi=>?_⟩
 by_cases e:i=p
 ·subst e
  rw[hx] at hi;injection hi with hi;subst hi
  rw[ZHJ]
  have hv:=h.val i x hx
  rw[ZEs] at hv
  rcases hv with⟨rfl,h2⟩ | ⟨d,h1,h2,h3⟩
  ·rcases hp with hp | hp
   ·omega
   ·refine .inl ⟨rfl,fun d hd=>?_⟩
    cases hd with
    | nil=>have:=h2 0 .nil;omega
    | step hn' hd' _ _=>rw[hn] at hn';injection hn' with hn';subst hn';rw[hp] at hd';cases hd'
  ·exact .inr ⟨d,h1,h2,by omega⟩
 ·rw[ZHI e];exact h.val i y hi
theorem RFs.take_ (ht:tg < g.nodes.length) (h:RFs g tg out r p) {n:Node} {x:Int} (hn:g.nodes[p]? = some n) (hx:out[p]? = some x) (hx0:x < 0) (hd:drB n=false) {b:Bool} (hb:b=true ↔ ∃ j:Nat,(j:Int)∈fol n∧out[j]? = some (r:Int)) : RFs g tg (if b then out.set p ((r:Int)+1) else out) r (p+1):=by
 have hpl:=(List.getElem?_eq_some_iff.1 hx).1
 have hv:=h.val p x hx
 rw[ZEs] at hv
 rcases hv with⟨rfl,hno⟩ | ⟨d,h1,_,_⟩
 case inr=>omega
 cases b with
 | true =>
  obtain⟨j,hj,hjo⟩:=hb.1 rfl
  refine⟨by simpa using h.len,fun i y hi=>?_⟩
  rw[if_pos rfl,List.getElem?_set] at hi
  by_cases e:p=i
  ·rw[if_pos e,if_pos hpl] at hi
   injection hi with hi
   rw[← e,ZHJ]
   rcases h.val j _ hjo with⟨h1,_⟩ | ⟨d,h1,h2,_⟩
   ·omega
   ·have hrd:r=d:=by omega
    subst hrd
    exact .inr ⟨r+1,by omega,⟨.step hn hd hj h2.1,fun e he=>hno e he⟩,Nat.le_refl _⟩
  ·rw[if_neg e] at hi
   rw[ZHI (fun q=>e q.symm)];exact h.val i y hi
 | false =>
  refine⟨h.len,fun i y hi=>?_⟩
  rw[if_neg (by simp)] at hi
  by_cases e:i=p
  ·subst e
   rw[hx] at hi;injection hi with hi
   rw[ZHJ]
   refine .inl ⟨hi.symm,fun d hd'=>?_⟩
   have h1:=hno d hd'
   by_cases e:d=r+1
   ·exfalso
    subst e
    cases hd' with
    | @step _ j _ n' hn' _ hj hw =>
     rw[hn] at hn';injection hn' with hn';subst hn'
     obtain⟨e,he,hel⟩:=hw.min
     have hre:e=r:=by
      have:=hno (e+1) (.step hn hd hj he.1)
      omega
     subst hre
     have hjl:j < out.length:=by rw[h.len];exact hw.lt ht
     rcases h.val j _ (List.getElem?_eq_getElem hjl) with⟨h5,h6⟩ | ⟨d,h5,h6,_⟩
     ·have:=h6 e he.1
      unfold bd at this
      split at this <;> omega
     ·have hde:=h6.inj he
      subst hde
      have:=hb.2 ⟨j,hj,by rw[List.getElem?_eq_getElem hjl,h5]⟩
      cases this
   ·omega
  ·rw[ZHI e];exact h.val i y hi
theorem RFs.done (ht:tg < g.nodes.length) (h:RFs g tg out r 0) (hr:g.nodes.length≤r) : FarL g tg out:=by
 refine⟨h.len,fun i x hi=>?_⟩
 have hv:=h.val i x hi
 rw[ZBV] at hv
 rcases hv with⟨rfl,h2⟩ | ⟨d,h1,h2,_⟩
 ·refine .inl ⟨rfl,fun d hd=>?_⟩
  obtain⟨e,he,hel⟩:=hd.min
  have h3:=he.lt ht
  have h4:=h2 e he.1
  omega
 ·exact .inr ⟨d,h1,h2⟩
end
def folAt (g:Graph) (i:Int) : List Int:=match g.nodes[i.toNat]? with
 | none=>[]
 | some n=>fol n
end Go.Proofs.YtffgnjgphkdodaaDoor
namespace Go.Proofs.YtffgnjgphkdodaaDoor
open Go Go.RowKit
section
variable {P:Program} {Q:Exit→Act→World→Prop}
theorem ZHN {o:Oper} {a:Act} {w:World} {K:Act→World→Prop} (x:Operand) (name:String) (args:Array Operand) (ts:Array TypeId) (ho:o.op=.call { callee:=.invoke x name,args:=args,argTypes:=ts })
  (t:TypeId) (v:Value) (hx:a.eval x=.iface t v) (f:FuncId) (r:Value) (hm:(method (P.types.size+Made.depth) t v name).run P w=.ok (f,r) w) {fn:Func} (hf:P.funcs[f]? = some fn) (hn:(fn.name == "runtime.NumGoroutine")=false) (hb:fn.body.isNone=false)
  (vs:Array Value) (hv:args.map a.eval=vs) (h:Calls P f (#[r] ++ vs) w fun e w'=>∃ u,e=.returned u∧K (a.put o.dst u) w') : o.wp P a w K Q:=by
 subst hv
 have hr:(execOp a.eval o).run P w=.ok (.enter f (#[r] ++ args.map a.eval)) w:=by
  have h1:(Array.map a.eval args).extract 0 args.size=Array.map a.eval args:=by
   have:=Array.extract_size (xs:=Array.map a.eval args)
   rwa [Array.size_map] at this
  have h0:(#[Value.iface t v] ++ Array.map a.eval args)[0]? = some (Value.iface t v):=by rw[Array.getElem?_append_left (by simp)];rfl
  have hm':=hm
  unfold execOp
  simp only[ho,resolve,Sem.run_bind,Sem.run_pure,Result.andThen_ok,invoke,hx,h0]
  simp only[Bool.eq_false_iff,beq_iff_eq,ne_eq,Option.isNone_iff_eq_none] at hn hb
  simp[callMethod,Sem.run_bind,program,Sem.run,hm',callFunc,hf,hn,hb,h1]
 unfold Oper.wp
 rw[hr]
 simp only[Oper.upon]
 refine h.mono ?_
 rintro e w' ⟨u,rfl,hk⟩
 exact hk
theorem ZEK {ops:Array Oper} {rest:List Oper} {o:Oper} {a:Act} {w:World} (hgd:Region.wanted o (yielded ops a.tmps)=true) (x:Operand) (name:String) (args:Array Operand) (ts:Array TypeId) (ho:o.op=.call { callee:=.invoke x name,args:=args,argTypes:=ts })
  (t:TypeId) (v:Value) (hx:a.eval x=.iface t v) (f:FuncId) (r:Value) (hm:(method (P.types.size+Made.depth) t v name).run P w=.ok (f,r) w) {fn:Func} (hf:P.funcs[f]? = some fn) (hn:(fn.name == "runtime.NumGoroutine")=false) (hb:fn.body.isNone=false)
  (vs:Array Value) (hv:args.map a.eval=vs) (h:Calls P f (#[r] ++ vs) w fun e w'=>∃ u,e=.returned u∧wpList P ops Q rest (a.put o.dst u) w') : wpList P ops Q (o :: rest) a w:=by
 refine wpList_step fun K' hK'=>?_
 rw[if_pos hgd]
 refine ZHN x name args ts ho t v hx f r hm hf hn hb vs hv (h.mono ?_)
 rintro e w' ⟨u,rfl,hk⟩
 exact⟨u,rfl,hK' _ _ hk⟩
theorem ZR {ops:Array Oper} {rest:List Oper} {o:Oper} {a:Act} {w:World} (hgd:Region.wanted o (yielded ops a.tmps)=true) (x:Operand) (name:String) (args:List Operand) (ts:Array TypeId) (ho:o.op=.call { callee:=.invoke x name,args:=args.toArray,argTypes:=ts })
  (t:TypeId) (v:Value) (hx:a.eval x=.iface t v) (f:FuncId) (r:Value) (hm:(method (P.types.size+Made.depth) t v name).run P w=.ok (f,r) w) {fn:Func} (hf:P.funcs[f]? = some fn) (hn:(fn.name == "runtime.NumGoroutine")=false) (hb:fn.body.isNone=false)
  (vs:List Value) (hv:args.map a.eval=vs) (h:Calls P f (r :: vs).toArray w fun e w'=>∃ u,e=.returned u∧wpList P ops Q rest (a.put o.dst u) w') : wpList P ops Q (o :: rest) a w :=
 ZEK hgd x name args.toArray ts ho t v hx f r hm hf hn hb vs.toArray (by subst hv;simp) (by
  have e : #[r] ++ vs.toArray=(r :: vs).toArray:=by simp
  rw[e];exact h)
theorem ZBb {t e:TypeId} {name:String} {f:FuncId} (hrow:((P.info? t).bind fun i=>(i.methods.find? (·.name == name)).map fun m=>(m.path.toList,m.func))=some ([],some (f,true))) (ht:P.underlying t=some (.pointer e)) (k:Nat) (b:Nat) (w:World) :
  (method (k+Made.depth) t (.pointer (some ⟨b,0,none⟩)) name).run P w=.ok (f,.pointer (some ⟨b,0,none⟩)) w:=by
 show(method (k+99+1) _ _ _).run _ _=_
 cases hi:P.info? t with
 | none=>rw[hi] at hrow;simp at hrow
 | some i =>
  rw[hi] at hrow
  simp only[Option.bind_some] at hrow
  cases hm:i.methods.find? (·.name == name) with
  | none=>rw[hm] at hrow;simp at hrow
  | some m =>
   rw[hm] at hrow
   simp only[Option.map_some,Option.some.injEq,Prod.mk.injEq] at hrow
   unfold method
   simp[typeInfo,hi,hm,hrow.1,hrow.2,follow,receiverAt,Place.get,underlying,ht,Sem.run_bind,Sem.run,program]
end
end Go.Proofs.YtffgnjgphkdodaaDoor
