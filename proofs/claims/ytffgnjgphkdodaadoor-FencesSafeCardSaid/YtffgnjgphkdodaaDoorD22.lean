import Derived.Test.YtffgnjgphkdodaaDoorD14
import Derived.Test.YtffgnjgphkdodaaDoorD24
namespace Go.Proofs.YtffgnjgphkdodaaDoor
open Go
section
variable {α:Type} (κ:α→Nat)
def HpL (lo:Nat) (L:List α) (n:Nat) : Prop:=∀ k,0 < k→k < n→lo≤(k - 1) / 2→keyN κ L ((k - 1) / 2)≤keyN κ L k
structure DnL (lo:Nat) (L:List α) (n i:Nat) : Prop where
 le:n≤L.length
 ge:lo≤i
 other:∀ k,0 < k→k < n→lo≤(k - 1) / 2→(k - 1) / 2≠i→keyN κ L ((k - 1) / 2)≤keyN κ L k
 grand:∀ k,0 < k→k < n→(k - 1) / 2=i→0 < i→lo≤(i - 1) / 2→keyN κ L ((i - 1) / 2)≤keyN κ L k
variable {κ}
theorem DnL.step {L:List α} {lo n i j:Nat} (h:DnL κ lo L n i) (hj0:0 < j) (hj:j < n) (hp:(j - 1) / 2=i) (hl:keyN κ L j < keyN κ L i) (hm:∀ k,0 < k→k < n→(k - 1) / 2=i→keyN κ L j≤keyN κ L k) : DnL κ lo (swL L i j) n j:=by
 have hle:=h.le
 have hge:=h.ge
 have hil:i < L.length:=by omega
 have hjl:j < L.length:=by omega
 refine⟨by rw[ZU];exact hle,by omega,fun k h0 hk hlo hne=>?_,fun k h0 hk hpk _ _=>?_⟩
 ·rw[ZAC hil hjl,ZAC hil hjl,if_neg hne]
  by_cases c1:(k - 1) / 2=i
  ·rw[if_pos c1]
   by_cases c2:k=j
   ·rw[if_pos c2];omega
   ·rw[if_neg c2,if_neg (by omega)];exact hm k h0 hk c1
  ·rw[if_neg c1,if_neg (by omega)]
   by_cases c2:k=i
   ·rw[if_pos c2,c2]
    exact h.grand j hj0 hj hp (by omega) (by rw[← c2];exact hlo)
   ·rw[if_neg c2];exact h.other k h0 hk hlo c1
 ·rw[ZAC hil hjl,ZAC hil hjl,hp,if_neg (by omega),if_pos rfl,if_neg (by omega),if_neg (by omega)]
  have:=h.other k h0 hk (by omega) (by omega)
  rw[hpk] at this;exact this
theorem DnL.done {L:List α} {lo n i:Nat} (h:DnL κ lo L n i) (hl:∀ k,0 < k→k < n→(k - 1) / 2=i→keyN κ L i≤keyN κ L k) : HpL κ lo L n:=fun k h0 hk hlo=>by
 by_cases c:(k - 1) / 2=i
 ·rw[c];exact hl k h0 hk c
 ·exact h.other k h0 hk hlo c
theorem DnL.leaf {L:List α} {lo n i:Nat} (h:DnL κ lo L n i) (hn:n≤2 * i+1) : HpL κ lo L n:=h.done fun k h0 hk hp=>by omega
theorem HpL.sink {L:List α} {n i:Nat} (h:HpL κ (i+1) L n) (hn:n≤L.length) : DnL κ i L n i :=
 ⟨hn,Nat.le_refl _,fun k h0 hk hlo hne=>h k h0 hk (by omega),fun k h0 hk hp h1 h2=>by omega⟩
theorem HpL.leaves (L:List α) {n lo:Nat} (h:n≤2 * lo+1) : HpL κ lo L n:=fun k h0 hk hlo=>by omega
theorem HpL.hp {L:List α} {n:Nat} (h:HpL κ 0 L n) : HpN κ L n:=fun k h0 hk=>h k h0 hk (Nat.zero_le _)
theorem DnL.of_swap {L:List α} {n:Nat} (h:HpN κ L L.length) (hn:L.length=n+1) : DnL κ 0 (swL L 0 n) n 0:=by
 have h1:=DnOk.of_swap h hn
 exact⟨h1.le,Nat.le_refl _,fun k h0 hk _ hne=>h1.other k h0 hk hne,fun k h0 hk hp h2 _=>h1.grand k h0 hk hp h2⟩
def NdI (L:List α) : Prop:=∀ (i j:Nat) (x:α),L[i]? = some x→L[j]? = some x→i=j
theorem NdI.sw {L:List α} (h:NdI L) {a b:Nat} (ha:a < L.length) (hb:b < L.length) : NdI (swL L a b):=fun i j x hi hj=>by
 rw[ZBk ha hb] at hi hj
 have tr:∀ i,(if i=b then L[a]? else if i=a then L[b]? else L[i]?)=L[if i=b then a else if i=a then b else i]?:=fun i=>by
  split
  ·rfl
  ·split <;> rfl
 rw[tr] at hi hj
 have e:=h _ _ x hi hj
 by_cases c1:i=b
 ·rw[if_pos c1] at e
  by_cases c2:j=b
  ·omega
  ·rw[if_neg c2] at e
   by_cases c3:j=a
   ·rw[if_pos c3] at e;omega
   ·rw[if_neg c3] at e;omega
 ·rw[if_neg c1] at e
  by_cases c0:i=a
  ·rw[if_pos c0] at e
   by_cases c2:j=b
   ·rw[if_pos c2] at e;omega
   ·rw[if_neg c2] at e
    by_cases c3:j=a
    ·omega
    ·rw[if_neg c3] at e;omega
  ·rw[if_neg c0] at e
   by_cases c2:j=b
   ·rw[if_pos c2] at e;omega
   ·rw[if_neg c2] at e
    by_cases c3:j=a
    ·rw[if_pos c3] at e;omega
    ·rw[if_neg c3] at e;exact e
theorem NdI.take {L:List α} (h:NdI L) (n:Nat) : NdI (L.take n):=fun i j x hi hj=>by
 have f:∀ i,(L.take n)[i]? = some x→L[i]? = some x:=fun i hi=>by
  rw[List.getElem?_take] at hi
  split at hi
  ·exact hi
  ·cases hi
 exact h i j x (f i hi) (f j hj)
theorem ZHx {L L3:List α} {m:Nat} (hm:L.length=m+1) (h3:L3.length=(swL L 0 m).length) (hmem:∀ x,x∈L3 ↔ x∈swL L 0 m) (hk:∀ k,m≤k→L3[k]? = (swL L 0 m)[k]?) (hnd:NdI L3) :
  ∃ s,L[0]? = some s∧L3=L3.take m ++ [s]∧(∀ x,x∈L ↔ x∈L3.take m∨x=s)∧(L3.take m).length=m∧s ∉ L3.take m:=by
 have h0:0 < L.length:=by omega
 have hml:m < L.length:=by omega
 rw[ZU] at h3
 have e:L3[m]? = some L[0]:=by rw[hk m (Nat.le_refl _),ZBk h0 hml,if_pos rfl,List.getElem?_eq_getElem h0]
 have hlt:m < L3.length:=by omega
 have e2:L3[m]=L[0]:=by rw[List.getElem?_eq_getElem hlt] at e;injection e
 have h5:=List.take_succ_eq_append_getElem hlt
 rw[List.take_of_length_le (by omega)] at h5
 refine⟨L[0],List.getElem?_eq_getElem h0,by rw[← e2];exact h5,?_,by rw[List.length_take];omega,fun hs=>?_⟩
 ·intro x
  have h6:=hmem x
  rw[ZDB h0 hml] at h6
  rw[← h6,← e2]
  constructor
  ·intro hx
   rw[h5,List.mem_append,List.mem_singleton] at hx
   exact hx
  ·intro hx
   rw[h5,List.mem_append,List.mem_singleton]
   exact hx
 ·obtain⟨i,hi⟩:=List.mem_iff_getElem?.1 hs
  rw[List.getElem?_take] at hi
  split at hi
  ·rename_i c
   have:=hnd i m _ hi e
   omega
  ·cases hi
end
def keyF (D:List Int) (n:Nat) : Nat:=8589934592 - (((D[n]?).getD 0).toNat * 65536+n)
structure DepOk (D:List Int) : Prop where
 len:D.length≤4096
 dom:∀ (i:Nat) (x:Int),D[i]? = some x→0≤x∧x≤4096
theorem ZFs {D:List Int} (h:DepOk D) {a b:Nat} {x y:Int} (ha:D[a]? = some x) (hb:D[b]? = some y) : keyF D a < keyF D b ↔ y < x∨(x=y∧b < a):=by
 have h1:=h.dom a x ha
 have h2:=h.dom b y hb
 have h3:=(List.getElem?_eq_some_iff.1 ha).1
 have h4:=(List.getElem?_eq_some_iff.1 hb).1
 have h5:=h.len
 unfold keyF
 rw[ha,hb]
 simp only[Option.getD_some]
 omega
theorem ZIy {D:List Int} (h:DepOk D) {a b:Nat} (ha:a < D.length) (hb:b < D.length) (he:keyF D a=keyF D b) : a=b:=by
 have e1:=List.getElem?_eq_getElem ha
 have e2:=List.getElem?_eq_getElem hb
 have n1:=ZFs h e1 e2
 have n2:=ZFs h e2 e1
 have h1:=h.dom _ _ e1
 have h2:=h.dom _ _ e2
 omega
def argK (D:List Int) : List Int→Int
 | []=>0
 | x :: l=>l.foldl (fun k y=>if keyF D y.toNat < keyF D k.toNat then y else k) x
theorem ZB7 (D:List Int) : ∀ (l:List Int) (x:Int),(l.foldl (fun k y=>if keyF D y.toNat < keyF D k.toNat then y else k) x=x∨l.foldl (fun k y=>if keyF D y.toNat < keyF D k.toNat then y else k) x∈l) ∧
  keyF D (l.foldl (fun k y=>if keyF D y.toNat < keyF D k.toNat then y else k) x).toNat≤keyF D x.toNat∧∀ y∈l,keyF D (l.foldl (fun k y=>if keyF D y.toNat < keyF D k.toNat then y else k) x).toNat≤keyF D y.toNat
 | [],x=>⟨.inl rfl,Nat.le_refl _,fun _ h=>by cases h⟩
 | z :: l,x=>by
  rw[List.foldl_cons]
  by_cases c:keyF D z.toNat < keyF D x.toNat
  ·rw[if_pos c]
   obtain⟨h1,h2,h3⟩:=ZB7 D l z
   refine⟨.inr ?_,by omega,fun y hy=>?_⟩
   ·rcases h1 with h1 | h1
    ·rw[h1];exact List.mem_cons_self ..
    ·exact List.mem_cons_of_mem _ h1
   ·rcases List.mem_cons.1 hy with rfl | hy
    ·exact h2
    ·exact h3 y hy
  ·rw[if_neg c]
   obtain⟨h1,h2,h3⟩:=ZB7 D l x
   refine⟨?_,h2,fun y hy=>?_⟩
   ·rcases h1 with h1 | h1
    ·exact .inl h1
    ·exact .inr (List.mem_cons_of_mem _ h1)
   ·rcases List.mem_cons.1 hy with rfl | hy
    ·omega
    ·exact h3 y hy
theorem ZGZ {D:List Int} {l:List Int} (h:l≠[]) : argK D l∈l:=by
 cases l with
 | nil=>exact absurd rfl h
 | cons x l =>
  show l.foldl _ x∈x :: l
  rcases(ZB7 D l x).1 with e | e
  ·rw[e];exact List.mem_cons_self ..
  ·exact List.mem_cons_of_mem _ e
theorem ZHK {D:List Int} {l:List Int} {y:Int} (h:y∈l) : keyF D (argK D l).toNat≤keyF D y.toNat:=by
 cases l with
 | nil=>cases h
 | cons x l =>
  show keyF D (l.foldl _ x).toNat≤_
  rcases List.mem_cons.1 h with rfl | h
  ·exact(ZB7 D l y).2.1
  ·exact(ZB7 D l x).2.2 y h
theorem ZJy {D:List Int} (hD:DepOk D) {l:List Int} (hl:∀ x∈l,0≤x∧x < D.length) {s:Int} (hs:s∈l) (hm:∀ y∈l,keyF D s.toNat≤keyF D y.toNat) : argK D l=s:=by
 have h1:=ZGZ (D:=D) (List.ne_nil_of_mem hs)
 have h2:=ZHK (D:=D) hs
 have h3:=hm _ h1
 have h4:=hl _ h1
 have h5:=hl _ hs
 have:=ZIy hD (by omega) (by omega) (show keyF D (argK D l).toNat=keyF D s.toNat by omega)
 omega
noncomputable def mergeF (u:Unit_) (t:Int) (D:List Int) : Nat→List Int→List Int→List Int
 | 0,_,left=>left
 | n+1,todo,left=>if todo=[] then left else mergeF u t D n (withoutL todo (argK D todo)) (if emptyR u t (withoutL left (argK D todo))=true then withoutL left (argK D todo) else left)
theorem ZBc (u:Unit_) (t:Int) (D:List Int) (n:Nat) (left:List Int) : mergeF u t D n [] left=left:=by
 cases n with
 | zero=>rfl
 | succ n =>
  show(if ([] : List Int)=[] then left else _)=left
  rw[if_pos rfl]
theorem ZAE {u:Unit_} {t:Int} {D:List Int} {n:Nat} {todo left:List Int} {s:Int} (h:todo≠[]) (hs:argK D todo=s) : mergeF u t D (n+1) todo left=mergeF u t D n (withoutL todo s) (if emptyR u t (withoutL left s)=true then withoutL left s else left):=by
 show(if todo=[] then left else _)=_
 rw[if_neg h,hs]
end Go.Proofs.YtffgnjgphkdodaaDoor
