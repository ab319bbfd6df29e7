import Derived.Test.YtffgnjgphkdodaaDoorD30
import Derived.Test.YtffgnjgphkdodaaDoorD22
import Derived.Test.YtffgnjgphkdodaaDoorD24
import Derived.Test.YtffgnjgphkdodaaDoorD20
namespace Go.Proofs.YtffgnjgphkdodaaDoor
open Go
section
variable {N:Nat} {E:Nat→Nat→Prop} {T:Nat→Prop}
inductive DW (E:Nat→Nat→Prop) (T:Nat→Prop) : Nat→Nat→Prop
 | nil {i:Nat} : T i→DW E T i 0
 | step {i j d:Nat} : E i j→DW E T j d→DW E T i (d+1)
def MinD (E:Nat→Nat→Prop) (T:Nat→Prop) (i d:Nat) : Prop:=DW E T i d∧∀ e,DW E T i e→d≤e
theorem DW.min {i d:Nat} (h:DW E T i d) : ∃ e,MinD E T i e∧e≤d:=by
 induction d using Nat.strongRecOn with
 | ind d ih =>
  by_cases c:∃ e,e < d∧DW E T i e
  ·obtain⟨e,h1,h2⟩:=c
   obtain⟨x,h3,h4⟩:=ih e h1 h2
   exact⟨x,h3,by omega⟩
  ·exact⟨d,⟨h,fun e he=>Nat.le_of_not_lt fun hlt=>c ⟨e,hlt,he⟩⟩,Nat.le_refl _⟩
theorem MinD.pred {i d:Nat} (h:MinD E T i (d+1)) : ∃ j,E i j∧MinD E T j d:=by
 obtain⟨h1,h2⟩:=h
 cases h1 with
 | @step _ j _ he hw =>
  refine⟨j,he,hw,fun e hj=>?_⟩
  have:=h2 _ (.step he hj)
  omega
theorem MinD.inj {i d e:Nat} (h:MinD E T i d) (h':MinD E T i e) : d=e:=by
 have:=h.2 _ h'.1
 have:=h'.2 _ h.1
 omega
theorem MinD.down {i d:Nat} (h:MinD E T i d) : ∀ k e,e+k=d→∃ j,MinD E T j e:=by
 intro k
 induction k with
 | zero =>
  intro e he
  have hed:e=d:=by omega
  exact⟨i,by rw[hed];exact h⟩
 | succ k ih =>
  intro e he
  obtain⟨j,hj⟩:=ih (e+1) (by omega)
  obtain⟨j',_,h4⟩:=hj.pred
  exact⟨j',h4⟩
theorem MinD.lt (hN:∀ i d,DW E T i d→i < N) {i d:Nat} (h:MinD E T i d) : d < N:=by
 have hf:∀ e,e < d+1→∃ j,MinD E T j e:=fun e he=>h.down (d - e) e (by omega)
 have:=ZGI N (d+1) (fun e=>if he:e < d+1 then Classical.choose (hf e he) else 0) (fun e he=>by
  simp only[dif_pos he]
  exact hN _ _ (Classical.choose_spec (hf e he)).1) (fun a b ha hb hab=>by
  simp only[dif_pos ha,dif_pos hb] at hab
  have h1:=Classical.choose_spec (hf a ha)
  have h2:=Classical.choose_spec (hf b hb)
  rw[hab] at h1
  exact h1.inj h2)
 exact this
def FarX (E:Nat→Nat→Prop) (T:Nat→Prop) (i:Nat) (x:Int) : Prop:=(x = -1∧∀ d,¬ DW E T i d)∨∃ d:Nat,x=d∧MinD E T i d
theorem FarX.inj {i:Nat} {x y:Int} (h:FarX E T i x) (h':FarX E T i y) : x=y:=by
 rcases h with⟨rfl,h1⟩ | ⟨d,rfl,h1⟩ <;> rcases h' with⟨rfl,h2⟩ | ⟨e,rfl,h2⟩
 ·rfl
 ·exact absurd h2.1 (h1 e)
 ·exact absurd h1.1 (h2 d)
 ·rw[h1.inj h2]
def FarXL (N:Nat) (E:Nat→Nat→Prop) (T:Nat→Prop) (l:List Int) : Prop:=l.length=N∧∀ (i:Nat) (x:Int),l[i]? = some x→FarX E T i x
theorem FarXL.inj {l l':List Int} (h:FarXL N E T l) (h':FarXL N E T l') : l=l':=by
 apply List.ext_getElem?
 intro i
 by_cases hi:i < N
 ·have e1:l[i]? = some (l[i]'(by rw[h.1];exact hi)):=List.getElem?_eq_getElem _
  have e2:l'[i]? = some (l'[i]'(by rw[h'.1];exact hi)):=List.getElem?_eq_getElem _
  rw[e1,e2,(h.2 i _ e1).inj (h'.2 i _ e2)]
 ·rw[List.getElem?_eq_none (by rw[h.1];omega),List.getElem?_eq_none (by rw[h'.1];omega)]
theorem FarXL.at_ {l:List Int} (h:FarXL N E T l) {i:Nat} (hi:i < N) {x:Int} (hx:FarX E T i x) : l[i]? = some x:=by
 have e1:l[i]? = some (l[i]'(by rw[h.1];exact hi)):=List.getElem?_eq_getElem _
 rw[e1,(h.2 i _ e1).inj hx]
open Classical in
noncomputable def farL (N:Nat) (E:Nat→Nat→Prop) (T:Nat→Prop) : List Int:=(List.range N).map fun i=>if h:∃ d,MinD E T i d then ((Classical.choose h:Nat) : Int) else -1
open Classical in
theorem ZJr (N:Nat) (E:Nat→Nat→Prop) (T:Nat→Prop) : FarXL N E T (farL N E T):=by
 refine⟨by simp[farL],fun i x hx=>?_⟩
 have hi:i < N:=by have:=(List.getElem?_eq_some_iff.1 hx).1;simpa [farL] using this
 unfold farL at hx
 rw[List.getElem?_map,List.getElem?_range hi] at hx
 injection hx with hx
 subst hx
 show FarX E T i (if h:∃ d,MinD E T i d then ((Classical.choose h:Nat) : Int) else -1)
 by_cases c:∃ d,MinD E T i d
 ·rw[dif_pos c]
  exact .inr ⟨_,rfl,Classical.choose_spec c⟩
 ·rw[dif_neg c]
  refine .inl ⟨rfl,fun d hd=>c ?_⟩
  obtain⟨e,he,_⟩:=hd.min
  exact⟨e,he⟩
structure RFg (N:Nat) (E:Nat→Nat→Prop) (T:Nat→Prop) (out:List Int) (r p:Nat) : Prop where
 len:out.length=N
 val:∀ (i:Nat) (x:Int),out[i]? = some x→(x = -1∧∀ d,DW E T i d→bd r p i < d)∨∃ d:Nat,x=d∧MinD E T i d∧d≤bd r p i
section
variable {out:List Int} {r p:Nat}
theorem RFg.start (hl:out.length=N) (h:∀ (i:Nat) (x:Int),out[i]? = some x→(x=0∧T i)∨(x = -1∧¬ T i)) : RFg N E T out 0 0:=by
 refine⟨hl,fun i x hi=>?_⟩
 rw[ZBV]
 rcases h i x hi with⟨rfl,ht⟩ | ⟨rfl,ht⟩
 ·exact .inr ⟨0,rfl,⟨.nil ht,fun _ _=>Nat.zero_le _⟩,Nat.le_refl _⟩
 ·refine .inl ⟨rfl,fun d hd=>?_⟩
  cases hd with
  | nil q=>exact absurd q ht
  | step _ _=>omega
theorem RFg.round (h:RFg N E T out r N) : RFg N E T out (r+1) 0:=by
 refine⟨h.len,fun i x hi=>?_⟩
 have hl:=(List.getElem?_eq_some_iff.1 hi).1
 rw[h.len] at hl
 have:=h.val i x hi
 rw[bd_lt hl] at this
 rw[ZBV];exact this
theorem RFg.pass (h:RFg N E T out r p) {x:Int} (hx:out[p]? = some x) (hp:0≤x∨((∀ j,¬ E p j)∧¬ T p)) : RFg N E T out r (p+1):=by
 refine⟨h.len,fun i y hi=>?_⟩
 by_cases e:i=p
 ·subst e
  rw[hx] at hi;injection hi with hi;subst hi
  rw[ZHJ]
  have hv:=h.val i x hx
  rw[ZEs] at hv
  rcases hv with⟨rfl,h2⟩ | ⟨d,h1,h2,h3⟩
  ·rcases hp with hp | ⟨hp,ht⟩
   ·omega
   ·refine .inl ⟨rfl,fun d hd=>?_⟩
    cases hd with
    | nil q=>exact absurd q ht
    | step q _=>exact absurd q (hp _)
  ·exact .inr ⟨d,h1,h2,by omega⟩
 ·rw[ZHI e];exact h.val i y hi
theorem RFg.take_ (h:RFg N E T out r p) {x:Int} (hx:out[p]? = some x) (hx0:x < 0) (hE:∀ j,E p j→j < N) {b:Bool} (hb:b=true ↔ ∃ j:Nat,E p j∧out[j]? = some (r:Int)) : RFg N E T (if b then out.set p ((r:Int)+1) else out) r (p+1):=by
 have hpl:=(List.getElem?_eq_some_iff.1 hx).1
 have hv:=h.val p x hx
 rw[ZEs] at hv
 rcases hv with⟨rfl,hno⟩ | ⟨d,h1,_,_⟩
 case inr=>omega
 cases b with
 | true =>
  obtain⟨j,hj,hjo⟩:=hb.1 rfl
  refine⟨by simpa using h.len,fun i y hi=>?_⟩
  rw[if_pos rfl,List.getElem?_set] at hi
  by_cases e:p=i
  ·rw[if_pos e,if_pos hpl] at hi
   injection hi with hi
   rw[← e,ZHJ]
   rcases h.val j _ hjo with⟨h1,_⟩ | ⟨d,h1,h2,_⟩
   ·omega
   ·have hrd:r=d:=by omega
    subst hrd
    exact .inr ⟨r+1,by omega,⟨.step hj h2.1,fun e he=>hno e he⟩,Nat.le_refl _⟩
  ·rw[if_neg e] at hi
   rw[ZHI (fun q=>e q.symm)];exact h.val i y hi
 | false =>
  refine⟨h.len,fun i y hi=>?_⟩
  rw[if_neg (by simp)] at hi
  by_cases e:i=p
  ·subst e
   rw[hx] at hi;injection hi with hi
   rw[ZHJ]
   refine .inl ⟨hi.symm,fun d hd'=>?_⟩
   have h1:=hno d hd'
   by_cases e:d=r+1
   ·exfalso
    subst e
    cases hd' with
    | @step _ j _ hj hw =>
     obtain⟨e,he,hel⟩:=hw.min
     have hre:e=r:=by
      have:=hno (e+1) (.step hj he.1)
      omega
     subst hre
     have hjl:j < out.length:=by rw[h.len];exact hE j hj
     rcases h.val j _ (List.getElem?_eq_getElem hjl) with⟨h5,h6⟩ | ⟨d,h5,h6,_⟩
     ·have:=h6 e he.1
      unfold bd at this
      split at this <;> omega
     ·have hde:=h6.inj he
      subst hde
      have:=hb.2 ⟨j,hj,by rw[List.getElem?_eq_getElem hjl,h5]⟩
      cases this
   ·omega
  ·rw[ZHI e];exact h.val i y hi
theorem RFg.done (hN:∀ i d,DW E T i d→i < N) (h:RFg N E T out r 0) (hr:N≤r) : FarXL N E T out:=by
 refine⟨h.len,fun i x hi=>?_⟩
 have hv:=h.val i x hi
 rw[ZBV] at hv
 rcases hv with⟨rfl,h2⟩ | ⟨d,h1,h2,_⟩
 ·refine .inl ⟨rfl,fun d hd=>?_⟩
  obtain⟨e,he,hel⟩:=hd.min
  have h3:=he.lt hN
  have h4:=h2 e he.1
  omega
 ·exact .inr ⟨d,h1,h2⟩
theorem RFg.still (hN:∀ i d,DW E T i d→i < N) (h:RFg N E T out r N) (hno:∀ (i:Nat) (x:Int),out[i]? = some x→x≤r) : FarXL N E T out:=by
 have h0:=h.round
 refine⟨h.len,fun i x hi=>?_⟩
 have hv:=h0.val i x hi
 rw[ZBV] at hv
 rcases hv with⟨rfl,h2⟩ | ⟨d,h1,h2,_⟩
 ·refine .inl ⟨rfl,fun d hd=>?_⟩
  obtain⟨e,he,hel⟩:=hd.min
  have h4:=h2 e he.1
  obtain⟨j,hj⟩:=he.down (e - (r+1)) (r+1) (by omega)
  have hjl:j < out.length:=by rw[h.len];exact hN _ _ hj.1
  have h5:=h0.val j _ (List.getElem?_eq_getElem hjl)
  rw[ZBV] at h5
  rcases h5 with⟨_,h7⟩ | ⟨d',h6,h7,_⟩
  ·have:=h7 _ hj.1;omega
  ·have hde:=h7.inj hj
   have:=hno j _ (List.getElem?_eq_getElem hjl)
   omega
 ·exact .inr ⟨d,h1,h2⟩
end
structure BQ (N:Nat) (E:Nat→Nat→Prop) (T:Nat→Prop) (far:Nat→Option Nat) (L:List Nat) (h k:Nat) (ex:Nat→Prop) : Prop where
 kle:k≤h+1
 mem:∀ s,s∈L ↔ ∃ d,far s=some d
 nd:NdI L
 small:∀ (j a d:Nat),L[j]? = some a→far a=some d→d≤j
 lt:∀ s∈L,s < N
 sorted:∀ (i j a b d e:Nat),i≤j→L[i]? = some a→L[j]? = some b→far a=some d→far b=some e→d≤e
 near:∀ a d,L[h]? = some a→far a=some d→∀ b e,far b=some e→e≤d+1
 sound:∀ s d,far s=some d→DW E T s d
 tgt:∀ s,T s→far s=some 0
 done:∀ (i a d s:Nat),i < k→L[i]? = some a→far a=some d→E s a→(∃ e,far s=some e∧e≤d+1)∨(i=h∧ex s)
section
variable {far:Nat→Option Nat} {L:List Nat} {h k:Nat} {ex ex':Nat→Prop}
theorem BQ.start (hL:∀ s,s∈L ↔ T s) (hnd:NdI L) (hlt:∀ s∈L,s < N) (hf:∀ s,far s=if s∈L then some 0 else none) : BQ N E T far L 0 0 (fun _=>False):=by
 have h0:∀ s d,far s=some d→s∈L∧d=0:=fun s d h=>by
  rw[hf] at h
  split at h
  ·rename_i q;injection h with h;exact⟨q,h.symm⟩
  ·cases h
 refine⟨Nat.zero_le _,fun s=>⟨fun h=>⟨0,by rw[hf,if_pos h]⟩,fun ⟨d,h⟩=>(h0 s d h).1⟩,hnd,fun j a d _ h1=>?_,hlt,fun i j a b d e _ _ _ h1 _=>?_,fun a d _ _ b e h1=>?_,fun s d h=>?_,fun s hs=>by rw[hf,if_pos ((hL s).2 hs)],fun i a d s hi=>by omega⟩
 ·have:=(h0 a d h1).2;omega
 ·have:=(h0 a d h1).2;omega
 ·have:=(h0 b e h1).2;omega
 ·obtain⟨h1,rfl⟩:=h0 s d h
  exact .nil ((hL s).1 h1)
theorem BQ.len (q:BQ N E T far L h k ex) : L.length≤N :=
 ZGI N L.length (fun e=>(L[e]?).getD 0) (fun e he=>by
  show(L[e]?).getD 0 < N
  rw[List.getElem?_eq_getElem he]
  exact q.lt _ (List.getElem_mem he)) (fun a b ha hb hab=>by
  have hab:(L[a]?).getD 0=(L[b]?).getD 0:=hab
  rw[List.getElem?_eq_getElem ha,List.getElem?_eq_getElem hb] at hab
  simp only[Option.getD_some] at hab
  exact q.nd a b L[a] (List.getElem?_eq_getElem ha) (by rw[List.getElem?_eq_getElem hb,hab]))
theorem BQ.open_ (q:BQ N E T far L k k (fun _=>False)) {a:Nat} (ha:L[k]? = some a) (hex:∀ s,E s a→ex s) : BQ N E T far L k (k+1) ex :=
 ⟨Nat.le_refl _,q.mem,q.nd,q.small,q.lt,q.sorted,q.near,q.sound,q.tgt,fun i b d s hi hb hd he=>by
  by_cases e:i=k
  ·subst e
   rw[ha] at hb;injection hb with hb;subst hb
   exact .inr ⟨rfl,hex s he⟩
  ·rcases q.done i b d s (by omega) hb hd he with h1 | h1
   ·exact .inl h1
   ·exact h1.2.elim⟩
theorem BQ.pass (q:BQ N E T far L h k ex) {a:Nat} (ha:L[h]? = some a) (hex:∀ s,ex s→ex' s∨(∃ e,far s=some e)∨¬ E s a) : BQ N E T far L h k ex' :=
 ⟨q.kle,q.mem,q.nd,q.small,q.lt,q.sorted,q.near,q.sound,q.tgt,fun i b d s hi hb hd he=>by
  rcases q.done i b d s hi hb hd he with h1 | ⟨rfl,h1⟩
  ·exact .inl h1
  ·rw[ha] at hb;injection hb with hb;subst hb
   rcases hex s h1 with h2 | ⟨e,h2⟩ | h2
   ·exact .inr ⟨rfl,h2⟩
   ·exact .inl ⟨e,h2,q.near a d ha hd s e h2⟩
   ·exact absurd he h2⟩
theorem BQ.push (q:BQ N E T far L h k ex) {a d s:Nat} (ha:L[h]? = some a) (hd:far a=some d) (hs:far s=none) (hE:E s a) (hsN:s < N) (hex:∀ x,ex x→ex' x∨x=s) : BQ N E T (fun x=>if x=s then some (d+1) else far x) (L ++ [s]) h k ex':=by
 have hne:∀ x e,far x=some e→x≠s:=fun x e h1 e2=>by rw[e2,hs] at h1;cases h1
 have hnm:s ∉ L:=fun h1=>by obtain⟨e,h2⟩:=(q.mem s).1 h1;rw[hs] at h2;cases h2
 have hl:=(List.getElem?_eq_some_iff.1 ha).1
 have up:∀ {i:Nat} {b:Nat},(L ++ [s])[i]? = some b→(L[i]? = some b∧b≠s)∨(i=L.length∧b=s):=fun {i b} h1=>by
  rw[List.getElem?_append] at h1
  split at h1
  ·exact .inl ⟨h1,fun e=>hnm (e ▸ List.mem_of_getElem? h1)⟩
  ·rename_i h2
   have h3:i - L.length=0:=by have:=(List.getElem?_eq_some_iff.1 h1).1;simp at this;omega
   rw[h3] at h1
   injection h1 with h1
   exact .inr ⟨by omega,h1.symm⟩
 have vs:∀ x,x≠s→(if x=s then some (d+1) else far x)=far x:=fun x hx=>if_neg hx
 refine⟨q.kle,fun x=>?_,fun i j x h1 h2=>?_,fun j x dx h1 h2=>?_,fun x hx=>?_,fun i j x y dx dy hij h1 h2 h3 h4=>?_,fun x dx h1 h2 y dy h3=>?_,fun x dx h1=>?_,fun x hx=>?_,fun i b db x hi hb hdb he=>?_⟩
 ·by_cases e:x=s
  ·subst e
   simp
  ·simp only[if_neg e,List.mem_append,List.mem_singleton,e,or_false]
   exact q.mem x
 ·rcases up h1 with⟨a1,a2⟩ | ⟨a1,a2⟩ <;> rcases up h2 with⟨b1,b2⟩ | ⟨b1,b2⟩
  ·exact q.nd i j x a1 b1
  ·exact absurd b2 a2
  ·exact absurd a2 b2
  ·omega
 ·rcases up h1 with⟨a1,a2⟩ | ⟨a1,a2⟩
  ·simp only[if_neg a2] at h2
   exact q.small j x dx a1 h2
  ·simp only[if_pos a2] at h2
   injection h2 with h2
   have:=q.small h a d ha hd
   omega
 ·rcases List.mem_append.1 hx with hx | hx
  ·exact q.lt x hx
  ·rw[List.mem_singleton] at hx;omega
 ·rcases up h1 with⟨a1,a2⟩ | ⟨a1,a2⟩
  ·simp only[if_neg a2] at h3
   rcases up h2 with⟨b1,b2⟩ | ⟨b1,b2⟩
   ·simp only[if_neg b2] at h4
    exact q.sorted i j x y dx dy hij a1 b1 h3 h4
   ·simp only[if_pos b2] at h4
    injection h4 with h4
    have:=q.near a d ha hd x dx h3
    omega
  ·rcases up h2 with⟨b1,b2⟩ | ⟨b1,b2⟩
   ·have:=(List.getElem?_eq_some_iff.1 b1).1;omega
   ·simp only[if_pos a2] at h3
    simp only[if_pos b2] at h4
    rw[h3] at h4
    injection h4 with h4
    omega
 ·rcases up h1 with⟨a1,a2⟩ | ⟨a1,a2⟩
  ·simp only[if_neg a2] at h2
   rw[ha] at a1;injection a1 with a1;subst a1
   rw[hd] at h2;injection h2 with h2;subst h2
   by_cases e:y=s
   ·simp only[if_pos e] at h3
    injection h3 with h3;omega
   ·simp only[if_neg e] at h3
    exact q.near a d ha hd y dy h3
  ·omega
 ·by_cases e:x=s
  ·simp only[if_pos e] at h1
   injection h1 with h1
   subst h1 e
   exact .step hE (q.sound a d hd)
  ·simp only[if_neg e] at h1
   exact q.sound x dx h1
 ·have h1:=q.tgt x hx
  simp only[if_neg (hne x 0 h1)]
  exact h1
 ·rcases up hb with⟨b1,b2⟩ | ⟨b1,b2⟩
  ·simp only[if_neg b2] at hdb
   by_cases e:x=s
   ·subst e
    rcases q.done i b db x hi b1 hdb he with⟨e,h1,_⟩ | ⟨rfl,h1⟩
    ·rw[hs] at h1;cases h1
    ·rw[ha] at b1;injection b1 with b1;subst b1
     rw[hd] at hdb;injection hdb with hdb;subst hdb
     exact .inl ⟨d+1,by simp,Nat.le_refl _⟩
   ·simp only[if_neg e]
    rcases q.done i b db x hi b1 hdb he with h1 | ⟨h0,h1⟩
    ·exact .inl h1
    ·rcases hex x h1 with h2 | h2
     ·exact .inr ⟨h0,h2⟩
     ·exact absurd h2 e
  ·have:=q.kle
   omega
theorem BQ.close (q:BQ N E T far L k (k+1) (fun _=>False)) : BQ N E T far L (k+1) (k+1) (fun _=>False) :=
 ⟨by omega,q.mem,q.nd,q.small,q.lt,q.sorted,fun a d ha hd b e hb=>by
  have hl:=(List.getElem?_eq_some_iff.1 ha).1
  have h0:L[k]? = some (L[k]'(by omega)):=List.getElem?_eq_getElem _
  obtain⟨d0,hd0⟩:=(q.mem _).1 (List.mem_of_getElem? h0)
  have h1:=q.near _ d0 h0 hd0 b e hb
  have h2:=q.sorted k (k+1) _ a d0 d (by omega) h0 ha hd0 hd
  omega,q.sound,q.tgt,fun i b d s hi hb hd he=>by
  rcases q.done i b d s hi hb hd he with h1 | h1
  ·exact .inl h1
  ·exact h1.2.elim⟩
theorem BQ.fin (q:BQ N E T far L k k (fun _=>False)) (hk:L.length≤k) (s:Nat) : (∀ d,far s=some d→MinD E T s d)∧(far s=none→∀ d,¬ DW E T s d):=by
 have claim:∀ {s d},DW E T s d→∃ e,far s=some e∧e≤d:=fun {s d} hw=>by
  induction hw with
  | nil ht=>exact⟨0,q.tgt _ ht,Nat.le_refl _⟩
  | @step i j d he _ ih =>
   obtain⟨e,h1,h2⟩:=ih
   obtain⟨m,hm⟩:=List.mem_iff_getElem?.1 ((q.mem j).2 ⟨e,h1⟩)
   have hl:=(List.getElem?_eq_some_iff.1 hm).1
   rcases q.done m j e i (by omega) hm h1 he with⟨e',h3,h4⟩ | h3
   ·exact⟨e',h3,by omega⟩
   ·exact h3.2.elim
 refine⟨fun d hd=>⟨q.sound s d hd,fun e he=>?_⟩,fun hn d hd=>?_⟩
 ·obtain⟨e',h1,h2⟩:=claim he
  rw[hd] at h1;injection h1 with h1;omega
 ·obtain⟨e',h1,h2⟩:=claim hd
  rw[hn] at h1;cases h1
end
end
end Go.Proofs.YtffgnjgphkdodaaDoor
namespace Go.Proofs.YtffgnjgphkdodaaDoor
open Go Go.RowKit
def slNd:List Nat:=[22,23,24,25,26,27,21,28,29,11,12]
noncomputable def needR (u:Unit_) (t:Int) (F:List Int) (n:Int) : Bool × Int :=
 if faultE u t F n=0 then (!emptyR u t (withoutL F n),0) else (false,faultE u t F n)
theorem ZIq {u:Unit_} {t:Int} {F:List Int} : (!emptyR u t F,(0:Int))=(decide (0 < (loadsR u t F).1.length),0):=by
 unfold emptyR
 cases (loadsR u t F).1 with
 | nil=>rfl
 | cons a b=>rw[decide_eq_true (by simp only[List.length_cons];omega)];rfl
theorem ZAu {N:Nat} : ∀ (F:List Int) (q:Int),-1≤q→fenB N q F=true→(F.length:Int)≤N - 1 - q∨F=[]
 | [],_,_,_=>.inr rfl
 | x :: F,q,hq,h=>by
  refine .inl ?_
  unfold fenB at h
  obtain⟨h1,h2⟩:=Bool.and_eq_true_iff.1 h
  have h3:=of_decide_eq_true h1
  rcases ZAu F x (by omega) h2 with h4 | rfl
  ·simp only[List.length_cons]
   omega
  ·simp only[List.length_cons,List.length_nil]
   omega
set_option maxRecDepth 100000 in
set_option maxHeartbeats 2000000 in
theorem Z6 (u:Unit_) (cs:List Value) (t:Int) (v:Value) (F:List Int) (n:Int) (w:World) (hT:Tab w) (hu:UnitV (cmap w) cs u) (hok:UOk u) (hF:Ints (cmap w) v F) :
  Calls Tryd.prog 11 #[.agg cs.toArray,.int .i64 t,v,.int .i64 n] w fun e w'=>e=.returned (.tuple #[.bool (needR u t F n).1,.int .i64 (needR u t F n).2])∧Below w.heap.size w w':=by
 have HAS:=Hd_ fun w1 (h:Below w.heap.size w w1)=>ZCl u cs t v F n w1 (hu.mono (ZA h)) hok (hF.mono (ZA h))
 have hwo:=fun w1 (h:Below w.heap.size w w1) (hl:F.length≤4294967295)=>ZAg v F n w1 (hF.mono (ZA h)) hl
 have hlo:=fun w1 (x:Value) (h:Below w.heap.size w w1) (hx:Ints (cmap w1) x (withoutL F n))=>Zx u cs t x (withoutL F n) w1 (hT.below h) (hu.mono (ZA h)) hok hx
 obtain⟨sv,lv,gv,rfl,-,-,-⟩:=hu
 have hbx:=Blk.new w 25 [sv,lv,gv]
 have hb0:=ZB w (.cells #[sv,lv,gv] 25)
 have HBX:=Hd_ (And.intro hbx hb0)
 obtain⟨fA,fc,rfl,-⟩:=id hF
 clear hbx hb0 hF hT
 by_cases hE:faultE u t F n=0
 ·have hnr:needR u t F n=(!emptyR u t (withoutL F n),0):=by unfold needR;rw[if_pos hE]
  obtain⟨hea,tn,g,ht,hg,hfb,-⟩:=Zy hE
  have hll:F.length≤4294967295:=by
   have hrg:=(ZK (Zw hea).1).graphs g (List.mem_of_getElem? hg)
   have:=hrg.whole.most
   rcases ZAu F (-1) (by omega) hfb with h | h
   ·omega
   ·rw[h];simp
  rw[hE] at HAS
  have HND:=Hd_ hnr
  have HWN:=Hd_ fun w1 h=>hwo w1 h hll
  have HLN:=Hd_ hlo
  clear hE hnr hea ht hg hfb hll hwo hlo
  go_enter Tryd.func11,Tryd.ntmps11
  go_wp2_with (first
   | (go_at_call 29
      refine(HAS.out _ HBX.out.2).mono ?_
      rintro e w1 ⟨rfl,hb1⟩
      have HB1:=Hd_ (And.intro (HBX.out.2.trans (hb1.mono HBX.out.2.size)) (HBX.out.1.below hb1 HBX.out.1.lt))
      clear hb1))
  obtain⟨W0,rfl⟩ : ∃ W0:World,W0=w1:=⟨_,rfl⟩
  have HBB:=Hd_ HB1.out.1
  have HUW:=Hd_ HB1.out.2
  have HWO:=Hd_ fun wx (h:Below W0.heap.size W0 wx)=>HWN.out wx (HBB.out.trans (h.mono HBB.out.size))
  have HLO:=Hd_ fun wx (x:Value) (h:Below W0.heap.size W0 wx) (hx:Ints (cmap wx) x (withoutL F n))=>HLN.out wx x (HBB.out.trans (h.mono HBB.out.size)) hx
  refine ZAf fun a0 ha0=>?_
  have t4:a0.eval (.tmp 4)=.pointer (some ⟨w.heap.size,0,none⟩):=by rw[ha0];rfl
  have t1:a0.eval (.tmp 1)=.int .i64 t:=by rw[ha0];rfl
  have t2:a0.eval (.tmp 2)=.slice fA F.length fc:=by rw[ha0];rfl
  have t3:a0.eval (.tmp 3)=.int .i64 n:=by rw[ha0];rfl
  have hsz:a0.tmps.size=33:=by rw[ha0];rfl
  have HA0:=Hd_ ha0;clear ha0
  refine Zh [(22,.is (.agg #[sv,lv,gv])),(23,.is (.int .i64 t)),(24,.is (.slice fA F.length fc)),(25,.is (.int .i64 n)),(26,srO W0.heap.size 3 (withoutL F n).length (ints (withoutL F n))),(27,srT W0.heap.size 3 (loadsR u t (withoutL F n)).1.length (ints (loadsR u t (withoutL F n)).1) (loadsR u t (withoutL F n)).2),(21,srT W0.heap.size 3 (loadsR u t (withoutL F n)).1.length (ints (loadsR u t (withoutL F n)).1) (loadsR u t (withoutL F n)).2),(28,srO W0.heap.size 3 (loadsR u t (withoutL F n)).1.length (ints (loadsR u t (withoutL F n)).1)),(29,.is (.int .i64 (loadsR u t (withoutL F n)).2)),(11,srO W0.heap.size 3 (loadsR u t (withoutL F n)).1.length (ints (loadsR u t (withoutL F n)).1)),(12,.is (.int .i64 (loadsR u t (withoutL F n)).2))] (by kernel_rfl) (by kernel_rfl) ?steps ?done
  case steps =>
   refine⟨?_,?_,?_,?_,?_,?_,?_,?_,?_,?_,?_,trivial⟩
   ·
    refine JW.step (slots:=slNd) rfl (by decide) (by rw[hsz];decide) (22,.is (.agg #[sv,lv,gv])) rfl rfl rfl ?_
    intro D a wx K hD hp h hK
    have hfr:Fr slNd a0 a:=h.fr
    refine ZD rfl ?_
    have q4:a.eval (.tmp 4)=.pointer (some ⟨w.heap.size,0,none⟩):=(hfr.eval (j:=4) (by decide)).trans t4
    refine ZAG hK 25 _ rfl w.heap.size (0) q4 _ (by have hb:=h.below;exact fun j v hj=>by rw[Nat.zero_add,(HUW.out.below hb HUW.out.lt).cell];exact hj) Tryd.underlying25 rfl (by kernel_rfl)
   ·
    refine JW.step (slots:=slNd) rfl (by decide) (by rw[hsz];decide) (23,.is (.int .i64 t)) rfl rfl rfl ?_
    intro D a wx K hD hp h hK
    have hfr:Fr slNd a0 a:=h.fr
    refine ZD rfl ?_
    have q1:a.eval (.tmp 1)=.int .i64 t:=(hfr.eval (j:=1) (by decide)).trans t1
    exact ZH hK rfl q1
   ·
    refine JW.step (slots:=slNd) rfl (by decide) (by rw[hsz];decide) (24,.is (.slice fA F.length fc)) rfl rfl rfl ?_
    intro D a wx K hD hp h hK
    have hfr:Fr slNd a0 a:=h.fr
    refine ZD rfl ?_
    have q2:a.eval (.tmp 2)=.slice fA F.length fc:=(hfr.eval (j:=2) (by decide)).trans t2
    exact ZH hK rfl q2
   ·
    refine JW.step (slots:=slNd) rfl (by decide) (by rw[hsz];decide) (25,.is (.int .i64 n)) rfl rfl rfl ?_
    intro D a wx K hD hp h hK
    have hfr:Fr slNd a0 a:=h.fr
    refine ZD rfl ?_
    have q3:a.eval (.tmp 3)=.int .i64 n:=(hfr.eval (j:=3) (by decide)).trans t3
    exact ZH hK rfl q3
   ·
    refine JW.step (slots:=slNd) rfl (by decide) (by rw[hsz];decide) (26,srO W0.heap.size 3 (withoutL F n).length (ints (withoutL F n))) rfl rfl rfl ?_
    intro D a wx K hD hp h hK
    have hfr:Fr slNd a0 a:=h.fr
    refine ZD rfl ?_
    have q24:a.eval (.tmp 24)=.slice fA F.length fc:=h.val 2 _ rfl (hp 2 (by decide))
    have q25:a.eval (.tmp 25)=.int .i64 n:=h.val 3 _ rfl (hp 3 (by decide))
    refine ZAH hK Tryd.func30 (by kernel_rfl) (by kernel_rfl) rfl #[.slice fA F.length fc,.int .i64 n] (by simp only[List.map_toArray,List.map_cons,List.map_nil,q24,q25];try rfl) ?_
    refine(HWO.out wx h.below).mono ?_
    rintro e w' ⟨v,rfl,hf,hb⟩
    exact⟨_,rfl,hb,Zi hf h.below.size⟩
   ·
    refine JW.step (slots:=slNd) rfl (by decide) (by rw[hsz];decide) (27,srT W0.heap.size 3 (loadsR u t (withoutL F n)).1.length (ints (loadsR u t (withoutL F n)).1) (loadsR u t (withoutL F n)).2) rfl rfl rfl ?_
    intro D a wx K hD hp h hK
    have hfr:Fr slNd a0 a:=h.fr
    refine ZD rfl ?_
    have q22:a.eval (.tmp 22)=.agg #[sv,lv,gv]:=h.val 0 _ rfl (hp 0 (by decide))
    have q23:a.eval (.tmp 23)=.int .i64 t:=h.val 1 _ rfl (hp 1 (by decide))
    have q26:=h.val 4 _ rfl (hp 4 (by decide))
    have q26:wx.ownsRow W0.heap.size 3 1 (a.eval (.tmp 26)) (withoutL F n).length (ints (withoutL F n)):=q26
    generalize hxx:a.eval (.tmp 26)=xx at q26
    refine ZAH hK Tryd.func14 (by kernel_rfl) (by kernel_rfl) rfl #[.agg #[sv,lv,gv],.int .i64 t,xx] (by simp only[List.map_toArray,List.map_cons,List.map_nil,q22,q23,hxx];try rfl) ?_
    refine(HLO.out wx xx h.below (Zv q26)).mono ?_
    rintro e w' ⟨r,rfl,hr,hb⟩
    exact⟨_,rfl,hb,r,rfl,Zi hr h.below.size⟩
   ·
    refine JW.step (slots:=slNd) rfl (by decide) (by rw[hsz];decide) (21,srT W0.heap.size 3 (loadsR u t (withoutL F n)).1.length (ints (loadsR u t (withoutL F n)).1) (loadsR u t (withoutL F n)).2) rfl rfl rfl ?_
    intro D a wx K hD hp h hK
    have hfr:Fr slNd a0 a:=h.fr
    refine ZD rfl ?_
    have q27:=h.val 5 _ rfl (hp 5 (by decide))
    exact ZH hK rfl q27
   ·
    refine JW.step (slots:=slNd) rfl (by decide) (by rw[hsz];decide) (28,srO W0.heap.size 3 (loadsR u t (withoutL F n)).1.length (ints (loadsR u t (withoutL F n)).1)) rfl rfl rfl ?_
    intro D a wx K hD hp h hK
    have hfr:Fr slNd a0 a:=h.fr
    refine ZD rfl ?_
    have q21:=h.val 6 _ rfl (hp 6 (by decide))
    obtain⟨r60,hr1,hr2⟩:=q21
    have q21:a.eval (.tmp 21)=.tuple #[r60,.int .i64 (loadsR u t (withoutL F n)).2]:=hr1
    refine ZBw r60 hK hr2 (by clear hfr hr1 hr2;generalize a.eval=ρ at *;go_simp)
   ·
    refine JW.step (slots:=slNd) rfl (by decide) (by rw[hsz];decide) (29,.is (.int .i64 (loadsR u t (withoutL F n)).2)) rfl rfl rfl ?_
    intro D a wx K hD hp h hK
    have hfr:Fr slNd a0 a:=h.fr
    refine ZD rfl ?_
    have q21:=h.val 6 _ rfl (hp 6 (by decide))
    obtain⟨r60,hr1,hr2⟩:=q21
    have q21:a.eval (.tmp 21)=.tuple #[r60,.int .i64 (loadsR u t (withoutL F n)).2]:=hr1
    refine ZG hK (by clear hfr hr1 hr2;generalize a.eval=ρ at *;go_simp)
   ·
    refine JW.step (slots:=slNd) rfl (by decide) (by rw[hsz];decide) (11,srO W0.heap.size 3 (loadsR u t (withoutL F n)).1.length (ints (loadsR u t (withoutL F n)).1)) rfl rfl rfl ?_
    intro D a wx K hD hp h hK
    have hfr:Fr slNd a0 a:=h.fr
    refine ZD rfl ?_
    have q28:=h.val 7 _ rfl (hp 7 (by decide))
    exact ZAQ hK rfl q28
   ·
    refine JW.step (slots:=slNd) rfl (by decide) (by rw[hsz];decide) (12,.is (.int .i64 (loadsR u t (withoutL F n)).2)) rfl rfl rfl ?_
    intro D a wx K hD hp h hK
    have hfr:Fr slNd a0 a:=h.fr
    refine ZD rfl ?_
    have q29:a.eval (.tmp 29)=.int .i64 (loadsR u t (withoutL F n)).2:=h.val 8 _ rfl (hp 8 (by decide))
    refine ZG hK (by clear hfr;generalize a.eval=ρ at *;go_simp)
  case done =>
   intro D a wz hall h
   have hd:∀ i,i < 11→D i=true:=hall
   have hfin:=Fr.allW (slots:=slNd) h.fr (by rw[hsz];decide)
   have v11:wz.ownsRow W0.heap.size 3 1 (a.eval (.tmp 11)) (loadsR u t (withoutL F n)).1.length (ints (loadsR u t (withoutL F n)).1):=h.val 9 _ rfl (hd 9 (by decide))
   simp only[putW,slNd] at hfin
   rw[(show a.eval (.tmp 22)=.agg #[sv,lv,gv] from h.val 0 _ rfl (hd 0 (by decide))),(show a.eval (.tmp 23)=.int .i64 t from h.val 1 _ rfl (hd 1 (by decide))),(show a.eval (.tmp 24)=.slice fA F.length fc from h.val 2 _ rfl (hd 2 (by decide))),(show a.eval (.tmp 25)=.int .i64 n from h.val 3 _ rfl (hd 3 (by decide))),(show a.eval (.tmp 29)=.int .i64 (loadsR u t (withoutL F n)).2 from h.val 8 _ rfl (hd 8 (by decide))),(show a.eval (.tmp 12)=.int .i64 (loadsR u t (withoutL F n)).2 from h.val 10 _ rfl (hd 10 (by decide)))] at hfin
   have hbz:=h.below
   generalize a.eval (.tmp 11)=r11 at hfin v11
   generalize a.eval (.tmp 28)=r28 at hfin
   generalize a.eval (.tmp 21)=r21 at hfin
   generalize a.eval (.tmp 27)=r27 at hfin
   generalize a.eval (.tmp 26)=r26 at hfin
   rw[hfin,HA0.out]
   clear hfin HA0 h hall hd t4 t1 t2 t3 hsz
   simp only[Act.put,List.setIfInBounds_toArray,List.set_cons_zero,List.set_cons_succ]
   obtain⟨N,hN⟩ : ∃ N,(loadsR u t (withoutL F n)).1.length=N:=⟨_,rfl⟩
   rw[hN] at v11
   obtain⟨rA,rc,rfl,-⟩:=ZE v11
   have hnd:needR u t F n=(decide (0 < N),0):=by rw[HND.out,← hN,ZIq]
   have HND2:=Hd_ hnd
   have HZ:=Hd_ hbz
   clear hbz v11 hN hnd HND
   go_wp2
   go_ret2
   refine⟨by rw[HND2.out];rfl,HBB.out.trans (HZ.out.mono HBB.out.size)⟩
 ·have hnr:needR u t F n=(false,faultE u t F n):=by unfold needR;rw[if_neg hE]
  have hd:(faultE u t F n != 0)=true:=by simp[hE]
  obtain⟨er,her⟩ : ∃ er,faultE u t F n=er:=⟨_,rfl⟩
  rw[her] at hnr HAS hd
  have HND:=Hd_ hnr
  clear hE hnr her hwo hlo
  go_enter Tryd.func11,Tryd.ntmps11
  go_wp2_with (first
   | (go_at_call 29
      refine(HAS.out _ HBX.out.2).mono ?_
      rintro e w1 ⟨rfl,hb1⟩
      have HB1:=Hd_ (HBX.out.2.trans (hb1.mono HBX.out.2.size))
      clear hb1))
  go_ret2
  exact⟨by rw[HND.out];rfl,HB1.out⟩
end Go.Proofs.YtffgnjgphkdodaaDoor
namespace Go.Proofs.YtffgnjgphkdodaaDoor
open Go
def num (i:Nat) (p:Bool) : Nat:=2 * i+(if p=true then 1 else 0)
theorem ZAO {i j:Nat} {p q:Bool} (h:num i p=num j q) : i=j∧p=q:=by
 unfold num at h
 cases p <;> cases q <;> simp only[if_true,Bool.false_eq_true,if_false] at h
 ·exact⟨by omega,rfl⟩
 ·omega
 ·omega
 ·exact⟨by omega,rfl⟩
theorem ZBm {N i:Nat} (h:i < N) (p:Bool) : num i p < 2 * N:=by
 unfold num
 split <;> omega
theorem ZHl (k:Nat) : num (k / 2) (decide (k % 2=1))=k:=by
 unfold num
 by_cases h:k % 2=1
 ·rw[decide_eq_true h,if_pos rfl];omega
 ·rw[decide_eq_false h,if_neg (by simp)];omega
def spE (g:Graph) (R:List Int) (nd:Int) (k k':Nat) : Prop:=∃ (i:Nat) (p:Bool) (j:Nat) (n:Node),k=num i p∧k'=num j (p || decide ((j:Int)=nd))∧g.nodes[i]? = some n∧drB n=false∧(j:Int)∈fol n∧(j:Int) ∉ R
def spT (u:Unit_) (g:Graph) (k:Nat) : Prop:=∃ (i:Nat) (n:Node),k=num i true∧g.nodes[i]? = some n∧ldB u n=true
def rcE (g:Graph) (R:List Int) (nd:Int) (k k':Nat) : Prop:=spE g R nd k k'∧∃ (i:Nat) (p:Bool),k=num i p∧ReachC g (-1) i
def rcT (u:Unit_) (g:Graph) (R:List Int) (k:Nat) : Prop:=∃ i:Nat,k=num i true∧(mkAt u g [] i).load=true∧(i:Int) ∉ R
noncomputable def spD (u:Unit_) (g:Graph) (R:List Int) (nd:Int) : List Int:=farL (2 * g.nodes.length) (spE g R nd) (spT u g)
section
variable {u:Unit_} {g:Graph} {R:List Int} {nd:Int}
theorem ZAY {i:Nat} : (mkAt u g [] i).load=true ↔ ReachC g (-1) i∧∃ n,g.nodes[i]? = some n∧ldB u n=true:=by
 unfold mkAt
 cases h:g.nodes[i]? with
 | none=>simp[mk0]
 | some n=>simp
theorem ZAS {i:Nat} : (mkAt u g [] i).store=true ↔ ReachC g (-1) i∧∃ n,g.nodes[i]? = some n∧stB u n=true:=by
 unfold mkAt
 cases h:g.nodes[i]? with
 | none=>simp[mk0]
 | some n=>simp
theorem ZIc {n:Node} (h:stB u n=true) : drB n=false:=by
 have h3:=of_decide_eq_true h
 exact decide_eq_false (by omega)
theorem ZE5 {i j:Nat} {n:Node} {p:Bool} (hn:g.nodes[i]? = some n) (hd:drB n=false) (hj:(j:Int)∈fol n) (hR:(j:Int) ∉ R) : spE g R nd (num i p) (num j (p || decide ((j:Int)=nd))):=⟨i,p,j,n,rfl,rfl,hn,hd,hj,hR⟩
theorem ZCG {i:Nat} {p:Bool} {k:Nat} (h:spE g R nd (num i p) k) : ∃ (j:Nat) (n:Node),k=num j (p || decide ((j:Int)=nd))∧g.nodes[i]? = some n∧drB n=false∧(j:Int)∈fol n∧(j:Int) ∉ R:=by
 obtain⟨i',p',j,n,h1,h2,h3⟩:=h
 obtain⟨rfl,rfl⟩:=ZAO h1
 exact⟨j,n,h2,h3⟩
theorem ZJG {k k':Nat} (h:spE g R nd k k') : k < 2 * g.nodes.length:=by
 obtain⟨i,p,j,n,h1,_,h3,_⟩:=h
 rw[h1]
 exact ZBm (List.getElem?_eq_some_iff.1 h3).1 p
theorem sp_lt {k d:Nat} (h:DW (spE g R nd) (spT u g) k d) : k < 2 * g.nodes.length:=by
 cases h with
 | nil h =>
  obtain⟨i,n,h1,h2,_⟩:=h
  rw[h1]
  exact ZBm (List.getElem?_eq_some_iff.1 h2).1 _
 | step h _=>exact ZJG h
theorem ZAd:FarXL (2 * g.nodes.length) (spE g R nd) (spT u g) (spD u g R nd):=ZJr _ _ _
theorem ZEQ:(spD u g R nd).length=2 * g.nodes.length:=ZAd.1
theorem ZJX {k d:Nat} (h:DW (rcE g R nd) (rcT u g R) k d) : DW (spE g R nd) (spT u g) k d:=by
 induction h with
 | nil h =>
  obtain⟨i,h1,h2,_⟩:=h
  obtain⟨_,n,h3,h4⟩:=ZAY.1 h2
  exact .nil ⟨i,n,h1,h3,h4⟩
 | step h _ ih=>exact .step h.1 ih
theorem rc_of {d:Nat} : ∀ {i:Nat} {p:Bool},ReachC g (-1) i→((i:Int) ∉ R∨p=false)→DW (spE g R nd) (spT u g) (num i p) d→DW (rcE g R nd) (rcT u g R) (num i p) d:=by
 induction d with
 | zero =>
  intro i p hr hp h
  generalize hk:num i p=k at h
  cases h with
  | nil h =>
   obtain⟨j,n,h1,h2,h3⟩:=h
   rw[h1] at hk
   obtain⟨rfl,rfl⟩:=ZAO hk
   refine h1 ▸ .nil ⟨i,rfl,ZAY.2 ⟨hr,n,h2,h3⟩,?_⟩
   rcases hp with hp | hp
   ·exact hp
   ·cases hp
 | succ d ih =>
  intro i p hr _ h
  generalize hk:num i p=k at h
  cases h with
  | @step _ k' _ he hw =>
   subst hk
   obtain⟨j,n,rfl,hn,hd,hj,hR⟩:=ZCG he
   exact .step ⟨he,i,p,rfl,hr⟩ (ih (.step hr (by omega) hn hj) (.inl hR) hw)
theorem ZB1 {far:Nat→Option Nat} (hf:∀ s,(∀ d,far s=some d→MinD (rcE g R nd) (rcT u g R) s d)∧(far s=none→∀ d,¬ DW (rcE g R nd) (rcT u g R) s d)) {i:Nat} {p:Bool} (hi:i < g.nodes.length) (hr:ReachC g (-1) i) (hp:(i:Int) ∉ R∨p=false) :
  (spD u g R nd)[num i p]? = some (match far (num i p) with | some d=>(d:Int) | none=>-1):=by
 refine ZAd.at_ (ZBm hi p) ?_
 have h:=hf (num i p)
 cases hq:far (num i p) with
 | none=>exact .inl ⟨rfl,fun d hd=>h.2 hq d (rc_of hr hp hd)⟩
 | some d =>
  have h1:=h.1 d hq
  exact .inr ⟨d,rfl,ZJX h1.1,fun e he=>h1.2 e (rc_of hr hp he)⟩
def nxt (nd:Int) (p:Bool) (k:Int) : Nat:=num k.toNat (p || decide (k=nd))
def IsBest (D:List Int) (R:List Int) (nd:Int) (p:Bool) (x:Int) (ks:List Int) (k:Int) : Prop:=k∈ks∧(k ∉ R∧D[nxt nd p k]? = some x)∧∀ y∈ks,(y ∉ R∧D[nxt nd p y]? = some x)→k≤y
theorem IsBest.inj {D:List Int} {p:Bool} {x:Int} {ks:List Int} {k k':Int} (h:IsBest D R nd p x ks k) (h':IsBest D R nd p x ks k') : k=k':=by
 have:=h.2.2 k' h'.1 h'.2.1
 have:=h'.2.2 k h.1 h.2.1
 omega
open Classical in
noncomputable def bestS (D:List Int) (R:List Int) (nd:Int) (p:Bool) (x:Int) : Int→List Int→Int
 | b,[]=>b
 | b,k :: ks=>bestS D R nd p x (if (k ∉ R∧D[nxt nd p k]? = some x)∧(b < 0∨k < b) then k else b) ks
theorem ZEq {D:List Int} {p:Bool} {x:Int} : ∀ (ks:List Int) (b:Int),(∀ k∈ks,0≤k) →
  (bestS D R nd p x b ks=b∧∀ y∈ks,(y ∉ R∧D[nxt nd p y]? = some x)→0≤b∧b≤y) ∨
  (bestS D R nd p x b ks∈ks∧(bestS D R nd p x b ks ∉ R∧D[nxt nd p (bestS D R nd p x b ks)]? = some x)∧(b < 0∨bestS D R nd p x b ks < b)∧∀ y∈ks,(y ∉ R∧D[nxt nd p y]? = some x)→bestS D R nd p x b ks≤y)
 | [],b,_=>.inl ⟨rfl,fun y h=>by cases h⟩
 | k :: ks,b,h0=>by
  have hk:=h0 k (by simp)
  have h0':∀ k∈ks,0≤k:=fun k hk=>h0 k (by simp[hk])
  unfold bestS
  by_cases c:(k ∉ R∧D[nxt nd p k]? = some x)∧(b < 0∨k < b)
  ·rw[if_pos c]
   rcases ZEq ks k h0' with⟨h1,h2⟩ | ⟨h1,h2,h3,h4⟩
   ·rw[h1]
    refine .inr ⟨by simp,c.1,c.2,fun y hy hg=>?_⟩
    rcases List.mem_cons.1 hy with rfl | hy
    ·omega
    ·exact(h2 y hy hg).2
   ·refine .inr ⟨by simp[h1],h2,by omega,fun y hy hg=>?_⟩
    rcases List.mem_cons.1 hy with rfl | hy
    ·omega
    ·exact h4 y hy hg
  ·rw[if_neg c]
   rcases ZEq ks b h0' with⟨h1,h2⟩ | ⟨h1,h2,h3,h4⟩
   ·refine .inl ⟨h1,fun y hy hg=>?_⟩
    rcases List.mem_cons.1 hy with rfl | hy
    ·by_cases c2:b < 0∨y < b
     ·exact absurd ⟨hg,c2⟩ c
     ·omega
    ·exact h2 y hy hg
   ·refine .inr ⟨by simp[h1],h2,h3,fun y hy hg=>?_⟩
    rcases List.mem_cons.1 hy with rfl | hy
    ·by_cases c2:b < 0∨y < b
     ·exact absurd ⟨hg,c2⟩ c
     ·omega
    ·exact h4 y hy hg
theorem ZEr {D:List Int} {p:Bool} {x:Int} {ks:List Int} (h0:∀ k∈ks,0≤k) {y:Int} (hy:y∈ks) (hg:y ∉ R∧D[nxt nd p y]? = some x) : IsBest D R nd p x ks (bestS D R nd p x (-1) ks):=by
 rcases ZEq ks (-1) h0 with⟨_,h2⟩ | ⟨h1,h2,_,h4⟩
 ·have:=h2 y hy hg;omega
 ·exact⟨h1,h2,h4⟩
theorem IsBest.congr {D:List Int} {p:Bool} {x:Int} {ks ks':List Int} {k:Int} (h:∀ y,y∈ks ↔ y∈ks') (hb:IsBest D R nd p x ks k) : IsBest D R nd p x ks' k:=⟨(h k).1 hb.1,hb.2.1,fun y hy=>hb.2.2 y ((h y).2 hy)⟩
noncomputable def waySp (g:Graph) (D:List Int) (R:List Int) (nd:Int) : Nat→Int→Bool→List Int
 | 0,i,_=>[i]
 | d+1,i,p=>i :: waySp g D R nd d (bestS D R nd p (d:Int) (-1) (folAt g i)) (p || decide (bestS D R nd p (d:Int) (-1) (folAt g i)=nd))
theorem ZAc (D:List Int) : ∀ (d:Nat) (i:Int) (p:Bool),(waySp g D R nd d i p).length=d+1
 | 0,_,_=>rfl
 | d+1,i,p=>by simp[waySp,ZAc D d]
theorem ZCD (D:List Int) : ∀ (d:Nat) (i:Int) (p:Bool),∃ l,waySp g D R nd d i p=i :: l
 | 0,_,_=>⟨_,rfl⟩
 | _+1,_,_=>⟨_,rfl⟩
theorem spD_up (hw:WholeG g) {i:Nat} {p:Bool} {x:Int} {n:Node} (hn:g.nodes[i]? = some n) (hd:drB n=false) (ht:¬ spT u g (num i p)) (hx:(spD u g R nd)[num i p]? = some x) :
  (x = -1∧∀ j∈fol n,j ∉ R→(spD u g R nd)[nxt nd p j]? = some (-1)) ∨
  ∃ (d:Nat) (j:Int),x=(d:Int)+1∧j∈fol n∧j ∉ R∧(spD u g R nd)[nxt nd p j]? = some (d:Int)∧∀ j'∈fol n,j' ∉ R→∀ y,(spD u g R nd)[nxt nd p j']? = some y→y = -1∨(d:Int)≤y:=by
 have hb:=hw.fol n (List.mem_of_getElem? hn)
 have hnx:∀ j∈fol n,nxt nd p j < 2 * g.nodes.length:=fun j hj=>ZBm (by have:=hb j hj;omega) _
 have hed:∀ j∈fol n,j ∉ R→spE g R nd (num i p) (nxt nd p j):=fun j hj hR=>by
  obtain⟨m,rfl⟩:=Int.eq_ofNat_of_zero_le (hb j hj).1
  unfold nxt
  rw[Int.toNat_natCast]
  exact ZE5 hn hd hj hR
 rcases ZAd.2 _ _ hx with⟨h1,h2⟩ | ⟨e,h1,h2⟩
 ·exact .inl ⟨h1,fun j hj hR=>ZAd.at_ (hnx j hj) (.inl ⟨rfl,fun d hd=>h2 _ (.step (hed j hj hR) hd)⟩)⟩
 ·cases e with
  | zero =>
   exfalso
   have:=h2.1
   generalize num i p=k at this ht
   cases this with
   | nil q=>exact ht q
  | succ d =>
   obtain⟨k,he,hm⟩:=h2.pred
   obtain⟨j,n',rfl,hn',_,hj,hR⟩:=ZCG he
   rw[hn] at hn';injection hn' with hn';subst hn'
   refine .inr ⟨d,j,by omega,hj,hR,?_,fun j' hj' hR' y hy=>?_⟩
   ·exact ZAd.at_ (hnx j hj) (x:=(d:Int)) (.inr ⟨d,rfl,by unfold nxt;rw[Int.toNat_natCast];exact hm⟩)
   ·rcases ZAd.2 _ _ hy with⟨h3,_⟩ | ⟨e',h3,h4⟩
    ·exact .inl h3
    ·refine .inr ?_
     have:=h2.2 _ (.step (hed j' hj' hR') h4.1)
     omega
theorem ZEP (hw:WholeG g) {i:Nat} {p:Bool} {d:Nat} {n:Node} (hn:g.nodes[i]? = some n) (hx:(spD u g R nd)[num i p]? = some ((d:Int)+1)) :
  drB n=false∧IsBest (spD u g R nd) R nd p (d:Int) (fol n) (bestS (spD u g R nd) R nd p (d:Int) (-1) (fol n))∧∀ j'∈fol n,j' ∉ R→∀ y,(spD u g R nd)[nxt nd p j']? = some y→y = -1∨(d:Int)≤y:=by
 rcases ZAd.2 _ _ hx with⟨h1,_⟩ | ⟨e,h1,h2⟩
 ·omega
 ·have:e=d+1:=by omega
  subst this
  obtain⟨k,he,hm⟩:=h2.pred
  obtain⟨j,n',rfl,hn',hdr,hj,hR⟩:=ZCG he
  rw[hn] at hn';injection hn' with hn';subst hn'
  have ht:¬ spT u g (num i p):=fun ht=>by have:=h2.2 0 (.nil ht);omega
  rcases spD_up hw hn hdr ht hx with⟨h3,_⟩ | ⟨d',j',h3,h4,h5,h6,h7⟩
  ·omega
  ·have:d'=d:=by omega
   subst this
   exact⟨hdr,ZEr (fun k hk=>(hw.fol n (List.mem_of_getElem? hn) k hk).1) h4 ⟨h5,h6⟩,h7⟩
theorem ZF8 (hw:WholeG g) : ∀ (d i:Nat) (p:Bool),(spD u g R nd)[num i p]? = some (d:Int) →
  (∀ (q:Nat) (x:Int),(waySp g (spD u g R nd) R nd d i p)[q]? = some x→∃ j:Nat,x=j∧j < g.nodes.length) ∧
  (∀ (q:Nat) (x y:Int),(waySp g (spD u g R nd) R nd d i p)[q]? = some x→(waySp g (spD u g R nd) R nd d i p)[q+1]? = some y→y ∉ R∧∃ n,g.nodes[x.toNat]? = some n∧y∈fol n∧drB n=false) ∧
  (∃ (x:Int) (n:Node),(waySp g (spD u g R nd) R nd d i p)[d]? = some x∧g.nodes[x.toNat]? = some n∧ldB u n=true) ∧
  (p=true∨∃ q:Nat,(waySp g (spD u g R nd) R nd d i p)[q+1]? = some nd)
 | 0,i,p,hi=>by
  have hlt:num i p < 2 * g.nodes.length:=by have:=(List.getElem?_eq_some_iff.1 hi).1;rw[ZEQ] at this;exact this
  have hil:i < g.nodes.length:=by unfold num at hlt;split at hlt <;> omega
  have ht:spT u g (num i p):=by
   rcases ZAd.2 _ _ hi with⟨h1,_⟩ | ⟨e,h1,h2⟩
   ·omega
   ·have:e=0:=by omega
    subst this
    have:=h2.1
    generalize num i p=k at this
    cases this with
    | nil q=>exact q
  obtain⟨j,n,h1,h2,h3⟩:=ht
  obtain⟨rfl,rfl⟩:=ZAO h1
  refine⟨fun q x hx=>?_,fun q x y _ hy=>?_,⟨(i:Int),n,rfl,by rw[Int.toNat_natCast];exact h2,h3⟩,.inl rfl⟩
  ·have:x=(i:Int):=by
    unfold waySp at hx
    match q,hx with
    | 0,hx=>injection hx with hx;exact hx.symm
    | q+1,hx=>simp at hx
   exact⟨i,this,hil⟩
  ·unfold waySp at hy;simp at hy
 | d+1,i,p,hi=>by
  have hlt:num i p < 2 * g.nodes.length:=by have:=(List.getElem?_eq_some_iff.1 hi).1;rw[ZEQ] at this;exact this
  have hil:i < g.nodes.length:=by unfold num at hlt;split at hlt <;> omega
  have hn:g.nodes[i]? = some g.nodes[i]:=List.getElem?_eq_getElem hil
  obtain⟨hdr,hbest,_⟩:=ZEP hw hn (by rw[hi];congr 1)
  have hfa:folAt g (i:Int)=fol g.nodes[i]:=by unfold folAt;rw[Int.toNat_natCast,hn]
  obtain⟨k,hk⟩ : ∃ k,bestS (spD u g R nd) R nd p (d:Int) (-1) (fol g.nodes[i])=k:=⟨_,rfl⟩
  rw[hk] at hbest
  have hkb:=hw.fol _ (List.mem_of_getElem? hn) k hbest.1
  obtain⟨kn,rfl⟩:=Int.eq_ofNat_of_zero_le hkb.1
  have hw':waySp g (spD u g R nd) R nd (d+1) (i:Int) p=(i:Int) :: waySp g (spD u g R nd) R nd d (kn:Int) (p || decide ((kn:Int)=nd)):=by
   show(i:Int) :: waySp g (spD u g R nd) R nd d (bestS (spD u g R nd) R nd p (d:Int) (-1) (folAt g i)) (p || decide (bestS (spD u g R nd) R nd p (d:Int) (-1) (folAt g i)=nd))=_
   rw[hfa,hk]
  have hD:=hbest.2.1.2
  unfold nxt at hD
  rw[Int.toNat_natCast] at hD
  obtain⟨h1,h2,⟨x,n,h3,h4,h5⟩,h6⟩:=ZF8 hw d kn _ hD
  obtain⟨l,hl⟩:=ZCD (g:=g) (R:=R) (nd:=nd) (spD u g R nd) d (kn:Int) (p || decide ((kn:Int)=nd))
  rw[hw']
  refine⟨fun q x hx=>?_,fun q x y hx hy=>?_,⟨x,n,h3,h4,h5⟩,?_⟩
  ·match q,hx with
   | 0,hx=>injection hx with hx;exact⟨i,hx.symm,hil⟩
   | q+1,hx=>exact h1 q x hx
  ·match q,hx,hy with
   | 0,hx,hy =>
    injection hx with hx
    subst hx
    have hy:(waySp g (spD u g R nd) R nd d (kn:Int) (p || decide ((kn:Int)=nd)))[0]? = some y:=hy
    rw[hl] at hy
    injection hy with hy
    subst hy
    exact⟨hbest.2.1.1,g.nodes[i],by rw[Int.toNat_natCast];exact hn,hbest.1,hdr⟩
   | q+1,hx,hy=>exact h2 q x y hx hy
  ·rcases h6 with h6 | ⟨q,h6⟩
   ·cases p with
    | true=>exact .inl rfl
    | false =>
     refine .inr ⟨0,?_⟩
     have:(kn:Int)=nd:=by simpa using h6
     show(waySp g (spD u g R nd) R nd d (kn:Int) (false || decide ((kn:Int)=nd)))[0]? = some nd
     rw[hl,← this]
     rfl
   ·exact .inr ⟨q+1,h6⟩
noncomputable def firstF (u:Unit_) (g:Graph) (D:List Int) : Nat→Int
 | 0=>-1
 | k+1=>if (mkAt u g [] k).store=true∧0≤(D[num k false]?).getD (-1)∧(firstF u g D k < 0∨(D[num k false]?).getD (-1) < (D[num (firstF u g D k).toNat false]?).getD (-1)) then (k:Int) else firstF u g D k
theorem ZDX (D:List Int) : ∀ k:Nat,(firstF u g D k = -1∧∀ i:Nat,i < k→(mkAt u g [] i).store=true→¬ 0≤(D[num i false]?).getD (-1))∨∃ i:Nat,firstF u g D k=(i:Int)∧i < k∧(mkAt u g [] i).store=true∧0≤(D[num i false]?).getD (-1)
 | 0=>.inl ⟨rfl,fun i h=>by omega⟩
 | k+1=>by
  unfold firstF
  by_cases c:(mkAt u g [] k).store=true∧0≤(D[num k false]?).getD (-1)∧(firstF u g D k < 0∨(D[num k false]?).getD (-1) < (D[num (firstF u g D k).toNat false]?).getD (-1))
  ·rw[if_pos c]
   exact .inr ⟨k,rfl,by omega,c.1,c.2.1⟩
  ·rw[if_neg c]
   rcases ZDX D k with⟨h1,h2⟩ | ⟨i,h1,h2,h3⟩
   ·refine .inl ⟨h1,fun i hi hs hd=>?_⟩
    by_cases e:i=k
    ·subst e;exact c ⟨hs,hd,.inl (by omega)⟩
    ·exact h2 i (by omega) hs hd
   ·exact .inr ⟨i,h1,by omega,h3⟩
end
open Classical in
noncomputable def aloneR (u:Unit_) (t:Int) (F:List Int) (n:Int) : List Int × Bool × Int :=
 if faultE u t F n=0 then match u.graphs[t.toNat]? with
  | some g=>if firstF u g (spD u g (withoutL F n) n) g.nodes.length < 0 then ([],false,0)
    else (waySp g (spD u g (withoutL F n) n) (withoutL F n) n (((spD u g (withoutL F n) n)[num (firstF u g (spD u g (withoutL F n) n) g.nodes.length).toNat false]?).getD 0).toNat (firstF u g (spD u g (withoutL F n) n) g.nodes.length) false,true,0)
  | none=>([],false,0)
 else ([],false,faultE u t F n)
end Go.Proofs.YtffgnjgphkdodaaDoor
