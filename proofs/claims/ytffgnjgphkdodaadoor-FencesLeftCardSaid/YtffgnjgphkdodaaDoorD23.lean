import Derived.Test.YtffgnjgphkdodaaDoorD1
import Derived.Test.YtffgnjgphkdodaaDoorD2
namespace Go.Proofs.YtffgnjgphkdodaaDoor
open Go
def Edge (g:Graph) (i j:Nat) : Prop:=∃ n,g.nodes[i]? = some n∧(j:Int)∈fol n
def Rch (g:Graph) (n:Nat) : Prop:=ReachC g (-1) n
def DomC (g:Graph) (m n:Nat) : Prop:=n=m∨¬ ReachC g (m:Int) n
theorem Rch.step {g:Graph} {i j:Nat} (h:Rch g i) (he:Edge g i j) : Rch g j:=by
 obtain⟨n,h1,h2⟩:=he
 exact ReachC.step h (by omega) h1 h2
theorem ReachC.go {g:Graph} {m i j:Nat} (h:ReachC g (m:Int) i) (hne:i≠m) (he:Edge g i j) : ReachC g (m:Int) j:=by
 obtain⟨n,h1,h2⟩:=he
 exact ReachC.step h (by omega) h1 h2
theorem Rch.lt {g:Graph} (hw:WholeG g) {n:Nat} (h:Rch g n) : n < g.nodes.length:=by
 cases h with
 | zero=>exact hw.pos
 | step _ _ hn hj=>have:=hw.fol _ (List.mem_of_getElem? hn) _ hj;omega
theorem ReachC.rch {g:Graph} {m n:Nat} (h:ReachC g (m:Int) n) : Rch g n:=by
 induction h with
 | zero=>exact .zero
 | step _ _ h1 h2 ih=>exact Rch.step ih ⟨_,h1,h2⟩
structure RPO (g:Graph) (pl:Nat→Nat) (M:Nat) : Prop where
 zero:pl 0=0
 lt:∀ n,Rch g n→pl n < M
 inj:∀ a b,Rch g a→Rch g b→pl a=pl b→a=b
 pred:∀ n,Rch g n→n≠0→∃ p,Rch g p∧Edge g p n∧pl p < pl n
inductive Ch (out:List Int) : Nat→Nat→Prop
 | refl (n:Nat) : Ch out n n
 | step {n k m:Nat} : n≠0→out[n]? = some (k:Int)→Ch out k m→Ch out n m
theorem Ch.trans {out:List Int} {a b c:Nat} (h:Ch out a b) (h2:Ch out b c) : Ch out a c:=by
 induction h with
 | refl=>exact h2
 | step h1 h3 _ ih=>exact .step h1 h3 (ih h2)
inductive AvR (g:Graph) (pl:Nat→Nat) (m:Nat) : Nat→Nat→Prop
 | zero:m≠0→AvR g pl m 0 0
 | fwd {k i j:Nat} : AvR g pl m k i→Edge g i j→pl i < pl j→j≠m→AvR g pl m k j
 | ret {k i j:Nat} : AvR g pl m k i→Edge g i j→pl j≤pl i→j≠m→AvR g pl m (k+1) j
inductive Fw (g:Graph) (pl:Nat→Nat) (x:Nat) : Nat→Prop
 | refl:Fw g pl x x
 | step {i j:Nat} : Fw g pl x i→Edge g i j→pl i < pl j→Fw g pl x j
section
variable {g:Graph} {pl:Nat→Nat} {M:Nat}
theorem AvR.ne {m k n:Nat} (h:AvR g pl m k n) : n≠m:=by
 cases h with
 | zero h=>exact fun e=>h e.symm
 | fwd _ _ _ h=>exact h
 | ret _ _ _ h=>exact h
theorem AvR.reach {m k n:Nat} (h:AvR g pl m k n) : ReachC g (m:Int) n:=by
 induction h with
 | zero _=>exact .zero
 | fwd h1 he _ _ ih=>exact ih.go h1.ne he
 | ret h1 he _ _ ih=>exact ih.go h1.ne he
theorem AvR.of {m n:Nat} (h:ReachC g (m:Int) n) (hne:n≠m) : ∃ k,AvR g pl m k n:=by
 induction h with
 | zero=>exact⟨0,.zero fun e=>hne e.symm⟩
 | @step i j nd _ hc hn hj ih =>
  obtain⟨k,hk⟩:=ih (by omega)
  by_cases c:pl i < pl j
  ·exact⟨k,.fwd hk ⟨_,hn,hj⟩ c hne⟩
  ·exact⟨k+1,.ret hk ⟨_,hn,hj⟩ (by omega) hne⟩
def MinA (g:Graph) (pl:Nat→Nat) (m k n:Nat) : Prop:=AvR g pl m k n∧∀ k',AvR g pl m k' n→k≤k'
theorem AvR.min {m n k:Nat} (h:AvR g pl m k n) : ∃ e,MinA g pl m e n∧e≤k:=by
 induction k using Nat.strongRecOn with
 | ind d ih =>
  by_cases c:∃ e,e < d∧AvR g pl m e n
  ·obtain⟨e,h1,h2⟩:=c
   obtain⟨x,h3,h4⟩:=ih e h1 h2
   exact⟨x,h3,by omega⟩
  ·exact⟨d,⟨h,fun e he=>Nat.le_of_not_lt fun hlt=>c ⟨e,hlt,he⟩⟩,Nat.le_refl _⟩
theorem MinA.pred_ {m k n:Nat} (h:AvR g pl m k n) : ∀ d,k=d+1→(∀ k',AvR g pl m k' n→k≤k')→∃ j,MinA g pl m d j:=by
 induction h with
 | zero _=>intro d hd;omega
 | @fwd k i j h1 he hp hne ih =>
  intro d hd hm
  exact ih d hd fun k' hk'=>hm _ (.fwd hk' he hp hne)
 | @ret k i j h1 he hp hne _ =>
  intro d hd hm
  obtain rfl:k=d:=by omega
  exact⟨i,h1,fun k' hk'=>by have:=hm _ (.ret hk' he hp hne);omega⟩
theorem ZFi:∀ (m n:Nat) (f:Nat→Nat),(∀ e,e < n→f e < m)→(∀ a b,a < n→b < n→f a=f b→a=b)→n≤m
 | 0,0,_,_,_=>Nat.le_refl _
 | 0,n+1,f,h,_=>by have:=h 0 (by omega);omega
 | m+1,0,_,_,_=>Nat.zero_le _
 | m+1,n+1,f,h,hi=>by
  have:=ZFi m n (fun e=>if f e=m then f n else f e) (fun e he=>by
   have h1:=h e (by omega)
   have h2:=h n (by omega)
   by_cases c:f e=m
   ·simp only[if_pos c]
    by_cases c2:f n=m
    ·have:=hi e n (by omega) (by omega) (c.trans c2.symm);omega
    ·omega
   ·simp only[if_neg c];omega) (fun a b ha hb hab=>by
   have hn:∀ x,x < n→f x≠f n:=fun x hx e=>by have:=hi x n (by omega) (by omega) e;omega
   by_cases ca:f a=m
   ·by_cases cb:f b=m
    ·exact hi a b (by omega) (by omega) (ca.trans cb.symm)
    ·simp only[if_pos ca,if_neg cb] at hab
     exact absurd hab.symm (hn b hb)
   ·by_cases cb:f b=m
    ·simp only[if_neg ca,if_pos cb] at hab
     exact absurd hab (hn a ha)
    ·simp only[if_neg ca,if_neg cb] at hab
     exact hi a b (by omega) (by omega) hab)
  omega
theorem AvR.bound (hw:WholeG g) {m n k:Nat} (h:AvR g pl m k n) : ∃ e,AvR g pl m e n∧e < g.nodes.length:=by
 obtain⟨d,hd,_⟩:=h.min
 have key:∀ k e,e+k=d→∃ j,MinA g pl m e j:=by
  intro k
  induction k with
  | zero =>
   intro e he
   have hed:e=d:=by omega
   exact⟨n,by rw[hed];exact hd⟩
  | succ k ih =>
   intro e he
   obtain⟨j,hj⟩:=ih (e+1) (by omega)
   exact MinA.pred_ hj.1 e rfl hj.2
 have hf:∀ e,e < d+1→∃ j,MinA g pl m e j:=fun e he=>key (d - e) e (by omega)
 have:=ZFi g.nodes.length (d+1) (fun e=>if he:e < d+1 then Classical.choose (hf e he) else 0) (fun e he=>by
  simp only[dif_pos he]
  exact Rch.lt hw (Classical.choose_spec (hf e he)).1.reach.rch) (fun a b ha hb hab=>by
  simp only[dif_pos ha,dif_pos hb] at hab
  have h1:=Classical.choose_spec (hf a ha)
  have h2:=Classical.choose_spec (hf b hb)
  rw[hab] at h1
  have:=h1.2 _ h2.1
  have:=h2.2 _ h1.1
  omega)
 exact⟨d,hd.1,this⟩
theorem AvR.prefix_ {m k a:Nat} (h:AvR g pl m k a) (n:Nat) (hn0:n≠0) : AvR g pl n k a∨∃ k',k'≤k∧AvR g pl m k' n:=by
 induction h with
 | zero h=>exact .inl (.zero hn0)
 | @fwd k i j h1 he hp hne ih =>
  rcases ih with ih | ⟨k',h2,h3⟩
  ·by_cases e:j=n
   ·subst e;exact .inr ⟨k,Nat.le_refl _,.fwd h1 he hp hne⟩
   ·exact .inl (.fwd ih he hp e)
  ·exact .inr ⟨k',h2,h3⟩
 | @ret k i j h1 he hp hne ih =>
  rcases ih with ih | ⟨k',h2,h3⟩
  ·by_cases e:j=n
   ·subst e;exact .inr ⟨k+1,Nat.le_refl _,.ret h1 he hp hne⟩
   ·exact .inl (.ret ih he hp e)
  ·exact .inr ⟨k',by omega,h3⟩
theorem RPO.fw (hr:RPO g pl M) : ∀ (d n:Nat),pl n=d→Rch g n→Fw g pl 0 n:=by
 intro d
 induction d using Nat.strongRecOn with
 | ind d ih =>
  intro n hd hn
  by_cases h0:n=0
  ·subst h0;exact .refl
  ·obtain⟨p,h1,h2,h3⟩:=hr.pred n hn h0
   exact .step (ih (pl p) (by omega) p rfl h1) h2 h3
theorem Fw.split {n a:Nat} (h:Fw g pl 0 a) (hn0:n≠0) : AvR g pl n 0 a∨Fw g pl n a:=by
 induction h with
 | refl=>exact .inl (.zero hn0)
 | @step i j h1 he hp ih =>
  rcases ih with ih | ih
  ·by_cases e:j=n
   ·subst e;exact .inr .refl
   ·exact .inl (.fwd ih he hp e)
  ·exact .inr (.step ih he hp)
theorem Fw.avoid {m n a:Nat} (h:Fw g pl n a) (hr:ReachC g (m:Int) n) (hm:pl m < pl n) : ReachC g (m:Int) a∧pl n≤pl a:=by
 induction h with
 | refl=>exact⟨hr,Nat.le_refl _⟩
 | @step i j h1 he hp ih =>
  have hne:i≠m:=by
   rintro rfl
   have:=ih.2
   omega
  exact⟨ih.1.go hne he,by omega⟩
def lv (pl:Nat→Nat) (r i n:Nat) : Nat:=if pl n < i then r+1 else r
theorem lv_le (pl:Nat→Nat) (r i n:Nat) : lv pl r i n≤r+1:=by unfold lv;split <;> omega
theorem ZG1 (pl:Nat→Nat) (r i n:Nat) : r≤lv pl r i n:=by unfold lv;split <;> omega
theorem ZFq {pl:Nat→Nat} {r i n:Nat} (h:pl n < i) : lv pl r i n=r+1:=by unfold lv;rw[if_pos h]
theorem ZHs {pl:Nat→Nat} {r i n:Nat} (h:pl n=i) : lv pl r i n=r:=by unfold lv;rw[if_neg (by omega)]
theorem ZIu {pl:Nat→Nat} {r i n:Nat} (h:pl n≠i) : lv pl r (i+1) n=lv pl r i n:=by
 unfold lv
 by_cases c:pl n < i
 ·rw[if_pos c,if_pos (by omega)]
 ·rw[if_neg c,if_neg (by omega)]
structure CK (g:Graph) (pl:Nat→Nat) (out:List Int) (r i:Nat) : Prop where
 len:out.length=g.nodes.length
 zero:out[0]? = some 0
 un:∀ (n:Nat) (x:Int),out[n]? = some x→¬ Rch g n→x = -1
 no:∀ (n:Nat) (x:Int),out[n]? = some x→n≠0→lv pl r i n=0→x = -1
 pr:∀ (n:Nat) (x:Int),out[n]? = some x→n≠0→Rch g n→0 < lv pl r i n→∃ k:Nat,x=k∧Rch g k∧pl k < pl n
 K:∀ (n m:Nat),Rch g n→Ch out n m→∀ k,k < lv pl r i n→¬ AvR g pl m k n
 S:∀ (n m:Nat),Rch g n→n=0∨0 < lv pl r i n→DomC g m n→Ch out n m
def Pro (pl:Nat→Nat) (r i n:Nat) : Prop:=n=0∨0 < lv pl r i n
variable {out:List Int} {r i:Nat}
theorem CK.pro_iff (h:CK g pl out r i) {n:Nat} {x:Int} (hx:out[n]? = some x) : 0≤x ↔ Rch g n∧Pro pl r i n:=by
 constructor
 ·intro h0
  have hr:Rch g n:=by
   apply Classical.byContradiction
   intro c
   have:=h.un n x hx c
   omega
  refine⟨hr,?_⟩
  by_cases e:n=0
  ·exact .inl e
  ·refine .inr (Nat.pos_of_ne_zero fun hz=>?_)
   have:=h.no n x hx e hz
   omega
 ·rintro⟨h1,h2⟩
  by_cases e:n=0
  ·subst e
   rw[h.zero] at hx
   injection hx with hx
   omega
  ·rcases h2 with h2 | h2
   ·exact absurd h2 e
   ·obtain⟨k,h3,_,_⟩:=h.pr n x hx e h1 h2
    omega
theorem CK.next (hw:WholeG g) (h:CK g pl out r i) {n:Nat} (hr:Rch g n) (h0:n≠0) (hp:Pro pl r i n) : ∃ k:Nat,out[n]? = some (k:Int)∧Rch g k∧pl k < pl n∧Pro pl r i k:=by
 have hl:n < out.length:=by rw[h.len];exact hr.lt hw
 rcases hp with hp | hp
 ·exact absurd hp h0
 obtain⟨k,h1,h2,h3⟩:=h.pr n _ (List.getElem?_eq_getElem hl) h0 hr hp
 refine⟨k,by rw[List.getElem?_eq_getElem hl,h1],h2,h3,?_⟩
 unfold Pro
 by_cases e:k=0
 ·exact .inl e
 ·refine .inr ?_
  unfold lv at hp ⊢
  split at hp
  ·rw[if_pos (by omega)];omega
  ·split <;> omega
theorem CK.chain (hw:WholeG g) (h:CK g pl out r i) {a b:Nat} (hc:Ch out a b) : Rch g a→Pro pl r i a→Rch g b∧Pro pl r i b∧pl b≤pl a∧(pl b=pl a→a=b):=by
 induction hc with
 | refl n=>exact fun h1 h2=>⟨h1,h2,Nat.le_refl _,fun _=>rfl⟩
 | @step n k m h0 hk _ ih =>
  intro h1 h2
  obtain⟨k',h3,h4,h5,h6⟩:=h.next hw h1 h0 h2
  rw[hk] at h3
  injection h3 with h3
  have:k=k':=by omega
  subst this
  obtain⟨q1,q2,q3,q4⟩:=ih h4 h6
  exact⟨q1,q2,by omega,fun e=>by omega⟩
theorem Ch.tail {a b:Nat} (hc:Ch out a b) (hne:a≠b) {k:Nat} (hk:out[a]? = some (k:Int)) : Ch out k b:=by
 cases hc with
 | refl=>exact absurd rfl hne
 | @step _ k' _ h0 hk' h =>
  rw[hk] at hk'
  injection hk' with hk'
  have:k=k':=by omega
  subst this;exact h
theorem CK.zero_chain {b:Nat} (hc:Ch out 0 b) : b=0:=by
 cases hc with
 | refl=>rfl
 | step h0 _ _=>exact absurd rfl h0
theorem CK.to_zero (hw:WholeG g) (h:CK g pl out r i) : ∀ (d a:Nat),pl a=d→Rch g a→Pro pl r i a→Ch out a 0:=by
 intro d
 induction d using Nat.strongRecOn with
 | ind d ih =>
  intro a hd hr hp
  by_cases h0:a=0
  ·subst h0;exact .refl _
  ·obtain⟨k,h1,h2,h3,h4⟩:=h.next hw hr h0 hp
   exact .step h0 h1 (ih (pl k) (by omega) k rfl h2 h4)
structure Mt (g:Graph) (pl:Nat→Nat) (out:List Int) (r i:Nat) (P:Nat→Prop) (c:Nat) : Prop where
 rch:Rch g c
 pro:Pro pl r i c
 on_:∀ p,P p→Rch g p→Pro pl r i p→Ch out p c
 all:∀ m,(∀ p,P p→Rch g p→Pro pl r i p→Ch out p m)→Ch out c m
theorem Ch.set_to {n:Nat} {c:Int} {a:Nat} (h:Ch out a n) : Ch (out.set n c) a n:=by
 induction h with
 | refl=>exact .refl _
 | @step a k m h0 hk _ ih =>
  by_cases e:a=m
  ·subst e;exact .refl _
  ·exact .step h0 (by rw[List.getElem?_set,if_neg (fun q=>e q.symm)];exact hk) ih
theorem Ch.set_or {n:Nat} {c:Int} {a m:Nat} (h:Ch out a m) : Ch (out.set n c) a m∨(Ch out a n∧Ch out n m):=by
 induction h with
 | refl a=>exact .inl (.refl _)
 | @step a k m h0 hk h1 ih =>
  by_cases e:a=n
  ·subst e;exact .inr ⟨.refl _,.step h0 hk h1⟩
  ·rcases ih with ih | ⟨h2,h3⟩
   ·exact .inl (.step h0 (by rw[List.getElem?_set,if_neg (fun q=>e q.symm)];exact hk) ih)
   ·exact .inr ⟨.step h0 hk h2,h3⟩
theorem Ch.of_set {n:Nat} {c:Int} {a m:Nat} (h:Ch (out.set n c) a m) : Ch out a m∨(Ch out a n∧Ch (out.set n c) n m):=by
 induction h with
 | refl a=>exact .inl (.refl _)
 | @step a k m h0 hk h1 ih =>
  by_cases e:a=n
  ·subst e;exact .inr ⟨.refl _,.step h0 hk h1⟩
  ·rw[List.getElem?_set,if_neg (fun q=>e q.symm)] at hk
   rcases ih with ih | ⟨h2,h3⟩
   ·exact .inl (.step h0 hk ih)
   ·exact .inr ⟨.step h0 hk h2,h3⟩
variable (hw:WholeG g) (hr:RPO g pl M)
include hw hr
theorem CK.below_n (h:CK g pl out r i) {n c:Nat} (hn:Rch g n) (hn0:n≠0) (hpl:pl n=i) (hm:Mt g pl out r i (fun p=>Edge g p n) c) : pl c < pl n:=by
 obtain⟨f,h1,h2,h3⟩:=hr.pred n hn hn0
 have hp:Pro pl r i f:=.inr (by rw[ZFq (by omega)];omega)
 have:=(h.chain hw (hm.on_ f h2 h1 hp) h1 hp).2.2.1
 omega
theorem CK.set_ (h:CK g pl out r i) {n c:Nat} (hn:Rch g n) (hn0:n≠0) (hpl:pl n=i) (hm:Mt g pl out r i (fun p=>Edge g p n) c) : CK g pl (out.set n (c:Int)) r (i+1):=by
 have hcn:=h.below_n hw hr hn hn0 hpl hm
 have hnl:n < out.length:=by rw[h.len];exact hn.lt hw
 have hself:(out.set n (c:Int))[n]? = some (c:Int):=by rw[List.getElem?_set,if_pos rfl,if_pos hnl]
 have hoth:∀ a,a≠n→(out.set n (c:Int))[a]? = out[a]?:=fun a ha=>by rw[List.getElem?_set,if_neg (fun q=>ha q.symm)]
 have hplne:∀ a,Rch g a→a≠n→pl a≠i:=fun a ha hne e=>hne (hr.inj a n ha hn (by omega))
 have hlvn:lv pl r (i+1) n=r+1:=ZFq (by omega)
 have hlvi:lv pl r i n=r:=ZHs hpl
 have hprof:∀ p,Rch g p→pl p < pl n→Pro pl r i p:=fun p hp hlt=>.inr (by rw[ZFq (by omega)];omega)
 have hlow:∀ a m,Rch g a→Pro pl r i a→pl a < pl n→Ch out a m→Ch (out.set n (c:Int)) a m:=by
  intro a m ha hp hlt hc
  rcases hc.set_or (n:=n) (c:=(c:Int)) with q | ⟨q,_⟩
  ·exact q
  ·have:=(h.chain hw q ha hp).2.2.1
   omega
 have hnewn:∀ m,Ch (out.set n (c:Int)) n m→m=n∨Ch out c m:=by
  intro m hc
  by_cases e:n=m
  ·exact .inl e.symm
  ·refine .inr ?_
   rcases(hc.tail e hself).of_set with q | ⟨q,_⟩
   ·exact q
   ·have:=(h.chain hw q hm.rch hm.pro).2.2.1
    omega
 have hKn:∀ m,Ch (out.set n (c:Int)) n m→∀ k,k < r+1→¬ AvR g pl m k n:=by
  intro m hc k hk hav
  rcases hnewn m hc with rfl | hcm
  ·exact hav.ne rfl
  ·cases hav with
   | zero _=>exact hn0 rfl
   | @fwd _ p _ h1 he hp _ =>
    have hrp:=h1.reach.rch
    have hpp:=hprof p hrp hp
    exact h.K p m hrp ((hm.on_ p he hrp hpp).trans hcm) k (by rw[ZFq (by omega)];omega) h1
   | @ret k' p _ h1 he hp _ =>
    have hrp:=h1.reach.rch
    have hge:=ZG1 pl r i p
    have hpp:Pro pl r i p:=.inr (by omega)
    exact h.K p m hrp ((hm.on_ p he hrp hpp).trans hcm) k' (by omega) h1
 have hSn:∀ m,DomC g m n→Ch (out.set n (c:Int)) n m:=by
  intro m hd
  by_cases e:n=m
  ·subst e;exact .refl _
  ·have hno:¬ ReachC g (m:Int) n:=by
    rcases hd with hd | hd
    ·exact absurd hd e
    ·exact hd
   have hcm:Ch out c m:=hm.all m fun p he hp hpp=>h.S p m hp hpp (by
    by_cases e2:p=m
    ·exact .inl e2
    ·exact .inr fun hq=>hno (hq.go e2 he))
   exact .step hn0 hself (hlow c m hm.rch hm.pro hcn hcm)
 refine⟨by simpa using h.len,?_,?_,?_,?_,?_,?_⟩
 ·rw[hoth 0 (fun e=>hn0 e.symm)];exact h.zero
 ·intro a x hx ha
  have hne:a≠n:=fun e=>ha (e ▸ hn)
  rw[hoth a hne] at hx
  exact h.un a x hx ha
 ·intro a x hx ha0 hz
  by_cases e:a=n
  ·subst e;omega
  ·rw[hoth a e] at hx
   by_cases hra:Rch g a
   ·exact h.no a x hx ha0 (by rw[← ZIu (hplne a hra e)];exact hz)
   ·exact h.un a x hx hra
 ·intro a x hx ha0 hra hpos
  by_cases e:a=n
  ·subst e
   rw[hself] at hx
   injection hx with hx
   exact⟨c,hx.symm,hm.rch,hcn⟩
  ·rw[hoth a e] at hx
   exact h.pr a x hx ha0 hra (by rw[← ZIu (hplne a hra e)];exact hpos)
 ·intro a m hra hc k hk hav
  by_cases e:a=n
  ·subst e
   exact hKn m hc k (by omega) hav
  ·rw[ZIu (hplne a hra e)] at hk
   rcases hc.of_set with q | ⟨q,q2⟩
   ·exact h.K a m hra q k hk hav
   ·rcases hav.prefix_ n hn0 with q3 | ⟨k',q3,q4⟩
    ·exact h.K a n hra q k hk q3
    ·have:=lv_le pl r i a
     exact hKn m q2 k' (by omega) q4
 ·intro a m hra hp hd
  by_cases e:a=n
  ·subst e;exact hSn m hd
  ·have hp':Pro pl r i a:=by
    rcases hp with hp | hp
    ·exact .inl hp
    ·exact .inr (by rw[← ZIu (hplne a hra e)];exact hp)
   have hca:=h.S a m hra hp' hd
   rcases hca.set_or (n:=n) (c:=(c:Int)) with q | ⟨q,q2⟩
   ·exact q
   ·refine q.set_to.trans (hSn m ?_)
    by_cases e2:n=m
    ·exact .inl e2
    ·refine .inr fun hq=>?_
     have hpn:Pro pl r i n:=(h.chain hw q hra hp').2.1
     obtain⟨k1,k2,k3,k4⟩:=h.chain hw q2 hn hpn
     have hlt:pl m < pl n:=by
      rcases Nat.lt_or_ge (pl m) (pl n) with h1 | h1
      ·exact h1
      ·exact absurd (k4 (by omega)) e2
     have ha0:0 < lv pl r i a:=by
      rcases hp' with h1 | h1
      ·exfalso
       subst h1
       have:=CK.zero_chain (out:=out) q
       exact hn0 this
      ·exact h1
     rcases(hr.fw (pl a) a rfl hra).split hn0 with h1 | h1
     ·exact h.K a n hra q 0 ha0 h1
     ·obtain⟨h2,h3⟩:=h1.avoid hq hlt
      rcases hd with hd | hd
      ·subst hd;omega
      ·exact hd h2
theorem CK.still (h:CK g pl out r i) {n c k:Nat} (hn:Rch g n) (hn0:n≠0) (hpl:pl n=i) (hm:Mt g pl out r i (fun p=>Edge g p n) c) (hk:out[n]? = some (k:Int)) (hrN:g.nodes.length≤r) : c=k:=by
 have hpos:=hw.pos
 have hpro:∀ a,Pro pl r i a:=fun a=>.inr (by have:=ZG1 pl r i a;omega)
 have hKD:∀ a m,Rch g a→Ch out a m→DomC g m a:=by
  intro a m ha hc
  by_cases e:a=m
  ·exact .inl e
  ·refine .inr fun hq=>?_
   obtain⟨k,hk⟩:=AvR.of (pl:=pl) hq e
   obtain⟨k',h1,h2⟩:=hk.bound hw
   have:=ZG1 pl r i a
   exact h.K a m ha hc k' (by omega) h1
 have hcn:=h.below_n hw hr hn hn0 hpl hm
 obtain⟨k',h1,hkr,hkn,hkp⟩:=h.next hw hn hn0 (hpro n)
 rw[hk] at h1
 injection h1 with h1
 obtain rfl:k=k':=by omega
 have hdk:=hKD n k hn (.step hn0 hk (.refl _))
 have hck:Ch out c k:=hm.all k fun p he hp hpp=>h.S p k hp hpp (by
  by_cases e:p=k
  ·exact .inl e
  ·refine .inr fun hq=>?_
   rcases hdk with h2 | h2
   ·subst h2;omega
   ·exact h2 (hq.go e he))
 have hdc:DomC g c n:=by
  refine .inr fun hq=>?_
  cases hq with
  | zero=>exact hn0 rfl
  | @step p _ nd h1 hc hnd hj =>
   have hrp:=h1.rch
   rcases hKD p c hrp (hm.on_ p ⟨nd,hnd,hj⟩ hrp (hpro p)) with h2 | h2
   ·omega
   ·exact h2 h1
 have hnc:=h.S n c hn (hpro n) hdc
 have hkc:Ch out k c:=hnc.tail (fun e=>by subst e;omega) hk
 have q1:=(h.chain hw hck hm.rch hm.pro).2.2
 have q2:=(h.chain hw hkc hkr hkp).2.2.1
 exact q1.2 (by omega)
omit hr in
theorem CK.rest (h:CK g pl out r i) (hall:∀ n,Rch g n→Pro pl r i n) (hfix:∀ n p (k:Nat),Rch g n→n≠0→out[n]? = some (k:Int)→Rch g p→Edge g p n→Ch out p k) {n m:Nat} (hn:Rch g n) : Ch out n m ↔ DomC g m n:=by
 constructor
 ·intro hc
  by_cases e:n=m
  ·exact .inl e
  ·refine .inr fun hq=>?_
   have key:∀ j,ReachC g (m:Int) j→Ch out j m→j=m:=by
    intro j hj
    induction hj with
    | zero=>intro hc;exact(CK.zero_chain hc).symm
    | @step a b nd ha hne hnd hj ih =>
     intro hc
     apply Classical.byContradiction
     intro hbm
     have hra:=ha.rch
     have hrb:Rch g b:=hra.step ⟨nd,hnd,hj⟩
     have hb0:b≠0:=by
      rintro rfl
      exact hbm (CK.zero_chain hc).symm
     obtain⟨k,h1,h2,h3,h4⟩:=h.next hw hrb hb0 (hall b hrb)
     have h5:=hc.tail hbm h1
     have h6:=(hfix b a k hrb hb0 h1 hra ⟨nd,hnd,hj⟩).trans h5
     have:=ih h6
     omega
   exact e (key n hq hc)
 ·exact h.S n m hn (hall n hn)
end
def sq (ord:List Int) (st:List (Int × Int)) : List Int:=ord ++ (st.map (·.1)).reverse
theorem sq_pop (ord:List Int) (s:List (Int × Int)) (a k:Int) : sq (ord ++ [a]) s=sq ord (s ++ [(a,k)]):=by simp[sq]
theorem ZJU (ord:List Int) (s:List (Int × Int)) (a k k':Int) : sq ord (s ++ [(a,k')])=sq ord (s ++ [(a,k)]):=by simp[sq]
theorem ZHV (ord:List Int) (s:List (Int × Int)) (y k:Int) : sq ord (s ++ [(y,k)])=ord ++ y :: (s.map (·.1)).reverse:=by simp[sq]
def Later (g:Graph) (l:List Int) : Prop:=∀ (A B:List Int) (n:Nat),l=A ++ (n:Int) :: B→n≠0→∃ p:Nat,(p:Int)∈B∧Edge g p n
structure DF (g:Graph) (seen:List Bool) (ord:List Int) (st:List (Int × Int)) : Prop where
 len:seen.length=g.nodes.length
 seen_:∀ n:Nat,seen[n]? = some true ↔ (n:Int)∈sq ord st
 nodup:(sq ord st).Nodup
 rch:∀ x∈sq ord st,∃ n:Nat,x=n∧Rch g n
 last:∃ L,sq ord st=L ++ [0]
 later:Later g (sq ord st)
 closed:∀ n m:Nat,(n:Int)∈ord→Edge g n m→seen[m]? = some true
 at_:∀ a k:Int,(a,k)∈st→0≤k∧∀ nd,g.nodes[a.toNat]? = some nd→k≤(fol nd).length∧∀ (j:Nat) (y:Int),(j:Int) < k→(fol nd)[j]? = some y→seen[y.toNat]? = some true
section
variable {g:Graph} {seen:List Bool} {ord:List Int} {s:List (Int × Int)} {a k:Int}
theorem DF.start (hw:WholeG g) : DF g ((List.replicate g.nodes.length false).set 0 true) [] [(0,0)]:=by
 have hp:=hw.pos
 refine⟨by simp,fun n=>?_,by simp[sq],?_,⟨[],by simp[sq]⟩,?_,fun n m h=>(by cases h),?_⟩
 ·rw[List.getElem?_set]
  by_cases e:0=n
  ·subst e
   rw[if_pos rfl,if_pos (by simp;omega)]
   simp[sq]
  ·rw[if_neg e,List.getElem?_replicate]
   split
   ·simp[sq];omega
   ·simp[sq];omega
 ·intro x hx
  simp[sq] at hx
  exact⟨0,hx,.zero⟩
 ·intro A B n h hn
  simp[sq] at h
  cases A with
  | nil=>simp at h;omega
  | cons _ _=>simp at h
 ·intro a k h
  simp only[List.mem_singleton,Prod.mk.injEq] at h
  obtain⟨rfl,rfl⟩:=h
  exact⟨Int.le_refl _,fun nd _=>⟨by omega,fun j y hj=>by omega⟩⟩
theorem DF.top (h:DF g seen ord (s ++ [(a,k)])) : ∃ n:Nat,a=n∧Rch g n:=h.rch a (by simp[sq])
theorem DF.pop (h:DF g seen ord (s ++ [(a,k)])) {nd:Node} (hn:g.nodes[a.toNat]? = some nd) (hk:k=(fol nd).length) : DF g seen (ord ++ [a]) s:=by
 have e:=sq_pop ord s a k
 refine⟨h.len,by rw[e];exact h.seen_,by rw[e];exact h.nodup,by rw[e];exact h.rch,by rw[e];exact h.last,by rw[e];exact h.later,?_,fun x y hx=>h.at_ x y (by simp[hx])⟩
 intro n m hm he
 rw[List.mem_append,List.mem_singleton] at hm
 rcases hm with hm | hm
 ·exact h.closed n m hm he
 ·obtain⟨nd',h1,h2⟩:=he
  have h3:=(h.at_ a k (by simp)).2 nd hn
  obtain rfl:a=(n:Int):=hm.symm
  rw[Int.toNat_natCast,h1] at hn
  injection hn with hn
  subst hn
  obtain⟨j,hj⟩:=List.getElem?_of_mem h2
  have hjl:=(List.getElem?_eq_some_iff.1 hj).1
  have:=h3.2 j (m:Int) (by omega) hj
  rwa [Int.toNat_natCast] at this
theorem DF.skip (h:DF g seen ord (s ++ [(a,k)])) {nd:Node} {q:Nat} {y:Int} (hn:g.nodes[a.toNat]? = some nd) (hk:k=q) (hy:(fol nd)[q]? = some y) (hs:seen[y.toNat]? = some true) : DF g seen ord (s ++ [(a,k+1)]):=by
 have e:=ZJU ord s a k (k+1)
 have hql:=(List.getElem?_eq_some_iff.1 hy).1
 refine⟨h.len,by rw[e];exact h.seen_,by rw[e];exact h.nodup,by rw[e];exact h.rch,by rw[e];exact h.last,by rw[e];exact h.later,h.closed,fun x z hx=>?_⟩
 rw[List.mem_append,List.mem_singleton] at hx
 rcases hx with hx | hx
 ·exact h.at_ x z (by simp[hx])
 ·injection hx with h1 h2
  subst h1 h2
  obtain⟨q1,q2⟩:=h.at_ x k (by simp)
  refine⟨by omega,fun nd' hn'=>?_⟩
  rw[hn] at hn'
  injection hn' with hn'
  subst hn'
  refine⟨by omega,fun j z hj hz=>?_⟩
  by_cases c:(j:Int) < k
  ·exact(q2 nd hn).2 j z c hz
  ·obtain rfl:j=q:=by omega
   rw[hy] at hz
   injection hz with hz
   subst hz;exact hs
theorem DF.push (hw:WholeG g) (h:DF g seen ord (s ++ [(a,k)])) {nd:Node} {q y:Nat} (hn:g.nodes[a.toNat]? = some nd) (hk:k=q) (hy:(fol nd)[q]? = some (y:Int)) (hs:seen[y]? = some false) : DF g (seen.set y true) ord (s ++ [(a,k+1)] ++ [((y:Int),0)]):=by
 obtain⟨an,rfl,har⟩:=h.top
 rw[Int.toNat_natCast] at hn
 have hed:Edge g an y:=⟨nd,hn,List.mem_of_getElem? hy⟩
 have hryr:=har.step hed
 have hyl:y < seen.length:=(List.getElem?_eq_some_iff.1 hs).1
 have e1:=ZHV ord (s ++ [((an:Int),k+1)]) (y:Int) 0
 have e2:sq ord (s ++ [((an:Int),k)])=ord ++ (an:Int) :: (s.map (·.1)).reverse:=ZHV ord s _ _
 have e3:((s ++ [((an:Int),k+1)]).map (·.1)).reverse=(an:Int) :: (s.map (·.1)).reverse:=by simp
 rw[e3] at e1
 have hns:(y:Int) ∉ sq ord (s ++ [((an:Int),k)]):=fun hm=>by
  have:=(h.seen_ y).2 hm
  rw[hs] at this
  cases this
 have hnot:(y:Int) ∉ ord∧(y:Int) ∉ (an:Int) :: (s.map (·.1)).reverse:=by
  rw[e2] at hns
  exact⟨fun q=>hns (List.mem_append.2 (.inl q)),fun q=>hns (List.mem_append.2 (.inr q))⟩
 have hmem:∀ x:Int,x∈sq ord (s ++ [((an:Int),k+1)] ++ [((y:Int),0)]) ↔ x∈sq ord (s ++ [((an:Int),k)])∨x=y:=by
  intro x
  rw[e1,e2]
  simp only[List.mem_append,List.mem_cons]
  constructor
  ·rintro(h | h | h | h)
   ·exact .inl (.inl h)
   ·exact .inr h
   ·exact .inl (.inr (.inl h))
   ·exact .inl (.inr (.inr h))
  ·rintro((h | h | h) | h)
   ·exact .inl h
   ·exact .inr (.inr (.inl h))
   ·exact .inr (.inr (.inr h))
   ·exact .inr (.inl h)
 refine⟨by simpa using h.len,fun n=>?_,?_,?_,?_,?_,fun n m h1 h2=>Zq (h.closed n m h1 h2),fun x z hx=>?_⟩
 ·rw[hmem,← h.seen_ n,List.getElem?_set]
  by_cases e:y=n
  ·subst e;simp[hyl]
  ·rw[if_neg e]
   constructor
   ·exact fun q=>.inl q
   ·rintro(q | q)
    ·exact q
    ·omega
 ·have hnd:=h.nodup
  rw[e2] at hnd
  rw[e1,List.nodup_append] at *
  obtain⟨n1,n2,n3⟩:=hnd
  refine⟨n1,List.nodup_cons.2 ⟨hnot.2,n2⟩,fun x hx z hz=>?_⟩
  rw[List.mem_cons] at hz
  rcases hz with rfl | hz
  ·exact fun e=>hnot.1 (e ▸ hx)
  ·exact n3 x hx z hz
 ·intro x hx
  rcases(hmem x).1 hx with q | q
  ·exact h.rch x q
  ·exact⟨y,q,hryr⟩
 ·obtain⟨L,hL⟩:=h.last
  rw[e2] at hL
  rw[e1]
  rcases List.eq_nil_or_concat ((s.map (·.1)).reverse) with q | ⟨L',b,q⟩
  ·rw[q] at hL ⊢
   have:((an:Int))=0:=by
    have h1:=congrArg List.reverse hL
    simp only[List.reverse_append,List.reverse_cons,List.reverse_nil,List.nil_append,List.cons_append,List.singleton_append] at h1
    injection h1
   exact⟨ord ++ [(y:Int)],by rw[this];simp⟩
  ·rw[q] at hL ⊢
   have:b=0:=by
    have hL':(ord ++ (an:Int) :: L') ++ [b]=L ++ [0]:=by rw[← hL];simp
    have h1:=(List.append_inj' hL' rfl).2
    simpa using h1
   exact⟨ord ++ (y:Int) :: (an:Int) :: L',by rw[this];simp⟩
 ·intro A B n hAB hn0
  rw[e1] at hAB
  have hlt:=h.later
  rw[e2] at hlt
  rcases List.append_eq_append_iff.1 hAB with⟨C,h1,h2⟩ | ⟨C,h1,h2⟩
  ·
   cases C with
   | nil =>
    simp only[List.nil_append] at h2
    injection h2 with h2 h3
    have hyn:n=y:=by omega
    subst hyn
    exact⟨an,by rw[← h3];simp,hed⟩
   | cons c C =>
    injection h2 with h2 h3
    exact hlt (ord ++ C) B n (by rw[h3];simp) hn0
  ·cases C with
   | nil =>
    simp only[List.nil_append] at h2
    injection h2 with h2 h3
    have hyn:n=y:=by omega
    subst hyn
    exact⟨an,by rw[h3];simp,hed⟩
   | cons c C =>
    injection h2 with h2 h3
    obtain⟨p,hp,hpe⟩:=hlt A (C ++ (an:Int) :: (s.map (·.1)).reverse) n (by rw[h1,← h2];simp) hn0
    refine⟨p,?_,hpe⟩
    have h3':B=C ++ ((y:Int) :: (an:Int) :: (s.map (·.1)).reverse):=h3
    rw[h3']
    simp only[List.mem_append,List.mem_cons] at hp ⊢
    rcases hp with hp | hp | hp
    ·exact .inl hp
    ·exact .inr (.inr (.inl hp))
    ·exact .inr (.inr (.inr hp))
 ·rw[List.mem_append,List.mem_append,List.mem_singleton,List.mem_singleton] at hx
  rcases hx with(hx | hx) | hx
  ·obtain⟨q1,q2⟩:=h.at_ x z (by simp[hx])
   exact⟨q1,fun nd' hn'=>⟨(q2 nd' hn').1,fun j v hj hv=>Zq ((q2 nd' hn').2 j v hj hv)⟩⟩
  ·injection hx with h1 h2
   subst h1 h2
   obtain⟨q1,q2⟩:=h.at_ (an:Int) k (by simp)
   have hql:=(List.getElem?_eq_some_iff.1 hy).1
   refine⟨by omega,fun nd' hn'=>?_⟩
   rw[Int.toNat_natCast,hn] at hn'
   injection hn' with hn'
   subst hn'
   refine⟨by omega,fun j v hj hv=>?_⟩
   by_cases c:(j:Int) < k
   ·exact Zq ((q2 nd (by rw[Int.toNat_natCast];exact hn)).2 j v c hv)
   ·obtain rfl:j=q:=by omega
    rw[hy] at hv
    injection hv with hv
    rw[← hv,Int.toNat_natCast,List.getElem?_set,if_pos rfl,if_pos hyl]
  ·injection hx with h1 h2
   subst h1 h2
   exact⟨Int.le_refl _,fun nd' _=>⟨by omega,fun j v hj=>by omega⟩⟩
theorem ZFn (N:Nat) (l:List Int) (hd:l.Nodup) (h:∀ x∈l,0≤x∧x < N) : l.length≤N:=by
 refine ZFi N l.length (fun i=>(l.getD i 0).toNat) (fun e he=>?_) (fun a b ha hb hab=>?_)
 ·have:=h l[e] (List.getElem_mem he)
  simp only[List.getD_eq_getElem?_getD,List.getElem?_eq_getElem he,Option.getD_some]
  omega
 ·have h1:=h l[a] (List.getElem_mem ha)
  have h2:=h l[b] (List.getElem_mem hb)
  simp only[List.getD_eq_getElem?_getD,List.getElem?_eq_getElem ha,List.getElem?_eq_getElem hb,Option.getD_some] at hab
  have he:l[a]=l[b]:=by omega
  exact(List.getElem?_inj ha hd).1 (by rw[List.getElem?_eq_getElem ha,List.getElem?_eq_getElem hb,he])
theorem DF.bound (hw:WholeG g) {st:List (Int × Int)} (h:DF g seen ord st) : ord.length+st.length≤g.nodes.length:=by
 have:=ZFn g.nodes.length (sq ord st) h.nodup (fun x hx=>by
  obtain⟨n,rfl,hn⟩:=h.rch x hx
  have:=hn.lt hw
  omega)
 simpa [sq] using this
end
def plO (R:List Int) (n:Nat) : Nat:=R.idxOf (n:Int)
structure OrdP (g:Graph) (R:List Int) : Prop where
 rpo:RPO g (plO R) R.length
 mem:∀ (i:Nat) (x:Int),R[i]? = some x→∃ n:Nat,x=n∧Rch g n∧plO R n=i
 all:∀ n,Rch g n→R[plO R n]? = some (n:Int)
 most:R.length≤g.nodes.length
theorem DF.done {g:Graph} (hw:WholeG g) {seen:List Bool} {ord:List Int} (h:DF g seen ord []) : OrdP g ord.reverse:=by
 have hsq:sq ord []=ord:=by simp[sq]
 have hnd:=h.nodup
 have hrc:=h.rch
 have hlt:=h.later
 have hla:=h.last
 have hse:=h.seen_
 rw[hsq] at hnd hrc hlt hla
 have hall:∀ n,Rch g n→(n:Int)∈ord:=by
  intro n hn
  induction hn with
  | zero =>
   obtain⟨L,hL⟩:=hla
   rw[hL];simp
  | step _ _ hn hj ih =>
   have:=h.closed _ _ ih ⟨_,hn,hj⟩
   have:=(hse _).1 this
   rwa [hsq] at this
 have hat:∀ n:Nat,(n:Int)∈ord→ord.reverse[plO ord.reverse n]? = some (n:Int):=by
  intro n hn
  have hm:(n:Int)∈ord.reverse:=by simpa using hn
  have hl:ord.reverse.idxOf (n:Int) < ord.reverse.length:=List.idxOf_lt_length_iff.2 hm
  unfold plO
  rw[List.getElem?_eq_getElem hl,List.getElem_idxOf]
 have hnr:ord.reverse.Nodup:=List.pairwise_reverse.2 (hnd.imp fun h=>h.symm)
 have hinv:∀ (i:Nat) (x:Int),ord.reverse[i]? = some x→ord.reverse.idxOf x=i:=by
  intro i x hx
  obtain⟨hi,he⟩:=List.getElem?_eq_some_iff.1 hx
  have:=List.Nodup.idxOf_getElem hnr i hi
  rw[he] at this
  exact this
 refine⟨⟨?_,?_,?_,?_⟩,?_,fun n hn=>hat n (hall n hn),by have:=h.bound hw;simpa using this⟩
 ·obtain⟨L,hL⟩:=hla
  unfold plO
  refine hinv 0 0 ?_
  rw[hL];simp
 ·intro n hn
  unfold plO
  exact List.idxOf_lt_length_iff.2 (by simpa using hall n hn)
 ·intro a b ha hb hab
  have h1:=hat a (hall a ha)
  have h2:=hat b (hall b hb)
  rw[hab,h2] at h1
  injection h1 with h1
  omega
 ·intro n hn h0
  obtain⟨A,B,hAB⟩:=List.append_of_mem (hall n hn)
  obtain⟨p,hp,hpe⟩:=hlt A B n hAB h0
  have hpo:(p:Int)∈ord:=by rw[hAB];simp[hp]
  obtain⟨q,hq,hqr⟩:=hrc _ hpo
  obtain rfl:p=q:=by omega
  refine⟨p,hqr,hpe,?_⟩
  have hrev:ord.reverse=B.reverse ++ (n:Int) :: A.reverse:=by rw[hAB];simp
  have hpB:(p:Int)∈B.reverse:=by simpa using hp
  have h1:ord.reverse[B.reverse.idxOf (p:Int)]? = some (p:Int):=by
   have hl:B.reverse.idxOf (p:Int) < B.reverse.length:=List.idxOf_lt_length_iff.2 hpB
   rw[hrev,List.getElem?_append_left hl,List.getElem?_eq_getElem hl,List.getElem_idxOf]
  have h2:ord.reverse[B.reverse.length]? = some (n:Int):=by
   rw[hrev,List.getElem?_append_right (Nat.le_refl _)];simp
  have e1:=hinv _ _ h1
  have e2:=hinv _ _ h2
  unfold plO
  rw[e1,e2]
  exact List.idxOf_lt_length_iff.2 hpB
 ·intro i x hx
  obtain⟨n,rfl,hn⟩:=hrc x (by have:=List.mem_of_getElem? hx;simpa using this)
  exact⟨n,rfl,hn,hinv _ _ hx⟩
end Go.Proofs.YtffgnjgphkdodaaDoor
namespace Go.Proofs.YtffgnjgphkdodaaDoor
open Go Go.RowKit
theorem ZJj {w wr wx:World} {r:Option Nat} (h:w.grownBy wr r) (k:wr.grownBy wx r) : w.grownBy wx r :=
 ⟨k.os.trans h.os,k.tape.trans h.tape,k.output.trans h.output,Nat.le_trans h.size k.size,fun b hb hne=>(k.block b (Nat.lt_of_lt_of_le hb h.size) hne).trans (h.block b hb hne)⟩
theorem gb_dr {w wr:World} {r:Option Nat} (h:w.grownBy wr r) : w.grownBy wr.drew r:=⟨h.os,h.tape,h.output,h.size,h.block⟩
structure Meet (g:Graph) (pl:Nat→Nat) (out:List Int) (r i a b a' b':Nat) : Prop where
 ra:Rch g a'
 pa:Pro pl r i a'
 rb:Rch g b'
 pb:Pro pl r i b'
 ca:Ch out a a'
 cb:Ch out b b'
 all:∀ m,Ch out a m→Ch out b m→Ch out a' m∧Ch out b' m
section
variable {g:Graph} {pl:Nat→Nat} {out:List Int} {r i a b a' b':Nat}
theorem Meet.left (hw:WholeG g) (hk:CK g pl out r i) (h:Meet g pl out r i a b a' b') (hlt:pl b' < pl a') : ∃ k:Nat,out[a']? = some (k:Int)∧pl k < pl a'∧Meet g pl out r i a b k b':=by
 have h0:a'≠0:=by
  rintro rfl
  have:=(hk.chain hw (hk.to_zero hw (pl b') b' rfl h.rb h.pb) h.rb h.pb).2.2.1
  omega
 obtain⟨k,h1,h2,h3,h4⟩:=hk.next hw h.ra h0 h.pa
 refine⟨k,h1,h3,h2,h4,h.rb,h.pb,h.ca.trans (.step h0 h1 (.refl _)),h.cb,fun m hm1 hm2=>?_⟩
 obtain⟨q1,q2⟩:=h.all m hm1 hm2
 refine⟨q1.tail ?_ h1,q2⟩
 rintro rfl
 have:=(hk.chain hw q2 h.rb h.pb).2.2.1
 omega
theorem Meet.swap (h:Meet g pl out r i a b a' b') : Meet g pl out r i b a b' a':=⟨h.rb,h.pb,h.ra,h.pa,h.cb,h.ca,fun m h1 h2=>(h.all m h2 h1).symm⟩
end
structure BoxI (w:World) (B b:Nat) (c:Nat) (l:List Int) : Prop where
 box:w.cell? ⟨B,0,none⟩=some (.slice (some ⟨b,0,none⟩) l.length c)
 blk:∀ (k:Nat) (x:Int),l[k]? = some x→w.cell? ⟨b,k,none⟩=some (.int .i64 x)
theorem BoxI.drewN {w:World} {B b c:Nat} {l:List Int} (h:BoxI w B b c l) (n:Nat) : BoxI (w.drewN n) B b c l:=⟨h.box,h.blk⟩
set_option maxRecDepth 100000 in
set_option maxHeartbeats 4000000 in
theorem ZGz (g:Graph) (pl:Nat→Nat) (M:Nat) (out pls:List Int) (r i a b B1 b1 c1 B2 b2 c2:Nat) (w:World) (hw:WholeG g) (hr:RPO g pl M) (hk:CK g pl out r i) (h1:BoxI w B1 b1 c1 pls) (h2:BoxI w B2 b2 c2 out) (hpl:∀ n,Rch g n→pls[n]? = some (pl n:Int)) (hpn:pls.length=g.nodes.length)
  (ha:Rch g a) (hap:Pro pl r i a) (hb:Rch g b) (hbp:Pro pl r i b) (hM:M≤4096) :
  Calls Tryd.prog 85 #[.int .i64 (a:Int),.int .i64 (b:Int),.pointer (some ⟨B1,0,none⟩),.pointer (some ⟨B2,0,none⟩)] w fun e w'=>∃ c:Nat,e=.returned (.int .i64 (c:Int))∧(∃ n,w'=w.drewN n)∧Meet g pl out r i a b c c:=by
 have HW:=Hd_ hw
 have HK:=Hd_ hk
 have HR:=Hd_ hr
 have HP:=Hd_ hpl
 have hlen:=hk.len
 have HM0:Hid (Meet g pl out r i a b a b):=Hd_ ⟨ha,hap,hb,hbp,.refl _,.refl _,fun m x y=>⟨x,y⟩⟩
 have H1:=Hd_ h1
 have H2:=Hd_ h2
 have x1:=h1.box
 have x2:=h2.box
 obtain⟨N,HN⟩ : ∃ N,Hid (g.nodes.length=N):=⟨_,rfl⟩
 rw[HN.out] at hpn hlen
 rw[hpn] at x1
 rw[hlen] at x2
 have hmost:=hw.most
 rw[HN.out] at hmost
 have bb1:=World.block_lt_of_cell? _ _ x1
 simp only at bb1
 clear hw hk hr hpl ha hap hb hbp h1 h2
 go_enter Tryd.func85,Tryd.ntmps85
 go_wp2
 go_loopg [0,1] 8192 (fun kg v0 v1 wr=>∃ a' b':Nat,v0=.int .i64 (a':Int)∧v1=.int .i64 (b':Int)∧Hid (Meet g pl out r i a b a' b')∧Hid (∃ n,wr=w.drewN n)∧pl a'+pl b'≤kg)
 case atStart=>exact⟨a,b,rfl,rfl,HM0,Hd_ ⟨0,rfl⟩,by have:=HR.out.lt a HM0.out.ra;have:=HR.out.lt b HM0.out.rb;omega⟩
 case round =>
  obtain⟨a',b',rfl,rfl,HM,HD,hkg⟩:=hrel
  by_cases hab:a'=b'
  ·have d0:((a':Int) != (b':Int))=false:=by simp[hab]
   have d1:(a' != b')=false:=by simp[hab]
   have HF:Hid (Meet g pl out r i a b a' a'):=Hd_ (by have:=HM.out;rw[← hab] at this;exact this)
   clear hab
   go_wp2
   go_ret
   exact⟨a',rfl,HD.out,HF.out⟩
  ·have d0:((a':Int) != (b':Int))=true:=by simp;omega
   have d1:(a' != b')=true:=by simp;omega
   have hne:pl a'≠pl b':=fun e=>hab (HR.out.inj a' b' HM.out.ra HM.out.rb e)
   go_wp2
   go_loopw [0] (fun v0 wr=>∃ a2:Nat,v0=.int .i64 (a2:Int)∧Hid (Meet g pl out r i a b a2 b')∧Hid (∃ n,wr=w.drewN n)∧(a2=a'∨pl a2 < pl a')∧pl a2≤pl a') (fun v0 _=>pl (intOf v0).toNat)
   case atStart=>exact⟨a',rfl,HM,HD,.inl rfl,Nat.le_refl _⟩
   case round =>
    obtain⟨a2,rfl,HM2,HD2,hor,hle⟩:=hrel
    obtain⟨n2,rfl⟩:=HD2.out
    have ha2:a2 < N:=by have:=HM2.out.ra.lt HW.out;rw[HN.out] at this;exact this
    have hb2:b' < N:=by have:=HM2.out.rb.lt HW.out;rw[HN.out] at this;exact this
    obtain⟨x,hx⟩ : ∃ x,pl a2=x:=⟨_,rfl⟩
    obtain⟨y,hy⟩ : ∃ y,pl b'=y:=⟨_,rfl⟩
    have q1:=H1.out.blk a2 _ (HP.out a2 HM2.out.ra)
    have q2:=H1.out.blk b' _ (HP.out b' HM2.out.rb)
    rw[hx] at q1
    rw[hy] at q2
    have i1:(0:Int)≤a2:=by omega
    have i2:(a2:Int) < N:=by omega
    have i3:(0:Int)≤b':=by omega
    have i4:(b':Int) < N:=by omega
    have HXY:=Hd_ (And.intro hx hy)
    clear hx hy
    by_cases hgt:y < x
    ·have d2:decide ((y:Int) < (x:Int))=true:=decide_eq_true (by omega)
     have d3:decide (y < x)=true:=decide_eq_true hgt
     obtain⟨k,hk1,hk2,hk3⟩:=HM2.out.left HW.out HK.out (by rw[HXY.out.1,HXY.out.2];exact hgt)
     have q3:=H2.out.blk a2 _ hk1
     have HK3:=Hd_ (And.intro hk3 hk2)
     clear hk1 hk2 hk3 hgt
     go_wp2
     go_quiet (fail)
     go_wp2
     go_roundw
     case rel=>exact⟨k,rfl,Hd_ HK3.out.1,Hd_ ⟨_,rfl⟩,.inr (by have:=HK3.out.2;omega),by have:=HK3.out.2;omega⟩
     case measure=>have:=HK3.out.2;simp[intOf];omega
    ·have d2:decide ((y:Int) < (x:Int))=false:=decide_eq_false (by omega)
     have d3:decide (y < x)=false:=decide_eq_false hgt
     have HGT:Hid (pl a2≤pl b'):=Hd_ (by rw[HXY.out.1,HXY.out.2];omega)
     clear hgt
     go_wp2
     go_quiet (fail)
     go_wp2
     clear q1 q2
     go_loopw [1] (fun v1 wr=>∃ b2:Nat,v1=.int .i64 (b2:Int)∧Hid (Meet g pl out r i a b a2 b2)∧Hid (∃ n,wr=w.drewN n)∧(b2=b'∨pl b2 < pl b')∧pl b2≤pl b') (fun v1 _=>pl (intOf v1).toNat)
     case atStart=>exact⟨b',rfl,HM2,Hd_ ⟨_,World.drewN_drewN _ _ _⟩,.inl rfl,Nat.le_refl _⟩
     case round =>
      obtain⟨b2',rfl,HM3,HD3,hor3,hle3⟩:=hrel
      obtain⟨n3,rfl⟩:=HD3.out
      have hb3:b2' < N:=by have:=HM3.out.rb.lt HW.out;rw[HN.out] at this;exact this
      obtain⟨z,hz⟩ : ∃ z,pl b2'=z:=⟨_,rfl⟩
      have q1:=H1.out.blk a2 _ (HP.out a2 HM3.out.ra)
      have q2:=H1.out.blk b2' _ (HP.out b2' HM3.out.rb)
      rw[HXY.out.1] at q1
      rw[hz] at q2
      have i5:(0:Int)≤b2':=by omega
      have i6:(b2':Int) < N:=by omega
      have HZ:=Hd_ hz
      clear hz
      by_cases hgt:x < z
      ·have d4:decide ((x:Int) < (z:Int))=true:=decide_eq_true (by omega)
       have d5:decide (x < z)=true:=decide_eq_true hgt
       obtain⟨k,hk1,hk2,hk3⟩:=HM3.out.swap.left HW.out HK.out (by rw[HXY.out.1,HZ.out];exact hgt)
       have q3:=H2.out.blk b2' _ hk1
       have HK3:=Hd_ (And.intro hk3.swap hk2)
       clear hk1 hk2 hk3 hgt
       go_wp2
       go_quiet (fail)
       go_wp2
       go_roundw
       case rel=>exact⟨k,rfl,Hd_ HK3.out.1,Hd_ ⟨_,rfl⟩,.inr (by have:=HK3.out.2;omega),by have:=HK3.out.2;omega⟩
       case measure=>have:=HK3.out.2;simp[intOf];omega
      ·have d4:decide ((x:Int) < (z:Int))=false:=decide_eq_false (by omega)
       have d5:decide (x < z)=false:=decide_eq_false hgt
       have HGT2:Hid (pl b2'≤pl a2):=Hd_ (by rw[HXY.out.1,HZ.out];omega)
       clear hgt
       go_wp2
       go_quiet (fail)
       go_wp2
       go_roundg (pl a2+pl b2')
       case measure =>
        have g1:=HGT.out
        have g2:=HGT2.out
        rcases hor with rfl | h3
        ·rcases hor3 with rfl | h4
         ·omega
         ·omega
        ·omega
       case rel=>exact⟨a2,b2',rfl,rfl,HM3,Hd_ ⟨_,World.drewN_drewN _ _ _⟩,Nat.le_refl _⟩
def rvL (l:List Int) (i:Nat) : List Int:=(List.range l.length).map fun k=>if k < i∨l.length≤k+i then l.getD (l.length - 1 - k) 0 else l.getD k 0
theorem ZCH (l:List Int) (i:Nat) : (rvL l i).length=l.length:=by simp[rvL]
theorem ZD4 (l:List Int) (i:Nat) {k:Nat} (h:k < l.length) : (rvL l i)[k]? = some (if k < i∨l.length≤k+i then l.getD (l.length - 1 - k) 0 else l.getD k 0):=by simp[rvL,h]
theorem ZCS (l:List Int) {k:Nat} (h:k < l.length) : l[k]? = some (l.getD k 0):=by
 rw[List.getD_eq_getElem?_getD,List.getElem?_eq_getElem h];rfl
theorem ZIg (l:List Int) : rvL l 0=l:=by
 apply List.ext_getElem?
 intro k
 by_cases h:k < l.length
 ·rw[ZD4 l 0 h,if_neg (by omega),ZCS l h]
 ·rw[List.getElem?_eq_none (by rw[ZCH];omega),List.getElem?_eq_none (by omega)]
theorem ZIh (l:List Int) {i j:Nat} (hj:i+j+1=l.length) (hij:i < j) : ((rvL l i).set i (l.getD j 0)).set j (l.getD i 0)=rvL l (i+1):=by
 apply List.ext_getElem?
 intro k
 by_cases h:k < l.length
 ·rw[List.getElem?_set,List.getElem?_set,ZD4 l i h,ZD4 l (i+1) h]
  simp only[List.length_set,ZCH]
  by_cases e1:j=k
  ·subst e1
   rw[if_pos rfl,if_pos h,if_pos (by omega),show l.length - 1 - j=i by omega]
  ·rw[if_neg e1]
   by_cases e2:i=k
   ·subst e2
    rw[if_pos rfl,if_pos h,if_pos (by omega),show l.length - 1 - i=j by omega]
   ·rw[if_neg e2]
    by_cases c:k < i∨l.length≤k+i
    ·rw[if_pos c,if_pos (by omega)]
    ·rw[if_neg c,if_neg (by omega)]
 ·rw[List.getElem?_eq_none (by simp only[List.length_set,ZCH];omega),List.getElem?_eq_none (by rw[ZCH];omega)]
theorem ZIi (l:List Int) {i:Nat} (h:l.length≤2 * i+1) : rvL l i=l.reverse:=by
 apply List.ext_getElem?
 intro k
 by_cases hk:k < l.length
 ·rw[ZD4 l i hk,List.getElem?_reverse hk]
  by_cases c:k < i∨l.length≤k+i
  ·rw[if_pos c,ZCS l (by omega)]
  ·rw[if_neg c,show l.length - 1 - k=k by omega,ZCS l hk]
 ·rw[List.getElem?_eq_none (by rw[ZCH];omega),List.getElem?_eq_none (by simp;omega)]
set_option maxRecDepth 100000 in
set_option maxHeartbeats 2000000 in
theorem ZEX (base:Nat) (v:Value) (l:List Int) (w:World) (h:w.ownsRow base 3 1 v l.length (ints l)) (hl:l.length≤4294967296) :
  Calls Tryd.prog 91 #[v] w fun e w'=>e=.returned (.tuple #[])∧w'.ownsRow base 3 1 v l.length (ints l.reverse)∧w.grownBy w' v.ownBlock:=by
 obtain⟨A,c,rfl,-⟩:=ZE h
 have HO0:=Hd_ h
 clear h
 go_enter Tryd.func91,Tryd.ntmps91
 go_wp2
 go_loopw [2,3] (fun v2 v3 wr=>∃ i:Nat,v2=.int .i64 (i:Int)∧v3=.int .i64 ((l.length:Int) - 1 - (i:Int))∧2 * i≤l.length+1∧Hid (wr.ownsRow base 3 1 (.slice A l.length c) l.length (ints (rvL l i)))∧Hid (w.grownBy wr (Value.slice A l.length c).ownBlock)) (fun v2 _ _=>l.length - (intOf v2).toNat)
 case atStart=>exact⟨0,rfl,by simp,by omega,Hd_ (by rw[ZIg];exact HO0.out),Hd_ (World.grownBy.refl w _)⟩
 case round =>
  obtain⟨i,rfl,rfl,hi,HO,HG⟩:=hrel
  by_cases hlt:2 * i+1 < l.length
  ·obtain⟨j,hj⟩ : ∃ j:Nat,i+j+1=l.length:=⟨l.length - 1 - i,by omega⟩
   have hje:(l.length:Int) - 1 - (i:Int)=(j:Int):=by omega
   rw[hje]
   have hij:i < j:=by omega
   have d1:decide ((i:Int) < (j:Int))=true:=decide_eq_true (by omega)
   have d2:decide (i < j)=true:=decide_eq_true hij
   obtain⟨rb,rc,e,-,-,-,hc⟩:=ZW HO.out (by omega)
   injection e with e _ e3
   subst e e3
   have q1:wr.cell? ⟨rb,i,none⟩=some (.int .i64 (l.getD i 0)):=(hc i (by omega)).trans (by simp[ints,ZD4 l i (show i < l.length by omega)];intro h;omega)
   have q2:wr.cell? ⟨rb,j,none⟩=some (.int .i64 (l.getD j 0)):=(hc j (by omega)).trans (by simp[ints,ZD4 l i (show j < l.length by omega)];intro h;omega)
   obtain⟨x,hx⟩ : ∃ x,l.getD i 0=x:=⟨_,rfl⟩
   obtain⟨y,hy⟩ : ∃ y,l.getD j 0=y:=⟨_,rfl⟩
   rw[hx] at q1
   rw[hy] at q2
   have f1:=World.ownsRow.frozenAt HO.out i
   have f2:=World.ownsRow.frozenAt HO.out j
   have i1:(0:Int)≤i:=by omega
   have i2:(i:Int) < l.length:=by omega
   have i3:(0:Int)≤j:=by omega
   have i4:(j:Int) < l.length:=by omega
   have hs1:=World.ownsRow.stored HO.out i (.int .i64 y)
   have u1:∃ u,(wr.setCell ⟨rb,i,none⟩ (.int .i64 y)).cell? ⟨rb,j,none⟩=some u:=⟨_,(World.ownsRow.cellAt hs1.1 j (by omega)).trans (List.getElem?_eq_getElem (by rw[List.length_set];simp[ints,ZCH];omega))⟩
   obtain⟨u1,hu1⟩:=u1
   have hs2:=World.ownsRow.stored hs1.1 j (.int .i64 x)
   have HXY:=Hd_ (And.intro hx hy)
   have HS:=Hd_ (And.intro hs1.2 hs2)
   clear hs1 hs2 hx hy hc
   go_wp2
   go_region
   go_wp2
   go_roundw
   case rel =>
    refine⟨i+1,by go_num,by congr 1;omega,by omega,Hd_ ?_,Hd_ ?_⟩
    ·have h1:=HS.out.2.1
     rw[show((ints (rvL l i)).set i (.int .i64 y)).set j (.int .i64 x)=ints (rvL l (i+1)) by rw[← ZIh l hj hij,HXY.out.1,HXY.out.2];simp[ints,List.map_set]] at h1
     exact h1
    ·exact gb_dr (ZJj HG.out (ZJj HS.out.1 HS.out.2.2))
   case measure=>simp[intOf];omega
  ·have d1:decide ((i:Int) < (l.length:Int) - 1 - (i:Int))=false:=decide_eq_false (by omega)
   have hdn:=ZIi l (i:=i) (by omega)
   rw[hdn] at HO
   clear hdn
   go_wp2
   go_end0
   exact⟨rfl,HO.out,HG.out⟩
end Go.Proofs.YtffgnjgphkdodaaDoor
