import Derived.Test.YtffgnjgphkdodaaDoorD5
import Derived.Test.YtffgnjgphkdodaaDoorD8
import Derived.Test.YtffgnjgphkdodaaDoorD9
namespace Go.Proofs.YtffgnjgphkdodaaDoor
open Go
def drB (n:Node) : Bool:=decide (n.kind=4∨n.kind=5∨n.kind=7)
noncomputable def stB (u:Unit_) (n:Node) : Bool:=decide (n.kind=6∨(n.kind=3∧(classF u n.thing).kind=3))
noncomputable def ldB (u:Unit_) (n:Node) : Bool:=decide (n.kind=2∧(classF u n.thing).kind=3)
inductive OpenC (g:Graph) (S:Nat→Prop) (F:List Int) : Nat→Prop
 | first {i j:Nat} {n:Node} : S i→g.nodes[i]? = some n→(j:Int)∈fol n→(j:Int) ∉ F→OpenC g S F j
 | step {i j:Nat} {n:Node} : OpenC g S F i→g.nodes[i]? = some n→drB n=false→(j:Int)∈fol n→(j:Int) ∉ F→OpenC g S F j
def Goes (g:Graph) (S:Nat→Prop) (l:List Bool) (i:Nat) : Prop:=S i∨(l[i]? = some true∧∀ n,g.nodes[i]? = some n→drB n=false)
structure DI (g:Graph) (S:Nat→Prop) (F:List Int) (l:List Bool) (t:List Int) (ex:Nat→Prop) : Prop where
 len:l.length=g.nodes.length
 from_:∀ i,S i→i < g.nodes.length
 todo:∀ k∈t,0≤k∧k < g.nodes.length∧Goes g S l k.toNat
 sound:∀ i:Nat,l[i]? = some true→OpenC g S F i
 closed:∀ i:Nat,Goes g S l i→(i:Int)∈t∨ex i∨∀ n,g.nodes[i]? = some n→∀ j∈fol n,j ∉ F→l[j.toNat]? = some true
theorem Goes.mono {g:Graph} {S:Nat→Prop} {l:List Bool} {i j:Nat} (h:Goes g S l i) : Goes g S (l.set j true) i:=by
 rcases h with h | h
 ·exact .inl h
 ·exact .inr ⟨Zq h.1,h.2⟩
theorem DI.start {g:Graph} {S:Nat→Prop} (F:List Int) {t:List Int} (hS:∀ i,S i→i < g.nodes.length) (ht:∀ k∈t,0≤k∧S k.toNat) (hc:∀ i:Nat,S i→(i:Int)∈t) : DI g S F (List.replicate g.nodes.length false) t (fun _=>False):=by
 have h0:∀ i:Nat,(List.replicate g.nodes.length false)[i]?≠some true:=by
  intro i hi
  rw[List.getElem?_replicate] at hi;split at hi <;> cases hi
 refine⟨by simp,hS,fun k hk=>?_,fun i hi=>absurd hi (h0 i),fun i hi=>?_⟩
 ·have h1:=ht k hk
  have:=hS _ h1.2
  exact⟨h1.1,by omega,.inl h1.2⟩
 ·rcases hi with hi | hi
  ·exact .inl (hc i hi)
  ·exact absurd hi.1 (h0 i)
theorem DI.pop {g:Graph} {S:Nat→Prop} {F:List Int} {l:List Bool} {t:List Int} {k:Int} {tt:List Int} (h:DI g S F l tt (fun _=>False)) (ht:∀ x,x∈tt ↔ x∈t∨x=k) : DI g S F l t (· = k.toNat) :=
 ⟨h.len,h.from_,fun x hx=>h.todo x ((ht x).2 (.inl hx)),h.sound,fun i hi=>by
  rcases h.closed i hi with h1 | h1 | h1
  ·rcases(ht _).1 h1 with h1 | h1
   ·exact .inl h1
   ·exact .inr (.inl (by omega))
  ·exact h1.elim
  ·exact .inr (.inr h1)⟩
structure DP (g:Graph) (S:Nat→Prop) (F:List Int) (l:List Bool) (t:List Int) (at_:Nat) (n:Node) (fs:List Int) (k:Nat) : Prop where
 di:DI g S F l t (· = at_)
 nd:g.nodes[at_]? = some n
 goes:Goes g S l at_
 same:∀ j,j∈fs ↔ j∈fol n
 done_:∀ (i:Nat) (j:Int),i < k→fs[i]? = some j→j ∉ F→l[j.toNat]? = some true
section
variable {g:Graph} {S:Nat→Prop} {F:List Int} {l:List Bool} {t:List Int} {at_:Nat} {n:Node} {fs:List Int} {k:Nat} {j:Int}
theorem DP.start (h:DI g S F l t (· = at_)) (hg:Goes g S l at_) (hn:g.nodes[at_]? = some n) (hf:∀ j,j∈fs ↔ j∈fol n) : DP g S F l t at_ n fs 0:=⟨h,hn,hg,hf,fun i j hi=>by omega⟩
theorem DP.seen (h:DP g S F l t at_ n fs k) (hj:fs[k]? = some j) (hl:j∈F∨l[j.toNat]? = some true) : DP g S F l t at_ n fs (k+1):=by
 refine⟨h.di,h.nd,h.goes,h.same,fun i x hi hx hF=>?_⟩
 by_cases e:i=k
 ·subst e
  rw[hj] at hx
  injection hx with hx
  subst hx
  rcases hl with hl | hl
  ·exact absurd hl hF
  ·exact hl
 ·exact h.done_ i x (by omega) hx hF
theorem DP.fresh (hw:WholeG g) (h:DP g S F l t at_ n fs k) (hj:fs[k]? = some j) (hF:j ∉ F) (tt:List Int) (b:Bool) (hb:∀ m,g.nodes[j.toNat]? = some m→drB m=b) (htt:∀ x,x∈tt ↔ x∈t∨(b=false∧x=j)) : DP g S F (l.set j.toNat true) tt at_ n fs (k+1):=by
 have hm:j∈fol n:=(h.same j).1 (List.mem_of_getElem? hj)
 have hbd:=hw.fol n (List.mem_of_getElem? h.nd) j hm
 have hlj:(l.set j.toNat true)[j.toNat]? = some true:=by
  have:=h.di.len
  rw[List.getElem?_set,if_pos rfl,if_pos (by omega)]
 have hO:OpenC g S F j.toNat:=by
  rcases h.goes with q | q
  ·exact .first q h.nd (by rw[Int.toNat_of_nonneg hbd.1];exact hm) (by rw[Int.toNat_of_nonneg hbd.1];exact hF)
  ·exact .step (h.di.sound _ q.1) h.nd (q.2 _ h.nd) (by rw[Int.toNat_of_nonneg hbd.1];exact hm) (by rw[Int.toNat_of_nonneg hbd.1];exact hF)
 refine⟨⟨by simpa using h.di.len,h.di.from_,?_,?_,?_⟩,h.nd,h.goes.mono,h.same,?_⟩
 ·intro x hx
  rcases(htt x).1 hx with hx | ⟨hb0,rfl⟩
  ·have:=h.di.todo x hx
   exact⟨this.1,this.2.1,this.2.2.mono⟩
  ·exact⟨hbd.1,hbd.2,.inr ⟨hlj,fun m hm=>(hb m hm).trans hb0⟩⟩
 ·intro i hi
  rw[List.getElem?_set] at hi
  split at hi
  ·rename_i e
   rw[← e];exact hO
  ·exact h.di.sound i hi
 ·intro i hi
  by_cases e:j.toNat=i
  ·by_cases hs:S i∨l[i]? = some true
   ·have hgo:Goes g S l i:=by
     rcases hs with hs | hs
     ·exact .inl hs
     ·rcases hi with hi | hi
      ·exact .inl hi
      ·exact .inr ⟨hs,hi.2⟩
    rcases h.di.closed i hgo with q | q | q
    ·exact .inl ((htt _).2 (.inl q))
    ·exact .inr (.inl q)
    ·exact .inr (.inr fun m hm j hj hF=>Zq (q m hm j hj hF))
   ·rcases hi with hi | hi
    ·exact absurd (.inl hi) hs
    ·have hlen:i < g.nodes.length:=by omega
     have h2:=hi.2 _ (List.getElem?_eq_getElem hlen)
     have h3:=hb _ (by rw[e];exact List.getElem?_eq_getElem hlen)
     exact .inl ((htt _).2 (.inr ⟨h3.symm.trans h2,by omega⟩))
  ·have hgo:Goes g S l i:=by
    rcases hi with hi | hi
    ·exact .inl hi
    ·refine .inr ⟨?_,hi.2⟩
     have:=hi.1
     rw[List.getElem?_set,if_neg e] at this
     exact this
   rcases h.di.closed i hgo with q | q | q
   ·exact .inl ((htt _).2 (.inl q))
   ·exact .inr (.inl q)
   ·exact .inr (.inr fun m hm j hj hF=>Zq (q m hm j hj hF))
 ·intro i x hi hx hF'
  by_cases e:i=k
  ·subst e;rw[hj] at hx;injection hx with hx;subst hx;exact hlj
  ·exact Zq (h.done_ i x (by omega) hx hF')
theorem DP.done (h:DP g S F l t at_ n fs k) (hk:fs.length≤k) : DI g S F l t (fun _=>False):=by
 refine⟨h.di.len,h.di.from_,h.di.todo,h.di.sound,fun i hi=>?_⟩
 rcases h.di.closed i hi with q | q | q
 ·exact .inl q
 ·subst q
  refine .inr (.inr fun m hm j hj hF=>?_)
  rw[h.nd] at hm;injection hm with hm;subst hm
  obtain⟨p,hp⟩:=List.getElem?_of_mem ((h.same j).2 hj)
  exact h.done_ p j (by have:=(List.getElem?_eq_some_iff.1 hp).1;omega) hp hF
 ·exact .inr (.inr q)
theorem DI.done (h:DI g S F l [] (fun _=>False)) (i:Nat) : l[i]? = some true ↔ OpenC g S F i:=by
 refine⟨h.sound i,fun r=>?_⟩
 induction r with
 | @first i j n hs hn hj hF =>
  rcases h.closed i (.inl hs) with q | q | q
  ·cases q
  ·exact q.elim
  ·have:=q n hn j hj hF
   simpa using this
 | @step i j n _ hn hd hj hF ih =>
  rcases h.closed i (.inr ⟨ih,fun m hm=>by rw[hn] at hm;injection hm with hm;rw[← hm];exact hd⟩) with q | q | q
  ·cases q
  ·exact q.elim
  ·have:=q n hn j hj hF
   simpa using this
end
theorem ZIp {g:Graph} (hw:WholeG g) {S:Nat→Prop} {F:List Int} {i:Nat} (h:OpenC g S F i) : i < g.nodes.length:=by
 cases h with
 | first _ hn hj _=>have:=hw.fol _ (List.mem_of_getElem? hn) _ hj;omega
 | step _ hn _ hj _=>have:=hw.fol _ (List.mem_of_getElem? hn) _ hj;omega
theorem ZFm {g:Graph} {S:Nat→Prop} {F:List Int} (hS:∀ i,S i→ReachC g (-1) i) {i:Nat} (h:OpenC g S F i) : ReachC g (-1) i:=by
 induction h with
 | first hs hn hj _=>exact .step (hS _ hs) (by omega) hn hj
 | step _ hn _ hj _ ih=>exact .step ih (by omega) hn hj
theorem ZCM {g:Graph} {S S':Nat→Prop} {F F':List Int} (hS:∀ i,S i→S' i) (hF:∀ x∈F',x∈F) {i:Nat} (h:OpenC g S F i) : OpenC g S' F' i:=by
 induction h with
 | first hs hn hj hf=>exact .first (hS _ hs) hn hj fun e=>hf (hF _ e)
 | step _ hn hd hj hf ih=>exact .step ih hn hd hj fun e=>hf (hF _ e)
theorem ZHi {g:Graph} {S:Nat→Prop} {F:List Int} {i:Nat} (h:OpenC g S F i) : ∃ s,S s∧OpenC g (· = s) F i:=by
 induction h with
 | @first a j n hs hn hj hf=>exact⟨a,hs,.first rfl hn hj hf⟩
 | step _ hn hd hj hf ih=>obtain⟨s,h1,h2⟩:=ih;exact⟨s,h1,.step h2 hn hd hj hf⟩
end Go.Proofs.YtffgnjgphkdodaaDoor
namespace Go.Proofs.YtffgnjgphkdodaaDoor
open Go Go.RowKit
def fenB (N:Nat) : Int→List Int→Bool
 | _,[]=>true
 | q,n :: F=>decide (q < n∧n < N) && fenB N n F
theorem ZH5 {N:Nat} {F:List Int} {k:Nat} {q x:Int} (h:F[k]? = some x) : fenB N q (F.drop k)=(decide (q < x∧x < N) && fenB N x (F.drop (k+1))):=by
 obtain⟨h1,h2⟩:=List.getElem?_eq_some_iff.1 h
 rw[List.drop_eq_getElem_cons h1,h2]
 rfl
theorem ZGR {N:Nat} {F:List Int} {k:Nat} {q:Int} (h:F.length≤k) : fenB N q (F.drop k)=true:=by
 rw[List.drop_eq_nil_of_le h]
 rfl
theorem ZGQ {N:Nat} {F:List Int} {q x:Int} (hq : -1≤q) (h:fenB N q F=true) (hx:x∈F) : 0≤x∧x < N:=by
 induction F generalizing q with
 | nil=>cases hx
 | cons n F ih =>
  simp only[fenB,Bool.and_eq_true,decide_eq_true_eq] at h
  rcases List.mem_cons.1 hx with rfl | hx
  ·omega
  ·exact ih (by omega) h.2 hx
set_option maxHeartbeats 400000 in
theorem ZDw (n:Node) (w:World) :
  Calls Tryd.prog 64 #[.agg n.cells.toArray] w fun e w'=>∃ v,e=.returned v∧Ints (part w' w.heap.size w'.heap.size) v (fol2 n)∧Below w.heap.size w w':=by
 unfold Node.cells
 by_cases h1:n.kind=9
 ·have hd:(n.kind == 9)=true:=by simp[h1]
  go_enter Tryd.func64,Tryd.ntmps64
  go_wp2
  go_ret
  refine⟨_,rfl,?_,ZI _ _⟩
  simp[fol2,h1];exact ZBH _
 ·have hd:(n.kind == 9)=false:=by simp[h1]
  by_cases h2:n.kind=8
  ·have hd:(n.kind == 8)=true:=by simp[h2]
   go_enter Tryd.func64,Tryd.ntmps64
   go_wp2
   go_ret
   refine⟨.slice (some ⟨w.heap.size+1,0,none⟩) 2 2,rfl,?_,(ZI _ _).alloc (by simp) _⟩
   rw[show fol2 n=[n.next,n.els] by simp[fol2,h2]]
   exact ZBI _ _ (by simp) _ _ (by rfl) _ _ (by rfl) (by simp) _ (by simp)
  ·have hd:(n.kind == 8)=false:=by simp[h2]
   go_enter Tryd.func64,Tryd.ntmps64
   go_wp2
   go_ret
   refine⟨.slice (some ⟨w.heap.size+1,0,none⟩) 1 1,rfl,?_,(ZI _ _).alloc (by simp) _⟩
   rw[show fol2 n=[n.next] by simp[fol2,h1,h2]]
   exact ZBI _ _ (by simp) _ _ (by rfl) _ _ (by rfl) (by simp) _ (by simp)
set_option maxHeartbeats 1000000 in
theorem ZCm (g:Graph) (cs:List Value) (v:Value) (F:List Int) (w:World) (hg:GraphV (cmap w) cs g) (hF:Ints (cmap w) v F) :
  Calls Tryd.prog 38 #[.agg cs.toArray,v] w fun e w'=>e=.returned (.bool (fenB g.nodes.length (-1) F))∧Below w.heap.size w w':=by
 obtain⟨nv,rfl,hn⟩:=hg
 obtain⟨nA,nc,rfl,-⟩:=id hn
 obtain⟨A,c,rfl,-⟩:=id hF
 have bF:=hF.len.2.2
 have bn:=hn.len.2.2
 obtain⟨N,HN⟩ : ∃ N,Hid (g.nodes.length=N):=⟨_,rfl⟩
 rw[HN.out] at bn ⊢
 obtain⟨r,hr⟩ : ∃ r,fenB N (-1) F=r:=⟨_,rfl⟩
 rw[hr]
 have HR:=Hd_ hr;clear hr
 have hb0:=ZB w (.cells #[.string g.name,.int .i64 g.locals,.int .i64 g.slots,.slice nA g.nodes.length nc] 38)
 have hbx:=Blk.new w 38 [.string g.name,.int .i64 g.locals,.int .i64 g.slots,.slice nA g.nodes.length nc]
 rw[HN.out] at hb0 hbx
 go_enter Tryd.func38,Tryd.ntmps38
 go_wp2
 go_loopw [5,10] (fun v5 v10 wr=>∃ (k:Nat) (q:Int),v5=.int .i64 q∧v10=.int .i64 k∧k≤F.length∧Hid (fenB N q (F.drop k)=r)∧Blk wr w.heap.size 38 [.string g.name,.int .i64 g.locals,.int .i64 g.slots,.slice nA N nc]∧Below w.heap.size w wr) (fun _ v10 _=>F.length - (intOf v10).toNat)
 case atStart=>exact⟨0,-1,rfl,rfl,by omega,HR,hbx,hb0⟩
 case round =>
  obtain⟨k,q,rfl,rfl,hk,HQ,hbx,hbel⟩:=hrel
  have hc3:=hbx.cell 3
  have hlt3:=hbx.lt
  by_cases hlt:k < F.length
  ·obtain⟨x,hx⟩ : ∃ x,F[k]? = some x:=⟨_,List.getElem?_eq_getElem hlt⟩
   obtain⟨b,o,rfl,g1⟩:=hF.at_ hx
   rw[Nat.mul_one] at g1
   have g2:wr.cell? ⟨b,o+k,none⟩=some (.int .i64 x):=ZA hbel _ _ _ g1
   have hf:=ZH5 (N:=N) (q:=q) hx
   have hk0:(0:Int)≤k:=by omega
   have hkl:(k:Int) < F.length:=by omega
   have HF:=Hd_ hf;clear hf hx g1
   by_cases h1:x≤q
   ·have hd:decide (x≤q)=true:=by simp[h1]
    have hrr:r=false:=by rw[← HQ.out,HF.out,decide_eq_false (by omega)];rfl
    subst hrr
    go_wp2
    go_ret
    exact⟨rfl,hbel⟩
   ·have hd:decide (x≤q)=false:=by simp;omega
    by_cases h2:(N:Int)≤x
    ·have hd2:decide ((N:Int)≤x)=true:=by simp;omega
     have hrr:r=false:=by rw[← HQ.out,HF.out,decide_eq_false (by omega)];rfl
     subst hrr
     go_wp2
     go_ret
     exact⟨rfl,hbel⟩
    ·have hd2:decide ((N:Int)≤x)=false:=by simp;omega
     have hnx:fenB N x (F.drop (k+1))=r:=by rw[← HQ.out,HF.out,decide_eq_true (by omega)];rfl
     have HX:=Hd_ hnx;clear hnx
     go_wp2
     go_roundw
     case rel=>exact⟨k+1,x,rfl,by go_num,by omega,HX,hbx,hbel⟩
     case measure=>simp[intOf];omega
  ·have hrr:r=true:=by rw[← HQ.out,ZGR (by omega)]
   subst hrr
   go_wp2
   go_ret
   exact⟨rfl,hbel⟩
end Go.Proofs.YtffgnjgphkdodaaDoor
