import Derived.Test.YtffgnjgphkdodaaGreatDoorV38
import Derived.Test.YtffgnjgphkdodaaGreatDoorV17
namespace Go.Proofs.YtffgnjgphkdodaaGreatDoor
open Go Go.RowKit
def waitsAll (ops:Array Oper) (f n:Nat) : Bool:=(List.range n).all fun i=>depOn ops ops.size f i
theorem ZEN {ops:Array Oper} {D:Nat→Bool} (hc:∀ i o,ops[i]? = some o→D i=true→∀ j∈predsOf o,D j=true) {j:Nat} : ∀ (f i:Nat) (o:Oper),ops[i]? = some o→(∀ p∈predsOf o,D p=true)→depOn ops f i j=true→D j=true
 | 0,_,_,_,_,h=>by unfold depOn at h;cases h
 | f+1,i,o,ho,hp,h=>by
  unfold depOn at h
  rw[ho] at h
  obtain⟨p,hp1,hp2⟩:=List.any_eq_true.1 h
  rcases Bool.or_eq_true_iff.1 hp2 with e | e
  ·have:p=j:=by simpa using e
   subst this
   exact hp p hp1
  ·cases hop:ops[p]? with
   | none =>
    cases f with
    | zero=>unfold depOn at e;cases e
    | succ f=>unfold depOn at e;rw[hop] at e;cases e
   | some op=>exact ZEN hc f p op hop (hc p op hop (hp p hp1)) e
structure JA (ops:Array Oper) (W0:World) (sp:List (Nat × SR)) (a0:Act) (n sA sB:Nat) (Rd:Act→World→Value→Prop) (D:Nat→Bool) (a:Act) (w:World) : Prop where
 low:D n=false→JW ops W0 sp a0 D a w∧D (n+1)=false
 high:D n=true→(∀ i,i < n→D i=true)∧∃ a1 v,Rd a1 w v∧a=(if D (n+1)=true then (a1.put (some sA) v).put (some sB) v else a1.put (some sA) v)∧sA < a1.tmps.size
section
variable {P:Program} {ops:Array Oper} {Q:Exit→Act→World→Prop} {W0:World} {sp:List (Nat × SR)} {a0:Act} {n sA sB:Nat} {Rd:Act→World→Value→Prop}
theorem JA.step {slots:List Nat} (hsl:sp.map (·.1)=slots) (hnd:slots.Nodup) (hsz:∀ d∈slots,d < a0.tmps.size) {i:Nat} {o:Oper} (s:Nat × SR) (hs:sp[i]? = some s) (ho:o.dst=some s.1) (hop:ops[i]? = some o) (hin:i < n)
  (h:∀ (D:Nat→Bool) (a:Act) (w:World) (K:Act→World→Prop),D i=false→(∀ j∈predsOf o,D j=true)→JW ops W0 sp a0 D a w→(∀ v w',Below w.heap.size w w'→s.2.holds w' v→K (a.put o.dst v) w')→if Region.wanted o (yielded ops a.tmps)=true then o.wp P a w K Q else K (a.put o.dst undef) w) : StepJ P ops Q (JA ops W0 sp a0 n sA sB Rd) i o:=by
 intro D a w K hD hp hJ hK
 cases hn:D n with
 | true =>
  have:=(hJ.high hn).1 i hin
  rw[hD] at this
  cases this
 | false =>
  obtain⟨hjw,hn1⟩:=hJ.low hn
  refine h D a w K hD hp hjw fun v w' hb hv=>hK _ _ ⟨fun _=>⟨JW.next hsl hnd hsz s hs ho hop hp hjw hb hv,by rw[ZAJ _ (by omega)];exact hn1⟩,fun e=>?_⟩
  rw[ZAJ _ (by omega),hn] at e
  cases e
theorem JA.app {slots:List Nat} (hsl:sp.map (·.1)=slots) {o:Oper} (ho:o.dst=some sA) (hg:o.guard=none) (hop:ops[n]? = some o) (hw:waitsAll ops n n=true) (hsA:sA < a0.tmps.size)
  (h:∀ (D:Nat→Bool) (a:Act) (w:World) (K:Act→World→Prop),(∀ i,i < n→D i=true)→JW ops W0 sp a0 D a w→(∀ v w',Rd a w' v→K (a.put (some sA) v) w')→o.wp P a w K Q) : StepJ P ops Q (JA ops W0 sp a0 n sA sB Rd) n o:=by
 intro D a w K hD hp hJ hK
 obtain⟨hjw,hn1⟩:=hJ.low hD
 have hall:∀ i,i < n→D i=true:=fun i hi=>by
  have h1:=List.all_eq_true.1 hw i (List.mem_range.2 hi)
  exact ZEN hjw.ord ops.size n o hop hp h1
 rw[if_pos (by simp[Region.wanted,hg])]
 refine h D a w K hall hjw fun v w' hv=>?_
 have:=hK (a.put o.dst v) w' ⟨fun e=>(by rw[ZAq] at e;cases e),fun _=>⟨fun i hi=>(by rw[ZAJ _ (by omega)];exact hall i hi),a,v,hv,by rw[ZAJ _ (by omega),hn1,if_neg (by simp),ho],by rw[hjw.fr.size];exact hsA⟩⟩
 rw[ho] at this
 exact this
theorem JA.asg {o:Oper} (ho:o.dst=some sB) (hg:o.guard=none) (hop:o.op=.assign (.tmp sA)) (hp:n∈predsOf o) : StepJ P ops Q (JA ops W0 sp a0 n sA sB Rd) (n+1) o:=by
 intro D a w K hD hps hJ hK
 have hn:=hps n hp
 obtain⟨hall,a1,v,hv,ha,hsz⟩:=hJ.high hn
 rw[if_neg (by rw[hD];simp)] at ha
 rw[if_pos (by simp[Region.wanted,hg])]
 have hev:a.eval (.tmp sA)=v:=by
  rw[ha]
  simp[Act.eval,Act.put,hsz]
 unfold Oper.wp execOp
 simp only[hop,Sem.run_pure,hev]
 refine hK _ _ ⟨fun e=>?_,fun _=>⟨fun i hi=>(by rw[ZAJ _ (by omega)];exact hall i hi),a1,v,hv,by rw[ZAq,if_pos rfl,ho,ha],hsz⟩⟩
 rw[ZAJ _ (by omega),hn] at e
 cases e
theorem ZCw {id:Nat} {a:Act} {w:World} (sp:List (Nat × SR)) (n sA sB:Nat) (Rd:Act→World→Value→Prop) (hm:P.follows .mixedOrders=true) (hback:ops.toList.zipIdx.all (fun x=>(predsOf x.1).all fun j=>decide (j < x.2))=true) (hn:ops.size=n+2)
  (hs:StepsJ P ops Q (JA ops w sp a n sA sB Rd) 0 ops.toList) (hend:∀ a1 w' v,Rd a1 w' v→Q .normal ((a1.put (some sA) v).put (some sB) v) w') : (Code.region id ops true).wp P Q a w :=
 ZAK (JA ops w sp a n sA sB Rd) hm hback ⟨fun _=>⟨JW.start,rfl⟩,fun h=>(by cases h)⟩ (ZC6 hs) fun D a' w' hall hJ=>by
  obtain⟨_,a1,v,hv,ha,_⟩:=hJ.high (hall n (by omega))
  rw[if_pos (hall (n+1) (by omega))] at ha
  rw[ha]
  exact hend a1 w' v hv
theorem ZFt {ops:Array Oper} {o:Oper} {a:Act} {j d:Nat} {b:Bool} (hg:o.guard=some (j,b)) (hd:(ops[j]?).bind (·.dst)=some d) (hv:a.eval (.tmp d)≠.bool b) : ¬ Region.wanted o (yielded ops a.tmps)=true:=by
 intro hw
 apply hv
 unfold Region.wanted at hw
 rw[hg] at hw
 simp only[yielded,hd,Option.bind_some] at hw
 simp only[Act.eval]
 rw[Array.getD_eq_getD_getElem?]
 cases h:a.tmps[d]? with
 | none=>rw[h] at hw;simp at hw
 | some v =>
  rw[h] at hw
  cases v <;> simp at hw ⊢
  exact hw
theorem ZAi {o:Oper} {a:Act} {w:World} {K:Act→World→Prop} {E:Prop} {j d:Nat} {b b':Bool} (hg:o.guard=some (j,b)) (hd:(ops[j]?).bind (·.dst)=some d) (hv:a.eval (.tmp d)=.bool b') (hb:b'≠b) (h:E) : if Region.wanted o (yielded ops a.tmps)=true then o.wp P a w K Q else E:=by
 rw[if_neg (ZFt hg hd (by rw[hv];intro e;injection e with e;exact hb e))]
 exact h
theorem ZD2 {t e size bytes:Nat} {z:Value} (T:SlT P t e size bytes z) {o:Oper} {a:Act} {w:World} {K:Act→World→Prop} (hgd:o.guard=none) (s x:Operand)
  (ho:o.op=.call { callee:=.builtin .append,args:=#[s,x],argTypes:=#[t,t] })
  (base:Nat) (v:Value) (m:Nat) (xs:List Value) (hs:a.eval s=v) (hown:w.ownsRow base e size v m xs)
  (g off c:Nat) (news:List Value) (hx:a.eval x=.slice (some ⟨g,off,none⟩) 1 c) (hl:news.length=size) (hnews:∀ j u,news[j]? = some u→w.cell? ⟨g,off+j,none⟩=some u) (h1:∀ u∈news,u.oneCell'=true)
  (hn:m < 4294967296) (hb:bytes≤1024) (hbase:base≤w.heap.size)
  (h:∀ v' w',w'.ownsRow base e size v' (m+1) (xs ++ news)→w.grownBy w' v.ownBlock→(v'.ownBlock=v.ownBlock∨v'.ownBlock=some w.heap.size)→K (a.put o.dst v') w') : o.wp P a w K Q:=by
 have:=ZCO (ops:=#[]) (Q:=Q) (K:=K) (E:=True) T hgd s x ho base v m xs hs hown g off c news hx hl hnews h1 hn hb hbase h
 rwa [if_pos (by simp[Region.wanted,hgd])] at this
end
def RdA (W0:World) (sp:List (Nat × SR)) (a0:Act) (n base:Nat) (e:TypeId) (size:Nat) (vo:Value) (m:Nat) (xs news:List Value) (a1:Act) (w':World) (v:Value) : Prop :=
 ∃ w1,Below W0.heap.size W0 w1∧Fr (sp.map (·.1)) a0 a1∧(∀ i s,i < n→sp[i]? = some s→s.2.holds w1 (a1.eval (.tmp s.1)))∧w'.ownsRow base e size v (m+1) (xs ++ news)∧w1.grownBy w' vo.ownBlock∧(v.ownBlock=vo.ownBlock∨v.ownBlock=some w1.heap.size)
def sr1 (W0:World) (e:TypeId) (cs:List Value) : SR:=⟨fun w v=>∃ X:Nat,v=.slice (some ⟨X,0,none⟩) 1 1∧W0.heap.size≤X∧Blk w X e cs,fun hb ⟨X,e,h1,h2⟩=>⟨X,e,h1,h2.below hb h2.lt⟩⟩
end Go.Proofs.YtffgnjgphkdodaaGreatDoor
