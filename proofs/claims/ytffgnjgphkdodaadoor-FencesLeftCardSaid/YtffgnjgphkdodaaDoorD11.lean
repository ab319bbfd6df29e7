import Derived.Orders
import Derived.Deep.RegionHeld3
import Derived.Test.YtffgnjgphkdodaaDoorD1
namespace Go.Proofs.YtffgnjgphkdodaaDoor
open Go Go.RowKit
def predsOf (o:Oper) : List Nat:=((o.after.toList.filter fun e=>Region.binds .any e).map (·.on))
def upD (D:Nat→Bool) (i:Nat) : Nat→Bool:=fun j=>if j=i then true else D j
theorem ZBy (D:Nat→Bool) (i:Nat) : upD D i i=true:=by simp[upD]
theorem ZBj (D:Nat→Bool) {i j:Nat} (h:j≠i) : upD D i j=D j:=by simp[upD,h]
def StepJ (P:Program) (ops:Array Oper) (Q:Exit→Act→World→Prop) (J:(Nat→Bool)→Act→World→Prop) (i:Nat) (o:Oper) : Prop :=
 ∀ (D:Nat→Bool) (a:Act) (w:World) (K:Act→World→Prop),D i=false→(∀ j∈predsOf o,D j=true)→J D a w→(∀ a' w',J (upD D i) a' w'→K a' w') →
  if Region.wanted o (yielded ops a.tmps)=true then o.wp P a w K Q else K (a.put o.dst undef) w
theorem ZFL {α:Type} {p q:α→Bool} (h:∀ x,q x=true→p x=true) : ∀ l:List α,(∃ x∈l,p x=true∧q x=false)→(l.filter q).length < (l.filter p).length
 | [],⟨_,h,_⟩=>by cases h
 | y :: l,⟨x,hx,h1,h2⟩=>by
  have le:∀ l:List α,(l.filter q).length≤(l.filter p).length:=fun l=>by
   induction l with
   | nil=>simp
   | cons z l ih =>
    simp only[List.filter_cons]
    cases hq:q z
    ·cases hp:p z <;> simp <;> omega
    ·rw[h z hq];simp;omega
  rcases List.mem_cons.1 hx with rfl | hx
  ·rw[List.filter_cons_of_pos h1,List.filter_cons_of_neg (by simp[h2])]
   have:=le l
   simp;omega
  ·have ih:=ZFL h l ⟨x,hx,h1,h2⟩
   simp only[List.filter_cons]
   cases hq:q y
   ·cases hp:p y <;> simp <;> omega
   ·rw[h y hq];simp;omega
def unlisted (ops:Array Oper) (listed:Array Bool) : Nat:=((List.range ops.size).filter fun i=>!listed.getD i true).length
theorem ZE7 {ops:Array Oper} {listed:Array Bool} (hs:listed.size=ops.size) (hback:ops.toList.zipIdx.all (fun x=>(predsOf x.1).all fun j=>decide (j < x.2))=true) (hr:Region.ready .any ops listed=[]) : ∀ i,i < ops.size→listed.getD i false=true:=by
 intro i
 induction i using Nat.strongRecOn with
 | ind i ih =>
  intro hi
  cases hl:listed.getD i false with
  | true=>rfl
  | false =>
   exfalso
   have hmem:i∈Region.ready .any ops listed:=by
    rw[mem_ready]
    refine⟨?_,ops[i],by simp[hi],?_⟩
    ·simp only[Array.getD] at hl ⊢
     rw[dif_pos (by omega)] at hl ⊢
     exact hl
    ·intro e he hb
     have hp:e.on∈predsOf ops[i]:=by
      unfold predsOf
      exact List.mem_map.2 ⟨e,List.mem_filter.2 ⟨by simpa using he,hb⟩,rfl⟩
     rw[List.all_eq_true] at hback
     have h2:=hback (ops[i],i) (by rw[List.mem_zipIdx_iff_getElem?];simp[hi])
     rw[List.all_eq_true] at h2
     exact ih _ (of_decide_eq_true (h2 _ hp)) (by have:=of_decide_eq_true (h2 _ hp);omega)
   rw[hr] at hmem
   cases hmem
theorem ZA2 {P:Program} {id:Nat} {ops:Array Oper} {Q:Exit→Act→World→Prop} {a:Act} {w:World} (J:(Nat→Bool)→Act→World→Prop) (hm:P.follows .mixedOrders=true)
  (hback:ops.toList.zipIdx.all (fun x=>(predsOf x.1).all fun j=>decide (j < x.2))=true)
  (h0:J (fun _=>false) a w.drew)
  (hstep:∀ i o,ops[i]? = some o→StepJ P ops Q J i o)
  (hend:∀ D a w,(∀ i,i < ops.size→D i=true)→J D a w→Q .normal a w) : (Code.region id ops true).wp P Q a w:=by
 refine wp_region_any hm ?_
 have key:∀ (fuel:Nat) (listed:Array Bool) (a:Act) (w:World),listed.size=ops.size→unlisted ops listed≤fuel→J (fun j=>listed.getD j false) a w→wpAny P .any ops Q fuel listed a w:=by
  intro fuel
  induction fuel with
  | zero =>
   intro listed a w hs hu hJ
   have hr:Region.ready .any ops listed=[]:=by
    rw[List.eq_nil_iff_forall_not_mem]
    intro i hi
    rw[mem_ready] at hi
    obtain⟨h1,o,h2,_⟩:=hi
    have hlt:i < ops.size:=(Array.getElem?_eq_some_iff.1 h2).1
    have hm:i∈(List.range ops.size).filter fun i=>!listed.getD i true:=List.mem_filter.2 ⟨List.mem_range.2 hlt,by simp[h1]⟩
    unfold unlisted at hu
    rw[List.eq_nil_of_length_eq_zero (Nat.le_zero.1 hu)] at hm
    cases hm
   exact⟨hr,hend _ _ _ (ZE7 hs hback hr) hJ⟩
  | succ fuel ih =>
   intro listed a w hs hu hJ
   refine⟨fun hr=>hend _ _ _ (ZE7 hs hback hr) hJ,fun i hi=>?_⟩
   rw[mem_ready] at hi
   obtain⟨h1,o,h2,h3⟩:=hi
   have hlt:i < ops.size:=(Array.getElem?_eq_some_iff.1 h2).1
   have hD:listed.getD i false=false:=by
    simp only[Array.getD] at h1 ⊢
    rw[dif_pos (by omega)] at h1 ⊢
    exact h1
   have hst:=hstep i o h2 (fun j=>listed.getD j false) a w (wpAny P .any ops Q fuel (listed.setIfInBounds i true)) hD (fun j hj=>by
    unfold predsOf at hj
    obtain⟨e,he,rfl⟩:=List.mem_map.1 hj
    obtain⟨he1,he2⟩:=List.mem_filter.1 he
    exact h3 e (by simpa using he1) he2) hJ (fun a' w' hJ'=>ih _ a' w' (by simpa using hs) (by
     have:unlisted ops (listed.setIfInBounds i true) < unlisted ops listed:=by
      unfold unlisted
      refine ZFL (fun x hx=>?_) _ ⟨i,List.mem_range.2 hlt,by simp[h1],?_⟩
      ·by_cases e:i=x
       ·subst e
        simp[Array.getD,hs,hlt] at hx
       ·rw[getD_set_ne _ e] at hx;exact hx
      ·simp[Array.getD,hs,hlt]
     omega) (by
     have e:(fun j=>(listed.setIfInBounds i true).getD j false)=upD (fun j=>listed.getD j false) i:=by
      funext j
      unfold upD
      by_cases e:i=j
      ·subst e
       simp[Array.getD,hs,hlt]
      ·rw[if_neg (fun h=>e h.symm),getD_set_ne _ e]
     rw[e]
     exact hJ'))
   unfold wpOp
   simp only[h2]
   split
   ·rename_i hw
    rw[if_pos hw] at hst
    exact .inl hst
   ·rename_i hw
    rw[if_neg hw] at hst
    exact hst
 refine key ops.size _ a _ (by simp) ?_ ?_
 ·unfold unlisted
  exact Nat.le_trans (List.length_filter_le _ _) (by simp)
 ·have e:(fun j=>(Array.replicate ops.size false).getD j false)=fun _=>false:=by
   funext j
   simp only[Array.getD]
   split
   ·simp
   ·rfl
  rw[e]
  exact h0
def StepsJ (P:Program) (ops:Array Oper) (Q:Exit→Act→World→Prop) (J:(Nat→Bool)→Act→World→Prop) : Nat→List Oper→Prop
 | _,[]=>True
 | i,o :: os=>StepJ P ops Q J i o∧StepsJ P ops Q J (i+1) os
theorem ZGB {P:Program} {ops:Array Oper} {Q:Exit→Act→World→Prop} {J:(Nat→Bool)→Act→World→Prop} : ∀ (os:List Oper) (i:Nat),StepsJ P ops Q J i os→∀ j o,os[j]? = some o→StepJ P ops Q J (i+j) o
 | [],_,_,j,o,h=>by simp at h
 | o :: os,i,hs,0,o',h=>by simp at h;subst h;exact hs.1
 | o :: os,i,hs,j+1,o',h=>by
  have:=ZGB os (i+1) hs.2 j o' (by simpa using h)
  rwa [Nat.add_right_comm,Nat.add_assoc] at this
theorem ZE2 {P:Program} {ops:Array Oper} {Q:Exit→Act→World→Prop} {J:(Nat→Bool)→Act→World→Prop} (h:StepsJ P ops Q J 0 ops.toList) : ∀ i o,ops[i]? = some o→StepJ P ops Q J i o:=fun i o ho=>by
 have:=ZGB ops.toList 0 h i o (by simpa using ho)
 rwa [Nat.zero_add] at this
structure Fr (slots:List Nat) (a0 a:Act) : Prop where
 defers:a.defers=a0.defers
 size:a.tmps.size=a0.tmps.size
 same:∀ j,j ∉ slots→a.tmps[j]? = a0.tmps[j]?
theorem Fr.refl (slots:List Nat) (a:Act) : Fr slots a a:=⟨rfl,rfl,fun _ _=>rfl⟩
theorem Fr.put {slots:List Nat} {a0 a:Act} (h:Fr slots a0 a) {d:Nat} (hd:d∈slots) (v:Value) : Fr slots a0 (a.put (some d) v):=by
 refine⟨h.defers,?_,fun j hj=>?_⟩
 ·simp[Act.put,h.size]
 ·have:d≠j:=fun e=>hj (e ▸ hd)
  simp only[Act.put]
  rw[Array.getElem?_setIfInBounds_ne this]
  exact h.same j hj
theorem Fr.put_none {slots:List Nat} {a0 a:Act} (h:Fr slots a0 a) (v:Value) : Fr slots a0 (a.put none v):=h
theorem ZC3 {a a':Act} {j:Nat} (h:a.tmps[j]? = a'.tmps[j]?) : a.eval (.tmp j)=a'.eval (.tmp j):=by
 simp only[Act.eval]
 rw[Array.getD_eq_getD_getElem?,Array.getD_eq_getD_getElem?,h]
theorem Fr.eval {slots:List Nat} {a0 a:Act} (h:Fr slots a0 a) {j:Nat} (hj:j ∉ slots) : a.eval (.tmp j)=a0.eval (.tmp j):=ZC3 (h.same j hj)
theorem Zp {a:Act} {d j:Nat} {v:Value} (h:j≠d) : (a.put (some d) v).eval (.tmp j)=a.eval (.tmp j):=ZC3 (by simp only[Act.put];exact Array.getElem?_setIfInBounds_ne (fun e=>h e.symm))
theorem Fr.eval_put {slots:List Nat} {a0 a:Act} (h:Fr slots a0 a) {d:Nat} (hd:d < a0.tmps.size) (v:Value) : (a.put (some d) v).eval (.tmp d)=v:=by
 have:d < a.tmps.size:=by rw[h.size];exact hd
 simp[Act.put,Act.eval,this]
theorem Fr.shut {slots:List Nat} {a0 a:Act} {d:Nat} (h:Fr (d :: slots) a0 a) (hd:d < a0.tmps.size) : Fr slots (a0.put (some d) (a.eval (.tmp d))) a:=by
 refine⟨h.defers,by simp[Act.put,h.size],fun j hj=>?_⟩
 simp only[Act.put]
 by_cases e:d=j
 ·subst e
  have:d < a.tmps.size:=by rw[h.size];exact hd
  rw[Array.getElem?_setIfInBounds_self_of_lt hd]
  simp[Act.eval,this]
 ·rw[Array.getElem?_setIfInBounds_ne e]
  exact h.same j (by simp only[List.mem_cons,not_or];exact⟨fun h=>e h.symm,hj⟩)
theorem Fr.done {a0 a:Act} (h:Fr [] a0 a) : a=a0:=by
 cases a;cases a0
 have h1:=h.defers
 have h2:_=_:=Array.ext_getElem? fun j=>h.same j (by simp)
 simp only at h1 h2
 rw[h1,h2]
theorem ZD {P:Program} {ops:Array Oper} {Q:Exit→Act→World→Prop} {o:Oper} {a:Act} {w:World} {K:Act→World→Prop} {E:Prop} (hg:o.guard=none) (h:o.wp P a w K Q) : if Region.wanted o (yielded ops a.tmps)=true then o.wp P a w K Q else E:=by
 rw[if_pos (by simp[Region.wanted,hg])]
 exact h
theorem ZGa {P:Program} {Q:Exit→Act→World→Prop} {o:Oper} {a:Act} {w:World} {K:Act→World→Prop} {x:Operand} (ho:o.op=.move x) (h:K (a.put o.dst (a.eval x)) w) : o.wp P a w K Q:=by
 unfold Oper.wp execOp
 simp only[ho,Sem.run_pure,Oper.upon]
 exact h
theorem ZDz {P:Program} {Q:Exit→Act→World→Prop} {o:Oper} {a:Act} {w:World} {K:Act→World→Prop} {f:FuncId} {args:Array Operand} {ts:Array TypeId} {fn:Func} (hf:P.funcs[f]? = some fn) (hn:(fn.name == "runtime.NumGoroutine")=false) (hb:fn.body.isNone=false)
  (ho:o.op=.call { callee:=.value (.func f),args:=args,argTypes:=ts }) (vs:Array Value) (hv:args.map a.eval=vs)
  (h:Calls P f vs w fun e w'=>∃ v,e=.returned v∧K (a.put o.dst v) w') : o.wp P a w K Q:=by
 subst hv
 have hr:(execOp a.eval o).run P w=.ok (.enter f (args.map a.eval)) w:=by
  unfold execOp
  simp only[ho,resolve,Act.eval,Sem.run_bind,Deferred.ofValue]
  simp only[Sem.run_pure,Result.andThen_ok,invoke,callFunc,Sem.run_bind,program,Sem.run,hf,hn,hb]
  simp
 unfold Oper.wp
 rw[hr]
 simp only[Oper.upon]
 refine h.mono ?_
 rintro e w' ⟨v,rfl,hk⟩
 exact hk
theorem ZC4 {P:Program} {Q:Exit→Act→World→Prop} {o:Oper} {a:Act} {w:World} {K:Act→World→Prop} (v:Value) (hr:(execOp a.eval o).run P w=.ok (.value v) w) (h:K (a.put o.dst v) w) : o.wp P a w K Q:=by
 unfold Oper.wp
 rw[hr]
 exact h
theorem ZIY {ops:Array Oper} {o:Oper} {a:Act} {j d:Nat} {b:Bool} (hg:o.guard=some (j,b)) (hd:(ops[j]?).bind (·.dst)=some d) (hv:a.eval (.tmp d)=.bool b) : Region.wanted o (yielded ops a.tmps)=true:=by
 have ht:a.tmps[d]? = some (.bool b):=by
  simp only[Act.eval] at hv
  rw[Array.getD_eq_getD_getElem?] at hv
  cases h:a.tmps[d]? with
  | none=>rw[h] at hv;simp[undef] at hv
  | some v=>rw[h] at hv;simp at hv;rw[hv]
 have hy:yielded ops a.tmps j=some b:=by
  unfold yielded
  rw[hd]
  simp only[Option.bind_some,ht]
 simp[Region.wanted,hg,hy]
theorem ZM {P:Program} {ops:Array Oper} {Q:Exit→Act→World→Prop} {o:Oper} {a:Act} {w:World} {K:Act→World→Prop} {E:Prop} {j d:Nat} {b:Bool} (hg:o.guard=some (j,b)) (hd:(ops[j]?).bind (·.dst)=some d) (hv:a.eval (.tmp d)=.bool b) (h:o.wp P a w K Q) : if Region.wanted o (yielded ops a.tmps)=true then o.wp P a w K Q else E:=by
 rw[if_pos (ZIY hg hd hv)]
 exact h
theorem ZAf {P:Program} {c:Code} {Q:Exit→Act→World→Prop} {a:Act} {w:World} (h:∀ a0:Act,a0=a→c.wp P Q a0 w) : c.wp P Q a w:=h a rfl
theorem Blk.setRow {w:World} {g:Nat} {t:TypeId} {cs cs':List Value} (h:Blk w g t cs) : Blk (w.setRow g cs'.toArray) g t cs':=setRow_heap w g _ _ t _ h
theorem Ze {w:World} {g b:Nat} (h:b≠g) (cs:Array Value) : (w.setRow g cs).heap[b]? = w.heap[b]?:=setRow_other w g b cs h
theorem ZBU {B:Nat} {w w':World} (h:Below B w w') {g:Nat} (hg:B≤g) (cs:Array Value) : Below B w (w'.setRow g cs) :=
 ⟨h.os,h.tape,h.output,by simp[World.setRow];exact h.size,fun k hk=>(Ze (by omega) cs).trans (h.block k hk)⟩
theorem put_none (a:Act) (v:Value) : a.put none v=a:=rfl
theorem ZCt {D:Nat→Bool} {i j:Nat} (h:D j=true) : upD D i j=true:=by unfold upD;split <;> simp_all
end Go.Proofs.YtffgnjgphkdodaaDoor
