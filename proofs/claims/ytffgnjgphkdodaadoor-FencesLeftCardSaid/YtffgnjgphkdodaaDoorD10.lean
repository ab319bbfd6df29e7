import Derived.Test.YtffgnjgphkdodaaDoorD1
import Derived.Laws.CopyRow
import Derived.Laws.MakeOwn
import Derived.Test.YtffgnjgphkdodaaDoorD11
import Derived.Test.YtffgnjgphkdodaaDoorD6
import Derived.Test.YtffgnjgphkdodaaDoorD12
import Derived.StillTailTactics
import Derived.Deep.WholeRow
namespace Go.Proofs.YtffgnjgphkdodaaDoor
open Go Go.RowKit
section
variable {α:Type} {f:α→List Value} {k:Nat}
theorem ZB8 (hf:∀ x,(f x).length=k) : ∀ l:List α,(l.flatMap f).length=l.length * k
 | []=>by simp
 | x :: l=>by rw[List.flatMap_cons,List.length_append,hf,ZB8 hf l,List.length_cons,Nat.add_mul,Nat.one_mul,Nat.add_comm]
theorem ZEl (hf:∀ x,(f x).length=k) : ∀ {l:List α} {i:Nat} {x:α},l[i]? = some x→∀ {j:Nat} {u:Value},(f x)[j]? = some u→(l.flatMap f)[i * k+j]? = some u
 | [],i,x,h,j,u,_=>by simp at h
 | y :: l,0,x,h,j,u,hu=>by
  have:y=x:=by simpa using h
  subst this
  have hj:=(List.getElem?_eq_some_iff.1 hu).1
  rw[List.flatMap_cons,Nat.zero_mul,Nat.zero_add,List.getElem?_append_left hj]
  exact hu
 | y :: l,i+1,x,h,j,u,hu=>by
  have h2:l[i]? = some x:=by simpa using h
  have e:(i+1) * k+j=(f y).length+(i * k+j):=by rw[hf,Nat.add_mul,Nat.one_mul];omega
  rw[List.flatMap_cons,e,List.getElem?_append_right (by omega),Nat.add_sub_cancel_left]
  exact ZEl hf h2 hu
theorem ZH4 (hf:∀ x,(f x).length=k) : ∀ {l:List α} {i:Nat} {x y:α} {j:Nat} {v:Value},l[i]? = some x→f y=(f x).set j v→j < k→(l.flatMap f).set (i * k+j) v=(l.set i y).flatMap f
 | [],i,x,y,j,v,h,_,_=>by simp at h
 | z :: l,0,x,y,j,v,h,hy,hj=>by
  have:z=x:=by simpa using h
  subst this
  rw[List.flatMap_cons,Nat.zero_mul,Nat.zero_add,List.set_append_left _ _ (by rw[hf];exact hj),List.set_cons_zero,List.flatMap_cons,hy]
 | z :: l,i+1,x,y,j,v,h,hy,hj=>by
  have h2:l[i]? = some x:=by simpa using h
  have e:(i+1) * k+j=(f z).length+(i * k+j):=by rw[hf,Nat.add_mul,Nat.one_mul];omega
  rw[List.flatMap_cons,e,List.set_append_right _ _ (by omega),Nat.add_sub_cancel_left,ZH4 hf h2 hy hj,List.set_cons_succ,List.flatMap_cons]
theorem ZJJ (hf:∀ x,(f x).length=k) : ∀ {l:List α} {i:Nat} {y:α},i < l.length→(l.flatMap f).take (i * k) ++ f y ++ (l.flatMap f).drop (i * k+k)=(l.set i y).flatMap f
 | [],i,y,h=>by simp at h
 | z :: l,0,y,h=>by
  rw[List.flatMap_cons,Nat.zero_mul,Nat.zero_add,List.take_zero,List.nil_append,List.set_cons_zero,List.flatMap_cons]
  congr 1
  have:=hf z
  rw[← this,List.drop_left]
 | z :: l,i+1,y,h=>by
  have h2:i < l.length:=by simpa using h
  have e:(i+1) * k=(f z).length+i * k:=by rw[hf,Nat.add_mul,Nat.one_mul];omega
  have e2:(i+1) * k+k=(f z).length+(i * k+k):=by rw[hf,Nat.add_mul,Nat.one_mul];omega
  rw[List.flatMap_cons,e2,List.drop_append,List.drop_eq_nil_of_le (by omega),Nat.add_sub_cancel_left,List.nil_append]
  rw[e,List.take_append,List.take_of_length_le (by omega),Nat.add_sub_cancel_left,List.set_cons_succ,List.flatMap_cons,← ZJJ hf h2]
  simp[List.append_assoc]
theorem ZJd (hf:∀ x,(f x).length=k) (hk:0 < k) (x:α) (z:Array Value) (hz:z.toList=f x) (n:Nat) : (madeCells z (n * k)).toList=(List.replicate n x).flatMap f:=by
 have hzs:z.size=k:=by rw[← Array.length_toList,hz,hf]
 apply List.ext_getElem?
 intro j
 by_cases hj:j < n * k
 ·have hi:j / k < n:=by rw[Nat.div_lt_iff_lt_mul hk];exact hj
  have hm:j % k < k:=Nat.mod_lt _ hk
  have h1:(List.replicate n x)[j / k]? = some x:=by rw[List.getElem?_replicate,if_pos hi]
  have h2:(f x)[j % k]? = some ((f x)[j % k]'(by rw[hf];exact hm)):=List.getElem?_eq_getElem _
  have h3:=ZEl hf h1 h2
  have e:j / k * k+j % k=j:=Nat.div_add_mod' j k
  rw[e] at h3
  rw[h3]
  unfold madeCells
  have hsz:j < ((Array.range (n * k)).map (z[· % z.size]!)).size:=by simpa using hj
  rw[Array.getElem?_toList,Array.getElem?_eq_getElem hsz,Array.getElem_map,Array.getElem_range,hzs,getElem!_pos z (j % k) (by omega)]
  congr 1
  simp only[← hz,Array.getElem_toList]
 ·rw[List.getElem?_eq_none (by rw[Array.length_toList,size_madeCells];omega),List.getElem?_eq_none (by rw[ZB8 hf,List.length_replicate];omega)]
end
theorem blk_ne {w:World} {g g':Nat} {c c':List Value} {t t':TypeId} (h:Blk w g t c) (h':Blk w g' t' c') (hne:t≠t') : g≠g':=by
 intro e
 subst e
 unfold Blk at h h'
 rw[h] at h'
 injection h' with h'
 injection h' with _ q
 exact hne q
section
variable {P:Program} {α:Type} {f:α→List Value} {k:Nat}
theorem ZDs (hf:∀ x,(f x).length=k) {l:List α} {i:Nat} {y:α} (hi:i < l.length) (w:World) (g:Nat) (t ty:TypeId) (hg:Blk w g t (l.flatMap f)) (hp:(P.info? ty).map (·.size)=some k) (h1:∀ v∈f y,v.oneCell'=true) :
  (storeVar ty ⟨g,i * k,none⟩ (.agg (f y).toArray)).run P w=.ok () (w.setRow g ((l.set i y).flatMap f).toArray):=by
 have hl:=ZB8 hf l
 have hle:i * k+k≤l.length * k:=by rw[← Nat.succ_mul];exact Nat.mul_le_mul_right _ hi
 have:=run_storeCells_at (P:=P) g (i * k) t (f y) 0 (l.flatMap f).toArray w hg (by rw[hf,List.size_toArray,hl];omega) h1
 rw[Nat.add_zero,hf,ZJJ hf hi] at this
 cases hq:P.info? ty with
 | none=>simp[hq] at hp
 | some q =>
  have hs:(f y).toArray.size=q.size:=by simp[hq] at hp;rw[List.size_toArray,hf];omega
  simp[storeVar,sizeOf,typeInfo,hq,Value.cells,hs,this,hf] at *
theorem Zb (hf:∀ x,(f x).length=k) {l:List α} {i:Nat} (y:α) (hi:i < l.length) {Q:Exit→Act→World→Prop} {o:Oper} {a:Act} {w:World} {K:Act→World→Prop} (ty:TypeId) (x v:Operand) (ho:o.op=.store ty x v)
  (g:Nat) (t:TypeId) (hg:Blk w g t (l.flatMap f)) (hx:a.eval x=.pointer (some ⟨g,i * k,none⟩)) (hy:a.eval v=.agg (f y).toArray) (hp:(P.info? ty).map (·.size)=some k) (h1:∀ v∈f y,v.oneCell'=true)
  (h:K (a.put o.dst undef) (w.setRow g ((l.set i y).flatMap f).toArray)) : o.wp P a w K Q:=by
 unfold Oper.wp execOp
 simp only[ho,hx,hy,Instr.storeAt,Instr.sureAddr,Sem.run_bind,Sem.run_pure,Result.andThen_ok,ZDs hf hi w g t ty hg hp h1]
 exact h
end
structure SR where
 holds:World→Value→Prop
 mono:∀ {w w':World} {v:Value},Below w.heap.size w w'→holds w v→holds w' v
def SR.is (x:Value) : SR:=⟨fun _ v=>v=x,fun _ h=>h⟩
structure JW (ops:Array Oper) (W0:World) (sp:List (Nat × SR)) (a0:Act) (D:Nat→Bool) (a:Act) (w:World) : Prop where
 fr:Fr (sp.map (·.1)) a0 a
 below:Below W0.heap.size W0 w
 val:∀ i s,sp[i]? = some s→D i=true→s.2.holds w (a.eval (.tmp s.1))
 un:∀ i s,sp[i]? = some s→D i=false→a.eval (.tmp s.1)=a0.eval (.tmp s.1)
 ord:∀ i o,ops[i]? = some o→D i=true→∀ j∈predsOf o,D j=true
theorem JW.start {ops:Array Oper} {W0:World} {sp:List (Nat × SR)} {a0:Act} : JW ops W0 sp a0 (fun _=>false) a0 W0.drew :=
 ⟨Fr.refl _ _,(Below.refl _ W0).drew,fun _ _ _ h=>(by cases h),fun _ _ _ _=>rfl,fun _ _ _ h=>(by cases h)⟩
theorem JW.step {P:Program} {ops:Array Oper} {Q:Exit→Act→World→Prop} {W0:World} {sp:List (Nat × SR)} {a0:Act} {slots:List Nat} (hsl:sp.map (·.1)=slots) (hnd:slots.Nodup) (hsz:∀ d∈slots,d < a0.tmps.size) {i:Nat} {o:Oper} (s:Nat × SR) (hs:sp[i]? = some s) (ho:o.dst=some s.1) (hop:ops[i]? = some o)
  (h:∀ (D:Nat→Bool) (a:Act) (w:World) (K:Act→World→Prop),D i=false→(∀ j∈predsOf o,D j=true)→JW ops W0 sp a0 D a w→(∀ v w',Below w.heap.size w w'→s.2.holds w' v→K (a.put o.dst v) w')→if Region.wanted o (yielded ops a.tmps)=true then o.wp P a w K Q else K (a.put o.dst undef) w) : StepJ P ops Q (JW ops W0 sp a0) i o:=by
 subst hsl
 intro D a w K hD hp hJ hK
 have hmem:s∈sp:=List.mem_of_getElem? hs
 have hmf:s.1∈sp.map (·.1):=List.mem_map.2 ⟨s,hmem,rfl⟩
 have hne:∀ j s',sp[j]? = some s'→j≠i→s'.1≠s.1:=by
  intro j s' hj e q
  have h1:(sp.map (·.1))[j]? = some s'.1:=by rw[List.getElem?_map,hj];rfl
  have h2:(sp.map (·.1))[i]? = some s.1:=by rw[List.getElem?_map,hs];rfl
  have hlt:j < (sp.map (·.1)).length:=(List.getElem?_eq_some_iff.1 h1).1
  exact e ((List.getElem?_inj hlt hnd).1 (by rw[h1,h2,q]))
 refine h D a w K hD hp hJ fun v w' hb hv=>hK _ _ ⟨?_,hJ.below.trans (hb.mono hJ.below.size),fun j s' hj hd=>?_,fun j s' hj hd=>?_,fun j o' ho' hd k hk=>?_⟩
 ·rw[ho]
  exact hJ.fr.put hmf v
 ·rw[ho]
  by_cases e:j=i
  ·subst e
   rw[hs] at hj
   injection hj with hj
   subst hj
   rw[hJ.fr.eval_put (hsz _ hmf)]
   exact hv
  ·rw[ZBj _ e] at hd
   rw[Zp (hne j s' hj e)]
   exact s'.2.mono hb (hJ.val j s' hj hd)
 ·rw[ho]
  by_cases e:j=i
  ·subst e
   rw[ZBy] at hd
   cases hd
  ·rw[ZBj _ e] at hd
   rw[Zp (hne j s' hj e)]
   exact hJ.un j s' hj hd
 ·by_cases e:j=i
  ·subst e
   rw[hop] at ho'
   injection ho' with ho'
   subst ho'
   exact ZCt (hp k hk)
  ·rw[ZBj _ e] at hd
   exact ZCt (hJ.ord j o' ho' hd k hk)
theorem JW.off {ops:Array Oper} {W0:World} {sp:List (Nat × SR)} {a0 a:Act} {D:Nat→Bool} {w:World} (h:JW ops W0 sp a0 D a w) {i j:Nat} {o:Oper} (ho:ops[j]? = some o) (hi:i∈predsOf o) (hD:D i=false) : D j=false:=by
 cases hj:D j with
 | false=>rfl
 | true =>
  have:=h.ord j o ho hj i hi
  rw[hD] at this
  cases this
theorem Zh {P:Program} {id:Nat} {ops:Array Oper} {Q:Exit→Act→World→Prop} {a:Act} {w:World} (sp:List (Nat × SR)) (hm:P.follows .mixedOrders=true) (hback:ops.toList.zipIdx.all (fun x=>(predsOf x.1).all fun j=>decide (j < x.2))=true)
  (hs:StepsJ P ops Q (JW ops w sp a) 0 ops.toList) (hend:∀ D a' w',(∀ i,i < ops.size→D i=true)→JW ops w sp a D a' w'→Q .normal a' w') : (Code.region id ops true).wp P Q a w :=
 ZA2 (JW ops w sp a) hm hback JW.start (ZE2 hs) hend
theorem ZAH {P:Program} {Q:Exit→Act→World→Prop} {o:Oper} {a:Act} {w:World} {K:Act→World→Prop} {s:SR} {f:FuncId} {args:Array Operand} {ts:Array TypeId} {fn:Func} (hK:∀ v w',Below w.heap.size w w'→s.holds w' v→K (a.put o.dst v) w') (hf:P.funcs[f]? = some fn) (hn:(fn.name == "runtime.NumGoroutine")=false) (hb:fn.body.isNone=false)
  (ho:o.op=.call { callee:=.value (.func f),args:=args,argTypes:=ts }) (vs:Array Value) (hv:args.map a.eval=vs)
  (h:Calls P f vs w fun e w'=>∃ v,e=.returned v∧Below w.heap.size w w'∧s.holds w' v) : o.wp P a w K Q:=by
 refine ZDz hf hn hb ho vs hv (h.mono ?_)
 rintro e w' ⟨v,rfl,hb,hs⟩
 exact⟨v,rfl,hK _ _ hb hs⟩
theorem ZG {P:Program} {Q:Exit→Act→World→Prop} {o:Oper} {a:Act} {w:World} {K:Act→World→Prop} {v:Value} (hK:∀ v' w',Below w.heap.size w w'→(SR.is v).holds w' v'→K (a.put o.dst v') w') (hr:(execOp a.eval o).run P w=.ok (.value v) w) : o.wp P a w K Q :=
 ZC4 v hr (hK _ _ (Below.refl _ w) rfl)
theorem ZH {P:Program} {Q:Exit→Act→World→Prop} {o:Oper} {a:Act} {w:World} {K:Act→World→Prop} {s:SR} {x:Operand} (hK:∀ v w',Below w.heap.size w w'→s.holds w' v→K (a.put o.dst v) w') (ho:o.op=.move x) (hs:s.holds w (a.eval x)) : o.wp P a w K Q :=
 ZGa ho (hK _ _ (Below.refl _ w) hs)
theorem ZAG {P:Program} {Q:Exit→Act→World→Prop} {o:Oper} {a:Act} {w:World} {K:Act→World→Prop} {cs:List Value} (hK:∀ v w',Below w.heap.size w w'→(SR.is (.agg cs.toArray)).holds w' v→K (a.put o.dst v) w') (t:TypeId) (x:Operand) (ho:o.op=.load t x) (b f:Nat) (hx:a.eval x=.pointer (some ⟨b,f,none⟩)) (d:TypeDesc) (hg:∀ j v,cs[j]? = some v→w.cell? ⟨b,f+j,none⟩=some v) (hu:P.underlying t=some d) (hd:isRowType d=true)
  (hi:(P.info? t).map (·.size)=some cs.length) : o.wp P a w K Q :=
 ZDy t x ho b f hx cs d hg hu hd hi (hK _ _ (Below.refl _ w) rfl)
section
variable {P:Program} {Q:Exit→Act→World→Prop} {o:Oper} {a:Act} {w:World} {K:Act→World→Prop} {s:SR}
theorem ZAQ {x:Operand} (hK:∀ v w',Below w.heap.size w w'→s.holds w' v→K (a.put o.dst v) w') (ho:o.op=.assign x) (hs:s.holds w (a.eval x)) : o.wp P a w K Q:=by
 unfold Oper.wp execOp
 simp only[ho,Sem.run_pure]
 exact hK _ _ (Below.refl _ w) hs
theorem ZHM {t e size bytes:Nat} {z:Value} (T:SlT P t e size bytes z) (hK:∀ v w',Below w.heap.size w w'→s.holds w' v→K (a.put o.dst v) w') (x y:Operand) (ho:o.op=.makeSlice t x y) (n:Nat) (hx:a.eval x=.int .i64 (n:Int)) (hy:a.eval y=.int .i64 (n:Int))
  (hn:n < 4294967296) (hb:bytes≤1024) (h:∀ w',Below w.heap.size w w'→Blk w' w.heap.size e (madeCells z.cells (n * size)).toList→s.holds w' (.slice (some ⟨w.heap.size,0,none⟩) n n)) : o.wp P a w K Q:=by
 obtain⟨i,hi,hz,hsz,hby⟩:=T.info
 have hbn:((i.bytes:Nat) : Int) * (n:Int)≤281474976710656:=by
  have:i.bytes * n≤1024 * 4294967296:=Nat.mul_le_mul (by omega) (by omega)
  have:((i.bytes * n:Nat) : Int)≤281474976710656:=by omega
  rwa [Int.natCast_mul] at this
 have hr:=run_make (P:=P) w t e i z T.ht hi hz .i64 .i64 n n (by omega) (Int.le_refl _) hbn (by omega)
 rw[hsz,Int.toNat_natCast] at hr
 unfold Oper.wp execOp
 simp only[ho,hx,hy,Sem.run_bind,Sem.run_pure,Result.andThen_ok,hr]
 refine hK _ _ (ZB _ _) (h _ (ZB _ _) ?_)
 have:=Blk.new w e (madeCells z.cells (n * size)).toList
 rwa [Array.toArray_toList] at this
theorem ZFY {ty:TypeId} {x:Operand} (hK:∀ v w',Below w.heap.size w w'→s.holds w' v→K (a.put o.dst v) w') (ho:o.op=.box ty x) (cs:List Value) (hx:a.eval x=.agg cs.toArray)
  (h:∀ w',Below w.heap.size w w'→Blk w' w.heap.size ty cs→s.holds w' (.pointer (some ⟨w.heap.size,0,none⟩))) : o.wp P a w K Q:=by
 unfold Oper.wp execOp
 simp only[ho,Instr.box,hx]
 go_simp
 exact hK _ _ (ZB _ _) (h _ (ZB _ _) (Blk.new _ _ _))
theorem ZBw (v:Value) (hK:∀ v' w',Below w.heap.size w w'→s.holds w' v'→K (a.put o.dst v') w') (hs:s.holds w v) (hr:(execOp a.eval o).run P w=.ok (.value v) w) : o.wp P a w K Q :=
 ZC4 v hr (hK _ _ (Below.refl _ w) hs)
end
def putW (a0:Act) (e:Operand→Value) : List Nat→Act
 | []=>a0
 | d :: ds=>putW (a0.put (some d) (e (.tmp d))) e ds
theorem Fr.allW {a:Act} : ∀ {slots:List Nat} {a0:Act},Fr slots a0 a→(∀ d∈slots,d < a0.tmps.size)→a=putW a0 a.eval slots
 | [],_,h,_=>h.done
 | d :: ds,a0,h,hs=>by
  unfold putW
  exact Fr.allW (h.shut (hs d (by simp))) fun k hk=>by simp only[Act.put,Array.size_setIfInBounds];exact hs k (by simp[hk])
section
variable {P:Program}
theorem ZB3 (w:World) (k:Nat) (t:TypeId) {d:TypeDesc} (hd:match d with | .func ..=>True | _=>False) (h:P.underlying t=some d) (f:Fn) (a b:Array Value) :
  (Op.equalIn (k+1) t (.func f a b) .nilFunc).run P w=.ok false w:=by
 cases d <;> simp at hd
 simp[Op.equalIn,run_underlying h]
theorem ZB2 (w:World) (k:Nat) (t:TypeId) {d:TypeDesc} (hd:match d with | .func ..=>True | _=>False) (h:P.underlying t=some d) :
  (Op.equalIn (k+1) t .nilFunc .nilFunc).run P w=.ok true w:=by
 cases d <;> simp at hd
 simp[Op.equalIn,run_underlying h]
theorem ZDu (w:World) (t:TypeId) {d:TypeDesc} (hd:match d with | .func ..=>True | _=>False) (h:P.underlying t=some d) (f:Fn) (a b:Array Value) :
  (binOp .eql t (.func f a b) .nilFunc).run P w=.ok (.bool false) w:=by
 simp only[binOp]
 simp[Op.equal,Op.maxDepth,ZB3 w 9999 t hd h f a b]
theorem ZDt (w:World) (t:TypeId) {d:TypeDesc} (hd:match d with | .func ..=>True | _=>False) (h:P.underlying t=some d) :
  (binOp .eql t .nilFunc .nilFunc).run P w=.ok (.bool true) w:=by
 simp only[binOp]
 simp[Op.equal,Op.maxDepth,ZB2 w 9999 t hd h]
end
structure Mk where
 store:Bool
 load:Bool
 drain:Bool
 fenced:Bool
deriving DecidableEq
def mk0:Mk:=⟨false,false,false,false⟩
def Mk.cells (m:Mk) : List Value:=[.bool m.store,.bool m.load,.bool m.drain,.bool m.fenced]
theorem ZAW (m:Mk) : m.cells.length=4:=rfl
theorem sl_mk:SlT Tryd.prog 97 103 4 4 (.agg #[.bool false,.bool false,.bool false,.bool false]):=SlT.mk' Tryd.underlying97 (by kernel_rfl) rfl (by omega)
open Classical in
noncomputable def mkAt (u:Unit_) (g:Graph) (F:List Int) (i:Nat) : Mk:=match g.nodes[i]? with
 | none=>mk0
 | some n=>⟨decide (ReachC g (-1) i) && stB u n,decide (ReachC g (-1) i) && ldB u n,drB n,decide ((i:Int)∈F)⟩
noncomputable def mkL (u:Unit_) (g:Graph) (F:List Int) : List Mk:=(List.range g.nodes.length).map (mkAt u g F)
noncomputable def mkTo (u:Unit_) (g:Graph) (k:Nat) : List Mk:=(List.range g.nodes.length).map fun i=>if i < k then mkAt u g [] i else mk0
theorem ZFp (u:Unit_) (g:Graph) (F:List Int) : (mkL u g F).length=g.nodes.length:=by simp[mkL]
theorem ZCf (u:Unit_) (g:Graph) (F:List Int) {i:Nat} (h:i < g.nodes.length) : (mkL u g F)[i]? = some (mkAt u g F i):=by simp[mkL,h]
theorem ZAe (u:Unit_) (g:Graph) (k:Nat) : (mkTo u g k).length=g.nodes.length:=by simp[mkTo]
theorem ZHo (u:Unit_) (g:Graph) : mkTo u g 0=List.replicate g.nodes.length mk0:=by
 apply List.ext_getElem?
 intro i
 simp only[mkTo,List.getElem?_map,List.getElem?_replicate,Nat.not_lt_zero,if_false]
 by_cases h:i < g.nodes.length
 ·rw[List.getElem?_range h];simp[h]
 ·rw[List.getElem?_eq_none (by simpa using h)];simp[h]
theorem ZIr (u:Unit_) (g:Graph) : mkTo u g g.nodes.length=mkL u g []:=by
 unfold mkTo mkL
 refine List.map_congr_left fun i hi=>?_
 rw[if_pos (List.mem_range.1 hi)]
theorem ZAM (u:Unit_) (g:Graph) {k:Nat} (h:k < g.nodes.length) : (mkTo u g k).set k (mkAt u g [] k)=mkTo u g (k+1):=by
 apply List.ext_getElem?
 intro i
 rw[List.getElem?_set]
 simp only[mkTo,List.getElem?_map,List.length_map,List.length_range]
 by_cases hi:i < g.nodes.length
 ·rw[List.getElem?_range hi]
  by_cases e:k=i
  ·subst e;simp[h]
  ·rw[if_neg e]
   have:(i < k+1)=(i < k):=by rw[eq_iff_iff];omega
   simp[this]
 ·have e:k≠i:=by omega
  rw[if_neg e]
  simp[hi]
theorem ZHp (u:Unit_) (g:Graph) {k:Nat} (h:mkAt u g [] k=mk0) : mkTo u g (k+1)=mkTo u g k:=by
 unfold mkTo
 refine List.map_congr_left fun i _=>?_
 by_cases e:i=k
 ·subst e;simp[h]
 ·have:(i < k+1)=(i < k):=by rw[eq_iff_iff];omega
  simp[this]
theorem ZGy (u:Unit_) (g:Graph) {F G:List Int} {i:Nat} (h:((i:Int)∈F) ↔ ((i:Int)∈G)) : mkAt u g F i=mkAt u g G i:=by
 unfold mkAt
 cases g.nodes[i]? with
 | none=>rfl
 | some n=>simp only[decide_eq_decide.2 h]
theorem ZJc (u:Unit_) (g:Graph) (F:List Int) {k:Nat} (h:k < g.nodes.length) : (mkL u g F).set k { mkAt u g F k with fenced:=true }=mkL u g (F ++ [(k:Int)]):=by
 apply List.ext_getElem?
 intro i
 rw[List.getElem?_set,ZFp]
 by_cases hi:i < g.nodes.length
 ·rw[ZCf u g _ hi,ZCf u g _ hi]
  by_cases e:k=i
  ·subst e
   rw[if_pos rfl,if_pos h]
   obtain⟨n,hn⟩ : ∃ n,g.nodes[k]? = some n:=⟨_,List.getElem?_eq_getElem h⟩
   unfold mkAt
   rw[hn]
   simp
  ·rw[if_neg e,ZGy u g (F:=F) (G:=F ++ [(k:Int)])]
   simp
   omega
 ·have e:k≠i:=by omega
  rw[if_neg e,List.getElem?_eq_none (by rw[ZFp];omega),List.getElem?_eq_none (by rw[ZFp];omega)]
def fn (f:FuncId) : Value:=.func (.func f) #[] #[]
def whatV:List Value:=[.nilFunc,.nilFunc,fn 83,fn 81,fn 80,fn 80,fn 82,fn 80,.nilFunc,.nilFunc]
theorem ZC8 (b:Bool) (w:World) : Calls Tryd.prog 80 #[.bool b] w fun e w'=>e=.returned (.agg #[.bool false,.bool false,.bool true,.bool false])∧Below w.heap.size w w':=by
 go_enter Tryd.func80,Tryd.ntmps80
 go_wp2
 exact bodyPost_ret (v:=.agg #[.bool false,.bool false,.bool true,.bool false]) (by simp[results,Tryd.results80,go_sem]) rfl ⟨rfl,ZB _ _⟩
theorem ZC7 (b:Bool) (w:World) : Calls Tryd.prog 81 #[.bool b] w fun e w'=>e=.returned (.agg #[.bool b,.bool false,.bool false,.bool false])∧Below w.heap.size w w':=by
 go_enter Tryd.func81,Tryd.ntmps81
 go_wp2
 exact bodyPost_ret (v:=.agg #[.bool b,.bool false,.bool false,.bool false]) (by simp[results,Tryd.results81,go_sem]) rfl ⟨rfl,ZB _ _⟩
theorem ZC6 (b:Bool) (w:World) : Calls Tryd.prog 82 #[.bool b] w fun e w'=>e=.returned (.agg #[.bool true,.bool false,.bool false,.bool false])∧Below w.heap.size w w':=by
 go_enter Tryd.func82,Tryd.ntmps82
 go_wp2
 exact bodyPost_ret (v:=.agg #[.bool true,.bool false,.bool false,.bool false]) (by simp[results,Tryd.results82,go_sem]) rfl ⟨rfl,ZB _ _⟩
theorem ZC5 (b:Bool) (w:World) : Calls Tryd.prog 83 #[.bool b] w fun e w'=>e=.returned (.agg #[.bool false,.bool b,.bool false,.bool false])∧Below w.heap.size w w':=by
 go_enter Tryd.func83,Tryd.ntmps83
 go_wp2
 exact bodyPost_ret (v:=.agg #[.bool false,.bool b,.bool false,.bool false]) (by simp[results,Tryd.results83,go_sem]) rfl ⟨rfl,ZB _ _⟩
theorem ZGb (w:World) : Calls Tryd.prog 61 #[] w fun e w'=>e=.returned (.agg whatV.toArray)∧Below w.heap.size w w':=by
 unfold whatV fn
 go_enter Tryd.func61,Tryd.ntmps61
 go_wp2_with (refine ZO 131 rfl ?_)
 refine Stop.intro ?_
 refine wpList_store_row rfl 131 _ _ rfl w.heap.size #[.nilFunc,.nilFunc,.func (.func 83) #[] #[],.func (.func 81) #[] #[],.func (.func 80) #[] #[],.func (.func 80) #[] #[],.func (.func 82) #[] #[],.func (.func 80) #[] #[],.nilFunc,.nilFunc] rfl rfl 131 _ (heap_alloc_new _ _) (by kernel_rfl) rfl (by simp[Value.oneCell']) ?_
 rw[World.setRow_alloc_new]
 go_wp2
 refine bodyPost_ret (v:=.agg #[.nilFunc,.nilFunc,.func (.func 83) #[] #[],.func (.func 81) #[] #[],.func (.func 80) #[] #[],.func (.func 80) #[] #[],.func (.func 82) #[] #[],.func (.func 80) #[] #[],.nilFunc,.nilFunc]) ?_ rfl ⟨rfl,ZB _ _⟩
 exact results_cell_row Tryd.results61 _ _ w.heap.size 131 #[.nilFunc,.nilFunc,.func (.func 83) #[] #[],.func (.func 81) #[] #[],.func (.func 80) #[] #[],.func (.func 80) #[] #[],.func (.func 82) #[] #[],.func (.func 80) #[] #[],.nilFunc,.nilFunc] _ _ rfl (heap_alloc_new _ _) Tryd.underlying131 rfl (by kernel_rfl)
theorem ZFP {u:Unit_} {g:Graph} {n:Node} (h:ndOk u g n=true) (hk:n.kind=2∨n.kind=3) : 0≤n.thing∧n.thing < u.shared.length:=by
 unfold ndOk nodeOk at h
 simp only[Bool.and_eq_true] at h
 obtain⟨-,-,-,h4,-⟩:=h
 rw[show uThing n.kind=true from decide_eq_true (by omega),if_neg (by omega)] at h4
 unfold numOk at h4
 rw[if_pos rfl,decide_eq_true_eq] at h4
 exact h4
theorem ZAI {w wr wx:World} {X:Nat} (h:w.grownBy wr (some X)) (hb:Below wr.heap.size wr wx) : w.grownBy wx (some X) :=
 ⟨hb.os.trans h.os,hb.tape.trans h.tape,hb.output.trans h.output,Nat.le_trans h.size hb.size,fun b hlt hne=>(hb.block b (Nat.lt_of_lt_of_le hlt h.size)).trans (h.block b hlt hne)⟩
theorem ZCi {w wr:World} {X:Nat} (h:w.grownBy wr (some X)) (cs:Array Value) : w.grownBy (wr.setRow X cs) (some X) :=
 ⟨h.os,h.tape,h.output,by simpa [World.setRow] using h.size,fun b hlt hne=>(Ze (fun e=>hne (by rw[e])) _).trans (h.block b hlt hne)⟩
theorem gb_set {w wr:World} {X:Nat} (h:w.grownBy wr (some X)) (o:Nat) (v:Value) : w.grownBy (wr.setCell ⟨X,o,none⟩ v) (some X) :=
 ⟨h.os,h.tape,h.output,by simpa [World.setCell] using h.size,fun b hlt hne=>(Below.heap_setCell _ _ _ _ (fun e=>hne (by rw[e]))).trans (h.block b hlt hne)⟩
theorem ZI1 {w wr:World} {X:Nat} (h:w.grownBy wr (some X)) : (on w (·≠X)).le (cmap wr):=by
 intro b o v hv
 obtain⟨h1,h2⟩:=ZGu hv
 have hb:=World.block_lt_of_cell? w ⟨b,o,none⟩ h1
 unfold cmap
 rw[World.cell?_of_block (h.block b hb (by simpa using h2))]
 exact h1
theorem ZJu {w w4:World} (hb:Below w.heap.size w w4) {X:Nat} (hX:w.heap.size≤X) : (cmap w).le (on w4 (·≠X)):=by
 intro b o v hv
 have hlt:=World.block_lt_of_cell? w ⟨b,o,none⟩ hv
 refine ZDL ((hb.cell (p:=⟨b,o,none⟩) hlt).trans hv) ?_
 show b≠X
 have:b < w.heap.size:=hlt
 omega
structure Th (w:World) (base:Nat) (u:Unit_) (g:Graph) (F:List Int) (Y:Nat) : Prop where
 ex:∃ X b o c,base≤Y∧base≤X∧Blk w Y 99 [.string g.name,.int .i64 g.locals,.int .i64 g.slots,.slice (some ⟨b,o,none⟩) g.nodes.length c,.slice (some ⟨X,0,none⟩) g.nodes.length g.nodes.length] ∧
  Blk w X 103 ((mkL u g F).flatMap Mk.cells)∧Nodes (part w 0 base) (.slice (some ⟨b,o,none⟩) g.nodes.length c) g.nodes
theorem Th.below {w w':World} {base:Nat} {u:Unit_} {g:Graph} {F:List Int} {Y:Nat} (h:Th w base u g F Y) (hs:base≤w.heap.size) (hb:Below w.heap.size w w') : Th w' base u g F Y:=by
 obtain⟨X,b,o,c,h1,h2,h3,h4,h5⟩:=h.ex
 exact⟨X,b,o,c,h1,h2,h3.below hb h3.lt,h4.below hb h4.lt,h5.mono (Zc fun b _ hlt=>hb.block b (Nat.lt_of_lt_of_le hlt hs))⟩
theorem ZBp {u:Unit_} {g:Graph} {F:List Int} {i:Nat} {n:Node} (hn:g.nodes[i]? = some n) {b:Bool} (hb:b=true ↔ ReachC g (-1) i) : mkAt u g F i=⟨b && stB u n,b && ldB u n,drB n,decide ((i:Int)∈F)⟩:=by
 classical
 unfold mkAt
 rw[hn]
 cases b with
 | true=>simp[hb.1 rfl]
 | false =>
  have:¬ ReachC g (-1) i:=fun h=>by have:=hb.2 h;cases this
  simp[this]
def slM2:List Nat:=[24,25,26,27,28,29,30,31,32,33,34,35,36,37,38,9]
def srMk (W0:World) (N:Nat) : SR:=⟨fun w v=>∃ X:Nat,v=Value.slice (some ⟨X,0,none⟩) N N∧W0.heap.size≤X∧Blk w X 103 ((List.replicate N mk0).flatMap Mk.cells),fun hb ⟨X,e,h1,h2⟩=>⟨X,e,h1,h2.below hb h2.lt⟩⟩
def srTh (W0:World) (N:Nat) (cs:List Value) : SR:=⟨fun w v=>∃ X:Nat,v=Value.agg (cs ++ [Value.slice (some ⟨X,0,none⟩) N N]).toArray∧W0.heap.size≤X∧Blk w X 103 ((List.replicate N mk0).flatMap Mk.cells),fun hb ⟨X,e,h1,h2⟩=>⟨X,e,h1,h2.below hb h2.lt⟩⟩
def srPt (W0:World) (N:Nat) (cs:List Value) : SR:=⟨fun w v=>∃ Y X:Nat,v=Value.pointer (some ⟨Y,0,none⟩)∧W0.heap.size≤Y∧W0.heap.size≤X∧Blk w Y 99 (cs ++ [Value.slice (some ⟨X,0,none⟩) N N])∧Blk w X 103 ((List.replicate N mk0).flatMap Mk.cells),
 fun hb ⟨Y,X,e,h1,h2,h3,h4⟩=>⟨Y,X,e,h1,h2,h3.below hb h3.lt,h4.below hb h4.lt⟩⟩
set_option maxRecDepth 100000 in
set_option maxHeartbeats 4000000 in
theorem ZCP (u:Unit_) (cs:List Value) (t:Nat) (g:Graph) (v:Value) (F:List Int) (w:World) (hT:Tab w) (hu:UnitV (cmap w) cs u) (hok:UOk u) (hc:checkF u=none) (hg:u.graphs[t]? = some g) (hF:Ints (cmap w) v F) (hf:fenB g.nodes.length (-1) F=true) :
  Calls Tryd.prog 37 #[.agg cs.toArray,.int .i64 (t:Nat),v] w fun e w'=>∃ Y,e=.returned (.pointer (some ⟨Y,0,none⟩))∧Th w' w.heap.size u g F Y∧Below w.heap.size w w':=by
 have hr:=ZK hc
 have hrg:=hr.graphs g (List.mem_of_getElem? hg)
 have hu0:=hu
 obtain⟨sv,lv,gv,rfl,-,-,hgs⟩:=hu
 obtain⟨gA,gc,rfl,-⟩:=id hgs
 have hgl:=hgs.len.2.2
 obtain⟨gb,go,rfl,gcs,⟨nv,rfl,hnv⟩,hgc⟩:=hgs.at_ hg
 have htl:t < u.graphs.length:=(List.getElem?_eq_some_iff.1 hg).1
 have hgn:1≤g.nodes.length∧g.nodes.length≤4096:=⟨hrg.whole.pos,hrg.whole.most⟩
 obtain⟨nA,nc,rfl,-⟩:=id hnv
 obtain⟨n0,hn0⟩ : ∃ n,g.nodes[0]? = some n:=⟨_,List.getElem?_eq_getElem hgn.1⟩
 obtain⟨nb,no,rfl,-⟩:=hnv.at_ hn0
 clear hn0
 obtain⟨fA,fc,rfl,-⟩:=id hF
 have bF:=hF.len.2.2
 obtain⟨G,HG⟩ : ∃ G,Hid (u.graphs.length=G):=⟨_,rfl⟩
 obtain⟨N,HN⟩ : ∃ N,Hid (g.nodes.length=N):=⟨_,rfl⟩
 have hgv0:GraphV (cmap w) [.string g.name,.int .i64 g.locals,.int .i64 g.slots,.slice (some ⟨nb,no,none⟩) g.nodes.length nc] g:=⟨_,rfl,hnv⟩
 rw[HN.out] at hgc hgn hnv hgv0
 rw[HG.out] at htl hgl hu0 ⊢
 have HGC:=Hd_ hgc;clear hgc
 have HNV:=Hd_ hnv;clear hnv
 have HGV:=Hd_ hgv0;clear hgv0
 have HF:=Hd_ hF;clear hF
 have HFB:=Hd_ hf;clear hf
 have HRG:=Hd_ hrg;clear hrg
 have HR:=Hd_ hr;clear hr
 have HGT:=Hd_ hg;clear hg hgs
 have HLD:Hid (∀ j v,([sv,lv,.slice (some ⟨gb,go,none⟩) G gc] : List Value)[j]? = some v→(w.alloc (.cells #[sv,lv,.slice (some ⟨gb,go,none⟩) G gc] 25)).cell? ⟨w.heap.size,0+j,none⟩=some v):=ZL w _ _ _ rfl
 have HBX:=Hd_ (Blk.new w 25 [sv,lv,.slice (some ⟨gb,go,none⟩) G gc])
 have HB0:=Hd_ (ZB w (.cells #[sv,lv,.slice (some ⟨gb,go,none⟩) G gc] 25))
 have HCC:=Hd_ (Zt u [sv,lv,.slice (some ⟨gb,go,none⟩) G gc] (w.alloc (.cells #[sv,lv,.slice (some ⟨gb,go,none⟩) G gc] 25)) (hT.alloc _) (hu0.mono (ZJ _ _)) hok)
 have HC:=Hd_ hc;clear hc
 clear hu0 hT hok
 have hfn:=fun (w:World)=>ZDu (P:=Tryd.prog) w 130 trivial Tryd.underlying130
 have hnf:=fun (w:World)=>ZDt (P:=Tryd.prog) w 130 trivial Tryd.underlying130
 go_enter Tryd.func37,Tryd.ntmps37
 go_upto_region 2 with(first
  | (refine ZC rfl 25 _ rfl w.heap.size 0 rfl _ _ HLD.out Tryd.underlying25 rfl (by kernel_rfl) ?_)
  | (go_at_call 9;refine HCC.out.mono ?_;rintro e w1 (⟨-,cv,rfl,hcl,hb1⟩ | ⟨hno,-⟩);case inr=>exact(hno HC.out).elim))
 have HBW0:=HB0.out.trans (hb1.mono HB0.out.size)
 have HB1:=HBX.out.below hb1 HBX.out.lt
 obtain⟨cA,cc,hce,-⟩:=id hcl
 rw[List.length_map,List.length_range] at hce
 subst hce
 have HCL:=Hd_ hcl;clear hcl
 obtain⟨W0,hW0⟩ : ∃ W,W=w1:=⟨_,rfl⟩
 subst hW0
 have HB:=Hd_ HB1;clear HB1
 have HBW:=Hd_ HBW0;clear HBW0
 clear hb1 HCC HB0 HBX HLD
 refine ZAf fun a0 ha0=>?_
 have t1:a0.eval (.tmp 1)=.int .i64 (t:Nat):=by rw[ha0];rfl
 have t3:a0.eval (.tmp 3)=.pointer (some ⟨w.heap.size,0,none⟩):=by rw[ha0];rfl
 have hsz:a0.tmps.size=112:=by rw[ha0];rfl
 have HA0:=Hd_ ha0;clear ha0
 refine Zh [(24,.is (.pointer (some ⟨w.heap.size,2,none⟩))),(25,.is (.slice (some ⟨gb,go,none⟩) G gc)),(26,.is (.int .i64 (t:Nat))),(27,.is (.pointer (some ⟨gb,go+t * 4,none⟩))),(28,.is (.agg #[.string g.name,.int .i64 g.locals,.int .i64 g.slots,.slice (some ⟨nb,no,none⟩) N nc])),(29,.is (.pointer (some ⟨w.heap.size,2,none⟩))),(30,.is (.slice (some ⟨gb,go,none⟩) G gc)),(31,.is (.int .i64 (t:Nat))),(32,.is (.pointer (some ⟨gb,go+t * 4,none⟩))),(33,.is (.pointer (some ⟨gb,go+t * 4+3,none⟩))),(34,.is (.slice (some ⟨nb,no,none⟩) N nc)),(35,.is (.int .i64 (N:Nat))),(36,srMk W0 N),(37,srTh W0 N [.string g.name,.int .i64 g.locals,.int .i64 g.slots,.slice (some ⟨nb,no,none⟩) N nc]),(38,srPt W0 N [.string g.name,.int .i64 g.locals,.int .i64 g.slots,.slice (some ⟨nb,no,none⟩) N nc]),(9,srPt W0 N [.string g.name,.int .i64 g.locals,.int .i64 g.slots,.slice (some ⟨nb,no,none⟩) N nc])] (by kernel_rfl) (by kernel_rfl) ?steps ?done
 case steps =>
  refine⟨?_,?_,?_,?_,?_,?_,?_,?_,?_,?_,?_,?_,?_,?_,?_,?_,trivial⟩
  ·
   refine JW.step (slots:=slM2) rfl (by decide) (by rw[hsz];decide) (24,.is (.pointer (some ⟨w.heap.size,2,none⟩))) rfl rfl rfl ?_
   intro D a wx K hD hp h hK
   have hfr:Fr slM2 a0 a:=h.fr
   refine ZD rfl ?_
   have q3:a.eval (.tmp 3)=.pointer (some ⟨w.heap.size,0,none⟩):=(hfr.eval (j:=3) (by decide)).trans t3
   refine ZG hK (by clear hfr;generalize a.eval=ρ at *;go_simp)
  ·
   refine JW.step (slots:=slM2) rfl (by decide) (by rw[hsz];decide) (25,.is (.slice (some ⟨gb,go,none⟩) G gc)) rfl rfl rfl ?_
   intro D a wx K hD hp h hK
   have hfr:Fr slM2 a0 a:=h.fr
   refine ZD rfl ?_
   have q24:a.eval (.tmp 24)=.pointer (some ⟨w.heap.size,2,none⟩):=h.val 0 _ rfl (hp 0 (by decide))
   have z1:wx.cell? ⟨w.heap.size,2,none⟩=some (.slice (some ⟨gb,go,none⟩) G gc):=by have:=(HB.out.below h.below HB.out.lt).cell 2;exact this
   refine ZG hK (by clear hfr;generalize a.eval=ρ at *;go_simp)
  ·
   refine JW.step (slots:=slM2) rfl (by decide) (by rw[hsz];decide) (26,.is (.int .i64 (t:Nat))) rfl rfl rfl ?_
   intro D a wx K hD hp h hK
   have hfr:Fr slM2 a0 a:=h.fr
   refine ZD rfl ?_
   have q1:a.eval (.tmp 1)=.int .i64 (t:Nat):=(hfr.eval (j:=1) (by decide)).trans t1
   exact ZH hK rfl q1
  ·
   refine JW.step (slots:=slM2) rfl (by decide) (by rw[hsz];decide) (27,.is (.pointer (some ⟨gb,go+t * 4,none⟩))) rfl rfl rfl ?_
   intro D a wx K hD hp h hK
   have hfr:Fr slM2 a0 a:=h.fr
   refine ZD rfl ?_
   have q25:a.eval (.tmp 25)=.slice (some ⟨gb,go,none⟩) G gc:=h.val 1 _ rfl (hp 1 (by decide))
   have q26:a.eval (.tmp 26)=.int .i64 (t:Nat):=h.val 2 _ rfl (hp 2 (by decide))
   have z2:(0:Int)≤(t:Nat):=by omega
   have z3:((t:Nat) : Int) < (G:Nat):=by omega
   refine ZG hK (by clear hfr;generalize a.eval=ρ at *;go_simp)
  ·
   refine JW.step (slots:=slM2) rfl (by decide) (by rw[hsz];decide) (28,.is (.agg #[.string g.name,.int .i64 g.locals,.int .i64 g.slots,.slice (some ⟨nb,no,none⟩) N nc])) rfl rfl rfl ?_
   intro D a wx K hD hp h hK
   have hfr:Fr slM2 a0 a:=h.fr
   refine ZD rfl ?_
   have q27:a.eval (.tmp 27)=.pointer (some ⟨gb,go+t * 4,none⟩):=h.val 3 _ rfl (hp 3 (by decide))
   refine ZAG hK 38 _ rfl gb (go+t * 4) q27 _ (by have hb:=h.below;exact fun j v hj=>ZA (HBW.out.trans (hb.mono HBW.out.size)) _ _ _ (HGC.out j v hj)) Tryd.underlying38 rfl (by kernel_rfl)
  ·
   refine JW.step (slots:=slM2) rfl (by decide) (by rw[hsz];decide) (29,.is (.pointer (some ⟨w.heap.size,2,none⟩))) rfl rfl rfl ?_
   intro D a wx K hD hp h hK
   have hfr:Fr slM2 a0 a:=h.fr
   refine ZD rfl ?_
   have q3:a.eval (.tmp 3)=.pointer (some ⟨w.heap.size,0,none⟩):=(hfr.eval (j:=3) (by decide)).trans t3
   refine ZG hK (by clear hfr;generalize a.eval=ρ at *;go_simp)
  ·
   refine JW.step (slots:=slM2) rfl (by decide) (by rw[hsz];decide) (30,.is (.slice (some ⟨gb,go,none⟩) G gc)) rfl rfl rfl ?_
   intro D a wx K hD hp h hK
   have hfr:Fr slM2 a0 a:=h.fr
   refine ZD rfl ?_
   have q29:a.eval (.tmp 29)=.pointer (some ⟨w.heap.size,2,none⟩):=h.val 5 _ rfl (hp 5 (by decide))
   have z1:wx.cell? ⟨w.heap.size,2,none⟩=some (.slice (some ⟨gb,go,none⟩) G gc):=by have:=(HB.out.below h.below HB.out.lt).cell 2;exact this
   refine ZG hK (by clear hfr;generalize a.eval=ρ at *;go_simp)
  ·
   refine JW.step (slots:=slM2) rfl (by decide) (by rw[hsz];decide) (31,.is (.int .i64 (t:Nat))) rfl rfl rfl ?_
   intro D a wx K hD hp h hK
   have hfr:Fr slM2 a0 a:=h.fr
   refine ZD rfl ?_
   have q1:a.eval (.tmp 1)=.int .i64 (t:Nat):=(hfr.eval (j:=1) (by decide)).trans t1
   exact ZH hK rfl q1
  ·
   refine JW.step (slots:=slM2) rfl (by decide) (by rw[hsz];decide) (32,.is (.pointer (some ⟨gb,go+t * 4,none⟩))) rfl rfl rfl ?_
   intro D a wx K hD hp h hK
   have hfr:Fr slM2 a0 a:=h.fr
   refine ZD rfl ?_
   have q30:a.eval (.tmp 30)=.slice (some ⟨gb,go,none⟩) G gc:=h.val 6 _ rfl (hp 6 (by decide))
   have q31:a.eval (.tmp 31)=.int .i64 (t:Nat):=h.val 7 _ rfl (hp 7 (by decide))
   have z2:(0:Int)≤(t:Nat):=by omega
   have z3:((t:Nat) : Int) < (G:Nat):=by omega
   refine ZG hK (by clear hfr;generalize a.eval=ρ at *;go_simp)
  ·
   refine JW.step (slots:=slM2) rfl (by decide) (by rw[hsz];decide) (33,.is (.pointer (some ⟨gb,go+t * 4+3,none⟩))) rfl rfl rfl ?_
   intro D a wx K hD hp h hK
   have hfr:Fr slM2 a0 a:=h.fr
   refine ZD rfl ?_
   have q32:a.eval (.tmp 32)=.pointer (some ⟨gb,go+t * 4,none⟩):=h.val 8 _ rfl (hp 8 (by decide))
   refine ZG hK (by clear hfr;generalize a.eval=ρ at *;go_simp)
  ·
   refine JW.step (slots:=slM2) rfl (by decide) (by rw[hsz];decide) (34,.is (.slice (some ⟨nb,no,none⟩) N nc)) rfl rfl rfl ?_
   intro D a wx K hD hp h hK
   have hfr:Fr slM2 a0 a:=h.fr
   refine ZD rfl ?_
   have q33:a.eval (.tmp 33)=.pointer (some ⟨gb,go+t * 4+3,none⟩):=h.val 9 _ rfl (hp 9 (by decide))
   have z1:wx.cell? ⟨gb,go+t * 4+3,none⟩=some (.slice (some ⟨nb,no,none⟩) N nc):=by have hb:=h.below;exact ZA (HBW.out.trans (hb.mono HBW.out.size)) _ _ _ (HGC.out 3 _ rfl)
   refine ZG hK (by clear hfr;generalize a.eval=ρ at *;go_simp)
  ·
   refine JW.step (slots:=slM2) rfl (by decide) (by rw[hsz];decide) (35,.is (.int .i64 (N:Nat))) rfl rfl rfl ?_
   intro D a wx K hD hp h hK
   have hfr:Fr slM2 a0 a:=h.fr
   refine ZD rfl ?_
   have q34:a.eval (.tmp 34)=.slice (some ⟨nb,no,none⟩) N nc:=h.val 10 _ rfl (hp 10 (by decide))
   refine ZG hK (by clear hfr;generalize a.eval=ρ at *;go_simp)
  ·
   refine JW.step (slots:=slM2) rfl (by decide) (by rw[hsz];decide) (36,srMk W0 N) rfl rfl rfl ?_
   intro D a wx K hD hp h hK
   have hfr:Fr slM2 a0 a:=h.fr
   refine ZD rfl ?_
   have q35:a.eval (.tmp 35)=.int .i64 (N:Nat):=h.val 11 _ rfl (hp 11 (by decide))
   refine ZHM sl_mk hK _ _ rfl N q35 q35 (by omega) (by omega) fun w' hb' hk=>⟨_,rfl,h.below.size,?_⟩
   have em:=ZJd (f:=Mk.cells) (k:=4) ZAW (by omega) mk0 (Value.agg #[.bool false,.bool false,.bool false,.bool false]).cells rfl N
   rw[em] at hk
   exact hk
  ·
   refine JW.step (slots:=slM2) rfl (by decide) (by rw[hsz];decide) (37,srTh W0 N [.string g.name,.int .i64 g.locals,.int .i64 g.slots,.slice (some ⟨nb,no,none⟩) N nc]) rfl rfl rfl ?_
   intro D a wx K hD hp h hK
   have hfr:Fr slM2 a0 a:=h.fr
   refine ZD rfl ?_
   have q28:a.eval (.tmp 28)=.agg #[.string g.name,.int .i64 g.locals,.int .i64 g.slots,.slice (some ⟨nb,no,none⟩) N nc]:=h.val 4 _ rfl (hp 4 (by decide))
   have q36:=h.val 12 _ rfl (hp 12 (by decide))
   obtain⟨X,e,h1,h2⟩:=q36
   refine ZBw (.agg #[.string g.name,.int .i64 g.locals,.int .i64 g.slots,.slice (some ⟨nb,no,none⟩) N nc,.slice (some ⟨X,0,none⟩) N N]) hK ⟨X,rfl,h1,h2⟩ ?_
   have q36:a.eval (.tmp 36)=.slice (some ⟨X,0,none⟩) N N:=e
   clear hfr
   generalize a.eval=ρ at *
   go_simp
  ·
   refine JW.step (slots:=slM2) rfl (by decide) (by rw[hsz];decide) (38,srPt W0 N [.string g.name,.int .i64 g.locals,.int .i64 g.slots,.slice (some ⟨nb,no,none⟩) N nc]) rfl rfl rfl ?_
   intro D a wx K hD hp h hK
   have hfr:Fr slM2 a0 a:=h.fr
   refine ZD rfl ?_
   have q37:=h.val 13 _ rfl (hp 13 (by decide))
   obtain⟨X,e,h1,h2⟩:=q37
   refine ZFY hK rfl [.string g.name,.int .i64 g.locals,.int .i64 g.slots,.slice (some ⟨nb,no,none⟩) N nc,.slice (some ⟨X,0,none⟩) N N] e fun w' hb' hk=>⟨wx.heap.size,X,rfl,h.below.size,h1,hk,h2.below hb' h2.lt⟩
  ·
   refine JW.step (slots:=slM2) rfl (by decide) (by rw[hsz];decide) (9,srPt W0 N [.string g.name,.int .i64 g.locals,.int .i64 g.slots,.slice (some ⟨nb,no,none⟩) N nc]) rfl rfl rfl ?_
   intro D a wx K hD hp h hK
   have hfr:Fr slM2 a0 a:=h.fr
   refine ZD rfl ?_
   have q38:=h.val 14 _ rfl (hp 14 (by decide))
   exact ZAQ hK rfl q38
 case done =>
  intro D a wz hall h
  have hd:∀ i,i < 16→D i=true:=hall
  have hfin:=Fr.allW (slots:=slM2) h.fr (by rw[hsz];decide)
  obtain⟨Y,X,v9,y1,x1,yb,xb⟩:=h.val 15 _ rfl (hd 15 (by decide))
  obtain⟨Y',X',v38,-⟩:=h.val 14 _ rfl (hd 14 (by decide))
  obtain⟨X2,v37,-⟩:=h.val 13 _ rfl (hd 13 (by decide))
  obtain⟨X3,v36,-⟩:=h.val 12 _ rfl (hd 12 (by decide))
  have v9:a.eval (.tmp 9)=_:=v9
  have v38:a.eval (.tmp 38)=_:=v38
  have v37:a.eval (.tmp 37)=_:=v37
  have v36:a.eval (.tmp 36)=_:=v36
  simp only[putW,slM2] at hfin
  rw[(show a.eval (.tmp 24)=.pointer (some ⟨w.heap.size,2,none⟩) from h.val 0 _ rfl (hd 0 (by decide))),(show a.eval (.tmp 25)=.slice (some ⟨gb,go,none⟩) G gc from h.val 1 _ rfl (hd 1 (by decide))),(show a.eval (.tmp 26)=.int .i64 (t:Nat) from h.val 2 _ rfl (hd 2 (by decide))),(show a.eval (.tmp 27)=.pointer (some ⟨gb,go+t * 4,none⟩) from h.val 3 _ rfl (hd 3 (by decide))),(show a.eval (.tmp 28)=.agg #[.string g.name,.int .i64 g.locals,.int .i64 g.slots,.slice (some ⟨nb,no,none⟩) N nc] from h.val 4 _ rfl (hd 4 (by decide))),(show a.eval (.tmp 29)=.pointer (some ⟨w.heap.size,2,none⟩) from h.val 5 _ rfl (hd 5 (by decide))),(show a.eval (.tmp 30)=.slice (some ⟨gb,go,none⟩) G gc from h.val 6 _ rfl (hd 6 (by decide))),(show a.eval (.tmp 31)=.int .i64 (t:Nat) from h.val 7 _ rfl (hd 7 (by decide))),(show a.eval (.tmp 32)=.pointer (some ⟨gb,go+t * 4,none⟩) from h.val 8 _ rfl (hd 8 (by decide))),(show a.eval (.tmp 33)=.pointer (some ⟨gb,go+t * 4+3,none⟩) from h.val 9 _ rfl (hd 9 (by decide))),(show a.eval (.tmp 34)=.slice (some ⟨nb,no,none⟩) N nc from h.val 10 _ rfl (hd 10 (by decide))),(show a.eval (.tmp 35)=.int .i64 (N:Nat) from h.val 11 _ rfl (hd 11 (by decide))),v9,v38,v37,v36] at hfin
  have hbz:=h.below
  rw[hfin,HA0.out]
  clear hfin HA0 h hall hd t1 t3 hsz v9 v38 v37 v36
  simp only[Act.put,List.setIfInBounds_toArray,List.set_cons_zero,List.set_cons_succ]
  have hYX:Y≠X:=blk_ne yb xb (by decide)
  have hbr:=HBW.out.trans (hbz.mono HBW.out.size)
  go_wp2_with (first
   | (go_at_call 61;refine(ZGb _).mono ?_;rintro e w2 ⟨rfl,hb2⟩;unfold whatV fn)
   | (refine ZO 131 rfl ?_))
  refine Stop.intro ?_
  refine wpList_store_row rfl 131 _ _ rfl w2.heap.size #[.nilFunc,.nilFunc,.func (.func 83) #[] #[],.func (.func 81) #[] #[],.func (.func 80) #[] #[],.func (.func 80) #[] #[],.func (.func 82) #[] #[],.func (.func 80) #[] #[],.nilFunc,.nilFunc] rfl rfl 131 _ (heap_alloc_new _ _) (by kernel_rfl) rfl (by simp[Value.oneCell']) ?_
  rw[World.setRow_alloc_new]
  have yb3:=(yb.below hb2 yb.lt).alloc (.cells #[.nilFunc,.nilFunc,.func (.func 83) #[] #[],.func (.func 81) #[] #[],.func (.func 80) #[] #[],.func (.func 80) #[] #[],.func (.func 82) #[] #[],.func (.func 80) #[] #[],.nilFunc,.nilFunc] 131)
  have xb3:=(xb.below hb2 xb.lt).alloc (.cells #[.nilFunc,.nilFunc,.func (.func 83) #[] #[],.func (.func 81) #[] #[],.func (.func 80) #[] #[],.func (.func 80) #[] #[],.func (.func 82) #[] #[],.func (.func 80) #[] #[],.nilFunc,.nilFunc] 131)
  have tb3:Blk (w2.alloc (.cells #[.nilFunc,.nilFunc,.func (.func 83) #[] #[],.func (.func 81) #[] #[],.func (.func 80) #[] #[],.func (.func 80) #[] #[],.func (.func 82) #[] #[],.func (.func 80) #[] #[],.nilFunc,.nilFunc] 131)) w2.heap.size 131 whatV:=Blk.new _ _ _
  have hb3:=(hbr.trans (hb2.mono hbr.size)).alloc ((hbr.trans (hb2.mono hbr.size)).size) (.cells #[.nilFunc,.nilFunc,.func (.func 83) #[] #[],.func (.func 81) #[] #[],.func (.func 80) #[] #[],.func (.func 80) #[] #[],.func (.func 82) #[] #[],.func (.func 80) #[] #[],.nilFunc,.nilFunc] 131)
  have hbz3:=(hb2.mono hbz.size)
  have hs2:=hb2.size
  have hs0:=hbz.size
  have hXl:=xb.lt
  have hs3:(w2.alloc (.cells #[.nilFunc,.nilFunc,.func (.func 83) #[] #[],.func (.func 81) #[] #[],.func (.func 80) #[] #[],.func (.func 80) #[] #[],.func (.func 82) #[] #[],.func (.func 80) #[] #[],.nilFunc,.nilFunc] 131)).heap.size=w2.heap.size+1:=by simp
  have hb03:=((hbz.trans (hb2.mono hbz.size)).alloc ((hbz.trans (hb2.mono hbz.size)).size) (.cells #[.nilFunc,.nilFunc,.func (.func 83) #[] #[],.func (.func 81) #[] #[],.func (.func 80) #[] #[],.func (.func 80) #[] #[],.func (.func 82) #[] #[],.func (.func 80) #[] #[],.nilFunc,.nilFunc] 131))
  obtain⟨w3,hw3⟩ : ∃ w3,w2.alloc (.cells #[.nilFunc,.nilFunc,.func (.func 83) #[] #[],.func (.func 81) #[] #[],.func (.func 80) #[] #[],.func (.func 80) #[] #[],.func (.func 82) #[] #[],.func (.func 80) #[] #[],.nilFunc,.nilFunc] 131)=w3:=⟨_,rfl⟩
  rw[hw3] at yb3 xb3 tb3 hb3 hs3 hb03 ⊢
  clear hw3 yb xb hbr hb2 hbz hbz3
  have HGV3:=Hd_ (HGV.out.mono (ZA hb3))
  have HYG:Hid (∀ j v,([.string g.name,.int .i64 g.locals,.int .i64 g.slots,.slice (some ⟨nb,no,none⟩) N nc] : List Value)[j]? = some v→w3.cell? ⟨Y,0+j,none⟩=some v):=fun j v hj=>by
   rw[Nat.zero_add,yb3.cell]
   have hj4:=(List.getElem?_eq_some_iff.1 hj).1
   rw[show([.string g.name,.int .i64 g.locals,.int .i64 g.slots,.slice (some ⟨nb,no,none⟩) N nc] ++ [.slice (some ⟨X,0,none⟩) N N] : List Value)=[.string g.name,.int .i64 g.locals,.int .i64 g.slots,.slice (some ⟨nb,no,none⟩) N nc] ++ [.slice (some ⟨X,0,none⟩) N N] from rfl,List.getElem?_append_left hj4]
   exact hj
  go_wp2_with (first
   | (refine ZC rfl 38 _ rfl Y 0 rfl _ _ HYG.out Tryd.underlying38 rfl (by kernel_rfl) ?_)
   | (go_at_call 31;refine(ZA5 g [.string g.name,.int .i64 g.locals,.int .i64 g.slots,.slice (some ⟨nb,no,none⟩) N nc] _ HRG.out.whole HGV3.out).mono ?_;rintro e w4 ⟨rv,rl,rfl,hrv,hrl,hri,hb4⟩;obtain⟨rA,rc,hre,-⟩:=id hrv;rw[hrl,HN.out] at hre;subst hre))
  have yb4:=yb3.below hb4 yb3.lt
  have xb4:=xb3.below hb4 xb3.lt
  have tb4:=tb3.below hb4 tb3.lt
  have hs4:=hb4.size
  have hb04:=hb3.trans (hb4.mono hb3.size)
  have hcl4:Clss (on w4 (·≠X)) (.slice cA u.shared.length cc) ((List.range u.shared.length).map fun x:Nat=>classF u (x:Int)):=HCL.out.mono ((ZV _ _ _).trans (ZJu (hb03.trans (hb4.mono hb03.size)) x1))
  have hrv4:Bools (on w4 (·≠X)) (.slice rA N rc) rl:=hrv.mono (ZCL _ (fun b h1 h2=>by show b≠X;omega))
  have hnv4:Nodes (on w4 (·≠X)) (.slice (some ⟨nb,no,none⟩) N nc) g.nodes:=HNV.out.mono (ZJu hb04 (by have:=HBW.out.size;omega))
  have hF4:Ints (on w4 (·≠X)) (.slice fA F.length fc) F:=HF.out.mono (ZJu hb04 (by have:=HBW.out.size;omega))
  have HCL4:=Hd_ hcl4
  have HRV4:=Hd_ hrv4
  have HNV4:=Hd_ hnv4
  have HNV0:=Hd_ HNV.out
  have HF4:=Hd_ hF4
  have HRL:=Hd_ (And.intro hrl hri)
  have HTX:w2.heap.size≠X:=by omega
  rw[show(List.replicate N mk0)=mkTo u g 0 by rw[ZHo,HN.out]] at xb4
  have HY4:=Hd_ yb4
  have HT4:=Hd_ tb4
  have HB04:=Hd_ hb04
  have HX4:=Hd_ xb4
  have hXY:some Y≠some X:=fun e=>hYX (by injection e)
  have hTX2:some w2.heap.size≠some X:=fun e=>HTX (by injection e)
  have hXw:w.heap.size≤X:=by have:=HBW.out.size;omega
  have hYw:w.heap.size≤Y:=by have:=HBW.out.size;omega
  have hXlt:=xb4.lt
  clear hcl4 hrv4 hnv4 hF4 hrl hri hrv yb3 xb3 tb3 yb4 tb4 xb4 hb3 hb03 hb4 hb04 HGV3 HYG HCL HNV HF HGV
  obtain⟨tb,htb⟩ : ∃ tb,w2.heap.size=tb:=⟨_,rfl⟩
  rw[htb] at HT4 HTX hTX2 hs3 ⊢
  go_loopw [46] (fun v46 wr=>∃ k:Nat,v46=.int .i64 k∧k≤N∧Hid (Blk wr X 103 ((mkTo u g k).flatMap Mk.cells))∧Hid (w4.grownBy wr (some X))) (fun v46 _=>N - (intOf v46).toNat)
  case atStart=>exact⟨0,rfl,by omega,HX4,World.grownBy.refl _ _⟩
  case round =>
   obtain⟨k,rfl,hk,HXB,HGR⟩:=hrel
   have hgr:=HGR.out
   have hgs:=hgr.size
   have hyb:=HY4.out.grown hgr hXY
   have htb:=HT4.out.grown hgr hTX2
   have y3:=hyb.cell 3
   have y4:=hyb.cell 4
   have hyl:=hyb.lt
   have htl2:=htb.lt
   have hXl2:X < wr.heap.size:=by omega
   have hle:=ZI1 hgr
   by_cases hlt:k < N
   ·obtain⟨nd,hnd⟩ : ∃ nd,g.nodes[k]? = some nd:=⟨g.nodes[k]'(by rw[HN.out];exact hlt),List.getElem?_eq_getElem _⟩
    obtain⟨b',o',e',hnc⟩:=HNV4.out.at_ hnd
    injection e' with e'
    injection e' with e1 e2
    subst e1 e2
    have hnc:∀ j v,nd.cells[j]? = some v→wr.cell? ⟨nb,no+k * 13+j,none⟩=some v:=fun j v hj=>hle _ _ _ (hnc j v hj)
    have hok:=HRG.out.nodes nd (List.mem_of_getElem? hnd)
    have hkd:=HRG.out.whole.kind nd (List.mem_of_getElem? hnd)
    obtain⟨bv,hbv⟩ : ∃ bv,rl[k]? = some bv:=⟨_,List.getElem?_eq_getElem (by rw[HRL.out.1,HN.out];exact hlt)⟩
    obtain⟨rb,ro,rfl,hrc⟩:=HRV4.out.at_ hbv
    rw[Nat.mul_one] at hrc
    have hrc2:wr.cell? ⟨rb,ro+k,none⟩=some (.bool bv):=hle _ _ _ hrc
    have hrb:=World.block_lt_of_cell? wr ⟨rb,ro+k,none⟩ hrc2
    dsimp only at hrb
    have hmk:=ZBp (u:=u) (F:=[]) hnd (b:=bv) (by rw[← HRL.out.2 k,hbv];simp)
    have hk0:(0:Int)≤k:=by omega
    have hkN:(k:Int) < N:=by omega
    have hvar:=ZFP hok
    obtain⟨kd,op,slot,thing,⟨a1,a2,a3⟩,⟨b1,b2,b3⟩,nx,els,og⟩:=nd
    dsimp only at hkd hvar
    obtain⟨kn,rfl⟩:=Int.eq_ofNat_of_zero_le (a:=kd) (by omega)
    have HMK:=Hd_ hmk;clear hmk
    have HYB:=Hd_ hyb
    have HTB:=Hd_ htb
    have HLD:=Hd_ hnc;clear hnc
    unfold Node.cells at HLD
    have hkn:1≤kn∧kn≤9:=by omega
    clear hnd hok hbv hrc hle hgr hyb htb
    have hcase:(kn=1∨kn=8∨kn=9)∨(kn=4∨kn=5∨kn=7)∨kn=2∨kn=3∨kn=6:=by omega
    rcases hcase with hc1 | hc1 | hc1 | hc1 | hc1
    ·have hcf:wr.cell? ⟨tb,kn,none⟩=some .nilFunc:=by rw[HTB.out.cell];rcases hc1 with rfl | rfl | rfl <;> rfl
     have hm5:mkAt u g [] k=mk0:=by
      rw[HMK.out]
      rcases hc1 with rfl | rfl | rfl <;> simp[stB,ldB,drB,mk0]
     have hsk:=ZHp u g hm5
     have HSK:=Hd_ hsk
     have HC1:=Hd_ hc1
     clear hc1 hm5 hsk
     go_wp2_with (first
      | (refine ZC rfl 61 _ rfl nb (no+k * 13) rfl _ _ HLD.out Tryd.underlying61 rfl (by kernel_rfl) ?_))
     go_roundw
     case rel=>exact⟨k+1,by go_num,by omega,Hd_ (by rw[HSK.out];exact HXB.out.alloc _),Hd_ (ZAI HGR.out (ZB _ _))⟩
     case measure=>simp[intOf];omega
    ·have hcf:wr.cell? ⟨tb,kn,none⟩=some (.func (.func 80) #[] #[]):=by rw[HTB.out.cell];rcases hc1 with rfl | rfl | rfl <;> rfl
     have h3:((kn:Int) == 3)=false:=by simp;omega
     have h2:((kn:Int) == 2)=false:=by simp;omega
     have hdr:drB ⟨(kn:Int),op,slot,thing,⟨a1,a2,a3⟩,⟨b1,b2,b3⟩,nx,els,og⟩=true:=by rcases hc1 with rfl | rfl | rfl <;> simp[drB]
     have hst:stB u ⟨(kn:Int),op,slot,thing,⟨a1,a2,a3⟩,⟨b1,b2,b3⟩,nx,els,og⟩=false:=by rcases hc1 with rfl | rfl | rfl <;> simp[stB]
     have hldb:ldB u ⟨(kn:Int),op,slot,thing,⟨a1,a2,a3⟩,⟨b1,b2,b3⟩,nx,els,og⟩=false:=by rcases hc1 with rfl | rfl | rfl <;> simp[ldB]
     rw[hdr,hst,hldb] at HMK
     have HC1:=Hd_ hc1
     clear hc1 hdr hst hldb
     cases bv with
     | true =>
      go_wp2_with (first
       | (refine ZC rfl 61 _ rfl nb (no+k * 13) rfl _ _ HLD.out Tryd.underlying61 rfl (by kernel_rfl) ?_)
       | (go_at_call 80;refine(ZC8 _ _).mono ?_;rintro e w5 ⟨rfl,hb5⟩))
      have hm5:(mkAt u g [] k).cells=[.bool false,.bool false,.bool true,.bool false]:=by
       rw[HMK.out]
       simp[Mk.cells]
      have hbw5:Below wr.heap.size wr (w5.alloc (.cells #[.bool false,.bool false,.bool true,.bool false] 103)):=((ZB wr _).trans (hb5.mono (by simp))).alloc (by have:=hb5.size;simp at this;omega) _
      have hmb:=Blk.new w5 103 [.bool false,.bool false,.bool true,.bool false]
      obtain⟨wn,hwn⟩ : ∃ wn,w5.alloc (.cells #[.bool false,.bool false,.bool true,.bool false] 103)=wn:=⟨_,rfl⟩
      rw[hwn] at hbw5
      rw[show([.bool false,.bool false,.bool true,.bool false] : List Value).toArray=#[.bool false,.bool false,.bool true,.bool false] from rfl,hwn] at hmb
      rw[hwn]
      have m0:=hmb.cell 0
      have m1:=hmb.cell 1
      have m2:=hmb.cell 2
      have m3:=hmb.cell 3
      have y4n:=(HYB.out.below hbw5 HYB.out.lt).cell 4
      have HXN:=Hd_ (HXB.out.below hbw5 HXB.out.lt)
      have HM5:=Hd_ hm5;clear hm5
      have HBW5:=Hd_ hbw5;clear hbw5 hmb hwn hb5
      clear y3 y4 hrc2
      go_still_tail 7,(by kernel_rfl)
      change wpList _ _ _ _ _ (World.drew wn)
      refine wpList_plain rfl fun K hK=>Zb ZAW (mkAt u g [] k) (i:=k) (by rw[ZAe,HN.out];exact hlt) 103 _ _ rfl X 103 (Blk.drew HXN.out) (by rfl) (by rw[HM5.out];rfl) (by kernel_rfl) (by rw[HM5.out];simp[Value.oneCell']) (hK _ _ ?_)
      rw[ZAM u g (by rw[HN.out];exact hlt)]
      have hx6:Blk ((World.drew wn).setRow X ((mkTo u g (k+1)).flatMap Mk.cells).toArray) X 103 ((mkTo u g (k+1)).flatMap Mk.cells):=Blk.setRow (w:=World.drew wn) HXN.out
      have hg6:w4.grownBy ((World.drew wn).setRow X ((mkTo u g (k+1)).flatMap Mk.cells).toArray) (some X):=ZCi (ZAI HGR.out (HBW5.out.trans (Below.refl _ wn).drew)) _
      obtain⟨w6,hw6⟩ : ∃ w6,(World.drew wn).setRow X ((mkTo u g (k+1)).flatMap Mk.cells).toArray=w6:=⟨_,rfl⟩
      rw[hw6] at hx6 hg6 ⊢
      have HX6:=Hd_ hx6;clear hx6
      have HG6:=Hd_ hg6;clear hg6
      clear hw6 m0 m1 m2 m3 y4n
      go_wp2
      go_roundw
      case rel=>exact⟨k+1,by go_num,by omega,HX6,HG6⟩
      case measure=>simp[intOf];omega
     | false =>
      go_wp2_with (first
       | (refine ZC rfl 61 _ rfl nb (no+k * 13) rfl _ _ HLD.out Tryd.underlying61 rfl (by kernel_rfl) ?_)
       | (go_at_call 80;refine(ZC8 _ _).mono ?_;rintro e w5 ⟨rfl,hb5⟩))
      have hm5:(mkAt u g [] k).cells=[.bool false,.bool false,.bool true,.bool false]:=by
       rw[HMK.out]
       simp[Mk.cells]
      have hbw5:Below wr.heap.size wr (w5.alloc (.cells #[.bool false,.bool false,.bool true,.bool false] 103)):=((ZB wr _).trans (hb5.mono (by simp))).alloc (by have:=hb5.size;simp at this;omega) _
      have hmb:=Blk.new w5 103 [.bool false,.bool false,.bool true,.bool false]
      obtain⟨wn,hwn⟩ : ∃ wn,w5.alloc (.cells #[.bool false,.bool false,.bool true,.bool false] 103)=wn:=⟨_,rfl⟩
      rw[hwn] at hbw5
      rw[show([.bool false,.bool false,.bool true,.bool false] : List Value).toArray=#[.bool false,.bool false,.bool true,.bool false] from rfl,hwn] at hmb
      rw[hwn]
      have m0:=hmb.cell 0
      have m1:=hmb.cell 1
      have m2:=hmb.cell 2
      have m3:=hmb.cell 3
      have y4n:=(HYB.out.below hbw5 HYB.out.lt).cell 4
      have HXN:=Hd_ (HXB.out.below hbw5 HXB.out.lt)
      have HM5:=Hd_ hm5;clear hm5
      have HBW5:=Hd_ hbw5;clear hbw5 hmb hwn hb5
      clear y3 y4 hrc2
      go_still_tail 7,(by kernel_rfl)
      change wpList _ _ _ _ _ (World.drew wn)
      refine wpList_plain rfl fun K hK=>Zb ZAW (mkAt u g [] k) (i:=k) (by rw[ZAe,HN.out];exact hlt) 103 _ _ rfl X 103 (Blk.drew HXN.out) (by rfl) (by rw[HM5.out];rfl) (by kernel_rfl) (by rw[HM5.out];simp[Value.oneCell']) (hK _ _ ?_)
      rw[ZAM u g (by rw[HN.out];exact hlt)]
      have hx6:Blk ((World.drew wn).setRow X ((mkTo u g (k+1)).flatMap Mk.cells).toArray) X 103 ((mkTo u g (k+1)).flatMap Mk.cells):=Blk.setRow (w:=World.drew wn) HXN.out
      have hg6:w4.grownBy ((World.drew wn).setRow X ((mkTo u g (k+1)).flatMap Mk.cells).toArray) (some X):=ZCi (ZAI HGR.out (HBW5.out.trans (Below.refl _ wn).drew)) _
      obtain⟨w6,hw6⟩ : ∃ w6,(World.drew wn).setRow X ((mkTo u g (k+1)).flatMap Mk.cells).toArray=w6:=⟨_,rfl⟩
      rw[hw6] at hx6 hg6 ⊢
      have HX6:=Hd_ hx6;clear hx6
      have HG6:=Hd_ hg6;clear hg6
      clear hw6 m0 m1 m2 m3 y4n
      go_wp2
      go_roundw
      case rel=>exact⟨k+1,by go_num,by omega,HX6,HG6⟩
      case measure=>simp[intOf];omega
    ·obtain⟨thn,rfl⟩:=Int.eq_ofNat_of_zero_le (hvar (by omega)).1
     have hth:=(hvar (by omega)).2
     obtain⟨rc3,hrc3⟩ : ∃ c,classF u (thn:Int)=c:=⟨_,rfl⟩
     have hcl1:((List.range u.shared.length).map fun x:Nat=>classF u (x:Int))[thn]? = some rc3:=by rw[List.getElem?_map,List.getElem?_range (by omega),← hrc3];rfl
     obtain⟨cb,co,rfl,ccs,hcv,hcc⟩:=HCL4.out.at_ hcl1
     have hck:wr.cell? ⟨cb,co+thn * 3,none⟩=some (.int .u8 rc3.kind):=ZI1 HGR.out _ _ _ (hcc 0 _ (by rw[hcv];rfl))
     have hth0:(0:Int)≤thn:=by omega
     have hcb:=World.block_lt_of_cell? wr ⟨cb,co+thn * 3,none⟩ hck
     dsimp only at hcb
     obtain⟨cr,hcr⟩ : ∃ b,decide (rc3.kind=3)=b:=⟨_,rfl⟩
     have hcr2:(rc3.kind == 3)=cr:=hcr
     have hcf:wr.cell? ⟨tb,kn,none⟩=some (.func (.func 83) #[] #[]):=by rw[HTB.out.cell,hc1];rfl
     have h3:((kn:Int) == 3)=false:=by simp;omega
     have h2:((kn:Int) == 2)=true:=by simp;omega
     clear hcc hcv hcl1 hvar
     have HC1:=Hd_ hc1
     have HCR:=Hd_ (And.intro hrc3 hcr)
     clear hc1 hrc3 hcr
     cases bv with
     | true =>
      go_wp2_with (first
       | (refine ZC rfl 61 _ rfl nb (no+k * 13) rfl _ _ HLD.out Tryd.underlying61 rfl (by kernel_rfl) ?_)
       | (go_at_call 83;refine(ZC5 _ _).mono ?_;rintro e w5 ⟨rfl,hb5⟩))
      have hm5:(mkAt u g [] k).cells=[.bool false,.bool cr,.bool false,.bool false]:=by
       rw[HMK.out]
       simp[Mk.cells,stB,ldB,drB,HC1.out,HCR.out.1,HCR.out.2]
      have hbw5:Below wr.heap.size wr (w5.alloc (.cells #[.bool false,.bool cr,.bool false,.bool false] 103)):=((ZB wr _).trans (hb5.mono (by simp))).alloc (by have:=hb5.size;simp at this;omega) _
      have hmb:=Blk.new w5 103 [.bool false,.bool cr,.bool false,.bool false]
      obtain⟨wn,hwn⟩ : ∃ wn,w5.alloc (.cells #[.bool false,.bool cr,.bool false,.bool false] 103)=wn:=⟨_,rfl⟩
      rw[hwn] at hbw5
      rw[show([.bool false,.bool cr,.bool false,.bool false] : List Value).toArray=#[.bool false,.bool cr,.bool false,.bool false] from rfl,hwn] at hmb
      rw[hwn]
      have m0:=hmb.cell 0
      have m1:=hmb.cell 1
      have m2:=hmb.cell 2
      have m3:=hmb.cell 3
      have y4n:=(HYB.out.below hbw5 HYB.out.lt).cell 4
      have HXN:=Hd_ (HXB.out.below hbw5 HXB.out.lt)
      have HM5:=Hd_ hm5;clear hm5
      have HBW5:=Hd_ hbw5;clear hbw5 hmb hwn hb5
      clear y3 y4 hrc2
      go_still_tail 7,(by kernel_rfl)
      change wpList _ _ _ _ _ (World.drew wn)
      refine wpList_plain rfl fun K hK=>Zb ZAW (mkAt u g [] k) (i:=k) (by rw[ZAe,HN.out];exact hlt) 103 _ _ rfl X 103 (Blk.drew HXN.out) (by rfl) (by rw[HM5.out];rfl) (by kernel_rfl) (by rw[HM5.out];simp[Value.oneCell']) (hK _ _ ?_)
      rw[ZAM u g (by rw[HN.out];exact hlt)]
      have hx6:Blk ((World.drew wn).setRow X ((mkTo u g (k+1)).flatMap Mk.cells).toArray) X 103 ((mkTo u g (k+1)).flatMap Mk.cells):=Blk.setRow (w:=World.drew wn) HXN.out
      have hg6:w4.grownBy ((World.drew wn).setRow X ((mkTo u g (k+1)).flatMap Mk.cells).toArray) (some X):=ZCi (ZAI HGR.out (HBW5.out.trans (Below.refl _ wn).drew)) _
      obtain⟨w6,hw6⟩ : ∃ w6,(World.drew wn).setRow X ((mkTo u g (k+1)).flatMap Mk.cells).toArray=w6:=⟨_,rfl⟩
      rw[hw6] at hx6 hg6 ⊢
      have HX6:=Hd_ hx6;clear hx6
      have HG6:=Hd_ hg6;clear hg6
      clear hw6 m0 m1 m2 m3 y4n
      go_wp2
      go_roundw
      case rel=>exact⟨k+1,by go_num,by omega,HX6,HG6⟩
      case measure=>simp[intOf];omega
     | false =>
      go_wp2_with (first
       | (refine ZC rfl 61 _ rfl nb (no+k * 13) rfl _ _ HLD.out Tryd.underlying61 rfl (by kernel_rfl) ?_)
       | (go_at_call 83;refine(ZC5 _ _).mono ?_;rintro e w5 ⟨rfl,hb5⟩))
      have hm5:(mkAt u g [] k).cells=[.bool false,.bool false,.bool false,.bool false]:=by
       rw[HMK.out]
       simp[Mk.cells,stB,ldB,drB,HC1.out,HCR.out.1,HCR.out.2]
      have hbw5:Below wr.heap.size wr (w5.alloc (.cells #[.bool false,.bool false,.bool false,.bool false] 103)):=((ZB wr _).trans (hb5.mono (by simp))).alloc (by have:=hb5.size;simp at this;omega) _
      have hmb:=Blk.new w5 103 [.bool false,.bool false,.bool false,.bool false]
      obtain⟨wn,hwn⟩ : ∃ wn,w5.alloc (.cells #[.bool false,.bool false,.bool false,.bool false] 103)=wn:=⟨_,rfl⟩
      rw[hwn] at hbw5
      rw[show([.bool false,.bool false,.bool false,.bool false] : List Value).toArray=#[.bool false,.bool false,.bool false,.bool false] from rfl,hwn] at hmb
      rw[hwn]
      have m0:=hmb.cell 0
      have m1:=hmb.cell 1
      have m2:=hmb.cell 2
      have m3:=hmb.cell 3
      have y4n:=(HYB.out.below hbw5 HYB.out.lt).cell 4
      have HXN:=Hd_ (HXB.out.below hbw5 HXB.out.lt)
      have HM5:=Hd_ hm5;clear hm5
      have HBW5:=Hd_ hbw5;clear hbw5 hmb hwn hb5
      clear y3 y4 hrc2
      go_still_tail 7,(by kernel_rfl)
      change wpList _ _ _ _ _ (World.drew wn)
      refine wpList_plain rfl fun K hK=>Zb ZAW (mkAt u g [] k) (i:=k) (by rw[ZAe,HN.out];exact hlt) 103 _ _ rfl X 103 (Blk.drew HXN.out) (by rfl) (by rw[HM5.out];rfl) (by kernel_rfl) (by rw[HM5.out];simp[Value.oneCell']) (hK _ _ ?_)
      rw[ZAM u g (by rw[HN.out];exact hlt)]
      have hx6:Blk ((World.drew wn).setRow X ((mkTo u g (k+1)).flatMap Mk.cells).toArray) X 103 ((mkTo u g (k+1)).flatMap Mk.cells):=Blk.setRow (w:=World.drew wn) HXN.out
      have hg6:w4.grownBy ((World.drew wn).setRow X ((mkTo u g (k+1)).flatMap Mk.cells).toArray) (some X):=ZCi (ZAI HGR.out (HBW5.out.trans (Below.refl _ wn).drew)) _
      obtain⟨w6,hw6⟩ : ∃ w6,(World.drew wn).setRow X ((mkTo u g (k+1)).flatMap Mk.cells).toArray=w6:=⟨_,rfl⟩
      rw[hw6] at hx6 hg6 ⊢
      have HX6:=Hd_ hx6;clear hx6
      have HG6:=Hd_ hg6;clear hg6
      clear hw6 m0 m1 m2 m3 y4n
      go_wp2
      go_roundw
      case rel=>exact⟨k+1,by go_num,by omega,HX6,HG6⟩
      case measure=>simp[intOf];omega
    ·obtain⟨thn,rfl⟩:=Int.eq_ofNat_of_zero_le (hvar (by omega)).1
     have hth:=(hvar (by omega)).2
     obtain⟨rc3,hrc3⟩ : ∃ c,classF u (thn:Int)=c:=⟨_,rfl⟩
     have hcl1:((List.range u.shared.length).map fun x:Nat=>classF u (x:Int))[thn]? = some rc3:=by rw[List.getElem?_map,List.getElem?_range (by omega),← hrc3];rfl
     obtain⟨cb,co,rfl,ccs,hcv,hcc⟩:=HCL4.out.at_ hcl1
     have hck:wr.cell? ⟨cb,co+thn * 3,none⟩=some (.int .u8 rc3.kind):=ZI1 HGR.out _ _ _ (hcc 0 _ (by rw[hcv];rfl))
     have hth0:(0:Int)≤thn:=by omega
     have hcb:=World.block_lt_of_cell? wr ⟨cb,co+thn * 3,none⟩ hck
     dsimp only at hcb
     obtain⟨cr,hcr⟩ : ∃ b,decide (rc3.kind=3)=b:=⟨_,rfl⟩
     have hcr2:(rc3.kind == 3)=cr:=hcr
     have hcf:wr.cell? ⟨tb,kn,none⟩=some (.func (.func 81) #[] #[]):=by rw[HTB.out.cell,hc1];rfl
     have h3:((kn:Int) == 3)=true:=by simp;omega
     have h2:((kn:Int) == 2)=false:=by simp;omega
     clear hcc hcv hcl1 hvar
     have HC1:=Hd_ hc1
     have HCR:=Hd_ (And.intro hrc3 hcr)
     clear hc1 hrc3 hcr
     cases bv with
     | true =>
      go_wp2_with (first
       | (refine ZC rfl 61 _ rfl nb (no+k * 13) rfl _ _ HLD.out Tryd.underlying61 rfl (by kernel_rfl) ?_)
       | (go_at_call 81;refine(ZC7 _ _).mono ?_;rintro e w5 ⟨rfl,hb5⟩))
      have hm5:(mkAt u g [] k).cells=[.bool cr,.bool false,.bool false,.bool false]:=by
       rw[HMK.out]
       simp[Mk.cells,stB,ldB,drB,HC1.out,HCR.out.1,HCR.out.2]
      have hbw5:Below wr.heap.size wr (w5.alloc (.cells #[.bool cr,.bool false,.bool false,.bool false] 103)):=((ZB wr _).trans (hb5.mono (by simp))).alloc (by have:=hb5.size;simp at this;omega) _
      have hmb:=Blk.new w5 103 [.bool cr,.bool false,.bool false,.bool false]
      obtain⟨wn,hwn⟩ : ∃ wn,w5.alloc (.cells #[.bool cr,.bool false,.bool false,.bool false] 103)=wn:=⟨_,rfl⟩
      rw[hwn] at hbw5
      rw[show([.bool cr,.bool false,.bool false,.bool false] : List Value).toArray=#[.bool cr,.bool false,.bool false,.bool false] from rfl,hwn] at hmb
      rw[hwn]
      have m0:=hmb.cell 0
      have m1:=hmb.cell 1
      have m2:=hmb.cell 2
      have m3:=hmb.cell 3
      have y4n:=(HYB.out.below hbw5 HYB.out.lt).cell 4
      have HXN:=Hd_ (HXB.out.below hbw5 HXB.out.lt)
      have HM5:=Hd_ hm5;clear hm5
      have HBW5:=Hd_ hbw5;clear hbw5 hmb hwn hb5
      clear y3 y4 hrc2
      go_still_tail 7,(by kernel_rfl)
      change wpList _ _ _ _ _ (World.drew wn)
      refine wpList_plain rfl fun K hK=>Zb ZAW (mkAt u g [] k) (i:=k) (by rw[ZAe,HN.out];exact hlt) 103 _ _ rfl X 103 (Blk.drew HXN.out) (by rfl) (by rw[HM5.out];rfl) (by kernel_rfl) (by rw[HM5.out];simp[Value.oneCell']) (hK _ _ ?_)
      rw[ZAM u g (by rw[HN.out];exact hlt)]
      have hx6:Blk ((World.drew wn).setRow X ((mkTo u g (k+1)).flatMap Mk.cells).toArray) X 103 ((mkTo u g (k+1)).flatMap Mk.cells):=Blk.setRow (w:=World.drew wn) HXN.out
      have hg6:w4.grownBy ((World.drew wn).setRow X ((mkTo u g (k+1)).flatMap Mk.cells).toArray) (some X):=ZCi (ZAI HGR.out (HBW5.out.trans (Below.refl _ wn).drew)) _
      obtain⟨w6,hw6⟩ : ∃ w6,(World.drew wn).setRow X ((mkTo u g (k+1)).flatMap Mk.cells).toArray=w6:=⟨_,rfl⟩
      rw[hw6] at hx6 hg6 ⊢
      have HX6:=Hd_ hx6;clear hx6
      have HG6:=Hd_ hg6;clear hg6
      clear hw6 m0 m1 m2 m3 y4n
      go_wp2
      go_roundw
      case rel=>exact⟨k+1,by go_num,by omega,HX6,HG6⟩
      case measure=>simp[intOf];omega
     | false =>
      go_wp2_with (first
       | (refine ZC rfl 61 _ rfl nb (no+k * 13) rfl _ _ HLD.out Tryd.underlying61 rfl (by kernel_rfl) ?_)
       | (go_at_call 81;refine(ZC7 _ _).mono ?_;rintro e w5 ⟨rfl,hb5⟩))
      have hm5:(mkAt u g [] k).cells=[.bool false,.bool false,.bool false,.bool false]:=by
       rw[HMK.out]
       simp[Mk.cells,stB,ldB,drB,HC1.out,HCR.out.1,HCR.out.2]
      have hbw5:Below wr.heap.size wr (w5.alloc (.cells #[.bool false,.bool false,.bool false,.bool false] 103)):=((ZB wr _).trans (hb5.mono (by simp))).alloc (by have:=hb5.size;simp at this;omega) _
      have hmb:=Blk.new w5 103 [.bool false,.bool false,.bool false,.bool false]
      obtain⟨wn,hwn⟩ : ∃ wn,w5.alloc (.cells #[.bool false,.bool false,.bool false,.bool false] 103)=wn:=⟨_,rfl⟩
      rw[hwn] at hbw5
      rw[show([.bool false,.bool false,.bool false,.bool false] : List Value).toArray=#[.bool false,.bool false,.bool false,.bool false] from rfl,hwn] at hmb
      rw[hwn]
      have m0:=hmb.cell 0
      have m1:=hmb.cell 1
      have m2:=hmb.cell 2
      have m3:=hmb.cell 3
      have y4n:=(HYB.out.below hbw5 HYB.out.lt).cell 4
      have HXN:=Hd_ (HXB.out.below hbw5 HXB.out.lt)
      have HM5:=Hd_ hm5;clear hm5
      have HBW5:=Hd_ hbw5;clear hbw5 hmb hwn hb5
      clear y3 y4 hrc2
      go_still_tail 7,(by kernel_rfl)
      change wpList _ _ _ _ _ (World.drew wn)
      refine wpList_plain rfl fun K hK=>Zb ZAW (mkAt u g [] k) (i:=k) (by rw[ZAe,HN.out];exact hlt) 103 _ _ rfl X 103 (Blk.drew HXN.out) (by rfl) (by rw[HM5.out];rfl) (by kernel_rfl) (by rw[HM5.out];simp[Value.oneCell']) (hK _ _ ?_)
      rw[ZAM u g (by rw[HN.out];exact hlt)]
      have hx6:Blk ((World.drew wn).setRow X ((mkTo u g (k+1)).flatMap Mk.cells).toArray) X 103 ((mkTo u g (k+1)).flatMap Mk.cells):=Blk.setRow (w:=World.drew wn) HXN.out
      have hg6:w4.grownBy ((World.drew wn).setRow X ((mkTo u g (k+1)).flatMap Mk.cells).toArray) (some X):=ZCi (ZAI HGR.out (HBW5.out.trans (Below.refl _ wn).drew)) _
      obtain⟨w6,hw6⟩ : ∃ w6,(World.drew wn).setRow X ((mkTo u g (k+1)).flatMap Mk.cells).toArray=w6:=⟨_,rfl⟩
      rw[hw6] at hx6 hg6 ⊢
      have HX6:=Hd_ hx6;clear hx6
      have HG6:=Hd_ hg6;clear hg6
      clear hw6 m0 m1 m2 m3 y4n
      go_wp2
      go_roundw
      case rel=>exact⟨k+1,by go_num,by omega,HX6,HG6⟩
      case measure=>simp[intOf];omega
    ·have hcf:wr.cell? ⟨tb,kn,none⟩=some (.func (.func 82) #[] #[]):=by rw[HTB.out.cell,hc1];rfl
     have h3:((kn:Int) == 3)=false:=by simp;omega
     have h2:((kn:Int) == 2)=false:=by simp;omega
     have HC1:=Hd_ hc1
     clear hc1
     cases bv with
     | true =>
      go_wp2_with (first
       | (refine ZC rfl 61 _ rfl nb (no+k * 13) rfl _ _ HLD.out Tryd.underlying61 rfl (by kernel_rfl) ?_)
       | (go_at_call 82;refine(ZC6 _ _).mono ?_;rintro e w5 ⟨rfl,hb5⟩))
      have hm5:(mkAt u g [] k).cells=[.bool true,.bool false,.bool false,.bool false]:=by
       rw[HMK.out]
       simp[Mk.cells,stB,ldB,drB,HC1.out]
      have hbw5:Below wr.heap.size wr (w5.alloc (.cells #[.bool true,.bool false,.bool false,.bool false] 103)):=((ZB wr _).trans (hb5.mono (by simp))).alloc (by have:=hb5.size;simp at this;omega) _
      have hmb:=Blk.new w5 103 [.bool true,.bool false,.bool false,.bool false]
      obtain⟨wn,hwn⟩ : ∃ wn,w5.alloc (.cells #[.bool true,.bool false,.bool false,.bool false] 103)=wn:=⟨_,rfl⟩
      rw[hwn] at hbw5
      rw[show([.bool true,.bool false,.bool false,.bool false] : List Value).toArray=#[.bool true,.bool false,.bool false,.bool false] from rfl,hwn] at hmb
      rw[hwn]
      have m0:=hmb.cell 0
      have m1:=hmb.cell 1
      have m2:=hmb.cell 2
      have m3:=hmb.cell 3
      have y4n:=(HYB.out.below hbw5 HYB.out.lt).cell 4
      have HXN:=Hd_ (HXB.out.below hbw5 HXB.out.lt)
      have HM5:=Hd_ hm5;clear hm5
      have HBW5:=Hd_ hbw5;clear hbw5 hmb hwn hb5
      clear y3 y4 hrc2
      go_still_tail 7,(by kernel_rfl)
      change wpList _ _ _ _ _ (World.drew wn)
      refine wpList_plain rfl fun K hK=>Zb ZAW (mkAt u g [] k) (i:=k) (by rw[ZAe,HN.out];exact hlt) 103 _ _ rfl X 103 (Blk.drew HXN.out) (by rfl) (by rw[HM5.out];rfl) (by kernel_rfl) (by rw[HM5.out];simp[Value.oneCell']) (hK _ _ ?_)
      rw[ZAM u g (by rw[HN.out];exact hlt)]
      have hx6:Blk ((World.drew wn).setRow X ((mkTo u g (k+1)).flatMap Mk.cells).toArray) X 103 ((mkTo u g (k+1)).flatMap Mk.cells):=Blk.setRow (w:=World.drew wn) HXN.out
      have hg6:w4.grownBy ((World.drew wn).setRow X ((mkTo u g (k+1)).flatMap Mk.cells).toArray) (some X):=ZCi (ZAI HGR.out (HBW5.out.trans (Below.refl _ wn).drew)) _
      obtain⟨w6,hw6⟩ : ∃ w6,(World.drew wn).setRow X ((mkTo u g (k+1)).flatMap Mk.cells).toArray=w6:=⟨_,rfl⟩
      rw[hw6] at hx6 hg6 ⊢
      have HX6:=Hd_ hx6;clear hx6
      have HG6:=Hd_ hg6;clear hg6
      clear hw6 m0 m1 m2 m3 y4n
      go_wp2
      go_roundw
      case rel=>exact⟨k+1,by go_num,by omega,HX6,HG6⟩
      case measure=>simp[intOf];omega
     | false =>
      go_wp2_with (first
       | (refine ZC rfl 61 _ rfl nb (no+k * 13) rfl _ _ HLD.out Tryd.underlying61 rfl (by kernel_rfl) ?_)
       | (go_at_call 82;refine(ZC6 _ _).mono ?_;rintro e w5 ⟨rfl,hb5⟩))
      have hm5:(mkAt u g [] k).cells=[.bool false,.bool false,.bool false,.bool false]:=by
       rw[HMK.out]
       simp[Mk.cells,stB,ldB,drB,HC1.out]
      have hbw5:Below wr.heap.size wr (w5.alloc (.cells #[.bool false,.bool false,.bool false,.bool false] 103)):=((ZB wr _).trans (hb5.mono (by simp))).alloc (by have:=hb5.size;simp at this;omega) _
      have hmb:=Blk.new w5 103 [.bool false,.bool false,.bool false,.bool false]
      obtain⟨wn,hwn⟩ : ∃ wn,w5.alloc (.cells #[.bool false,.bool false,.bool false,.bool false] 103)=wn:=⟨_,rfl⟩
      rw[hwn] at hbw5
      rw[show([.bool false,.bool false,.bool false,.bool false] : List Value).toArray=#[.bool false,.bool false,.bool false,.bool false] from rfl,hwn] at hmb
      rw[hwn]
      have m0:=hmb.cell 0
      have m1:=hmb.cell 1
      have m2:=hmb.cell 2
      have m3:=hmb.cell 3
      have y4n:=(HYB.out.below hbw5 HYB.out.lt).cell 4
      have HXN:=Hd_ (HXB.out.below hbw5 HXB.out.lt)
      have HM5:=Hd_ hm5;clear hm5
      have HBW5:=Hd_ hbw5;clear hbw5 hmb hwn hb5
      clear y3 y4 hrc2
      go_still_tail 7,(by kernel_rfl)
      change wpList _ _ _ _ _ (World.drew wn)
      refine wpList_plain rfl fun K hK=>Zb ZAW (mkAt u g [] k) (i:=k) (by rw[ZAe,HN.out];exact hlt) 103 _ _ rfl X 103 (Blk.drew HXN.out) (by rfl) (by rw[HM5.out];rfl) (by kernel_rfl) (by rw[HM5.out];simp[Value.oneCell']) (hK _ _ ?_)
      rw[ZAM u g (by rw[HN.out];exact hlt)]
      have hx6:Blk ((World.drew wn).setRow X ((mkTo u g (k+1)).flatMap Mk.cells).toArray) X 103 ((mkTo u g (k+1)).flatMap Mk.cells):=Blk.setRow (w:=World.drew wn) HXN.out
      have hg6:w4.grownBy ((World.drew wn).setRow X ((mkTo u g (k+1)).flatMap Mk.cells).toArray) (some X):=ZCi (ZAI HGR.out (HBW5.out.trans (Below.refl _ wn).drew)) _
      obtain⟨w6,hw6⟩ : ∃ w6,(World.drew wn).setRow X ((mkTo u g (k+1)).flatMap Mk.cells).toArray=w6:=⟨_,rfl⟩
      rw[hw6] at hx6 hg6 ⊢
      have HX6:=Hd_ hx6;clear hx6
      have HG6:=Hd_ hg6;clear hg6
      clear hw6 m0 m1 m2 m3 y4n
      go_wp2
      go_roundw
      case rel=>exact⟨k+1,by go_num,by omega,HX6,HG6⟩
      case measure=>simp[intOf];omega
   ·have hkN:k=g.nodes.length:=by have:=HN.out;omega
    have hXA:=HXB.out
    rw[hkN,ZIr] at hXA
    have HXA:=Hd_ hXA
    clear hXA hkN hgr hyb htb hle y3 y4
    go_wp2
    obtain⟨wo,rfl⟩ : ∃ wo:World,wo=wr:=⟨_,rfl⟩
    go_loopw [99] (fun v99 wi=>∃ j:Nat,v99=.int .i64 j∧j≤F.length∧Hid (Blk wi X 103 ((mkL u g (F.take j)).flatMap Mk.cells))∧Hid (w4.grownBy wi (some X))) (fun v99 _=>F.length - (intOf v99).toNat)
    case atStart=>exact⟨0,rfl,by omega,HXA,HGR⟩
    case round =>
     obtain⟨j,rfl,hj,HXJ,HGJ⟩:=hrel
     have hyj:=HY4.out.grown HGJ.out hXY
     have y4:=hyj.cell 4
     have hyl:=hyj.lt
     have hXl3:=HXJ.out.lt
     have HYJ:=Hd_ hyj;clear hyj
     by_cases hjl:j < F.length
     ·obtain⟨x,hx⟩ : ∃ x,F[j]? = some x:=⟨_,List.getElem?_eq_getElem hjl⟩
      have hxb:=ZGQ (by omega) HFB.out (List.mem_of_getElem? hx)
      have hxb2:=hxb.2
      rw[HN.out] at hxb2
      obtain⟨xn,rfl⟩:=Int.eq_ofNat_of_zero_le hxb.1
      obtain⟨fb,fo,rfl,hfc⟩:=HF4.out.at_ hx
      rw[Nat.mul_one] at hfc
      have hfc2:wr.cell? ⟨fb,fo+j,none⟩=some (.int .i64 (xn:Nat)):=ZI1 HGJ.out _ _ _ hfc
      have hxl:xn < g.nodes.length:=by rw[HN.out];omega
      have hcx:wr.cell? ⟨X,xn * 4+3,none⟩=some (.bool (mkAt u g (F.take j) xn).fenced):=by
       rw[HXJ.out.cell]
       exact ZEl ZAW (ZCf u g (F.take j) hxl) rfl
      have hfz:=HXJ.out.frozen (xn * 4+3)
      have hnext:Blk (wr.setCell ⟨X,xn * 4+3,none⟩ (.bool true)) X 103 ((mkL u g (F.take (j+1))).flatMap Mk.cells):=by
       have h:=HXJ.out.set_ (xn * 4+3) (.bool true)
       rw[ZH4 ZAW (y:={ mkAt u g (F.take j) xn with fenced:=true }) (ZCf u g (F.take j) hxl) rfl (by omega),ZJc u g (F.take j) hxl] at h
       rw[List.take_succ_eq_append_getElem hjl,(List.getElem?_eq_some_iff.1 hx).2]
       exact h
      have HNX:=Hd_ hnext;clear hnext
      have HXI:=Hd_ (And.intro hx hxl);clear hx hxl hxb hfc
      have hx0:(0:Int)≤xn:=by omega
      have hj0:(0:Int)≤j:=by omega
      have hjl2:(j:Int) < F.length:=by omega
      go_wp2
      go_roundw
      case rel=>exact⟨j+1,by go_num,by omega,HNX,Hd_ (gb_set HGJ.out _ _)⟩
      case measure=>simp[intOf];omega
     ·have hXE:=HXJ.out
      rw[List.take_of_length_le (by omega)] at hXE
      have HXE:=Hd_ hXE;clear hXE
      go_wp2
      go_ret
      have hyE:=HYJ.out
      have hfin:Below w.heap.size w wr:=HB04.out.grown HGJ.out HB04.out.size (fun q hq=>by injection hq with hq;omega)
      have hnE:=HNV0.out.mono ((ZIQ w).trans (Zc fun b _ hlt=>hfin.block b hlt))
      rw[← HN.out] at hyE hnE
      exact⟨Y,rfl,⟨⟨X,nb,no,nc,hYw,hXw,hyE,HXE.out,hnE⟩⟩,hfin⟩
end Go.Proofs.YtffgnjgphkdodaaDoor
