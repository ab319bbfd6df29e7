import Derived.Test.YtffgnjgphkdodaaDoorD11
import Derived.Test.YtffgnjgphkdodaaDoorD1
import Derived.Deep.WholeRow
namespace Go.Proofs.YtffgnjgphkdodaaDoor
open Go Go.RowKit
abbrev WCls:=(Nat→Bool)→(Nat→Value)→World→Prop
def XC (C:WCls) (fin:List Nat:=[]) : Type:={p:(Nat→Bool) × (Nat→Value) × World // C p.1 p.2.1 p.2.2∧∀ k∈fin,p.1 k=false}
def XC.w {C:WCls} {fin:List Nat} (x:XC C fin) : World:=x.1.2.2
theorem XC.ne {C:WCls} {fin:List Nat} {w:World} (h:∀ A,C (fun _=>false) A w) : Nonempty (XC C fin):=⟨⟨(fun _=>false,fun _=>undef,w),h _,fun _ _=>rfl⟩⟩
def readUpon (w:World) (v:Value) : Result Next→Prop
 | .ok (.value u) w'=>w'=w∧u=v
 | .ok .skip w'=>w'=w∧v=undef
 | _=>False
def readAtW (P:Program) (o:Oper) (a:Act) (w:World) (v:Value) : Prop:=readUpon w v ((execOp a.eval o).run P w)
def actUpon (P:Program) (N:Value→World→Prop) : Result Next→Prop
 | .ok (.value u) w'=>N u w'
 | .ok .skip w'=>N undef w'
 | .ok (.enter f args) w'=>Calls P f args w' fun e w''=>∃ v,e=.returned v∧N v w''
 | _=>False
def actAtW (P:Program) (o:Oper) (a:Act) (w:World) (N:Value→World→Prop) : Prop:=actUpon P N ((execOp a.eval o).run P w)
def upV (A:Nat→Value) (i:Nat) (v:Value) : Nat→Value:=fun j=>if j=i then v else A j
def dstOf (ops:Array Oper) (j:Nat) : Option Tmp:=(ops[j]?).bind (·.dst)
def valAt (ops:Array Oper) (a:Act) (j:Nat) : Value:=match dstOf ops j with
 | some d=>a.eval (.tmp d)
 | none=>undef
def actV (ops:Array Oper) (act:List Nat) (a:Act) : Nat→Value:=fun j=>if act.contains j=true then valAt ops a j else undef
def wpMix (P:Program) (ops:Array Oper) (C:WCls) (act fin:List Nat) (Q:Act→Prop) : List Nat→List Nat→Act→Prop
 | _,[],a=>Q a
 | pre,i :: rest,a=>∃ o,ops[i]? = some o ∧
  if Region.wanted o (yielded ops a.tmps)=true then
   (if act.contains i=true then
    (∀ D A w,D i=false→(∀ j∈predsOf o,D j=true)→(∀ j∈pre,D j=true∧A j=valAt ops a j)→C D A w→actAtW P o a w (fun v w'=>C (upD D i) (upV A i v) w')) ∧
    ∀ D A w,D i=true→(∀ j∈pre,D j=true∧A j=valAt ops a j)→C D A w→wpMix P ops C act fin Q (i :: pre) rest (a.put o.dst (A i))
   else ∃ v,(∀ x:XC C fin,readAtW P o a x.w v)∧wpMix P ops C act fin Q pre rest (a.put o.dst v))
  else wpMix P ops C act fin Q pre rest (a.put o.dst undef)
section
variable {P:Program} {ops:Array Oper} {C:WCls} {act fin:List Nat} {Q:Act→Prop}
theorem ZBL {pre:List Nat} {a:Act} (h:Q a) : wpMix P ops C act fin Q pre [] a:=h
theorem ZAk {pre rest:List Nat} {i:Nat} {a:Act} {o:Oper} (ho:ops[i]? = some o) (hi:act.contains i=false)
  (h:∀ K:Act→Prop,(∀ a,wpMix P ops C act fin Q pre rest a→K a)→if Region.wanted o (yielded ops a.tmps)=true then ∃ v,(∀ x:XC C fin,readAtW P o a x.w v)∧K (a.put o.dst v) else K (a.put o.dst undef)) : wpMix P ops C act fin Q pre (i :: rest) a:=by
 refine⟨o,ho,?_⟩
 have:=h _ (fun _ h=>h)
 split
 ·rename_i hw
  rw[if_pos hw] at this
  rw[if_neg (by rw[hi];exact Bool.false_ne_true)]
  exact this
 ·rename_i hw
  rw[if_neg hw] at this
  exact this
theorem ZAn {pre rest:List Nat} {i:Nat} {a:Act} {o:Oper} (dst:Option Tmp) (ho:ops[i]? = some o) (hd:o.dst=dst) (hi:act.contains i=true) (hg:o.guard=none)
  (h1:∀ D A w,D i=false→(∀ j∈predsOf o,D j=true)→(∀ j∈pre,D j=true∧A j=valAt ops a j)→C D A w→actAtW P o a w (fun v w'=>C (upD D i) (upV A i v) w'))
  (h2:∀ D A w,D i=true→(∀ j∈pre,D j=true∧A j=valAt ops a j)→C D A w→wpMix P ops C act fin Q (i :: pre) rest (a.put dst (A i))) : wpMix P ops C act fin Q pre (i :: rest) a:=by
 subst hd
 refine⟨o,ho,?_⟩
 rw[if_pos (by simp[Region.wanted,hg]),if_pos hi]
 exact⟨h1,h2⟩
theorem ZAm {pre rest:List Nat} {i:Nat} {a:Act} {o:Oper} (ho:ops[i]? = some o) (hd:o.dst=none) (hi:act.contains i=true) (hg:o.guard=none)
  (h1:∀ D A w,D i=false→(∀ j∈predsOf o,D j=true)→(∀ j∈pre,D j=true∧A j=valAt ops a j)→C D A w→actAtW P o a w (fun v w'=>C (upD D i) (upV A i v) w'))
  (h2:∀ D A w,D i=true→(∀ j∈pre,D j=true∧A j=valAt ops a j)→C D A w→wpMix P ops C act fin Q (i :: pre) rest a) : wpMix P ops C act fin Q pre (i :: rest) a :=
 ZAn none ho hd hi hg h1 h2
end
section
variable {P:Program} {ops:Array Oper} {C:WCls} {act fin:List Nat} {Q:Act→Prop}
theorem ZAl {pre rest:List Nat} {i:Nat} {a:Act} {o:Oper} (dst:Option Tmp) (ho:ops[i]? = some o) (hdst:o.dst=dst) (hi:act.contains i=false) (hg:o.guard=none) (ty:TypeId) (x:Operand) (hop:o.op=.load ty x) (b f:Nat) (hx:a.eval x=.pointer (some ⟨b,f,none⟩)) (cs:List Value) (d:TypeDesc)
  (hc:∀ y:XC C fin,∀ j v,cs[j]? = some v→y.w.cell? ⟨b,f+j,none⟩=some v) (hu:P.underlying ty=some d) (hd:isRowType d=true) (hsz:(P.info? ty).map (·.size)=some cs.length)
  (h:wpMix P ops C act fin Q pre rest (a.put dst (.agg cs.toArray))) : wpMix P ops C act fin Q pre (i :: rest) a:=by
 subst hdst
 refine⟨o,ho,?_⟩
 rw[if_pos (by simp[Region.wanted,hg]),if_neg (by rw[hi];exact Bool.false_ne_true)]
 refine⟨_,fun y=>?_,h⟩
 unfold readAtW execOp
 simp only[hop,hx,Instr.loadAt,Instr.sureAddr,Sem.run_bind,Sem.run_pure,Result.andThen_ok,ZBl y.w b f ty cs d (hc y) hu hd hsz]
 exact⟨rfl,rfl⟩
end
def depOn (ops:Array Oper) : Nat→Nat→Nat→Bool
 | 0,_,_=>false
 | f+1,i,j=>match ops[i]? with
  | none=>false
  | some o=>(predsOf o).any fun p=>p == j || depOn ops f p j
def ordOk (ops:Array Oper) (act:List Nat) : List Nat→List Nat→Bool
 | _,[]=>true
 | done,i :: rest=>(match ops[i]? with
  | none=>false
  | some o=>!done.contains i && (predsOf o).all done.contains && done.all (fun k=>!act.contains k || depOn ops ops.size i k) &&
    (o.looksAt ops).all (fun t=>(List.range ops.size).all fun j=>dstOf ops j != some t || (predsOf o).contains j) &&
    (match o.dst with | none=>true | some d=>(List.range ops.size).all fun j=>j == i || dstOf ops j != some d) &&
    (!act.contains i || o.guard.isNone)) && ordOk ops act (i :: done) rest
def mixOk (ops:Array Oper) (act ord:List Nat) : Bool:=Region.noSelect ops && (ordOk ops act [] ord && (List.range ops.size).all fun i=>ord.contains i)
structure HeadOk (ops:Array Oper) (act done:List Nat) (i:Nat) (o:Oper) : Prop where
 op:ops[i]? = some o
 fresh:i ∉ done
 preds:∀ j∈predsOf o,j∈done
 dep:∀ k∈done,act.contains k=true→depOn ops ops.size i k=true
 reads:∀ t∈o.looksAt ops,∀ j,dstOf ops j=some t→j∈predsOf o
 once:∀ d,o.dst=some d→∀ j,dstOf ops j=some d→j=i
 guard:act.contains i=true→o.guard=none
theorem ZIF {ops:Array Oper} {j:Nat} {d:Tmp} (h:dstOf ops j=some d) : j < ops.size:=by
 unfold dstOf at h
 cases hq:ops[j]? with
 | none=>rw[hq] at h;cases h
 | some o=>exact(Array.getElem?_eq_some_iff.1 hq).1
theorem ZAp {ops:Array Oper} {act done rest:List Nat} {i:Nat} (h:ordOk ops act done (i :: rest)=true) : (∃ o,HeadOk ops act done i o)∧ordOk ops act (i :: done) rest=true:=by
 unfold ordOk at h
 rw[Bool.and_eq_true] at h
 refine⟨?_,h.2⟩
 have h1:=h.1
 cases ho:ops[i]? with
 | none=>rw[ho] at h1;cases h1
 | some o =>
  rw[ho] at h1
  simp only[Bool.and_eq_true] at h1
  obtain⟨⟨⟨⟨⟨a1,a2⟩,a3⟩,a4⟩,a5⟩,a6⟩:=h1
  refine⟨o,ho,?_,?_,?_,?_,?_,?_⟩
  ·intro hm
   rw[List.contains_iff_mem.2 hm] at a1;cases a1
  ·intro j hj
   exact List.contains_iff_mem.1 (List.all_eq_true.1 a2 j hj)
  ·intro k hk hak
   have:=List.all_eq_true.1 a3 k hk
   rw[hak] at this
   simpa using this
  ·intro t ht j hj
   have h2:=List.all_eq_true.1 (List.all_eq_true.1 a4 t ht) j (List.mem_range.2 (ZIF hj))
   rw[hj] at h2
   simpa using h2
  ·intro d hd j hj
   rw[hd] at a5
   have h2:=List.all_eq_true.1 a5 j (List.mem_range.2 (ZIF hj))
   rw[hj] at h2
   simpa using h2
  ·intro hai
   rw[hai] at a6
   simpa using a6
structure MJ (P:Program) (ops:Array Oper) (C:WCls) (act fin:List Nat) (a0:Act) (D:Nat→Bool) (a:Act) (w:World) : Prop where
 cls:C D (actV ops act a) w
 size:a.tmps.size=a0.tmps.size
 defers:a.defers=a0.defers
 clos:∀ i o,ops[i]? = some o→D i=true→∀ j∈predsOf o,D j=true
 old:∀ t,(∀ j,D j=true→dstOf ops j≠some t)→a.tmps[t]? = a0.tmps[t]?
 done:∀ i o,ops[i]? = some o→D i=true→act.contains i=false →
  ((Region.wanted o (yielded ops a.tmps)=true∧∃ v,(∀ x:XC C fin,readAtW P o a x.w v)∧∀ d,o.dst=some d→d < a.tmps.size→a.tmps[d]? = some v) ∨
   (Region.wanted o (yielded ops a.tmps)=false∧∀ d,o.dst=some d→d < a.tmps.size→a.tmps[d]? = some undef))
theorem ZD8 {ops:Array Oper} {o:Oper} {a b:Act} (hs:∀ cs c,o.op≠.select cs c) (h:∀ t∈o.looksAt ops,a.tmps[t]? = b.tmps[t]?) : execOp a.eval o=execOp b.eval o:=by
 refine execOp_congr o hs fun x hx=>?_
 cases x with
 | tmp t =>
  have ht:t∈o.looksAt ops:=List.mem_append_left _ (List.mem_filterMap.2 ⟨.tmp t,by simpa using hx,rfl⟩)
  exact ZC3 (h t ht)
 | const v=>rfl
 | global g=>rfl
 | func f=>rfl
theorem ZBQ {ops:Array Oper} {o:Oper} {a b:Act} (h:∀ t∈o.looksAt ops,a.tmps[t]? = b.tmps[t]?) : Region.wanted o (yielded ops a.tmps)=Region.wanted o (yielded ops b.tmps):=by
 unfold Region.wanted
 cases hg:o.guard with
 | none=>rfl
 | some gw =>
  obtain⟨g,want⟩:=gw
  have hy:yielded ops a.tmps g=yielded ops b.tmps g:=by
   unfold yielded
   cases ht:(ops[g]?).bind (·.dst) with
   | none=>rfl
   | some t =>
    have hm:t∈o.looksAt ops:=by simp[Oper.looksAt,hg,ht]
    simp only[Option.bind_some]
    rw[h t hm]
  simp only[hy]
theorem ZFf {P:Program} {o:Oper} {a b:Act} {w:World} {v v':Value} (he:execOp a.eval o=execOp b.eval o) (h:readAtW P o a w v) (h':readAtW P o b w v') : v=v':=by
 unfold readAtW at h h'
 rw[he] at h
 generalize (execOp b.eval o).run P w=r at h h'
 cases r with
 | halt x w'=>cases h
 | ok n w' =>
  cases n <;> simp only[readUpon] at h h'
  case value u=>exact h.2.symm.trans h'.2
  case skip=>exact h.2.trans h'.2.symm
theorem ZA6 (a:Act) (d:Tmp) (v:Value) (t:Nat) : (a.put (some d) v).tmps[t]? = if d=t then (if t < a.tmps.size then some v else none) else a.tmps[t]?:=by
 simp only[Act.put]
 rw[Array.getElem?_setIfInBounds]
 split
 ·rename_i e;subst e
  split <;> simp_all
 ·rfl
theorem ZB4 (a:Act) (d:Option Tmp) (v:Value) : (a.put d v).tmps.size=a.tmps.size:=by cases d <;> simp[Act.put]
theorem ZDG (a:Act) (d:Option Tmp) (v:Value) : (a.put d v).defers=a.defers:=by cases d <;> rfl
structure AgreeD (ops:Array Oper) (a0:Act) (D:Nat→Bool) (a:Act) (done:List Nat) (b:Act) : Prop where
 size:b.tmps.size=a0.tmps.size
 defers:b.defers=a0.defers
 old:∀ t,(∀ j∈done,dstOf ops j≠some t)→b.tmps[t]? = a0.tmps[t]?
 same:∀ j∈done,D j=true→∀ d,dstOf ops j=some d→b.tmps[d]? = a.tmps[d]?
section
variable {P:Program} {ops:Array Oper} {C:WCls} {act fin:List Nat} {Q:Act→Prop} {a0 a b:Act} {D:Nat→Bool} {w:World} {done pre:List Nat} {i:Nat} {o:Oper}
theorem MJ.looks (h:MJ P ops C act fin a0 D a w) (hb:AgreeD ops a0 D a done b) (hh:HeadOk ops act done i o) (hp:∀ j∈predsOf o,D j=true) : ∀ t∈o.looksAt ops,a.tmps[t]? = b.tmps[t]?:=by
 intro t ht
 by_cases hex:∃ j,dstOf ops j=some t
 ·obtain⟨j,hj⟩:=hex
  have hjp:=hh.reads t ht j hj
  exact(hb.same j (hh.preds j hjp) (hp j hjp) t hj).symm
 ·rw[h.old t fun j _ e=>hex ⟨j,e⟩,hb.old t fun j _ e=>hex ⟨j,e⟩]
theorem AgreeD.put (hb:AgreeD ops a0 D a done b) (hh:HeadOk ops act done i o) {v:Value} (hv:D i=true→∀ d,o.dst=some d→d < a.tmps.size→a.tmps[d]? = some v) (hs:a.tmps.size=a0.tmps.size) : AgreeD ops a0 D a (i :: done) (b.put o.dst v):=by
 have hd:dstOf ops i=o.dst:=by unfold dstOf;rw[hh.op];rfl
 refine⟨by rw[ZB4];exact hb.size,by rw[ZDG];exact hb.defers,fun t ht=>?_,fun j hj hD d hjd=>?_⟩
 ·cases ho:o.dst with
  | none=>exact hb.old t fun j hj=>ht j (List.mem_cons_of_mem _ hj)
  | some d =>
   rw[ZA6,if_neg (fun e=>ht i (List.mem_cons_self ..) (by rw[hd,ho,e]))]
   exact hb.old t fun j hj=>ht j (List.mem_cons_of_mem _ hj)
 ·rcases List.mem_cons.1 hj with e | hj
  ·subst e
   rw[hd] at hjd
   rw[hjd,ZA6,if_pos rfl]
   by_cases hlt:d < b.tmps.size
   ·rw[if_pos hlt,hv hD d hjd (by rw[hs,← hb.size];exact hlt)]
   ·have hle:a.tmps.size≤d:=by rw[hs,← hb.size];exact Nat.le_of_not_lt hlt
    rw[if_neg hlt,Array.getElem?_eq_none hle]
  ·cases ho:o.dst with
   | none=>exact hb.same j hj hD d hjd
   | some d' =>
    rw[ZA6,if_neg (fun e=>by
     subst e
     exact hh.fresh (hh.once d' ho j hjd ▸ hj))]
    exact hb.same j hj hD d hjd
theorem ZBG (h:act.contains i=true) : actV ops act a i=valAt ops a i:=by unfold actV;rw[if_pos h]
theorem ZCE {j:Nat} (h:∀ d,dstOf ops j=some d→b.tmps[d]? = a.tmps[d]?) : valAt ops a j=valAt ops b j:=by
 unfold valAt
 cases hd:dstOf ops j with
 | none=>rfl
 | some d=>exact(ZC3 (h d hd)).symm
theorem ZEc (h:MJ P ops C act fin a0 D a w) (x0:XC C fin) (hsel:Region.noSelect ops=true) : ∀ (l1 l2 done pre:List Nat) (b:Act),wpMix P ops C act fin Q pre (l1 ++ l2) b→AgreeD ops a0 D a done b→ordOk ops act done (l1 ++ l2)=true →
  (∀ j∈pre,act.contains j=true∧D j=true∧j∈done)→(∀ k∈l1,act.contains k=true→D k=true) →
  ∃ b' pre',wpMix P ops C act fin Q pre' l2 b'∧AgreeD ops a0 D a (l1.reverse ++ done) b'∧(∀ j∈pre',act.contains j=true∧D j=true∧j∈l1.reverse ++ done)∧ordOk ops act (l1.reverse ++ done) l2=true
 | [],l2,done,pre,b,hw,hb,ho,hpre,_=>⟨b,pre,hw,hb,hpre,ho⟩
 | i :: l1,l2,done,pre,b,hw,hb,ho,hpre,hact=>by
  obtain⟨⟨o,hh⟩,ho2⟩:=ZAp ho
  obtain⟨o',e1,hw⟩:=hw
  rw[hh.op] at e1
  injection e1 with e1
  subst e1
  have hs:=fun cs c=>Region.noSelect_spec hsel i o cs c hh.op
  have go:∀ b' pre',wpMix P ops C act fin Q pre' (l1 ++ l2) b'→AgreeD ops a0 D a (i :: done) b'→(∀ j∈pre',act.contains j=true∧D j=true∧j∈i :: done) →
    ∃ b' pre',wpMix P ops C act fin Q pre' l2 b'∧AgreeD ops a0 D a ((i :: l1).reverse ++ done) b'∧(∀ j∈pre',act.contains j=true∧D j=true∧j∈(i :: l1).reverse ++ done)∧ordOk ops act ((i :: l1).reverse ++ done) l2=true:=fun b' pre' k1 k2 k3=>by
   have:=ZEc h x0 hsel l1 l2 (i :: done) pre' b' k1 k2 ho2 k3 (fun k hk=>hact k (List.mem_cons_of_mem _ hk))
   simpa using this
  have hpre':∀ j∈pre,act.contains j=true∧D j=true∧j∈i :: done:=fun j hj=>⟨(hpre j hj).1,(hpre j hj).2.1,List.mem_cons_of_mem _ (hpre j hj).2.2⟩
  have hlook:D i=true→∀ t∈o.looksAt ops,a.tmps[t]? = b.tmps[t]?:=fun hD=>h.looks hb hh (h.clos i o hh.op hD)
  split at hw
  ·rename_i hwt
   split at hw
   ·rename_i hia
    have hD:=hact i (List.mem_cons_self ..) hia
    have hA:∀ j∈pre,D j=true∧actV ops act a j=valAt ops b j:=fun j hj=>by
     obtain⟨p1,p2,p3⟩:=hpre j hj
     exact⟨p2,(ZBG p1).trans (ZCE (hb.same j p3 p2))⟩
    have hw2:=hw.2 D (actV ops act a) w hD hA h.cls
    rw[ZBG hia] at hw2
    refine go _ _ hw2 (hb.put hh (fun _ d hd hlt=>?_) h.size) (fun j hj=>?_)
    ·unfold valAt
     rw[show dstOf ops i=some d by unfold dstOf;rw[hh.op];exact hd]
     simp only[Act.eval,Array.getD_eq_getD_getElem?]
     rw[Array.getElem?_eq_getElem hlt];rfl
    ·rcases List.mem_cons.1 hj with e | hj
     ·subst e;exact⟨hia,hD,List.mem_cons_self ..⟩
     ·exact hpre' j hj
   ·rename_i hia
    obtain⟨v,hr,hw2⟩:=hw
    refine go _ _ hw2 (hb.put hh (fun hD d hd hlt=>?_) h.size) hpre'
    rcases h.done i o hh.op hD (by simpa using hia) with⟨_,v',r1,r2⟩ | ⟨r1,_⟩
    ·have:=ZFf (ZD8 hs (hlook hD)) (r1 x0) (hr x0)
     rw[← this]
     exact r2 d hd hlt
    ·rw[ZBQ (hlook hD),hwt] at r1;cases r1
  ·rename_i hwt
   refine go _ _ hw (hb.put hh (fun hD d hd hlt=>?_) h.size) hpre'
   by_cases hia:act.contains i=true
   ·exfalso
    apply hwt
    unfold Region.wanted
    rw[hh.guard hia]
   ·rcases h.done i o hh.op hD (by simpa using hia) with⟨r1,_⟩ | ⟨_,r2⟩
    ·rw[ZBQ (hlook hD)] at r1;exact absurd r1 hwt
    ·exact r2 d hd hlt
theorem ZEp (h:MJ P ops C act fin a0 D a w) {j:Nat} : ∀ (f i:Nat) (o:Oper),ops[i]? = some o→(∀ p∈predsOf o,D p=true)→depOn ops f i j=true→D j=true
 | 0,_,_,_,_,hd=>by cases hd
 | f+1,i,o,ho,hp,hd=>by
  unfold depOn at hd
  rw[ho] at hd
  obtain⟨p,hp1,hp2⟩:=List.any_eq_true.1 hd
  rw[Bool.or_eq_true] at hp2
  rcases hp2 with e | e
  ·rw[beq_iff_eq] at e;subst e;exact hp p hp1
  ·unfold depOn at e
   cases f with
   | zero=>cases e
   | succ f =>
    cases hop:ops[p]? with
    | none=>simp only[hop] at e;cases e
    | some op =>
     exact ZEp h (f+1) p op hop (h.clos p op hop (hp p hp1)) (by unfold depOn;exact e)
end
theorem ZEz {D:Nat→Bool} {i j:Nat} (h:D j=true) : upD D i j=true:=by unfold upD;split <;> simp_all
theorem ZC9 {D:Nat→Bool} {i j:Nat} (h:upD D i j=true) : j=i∨D j=true:=by
 unfold upD at h
 split at h
 ·rename_i e;exact .inl e
 ·exact .inr h
theorem ZB5 {ops:Array Oper} {act:List Nat} {i:Nat} : ∀ (ord _done:List Nat),i∈ord→∃ l1 l2,ord=l1 ++ i :: l2∧i ∉ l1
 | [],_,h=>by cases h
 | k :: ord,done,h=>by
  by_cases e:k=i
  ·subst e;exact⟨[],ord,rfl,by simp⟩
  ·rcases List.mem_cons.1 h with e2 | h
   ·exact absurd e2.symm e
   ·obtain⟨l1,l2,rfl,h2⟩:=ZB5 (ops:=ops) (act:=act) ord done h
    exact⟨k :: l1,l2,rfl,by simp[h2];exact fun e2=>e e2.symm⟩
theorem ZBa {ops:Array Oper} {act:List Nat} : ∀ (l1 l2 done:List Nat),ordOk ops act done (l1 ++ l2)=true→ordOk ops act (l1.reverse ++ done) l2=true
 | [],_,_,h=>h
 | i :: l1,l2,done,h=>by
  have:=ZBa l1 l2 (i :: done) (ZAp h).2
  simpa using this
theorem ZHQ {act:List Nat} {D:Nat→Bool} {i k:Nat} (hi:act.contains i=false) (hk:act.contains k=true) : upD D i k=D k:=by
 refine ZBj _ fun e=>?_
 subst e
 rw[hk] at hi;cases hi
theorem ZBS {ops:Array Oper} {n:Nat} (h:(ops.toList.all fun o=>match o.dst with | none=>true | some d=>decide (d < n))=true) : ∀ j d,dstOf ops j=some d→d < n:=by
 intro j d hj
 unfold dstOf at hj
 cases ho:ops[j]? with
 | none=>rw[ho] at hj;cases hj
 | some o =>
  rw[ho] at hj
  have hd:o.dst=some d:=hj
  have:=List.all_eq_true.1 h o (by have:=Array.mem_of_getElem? ho;simpa using this)
  rw[hd] at this
  simpa using this
theorem ZIn {ops:Array Oper} {act:List Nat} {i:Nat} (ord:List Nat) (h:ordOk ops act [] ord=true) (hi:i∈ord) : i < ops.size:=by
 obtain⟨l1,l2,rfl,_⟩:=ZB5 (ops:=ops) (act:=act) ord [] hi
 obtain⟨⟨o,hh⟩,_⟩:=ZAp (ZBa l1 (i :: l2) [] h)
 exact(Array.getElem?_eq_some_iff.1 hh.op).1
theorem ZDp {P:Program} {id:Nat} {ops:Array Oper} {Q':Exit→Act→World→Prop} {a:Act} {w:World} (C:WCls) (act ord fin:List Nat) (hm:P.follows .mixedOrders=true)
  (hback:ops.toList.zipIdx.all (fun x=>(predsOf x.1).all fun j=>decide (j < x.2))=true) (hok:mixOk ops act ord=true)
  (hfa:fin.all (fun k=>act.contains k && (List.range ops.size).all fun i=>fin.contains i || depOn ops ops.size k i)=true)
  (h0:∀ A,C (fun _=>false) A w.drew) (hq:∀ D A w i,act.contains i=false→C D A w→C (upD D i) A w)
  (hA:∀ D A A' w,(∀ j,act.contains j=true→D j=true→dstOf ops j≠none→A j=A' j)→C D A w→C D A' w)
  (hsz:∀ j d,dstOf ops j=some d→d < a.tmps.size)
  (h:wpMix P ops C act fin (fun a=>∀ D A w,(∀ i,i < ops.size→D i=true)→(∀ j,act.contains j=true→A j=valAt ops a j)→C D A w→Q' .normal a w) [] ord a) : (Code.region id ops true).wp P Q' a w:=by
 have x0:XC C fin:=⟨(fun _=>false,fun _=>undef,w.drew),h0 _,fun _ _=>rfl⟩
 unfold mixOk at hok
 rw[Bool.and_eq_true,Bool.and_eq_true] at hok
 obtain⟨hsel,hord,hall⟩:=hok
 have hin:∀ i,i < ops.size→i∈ord:=fun i hi=>List.contains_iff_mem.1 (List.all_eq_true.1 hall i (List.mem_range.2 hi))
 have hstart:AgreeD ops a (fun _=>false) a [] a:=⟨rfl,rfl,fun _ _=>rfl,fun j hj=>by cases hj⟩
 refine ZA2 (MJ P ops C act fin a) hm hback ⟨h0 _,rfl,rfl,fun _ _ _ h=>(by cases h),fun _ _=>rfl,fun _ _ _ h=>(by cases h)⟩ ?_ ?_
 ·intro i o ho D a1 w1 K hD hp hJ hK
  have hi:i < ops.size:=(Array.getElem?_eq_some_iff.1 ho).1
  obtain⟨l1,l2,hsp,hni⟩:=ZB5 (ops:=ops) (act:=act) ord [] (hin i hi)
  rw[hsp] at h hord
  have hord':=ZBa l1 (i :: l2) [] hord
  rw[List.append_nil] at hord'
  obtain⟨⟨o',hh⟩,_⟩:=ZAp hord'
  obtain rfl:o=o':=by have:=hh.op;rw[ho] at this;injection this
  have hl1:∀ k∈l1,act.contains k=true→D k=true:=fun k hk hak=>ZEp hJ _ i o ho hp (hh.dep k (by simpa using hk) hak)
  obtain⟨b,pre,hw,hb,hpre,_⟩:=ZEc hJ x0 hsel l1 (i :: l2) [] [] a h ⟨rfl,rfl,fun _ _=>rfl,fun j hj=>by cases hj⟩ hord (fun j hj=>by cases hj) hl1
  rw[List.append_nil] at hb
  have hs:=fun cs c=>Region.noSelect_spec hsel i o cs c ho
  have hlook:=hJ.looks hb hh hp
  have hex:=ZD8 hs hlook
  have hwa:=ZBQ hlook
  obtain⟨o2,e2,hw⟩:=hw
  rw[ho] at e2
  injection e2 with e2
  subst e2
  have hdi:dstOf ops i=o.dst:=by unfold dstOf;rw[ho];rfl
  have hnl:∀ (j:Nat) oj,ops[j]? = some oj→D j=true→∀ d,o.dst=some d→d ∉ oj.looksAt ops:=fun j oj hoj hDj d hd hmem=>by
   obtain⟨k1,k2,hspj,_⟩:=ZB5 (ops:=ops) (act:=act) (l1 ++ i :: l2) [] (by rw[← hsp];exact hin j (Array.getElem?_eq_some_iff.1 hoj).1)
   have hoj':=ZBa k1 (j :: k2) [] (by rw[← hspj];exact hord)
   obtain⟨⟨oj',hhj⟩,_⟩:=ZAp hoj'
   obtain rfl:oj=oj':=by have:=hhj.op;rw[hoj] at this;injection this
   have:=hJ.clos j oj hoj hDj i (hhj.reads d hmem i (by rw[hdi];exact hd))
   rw[hD] at this;cases this
  have hkeep:∀ v,(∀ j oj,ops[j]? = some oj→D j=true→execOp (a1.put o.dst v).eval oj=execOp a1.eval oj∧Region.wanted oj (yielded ops (a1.put o.dst v).tmps)=Region.wanted oj (yielded ops a1.tmps) ∧
    ∀ d,oj.dst=some d→(a1.put o.dst v).tmps[d]? = a1.tmps[d]?):=fun v j oj hoj hDj=>by
   refine⟨execOp_put (ops:=ops) oj (fun cs c=>Region.noSelect_spec hsel j oj cs c hoj) a1 o.dst v (fun d hd=>hnl j oj hoj hDj d hd),wanted_put oj a1 o.dst v (fun d hd=>hnl j oj hoj hDj d hd),fun d hd=>?_⟩
   cases hod:o.dst with
   | none=>rfl
   | some d' =>
    rw[ZA6,if_neg (fun e=>by
     subst e
     have:=hh.once d' hod j (by unfold dstOf;rw[hoj];exact hd)
     subst this
     rw[hD] at hDj;cases hDj)]
  have hnew:∀ v w2,C (upD D i) (actV ops act (a1.put o.dst v)) w2→(act.contains i=false→(Region.wanted o (yielded ops a1.tmps)=true∧∀ x:XC C fin,readAtW P o a1 x.w v)∨(Region.wanted o (yielded ops a1.tmps)=false∧v=undef))→MJ P ops C act fin a (upD D i) (a1.put o.dst v) w2:=fun v w2 hc hv=>by
   refine⟨hc,by rw[ZB4];exact hJ.size,by rw[ZDG];exact hJ.defers,fun j oj hoj hDj q hq=>?_,fun t ht=>?_,fun j oj hoj hDj haj=>?_⟩
   ·rcases ZC9 hDj with e | e
    ·subst e
     rw[ho] at hoj
     injection hoj with hoj
     subst hoj
     exact ZEz (hp q hq)
    ·exact ZEz (hJ.clos j oj hoj e q hq)
   ·cases hod:o.dst with
    | none=>exact hJ.old t fun j hj=>ht j (ZEz hj)
    | some d =>
     rw[ZA6,if_neg (fun e=>ht i (ZBy D i) (by rw[hdi,hod,e]))]
     exact hJ.old t fun j hj=>ht j (ZEz hj)
   ·by_cases e:j=i
    ·subst e
     rw[ho] at hoj
     injection hoj with hoj
     subst hoj
     have hself:∀ d,o.dst=some d→d ∉ o.looksAt ops:=fun d hd hmem=>by
      have:=hp j (hh.reads d hmem j (by rw[hdi];exact hd))
      rw[hD] at this;cases this
     rw[wanted_put o a1 o.dst v hself]
     have hdst:∀ d,o.dst=some d→d < (a1.put o.dst v).tmps.size→(a1.put o.dst v).tmps[d]? = some v:=fun d hd hlt=>by
      rw[ZB4] at hlt
      rw[hd,ZA6,if_pos rfl,if_pos hlt]
     rcases hv haj with⟨k1,k2⟩ | ⟨k1,k2⟩
     ·refine .inl ⟨k1,v,fun x=>?_,hdst⟩
      have:=k2 x
      unfold readAtW at this ⊢
      rw[execOp_put (ops:=ops) o hs a1 o.dst v hself]
      exact this
     ·exact .inr ⟨k1,by rw[← k2];exact hdst⟩
    ·have hDj':D j=true:=by rcases ZC9 hDj with e2 | e2;exact absurd e2 e;exact e2
     obtain⟨k1,k2,k3⟩:=hkeep v j oj hoj hDj'
     rcases hJ.done j oj hoj hDj' haj with⟨r1,v',r2,r3⟩ | ⟨r1,r2⟩
     ·refine .inl ⟨k2.trans r1,v',fun x=>?_,fun d hd hlt=>by rw[k3 d hd];exact r3 d hd (by rw[ZB4] at hlt;exact hlt)⟩
      have:=r2 x
      unfold readAtW at this ⊢
      rw[k1];exact this
     ·exact .inr ⟨k2.trans r1,fun d hd hlt=>by rw[k3 d hd];exact r2 d hd (by rw[ZB4] at hlt;exact hlt)⟩
  have hAput:∀ v j,act.contains j=true→D j=true→actV ops act a1 j=actV ops act (a1.put o.dst v) j:=fun v j haj hDj=>by
   rw[ZBG haj,ZBG haj]
   refine(ZCE fun d hd=>?_).symm
   cases hoj:ops[j]? with
   | none=>unfold dstOf at hd;rw[hoj] at hd;cases hd
   | some oj=>exact((hkeep v j oj hoj hDj).2.2 d (by unfold dstOf at hd;rw[hoj] at hd;exact hd)).symm
  split
  ·rename_i hw1
   rw[hwa] at hw1
   rw[if_pos hw1] at hw
   by_cases hia:act.contains i=true
   ·rw[if_pos hia] at hw
    have hac:=hw.1 D (actV ops act a1) w1 hD hp (fun j hj=>by
     obtain⟨p1,p2,p3⟩:=hpre j hj
     rw[List.append_nil] at p3
     exact⟨p2,(ZBG p1).trans (ZCE (hb.same j p3 p2))⟩) hJ.cls
    have hfin:∀ v w2,C (upD D i) (upV (actV ops act a1) i v) w2→K (a1.put o.dst v) w2:=fun v w2 hc=>by
     refine hK _ _ (hnew v w2 ?_ (fun e=>by rw[hia] at e;cases e))
     refine hA _ _ _ _ (fun j haj hDj hdj=>?_) hc
     unfold upV
     split
     ·rename_i e
      subst e
      rw[ZBG hia]
      unfold valAt
      rw[hdi] at hdj ⊢
      cases hod:o.dst with
      | none=>exact absurd hod hdj
      | some d =>
       have hlt:d < a1.tmps.size:=by rw[hJ.size];exact hsz j d (by rw[hdi,hod])
       simp only[Act.eval,Array.getD_eq_getD_getElem?]
       rw[ZA6,if_pos rfl,if_pos hlt];rfl
     ·rename_i e
      rcases ZC9 hDj with e2 | e2
      ·exact absurd e2 e
      ·exact hAput v j haj e2
    unfold actAtW at hac
    unfold Oper.wp
    rw[hex]
    generalize (execOp b.eval o).run P w1=r at hac
    cases r with
    | halt x w'=>cases hac
    | ok n w' =>
     cases n <;> simp only[actUpon] at hac <;> simp only[Oper.upon]
     case value u=>exact hfin _ _ hac
     case skip=>exact hfin _ _ hac
     case enter f args=>exact hac.mono fun e w'' ⟨v,he,hc⟩=>by subst he;exact hfin _ _ hc
   ·rw[if_neg hia] at hw
    obtain⟨v,hr,_⟩:=hw
    have hr1:∀ x:XC C fin,readAtW P o a1 x.w v:=fun x=>by have:=hr x;unfold readAtW at this ⊢;rw[hex];exact this
    have hia':act.contains i=false:=by simpa using hia
    have hfin:K (a1.put o.dst v) w1:=hK _ _ (hnew v w1 (hA _ _ _ _ (fun j haj hDj _=>by
     rcases ZC9 hDj with e | e
     ·subst e;rw[haj] at hia';cases hia'
     ·exact hAput v j haj e) (hq D _ w1 i hia' hJ.cls)) (fun _=>.inl ⟨hwa.trans hw1,hr1⟩))
    have hfin0:∀ k∈fin,D k=false:=fun k hk=>by
     have hka:=List.all_eq_true.1 hfa k hk
     rw[Bool.and_eq_true] at hka
     have hki:=List.all_eq_true.1 hka.2 i (List.mem_range.2 hi)
     cases hDk:D k with
     | false=>rfl
     | true =>
      rw[Bool.or_eq_true] at hki
      rcases hki with hki | hki
      ·have:=List.all_eq_true.1 hfa i (List.contains_iff_mem.1 hki)
       rw[Bool.and_eq_true,hia'] at this
       exact absurd this.1 (by simp)
      ·cases hok:ops[k]? with
       | none=>unfold depOn at hki;cases hsz':ops.size with
        | zero=>rw[hsz'] at hki;cases hki
        | succ q=>rw[hsz'] at hki;simp[hok] at hki
       | some ok =>
        have:=ZEp hJ _ k ok hok (hJ.clos k ok hok hDk) hki
        rw[hD] at this;cases this
    have hrw:=hr1 ⟨(D,actV ops act a1,w1),hJ.cls,hfin0⟩
    unfold readAtW at hrw
    unfold Oper.wp
    change readUpon w1 v ((execOp a1.eval o).run P w1) at hrw
    generalize (execOp a1.eval o).run P w1=r at hrw
    cases r with
    | halt x w'=>cases hrw
    | ok n w' =>
     cases n <;> simp only[readUpon] at hrw <;> simp only[Oper.upon]
     case value u=>obtain⟨rfl,rfl⟩:=hrw;exact hfin
     case skip=>obtain⟨rfl,rfl⟩:=hrw;exact hfin
  ·rename_i hw1
   have hw1':Region.wanted o (yielded ops a1.tmps)=false:=by simpa using hw1
   have hia':act.contains i=false:=by
    cases hc:act.contains i with
    | false=>rfl
    | true=>unfold Region.wanted at hw1';rw[hh.guard hc] at hw1';cases hw1'
   exact hK _ _ (hnew undef w1 (hA _ _ _ _ (fun j haj hDj _=>by
     rcases ZC9 hDj with e | e
     ·subst e;rw[haj] at hia';cases hia'
     ·exact hAput undef j haj e) (hq D _ w1 i hia' hJ.cls)) (fun _=>.inr ⟨hw1',rfl⟩))
 ·intro D a1 w1 hD hJ
  obtain⟨b,pre,hw,hb,_,_⟩:=ZEc hJ x0 hsel ord [] [] [] a (by rw[List.append_nil];exact h) ⟨rfl,rfl,fun _ _=>rfl,fun j hj=>by cases hj⟩ (by rw[List.append_nil];exact hord) (fun j hj=>by cases hj) (fun k hk _=>hD k (ZIn ord hord hk))
  have hab:a1=b:=by
   have htm:a1.tmps=b.tmps:=Array.ext_getElem? fun t=>by
    by_cases hex:∃ j,dstOf ops j=some t
    ·obtain⟨j,hj⟩:=hex
     have hjl:=ZIF hj
     exact(hb.same j (by simpa using hin j hjl) (hD j hjl) t hj).symm
    ·rw[hJ.old t fun j _ e=>hex ⟨j,e⟩,hb.old t fun j _ e=>hex ⟨j,e⟩]
   have hdf:a1.defers=b.defers:=hJ.defers.trans hb.defers.symm
   cases a1;cases b;simp_all
  subst hab
  exact hw D (actV ops act a1) w1 hD (fun j haj=>ZBG haj) hJ.cls
theorem Z8 {P:Program} {id:Nat} {ops:Array Oper} {Q':Exit→Act→World→Prop} {a:Act} {w:World} (C:WCls) (act ord:List Nat) (hm:P.follows .mixedOrders=true)
  (hback:ops.toList.zipIdx.all (fun x=>(predsOf x.1).all fun j=>decide (j < x.2))=true) (hok:mixOk ops act ord=true)
  (h0:∀ A,C (fun _=>false) A w.drew) (hq:∀ D A w i,act.contains i=false→C D A w→C (upD D i) A w)
  (hA:∀ D A A' w,(∀ j,act.contains j=true→D j=true→dstOf ops j≠none→A j=A' j)→C D A w→C D A' w)
  (hsz:∀ j d,dstOf ops j=some d→d < a.tmps.size)
  (h:wpMix P ops C act [] (fun a=>∀ D A w,(∀ i,i < ops.size→D i=true)→(∀ j,act.contains j=true→A j=valAt ops a j)→C D A w→Q' .normal a w) [] ord a) : (Code.region id ops true).wp P Q' a w :=
 ZDp C act ord [] hm hback hok rfl h0 hq hA hsz h
def cNew (W:World) (T:TypeId) (z cs:List Value) (i j:Nat) : WCls:=fun D A x =>
 (∃ k,x=(if D j=true then W.alloc (.cells cs.toArray T) else if D i=true then W.alloc (.cells z.toArray T) else W).drewN k)∧(D i=true→A i=.pointer (some ⟨W.heap.size,0,none⟩))∧(D j=true→D i=true)
section
variable {P:Program} {ops:Array Oper} {act:List Nat} {W:World} {T:TypeId} {z cs:List Value} {i j:Nat}
theorem Zk (A:Nat→Value) : cNew W T z cs i j (fun _=>false) A W.drew:=⟨⟨1,rfl⟩,fun h=>by (cases h),fun h=>by (cases h)⟩
theorem ZDh (hi:act.contains i=true) (hj:act.contains j=true) : ∀ D A w k,act.contains k=false→cNew W T z cs i j D A w→cNew W T z cs i j (upD D k) A w:=fun D A w k hk h=>by
 unfold cNew at *
 rw[ZHQ hk hi,ZHQ hk hj]
 exact h
theorem ZDi (hi:act.contains i=true) (hd:dstOf ops i≠none) : ∀ D A A' w,(∀ k,act.contains k=true→D k=true→dstOf ops k≠none→A k=A' k)→cNew W T z cs i j D A w→cNew W T z cs i j D A' w:=fun D A A' w hA h=>by
 refine⟨h.1,fun hD=>?_,h.2.2⟩
 rw[← hA i hi hD hd]
 exact h.2.1 hD
theorem ZAy (x:XC (cNew W T z cs i j)) : Below W.heap.size W x.w:=by
 obtain⟨⟨D,A,w⟩,⟨⟨k,hk⟩,_⟩,_⟩:=x
 show Below W.heap.size W w
 have hk':w=(if D j=true then W.alloc (.cells cs.toArray T) else if D i=true then W.alloc (.cells z.toArray T) else W).drewN k:=hk
 clear hk
 subst hk'
 refine Below.trans ?_ (Below_drewN' _ _)
 split
 ·exact ZB _ _
 ·split
  ·exact ZB _ _
  ·exact Below.refl _ _
where
 Below_drewN' (w:World) (n:Nat) : Below W.heap.size w (w.drewN n):=⟨rfl,rfl,rfl,Nat.le_refl _,fun _ _=>rfl⟩
theorem ZAz {o:Oper} {a:Act} (ho:o.op=.alloc T) (zv:Value) (hc:zv.cells=z.toArray) (hz:∀ w,(zeroValue T).run P w=.ok zv w) {D:Nat→Bool} {A:Nat→Value} {x:World} (hij:i≠j) (hD:D i=false) (h:cNew W T z cs i j D A x) :
  actAtW P o a x (fun v w'=>cNew W T z cs i j (upD D i) (upV A i v) w'):=by
 obtain⟨⟨k,hk⟩,h2,h3⟩:=h
 have hj:D j=false:=by
  cases hq:D j with
  | false=>rfl
  | true=>rw[h3 hq] at hD;cases hD
 rw[hj,hD] at hk
 simp only[Bool.false_eq_true,if_false] at hk
 subst hk
 have key:∀ N:Value→World→Prop,N (.pointer (some ⟨W.heap.size,0,none⟩)) ((W.drewN k).alloc (.cells zv.cells T))→actAtW P o a (W.drewN k) N:=fun N hN=>by
  unfold actAtW execOp
  simp only[ho,Instr.alloc,Sem.run_bind,hz,Result.andThen_ok]
  go_simp
  exact hN
 refine key _ ⟨⟨k,?_⟩,fun _=>?_,fun hq=>?_⟩
 ·rw[ZBj _ (fun e=>hij e.symm),hj,ZBy,hc]
  rfl
 ·simp[upV]
 ·rw[ZBj _ (fun e=>hij e.symm),hj] at hq;cases hq
theorem ZAx {o:Oper} {a:Act} {x y:Operand} (ho:o.op=.store T x y) (hx:a.eval x=.pointer (some ⟨W.heap.size,0,none⟩)) (hy:a.eval y=.agg cs.toArray) (hi:(P.info? T).map (·.size)=some cs.length) (hl:z.length=cs.length) (h1:cs.all (·.oneCell')=true)
  {D:Nat→Bool} {A:Nat→Value} {w:World} (hij:i≠j) (hDi:D i=true) (hD:D j=false) (h:cNew W T z cs i j D A w) :
  actAtW P o a w (fun v w'=>cNew W T z cs i j (upD D j) (upV A j v) w'):=by
 obtain⟨⟨k,hk⟩,h2,h3⟩:=h
 rw[hD,hDi] at hk
 simp only[Bool.false_eq_true,if_false,if_true] at hk
 subst hk
 have hst:(storeVar T ⟨W.heap.size,0,none⟩ (.agg cs.toArray)).run P ((W.alloc (.cells z.toArray T)).drewN k)=.ok () ((W.alloc (.cells cs.toArray T)).drewN k):=by
  rw[run_storeVar_row ((W.alloc (.cells z.toArray T)).drewN k) W.heap.size T T z.toArray cs.toArray (heap_alloc_new W _) (by simpa using hi) (by simpa using hl) (by simpa using h1)]
  congr 1
  exact congrArg (fun q=>World.drewN q k) (World.setRow_alloc_new W z.toArray cs.toArray T)
 unfold actAtW execOp
 simp only[ho,hx,hy,Instr.storeAt,Instr.sureAddr,Sem.run_bind,Sem.run_pure,Result.andThen_ok,hst,actUpon]
 refine⟨⟨k,?_⟩,fun _=>?_,fun _=>?_⟩
 ·rw[ZBy];rfl
 ·simp only[upV,if_neg hij]
  exact h2 hDi
 ·exact ZEz hDi
theorem ZCA {D:Nat→Bool} {A:Nat→Value} {w:World} (hD:D j=true) (h:cNew W T z cs i j D A w) : ∃ k,w=(W.alloc (.cells cs.toArray T)).drewN k:=by
 obtain⟨⟨k,hk⟩,_⟩:=h
 rw[if_pos hD] at hk
 exact⟨k,hk⟩
end
section
variable {P:Program} {ops:Array Oper} {act:List Nat} {W:World} {vs:List (Nat × Value)}
end
end Go.Proofs.YtffgnjgphkdodaaDoor
