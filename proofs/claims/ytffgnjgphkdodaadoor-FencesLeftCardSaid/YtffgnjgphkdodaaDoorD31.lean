import Derived.Test.YtffgnjgphkdodaaDoorD30
import Derived.Test.YtffgnjgphkdodaaDoorD25
import Derived.Laws.StructEq
import Derived.BigQuiet
import Derived.Test.YtffgnjgphkdodaaDoorD24
import Derived.Test.YtffgnjgphkdodaaDoorD18
import Derived.Deep.CutRange
namespace Go.Proofs.YtffgnjgphkdodaaDoor
open Go Go.RowKit
def kvS (p:Int × Bool) : Value:=.agg #[.int .i64 p.1,.bool p.2]
def decS (v:Value) : Option (Int × Bool):=match v with | .agg ⟨[.int _ a,.bool b]⟩=>some (a,b) | _=>none
set_option maxHeartbeats 1000000 in
theorem ZJt (a:Int) (b:Bool) (c:Int) (d:Bool) (w:World) : (Op.equal 90 (.agg #[.int .i64 a,.bool b]) (.agg #[.int .i64 c,.bool d])).run Tryd.prog w=.ok (decide ((a,b)=(c,d))) w:=by
 have hS : Tryd.prog.underlying 90 = some (.struct (Tryd.prog.fieldsOf 90)):=by kernel_rfl
 have hp : Tryd.prog.stoodInHeld 90 = false:=by kernel_rfl
 unfold Op.equal Op.maxDepth
 rw[show(10000:Nat)=9999+1 from rfl,run_equalIn_agg w 9999 90 _ _ hS hp]
 simp only[Program.fieldsOf,Tryd.underlying90]
 by_cases h1:a=c
 ·subst h1
  have e1:(a == a)=true:=by simp
  by_cases h2:b=d
  ·subst h2
   have e2:(b == b)=true:=by simp
   go_simp
  ·have e2:(b == d)=false:=by simpa using h2
   go_simp
 ·have e1:(a == c)=false:=by simpa using h1
  go_simp
theorem ZDY (fs:Array Field) (k:Value) (e:MapEntry) (es:List MapEntry) (i:Nat) : Instr.findNow (.struct fs) k (e :: es) i=none:=by
 unfold Instr.findNow Instr.sameNow
 rfl
theorem ZGg : Tryd.prog.underlying 90 = some (.struct (Tryd.prog.fieldsOf 90)):=by kernel_rfl
theorem ZCk (p:Int × Bool) (w:World) : ∀ (es:List MapEntry) (i:Nat),(∀ e∈es,∃ k',e.key=kvS k')→(Instr.findAsking 90 (kvS p) es i).run Tryd.prog w=.ok (seek decS p es i) w
 | [],_,_=>rfl
 | e :: es,i,h=>by
  obtain⟨q,hq⟩:=h e (by simp)
  have ih:=ZCk p w es (i+1) (fun e he=>h e (by simp[he]))
  unfold Instr.findAsking seek
  rw[hq]
  have he:=ZJt p.1 p.2 q.1 q.2 w
  simp only[Sem.run_bind,kvS,he,Result.andThen_ok]
  by_cases e1:p=q
  ·subst e1
   simp[decS]
  ·have e2:¬ ((p.1,p.2)=(q.1,q.2)):=e1
   have e3:¬ (some (q.1,q.2)=some p):=fun h=>e1 (Option.some.inj h).symm
   simp only[e2,decide_false,decS,e3,if_false]
   exact ih
set_option maxRecDepth 100000 in
theorem ZHG (b:Bool) (x:Int) (y:Bool) (w:World) : (Instr.checkKey b 10000 90 (.agg #[.int .i64 x,.bool y])).run Tryd.prog w=.ok () w:=by
 rw[show(10000:Nat)=9998+1+1 from rfl]
 generalize 9998=n
 kernel_rfl
theorem Zs:KeyT Tryd.prog 90 kvS decS where
 dk:=fun _=>rfl
 find:=fun es k w hk=>by
  unfold Instr.findKey
  rw[Sem.run_bind,run_underlying ZGg,Result.andThen_ok]
  cases es with
  | nil=>rfl
  | cons e es =>
   rw[ZDY]
   exact ZCk k w (e :: es) 0 hk
 check:=fun b k w=>by
  obtain⟨x,y⟩:=k
  exact ZHG b x y w
 same:=fun k=>by simp[kvS,Instr.sameBits]
def farM (far:Nat→Option Nat) (k:Int × Bool) : Option Value:=if 0≤k.1 then (far (num k.1.toNat k.2)).map (fun d:Nat=>Value.int .i64 (d:Int)) else none
theorem ZCX (far:Nat→Option Nat) (i:Nat) (p:Bool) : farM far ((i:Int),p)=(far (num i p)).map (fun d:Nat=>Value.int .i64 (d:Int)):=by
 unfold farM
 rw[if_pos (by omega)]
 rfl
theorem ZI6 (far:Nat→Option Nat) (i:Nat) (p:Bool) (d:Nat) : (fun k=>if k=((i:Int),p) then some (.int .i64 (d:Int)) else farM far k)=farM (fun s=>if s=num i p then some d else far s):=by
 funext k
 obtain⟨a,b⟩:=k
 by_cases h:(a,b)=((i:Int),p)
 ·rw[if_pos h]
  injection h with h1 h2
  subst h1 h2
  rw[ZCX,if_pos rfl]
  rfl
 ·rw[if_neg h]
  unfold farM
  by_cases h0:0≤a
  ·have hne:num a.toNat b≠num i p:=fun e=>h (by
    obtain⟨h1,h2⟩:=ZAO e
    rw[h2,← h1,Int.toNat_of_nonneg h0])
   rw[if_pos h0,if_pos h0]
   show(far (num a.toNat b)).map _=(if num a.toNat b=num i p then some d else far (num a.toNat b)).map _
   rw[if_neg hne]
  ·rw[if_neg h0,if_neg h0]
theorem ZS {P:Program} {ops:Array Oper} {w:World} {κ:Type} [DecidableEq κ] {kv:κ→Value} {dec:Value→Option κ} {kt et t:TypeId} (K:KeyT P kt kv dec) (ht:P.underlying t=some (.map kt et)) {Q:Act→Prop} {a:Act} {o:Oper} {rest:List Oper} (hgd:Region.wanted o (yielded ops a.tmps)=true) (m x:Operand) (ok:Bool)
  (ho:o.op=.lookup t m x ok) (b:Nat) (F:κ→Option Value) (h:MapIs kv dec w b F) (k:κ) (hm:a.eval m=.map (some b)) (hx:a.eval x=kv k) (z:Value) (hz:∀ n,(zeroValue et).run P (w.drewN n)=.ok z (w.drewN n)) (v:Value)
  (hv:(if ok then .tuple #[(F k).getD z,.bool (F k).isSome] else (F k).getD z)=v) (hn:wpQuiet P ops (fun w'=>∃ n,w'=w.drewN n) Q rest (a.put o.dst v)) : wpQuiet P ops (fun w'=>∃ n,w'=w.drewN n) Q (o :: rest) a:=by
 refine wpQuiet_step fun K' hK'=>?_
 rw[if_pos hgd]
 refine⟨v,fun w' hw'=>?_,hK' _ hn⟩
 obtain⟨n,rfl⟩:=hw'
 have hr:=ZAr K ht (h.drewN n) k z (hz n) ok
 rw[hv] at hr
 unfold Oper.quietAt
 have he:(execOp a.eval o).run P (w.drewN n)=.ok (.value v) (w.drewN n):=by
  unfold execOp
  simp only[ho,hm,hx,Sem.run_bind,hr,Result.andThen_ok,Sem.run_pure]
 rw[he]
 exact⟨rfl,rfl⟩
theorem ZBh {w w':World} {M:Nat} {κ:Type} [DecidableEq κ] {kv:κ→Value} {dec:Value→Option κ} {F:κ→Option Value} (hm:MapIs kv dec w M F) (hg:w.grownBy w' (some M)) : (cmap w).le (cmap w'):=fun b o v hv=>by
 have hb:=World.block_lt_of_cell? w ⟨b,o,none⟩ hv
 have hne:b≠M:=fun e=>by
  subst e
  obtain⟨es,c,h,_⟩:=hm
  have:w.cell? ⟨b,o,none⟩=none:=by unfold World.cell?;simp[h]
  have hv:w.cell? ⟨b,o,none⟩=some v:=hv
  rw[this] at hv
  cases hv
 exact(World.cell?_of_block (hg.block b hb (fun e=>hne (by injection e)))).trans hv
noncomputable def clsU (u:Unit_) : List Cls:=(List.range u.shared.length).map fun x:Nat=>classF u (x:Int)
structure Tr (m:CM) (u:Unit_) (g:Graph) (Y M:Nat) (R:List Int) (nd:Int) : Prop where
 ex:∃ nb no nc cA cc oA oc,(m Y 0=some (.string g.name)∧m Y 1=some (.int .i64 g.locals)∧m Y 2=some (.int .i64 g.slots)∧m Y 3=some (.slice (some ⟨nb,no,none⟩) g.nodes.length nc)∧m Y 4=some (.slice cA u.shared.length cc)∧m Y 5=some (.slice oA R.length oc)∧m Y 6=some (.int .i64 nd)∧m Y 7=some (.map (some M))) ∧
  Nodes m (.slice (some ⟨nb,no,none⟩) g.nodes.length nc) g.nodes∧Clss m (.slice cA u.shared.length cc) (clsU u)∧Ints m (.slice oA R.length oc) R
theorem Tr.mono {m m':CM} {u:Unit_} {g:Graph} {Y M:Nat} {R:List Int} {nd:Int} (hm:m.le m') (h:Tr m u g Y M R nd) : Tr m' u g Y M R nd:=by
 obtain⟨nb,no,nc,cA,cc,oA,oc,⟨h0,h1,h2,h3,h4,h5,h6,h7⟩,k1,k2,k3⟩:=h.ex
 exact⟨nb,no,nc,cA,cc,oA,oc,⟨hm _ _ _ h0,hm _ _ _ h1,hm _ _ _ h2,hm _ _ _ h3,hm _ _ _ h4,hm _ _ _ h5,hm _ _ _ h6,hm _ _ _ h7⟩,k1.mono hm,k2.mono hm,k3.mono hm⟩
set_option maxRecDepth 100000 in
set_option maxHeartbeats 1000000 in
theorem ZDW (u:Unit_) (g:Graph) (Y M:Nat) (R:List Int) (nd:Int) (n:Node) (w:World) (hT:Tr (cmap w) u g Y M R nd) (h0:0≤n.thing) (h1:n.thing < u.shared.length) :
  Calls Tryd.prog 33 #[.pointer (some ⟨Y,0,none⟩),.agg n.cells.toArray] w fun e w'=>e=.returned (.bool (decide ((classF u n.thing).kind=3)))∧Below w.heap.size w w':=by
 obtain⟨nb,no,nc,cA,cc,oA,oc,⟨-,-,-,-,h4,-,-,-⟩,-,k2,-⟩:=hT.ex
 obtain⟨x,hx⟩:=Int.eq_ofNat_of_zero_le h0
 have hxl:x < u.shared.length:=by omega
 obtain⟨cb,co,rfl,hcc⟩:=k2.at_ (i:=x) (x:=classF u (x:Int)) (by simp[clsU,hxl])
 have hc0:=ZBJ (f:=fun c:Cls=>c.cells) hcc 0 (.int .u8 (classF u (x:Int)).kind) rfl
 rw[Nat.add_zero] at hc0
 have hb:=ZB w (.cells n.cells.toArray 61)
 have y1:(w.alloc (.cells n.cells.toArray 61)).cell? ⟨Y,4,none⟩=some (.slice (some ⟨cb,co,none⟩) u.shared.length cc):=ZA hb _ _ _ h4
 have y2:(w.alloc (.cells n.cells.toArray 61)).cell? ⟨cb,co+x * 3,none⟩=some (.int .u8 (classF u (x:Int)).kind):=ZA hb _ _ _ hc0
 have hD:=(ZDN (n:=n) (ZL w n.cells 61 w.heap.size rfl)).2.2.2.1
 rw[Nat.zero_add] at hD
 rw[hx] at hD ⊢
 obtain⟨kd,hkd⟩ : ∃ kd,(classF u (x:Int)).kind=kd:=⟨_,rfl⟩
 rw[hkd] at y2 ⊢
 have hde:decide (kd=3)=(kd == 3):=rfl
 rw[hde]
 have HB:=Hd_ hb
 have x0:(0:Int)≤(x:Nat):=by omega
 have xS:((x:Nat) : Int) < u.shared.length:=by omega
 obtain⟨S,hS⟩ : ∃ S,u.shared.length=S:=⟨_,rfl⟩
 rw[hS] at y1 xS
 have hth:n.thing=(x:Int):=hx
 clear hT h4 k2 hcc hc0 hb hkd hxl h0 h1 hS hx hde
 obtain⟨W0,hW0⟩ : ∃ W0:World,w.alloc (.cells n.cells.toArray 61)=W0:=⟨_,rfl⟩
 rw[hW0] at y1 y2 hD HB
 have HW0:=Hd_ hW0
 clear hW0
 unfold Node.cells at HW0 ⊢
 rw[hth] at HW0 ⊢
 clear hth
 go_enter Tryd.func33,Tryd.ntmps33
 go_wp2
 rw[HW0.out]
 clear HW0
 go_quiet (fail)
 go_wp2
 go_ret
 exact⟨rfl,below_drewN HB.out _⟩
set_option maxRecDepth 100000 in
set_option maxHeartbeats 1000000 in
theorem ZEm (n:Node) (w:World) :
  Calls Tryd.prog 60 #[.agg n.cells.toArray] w fun e w'=>e=.returned (.bool (drB n))∧Below w.heap.size w w':=by
 have hD:=(ZDN (n:=n) (ZL w n.cells 61 w.heap.size rfl)).1
 have HB:=Hd_ (ZB w (.cells n.cells.toArray 61))
 unfold drB
 unfold Node.cells at hD HB ⊢
 obtain⟨kd,hkd⟩ : ∃ kd,n.kind=kd:=⟨_,rfl⟩
 rw[hkd] at hD HB ⊢
 clear hkd
 by_cases h4:kd=4
 ·have hr:decide (kd=4∨kd=5∨kd=7)=true:=decide_eq_true (.inl h4)
  have d4:(kd == 4)=true:=by simp[h4]
  rw[hr]
  clear h4 hr
  go_enter Tryd.func60,Tryd.ntmps60
  go_wp2
  go_ret
  exact⟨rfl,HB.out⟩
 ·have d4:(kd == 4)=false:=by simp[h4]
  by_cases h5:kd=5
  ·have hr:decide (kd=4∨kd=5∨kd=7)=true:=decide_eq_true (.inr (.inl h5))
   have d5:(kd == 5)=true:=by simp[h5]
   rw[hr]
   clear h4 h5 hr
   go_enter Tryd.func60,Tryd.ntmps60
   go_wp2
   go_ret
   exact⟨rfl,HB.out⟩
  ·have d5:(kd == 5)=false:=by simp[h5]
   have hr:decide (kd=4∨kd=5∨kd=7)=(kd == 7):=by
    rw[show(kd == 7)=decide (kd=7) from rfl]
    exact decide_eq_decide.2 ⟨fun h=>by omega,fun h=>.inr (.inr h)⟩
   rw[hr]
   clear h4 h5 hr
   go_enter Tryd.func60,Tryd.ntmps60
   go_wp2
   go_ret
   exact⟨rfl,HB.out⟩
end Go.Proofs.YtffgnjgphkdodaaDoor
namespace Go.Proofs.YtffgnjgphkdodaaDoor
open Go Go.RowKit BigFrame
attribute [local go_sem] readAtW readUpon
def fzN:List Value:=[.int .u8 0,.int .u8 0,.int .i64 0,.int .i64 0,.bool false,.int .i64 0,.int .i64 0,.bool false,.int .i64 0,.int .i64 0,.int .i64 0,.int .i64 0,.int .i64 0]
theorem ZX {w w':World} (n:Nat) (h:Below w.heap.size w w') : Below w.heap.size w (w'.drewN n):=⟨h.os,h.tape,h.output,h.size,h.block⟩
theorem ZEH {D:List Int} {R:List Int} {nd:Int} {p:Bool} {x:Int} (k:Int) : ∀ (ks:List Int) (b:Int),bestS D R nd p x b (ks ++ [k])=if (k ∉ R∧D[nxt nd p k]? = some x)∧(bestS D R nd p x b ks < 0∨k < bestS D R nd p x b ks) then k else bestS D R nd p x b ks
 | [],b=>rfl
 | y :: ks,b=>by
  show bestS D R nd p x _ (ks ++ [k])=_
  rw[ZEH k ks]
  rfl
theorem ZIV {g:Graph} (hw:WholeG g) {D:List Int} {R:List Int} {nd:Int} {p:Bool} {x:Int} {n:Node} (hn:n∈g.nodes) {y:Int} (hy:y∈fol n) (hg:y ∉ R∧D[nxt nd p y]? = some x) : bestS D R nd p x (-1) (fol2 n)=bestS D R nd p x (-1) (fol n):=by
 have hb:∀ k∈fol n,0≤k:=fun k hk=>(hw.fol n hn k hk).1
 refine IsBest.inj (IsBest.congr (fun y=>ZAi n y) (ZEr (ks:=fol2 n) (fun k hk=>hb k ((ZAi n k).1 hk)) ((ZAi n y).2 hy) hg)) (ZEr hb hy hg)
def bestV (nd:Int) (p:Bool) (b:Int) : List Value:=[.int .i64 b,.bool (if b < 0 then false else p || decide (b=nd))]
theorem ZFO {far:Nat→Option Nat} {i:Nat} {p:Bool} (h:far (num i p)=none) : farM far ((i:Int),p)=none:=by rw[ZCX,h];rfl
theorem ZAN {far:Nat→Option Nat} {i d:Nat} {p:Bool} (h:far (num i p)=some d) : farM far ((i:Int),p)=some (.int .i64 (d:Nat)):=by rw[ZCX,h];rfl
open Classical in
theorem ZIU {D:List Int} {R:List Int} {nd:Int} {p q:Bool} {x:Int} {ks:List Int} {yn d:Nat} {b:Int} {far:Nat→Option Nat} (hb:b=bestS D R nd p (d:Int) (-1) ks) (hq:nxt nd p (yn:Int)=num yn q) (hf:(yn:Int) ∉ R→D[num yn q]? = some (match far (num yn q) with | some e=>(e:Int) | none=>-1)) {dd:Int} {isd:Bool}
  (h1:isd=true→∃ e:Nat,far (num yn q)=some e∧dd=e) (h2:isd=false→far (num yn q)=none) :
  bestS D R nd p (d:Int) (-1) (ks ++ [(yn:Int)])=if (isd && (decide (dd=(d:Int)) && (!decide ((yn:Int)∈R) && (decide (b < 0) || decide ((yn:Int) < b)))))=true then (yn:Int) else b:=by
 rw[ZEH,← hb,hq]
 have key:(((yn:Int) ∉ R∧D[num yn q]? = some (d:Int))∧(b < 0∨(yn:Int) < b)) ↔ (isd && (decide (dd=(d:Int)) && (!decide ((yn:Int)∈R) && (decide (b < 0) || decide ((yn:Int) < b)))))=true:=by
  by_cases hin:(yn:Int)∈R
  ·simp[hin]
  ·have h3:=hf hin
   cases isd with
   | false =>
    rw[h2 rfl] at h3
    rw[h3]
    simp only[Bool.false_and,Bool.false_eq_true,iff_false]
    rintro⟨⟨_,h⟩,_⟩
    injection h with h
    have h:(-1:Int)=d:=h
    omega
   | true =>
    obtain⟨e,h4,rfl⟩:=h1 rfl
    rw[h4] at h3
    rw[h3]
    simp[hin]
 by_cases hc:(isd && (decide (dd=(d:Int)) && (!decide ((yn:Int)∈R) && (decide (b < 0) || decide ((yn:Int) < b)))))=true
 ·rw[if_pos hc,if_pos (key.2 hc)]
 ·rw[if_neg hc,if_neg (fun h=>hc (key.1 h))]
set_option maxRecDepth 100000 in
set_option maxHeartbeats 4000000 in
theorem ZGv (u:Unit_) (g:Graph) (Y M:Nat) (R:List Int) (nd:Int) (far:Nat→Option Nat) (i d:Nat) (p:Bool) (n:Node) (w:World) (hrg:RightG u g) (hT:Tr (cmap w) u g Y M R nd) (hM:MapIs kvS decS w M (farM far))
  (hfin:∀ s,(∀ d,far s=some d→MinD (rcE g R nd) (rcT u g R) s d)∧(far s=none→∀ d,¬ DW (rcE g R nd) (rcT u g R) s d)) (hn:g.nodes[i]? = some n) (hr:ReachC g (-1) i) (hp:(i:Int) ∉ R∨p=false) (hx:(spD u g R nd)[num i p]? = some ((d:Int)+1)) (hd4:d≤8192) :
  Calls Tryd.prog 34 #[.pointer (some ⟨Y,0,none⟩),.agg #[.int .i64 (i:Nat),.bool p]] w fun e w'=>e=.returned (.agg #[.int .i64 (bestS (spD u g R nd) R nd p (d:Int) (-1) (fol n)),.bool (p || decide (bestS (spD u g R nd) R nd p (d:Int) (-1) (fol n)=nd))])∧Below w.heap.size w w':=by
 have hw:=hrg.whole
 have hmost:=hw.most
 have hil:=(List.getElem?_eq_some_iff.1 hn).1
 obtain⟨hdr,hbest,hmin⟩:=ZEP hw hn hx
 have hfi:far (num i p)=some (d+1):=by
  have h1:=ZB1 hfin hil hr hp
  rw[hx] at h1
  cases hq:far (num i p) with
  | none=>rw[hq] at h1;injection h1 with h1;simp only at h1;omega
  | some e=>rw[hq] at h1;injection h1 with h1;simp only at h1;congr 1;omega
 have hbf:=ZIV hw (List.mem_of_getElem? hn) hbest.1 hbest.2.1
 have hb0:=hw.fol n (List.mem_of_getElem? hn)
 have hk9:n.kind≠9:=fun h=>by
  have:=hbest.1
  unfold fol at this
  rw[if_pos h] at this
  cases this
 have HFOL:Hid (∀ y∈fol2 n,∃ yn:Nat,y=yn∧yn < g.nodes.length∧ReachC g (-1) yn):=Hd_ fun y hy=>by
  have hy':=(ZAi n y).1 hy
  have:=hb0 y hy'
  obtain⟨yn,rfl⟩:=Int.eq_ofNat_of_zero_le this.1
  exact⟨yn,rfl,by omega,.step hr (by omega) hn hy'⟩
 have HFI:=Hd_ hfi
 have HBF:=Hd_ (And.intro hbf (hb0 _ hbest.1))
 have HFP:Hid (∀ (yn:Nat) (q:Bool),yn < g.nodes.length→ReachC g (-1) yn→(yn:Int) ∉ R→(spD u g R nd)[num yn q]? = some (match far (num yn q) with | some d=>(d:Int) | none=>-1)):=Hd_ fun yn q h1 h2 h3=>ZB1 hfin h1 h2 (.inl h3)
 obtain⟨nb,no,nc,cA,cc,oA,oc,⟨-,-,-,h3,-,h5,h6,h7⟩,k1,-,k3⟩:=hT.ex
 obtain⟨nb',no',e,hnc⟩:=k1.at_ hn
 injection e with e
 injection e with e1 e2
 subst e1 e2
 obtain⟨N,hN⟩ : ∃ N,g.nodes.length=N:=⟨_,rfl⟩
 rw[hN] at h3 hil hmost HFOL HFP HBF
 have HNC:=Hd_ hnc
 have HK3:=Hd_ k3
 have HM:=Hd_ hM
 have HMW:=Hd_ hM.lt
 have HYC:=Hd_ (And.intro h3 (And.intro h5 (And.intro h6 h7)))
 obtain⟨bz,hbz⟩ : ∃ bz,bestS (spD u g R nd) R nd p (d:Int) (-1) (fol n)=bz:=⟨_,rfl⟩
 rw[hbz] at HBF ⊢
 obtain⟨DD,hDD⟩ : ∃ DD,spD u g R nd=DD:=⟨_,rfl⟩
 rw[hDD] at HBF HFP
 have i0:(0:Int)≤i:=by omega
 have iN:(i:Int) < N:=by omega
 clear hw hdr hbest hmin hfi hbf hb0 hx hr hp hn hfin hT hM k1 k3 h3 h5 h6 h7 hnc hN hbz hDD hrg
 go_enter Tryd.func34,Tryd.ntmps34
 go_wp2_with (refine ZO 90 rfl ?_)
 refine Stop.intro ?_
 obtain⟨W2,hW2⟩ : ∃ W2,(w.alloc (.cells #[.int .i64 (i:Nat),.bool p] 90)).alloc (.cells #[.int .i64 0,.bool false] 90)=W2:=⟨_,rfl⟩
 have hs2:W2.heap.size=w.heap.size+1+1:=by rw[← hW2];simp
 have hAB2:Blk W2 w.heap.size 90 [.int .i64 (i:Nat),.bool p]:=by rw[← hW2];exact(Blk.new w 90 [.int .i64 (i:Nat),.bool p]).alloc _
 have hRB2:Blk W2 (w.heap.size+1) 90 [.int .i64 0,.bool false]:=by rw[← hW2];exact Blk.of (ZP _ _ _ (by simp)) rfl
 have hb2:Below w.heap.size w W2:=by rw[← hW2];exact(ZB _ _).alloc (by simp) _
 rw[hW2,← hs2]
 clear hW2
 refine wpList_store_row rfl 90 _ _ rfl W2.heap.size #[.int .i64 (-1),.bool false] rfl rfl 90 _ (heap_alloc_new _ _) (by kernel_rfl) rfl (by simp[Value.oneCell']) ?_
 rw[World.setRow_alloc_new]
 have hBB:=Blk.new W2 90 [.int .i64 (-1),.bool false]
 have ha3:=ZB W2 (.cells #[.int .i64 (-1),.bool false] 90)
 obtain⟨W3,hW3⟩ : ∃ W3,W2.alloc (.cells #[.int .i64 (-1),.bool false] 90)=W3:=⟨_,rfl⟩
 rw[hW3] at hBB ha3 ⊢
 have hAB:=hAB2.below ha3 hAB2.lt
 have hRB:=hRB2.below ha3 hRB2.lt
 have hb3:=hb2.trans (ha3.mono hb2.size)
 obtain⟨BB,hBBe⟩ : ∃ BB,W2.heap.size=BB:=⟨_,rfl⟩
 rw[hBBe] at hBB hs2 ⊢
 have HA3:=Hd_ hAB
 have HR3:=Hd_ hRB
 have HBB3:=Hd_ hBB
 have HB3:=Hd_ hb3
 have HSB:=Hd_ hs2
 clear hAB2 hRB2 hb2 ha3 hW3 hAB hRB hBB hb3 hBBe hs2
 go_wp2_with (fail)
 simp only[Act.put]
 haveI hne:Nonempty (XC (cNew W3 61 fzN n.cells 9 10)):=XC.ne Zk
 have hB:∀ x:XC (cNew W3 61 fzN n.cells 9 10),Below W3.heap.size W3 x.w:=fun x=>ZAy x
 have f3:∀ x:XC (cNew W3 61 fzN n.cells 9 10),x.w.cell? ⟨Y,3,none⟩=some (.slice (some ⟨nb,no,none⟩) N nc):=fun x=>ZA (hB x) _ _ _ (ZA HB3.out _ _ _ HYC.out.1)
 have fA:∀ x:XC (cNew W3 61 fzN n.cells 9 10),x.w.cell? ⟨w.heap.size,0,none⟩=some (.int .i64 (i:Nat)):=fun x=>(HA3.out.below (hB x) HA3.out.lt).cell 0
 have F6:Hid (∀ x:XC (cNew W3 61 fzN n.cells 9 10),∀ j v,n.cells[j]? = some v→x.w.cell? ⟨nb,no+i * 13+j,none⟩=some v):=Hd_ fun x j v hj=>ZA (hB x) _ _ _ (ZA HB3.out _ _ _ (HNC.out j v hj))
 refine Z8 (cNew W3 61 fzN n.cells 9 10) [9,10] [0,1,2,3,4,5,6,7,8,9,10] (by kernel_rfl) (by kernel_rfl) (by kernel_rfl) Zk (ZDh rfl rfl) (ZDi rfl (by decide)) (ZBS (by rfl)) ?_
 repeat (refine ZAk rfl rfl (fun K hK=>?_);go_simp;refine hK _ ?_;clear hK K)
 refine ZAl (some 22) rfl rfl rfl rfl 61 _ rfl nb (no+i * 13) rfl n.cells _ F6.out Tryd.underlying61 rfl (by kernel_rfl) ?_
 refine ZAn (some 6) rfl rfl rfl rfl (fun D A x hD _ _ hC=>ZAz rfl (.agg fzN.toArray) rfl (fun _=>by kernel_rfl) (by decide) hD hC) (fun D A x hD hpre hC=>?_)
 rw[hC.2.1 hD]
 clear hpre hC hD x A D
 refine ZAm rfl rfl rfl rfl (fun D A x hD hp hpre hC=>ZAx (W:=W3) (z:=fzN) (cs:=n.cells) rfl rfl rfl (by kernel_rfl) rfl rfl (by decide) (hpre 9 (by simp)).1 hD hC) (fun D A x hD hpre hC=>?_)
 clear hpre hC hD x A D
 refine ZBL (fun D A x hD hAA hC=>?_)
 obtain⟨q2,rfl⟩:=ZCA (hD 10 (by decide)) hC
 clear hAA hC hD A D
 simp only[Act.put,List.setIfInBounds_toArray,List.set_cons_zero,List.set_cons_succ]
 clear f3 fA F6 hB hne
 have hcell:∀ j v,n.cells[j]? = some v→((W3.alloc (.cells n.cells.toArray 61)).drewN q2).cell? ⟨W3.heap.size,0+j,none⟩=some v:=ZL W3 n.cells 61 W3.heap.size rfl
 have ha4:Below W3.heap.size W3 ((W3.alloc (.cells n.cells.toArray 61)).drewN q2):=ZX q2 (ZB W3 _)
 obtain⟨W4,hW4⟩ : ∃ W4,(W3.alloc (.cells n.cells.toArray 61)).drewN q2=W4:=⟨_,rfl⟩
 have hs4:W4.heap.size=W3.heap.size+1:=by rw[← hW4];simp[World.drewN]
 rw[hW4] at hcell ha4 ⊢
 clear hW4
 have m0:W4.cell? ⟨W3.heap.size,0,none⟩=some (.int .u8 n.kind):=hcell 0 _ rfl
 have m10:W4.cell? ⟨W3.heap.size,10,none⟩=some (.int .i64 n.next):=hcell 10 _ rfl
 have m11:W4.cell? ⟨W3.heap.size,11,none⟩=some (.int .i64 n.els):=hcell 11 _ rfl
 have HA4:=Hd_ (HA3.out.below ha4 HA3.out.lt)
 have HR4:=Hd_ (HR3.out.below ha4 HR3.out.lt)
 have HBB4:=Hd_ (HBB3.out.below ha4 HBB3.out.lt)
 have HB4:=Hd_ (HB3.out.trans (ha4.mono HB3.out.size))
 obtain⟨NB,hNB⟩ : ∃ NB,W3.heap.size=NB:=⟨_,rfl⟩
 rw[hNB] at m0 m10 m11 ⊢
 clear hcell ha4 HA3 HR3 HBB3 HB3 hNB hs4
 obtain⟨len,hlen⟩ : ∃ len,(fol2 n).length=len:=⟨_,rfl⟩
 have hl2:len≤2:=by
  rw[← hlen]
  unfold fol2
  split
  ·simp
  ·split <;> simp
 have HLN:=Hd_ hlen
 have m0':(W4.alloc (.cells #[.int .i64 n.next] 3)).cell? ⟨NB,0,none⟩=some (.int .u8 n.kind):=ZA (ZB W4 _) _ _ _ m0
 have m11':(W4.alloc (.cells #[.int .i64 n.next] 3)).cell? ⟨NB,11,none⟩=some (.int .i64 n.els):=ZA (ZB W4 _) _ _ _ m11
 clear hlen
 have hbs:=HBB4.out.lt
 go_upto_if 28 with(fail)
 go_cut [7] from 26 to 33 (fun v7 wx=>∃ A c,v7=.slice A len c∧Hid (Ints (on wx (·≠BB)) v7 (fol2 n))∧Hid (Below W4.heap.size W4 wx))
 case first =>
  by_cases h8:n.kind=8
  ·have d8:(n.kind == 8)=true:=by simp[h8]
   have hf2:fol2 n=[n.next,n.els]:=by unfold fol2;rw[if_neg hk9,if_pos h8]
   have hln:len=2:=by rw[← HLN.out,hf2];rfl
   have HL2:=Hd_ (And.intro hf2 hln)
   clear h8 hf2 hln hk9
   go_wp2_with (refine ZN rfl ?_)
   refine Stop.intro ?_
   refine Zg Z2 rfl _ _ rfl W4.heap.size (.slice (some ⟨W4.heap.size,0,none⟩) 1 1) 1 [.int .i64 n.next] rfl ((ZA8 W4 #[.int .i64 n.next] W4.heap.size rfl (Nat.le_refl _) (by omega) rfl [.int .i64 n.next] rfl).alloc _) _ 0 1 [.int .i64 n.els] rfl rfl (Za _ _ _ _ (by simp)) (by simp[Value.oneCell']) (by omega) (by decide) (by simp;omega) ?_
   intro v7 w5 hown5 hgr5 hob5
   have hb5:Below W4.heap.size W4 w5:=(((Below.refl _ W4).alloc (Nat.le_refl _) _).alloc (by simp) _).grown hgr5 (by simp;omega) (fun b hb=>by
    have hb:some W4.heap.size=some b:=hb
    injection hb with hb
    omega)
   obtain⟨vA,vc,rfl,-⟩:=ZE hown5
   have hli:Ints (on w5 (·≠BB)) (.slice vA 2 vc) (fol2 n):=by
    rw[HL2.out.1]
    have h1:=ZA0 (f:=fun x:Int=>Value.int .i64 x) (R:=IntC) (l:=[n.next,n.els]) (fun _ _ _ _ h=>h) hown5 (Nat.le_refl _) (Nat.le_refl _)
    exact h1.mono (ZCL w5 fun b h2 _=>by show b≠BB;omega)
   have H5:=Hd_ (And.intro hli hb5)
   clear hown5 hgr5 hob5 hb5 hli m0 m10 m11 m0' m11'
   go_wp2
   go_meet
   exact⟨vA,vc,by rw[HL2.out.2],Hd_ H5.out.1,Hd_ H5.out.2⟩
  ·have d8:(n.kind == 8)=false:=by simp[h8]
   have hf2:fol2 n=[n.next]:=by unfold fol2;rw[if_neg hk9,if_neg h8]
   have hln:len=1:=by rw[← HLN.out,hf2];rfl
   have HL2:=Hd_ (And.intro hf2 hln)
   clear h8 hf2 hln hk9
   have hown5:=ZA8 (base:=W4.heap.size) (size:=1) (n:=1) (e:=3) W4 #[.int .i64 n.next] W4.heap.size rfl (Nat.le_refl _) (by omega) rfl [.int .i64 n.next] rfl
   have hli:Ints (on (W4.alloc (.cells #[.int .i64 n.next] 3)) (·≠BB)) (.slice (some ⟨W4.heap.size,0,none⟩) 1 1) (fol2 n):=by
    rw[HL2.out.1]
    have h1:=ZA0 (f:=fun x:Int=>Value.int .i64 x) (R:=IntC) (l:=[n.next]) (fun _ _ _ _ h=>h) hown5 (Nat.le_refl _) (Nat.le_refl _)
    exact h1.mono (ZCL _ fun b h2 _=>by show b≠BB;omega)
   have H5:=Hd_ hli
   clear hown5 hli m0 m10 m11 m0' m11'
   go_wp2_with (fail)
   go_meet
   exact⟨_,_,by rw[HL2.out.2],Hd_ H5.out,Hd_ (ZB _ _)⟩
 case rest =>
  obtain⟨vA,vc,rfl,HLI5,HB5⟩:=hcut
  have H5:=Hd_ (And.intro (HB4.out.trans (HB5.out.mono HB4.out.size)) (And.intro (HA4.out.below HB5.out HA4.out.lt) (And.intro (HR4.out.below HB5.out HR4.out.lt) (HBB4.out.below HB5.out HBB4.out.lt))))
  clear m0 m10 m11 m0' m11' hk9 hbs HA4 HR4 HBB4 HB4 HB5
  go_wp2_with (fail)
  go_loopw [36] (fun v36 wr=>∃ (z:Nat) (b:Int),v36=.int .i64 z∧z≤len∧Hid (b=bestS DD R nd p (d:Int) (-1) ((fol2 n).take z))∧Hid (Below w.heap.size w wr)∧Hid (Blk wr w.heap.size 90 [.int .i64 (i:Nat),.bool p])∧Hid (Blk wr (w.heap.size+1) 90 [.int .i64 0,.bool false])∧Hid (Blk wr BB 90 (bestV nd p b))∧Hid (Ints (on wr (·≠BB)) (.slice vA len vc) (fol2 n))) (fun v36 _=>len - (intOf v36).toNat)
  case atStart=>exact⟨0,-1,rfl,by omega,Hd_ rfl,Hd_ H5.out.1,Hd_ H5.out.2.1,Hd_ H5.out.2.2.1,Hd_ H5.out.2.2.2,HLI5⟩
  case round =>
   clear H5 HLI5
   obtain⟨z,b,rfl,hz,HBZ,HBW,HAB,HRB,HBB,HLI⟩:=hrel
   by_cases hzL:z < len
   ·obtain⟨y,hy⟩ : ∃ y,(fol2 n)[z]? = some y:=⟨_,List.getElem?_eq_getElem (by rw[HLN.out];exact hzL)⟩
    obtain⟨yn,rfl,hyN,hyr⟩:=HFOL.out y (List.mem_of_getElem? hy)
    obtain⟨tb,tof,e,htc⟩:=HLI.out.at_ hy
    subst e
    rw[Nat.mul_one] at htc
    have htc2:wr.cell? ⟨tb,tof+z,none⟩=some (.int .i64 (yn:Nat)):=(ZGu htc).1
    have htk:(fol2 n).take (z+1)=(fol2 n).take z ++ [(yn:Int)]:=by
     have h1:=HLN.out
     rw[List.take_succ_eq_append_getElem (by omega)]
     congr 2
     rw[List.getElem?_eq_getElem (by omega)] at hy
     injection hy
    have z0:(0:Int)≤z:=by omega
    have zL:(z:Int) < len:=by omega
    have y0:(0:Int)≤yn:=by omega
    have yN:(yn:Int) < N:=by omega
    have hyY:wr.cell? ⟨Y,6,none⟩=some (.int .i64 nd):=ZA HBW.out _ _ _ HYC.out.2.2.1
    have hA1:wr.cell? ⟨w.heap.size,1,none⟩=some (.bool p):=HAB.out.cell 1
    obtain⟨q,hq⟩ : ∃ q,(p || decide ((yn:Int)=nd))=q:=⟨_,rfl⟩
    have hqv:nxt nd p (yn:Int)=num yn q:=by unfold nxt;rw[Int.toNat_natCast,hq]
    have HBV:Hid (bestV nd p (yn:Int)=[.int .i64 (yn:Nat),.bool q]):=Hd_ (by unfold bestV;rw[if_neg (by omega),hq])
    obtain⟨dd,isd,hdd,hds,hdn⟩ : ∃ (dd:Int) (isd:Bool),(Value.tuple #[(farM far ((yn:Int),q)).getD (.int .i64 0),.bool (farM far ((yn:Int),q)).isSome]=.tuple #[.int .i64 dd,.bool isd])∧(isd=true→∃ d:Nat,far (num yn q)=some d∧dd=d)∧(isd=false→far (num yn q)=none):=by
     cases hf:far (num yn q) with
     | none=>exact⟨0,false,by rw[ZFO hf];rfl,fun h=>(by cases h),fun _=>rfl⟩
     | some d=>exact⟨d,true,by rw[ZAN hf];rfl,fun _=>⟨d,rfl,rfl⟩,fun h=>by cases h⟩
    have HST:=Hd_ (ZIU (x:=0) HBZ.out hqv (HFP.out yn q hyN hyr) hds hdn)
    rw[← htk] at HST
    have HQ:=Hd_ hq
    have HDD:=Hd_ hdd
    clear hy htc hyr htk hq hqv hdd hds hdn
    go_upto_region 9 with(fail)
    go_cut [10,36] from 36 to 94 (fun v10 v36 wx=>v10=.pointer (some ⟨wr.heap.size,0,none⟩)∧v36=.int .i64 (z:Nat)∧wx=wr.alloc (.cells #[.int .i64 (yn:Nat),.bool q] 90))
    case first =>
     cases p with
     | true =>
      have hs:q=true:=by rw[← HQ.out];rfl
      subst hs
      go_wp2_with (refine ZO 90 rfl ?_)
      refine Stop.intro ?_
      refine wpList_store_row rfl 90 _ _ rfl wr.heap.size #[.int .i64 (yn:Nat),.bool true] rfl rfl 90 _ (heap_alloc_new _ _) (by kernel_rfl) rfl (by simp[Value.oneCell']) ?_
      rw[World.setRow_alloc_new]
      go_wp2_with (fail)
      simp only[put_none]
      go_meet
      exact⟨rfl,rfl,rfl⟩
     | false =>
      have hs:q=((yn:Int) == nd):=by rw[← HQ.out];rfl
      subst hs
      go_wp2_with (refine ZO 90 rfl ?_)
      refine Stop.intro ?_
      refine wpList_store_row rfl 90 _ _ rfl wr.heap.size #[.int .i64 (yn:Nat),.bool ((yn:Int) == nd)] rfl rfl 90 _ (heap_alloc_new _ _) (by kernel_rfl) rfl (by simp[Value.oneCell']) ?_
      rw[World.setRow_alloc_new]
      go_wp2_with (fail)
      simp only[put_none]
      go_meet
      exact⟨rfl,rfl,rfl⟩
    case rest =>
     obtain⟨rfl,rfl,hW6⟩:=hcut
     have hsb:=Blk.new wr 90 [.int .i64 (yn:Nat),.bool q]
     have hb6:=ZB wr (.cells #[.int .i64 (yn:Nat),.bool q] 90)
     rw[← hW6] at hsb hb6
     obtain⟨SB,hSB⟩ : ∃ SB,wr.heap.size=SB:=⟨_,rfl⟩
     rw[hSB] at hsb ⊢
     obtain⟨W6,rfl⟩ : ∃ W6:World,W6=wc:=⟨_,rfl⟩
     have r0:W6.cell? ⟨SB,0,none⟩=some (.int .i64 (yn:Nat)):=hsb.cell 0
     have r1:W6.cell? ⟨SB,1,none⟩=some (.bool q):=hsb.cell 1
     have r7:W6.cell? ⟨Y,7,none⟩=some (.map (some M)):=ZA hb6 _ _ _ (ZA HBW.out _ _ _ HYC.out.2.2.2)
     have HM6:=Hd_ ((HM.out.below HBW.out HMW.out).below hb6 (HM.out.below HBW.out HMW.out).lt)
     have HB6:=Hd_ hb6
     have HS6:=Hd_ hsb
     clear hsb hb6 hW6 htc2 hyY hA1 hSB
     go_upto_region 10 with(fail)
     go_cut [11,12,36] from 36 to 94 (fun v11 v12 v36 wx=>v11=.int .i64 dd∧v12=.bool isd∧v36=.int .i64 (z:Nat)∧Below W6.heap.size W6 wx)
     case first =>
      refine wp_region_quiet_lit (by kernel_rfl) (by kernel_rfl) ?_
      repeat (go_big_quiet_step (fail))
      refine ZS Zs Tryd.underlying85 (by rfl) _ _ true rfl M (farM far) HM6.out ((yn:Int),q) rfl rfl (.int .i64 0) (fun _=>rfl) (.tuple #[.int .i64 dd,.bool isd]) HDD.out ?_
      simp only[Act.put,List.setIfInBounds_toArray,List.set_cons_zero,List.set_cons_succ]
      repeat (go_big_quiet_step (fail))
      refine wpQuiet_nil ?_
      intro _ hw'
      obtain⟨n2,hw2⟩:=hw'
      subst hw2
      go_wp2
      go_meet
      exact⟨rfl,rfl,rfl,ZF _ _⟩
     case rest =>
      obtain⟨rfl,rfl,rfl,hb7⟩:=hcut
      have h67:=HB6.out.trans (hb7.mono HB6.out.size)
      have hwr:=HBW.out.trans (h67.mono HBW.out.size)
      have HB7:=Hd_ (And.intro h67 hwr)
      have HS7:=Hd_ (HS6.out.below hb7 HS6.out.lt)
      have HM7:=Hd_ (HM6.out.below hb7 HM6.out.lt)
      have s2:wc.cell? ⟨w.heap.size,0,none⟩=some (.int .i64 (i:Nat)):=(HAB.out.below h67 HAB.out.lt).cell 0
      have s3:wc.cell? ⟨w.heap.size,1,none⟩=some (.bool p):=(HAB.out.below h67 HAB.out.lt).cell 1
      have s4:wc.cell? ⟨BB,0,none⟩=some (.int .i64 b):=(HBB.out.below h67 HBB.out.lt).cell 0
      have s5:wc.cell? ⟨Y,5,none⟩=some (.slice oA R.length oc):=ZA hwr _ _ _ HYC.out.2.1
      have s7:wc.cell? ⟨Y,7,none⟩=some (.map (some M)):=ZA hwr _ _ _ HYC.out.2.2.2
      clear hb7 h67 hwr r0 r1 r7
      obtain⟨W7,rfl⟩ : ∃ W7:World,W7=wc:=⟨_,rfl⟩
      have hct:∀ wx,(∃ k,wx=W7.drewN k)→Calls Tryd.prog 54 #[.slice oA R.length oc,.int .i64 (yn:Nat)] wx fun e w'=>e=.returned (.bool (decide ((yn:Int)∈R)))∧∃ k,w'=wx.drewN k:=fun wx h=>by
       obtain⟨k,rfl⟩:=h
       exact(ZAJ (.slice oA R.length oc) R (yn:Int) _ (HK3.out.mono (ZA (HB7.out.2.trans ((ZF W7 k).mono HB7.out.2.size))))).mono fun e w' h=>⟨h.1,0,h.2⟩
      have HCT:=Hd_ hct
      obtain⟨cb,hcb⟩ : ∃ cb,(isd && (decide (dd=(d:Int)) && (!decide ((yn:Int)∈R) && (decide (b < 0) || decide ((yn:Int) < b)))))=cb:=⟨_,rfl⟩
      rw[hcb] at HST
      clear hct
      go_upto_region 11 with(fail)
      go_cut [92,36] from 36 to 94 (fun v92 v36 wx=>v92=.bool cb∧v36=.int .i64 (z:Nat)∧Below W7.heap.size W7 wx)
      case first =>
       cases isd with
       | false =>
        have hs:cb=false:=by rw[← hcb];rfl
        subst hs
        clear hcb
        refine wp_region_quiet_lit (by kernel_rfl) (by kernel_rfl) ?_
        repeat (go_big_quiet_step (fail))
        refine wpQuiet_nil ?_
        intro _ hw'
        obtain⟨n2,hw2⟩:=hw'
        subst hw2
        go_wp2
        go_meet
        exact⟨rfl,rfl,ZF _ _⟩
       | true =>
        by_cases hde:dd=(d:Int)
        ·have dE:(dd == (d:Int))=true:=by simp[hde]
         have hs0:(!decide ((yn:Int)∈R) && (decide (b < 0) || decide ((yn:Int) < b)))=cb:=by rw[← hcb,decide_eq_true hde];rfl
         clear hcb hde
         by_cases hin:(yn:Int)∈R
         ·have hs:cb=false:=by rw[← hs0,decide_eq_true hin];rfl
          subst hs
          rw[decide_eq_true hin] at HCT
          clear hs0 hin
          refine wp_region_quiet_lit (by kernel_rfl) (by kernel_rfl) ?_
          repeat (go_big_quiet_step (fail))
          refine ZS Zs Tryd.underlying85 (by rfl) _ _ false rfl M (farM far) HM7.out ((i:Int),p) rfl rfl (.int .i64 0) (fun _=>rfl) (.int .i64 ((d:Int)+1)) (by rw[ZAN HFI.out];rfl) ?_
          simp only[Act.put,List.setIfInBounds_toArray,List.set_cons_zero,List.set_cons_succ]
          repeat (go_big_quiet_step (first | (go_at_call 54;refine Calls.quiet_of (HCT.out _ ⟨_,rfl⟩)) | fail))
          refine wpQuiet_nil ?_
          intro _ hw'
          obtain⟨n2,hw2⟩:=hw'
          subst hw2
          go_wp2
          go_meet
          exact⟨rfl,rfl,ZF _ _⟩
         ·rw[decide_eq_false hin] at HCT hs0
          clear hin
          by_cases hb0:b < 0
          ·have db:decide (b < 0)=true:=decide_eq_true hb0
           have hs:cb=true:=by rw[← hs0,db];rfl
           subst hs
           clear hs0 hb0
           refine wp_region_quiet_lit (by kernel_rfl) (by kernel_rfl) ?_
           repeat (go_big_quiet_step (fail))
           refine ZS Zs Tryd.underlying85 (by rfl) _ _ false rfl M (farM far) HM7.out ((i:Int),p) rfl rfl (.int .i64 0) (fun _=>rfl) (.int .i64 ((d:Int)+1)) (by rw[ZAN HFI.out];rfl) ?_
           simp only[Act.put,List.setIfInBounds_toArray,List.set_cons_zero,List.set_cons_succ]
           repeat (go_big_quiet_step (first | (go_at_call 54;refine Calls.quiet_of (HCT.out _ ⟨_,rfl⟩)) | fail))
           refine wpQuiet_nil ?_
           intro _ hw'
           obtain⟨n2,hw2⟩:=hw'
           subst hw2
           go_wp2
           go_meet
           exact⟨rfl,rfl,ZF _ _⟩
          ·have db:decide (b < 0)=false:=decide_eq_false hb0
           have hs:cb=decide ((yn:Int) < b):=by rw[← hs0,db];simp
           subst hs
           clear hs0 hb0
           refine wp_region_quiet_lit (by kernel_rfl) (by kernel_rfl) ?_
           repeat (go_big_quiet_step (fail))
           refine ZS Zs Tryd.underlying85 (by rfl) _ _ false rfl M (farM far) HM7.out ((i:Int),p) rfl rfl (.int .i64 0) (fun _=>rfl) (.int .i64 ((d:Int)+1)) (by rw[ZAN HFI.out];rfl) ?_
           simp only[Act.put,List.setIfInBounds_toArray,List.set_cons_zero,List.set_cons_succ]
           repeat (go_big_quiet_step (first | (go_at_call 54;refine Calls.quiet_of (HCT.out _ ⟨_,rfl⟩)) | fail))
           refine wpQuiet_nil ?_
           intro _ hw'
           obtain⟨n2,hw2⟩:=hw'
           subst hw2
           go_wp2
           go_meet
           exact⟨rfl,rfl,ZF _ _⟩
        ·have dE:(dd == (d:Int))=false:=by rw[beq_eq_false_iff_ne];exact hde
         have hs:cb=false:=by rw[← hcb,decide_eq_false hde];rfl
         subst hs
         clear hcb hde
         refine wp_region_quiet_lit (by kernel_rfl) (by kernel_rfl) ?_
         repeat (go_big_quiet_step (fail))
         refine ZS Zs Tryd.underlying85 (by rfl) _ _ false rfl M (farM far) HM7.out ((i:Int),p) rfl rfl (.int .i64 0) (fun _=>rfl) (.int .i64 ((d:Int)+1)) (by rw[ZAN HFI.out];rfl) ?_
         simp only[Act.put,List.setIfInBounds_toArray,List.set_cons_zero,List.set_cons_succ]
         repeat (go_big_quiet_step (first | (go_at_call 54;refine Calls.quiet_of (HCT.out _ ⟨_,rfl⟩)) | fail))
         refine wpQuiet_nil ?_
         intro _ hw'
         obtain⟨n2,hw2⟩:=hw'
         subst hw2
         go_wp2
         go_meet
         exact⟨rfl,rfl,ZF _ _⟩
      case rest =>
       obtain⟨rfl,rfl,hb8⟩:=hcut
       have h78:=HB7.out.1.trans (hb8.mono HB7.out.1.size)
       have H8:=Hd_ (And.intro (HBW.out.trans (h78.mono HBW.out.size)) (And.intro (HAB.out.below h78 HAB.out.lt) (And.intro (HRB.out.below h78 HRB.out.lt) (And.intro (HBB.out.below h78 HBB.out.lt) (HLI.out.mono (Zf (fun b _ hb=>h78.block b hb) fun _ h=>h))))))
       have HS8:=Hd_ (HS7.out.below hb8 HS7.out.lt)
       have t0:wc.cell? ⟨SB,0,none⟩=some (.int .i64 (yn:Nat)):=HS8.out.cell 0
       have t1:wc.cell? ⟨SB,1,none⟩=some (.bool q):=HS8.out.cell 1
       clear hb8 h78 s2 s3 s4 s5 s7 hcb HCT HB7 HS7 HM7
       obtain⟨W8,rfl⟩ : ∃ W8:World,W8=wc:=⟨_,rfl⟩
       cases cb with
       | true =>
        rw[if_pos rfl] at HST
        go_wp2_with (refine ZO 90 rfl ?_)
        refine Stop.intro ?_
        refine wpList_store_row rfl 90 _ _ rfl BB #[.int .i64 (yn:Nat),.bool q] rfl rfl 90 _ H8.out.2.2.2.1 (by kernel_rfl) rfl (by simp[Value.oneCell']) ?_
        have hbw:=HSB.out
        have hx8:=Blk.setRow (cs':=[.int .i64 (yn:Nat),.bool q]) H8.out.2.2.2.1
        have ha8:Blk (W8.setRow BB #[.int .i64 (yn:Nat),.bool q]) w.heap.size 90 [.int .i64 (i:Nat),.bool p]:=(Ze (w:=W8) (g:=BB) (b:=w.heap.size) (by omega) _).trans H8.out.2.1
        have hr8:Blk (W8.setRow BB #[.int .i64 (yn:Nat),.bool q]) (w.heap.size+1) 90 [.int .i64 0,.bool false]:=(Ze (w:=W8) (g:=BB) (b:=w.heap.size+1) (by omega) _).trans H8.out.2.2.1
        have hb8:=ZBU H8.out.1 (show w.heap.size≤BB by omega) #[.int .i64 (yn:Nat),.bool q]
        have hl8:Ints (on (W8.setRow BB #[.int .i64 (yn:Nat),.bool q]) (·≠BB)) (.slice (some ⟨tb,tof,none⟩) len vc) (fol2 n):=H8.out.2.2.2.2.mono (Zf (fun b hb _=>Ze (w:=W8) hb _) fun _ h=>h)
        have H9:=Hd_ (And.intro hb8 (And.intro ha8 (And.intro hr8 (And.intro hx8 hl8))))
        clear hb8 ha8 hr8 hx8 hl8 hbw
        go_wp2_with (fail)
        go_roundw
        case rel =>
         first
          | exact⟨z+1,(yn:Int),by go_num,by omega,Hd_ HST.out.symm,Hd_ H9.out.1,Hd_ H9.out.2.1,Hd_ H9.out.2.2.1,Hd_ (by rw[HBV.out];exact H9.out.2.2.2.1),Hd_ H9.out.2.2.2.2⟩
          | ((repeat apply Exists.intro);exact⟨⟨z+1,(yn:Int),by go_num,by omega,Hd_ HST.out.symm,Hd_ H9.out.1,Hd_ H9.out.2.1,Hd_ H9.out.2.2.1,Hd_ (by rw[HBV.out];exact H9.out.2.2.2.1),Hd_ H9.out.2.2.2.2⟩,rfl⟩)
        case measure=>simp[intOf];omega
       | false =>
        rw[if_neg (by simp)] at HST
        go_wp2_with (fail)
        go_roundw
        case rel =>
         first
          | exact⟨z+1,b,by go_num,by omega,Hd_ HST.out.symm,Hd_ H8.out.1,Hd_ H8.out.2.1,Hd_ H8.out.2.2.1,Hd_ H8.out.2.2.2.1,Hd_ H8.out.2.2.2.2⟩
          | ((repeat apply Exists.intro);exact⟨⟨z+1,b,by go_num,by omega,Hd_ HST.out.symm,Hd_ H8.out.1,Hd_ H8.out.2.1,Hd_ H8.out.2.2.1,Hd_ H8.out.2.2.2.1,Hd_ H8.out.2.2.2.2⟩,rfl⟩)
        case measure=>simp[intOf];omega
   ·obtain rfl:z=len:=by omega
    have hbz:b=bz:=by
     rw[HBZ.out,List.take_of_length_le (by rw[HLN.out];exact Nat.le_refl _)]
     exact HBF.out.1
    have HBE:=Hd_ hbz
    clear hbz
    have hbv:bestV nd p b=[.int .i64 bz,.bool (p || decide (bz=nd))]:=by
     rw[HBE.out]
     unfold bestV
     rw[if_neg (by have:=HBF.out.2;omega)]
    obtain⟨bq,hbq⟩ : ∃ bq,(p || decide (bz=nd))=bq:=⟨_,rfl⟩
    rw[hbq] at hbv
    have HBQ:=Hd_ hbq
    have hB:=HBB.out
    rw[hbv] at hB
    have b0:wr.cell? ⟨BB,0,none⟩=some (.int .i64 bz):=hB.cell 0
    have b1:wr.cell? ⟨BB,1,none⟩=some (.bool bq):=hB.cell 1
    clear hbv hbq hB
    go_wp2_with (refine ZO 90 rfl ?_)
    refine Stop.intro ?_
    refine wpList_store_row rfl 90 _ _ rfl (w.heap.size+1) #[.int .i64 bz,.bool bq] rfl rfl 90 _ HRB.out (by kernel_rfl) rfl (by simp[Value.oneCell']) ?_
    have hbw:=HSB.out
    have hx:Blk (wr.setRow (w.heap.size+1) #[.int .i64 bz,.bool bq]) (w.heap.size+1) 90 [.int .i64 bz,.bool bq]:=Blk.setRow (cs':=[.int .i64 bz,.bool bq]) HRB.out
    have hb:Below w.heap.size w (wr.setRow (w.heap.size+1) #[.int .i64 bz,.bool bq]):=ZBU HBW.out (by omega) _
    obtain⟨W9,hW9⟩ : ∃ W9,wr.setRow (w.heap.size+1) #[.int .i64 bz,.bool bq]=W9:=⟨_,rfl⟩
    rw[hW9] at hx hb ⊢
    have HB9:=Hd_ hb
    have HX9:=Hd_ hx
    clear hx hb hW9 b0 b1 hbw
    go_wp2
    refine bodyPost_ret (v:=.agg #[.int .i64 bz,.bool bq]) ?_ rfl ⟨by rw[← HBQ.out],HB9.out⟩
    exact results_cell_row Tryd.results34 _ _ (w.heap.size+1) 90 #[.int .i64 bz,.bool bq] _ _ rfl HX9.out Tryd.underlying90 rfl (by kernel_rfl)
end Go.Proofs.YtffgnjgphkdodaaDoor
