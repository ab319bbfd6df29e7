import Derived.Test.YtffgnjgphkdodaaDoorD31
import Derived.Test.YtffgnjgphkdodaaDoorD17
import Derived.Test.YtffgnjgphkdodaaDoorD10
import Derived.Test.YtffgnjgphkdodaaDoorD24
import Derived.Deep.CutRange
namespace Go.Proofs.YtffgnjgphkdodaaDoor
open Go Go.RowKit BigFrame
theorem ZGC:SlT Tryd.prog 129 90 2 16 (.agg #[.int .i64 0,.bool false]):=SlT.mk' Tryd.underlying129 (by kernel_rfl) rfl (by omega)
def spV (s:Nat) : List Value:=[.int .i64 ((s / 2:Nat) : Int),.bool (decide (s % 2=1))]
def spsV (L:List Nat) : List Value:=L.flatMap spV
theorem ZEO (i:Nat) (p:Bool) : spV (num i p)=[.int .i64 (i:Int),.bool p]:=by
 unfold spV num
 cases p
 ·simp
 ·have e1:(2 * i+1) / 2=i:=by omega
  have e2:(2 * i+1) % 2=1:=by omega
  simp[e1,e2]
theorem ZHW (L:List Nat) (s:Nat) : spsV (L ++ [s])=spsV L ++ spV s:=by simp[spsV]
theorem ZFd:∀ (L:List Nat) (k:Nat) (s:Nat),L[k]? = some s→∀ j v,(spV s)[j]? = some v→(spsV L)[k * 2+j]? = some v
 | [],_,_,h,_,_,_=>by simp at h
 | x :: L,0,s,h,j,v,hv=>by
  simp at h
  subst h
  have hj:=(List.getElem?_eq_some_iff.1 hv).1
  show(spV x ++ spsV L)[0 * 2+j]? = _
  rw[List.getElem?_append,if_pos (by omega),Nat.zero_mul,Nat.zero_add]
  exact hv
 | x :: L,k+1,s,h,j,v,hv=>by
  show(spV x ++ spsV L)[(k+1) * 2+j]? = _
  rw[List.getElem?_append,if_neg (by simp[spV];omega)]
  have e:(k+1) * 2+j - (spV x).length=k * 2+j:=by simp[spV];omega
  rw[e]
  exact ZFd L k s (by simpa using h) j v hv
noncomputable def tgtK (u:Unit_) (g:Graph) (R:List Int) (k:Nat) : List Nat:=((List.range k).filter fun i=>(mkAt u g [] i).load && decide ((i:Int) ∉ R)).map fun i=>num i true
theorem ZE0 (u:Unit_) (g:Graph) (R:List Int) (k:Nat) : tgtK u g R (k+1)=tgtK u g R k ++ if ((mkAt u g [] k).load && decide ((k:Int) ∉ R))=true then [num k true] else []:=by
 unfold tgtK
 rw[List.range_succ,List.filter_append,List.map_append]
 congr 1
 by_cases h:((mkAt u g [] k).load && decide ((k:Int) ∉ R))=true
 ·simp only[List.filter_cons,h,if_true,List.filter_nil,List.map_cons,List.map_nil]
 ·simp only[List.filter_cons,h,List.filter_nil,List.map_nil,Bool.false_eq_true,if_false]
theorem ZF9 (u:Unit_) (g:Graph) (R:List Int) (k:Nat) : (tgtK u g R k).length≤k:=by
 unfold tgtK
 rw[List.length_map]
 refine Nat.le_trans (List.length_filter_le _ _) ?_
 simp
theorem ZEM {u:Unit_} {g:Graph} {R:List Int} {k s:Nat} : s∈tgtK u g R k ↔ ∃ i:Nat,s=num i true∧i < k∧(mkAt u g [] i).load=true∧(i:Int) ∉ R:=by
 unfold tgtK
 simp only[List.mem_map,List.mem_filter,List.mem_range,Bool.and_eq_true,decide_eq_true_eq]
 constructor
 ·rintro⟨i,⟨h1,h2,h3⟩,rfl⟩;exact⟨i,rfl,h1,h2,h3⟩
 ·rintro⟨i,rfl,h1,h2,h3⟩;exact⟨i,⟨h1,h2,h3⟩,rfl⟩
theorem ZHT (u:Unit_) (g:Graph) (R:List Int) : ∀ k,NdI (tgtK u g R k)
 | 0=>fun i j x hi=>by simp[tgtK] at hi
 | k+1=>fun i j x hi hj=>by
  have ih:=ZHT u g R k
  rw[ZE0] at hi hj
  split at hi
  ·rename_i c
   rw[if_pos c] at hj
   have hn:num k true ∉ tgtK u g R k:=fun h=>by
    obtain⟨i,h1,h2,_⟩:=ZEM.1 h
    have:=(ZAO h1).1
    omega
   rw[List.getElem?_append] at hi hj
   split at hi <;> split at hj
   ·exact ih i j x hi hj
   ·rename_i c1 c2
    have h0:j - (tgtK u g R k).length=0:=by have:=(List.getElem?_eq_some_iff.1 hj).1;simp at this;omega
    rw[h0] at hj
    injection hj with hj
    exact absurd (hj ▸ List.mem_of_getElem? hi) hn
   ·rename_i c1 c2
    have h0:i - (tgtK u g R k).length=0:=by have:=(List.getElem?_eq_some_iff.1 hi).1;simp at this;omega
    rw[h0] at hi
    injection hi with hi
    exact absurd (hi ▸ List.mem_of_getElem? hj) hn
   ·have h0:i - (tgtK u g R k).length=0:=by have:=(List.getElem?_eq_some_iff.1 hi).1;simp at this;omega
    have h1:j - (tgtK u g R k).length=0:=by have:=(List.getElem?_eq_some_iff.1 hj).1;simp at this;omega
    omega
  ·rename_i c
   rw[if_neg c] at hj
   rw[List.append_nil] at hi hj
   exact ih i j x hi hj
open Classical in
noncomputable def far0 (L:List Nat) (s:Nat) : Option Nat:=if s∈L then some 0 else none
theorem ZID (L:List Nat) (s:Nat) : (fun x=>if x=s then some 0 else far0 L x)=far0 (L ++ [s]):=by
 funext x
 unfold far0
 by_cases h:x=s
 ·rw[if_pos h,if_pos (by simp[h])]
 ·rw[if_neg h]
  by_cases h2:x∈L
  ·rw[if_pos h2,if_pos (by simp[h2])]
  ·rw[if_neg h2,if_neg (by simp[h2,h])]
structure MsR (w1:World) (M:Nat) (far:Nat→Option Nat) (L:List Nat) (v:Value) (wr:World) : Prop where
 own:wr.ownsRow w1.heap.size 90 2 v L.length (spsV L)
 map:MapIs kvS decS wr M (farM far)
 gr:w1.grownBy wr (some M)
theorem MsR.below {w1 wr wx:World} {M:Nat} {far:Nat→Option Nat} {L:List Nat} {v:Value} (h:MsR w1 M far L v wr) (hb:Below wr.heap.size wr wx) : MsR w1 M far L v wx :=
 ⟨ZT h.own hb,h.map.below hb h.map.lt,ZAI h.gr hb⟩
theorem MsR.drew {w1 wr:World} {M:Nat} {far:Nat→Option Nat} {L:List Nat} {v:Value} (h:MsR w1 M far L v wr) (n:Nat) : MsR w1 M far L v (wr.drewN n):=h.below (ZF wr n)
theorem MsR.put {w1 wr wx:World} {M i d:Nat} {p:Bool} {far:Nat→Option Nat} {L:List Nat} {v:Value} (h:MsR w1 M far L v wr) (hm:MapIs kvS decS wx M (fun k=>if k=((i:Int),p) then some (.int .i64 (d:Int)) else farM far k)) (hg:wr.grownBy wx (some M)) (hM:M < w1.heap.size) :
  MsR w1 M (fun s=>if s=num i p then some d else far s) L v wx:=by
 rw[ZI6] at hm
 refine⟨h.own.kept hg ?_,hm,gbT h.gr hg⟩
 cases hv:v.ownBlock with
 | none=>exact .inl rfl
 | some b =>
  refine .inr fun e=>?_
  injection e with e
  have:=(h.own.lt b hv).1
  omega
theorem MsR.push {w1 wr wx:World} {M s:Nat} {far:Nat→Option Nat} {L:List Nat} {v v':Value} (h:MsR w1 M far L v wr) (ho:wx.ownsRow w1.heap.size 90 2 v' (L.length+1) (spsV L ++ spV s)) (hg:wr.grownBy wx v.ownBlock) (hM:M < w1.heap.size) : MsR w1 M far (L ++ [s]) v' wx:=by
 have hne:∀ b,v.ownBlock=some b→b≠M:=fun b hv e=>by have:=(h.own.lt b hv).1;omega
 refine⟨by rw[ZHW];simpa using ho,h.map.grown hg fun e=>hne M e.symm rfl,⟨hg.os.trans h.gr.os,hg.tape.trans h.gr.tape,hg.output.trans h.gr.output,Nat.le_trans h.gr.size hg.size,fun b hb hn=>(hg.block b (Nat.lt_of_lt_of_le hb h.gr.size) fun e=>?_).trans (h.gr.block b hb hn)⟩⟩
 have:=(h.own.lt b e.symm).1
 omega
theorem ZF6 {w:World} {X M:Nat} {t:TypeId} {cs:List Value} {κ:Type} [DecidableEq κ] {kv:κ→Value} {dec:Value→Option κ} {F:κ→Option Value} (h:Blk w X t cs) (hm:MapIs kv dec w M F) : some X≠some M:=fun e=>by
 injection e with e
 subst e
 obtain⟨es,c,h2,_⟩:=hm
 unfold Blk at h
 rw[h] at h2
 cases h2
theorem ZDq {P:Program} {ops:Array Oper} {w:World} {κ:Type} [DecidableEq κ] {kv:κ→Value} {dec:Value→Option κ} {kt et t:TypeId} (K:KeyT P kt kv dec) (ht:P.underlying t=some (.map kt et)) {Q:Act→Prop} {a:Act} {o:Oper} {rest:List Oper} (hgd:o.guard=none) (m x:Operand) (ok:Bool)
  (ho:o.op=.lookup t m x ok) (b:Nat) (F:κ→Option Value) (h:MapIs kv dec w b F) (k:κ) (hm:a.eval m=.map (some b)) (hx:a.eval x=kv k) (z:Value) (hz:(zeroValue et).run P w=.ok z w) (v:Value)
  (hv:(if ok then .tuple #[(F k).getD z,.bool (F k).isSome] else (F k).getD z)=v) (hn:wpStill P ops w Q rest (a.put o.dst v)) : wpStill P ops w Q (o :: rest) a:=by
 refine wpStill_step fun K' hK'=>?_
 rw[if_pos (by simp[Region.wanted,hgd])]
 have hr:=ZAr K ht h k z hz ok
 rw[hv] at hr
 unfold Oper.still
 have he:(execOp a.eval o).run P w=.ok (.value v) w:=by
  unfold execOp
  simp only[ho,hm,hx,Sem.run_bind,hr,Result.andThen_ok,Sem.run_pure]
 rw[he,Oper.stillUpon_value]
 exact hK' _ hn
def exq (row:List Int) (q s:Nat) : Prop:=∃ (i:Nat) (p:Bool),s=num i p∧(i:Int)∈row.drop q
theorem ZJA {row:List Int} {q s i:Nat} (h:row[q]? = some (i:Int)) (hs:exq row q s) : exq row (q+1) s∨∃ p,s=num i p:=by
 obtain⟨j,p,rfl,hj⟩:=hs
 obtain⟨hlt,he⟩:=List.getElem?_eq_some_iff.1 h
 rw[List.drop_eq_getElem_cons hlt,he] at hj
 rcases List.mem_cons.1 hj with hj | hj
 ·obtain rfl:j=i:=by omega
  exact .inr ⟨p,rfl⟩
 ·exact .inl ⟨j,p,rfl,hj⟩
structure MsC (m:CM) (u:Unit_) (g:Graph) (Y M:Nat) (R:List Int) (nd:Int) (rv:Value) (rl:List Bool) : Prop where
 tr:Tr m u g Y M R nd
 re:Bools m rv rl
theorem MsC.mono {m m':CM} {u:Unit_} {g:Graph} {Y M:Nat} {R:List Int} {nd:Int} {rv:Value} {rl:List Bool} (hm:m.le m') (h:MsC m u g Y M R nd rv rl) : MsC m' u g Y M R nd rv rl:=⟨h.tr.mono hm,h.re.mono hm⟩
set_option maxRecDepth 100000 in
set_option maxHeartbeats 4000000 in
theorem ZEd (u:Unit_) (g:Graph) (Y M:Nat) (R:List Int) (nd:Int) (rv:Value) (rl:List Bool) (w:World) (hrg:RightG u g) (hC:MsC (cmap w) u g Y M R nd rv rl) (hM:MapIs kvS decS w M (farM fun _=>none)) (hrl:rl.length=g.nodes.length) (hrr:∀ i,rl[i]? = some true ↔ ReachC g (-1) i) :
  Calls Tryd.prog 32 #[.pointer (some ⟨Y,0,none⟩),rv] w fun e w'=>e=.returned (.tuple #[])∧w.grownBy w' (some M)∧∃ far,MapIs kvS decS w' M (farM far) ∧
   ∀ s,(∀ d,far s=some d→MinD (rcE g R nd) (rcT u g R) s d)∧(far s=none→∀ d,¬ DW (rcE g R nd) (rcT u g R) s d):=by
 have hw:=hrg.whole
 have hpos:=hw.pos
 have hmost:=hw.most
 have hMw:=hM.lt
 have HRG:=Hd_ hrg
 have HRR:=Hd_ hrr
 have hah:=ZBF g [.string g.name,.int .i64 g.locals,.int .i64 g.slots,.slice none 0 0]
 obtain⟨nb,no,nc,cA,cc,oA,oc,⟨h0,h1,h2,h3,h4,h5,h6,h7⟩,k1,k2,k3⟩:=id hC.tr.ex
 obtain⟨rA,rc,rfl,-⟩:=id hC.re
 have HAH:=Hd_ (ZBF g [.string g.name,.int .i64 g.locals,.int .i64 g.slots,.slice (some ⟨nb,no,none⟩) g.nodes.length nc] w hw ⟨_,rfl,k1⟩)
 obtain⟨N,HN⟩ : ∃ N,Hid (g.nodes.length=N):=⟨_,rfl⟩
 rw[hrl] at hC ⊢
 have hrl2:=hrl
 rw[HN.out] at hC hpos hmost h3 HAH hrl2 ⊢
 have HC:=Hd_ hC
 have HRL:=Hd_ hrl2
 have HMP:=Hd_ hM
 have c0:w.cell? ⟨Y,0,none⟩=_:=h0
 have c1:w.cell? ⟨Y,1,none⟩=_:=h1
 have c2:w.cell? ⟨Y,2,none⟩=_:=h2
 have c3:w.cell? ⟨Y,3,none⟩=_:=h3
 have HH:=Hd_ (And.intro h0 (And.intro h1 (And.intro h2 (And.intro h3 (And.intro h4 (And.intro h5 (And.intro h6 h7)))))))
 have HK1:=Hd_ k1
 have HK2:=Hd_ k2
 have HK3:=Hd_ k3
 clear hah h0 h1 h2 h3 h4 h5 h6 h7 k1 k2 k3 hC hrg hrr hw hM hrl hrl2
 go_enter Tryd.func32,Tryd.ntmps32
 go_wp2_with (first
  | (go_at_call 59
     refine(HAH.out).mono ?_
     rintro e w1 ⟨av,rfl,ha,hb1⟩
     obtain⟨aA,an,ac,rfl,-⟩ : ∃ A n c,av=.slice A n c∧True:=by obtain⟨A,c,rfl,_⟩:=ha;exact⟨_,_,_,rfl,trivial⟩
     have HA:=Hd_ (And.intro ha hb1)
     have y3:=ZA hb1 _ _ _ HH.out.2.2.2.1
     have y3':w1.cell? ⟨Y,3,none⟩=some (.slice (some ⟨nb,no,none⟩) N nc):=y3
     clear ha hb1 y3))
 have HMW:Hid (M < w1.heap.size):=Hd_ (Nat.lt_of_lt_of_le hMw HA.out.2.size)
 have HC1:=Hd_ (HC.out.mono (ZA HA.out.2))
 have HM1:=Hd_ (HMP.out.below HA.out.2 hMw)
 have HCM:Hid (∀ wr,w1.grownBy wr (some M)→(cmap w1).le (cmap wr)):=Hd_ fun wr hg=>ZBh HM1.out hg
 clear c0 c1 c2 c3 y3'
 go_loopw [5,28] (fun v5 v28 wr=>∃ k:Nat,v28=.int .i64 k∧k≤N∧Hid (MsR w1 M (far0 (tgtK u g R k)) (tgtK u g R k) v5 wr)) (fun _ v28 _=>N - (intOf v28).toNat)
 case atStart=>exact⟨0,rfl,Nat.zero_le _,Hd_ ⟨World.ownsRow_nil _ _ _ _,by
  have:=HM1.out
  have e:(fun _:Nat=>(none:Option Nat))=far0 (tgtK u g R 0):=by
   funext x
   unfold far0
   rw[if_neg (by simp[tgtK])]
  rw[e] at this
  exact this,World.grownBy.refl _ _⟩⟩
 case round =>
  obtain⟨k,rfl,hk,HS⟩:=hrel
  obtain⟨vA,vc,rfl,-⟩:=ZE HS.out.own
  by_cases hlt:k < N
  ·obtain⟨n,hn⟩ : ∃ n,g.nodes[k]? = some n:=⟨g.nodes[k]'(by rw[HN.out];exact hlt),List.getElem?_eq_getElem _⟩
   have HND:=Hd_ hn
   have hcm:=HCM.out wr HS.out.gr
   have hTr:=HC1.out.tr.mono hcm
   obtain⟨nb',no',e,hnc⟩:=HK1.out.at_ hn
   injection e with e
   injection e with e1 e2
   subst e1 e2
   have hcw:(cmap w).le (cmap wr):=(ZA HA.out.2).trans hcm
   have hld:∀ j v,n.cells[j]? = some v→wr.cell? ⟨nb,no+k * 13+j,none⟩=some v:=fun j v h=>hcw _ _ _ (hnc j v h)
   have HLD:=Hd_ hld
   obtain⟨b,hb⟩ : ∃ b,rl[k]? = some b:=⟨_,List.getElem?_eq_getElem (by rw[HRL.out];exact hlt)⟩
   obtain⟨rb,ro,rfl,hrc⟩:=HC.out.re.at_ hb
   rw[Nat.mul_one] at hrc
   have hbr:b=true ↔ ReachC g (-1) k:=by rw[← HRR.out k,hb];simp
   have hmk:=ZBp (u:=u) (F:=[]) hn hbr
   have HMK:=Hd_ hmk
   have hrc2:wr.cell? ⟨rb,ro+k,none⟩=some (.bool b):=hcw _ _ _ hrc
   have k0:(0:Int)≤k:=by omega
   have kN:(k:Int) < N:=by omega
   have k4:(k:Int)≤4096:=by omega
   have HSU:=Hd_ (ZE0 u g R k)
   have HTL:=Hd_ (ZF9 u g R k)
   have HTR:=Hd_ hTr
   have HCW:=Hd_ hcw
   have HRC:=Hd_ hrc2
   have HTHN:Hid (n.kind=2→0≤n.thing∧n.thing < u.shared.length):=Hd_ fun h=>ZFP (HRG.out.nodes n (List.mem_of_getElem? hn)) (.inl h)
   clear hn hcm hTr hnc hcw hld hb hrc hbr hmk hrc2
   unfold Node.cells at HLD
   go_wp2_with (first
    | (refine ZC rfl 61 _ rfl nb (no+k * 13) rfl _ _ HLD.out Tryd.underlying61 rfl (by kernel_rfl) ?_)
    | (refine ZO 61 rfl ?_))
   refine Stop.intro ?_
   refine wpList_store_row rfl 61 _ _ rfl wr.heap.size #[.int .u8 n.kind,.int .u8 n.op,.int .i64 n.slot,.int .i64 n.thing,.bool n.a.isSlot,.int .i64 n.a.slot,.int .i64 n.a.word,.bool n.b.isSlot,.int .i64 n.b.slot,.int .i64 n.b.word,.int .i64 n.next,.int .i64 n.els,.int .i64 n.origin] rfl rfl 61 _ (heap_alloc_new _ _) (by kernel_rfl) rfl (by simp[Value.oneCell']) ?_
   rw[World.setRow_alloc_new]
   have hnb:=Blk.new wr 61 [.int .u8 n.kind,.int .u8 n.op,.int .i64 n.slot,.int .i64 n.thing,.bool n.a.isSlot,.int .i64 n.a.slot,.int .i64 n.a.word,.bool n.b.isSlot,.int .i64 n.b.slot,.int .i64 n.b.word,.int .i64 n.next,.int .i64 n.els,.int .i64 n.origin]
   have ha2:=ZB wr (.cells #[.int .u8 n.kind,.int .u8 n.op,.int .i64 n.slot,.int .i64 n.thing,.bool n.a.isSlot,.int .i64 n.a.slot,.int .i64 n.a.word,.bool n.b.isSlot,.int .i64 n.b.slot,.int .i64 n.b.word,.int .i64 n.next,.int .i64 n.els,.int .i64 n.origin] 61)
   obtain⟨X,hX⟩ : ∃ X,wr.heap.size=X:=⟨_,rfl⟩
   obtain⟨w2,hw2⟩ : ∃ w2,wr.alloc (.cells #[.int .u8 n.kind,.int .u8 n.op,.int .i64 n.slot,.int .i64 n.thing,.bool n.a.isSlot,.int .i64 n.a.slot,.int .i64 n.a.word,.bool n.b.isSlot,.int .i64 n.b.slot,.int .i64 n.b.word,.int .i64 n.next,.int .i64 n.els,.int .i64 n.origin] 61)=w2:=⟨_,rfl⟩
   have hs2:=HS.out.below ha2
   rw[hw2] at hnb ha2 hs2 ⊢
   rw[hX] at hnb ⊢
   have HXB:=Hd_ hnb
   have x0:=hnb.cell 0
   have HXL:Hid (∀ w3,Below w2.heap.size w2 w3→∀ j v,([.int .u8 n.kind,.int .u8 n.op,.int .i64 n.slot,.int .i64 n.thing,.bool n.a.isSlot,.int .i64 n.a.slot,.int .i64 n.a.word,.bool n.b.isSlot,.int .i64 n.b.slot,.int .i64 n.b.word,.int .i64 n.next,.int .i64 n.els,.int .i64 n.origin] : List Value)[j]? = some v→w3.cell? ⟨X,0+j,none⟩=some v):=Hd_ fun w3 hb j v hj=>by
    rw[Nat.zero_add,(HXB.out.below hb HXB.out.lt).cell];exact hj
   have HS2:=Hd_ hs2
   have HB2:=Hd_ ha2
   have HTR2:=Hd_ (HTR.out.mono (ZA ha2))
   have r2:w2.cell? ⟨rb,ro+k,none⟩=some (.bool b):=ZA ha2 _ _ _ HRC.out
   clear hnb ha2 hw2 hX hs2
   have x0':w2.cell? ⟨X,0,none⟩=some (.int .u8 n.kind):=x0
   clear x0
   cases b with
   | false =>
    have hno:tgtK u g R (k+1)=tgtK u g R k:=by rw[HSU.out,HMK.out,if_neg (by simp),List.append_nil]
    have HNO:=Hd_ hno
    clear hno
    go_wp2
    go_roundw
    case rel=>exact⟨k+1,by go_num,by omega,Hd_ (by rw[HNO.out];exact HS2.out)⟩
    case measure=>simp[intOf];omega
   | true =>
    by_cases hkd:n.kind=2
    ·have dk:(n.kind == 2)=true:=by simp[hkd]
     have hth:=HTHN.out hkd
     have HRA:=Hd_ (ZDW u g Y M R nd n w2 HTR2.out hth.1 hth.2)
     have y5:w2.cell? ⟨Y,5,none⟩=some (.slice oA R.length oc):=ZA HB2.out _ _ _ (HCW.out _ _ _ HH.out.2.2.2.2.2.1)
     unfold Node.cells at HRA
     obtain⟨p0,p1,p2,p3,p4,p5,p6,p7,p8,p9,p10,p11,p12⟩:=ZDN (n:=n) (w:=w2) (b:=X) (o:=0) (by unfold Node.cells;exact HXL.out w2 (Below.refl _ _))
     simp only[Nat.zero_add] at p0 p1 p2 p3 p4 p5 p6 p7 p8 p9 p10 p11 p12
     have HKD:=Hd_ hkd
     clear hkd hth
     by_cases hcl:(classF u n.thing).kind=3
     ·rw[decide_eq_true hcl] at HRA
      have hldb:ldB u n=true:=decide_eq_true ⟨HKD.out,hcl⟩
      have HLB:=Hd_ hldb
      clear hcl hldb
      have hct:=fun w3 (h:Below w2.heap.size w2 w3)=>ZAJ (.slice oA R.length oc) R (k:Int) w3 ((HK3.out.mono HCW.out).mono (ZA (HB2.out.trans (h.mono HB2.out.size))))
      have HCT:=Hd_ hct
      clear hct
      by_cases hin:(k:Int)∈R
      ·rw[decide_eq_true hin] at HCT
       have hno:tgtK u g R (k+1)=tgtK u g R k:=by rw[HSU.out,if_neg (by simp[hin]),List.append_nil]
       have HNO:=Hd_ hno
       clear hno hin
       go_wp2_with (first
        | (go_at_call 33
           refine(HRA.out).mono ?_
           rintro e w4 ⟨rfl,hb4⟩
           have HB4:=Hd_ hb4
           have y54:w4.cell? ⟨Y,5,none⟩=some (.slice oA R.length oc):=ZA hb4 _ _ _ y5
           clear hb4)
        | (go_at_call 54
           refine(HCT.out _ HB4.out).mono ?_
           rintro e w5 ⟨rfl,rfl⟩))
       go_roundw
       case rel=>exact⟨k+1,by go_num,by omega,Hd_ (by rw[HNO.out];exact HS2.out.below HB4.out)⟩
       case measure=>simp[intOf];omega
      ·rw[decide_eq_false hin] at HCT
       have hyes:tgtK u g R (k+1)=tgtK u g R k ++ [num k true]:=by rw[HSU.out,HMK.out,HLB.out,if_pos (by simp[hin])]
       have HYES:=Hd_ hyes
       clear hyes hin
       go_wp2_with (first
        | (go_at_call 33
           refine(HRA.out).mono ?_
           rintro e w4 ⟨rfl,hb4⟩
           have HB4:=Hd_ hb4
           have y54:w4.cell? ⟨Y,5,none⟩=some (.slice oA R.length oc):=ZA hb4 _ _ _ y5
           clear hb4)
        | (go_at_call 54
           refine(HCT.out _ HB4.out).mono ?_
           rintro e w5 ⟨rfl,rfl⟩)
        | (refine ZO 90 rfl ?_))
       refine Stop.intro ?_
       refine wpList_store_row rfl 90 _ _ rfl w5.heap.size #[.int .i64 (k:Nat),.bool true] rfl rfl 90 _ (heap_alloc_new _ _) (by kernel_rfl) rfl (by simp[Value.oneCell']) ?_
       rw[World.setRow_alloc_new]
       have hsb:=Blk.new w5 90 [.int .i64 (k:Nat),.bool true]
       have hb6:=ZB w5 (.cells #[.int .i64 (k:Nat),.bool true] 90)
       obtain⟨SB,hSB⟩ : ∃ SB,w5.heap.size=SB:=⟨_,rfl⟩
       obtain⟨w6,hw6⟩ : ∃ w6,w5.alloc (.cells #[.int .i64 (k:Nat),.bool true] 90)=w6:=⟨_,rfl⟩
       have hs6:=(HS2.out.below HB4.out).below hb6
       rw[hw6] at hsb hb6 hs6 ⊢
       rw[hSB] at hsb ⊢
       have s0:w6.cell? ⟨SB,0,none⟩=some (.int .i64 (k:Nat)):=hsb.cell 0
       have s1:w6.cell? ⟨SB,1,none⟩=some (.bool true):=hsb.cell 1
       have y7:w6.cell? ⟨Y,7,none⟩=some (.map (some M)):=ZA (HB2.out.trans ((HB4.out.trans (hb6.mono HB4.out.size)).mono HB2.out.size)) _ _ _ (HCW.out _ _ _ HH.out.2.2.2.2.2.2.2)
       have HS6:=Hd_ hs6
       have HSB:=Hd_ hsb
       clear hsb hb6 hw6 hSB hs6 y5 p0 p1 p2 p3 p4 p5 p6 p7 p8 p9 p10 p11 p12 x0' r2
       go_wp2_with (fail)
       go_still_tail 5,(by kernel_rfl)
       change wpList _ _ _ _ _ (World.drew w6)
       refine Zu Zs Tryd.underlying85 rfl _ _ _ (.inl rfl) M (farM (far0 (tgtK u g R k))) (HS6.out.map.drew) ((k:Int),true) (.int .i64 0) rfl rfl rfl ?_
       intro w7 hm7 hg7
       have s07:w7.cell? ⟨SB,0,none⟩=some (.int .i64 (k:Nat)):=ZBh (HS6.out.map.drew) hg7 _ _ _ s0
       have s17:w7.cell? ⟨SB,1,none⟩=some (.bool true):=ZBh (HS6.out.map.drew) hg7 _ _ _ s1
       have hs7:=(HS6.out.drew 1).put (i:=k) (p:=true) (d:=0) hm7 hg7 HMW.out
       have e0:(fun s=>if s=num k true then some 0 else far0 (tgtK u g R k) s)=far0 (tgtK u g R k ++ [num k true]):=ZID _ _
       rw[e0] at hs7
       have HS7:=Hd_ hs7
       clear hm7 hg7 hs7 e0 s0 s1 y7
       go_wp2_with (refine ZN rfl ?_)
       refine Stop.intro ?_
       have hss:=HS7.out.gr.size
       have htl:=HTL.out
       refine Zg ZGC rfl _ _ rfl w1.heap.size (.slice vA (tgtK u g R k).length vc) (tgtK u g R k).length (spsV (tgtK u g R k)) rfl (HS7.out.own.alloc _) w7.heap.size 0 1 [.int .i64 (k:Nat),.bool true] rfl rfl (ZL w7 [.int .i64 (k:Nat),.bool true] _ _ rfl) (by simp[Value.oneCell']) (by omega) (by decide) (by simp;omega) ?_
       intro v' w8 hown8 hgr8 hob8
       have hs8:=(HS7.out.below (ZB w7 (.cells #[.int .i64 (k:Nat),.bool true] 90))).push (s:=num k true) (by rw[ZEO];exact hown8) hgr8 HMW.out
       have HS8:=Hd_ hs8
       clear hs8 hown8 hgr8 hob8 s07 s17 hss htl
       go_wp2
       go_roundw
       case rel=>exact⟨k+1,by go_num,by omega,Hd_ (by rw[HYES.out];exact HS8.out)⟩
       case measure=>simp[intOf];omega
     ·rw[decide_eq_false hcl] at HRA
      have hldb:ldB u n=false:=decide_eq_false fun h=>hcl h.2
      have hno:tgtK u g R (k+1)=tgtK u g R k:=by rw[HSU.out,HMK.out,hldb,if_neg (by simp),List.append_nil]
      have HNO:=Hd_ hno
      clear hno hcl hldb
      go_wp2_with (first
       | (go_at_call 33
          refine(HRA.out).mono ?_
          rintro e w4 ⟨rfl,hb4⟩
          have HB4:=Hd_ hb4
          clear hb4))
      go_roundw
      case rel=>exact⟨k+1,by go_num,by omega,Hd_ (by rw[HNO.out];exact HS2.out.below HB4.out)⟩
      case measure=>simp[intOf];omega
    ·have dk:(n.kind == 2)=false:=by simp[hkd]
     have hldb:ldB u n=false:=decide_eq_false fun h=>hkd h.1
     have hno:tgtK u g R (k+1)=tgtK u g R k:=by rw[HSU.out,HMK.out,hldb,if_neg (by simp),List.append_nil]
     have HNO:=Hd_ hno
     clear hno hkd hldb
     go_wp2
     go_roundw
     case rel=>exact⟨k+1,by go_num,by omega,Hd_ (by rw[HNO.out];exact HS2.out)⟩
     case measure=>simp[intOf];omega
  ·obtain rfl:N=k:=by omega
   have HQ0:Hid (BQ (2 * N) (rcE g R nd) (rcT u g R) (far0 (tgtK u g R N)) (tgtK u g R N) 0 0 (fun _=>False)):=Hd_ (BQ.start (fun s=>by
    rw[ZEM]
    constructor
    ·rintro⟨i,h1,h2,h3,h4⟩;exact⟨i,h1,h3,h4⟩
    ·rintro⟨i,h1,h3,h4⟩
     obtain⟨_,n,hn,_⟩:=ZAY.1 h3
     have:=(List.getElem?_eq_some_iff.1 hn).1
     exact⟨i,h1,by have:=HN.out;omega,h3,h4⟩) (ZHT u g R N) (fun s hs=>by
    obtain⟨i,rfl,h2,_⟩:=ZEM.1 hs
    exact ZBm h2 true) (fun s=>by unfold far0;rfl))
   have HL0:=Hd_ (ZF9 u g R N)
   go_wp2
   go_loopw [5,9] (fun v5 v9 wr=>∃ (k:Nat) (far:Nat→Option Nat) (L:List Nat),v9=.int .i64 k∧k≤L.length∧L.length≤2 * N∧Hid (MsR w1 M far L v5 wr)∧Hid (BQ (2 * N) (rcE g R nd) (rcT u g R) far L k k (fun _=>False))) (fun _ v9 _=>2 * N - (intOf v9).toNat)
   case atStart=>exact⟨0,_,_,rfl,Nat.zero_le _,by have:=HL0.out;omega,HS,HQ0⟩
   case round =>
    clear HL0 HQ0 HS
    obtain⟨k,far,L,rfl,hk,hL2,HS,HQ⟩:=hrel
    obtain⟨uA,uc,rfl,-⟩:=ZE HS.out.own
    by_cases hkL:k < L.length
    ·obtain⟨a,ha⟩ : ∃ a,L[k]? = some a:=⟨_,List.getElem?_eq_getElem hkL⟩
     obtain⟨i,p,hip⟩ : ∃ i p,num i p=a:=⟨_,_,ZHl a⟩
     subst hip
     obtain⟨d,hd⟩:=(HQ.out.mem _).1 (List.mem_of_getElem? ha)
     have haN:=HQ.out.lt _ (List.mem_of_getElem? ha)
     have hiN:i < N:=by unfold num at haN;split at haN <;> omega
     have hdk:=HQ.out.small k _ d ha hd
     obtain⟨rb',rcap,e,-,hrb,-,hcell⟩:=ZW HS.out.own (by omega)
     injection e with e1 e2 e3
     subst e1 e3
     have q0:wr.cell? ⟨rb',k * 2,none⟩=some (.int .i64 (i:Nat)):=(hcell (k * 2) (by omega)).trans (by have:=ZFd L k _ ha 0 (.int .i64 (i:Nat)) (by rw[ZEO];rfl);simpa using this)
     have q1:wr.cell? ⟨rb',k * 2+1,none⟩=some (.bool p):=(hcell (k * 2+1) (by omega)).trans (ZFd L k _ ha 1 (.bool p) (by rw[ZEO];rfl))
     have k0:(0:Int)≤k:=by omega
     have kL:(k:Int) < L.length:=by omega
     have k4:(k:Int)≤8192:=by omega
     have HA2:=Hd_ (And.intro ha (And.intro hd (And.intro hdk (And.intro hrb hiN))))
     clear ha hd haN hdk hcell e2 hrb
     go_wp2_with (first
      | (refine ZO 90 rfl ?_))
     refine Stop.intro ?_
     refine wpList_store_row rfl 90 _ _ rfl wr.heap.size #[.int .i64 (i:Nat),.bool p] rfl rfl 90 _ (heap_alloc_new _ _) (by kernel_rfl) rfl (by simp[Value.oneCell']) ?_
     rw[World.setRow_alloc_new]
     have hxb:=Blk.new wr 90 [.int .i64 (i:Nat),.bool p]
     have hb2:=ZB wr (.cells #[.int .i64 (i:Nat),.bool p] 90)
     obtain⟨X,hX⟩ : ∃ X,wr.heap.size=X:=⟨_,rfl⟩
     obtain⟨w2,hw2⟩ : ∃ w2,wr.alloc (.cells #[.int .i64 (i:Nat),.bool p] 90)=w2:=⟨_,rfl⟩
     have hs2:=HS.out.below hb2
     have hcw:=(ZA HA.out.2).trans ((HCM.out wr HS.out.gr).trans (ZA hb2))
     have hcm:=(HCM.out wr HS.out.gr).trans (ZA hb2)
     rw[hw2] at hxb hb2 hs2 hcw hcm ⊢
     rw[hX] at hxb ⊢
     have x0:w2.cell? ⟨X,0,none⟩=some (.int .i64 (i:Nat)):=hxb.cell 0
     have x1:w2.cell? ⟨X,1,none⟩=some (.bool p):=hxb.cell 1
     have y5:w2.cell? ⟨Y,5,none⟩=some (.slice oA R.length oc):=hcw _ _ _ HH.out.2.2.2.2.2.1
     have HXB:=Hd_ (And.intro hxb (show(Value.slice (some ⟨rb',0,none⟩) L.length uc).ownBlock≠some X from fun e=>by
      have e:some rb'=some X:=e
      injection e with e
      have:=HA2.out.2.2.2.1
      omega))
     have HS2:=Hd_ hs2
     have hct:=fun w3 (h:∃ n,w3=w2.drewN n)=>(ZAJ (.slice oA R.length oc) R (i:Int) w3 (by obtain⟨n,rfl⟩:=h;exact HK3.out.mono hcw)).mono fun e w' h=>(⟨h.1,0,h.2⟩ : e=.returned (.bool (decide ((i:Int)∈R)))∧∃ n,w'=w3.drewN n)
     obtain⟨ab,ao,hae,rvv,hac,hri⟩:=HA.out.1.at_ (i:=i) (x:=predK g g.nodes.length i) (by rw[HN.out];simp[hiN])
     subst hae
     rw[Nat.mul_one] at hac
     obtain⟨pA,pc,rfl,-⟩:=id hri
     have hac2:w2.cell? ⟨ab,ao+i,none⟩=some (.slice pA (predK g g.nodes.length i).length pc):=hcm _ _ _ (Zl hac).1
     have HRI:=Hd_ (hri.mono (ZV _ _ _))
     have hpm:=ZAo g i g.nodes.length
     have hpl:=Z3 g i g.nodes.length
     have han:N=an:=by have:=HA.out.1.len.1;simpa [HN.out] using this.symm
     subst han
     obtain⟨row,hrow⟩ : ∃ row,predK g g.nodes.length i=row:=⟨_,rfl⟩
     rw[hrow] at hac2 HRI hpm hpl
     have HPM:=Hd_ hpm
     have hpl2:row.length≤4096:=by have:=HN.out;omega
     have i0:(0:Int)≤i:=by omega
     have iN:(i:Int) < N:=by omega
     have HB2:=Hd_ hb2
     clear hxb hb2 hw2 hs2 hcw hcm hac hri hpm hpl hrow q0 q1 hX
     by_cases hin:(i:Int)∈R
     ·rw[decide_eq_true hin] at hct
      have HCT:=Hd_ hct
      have HIN:=Hd_ hin
      clear hct hin
      go_wp2_with (fail)
      go_quiet (first | (go_at_call 54;refine Calls.quiet_of (HCT.out _ ⟨_,rfl⟩)))
      go_wp2_with (fail)
      go_roundw
      case rel=>exact⟨k+1,far,L,by go_num,hkL,hL2,Hd_ (HS2.out.drew _),Hd_ ((HQ.out.open_ HA2.out.1 (fun s he=>by
       obtain⟨_,_,j,n,_,h2,_,_,_,h6⟩:=he.1
       obtain⟨h2,_⟩:=ZAO h2
       rw[h2] at HIN
       exact h6 HIN.out)).close)⟩
      case measure=>simp[intOf];omega
     ·rw[decide_eq_false hin] at hct
      have HCT:=Hd_ hct
      have HIN:=Hd_ hin
      clear hct hin
      go_wp2_with (fail)
      go_quiet (first | (go_at_call 54;refine Calls.quiet_of (HCT.out _ ⟨_,rfl⟩)))
      go_wp2_with (fail)
      have HQ2:Hid (BQ (2 * N) (rcE g R nd) (rcT u g R) far L k (k+1) (exq row 0)):=Hd_ (HQ.out.open_ HA2.out.1 (fun s he=>by
       obtain⟨⟨i',p',j,n,h1,h2,h3,h4,h5,h6⟩,_⟩:=he
       obtain⟨h2,_⟩:=ZAO h2
       subst h2
       exact⟨i',p',h1,(HPM.out _).2 ⟨i',n,rfl,(List.getElem?_eq_some_iff.1 h3).1,h3,h5⟩⟩))
      obtain⟨wq,hwq⟩ : ∃ wq,w2.drewN 1=wq:=⟨_,rfl⟩
      clear hwq
      go_loopw [5,91] (fun v5 v91 wr=>∃ (q:Nat) (far:Nat→Option Nat) (L:List Nat),v91=.int .i64 q∧q≤row.length∧L.length≤2 * N∧Hid (L[k]? = some (num i p)∧far (num i p)=some d)∧Hid (MsR w1 M far L v5 wr)∧Hid (BQ (2 * N) (rcE g R nd) (rcT u g R) far L k (k+1) (exq row q))∧Hid (Blk wr X 90 [.int .i64 (i:Nat),.bool p]∧v5.ownBlock≠some X)) (fun _ v91 _=>row.length - (intOf v91).toNat)
      case atStart=>exact⟨0,far,L,rfl,Nat.zero_le _,hL2,Hd_ ⟨HA2.out.1,HA2.out.2.1⟩,Hd_ (HS2.out.drew _),HQ2,HXB⟩
      case round =>
       clear HXB HS2 HQ2 HCT HS HQ
       have HKL:=Hd_ (And.intro hk hL2)
       clear hk hL2 x0 x1 y5 hac2 hkL kL HA2
       obtain⟨q,far,L,rfl,hq,hL2,HLK,HS,HQ,HX⟩:=hrel
       obtain⟨uA,uc,rfl,-⟩:=ZE HS.out.own
       by_cases hqL:q < row.length
       ·obtain⟨x,hx⟩ : ∃ x,row[q]? = some x:=⟨_,List.getElem?_eq_getElem hqL⟩
        obtain⟨ip,n,rfl,hipN,hn,hfl⟩:=(HPM.out x).1 (List.mem_of_getElem? hx)
        rw[HN.out] at hipN
        obtain⟨pb,po,rfl,hpc⟩:=HRI.out.at_ hx
        rw[Nat.mul_one] at hpc
        have hcm:=HCM.out wr HS.out.gr
        have hcw:=(ZA HA.out.2).trans hcm
        have pc2:wr.cell? ⟨pb,po+q,none⟩=some (.int .i64 (ip:Nat)):=hcm _ _ _ hpc
        obtain⟨b,hb⟩ : ∃ b,rl[ip]? = some b:=⟨_,List.getElem?_eq_getElem (by rw[HRL.out];exact hipN)⟩
        obtain⟨rb,ro,rfl,hrc⟩:=HC.out.re.at_ hb
        rw[Nat.mul_one] at hrc
        have hbr:b=true ↔ ReachC g (-1) ip:=by rw[← HRR.out ip,hb];simp
        have rc2:wr.cell? ⟨rb,ro+ip,none⟩=some (.bool b):=hcw _ _ _ hrc
        have q0:(0:Int)≤q:=by omega
        have qL:(q:Int) < row.length:=by omega
        have q4:(q:Int)≤4096:=by omega
        have ip0:(0:Int)≤ip:=by omega
        have ipN:(ip:Int) < N:=by omega
        have HSX:=Hd_ (fun s=>ZJA (s:=s) hx)
        have HIP:=Hd_ (And.intro hbr (And.intro hn hfl))
        obtain⟨nb',no',e,hnc⟩:=HK1.out.at_ hn
        injection e with e
        injection e with e1 e2
        subst e1 e2
        have hnw:∀ j v,n.cells[j]? = some v→wr.cell? ⟨nb,no+ip * 13+j,none⟩=some v:=fun j v h=>hcw _ _ _ (hnc j v h)
        have HNW:=Hd_ hnw
        have y3:wr.cell? ⟨Y,3,none⟩=some (.slice (some ⟨nb,no,none⟩) N nc):=hcw _ _ _ HH.out.2.2.2.1
        clear hx hpc hb hrc hbr hn hfl hnc hnw hcm hcw
        cases b with
        | false =>
         go_wp2_with (fail)
         go_roundw
         case rel=>exact⟨q+1,far,L,by go_num,hqL,hL2,HLK,HS,Hd_ (HQ.out.pass HLK.out.1 fun s hs=>by
          rcases HSX.out s hs with h | ⟨p',rfl⟩
          ·exact .inl h
          ·refine .inr (.inr fun he=>?_)
           obtain⟨i2,p2,h1,h2⟩:=he.2
           obtain⟨h1,_⟩:=ZAO h1
           rw[← h1] at h2
           have:=HIP.out.1.2 h2
           cases this),HX⟩
         case measure=>simp[intOf];omega
        | true =>
         obtain⟨p0,p1,p2,p3,p4,p5,p6,p7,p8,p9,p10,p11,p12⟩:=ZDN HNW.out
         have HDR:=Hd_ (ZEm n wr)
         unfold Node.cells at HDR
         cases hdr:drB n with
         | true =>
          rw[hdr] at HDR
          have HD2:=Hd_ hdr
          clear hdr
          go_wp2_with (first
           | (go_at_call 60
              refine(HDR.out).mono ?_
              rintro e w4 ⟨rfl,hb4⟩
              have HB4:=Hd_ hb4
              clear hb4))
          go_roundw
          case rel=>exact⟨q+1,far,L,by go_num,hqL,hL2,HLK,Hd_ (HS.out.below HB4.out),Hd_ (HQ.out.pass HLK.out.1 fun s hs=>by
           rcases HSX.out s hs with h | ⟨p',rfl⟩
           ·exact .inl h
           ·refine .inr (.inr fun he=>?_)
            obtain⟨j,n',_,h2,h3,_⟩:=ZCG he.1
            rw[HIP.out.2.1] at h2
            injection h2 with h2
            rw[← h2,HD2.out] at h3
            cases h3),Hd_ ⟨HX.out.1.below HB4.out HX.out.1.lt,HX.out.2⟩⟩
          case measure=>simp[intOf];omega
         | false =>
          rw[hdr] at HDR
          have HNP:Hid (g.nodes[ip]? = some n∧drB n=false∧(i:Int)∈fol n∧(i:Int) ∉ R∧ReachC g (-1) ip):=Hd_ ⟨HIP.out.2.1,hdr,HIP.out.2.2,HIN.out,HIP.out.1.1 rfl⟩
          clear hdr
          go_wp2_with (first
           | (go_at_call 60
              refine(HDR.out).mono ?_
              rintro e w4 ⟨rfl,hb4⟩
              have HB4:=Hd_ hb4
              clear hb4))
          have hfb:=Blk.new w4 90 [.int .i64 (ip:Nat),.bool false,.int .i64 (ip:Nat),.bool true]
          have hb5:=ZB w4 (.cells #[.int .i64 (ip:Nat),.bool false,.int .i64 (ip:Nat),.bool true] 90)
          have hs4:=HS.out.below HB4.out
          have hvl:(Value.slice uA L.length uc).ownBlock≠some w4.heap.size:=fun e=>by
           have:=(hs4.own.lt _ e).2
           omega
          obtain⟨FB,hFB⟩ : ∃ FB,w4.heap.size=FB:=⟨_,rfl⟩
          obtain⟨w5,hw5⟩ : ∃ w5,w4.alloc (.cells #[.int .i64 (ip:Nat),.bool false,.int .i64 (ip:Nat),.bool true] 90)=w5:=⟨_,rfl⟩
          rw[hw5] at hfb hb5 ⊢
          rw[hFB] at hfb hvl ⊢
          have HS5:=Hd_ (hs4.below hb5)
          have HFB5:=Hd_ (And.intro hfb hvl)
          have HX5:=Hd_ (And.intro ((HX.out.1.below HB4.out HX.out.1.lt).below hb5 (HX.out.1.below HB4.out HX.out.1.lt).lt) HX.out.2)
          have HQ5:Hid (BQ (2 * N) (rcE g R nd) (rcT u g R) far L k (k+1) (fun s=>(∃ z':Nat,0≤z'∧z' < 2∧s=num ip (decide (z'=1)))∨exq row (q+1) s)):=Hd_ (HQ.out.pass HLK.out.1 fun s hs=>by
           rcases HSX.out s hs with h | ⟨p',rfl⟩
           ·exact .inl (.inr h)
           ·cases p' with
            | true=>exact .inl (.inl ⟨1,by omega,by omega,rfl⟩)
            | false=>exact .inl (.inl ⟨0,by omega,by omega,rfl⟩))
          clear hfb hb5 hs4 hvl hFB hw5 p0 p1 p2 p3 p4 p5 p6 p7 p8 p9 p10 p11 p12 y3 rc2 pc2
          go_loopw [5,117] (fun v5 v117 wi=>∃ (z:Nat) (far:Nat→Option Nat) (L:List Nat),v117=.int .i64 z∧z≤2∧L.length≤2 * N∧Hid (L[k]? = some (num i p)∧far (num i p)=some d)∧Hid (MsR w1 M far L v5 wi)∧Hid (BQ (2 * N) (rcE g R nd) (rcT u g R) far L k (k+1) (fun s=>(∃ z':Nat,z≤z'∧z' < 2∧s=num ip (decide (z'=1)))∨exq row (q+1) s))∧Hid (Blk wi X 90 [.int .i64 (i:Nat),.bool p]∧v5.ownBlock≠some X)∧Hid (Blk wi FB 90 [.int .i64 (ip:Nat),.bool false,.int .i64 (ip:Nat),.bool true]∧v5.ownBlock≠some FB)∧Hid (w1.grownBy wi (some M))) (fun _ v117 _=>2 - (intOf v117).toNat)
          case atStart=>exact⟨0,far,L,rfl,by omega,hL2,HLK,HS5,HQ5,HX5,HFB5,Hd_ HS5.out.gr⟩
          case round =>
           clear HS5 HQ5 HX5 HFB5 HS HQ HX HSX HNW HDR HLK hL2
           obtain⟨z,far,L,rfl,hz,hL2,HLK,HS,HQ,HX,HFB,HGI⟩:=hrel
           have HXN:=Hd_ HX.out.2
           obtain⟨wi,rfl⟩ : ∃ wi:World,wi=wr:=⟨_,rfl⟩
           obtain⟨uA,uc,rfl,-⟩:=ZE HS.out.own
           by_cases hz2:z < 2
           ·have f0:=HFB.out.1
            obtain⟨pz,hpz⟩ : ∃ pz:Bool,decide (z=1)=pz:=⟨_,rfl⟩
            have hff:∀ j v,([.int .i64 (ip:Nat),.bool pz] : List Value)[j]? = some v→wi.cell? ⟨FB,z * 2+j,none⟩=some v:=fun j v hv=>by
             rw[f0.cell]
             rcases(by omega:z=0∨z=1) with rfl | rfl
             ·rw[← hpz] at hv
              match j,hv with
              | 0,hv=>exact hv
              | 1,hv=>exact hv
             ·rw[← hpz] at hv
              match j,hv with
              | 0,hv=>exact hv
              | 1,hv=>exact hv
            have HFF:=Hd_ hff
            have HPZ:=Hd_ hpz
            have z0:(0:Int)≤z:=by omega
            have z2:(z:Int) < 2:=by omega
            clear f0 hff hpz
            go_wp2_with (first
             | (refine ZC rfl 90 _ rfl FB (z * 2) rfl _ _ HFF.out Tryd.underlying90 rfl (by kernel_rfl) ?_)
             | (refine ZO 90 rfl ?_))
            refine Stop.intro ?_
            refine wpList_store_row rfl 90 _ _ rfl wi.heap.size #[.int .i64 (ip:Nat),.bool pz] rfl rfl 90 _ (heap_alloc_new _ _) (by kernel_rfl) rfl (by simp[Value.oneCell']) ?_
            rw[World.setRow_alloc_new]
            have hgb:=Blk.new wi 90 [.int .i64 (ip:Nat),.bool pz]
            have hb3:=ZB wi (.cells #[.int .i64 (ip:Nat),.bool pz] 90)
            obtain⟨GB,hGB⟩ : ∃ GB,wi.heap.size=GB:=⟨_,rfl⟩
            obtain⟨w3,hw3⟩ : ∃ w3,wi.alloc (.cells #[.int .i64 (ip:Nat),.bool pz] 90)=w3:=⟨_,rfl⟩
            rw[hw3] at hgb hb3 ⊢
            rw[hGB] at hgb ⊢
            have b0:w3.cell? ⟨GB,0,none⟩=some (.int .i64 (ip:Nat)):=hgb.cell 0
            have b1:w3.cell? ⟨GB,1,none⟩=some (.bool pz):=hgb.cell 1
            have hx3:=HX.out.1.below hb3 HX.out.1.lt
            have x0:w3.cell? ⟨X,0,none⟩=some (.int .i64 (i:Nat)):=hx3.cell 0
            have x1:w3.cell? ⟨X,1,none⟩=some (.bool p):=hx3.cell 1
            have hcw:=(ZA HA.out.2).trans ((HCM.out wi HS.out.gr).trans (ZA hb3))
            have y6:w3.cell? ⟨Y,6,none⟩=some (.int .i64 nd):=hcw _ _ _ HH.out.2.2.2.2.2.2.1
            have y7:w3.cell? ⟨Y,7,none⟩=some (.map (some M)):=hcw _ _ _ HH.out.2.2.2.2.2.2.2
            have HY7:=Hd_ y7
            have HB3:=Hd_ hb3
            have HGB:=Hd_ (And.intro hgb (show(Value.slice uA L.length uc).ownBlock≠some GB from fun e=>by
             have:=(HS.out.own.lt _ e).2
             omega))
            obtain⟨cnd,hcnd⟩ : ∃ cnd,(p != (pz || decide ((i:Int)=nd)))=cnd:=⟨_,rfl⟩
            have HCN:=Hd_ hcnd
            clear hgb hb3 hw3 hx3 hcw hGB y7 HFF hcnd
            go_upto_region 22 with(fail)
            simp only[put_none]
            go_cut [134,117] from 117 to 162 (fun v134 v117 wx=>v134=.bool cnd∧v117=.int .i64 (z:Nat)∧Below w3.heap.size w3 wx)
            case first =>
             cases pz with
             | true =>
              have hc:cnd=(p != true):=by rw[← HCN.out];rfl
              subst hc
              refine wp_region_quiet_lit (by kernel_rfl) (by kernel_rfl) ?_
              repeat (go_big_quiet_step (fail))
              refine wpQuiet_nil ?_
              intro _ hw'
              obtain⟨n2,hw2⟩:=hw'
              subst hw2
              go_wp2
              go_meet
              exact⟨by cases p <;> rfl,rfl,ZF _ _⟩
             | false =>
              have hc:cnd=(p != ((i:Int) == nd)):=by rw[← HCN.out];rfl
              subst hc
              refine wp_region_quiet_lit (by kernel_rfl) (by kernel_rfl) ?_
              repeat (go_big_quiet_step (fail))
              refine wpQuiet_nil ?_
              intro _ hw'
              obtain⟨n2,hw2⟩:=hw'
              subst hw2
              go_wp2
              go_meet
              exact⟨by cases p <;> rfl,rfl,ZF _ _⟩
            case rest =>
             obtain⟨rfl,rfl,hb4⟩:=hcut
             have hs4:=(HS.out.below HB3.out).below hb4
             have hx4:=(HX.out.1.below HB3.out HX.out.1.lt).below hb4 (HX.out.1.below HB3.out HX.out.1.lt).lt
             have hf4:=(HFB.out.1.below HB3.out HFB.out.1.lt).below hb4 (HFB.out.1.below HB3.out HFB.out.1.lt).lt
             have HS4:=Hd_ hs4
             have HX4:=Hd_ (And.intro hx4 hf4)
             have z7:wc.cell? ⟨Y,7,none⟩=some (.map (some M)):=ZA hb4 _ _ _ HY7.out
             have z0':wc.cell? ⟨GB,0,none⟩=some (.int .i64 (ip:Nat)):=ZA hb4 _ _ _ b0
             have z1':wc.cell? ⟨GB,1,none⟩=some (.bool pz):=ZA hb4 _ _ _ b1
             have z2':wc.cell? ⟨X,0,none⟩=some (.int .i64 (i:Nat)):=ZA hb4 _ _ _ x0
             have z3':wc.cell? ⟨X,1,none⟩=some (.bool p):=ZA hb4 _ _ _ x1
             clear hb4 hs4 hx4 hf4 b0 b1 x0 x1 y6 HY7 HGB HB3 HS HX
             obtain⟨w4,rfl⟩ : ∃ w4:World,w4=wc:=⟨_,rfl⟩
             cases cnd with
             | true =>
              have HNE:Hid (¬ rcE g R nd (num ip pz) (num i p)):=Hd_ fun he=>by
               obtain⟨j,n',h1,-⟩:=ZCG he.1
               obtain⟨h2,h3⟩:=ZAO h1
               have h4:=HCN.out
               rw[h3,← h2] at h4
               simp at h4
              go_wp2_with (fail)
              have HREL:(z+1)≤2∧L.length≤2 * N∧Hid (L[k]? = some (num i p)∧far (num i p)=some d)∧Hid (MsR w1 M far L (Value.slice uA L.length uc) w4)∧Hid (BQ (2 * N) (rcE g R nd) (rcT u g R) far L k (k+1) (fun s=>(∃ z':Nat,(z+1)≤z'∧z' < 2∧s=num ip (decide (z'=1)))∨exq row (q+1) s))∧Hid (Blk w4 X 90 [.int .i64 (i:Nat),.bool p]∧(Value.slice uA L.length uc).ownBlock≠some X)∧Hid (Blk w4 FB 90 [.int .i64 (ip:Nat),.bool false,.int .i64 (ip:Nat),.bool true]∧(Value.slice uA L.length uc).ownBlock≠some FB)∧Hid (w1.grownBy w4 (some M)):=⟨by omega,hL2,HLK,Hd_ HS4.out,Hd_ (HQ.out.pass HLK.out.1 fun s hs=>by
               rcases hs with⟨z',h1,h2,h3⟩ | hs
               ·by_cases e:z'=z
                ·subst e
                 rw[HPZ.out] at h3
                 subst h3
                 exact .inr (.inr fun he=>HNE.out he)
                ·exact .inl (.inl ⟨z',by omega,h2,h3⟩)
               ·exact .inl (.inr hs)),Hd_ ⟨HX4.out.1,HXN.out⟩,Hd_ ⟨HX4.out.2,HFB.out.2⟩,Hd_ (HS4.out).gr⟩
              have HRL:=Hd_ HREL
              clear HREL
              go_roundw
              case rel =>
               first
                | exact⟨z+1,_,_,by go_num,HRL.out⟩
                | ((repeat apply Exists.intro);exact⟨⟨z+1,_,_,by go_num,HRL.out⟩,rfl⟩)
              case measure=>simp[intOf];omega
             | false =>
              have HED:Hid (rcE g R nd (num ip pz) (num i p)):=Hd_ (by
               have h1:=ZE5 (nd:=nd) (p:=pz) HNP.out.1 HNP.out.2.1 HNP.out.2.2.1 HNP.out.2.2.2.1
               have h2:p=(pz || decide ((i:Int)=nd)):=by simpa using HCN.out
               rw[← h2] at h1
               exact⟨h1,ip,pz,rfl,HNP.out.2.2.2.2⟩)
              cases hf:far (num ip pz) with
              | some e =>
               have HF:=Hd_ hf
               clear hf
               go_upto_region 23 with(fail)
               refine wp_region_quiet_lit (by kernel_rfl) (by kernel_rfl) ?_
               repeat (go_big_quiet_step (fail))
               refine ZS Zs Tryd.underlying85 (by rfl) _ _ true rfl M (farM far) (HS4.out.map) ((ip:Int),pz) rfl rfl (.int .i64 0) (fun _=>rfl) (.tuple #[.int .i64 (e:Nat),.bool true]) (by rw[ZCX,HF.out];rfl) ?_
               simp only[Act.put,List.setIfInBounds_toArray,List.set_cons_zero,List.set_cons_succ]
               repeat (go_big_quiet_step (fail))
               refine wpQuiet_nil ?_
               intro _ hw'
               obtain⟨n2,hw2⟩:=hw'
               subst hw2
               go_wp2_with (fail)
               have HREL:(z+1)≤2∧L.length≤2 * N∧Hid (L[k]? = some (num i p)∧far (num i p)=some d)∧Hid (MsR w1 M far L (Value.slice uA L.length uc) (w4.drewN n2))∧Hid (BQ (2 * N) (rcE g R nd) (rcT u g R) far L k (k+1) (fun s=>(∃ z':Nat,(z+1)≤z'∧z' < 2∧s=num ip (decide (z'=1)))∨exq row (q+1) s))∧Hid (Blk (w4.drewN n2) X 90 [.int .i64 (i:Nat),.bool p]∧(Value.slice uA L.length uc).ownBlock≠some X)∧Hid (Blk (w4.drewN n2) FB 90 [.int .i64 (ip:Nat),.bool false,.int .i64 (ip:Nat),.bool true]∧(Value.slice uA L.length uc).ownBlock≠some FB)∧Hid (w1.grownBy (w4.drewN n2) (some M)):=⟨by omega,hL2,HLK,Hd_ (HS4.out.drew n2),Hd_ (HQ.out.pass HLK.out.1 fun s hs=>by
                rcases hs with⟨z',h1,h2,h3⟩ | hs
                ·by_cases e:z'=z
                 ·subst e
                  rw[HPZ.out] at h3
                  subst h3
                  exact .inr (.inl ⟨_,HF.out⟩)
                 ·exact .inl (.inl ⟨z',by omega,h2,h3⟩)
                ·exact .inl (.inr hs)),Hd_ ⟨(HX4.out.1.drewN n2),HXN.out⟩,Hd_ ⟨(HX4.out.2.drewN n2),HFB.out.2⟩,Hd_ ((HS4.out.drew n2)).gr⟩
               have HRL:=Hd_ HREL
               clear HREL
               go_roundw
               case rel =>
                first
                 | exact⟨z+1,_,_,by go_num,HRL.out⟩
                 | ((repeat apply Exists.intro);exact⟨⟨z+1,_,_,by go_num,HRL.out⟩,rfl⟩)
               case measure=>simp[intOf];omega
              | none =>
               have HF:=Hd_ hf
               clear hf
               go_upto_region 23 with(fail)
               refine wp_region_quiet_lit (by kernel_rfl) (by kernel_rfl) ?_
               repeat (go_big_quiet_step (fail))
               refine ZS Zs Tryd.underlying85 (by rfl) _ _ true rfl M (farM far) (HS4.out.map) ((ip:Int),pz) rfl rfl (.int .i64 0) (fun _=>rfl) (.tuple #[.int .i64 0,.bool false]) (by rw[ZCX,HF.out];rfl) ?_
               simp only[Act.put,List.setIfInBounds_toArray,List.set_cons_zero,List.set_cons_succ]
               repeat (go_big_quiet_step (fail))
               refine wpQuiet_nil ?_
               intro _ hw'
               obtain⟨n2,hw2⟩:=hw'
               subst hw2
               obtain⟨we,hwe⟩ : ∃ we,w4.drewN n2=we:=⟨_,rfl⟩
               have e0:we.cell? ⟨GB,0,none⟩=some (.int .i64 (ip:Nat)):=by rw[← hwe];exact z0'
               have e1:we.cell? ⟨GB,1,none⟩=some (.bool pz):=by rw[← hwe];exact z1'
               have e2:we.cell? ⟨X,0,none⟩=some (.int .i64 (i:Nat)):=by rw[← hwe];exact z2'
               have e3:we.cell? ⟨X,1,none⟩=some (.bool p):=by rw[← hwe];exact z3'
               have e7:we.cell? ⟨Y,7,none⟩=some (.map (some M)):=by rw[← hwe];exact z7
               have HSE:Hid (MsR w1 M far L (.slice uA L.length uc) we):=Hd_ (by rw[← hwe];exact HS4.out.drew n2)
               have HXE:Hid (Blk we X 90 [.int .i64 (i:Nat),.bool p]):=Hd_ (by rw[← hwe];exact HX4.out.1.drewN n2)
               have HFE:Hid (Blk we FB 90 [.int .i64 (ip:Nat),.bool false,.int .i64 (ip:Nat),.bool true]):=Hd_ (by rw[← hwe];exact HX4.out.2.drewN n2)
               rw[hwe]
               clear hwe z0' z1' z2' z3' z7
               have hdk:=HQ.out.small k _ d HLK.out.1 HLK.out.2
               have hkl:=(List.getElem?_eq_some_iff.1 HLK.out.1).1
               have d0:(0:Int)≤(d:Nat):=by omega
               have d4:((d:Nat) : Int)≤8192:=by omega
               clear hdk hkl
               go_wp2_with (fail)
               refine wp_region_still_tail 12 (by kernel_rfl) (by kernel_rfl) ?_
               simp only[List.take_succ_cons,List.take_zero,List.drop_succ_cons,List.drop_zero]
               repeat still_step
               refine ZDq Zs Tryd.underlying85 rfl _ _ false rfl M (farM far) (HSE.out.map.drew) ((i:Int),p) rfl rfl (.int .i64 0) rfl (.int .i64 (d:Nat)) (by rw[ZCX,HLK.out.2];rfl) ?_
               repeat still_step
               refine wpStill_nil ?_
               change wpList _ _ _ _ _ (World.drew we)
               refine Zu Zs Tryd.underlying85 rfl _ _ _ (.inl rfl) M (farM far) (HSE.out.map.drew) ((ip:Int),pz) (.int .i64 ((d:Int)+1)) rfl rfl (by show Value.int .i64 _=_;first | rw[IntWalk.i64_in _ (by omega)] | (simp only[IntKind.wrap_i64];congr 1;omega) | (unfold wrap64;congr 1;omega)) ?_
               intro w7 hm7 hg7
               have s07:w7.cell? ⟨GB,0,none⟩=some (.int .i64 (ip:Nat)):=ZBh (HSE.out.map.drew) hg7 _ _ _ e0
               have s17:w7.cell? ⟨GB,1,none⟩=some (.bool pz):=ZBh (HSE.out.map.drew) hg7 _ _ _ e1
               have hx7:=Blk.grown (w:=World.drew we) HXE.out hg7 (ZF6 HXE.out HSE.out.map)
               have hf7:=Blk.grown (w:=World.drew we) HFE.out hg7 (ZF6 HFE.out HSE.out.map)
               have ed:((d:Int)+1)=((d+1:Nat) : Int):=by omega
               rw[ed] at hm7
               have hs7:=(HSE.out.drew 1).put (i:=ip) (p:=pz) (d:=d+1) hm7 hg7 HMW.out
               have HS7:=Hd_ hs7
               have HX7:=Hd_ (And.intro hx7 hf7)
               clear hm7 hg7 hs7 hx7 hf7 ed e0 e1 e2 e3 e7
               go_wp2_with (refine ZN rfl ?_)
               refine Stop.intro ?_
               have hss:=HS7.out.gr.size
               refine Zg ZGC rfl _ _ rfl w1.heap.size (.slice uA L.length uc) L.length (spsV L) rfl (HS7.out.own.alloc _) w7.heap.size 0 1 [.int .i64 (ip:Nat),.bool pz] rfl rfl (ZL w7 [.int .i64 (ip:Nat),.bool pz] _ _ rfl) (by simp[Value.oneCell']) (by omega) (by decide) (by simp;omega) ?_
               intro v' w8 hown8 hgr8 hob8
               have ha8:=ZB w7 (.cells #[.int .i64 (ip:Nat),.bool pz] 90)
               have hs8:=(HS7.out.below ha8).push (s:=num ip pz) (by rw[ZEO];exact hown8) hgr8 HMW.out
               have hx8:=(HX7.out.1.below ha8 HX7.out.1.lt).grown hgr8 (fun e=>HXN.out e.symm)
               have hf8:=(HX7.out.2.below ha8 HX7.out.2.lt).grown hgr8 (fun e=>HFB.out.2 e.symm)
               have hvx:v'.ownBlock≠some X∧v'.ownBlock≠some FB:=by
                have hxl:=HX7.out.1.lt
                have hfl:=HX7.out.2.lt
                rcases hob8 with e | e
                ·rw[e];exact⟨HXN.out,HFB.out.2⟩
                ·rw[e]
                 refine⟨fun e2=>?_,fun e2=>?_⟩
                 ·injection e2 with e2;simp at e2;omega
                 ·injection e2 with e2;simp at e2;omega
               have hq8:=HQ.out.push (ex':=fun s=>(∃ z':Nat,z+1≤z'∧z' < 2∧s=num ip (decide (z'=1)))∨exq row (q+1) s) HLK.out.1 HLK.out.2 HF.out HED.out (by have h:=ZJG HED.out.1;rw[HN.out] at h;exact h) (fun s hs=>by
                rcases hs with⟨z',h1,h2,h3⟩ | hs
                ·by_cases e:z'=z
                 ·subst e
                  rw[HPZ.out] at h3
                  exact .inr h3
                 ·exact .inl (.inl ⟨z',by omega,h2,h3⟩)
                ·exact .inl (.inr hs))
               have HREL:(z+1)≤2∧(L ++ [num ip pz]).length≤2 * N∧Hid ((L ++ [num ip pz])[k]? = some (num i p)∧(fun x=>if x=num ip pz then some (d+1) else far x) (num i p)=some d)∧Hid (MsR w1 M (fun x=>if x=num ip pz then some (d+1) else far x) (L ++ [num ip pz]) v' w8)∧Hid (BQ (2 * N) (rcE g R nd) (rcT u g R) (fun x=>if x=num ip pz then some (d+1) else far x) (L ++ [num ip pz]) k (k+1) (fun s=>(∃ z':Nat,(z+1)≤z'∧z' < 2∧s=num ip (decide (z'=1)))∨exq row (q+1) s))∧Hid (Blk w8 X 90 [.int .i64 (i:Nat),.bool p]∧v'.ownBlock≠some X)∧Hid (Blk w8 FB 90 [.int .i64 (ip:Nat),.bool false,.int .i64 (ip:Nat),.bool true]∧v'.ownBlock≠some FB)∧Hid (w1.grownBy w8 (some M)):=⟨by omega,hq8.len,Hd_ ⟨by
                rw[List.getElem?_append_left (List.getElem?_eq_some_iff.1 HLK.out.1).1]
                exact HLK.out.1,by
                show(if num i p=num ip pz then some (d+1) else far (num i p))=some d
                rw[if_neg (fun e=>by
                 have h1:=HLK.out.2
                 rw[e,HF.out] at h1
                 cases h1)]
                exact HLK.out.2⟩,Hd_ hs8,Hd_ hq8,Hd_ ⟨hx8,hvx.1⟩,Hd_ ⟨hf8,hvx.2⟩,Hd_ hs8.gr⟩
               have HRL:=Hd_ HREL
               clear hs8 hx8 hf8 hvx hq8 hown8 hgr8 hob8 ha8 s07 s17 hss d0 d4 HREL
               go_wp2
               go_roundw
               case rel =>
                first
                 | exact⟨z+1,(fun x=>if x=num ip pz then some (d+1) else far x),(L ++ [num ip pz]),by go_num,HRL.out⟩
                 | ((repeat apply Exists.intro);exact⟨⟨z+1,(fun x=>if x=num ip pz then some (d+1) else far x),(L ++ [num ip pz]),by go_num,HRL.out⟩,rfl⟩)
               case measure=>simp[intOf];omega
           ·obtain rfl:z=2:=by omega
            have HQE:Hid (BQ (2 * N) (rcE g R nd) (rcT u g R) far L k (k+1) (exq row (q+1))):=Hd_ (HQ.out.pass HLK.out.1 fun s hs=>by
             rcases hs with⟨z',h1,h2,_⟩ | hs
             ·omega
             ·exact .inl hs)
            go_wp2_with (fail)
            go_roundw
            case rel=>exact⟨q+1,far,L,by go_num,hqL,hL2,HLK,HS,HQE,HX⟩
            case measure=>simp[intOf];omega
       ·obtain rfl:q=row.length:=by omega
        have HQE:Hid (BQ (2 * N) (rcE g R nd) (rcT u g R) far L k (k+1) (fun _=>False)):=Hd_ (HQ.out.pass HLK.out.1 fun s hs=>by
         obtain⟨_,_,_,h⟩:=hs
         simp at h)
        have hkL:k < L.length:=(List.getElem?_eq_some_iff.1 HLK.out.1).1
        go_wp2_with (fail)
        go_roundw
        case rel=>exact⟨k+1,far,L,by go_num,hkL,hL2,HS,Hd_ HQE.out.close⟩
        case measure=>simp[intOf];omega
    ·obtain rfl:k=L.length:=by omega
     have HFIN:=Hd_ fun s=>HQ.out.fin (Nat.le_refl _) s
     go_wp2
     go_end0
     have hgw:w.grownBy wr (some M):=gbT ⟨HA.out.2.os,HA.out.2.tape,HA.out.2.output,HA.out.2.size,fun b hb _=>HA.out.2.block b hb⟩ HS.out.gr
     exact⟨rfl,hgw,far,HS.out.map,HFIN.out⟩
end Go.Proofs.YtffgnjgphkdodaaDoor
