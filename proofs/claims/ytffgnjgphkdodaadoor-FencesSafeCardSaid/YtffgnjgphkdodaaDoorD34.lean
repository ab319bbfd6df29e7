import Derived.Test.YtffgnjgphkdodaaDoorD32
import Derived.Test.YtffgnjgphkdodaaDoorD28
import Derived.Test.YtffgnjgphkdodaaDoorD31
import Derived.Test.YtffgnjgphkdodaaDoorD33
import Derived.Deep.CutRange
namespace Go.Proofs.YtffgnjgphkdodaaDoor
open Go Go.RowKit BigFrame
theorem ZJP {P:Program} {Q:Exit→Act→World→Prop} {o:Oper} {a:Act} {w:World} {K:Act→World→Prop} {s:SR} {t:TypeId} (hK:∀ v w',Below w.heap.size w w'→s.holds w' v→K (a.put o.dst v) w') (ho:o.op=.makeMap t none)
  (h:s.holds (w.alloc (.map #[] 0)) (.map (some w.heap.size))) : o.wp P a w K Q:=by
 have hr:=run_makeMap (P:=P) t w
 unfold Oper.wp
 simp[execOp,ho,hr,Result.andThen]
 exact hK _ _ (ZB _ _) h
theorem ZI7:farM (fun _=>none)=fun _=>none:=by
 funext k
 unfold farM
 split <;> rfl
def srM (W0:World) : SR:=⟨fun w v=>∃ M:Nat,v=.map (some M)∧W0.heap.size≤M∧MapIs kvS decS w M (farM fun _=>none),fun hb ⟨M,e,h1,h2⟩=>⟨M,e,h1,h2.below hb h2.lt⟩⟩
def srTr (W0:World) (cs:List Value) (R:List Int) (nd:Int) : SR:=⟨fun w v=>∃ (M:Nat) (o:Value),v=.agg (cs ++ [o,.int .i64 nd,.map (some M)]).toArray∧W0.heap.size≤M∧MapIs kvS decS w M (farM fun _=>none)∧w.ownsRow W0.heap.size 3 1 o R.length (ints R),
 fun hb ⟨M,o,e,h1,h2,h3⟩=>⟨M,o,e,h1,h2.below hb h2.lt,ZT h3 hb⟩⟩
def srTp (W0:World) (cs:List Value) (R:List Int) (nd:Int) : SR:=⟨fun w v=>∃ (Y M:Nat) (o:Value),v=.pointer (some ⟨Y,0,none⟩)∧W0.heap.size≤Y∧Blk w Y 87 (cs ++ [o,.int .i64 nd,.map (some M)])∧W0.heap.size≤M∧MapIs kvS decS w M (farM fun _=>none)∧w.ownsRow W0.heap.size 3 1 o R.length (ints R),
 fun hb ⟨Y,M,o,e,h0,hk,h1,h2,h3⟩=>⟨Y,M,o,e,h0,hk.below hb hk.lt,h1,h2.below hb h2.lt,ZT h3 hb⟩⟩
section
variable {u:Unit_} {g:Graph} {R:List Int} {nd:Int} {far:Nat→Option Nat}
theorem ZFK (hfin:∀ s,(∀ d,far s=some d→MinD (rcE g R nd) (rcT u g R) s d)∧(far s=none→∀ d,¬ DW (rcE g R nd) (rcT u g R) s d)) {k:Nat} (h0:0≤firstF u g (spD u g R nd) k) :
  ∃ i e:Nat,firstF u g (spD u g R nd) k=i∧i < k∧ReachC g (-1) i∧i < g.nodes.length∧far (num i false)=some e∧(spD u g R nd)[num i false]? = some (e:Int):=by
 rcases ZDX (u:=u) (g:=g) (spD u g R nd) k with⟨h1,_⟩ | ⟨i,h1,h2,h3,h4⟩
 ·omega
 ·obtain⟨hr,m,hm,_⟩:=ZAS.1 h3
  have hl:=(List.getElem?_eq_some_iff.1 hm).1
  have hD:=ZB1 hfin hl hr (p:=false) (.inr rfl)
  rw[hD] at h4
  cases hq:far (num i false) with
  | none=>rw[hq] at h4;simp at h4
  | some e=>exact⟨i,e,h1,h2,hr,hl,hq,by rw[hD,hq]⟩
theorem ZHB (hfin:∀ s,(∀ d,far s=some d→MinD (rcE g R nd) (rcT u g R) s d)∧(far s=none→∀ d,¬ DW (rcE g R nd) (rcT u g R) s d)) {k:Nat} {n:Node} {b:Bool} (hn:g.nodes[k]? = some n) (hb:b=true ↔ ReachC g (-1) k) {dd:Int} {isd:Bool}
  (h1:isd=true→∃ d:Nat,far (num k false)=some d∧dd=d) (h2:isd=false→far (num k false)=none) {ef:Int} (he:0≤firstF u g (spD u g R nd) k→(spD u g R nd)[num (firstF u g (spD u g R nd) k).toNat false]? = some ef) :
  firstF u g (spD u g R nd) (k+1)=if (isd && (b && (stB u n && (decide (firstF u g (spD u g R nd) k < 0) || decide (dd < ef)))))=true then (k:Int) else firstF u g (spD u g R nd) k:=by
 have hm:(mkAt u g [] k).store=(b && stB u n):=by rw[ZBp hn hb]
 have hlt:=(List.getElem?_eq_some_iff.1 hn).1
 show(if (mkAt u g [] k).store=true∧0≤((spD u g R nd)[num k false]?).getD (-1)∧(firstF u g (spD u g R nd) k < 0∨((spD u g R nd)[num k false]?).getD (-1) < ((spD u g R nd)[num (firstF u g (spD u g R nd) k).toNat false]?).getD (-1)) then (k:Int) else firstF u g (spD u g R nd) k)=_
 have key:((mkAt u g [] k).store=true∧0≤((spD u g R nd)[num k false]?).getD (-1)∧(firstF u g (spD u g R nd) k < 0∨((spD u g R nd)[num k false]?).getD (-1) < ((spD u g R nd)[num (firstF u g (spD u g R nd) k).toNat false]?).getD (-1))) ↔ (isd && (b && (stB u n && (decide (firstF u g (spD u g R nd) k < 0) || decide (dd < ef)))))=true:=by
  rw[hm]
  cases b with
  | false=>simp
  | true =>
   have hD:=ZB1 hfin hlt (hb.1 rfl) (p:=false) (.inr rfl)
   rw[hD]
   cases isd with
   | false=>rw[h2 rfl];simp
   | true =>
    obtain⟨d,hd,rfl⟩:=h1 rfl
    rw[hd]
    by_cases h0:0≤firstF u g (spD u g R nd) k
    ·rw[he h0]
     simp
    ·have h0':firstF u g (spD u g R nd) k < 0:=by omega
     simp[h0']
 by_cases hc:(isd && (b && (stB u n && (decide (firstF u g (spD u g R nd) k < 0) || decide (dd < ef)))))=true
 ·rw[if_pos hc,if_pos (key.2 hc)]
 ·rw[if_neg hc,if_neg (fun h=>hc (key.1 h))]
end
def AwR (g:Graph) (D R:List Int) (nd:Int) (W8:World) (ans:List Int) (N:Nat) (d:Nat) (v24 v25:Value) (wr:World) : Prop :=
 ∃ (i:Nat) (p:Bool) (pre:List Int) (AB d':Nat),v25=.pointer (some ⟨AB,0,none⟩)∧d'=d∧d'≤8192∧Hid (Below W8.heap.size W8 wr)∧Hid (Blk wr AB 90 [.int .i64 (i:Nat),.bool p]∧W8.heap.size≤AB)∧Hid (wr.ownsRow W8.heap.size 3 1 v24 (pre ++ [(i:Int)]).length (ints (pre ++ [(i:Int)]))) ∧
  Hid (pre ++ waySp g D R nd d' (i:Int) p=ans)∧Hid (i < N∧ReachC g (-1) i∧((i:Int) ∉ R∨p=false)∧D[num i p]? = some (d':Int))
def slAl:List Nat:=[46,47,48,49,50,51,52,53,54,16]
set_option maxRecDepth 100000 in
set_option maxHeartbeats 1000000 in
theorem ZAa (u:Unit_) (cs:List Value) (t:Int) (v:Value) (F:List Int) (n:Int) (w:World) (hT:Tab w) (hu:UnitV (cmap w) cs u) (hok:UOk u) (hF:Ints (cmap w) v F) :
  Calls Tryd.prog 12 #[.agg cs.toArray,.int .i64 t,v,.int .i64 n] w (AlonePost u t F n w):=by
 have HAS:=Hd_ fun w1 (h:Below w.heap.size w w1)=>ZCl u cs t v F n w1 (hu.mono (ZA h)) hok (hF.mono (ZA h))
 have hwo:=fun w1 (h:Below w.heap.size w w1) (hl:F.length≤4294967295)=>ZAg v F n w1 (hF.mono (ZA h)) hl
 have hcl:=fun w1 (h:Below w.heap.size w w1)=>Zt u cs w1 (hT.below h) (hu.mono (ZA h)) hok
 obtain⟨sv,lv,gv,rfl,-,-,hgs⟩:=hu
 obtain⟨gA,gc,rfl,-⟩:=id hgs
 have hgl:=hgs.len.2.2
 have hbx:=Blk.new w 25 [sv,lv,.slice gA u.graphs.length gc]
 have hb0:=ZB w (.cells #[sv,lv,.slice gA u.graphs.length gc] 25)
 have HBX:=Hd_ (And.intro hbx hb0)
 obtain⟨fA,fc,rfl,-⟩:=id hF
 have HG:=Hd_ hgs
 clear hbx hb0 hF hT hgs
 by_cases hE:faultE u t F n=0
 ·obtain⟨hea,tn,g,rfl,hg,hfb,-⟩:=Zy hE
  have hc:=(Zw hea).1
  have hrg:=(ZK hc).graphs g (List.mem_of_getElem? hg)
  have hw:=hrg.whole
  have hpos:=hw.pos
  have hmost:=hw.most
  have hll:F.length≤4294967295:=by
   rcases ZAu F (-1) (by omega) hfb with h | h
   ·omega
   ·rw[h];simp
  obtain⟨gb,go,rfl,gcs,hgv0,hgc⟩:=HG.out.at_ hg
  have hgv:=hgv0
  obtain⟨nv,rfl,hnv⟩:=hgv0
  obtain⟨n0,hn0⟩ : ∃ n0,g.nodes[0]? = some n0:=⟨g.nodes[0]'(by omega),List.getElem?_eq_getElem _⟩
  obtain⟨nA,nc,rfl,-⟩:=id hnv
  obtain⟨nb,no,rfl,-⟩:=hnv.at_ hn0
  have har:aloneR u (tn:Int) F n=(if firstF u g (spD u g (withoutL F n) n) g.nodes.length < 0 then ([],false,0)
    else (waySp g (spD u g (withoutL F n) n) (withoutL F n) n (((spD u g (withoutL F n) n)[num (firstF u g (spD u g (withoutL F n) n) g.nodes.length).toNat false]?).getD 0).toNat (firstF u g (spD u g (withoutL F n) n) g.nodes.length) false,true,0)):=by
   unfold aloneR
   rw[if_pos hE,Int.toNat_natCast,hg]
  have hre:=fun w1 (h:Below w.heap.size w w1)=>ZA5 g _ w1 hw (hgv.mono (ZA h))
  have htG:=(List.getElem?_eq_some_iff.1 hg).1
  rw[hE] at HAS
  have HAR:=Hd_ har
  have HWN:=Hd_ fun w1 h=>hwo w1 h hll
  have HCL:=Hd_ fun w1 h=>(hcl w1 h).mono fun e w' hp=>(by
   rcases hp with⟨_,hp⟩ | ⟨hbad,_⟩
   ·exact hp
   ·exact absurd hc hbad:∃ v,e=.returned (.tuple #[v,.int .i64 0])∧Clss (part w' w1.heap.size w'.heap.size) v (clsU u)∧Below w1.heap.size w1 w')
  have HRG:=Hd_ hrg
  have HNV:=Hd_ hnv
  have HLD:=Hd_ hgc
  obtain⟨N,HN⟩ : ∃ N,Hid (g.nodes.length=N):=⟨_,rfl⟩
  obtain⟨R,hR⟩ : ∃ R,withoutL F n=R:=⟨_,rfl⟩
  obtain⟨S,hS⟩ : ∃ S,u.shared.length=S:=⟨_,rfl⟩
  obtain⟨G,hG⟩ : ∃ G,u.graphs.length=G:=⟨_,rfl⟩
  have HS:=Hd_ hS
  rw[HN.out] at hre HLD HNV HAR hpos hmost
  rw[hR] at HAR HWN
  rw[hG] at HBX htG HAS HCL
  have HRE:=Hd_ hre
  have t0:(0:Int)≤(tn:Nat):=by omega
  have tG:((tn:Nat) : Int) < G:=by omega
  clear hE hea hg hfb hc hrg hw hll hgv hgc hnv hn0 har hre hwo hcl hR hS HG
  rw[hG]
  clear hG htG
  go_enter Tryd.func12,Tryd.ntmps12
  go_wp2_with (first
   | (go_at_call 29
      refine(HAS.out _ HBX.out.2).mono ?_
      rintro e w1 ⟨rfl,hb1⟩
      have HB1:=Hd_ (And.intro (HBX.out.2.trans (hb1.mono HBX.out.2.size)) (HBX.out.1.below hb1 HBX.out.1.lt))
      have u0:=HB1.out.2.cell 0
      have u1:=HB1.out.2.cell 1
      have u2:=HB1.out.2.cell 2
      clear hb1)
   | (go_at_call 9
      refine(HCL.out _ HB1.out.1).mono ?_
      rintro e w2 ⟨cv,rfl,hcs,hb2⟩
      obtain⟨cA,cc,rfl,-⟩:=id hcs
      have hcn:(clsU u).length=S:=by simp[clsU,HS.out]
      rw[hcn] at hcs ⊢
      have HC2:=Hd_ hcs
      have HB2:=Hd_ (And.intro (HB1.out.1.trans (hb2.mono HB1.out.1.size)) (HB1.out.2.below hb2 HB1.out.2.lt))
      have q2:w2.cell? ⟨w.heap.size,2,none⟩=some (.slice (some ⟨gb,go,none⟩) G gc):=HB2.out.2.cell 2
      have HLG:Hid (∀ j v,([.string g.name,.int .i64 g.locals,.int .i64 g.slots,.slice (some ⟨nb,no,none⟩) N nc] : List Value)[j]? = some v→w2.cell? ⟨gb,go+tn * 4+j,none⟩=some v):=Hd_ fun j v hj=>ZA HB2.out.1 _ _ _ (HLD.out j v hj)
      clear hcs hb2 hcn u0 u1 u2)
   | (refine ZC rfl 38 _ rfl gb (go+tn * 4) rfl _ _ HLG.out Tryd.underlying38 rfl (by kernel_rfl) ?_)
   | (refine ZO 38 rfl ?_))
  refine Stop.intro ?_
  refine wpList_store_row rfl 38 _ _ rfl w2.heap.size #[.string g.name,.int .i64 g.locals,.int .i64 g.slots,.slice (some ⟨nb,no,none⟩) N nc] rfl rfl 38 _ (heap_alloc_new _ _) (by kernel_rfl) rfl (by simp[Value.oneCell']) ?_
  rw[World.setRow_alloc_new]
  have hgb:=Blk.new w2 38 [.string g.name,.int .i64 g.locals,.int .i64 g.slots,.slice (some ⟨nb,no,none⟩) N nc]
  have ha3:=ZB w2 (.cells #[.string g.name,.int .i64 g.locals,.int .i64 g.slots,.slice (some ⟨nb,no,none⟩) N nc] 38)
  obtain⟨GB,hGB⟩ : ∃ GB,w2.heap.size=GB:=⟨_,rfl⟩
  obtain⟨w3,hw3⟩ : ∃ w3,w2.alloc (.cells #[.string g.name,.int .i64 g.locals,.int .i64 g.slots,.slice (some ⟨nb,no,none⟩) N nc] 38)=w3:=⟨_,rfl⟩
  rw[hw3] at hgb ha3 ⊢
  have hc3:Clss (part w3 w.heap.size w3.heap.size) (.slice cA S cc) (clsU u):=HC2.out.mono ((Zc fun b _ hlt=>ha3.block b hlt).trans (ZAL HB1.out.1.size ha3.size))
  rw[hGB] at hgb ⊢
  have HGB:=Hd_ hgb
  have HB3:=Hd_ (HB2.out.1.trans (ha3.mono HB2.out.1.size))
  have HC3:=Hd_ hc3
  have g0:=hgb.cell 0
  have g1:=hgb.cell 1
  have g2:=hgb.cell 2
  have g3:=hgb.cell 3
  clear hgb ha3 hGB hw3 hc3 q2 HLG HB1 HB2 HC2 HCL HAS
  go_wp2_with (first
   | (go_at_call 31
      refine(HRE.out _ HB3.out).mono ?_
      rintro e w4 ⟨rv,rl,rfl,hrv,hrl,hrr,hb4⟩
      have HRV:=Hd_ (And.intro hrv (And.intro hrl hrr))
      have HB4:=Hd_ (And.intro (HB3.out.trans (hb4.mono HB3.out.size)) (And.intro (HGB.out.below hb4 HGB.out.lt) (HC3.out.mono ((Zc fun b _ hlt=>hb4.block b hlt).trans (ZAL (Nat.le_refl _) hb4.size)))))
      clear hrv hrl hrr hb4))
  clear HC3 HGB HRE g0 g1 g2 g3
  obtain⟨W0,rfl⟩ : ∃ W0:World,W0=w4:=⟨_,rfl⟩
  have HBB:=Hd_ HB4.out.1
  have HGB:=Hd_ HB4.out.2.1
  have HCS:=Hd_ HB4.out.2.2
  have HWO:=Hd_ fun wx (h:Below W0.heap.size W0 wx)=>HWN.out wx (HBB.out.trans (h.mono HBB.out.size))
  clear HB4 HB3 HWN
  refine ZAf fun a0 ha0=>?_
  have t14:a0.eval (.tmp 14)=.pointer (some ⟨GB,0,none⟩):=by rw[ha0];rfl
  have t12:a0.eval (.tmp 12)=.slice cA S cc:=by rw[ha0];rfl
  have t2:a0.eval (.tmp 2)=.slice fA F.length fc:=by rw[ha0];rfl
  have t3:a0.eval (.tmp 3)=.int .i64 n:=by rw[ha0];rfl
  have hsz:a0.tmps.size=142:=by rw[ha0];rfl
  have HA0:=Hd_ ha0;clear ha0
  refine Zh [(46,.is (.agg #[.string g.name,.int .i64 g.locals,.int .i64 g.slots,.slice (some ⟨nb,no,none⟩) N nc])),(47,.is (.slice cA S cc)),(48,.is (.slice fA F.length fc)),(49,.is (.int .i64 n)),(50,srO W0.heap.size 3 R.length (ints R)),(51,.is (.int .i64 n)),(52,srM W0),(53,srTr W0 [.string g.name,.int .i64 g.locals,.int .i64 g.slots,.slice (some ⟨nb,no,none⟩) N nc,.slice cA S cc] R n),(54,srTp W0 [.string g.name,.int .i64 g.locals,.int .i64 g.slots,.slice (some ⟨nb,no,none⟩) N nc,.slice cA S cc] R n),(16,srTp W0 [.string g.name,.int .i64 g.locals,.int .i64 g.slots,.slice (some ⟨nb,no,none⟩) N nc,.slice cA S cc] R n)] (by kernel_rfl) (by kernel_rfl) ?steps ?done
  case steps =>
   refine⟨?_,?_,?_,?_,?_,?_,?_,?_,?_,?_,trivial⟩
   ·
    refine JW.step (slots:=slAl) rfl (by decide) (by rw[hsz];decide) (46,.is (.agg #[.string g.name,.int .i64 g.locals,.int .i64 g.slots,.slice (some ⟨nb,no,none⟩) N nc])) rfl rfl rfl ?_
    intro D a wx K hD hp h hK
    have hfr:Fr slAl a0 a:=h.fr
    refine ZD rfl ?_
    have q14:a.eval (.tmp 14)=.pointer (some ⟨GB,0,none⟩):=(hfr.eval (j:=14) (by decide)).trans t14
    refine ZAG hK 38 _ rfl GB (0) q14 _ (by have hb:=h.below;exact fun j v hj=>by rw[Nat.zero_add,(HGB.out.below hb HGB.out.lt).cell];exact hj) Tryd.underlying38 rfl (by kernel_rfl)
   ·
    refine JW.step (slots:=slAl) rfl (by decide) (by rw[hsz];decide) (47,.is (.slice cA S cc)) rfl rfl rfl ?_
    intro D a wx K hD hp h hK
    have hfr:Fr slAl a0 a:=h.fr
    refine ZD rfl ?_
    have q12:a.eval (.tmp 12)=.slice cA S cc:=(hfr.eval (j:=12) (by decide)).trans t12
    exact ZH hK rfl q12
   ·
    refine JW.step (slots:=slAl) rfl (by decide) (by rw[hsz];decide) (48,.is (.slice fA F.length fc)) rfl rfl rfl ?_
    intro D a wx K hD hp h hK
    have hfr:Fr slAl a0 a:=h.fr
    refine ZD rfl ?_
    have q2:a.eval (.tmp 2)=.slice fA F.length fc:=(hfr.eval (j:=2) (by decide)).trans t2
    exact ZH hK rfl q2
   ·
    refine JW.step (slots:=slAl) rfl (by decide) (by rw[hsz];decide) (49,.is (.int .i64 n)) rfl rfl rfl ?_
    intro D a wx K hD hp h hK
    have hfr:Fr slAl a0 a:=h.fr
    refine ZD rfl ?_
    have q3:a.eval (.tmp 3)=.int .i64 n:=(hfr.eval (j:=3) (by decide)).trans t3
    exact ZH hK rfl q3
   ·
    refine JW.step (slots:=slAl) rfl (by decide) (by rw[hsz];decide) (50,srO W0.heap.size 3 R.length (ints R)) rfl rfl rfl ?_
    intro D a wx K hD hp h hK
    have hfr:Fr slAl a0 a:=h.fr
    refine ZD rfl ?_
    have q48:a.eval (.tmp 48)=.slice fA F.length fc:=h.val 2 _ rfl (hp 2 (by decide))
    have q49:a.eval (.tmp 49)=.int .i64 n:=h.val 3 _ rfl (hp 3 (by decide))
    refine ZAH hK Tryd.func30 (by kernel_rfl) (by kernel_rfl) rfl #[.slice fA F.length fc,.int .i64 n] (by simp only[List.map_toArray,List.map_cons,List.map_nil,q48,q49];try rfl) ?_
    refine(HWO.out wx h.below).mono ?_
    rintro e w' ⟨v,rfl,hf,hb⟩
    exact⟨_,rfl,hb,Zi hf h.below.size⟩
   ·
    refine JW.step (slots:=slAl) rfl (by decide) (by rw[hsz];decide) (51,.is (.int .i64 n)) rfl rfl rfl ?_
    intro D a wx K hD hp h hK
    have hfr:Fr slAl a0 a:=h.fr
    refine ZD rfl ?_
    have q3:a.eval (.tmp 3)=.int .i64 n:=(hfr.eval (j:=3) (by decide)).trans t3
    exact ZH hK rfl q3
   ·
    refine JW.step (slots:=slAl) rfl (by decide) (by rw[hsz];decide) (52,srM W0) rfl rfl rfl ?_
    intro D a wx K hD hp h hK
    have hfr:Fr slAl a0 a:=h.fr
    refine ZD rfl ?_
    exact ZJP hK rfl ⟨_,rfl,h.below.size,by rw[ZI7];exact MapIs.new _ _ rfl⟩
   ·
    refine JW.step (slots:=slAl) rfl (by decide) (by rw[hsz];decide) (53,srTr W0 [.string g.name,.int .i64 g.locals,.int .i64 g.slots,.slice (some ⟨nb,no,none⟩) N nc,.slice cA S cc] R n) rfl rfl rfl ?_
    intro D a wx K hD hp h hK
    have hfr:Fr slAl a0 a:=h.fr
    refine ZD rfl ?_
    have q46:a.eval (.tmp 46)=.agg #[.string g.name,.int .i64 g.locals,.int .i64 g.slots,.slice (some ⟨nb,no,none⟩) N nc]:=h.val 0 _ rfl (hp 0 (by decide))
    have q47:a.eval (.tmp 47)=.slice cA S cc:=h.val 1 _ rfl (hp 1 (by decide))
    have q50:=h.val 4 _ rfl (hp 4 (by decide))
    have q51:a.eval (.tmp 51)=.int .i64 n:=h.val 5 _ rfl (hp 5 (by decide))
    have q52:=h.val 6 _ rfl (hp 6 (by decide))
    obtain⟨M,e52,hM0,hM1⟩:=q52
    generalize h1:a.eval (.tmp 50)=o at q50
    have p50:wx.ownsRow W0.heap.size 3 1 o R.length (ints R):=q50
    obtain⟨A1,c1,rfl,-⟩:=ZE p50
    refine ZBw (.agg #[.string g.name,.int .i64 g.locals,.int .i64 g.slots,.slice (some ⟨nb,no,none⟩) N nc,.slice cA S cc,.slice A1 R.length c1,.int .i64 n,.map (some M)]) hK ⟨M,.slice A1 R.length c1,rfl,hM0,hM1,p50⟩ (by clear hfr hK h;generalize a.eval=ρ at *;go_simp)
   ·
    refine JW.step (slots:=slAl) rfl (by decide) (by rw[hsz];decide) (54,srTp W0 [.string g.name,.int .i64 g.locals,.int .i64 g.slots,.slice (some ⟨nb,no,none⟩) N nc,.slice cA S cc] R n) rfl rfl rfl ?_
    intro D a wx K hD hp h hK
    have hfr:Fr slAl a0 a:=h.fr
    refine ZD rfl ?_
    have q53:=h.val 7 _ rfl (hp 7 (by decide))
    obtain⟨M,o,e,h1,h2,h3⟩:=q53
    refine ZFY hK rfl ([.string g.name,.int .i64 g.locals,.int .i64 g.slots,.slice (some ⟨nb,no,none⟩) N nc,.slice cA S cc] ++ [o,.int .i64 n,.map (some M)]) e fun w' hb' hk=>⟨wx.heap.size,M,o,rfl,h.below.size,hk,h1,h2.below hb' h2.lt,ZT h3 hb'⟩
   ·
    refine JW.step (slots:=slAl) rfl (by decide) (by rw[hsz];decide) (16,srTp W0 [.string g.name,.int .i64 g.locals,.int .i64 g.slots,.slice (some ⟨nb,no,none⟩) N nc,.slice cA S cc] R n) rfl rfl rfl ?_
    intro D a wx K hD hp h hK
    have hfr:Fr slAl a0 a:=h.fr
    refine ZD rfl ?_
    have q54:=h.val 8 _ rfl (hp 8 (by decide))
    exact ZAQ hK rfl q54
  case done =>
   intro D a wz hall h
   have hd:∀ i,i < 10→D i=true:=hall
   have hfin:=Fr.allW (slots:=slAl) h.fr (by rw[hsz];decide)
   have v9:=h.val 9 _ rfl (hd 9 (by decide))
   simp only[putW,slAl] at hfin
   rw[(show a.eval (.tmp 46)=.agg #[.string g.name,.int .i64 g.locals,.int .i64 g.slots,.slice (some ⟨nb,no,none⟩) N nc] from h.val 0 _ rfl (hd 0 (by decide))),(show a.eval (.tmp 47)=.slice cA S cc from h.val 1 _ rfl (hd 1 (by decide))),(show a.eval (.tmp 48)=.slice fA F.length fc from h.val 2 _ rfl (hd 2 (by decide))),(show a.eval (.tmp 49)=.int .i64 n from h.val 3 _ rfl (hd 3 (by decide))),(show a.eval (.tmp 51)=.int .i64 n from h.val 5 _ rfl (hd 5 (by decide)))] at hfin
   obtain⟨Y,M,o,e9,hY,hyb,hM0,hM1,hor⟩:=v9
   rw[e9] at hfin
   have hbz:=h.below
   generalize a.eval (.tmp 50)=r50 at hfin
   generalize a.eval (.tmp 52)=r52 at hfin
   generalize a.eval (.tmp 53)=r53 at hfin
   generalize a.eval (.tmp 54)=r54 at hfin
   rw[hfin,HA0.out]
   clear hfin HA0 h hall hd t14 t12 t2 t3 hsz e9
   simp only[Act.put,List.setIfInBounds_toArray,List.set_cons_zero,List.set_cons_succ]
   obtain⟨oA,oc,rfl,-⟩:=ZE hor
   have hbw:=HBB.out.trans (hbz.mono HBB.out.size)
   have hro:Ints (cmap wz) (.slice oA R.length oc) R:=Zv hor
   have htr:Tr (cmap wz) u g Y M R n:=⟨nb,no,nc,cA,cc,oA,oc,by rw[HN.out,HS.out];exact⟨hyb.cell 0,hyb.cell 1,hyb.cell 2,hyb.cell 3,hyb.cell 4,hyb.cell 5,hyb.cell 6,hyb.cell 7⟩,by rw[HN.out];exact HNV.out.mono (ZA hbw),by rw[HS.out];exact(HCS.out.mono (ZV _ _ _)).mono (ZA hbz),hro⟩
   have HME:=Hd_ (ZEd u g Y M R n rv rl wz HRG.out ⟨htr,(HRV.out.1.mono (ZV _ _ _)).mono (ZA hbz)⟩ hM1 (by rw[HN.out];exact HRV.out.2.1) HRV.out.2.2)
   have HZ:=Hd_ (And.intro hbw (And.intro htr (And.intro hM1 (And.intro (Nat.le_trans HBB.out.size hM0) (And.intro (HGB.out.below hbz HGB.out.lt) (And.intro ((HRV.out.1.mono (ZV _ _ _)).mono (ZA hbz)) (fun e:M=GB=>ZF6 (HGB.out.below hbz HGB.out.lt) hM1 (by rw[e]))))))))
   clear hbw hro htr hbz hor hM1 hM0 hyb hY HCS HWO HGB HBB
   obtain⟨rA,rc,rfl,-⟩:=id HZ.out.2.2.2.2.2.1
   go_wp2_with (first
    | (go_at_call 32
       refine(HME.out).mono ?_
       rintro e w8 ⟨rfl,hgr,far,hmf,hfin⟩
       have HFIN:=Hd_ hfin
       have hcm:=ZBh HZ.out.2.2.1 hgr
       have h8:Below w.heap.size w w8:=HZ.out.1.grown hgr HZ.out.1.size (fun k hk=>by injection hk with hk;rw[← hk];exact HZ.out.2.2.2.1)
       have H8:=Hd_ (And.intro h8 (And.intro (HZ.out.2.1.mono hcm) (And.intro hmf (And.intro (HZ.out.2.2.2.2.1.grown hgr (fun e=>HZ.out.2.2.2.2.2.2 (by injection e with e;exact e.symm))) (HZ.out.2.2.2.2.2.1.mono hcm)))))
       clear hgr hmf hfin hcm h8)
    | (refine ZO 90 rfl ?_))
   refine Stop.intro ?_
   refine wpList_store_row rfl 90 _ _ rfl w8.heap.size #[.int .i64 (-1),.bool false] rfl rfl 90 _ (heap_alloc_new _ _) (by kernel_rfl) rfl (by simp[Value.oneCell']) ?_
   rw[World.setRow_alloc_new]
   have hfb:=Blk.new w8 90 [.int .i64 (-1),.bool false]
   have ha9:=ZB w8 (.cells #[.int .i64 (-1),.bool false] 90)
   obtain⟨FB,hFB⟩ : ∃ FB,w8.heap.size=FB:=⟨_,rfl⟩
   obtain⟨w9,hw9⟩ : ∃ w9,w8.alloc (.cells #[.int .i64 (-1),.bool false] 90)=w9:=⟨_,rfl⟩
   have g3:w9.cell? ⟨GB,3,none⟩=some (.slice (some ⟨nb,no,none⟩) N nc):=by rw[← hw9];exact(H8.out.2.2.2.1.below ha9 H8.out.2.2.2.1.lt).cell 3
   rw[hw9] at hfb ha9 ⊢
   rw[hFB] at hfb ha9 ⊢
   have HF9:=Hd_ (And.intro hfb ha9)
   have HFBe:=Hd_ hFB
   clear hfb ha9 hw9 hFB HZ HME
   obtain⟨D,hD⟩ : ∃ D,spD u g R n=D:=⟨_,rfl⟩
   have HDE:=Hd_ hD
   rw[hD] at HAR
   clear hD
   go_wp2_with (fail)
   go_loopw [62] (fun v62 wr=>∃ k:Nat,v62=.int .i64 k∧k≤N∧Hid (Below FB w8 wr)∧Hid (Blk wr FB 90 [.int .i64 (firstF u g D k),.bool false])) (fun v62 _=>N - (intOf v62).toNat)
   case atStart=>exact⟨0,rfl,Nat.zero_le _,Hd_ HF9.out.2,Hd_ HF9.out.1⟩
   case round =>
    clear HF9 g3
    obtain⟨k,rfl,hk,HB,HFB⟩:=hrel
    by_cases hlt:k < N
    ·obtain⟨m,hn⟩ : ∃ m,g.nodes[k]? = some m:=⟨g.nodes[k]'(by rw[HN.out];exact hlt),List.getElem?_eq_getElem _⟩
     obtain⟨nb',no',e,hnc⟩:=HNV.out.at_ hn
     injection e with e
     injection e with e1 e2
     subst e1 e2
     have hb8:Below w8.heap.size w8 wr:=by rw[HFBe.out];exact HB.out
     have hbw:=H8.out.1.trans (hb8.mono H8.out.1.size)
     have HLD2:Hid (∀ j v,m.cells[j]? = some v→wr.cell? ⟨nb,no+k * 13+j,none⟩=some v):=Hd_ fun j v h=>ZA hbw _ _ _ (hnc j v h)
     obtain⟨b,hb⟩ : ∃ b,rl[k]? = some b:=⟨_,List.getElem?_eq_getElem (by rw[HRV.out.2.1];exact hlt)⟩
     obtain⟨rb,ro,e,hrc⟩:=H8.out.2.2.2.2.at_ hb
     subst e
     rw[Nat.mul_one] at hrc
     have hbr:b=true ↔ ReachC g (-1) k:=by rw[← HRV.out.2.2 k,hb];simp
     have HRC:Hid (wr.cell? ⟨rb,ro+k,none⟩=some (.bool b)):=Hd_ (ZA hb8 _ _ _ hrc)
     have HTR:Hid (Tr (cmap wr) u g Y M R n):=Hd_ (H8.out.2.1.mono (ZA hb8))
     have HMP:Hid (MapIs kvS decS wr M (farM far)):=Hd_ (H8.out.2.2.1.below hb8 H8.out.2.2.1.lt)
     obtain⟨dd,isd,hdd,hds,hdn⟩ : ∃ (dd:Int) (isd:Bool),(Value.tuple #[(farM far ((k:Int),false)).getD (.int .i64 0),.bool (farM far ((k:Int),false)).isSome]=.tuple #[.int .i64 dd,.bool isd])∧(isd=true→∃ d:Nat,far (num k false)=some d∧dd=d)∧(isd=false→far (num k false)=none):=by
      cases hf:far (num k false) with
      | none=>exact⟨0,false,by rw[ZFO hf];rfl,fun h=>(by cases h),fun _=>rfl⟩
      | some d=>exact⟨d,true,by rw[ZAN hf];rfl,fun _=>⟨d,rfl,rfl⟩,fun h=>by cases h⟩
     have hfst:=fun {ef:Int} (he:0≤firstF u g (spD u g R n) k→(spD u g R n)[num (firstF u g (spD u g R n) k).toNat false]? = some ef)=>ZHB HFIN.out hn hbr hds hdn he
     have hffr:=ZFK (k:=k) HFIN.out
     rw[HDE.out] at hffr hfst
     have HFFR:=Hd_ hffr
     obtain⟨st,hst⟩ : ∃ st,stB u m=st:=⟨_,rfl⟩
     rw[hst] at hfst
     have HST:=Hd_ hst
     obtain⟨f,hf⟩ : ∃ f,firstF u g D k=f:=⟨_,rfl⟩
     obtain⟨ef,hef,heM⟩ : ∃ ef:Int,(0≤f→D[num f.toNat false]? = some ef)∧(0≤f→(farM far (f,false)).getD (.int .i64 0)=.int .i64 ef):=by
      by_cases h0:0≤f
      ·obtain⟨i,e,h1,_,_,_,h2,h3⟩:=hffr (by rw[hf];exact h0)
       rw[hf] at h1
       subst h1
       exact⟨e,fun _=>by rw[Int.toNat_natCast];exact h3,fun _=>by rw[ZAN h2];rfl⟩
      ·exact⟨0,fun h=>absurd h h0,fun h=>absurd h h0⟩
     have hfs2:=hfst (ef:=ef) (by rw[hf];exact hef)
     rw[hf] at hfs2 HFB
     have HFS:=Hd_ hfs2
     have HDD:=Hd_ hdd
     have HEM:=Hd_ heM
     have HTHN:Hid (m.kind=3→0≤m.thing∧m.thing < u.shared.length):=Hd_ fun h=>ZFP (HRG.out.nodes m (List.mem_of_getElem? hn)) (.inr h)
     have k0:(0:Int)≤k:=by omega
     have kN:(k:Int) < N:=by omega
     have k4:(k:Int)≤4096:=by omega
     have kR:(k:Int) < rl.length:=by rw[HRV.out.2.1];exact kN
     clear hn hnc hb8 hbw hb hrc hbr hdd hds hdn hfst hffr hst hef heM hfs2 hf HFFR
     unfold Node.cells at HLD2
     go_wp2_with (first
      | (refine ZC rfl 61 _ rfl nb (no+k * 13) rfl _ _ HLD2.out Tryd.underlying61 rfl (by kernel_rfl) ?_)
      | (refine ZO 61 rfl ?_))
     refine Stop.intro ?_
     refine wpList_store_row rfl 61 _ _ rfl wr.heap.size #[.int .u8 m.kind,.int .u8 m.op,.int .i64 m.slot,.int .i64 m.thing,.bool m.a.isSlot,.int .i64 m.a.slot,.int .i64 m.a.word,.bool m.b.isSlot,.int .i64 m.b.slot,.int .i64 m.b.word,.int .i64 m.next,.int .i64 m.els,.int .i64 m.origin] rfl rfl 61 _ (heap_alloc_new _ _) (by kernel_rfl) rfl (by simp[Value.oneCell']) ?_
     rw[World.setRow_alloc_new]
     have hnb:=Blk.new wr 61 [.int .u8 m.kind,.int .u8 m.op,.int .i64 m.slot,.int .i64 m.thing,.bool m.a.isSlot,.int .i64 m.a.slot,.int .i64 m.a.word,.bool m.b.isSlot,.int .i64 m.b.slot,.int .i64 m.b.word,.int .i64 m.next,.int .i64 m.els,.int .i64 m.origin]
     have ha2:=ZB wr (.cells #[.int .u8 m.kind,.int .u8 m.op,.int .i64 m.slot,.int .i64 m.thing,.bool m.a.isSlot,.int .i64 m.a.slot,.int .i64 m.a.word,.bool m.b.isSlot,.int .i64 m.b.slot,.int .i64 m.b.word,.int .i64 m.next,.int .i64 m.els,.int .i64 m.origin] 61)
     obtain⟨X,hX⟩ : ∃ X,wr.heap.size=X:=⟨_,rfl⟩
     obtain⟨w2,hw2⟩ : ∃ w2,wr.alloc (.cells #[.int .u8 m.kind,.int .u8 m.op,.int .i64 m.slot,.int .i64 m.thing,.bool m.a.isSlot,.int .i64 m.a.slot,.int .i64 m.a.word,.bool m.b.isSlot,.int .i64 m.b.slot,.int .i64 m.b.word,.int .i64 m.next,.int .i64 m.els,.int .i64 m.origin] 61)=w2:=⟨_,rfl⟩
     rw[hw2] at hnb ha2 ⊢
     rw[hX] at hnb ⊢
     have HX2:=Hd_ (And.intro hnb ha2)
     clear hnb ha2 hX hw2
     go_wp2_with (refine ZO 90 rfl ?_)
     refine Stop.intro ?_
     refine wpList_store_row rfl 90 _ _ rfl w2.heap.size #[.int .i64 (k:Nat),.bool false] rfl rfl 90 _ (heap_alloc_new _ _) (by kernel_rfl) rfl (by simp[Value.oneCell']) ?_
     rw[World.setRow_alloc_new]
     have hsb:=Blk.new w2 90 [.int .i64 (k:Nat),.bool false]
     have ha3:=ZB w2 (.cells #[.int .i64 (k:Nat),.bool false] 90)
     obtain⟨SB,hSB⟩ : ∃ SB,w2.heap.size=SB:=⟨_,rfl⟩
     obtain⟨w3,hw3⟩ : ∃ w3,w2.alloc (.cells #[.int .i64 (k:Nat),.bool false] 90)=w3:=⟨_,rfl⟩
     rw[hw3] at hsb ha3 ⊢
     rw[hSB] at hsb ⊢
     have h3:=HX2.out.2.trans (ha3.mono HX2.out.2.size)
     have HB3:=Hd_ h3
     have HX3:=Hd_ (HX2.out.1.below ha3 HX2.out.1.lt)
     have HS3:=Hd_ hsb
     have HF3:=Hd_ (HFB.out.below h3 HFB.out.lt)
     have HM3:=Hd_ (HMP.out.below h3 HMP.out.lt)
     have HT3:=Hd_ (HTR.out.mono (ZA h3))
     have s0:w3.cell? ⟨SB,0,none⟩=some (.int .i64 (k:Nat)):=hsb.cell 0
     have s1:w3.cell? ⟨SB,1,none⟩=some (.bool false):=hsb.cell 1
     have y7:w3.cell? ⟨Y,4+3,none⟩=some (.map (some M)):=by obtain⟨_,_,_,_,_,_,_,⟨-,-,-,-,-,-,-,h7⟩,-⟩:=HT3.out.ex;exact h7
     have y7':w3.cell? ⟨Y,7,none⟩=some (.map (some M)):=y7
     have HRC3:=Hd_ (ZA h3 _ _ _ HRC.out)
     clear hsb ha3 h3 hSB hw3 y7 HX2 HMP HTR HRC HFB HLD2
     go_upto_region 14 with(fail)
     simp only[put_none]
     go_cut [21,22,62] from 62 to 117 (fun v21 v22 v62 wx=>v21=.int .i64 dd∧v22=.bool isd∧v62=.int .i64 (k:Nat)∧Below w3.heap.size w3 wx)
     case first =>
      refine wp_region_quiet_lit (by kernel_rfl) (by kernel_rfl) ?_
      repeat (go_big_quiet_step (fail))
      refine ZS Zs Tryd.underlying85 (by rfl) _ _ true rfl M (farM far) HM3.out ((k:Int),false) rfl rfl (.int .i64 0) (fun _=>rfl) (.tuple #[.int .i64 dd,.bool isd]) HDD.out ?_
      simp only[Act.put,List.setIfInBounds_toArray,List.set_cons_zero,List.set_cons_succ]
      repeat (go_big_quiet_step (fail))
      refine wpQuiet_nil ?_
      intro _ hw'
      obtain⟨n2,hw2⟩:=hw'
      subst hw2
      go_wp2
      go_meet
      exact⟨rfl,rfl,rfl,ZF _ _⟩
     case rest =>
      obtain⟨rfl,rfl,rfl,hb4⟩:=hcut
      have HX4:=Hd_ (HX3.out.below hb4 HX3.out.lt)
      have HT4:=Hd_ (HT3.out.mono (ZA hb4))
      have HB4:=Hd_ hb4
      have p0:wc.cell? ⟨X,0,none⟩=some (.int .u8 m.kind):=HX4.out.cell 0
      clear s0 s1 y7' hb4
      obtain⟨w4,rfl⟩ : ∃ w4:World,w4=wc:=⟨_,rfl⟩
      skip
      go_upto_region 15 with(fail)
      go_cut [23,62] from 62 to 117 (fun v23 v62 wx=>v23=.bool st∧v62=.int .i64 (k:Nat)∧Below w4.heap.size w4 wx)
      case first =>
       by_cases h6:m.kind=6
       ·have d6:(m.kind == 6)=true:=by simp[h6]
        have hs:st=true:=by rw[← HST.out];exact decide_eq_true (.inl h6)
        subst hs
        clear h6
        go_wp2_with (fail)
        go_meet
        exact⟨rfl,rfl,Below.refl _ _⟩
       ·have d6:(m.kind == 6)=false:=by simp[h6]
        by_cases h3:m.kind=3
        ·have d3:(m.kind == 3)=true:=by simp[h3]
         have hth:=HTHN.out h3
         have hra:=ZDW u g Y M R _ m w4 HT4.out hth.1 hth.2
         have hs:decide ((classF u m.thing).kind=3)=st:=by
          rw[← HST.out]
          exact decide_eq_decide.2 ⟨fun h=>.inr ⟨h3,h⟩,fun h=>(h.resolve_left h6).2⟩
         rw[hs] at hra
         have HRA:=Hd_ hra
         unfold Node.cells at HRA
         obtain⟨p0',p1,p2,p3,p4,p5,p6,p7,p8,p9,p10,p11,p12⟩:=ZDN (n:=m) (w:=w4) (b:=X) (o:=0) (by unfold Node.cells;exact fun j v hj=>by rw[Nat.zero_add,HX4.out.cell];exact hj)
         simp only[Nat.zero_add] at p0' p1 p2 p3 p4 p5 p6 p7 p8 p9 p10 p11 p12
         clear h6 h3 hra hs hth p0
         go_wp2_with (first
          | (go_at_call 33
             refine(HRA.out).mono ?_
             rintro e w5 ⟨rfl,hb5⟩
             have HB5:=Hd_ hb5
             clear hb5))
         go_meet
         exact⟨rfl,rfl,HB5.out⟩
        ·have d3:(m.kind == 3)=false:=by simp[h3]
         have hs:st=false:=by rw[← HST.out];exact decide_eq_false (fun h=>by rcases h with h | h;exact h6 h;exact h3 h.1)
         subst hs
         clear h6 h3
         go_wp2_with (fail)
         go_meet
         exact⟨rfl,rfl,Below.refl _ _⟩
      case rest =>
       obtain⟨rfl,rfl,hb5⟩:=hcut
       have h35:=HB4.out.trans (hb5.mono HB4.out.size)
       have HF5:=Hd_ (HF3.out.below h35 HF3.out.lt)
       have HM5:=Hd_ (HM3.out.below h35 HM3.out.lt)
       have HS5:=Hd_ (HS3.out.below h35 HS3.out.lt)
       have HB5:=Hd_ (HB3.out.trans (h35.mono HB3.out.size))
       have y7:wc.cell? ⟨Y,7,none⟩=some (.map (some M)):=by obtain⟨_,_,_,_,_,_,_,⟨-,-,-,-,-,-,-,h7⟩,-⟩:=(HT4.out.mono (ZA hb5)).ex;exact h7
       have f0:wc.cell? ⟨FB,0,none⟩=some (.int .i64 f):=HF5.out.cell 0
       have f1:wc.cell? ⟨FB,1,none⟩=some (.bool false):=HF5.out.cell 1
       have r0:wc.cell? ⟨rb,ro+k,none⟩=some (.bool b):=ZA h35 _ _ _ HRC3.out
       clear hb5 h35 p0
       obtain⟨w5,rfl⟩ : ∃ w5:World,w5=wc:=⟨_,rfl⟩
       obtain⟨cb,hcb⟩ : ∃ cb,(isd && (b && (st && (decide (f < 0) || decide (dd < ef)))))=cb:=⟨_,rfl⟩
       rw[hcb] at HFS
       go_upto_region 16 with(fail)
       go_cut [115,62] from 62 to 117 (fun v115 v62 wx=>v115=.bool cb∧v62=.int .i64 (k:Nat)∧Below w5.heap.size w5 wx)
       case first =>
        have fin16:True:=trivial
        cases isd with
        | false =>
         have hs:cb=false:=by rw[← hcb];rfl
         subst hs
         clear hcb
         refine wp_region_quiet_lit (by kernel_rfl) (by kernel_rfl) ?_
         repeat (go_big_quiet_step (fail))
         refine wpQuiet_nil ?_
         intro _ hw'
         obtain⟨n2,hw2⟩:=hw'
         subst hw2
         go_wp2
         go_meet
         exact⟨rfl,rfl,ZF _ _⟩
        | true =>
         cases b with
         | false =>
          have hs:cb=false:=by rw[← hcb];rfl
          subst hs
          clear hcb
          refine wp_region_quiet_lit (by kernel_rfl) (by kernel_rfl) ?_
          repeat (go_big_quiet_step (fail))
          refine wpQuiet_nil ?_
          intro _ hw'
          obtain⟨n2,hw2⟩:=hw'
          subst hw2
          go_wp2
          go_meet
          exact⟨rfl,rfl,ZF _ _⟩
         | true =>
          cases st with
          | false =>
           have hs:cb=false:=by rw[← hcb];rfl
           subst hs
           clear hcb
           refine wp_region_quiet_lit (by kernel_rfl) (by kernel_rfl) ?_
           repeat (go_big_quiet_step (fail))
           refine wpQuiet_nil ?_
           intro _ hw'
           obtain⟨n2,hw2⟩:=hw'
           subst hw2
           go_wp2
           go_meet
           exact⟨rfl,rfl,ZF _ _⟩
          | true =>
           by_cases hf0:f < 0
           ·have df:decide (f < 0)=true:=decide_eq_true hf0
            have hs:cb=true:=by rw[← hcb,df];rfl
            subst hs
            clear hcb hf0
            refine wp_region_quiet_lit (by kernel_rfl) (by kernel_rfl) ?_
            repeat (go_big_quiet_step (fail))
            refine wpQuiet_nil ?_
            intro _ hw'
            obtain⟨n2,hw2⟩:=hw'
            subst hw2
            go_wp2
            go_meet
            exact⟨rfl,rfl,ZF _ _⟩
           ·have df:decide (f < 0)=false:=decide_eq_false hf0
            have hlk:=HEM.out (by omega)
            have HLK:=Hd_ hlk
            have hs:cb=decide (dd < ef):=by rw[← hcb,df];simp
            subst hs
            clear hcb hf0 hlk
            refine wp_region_quiet_lit (by kernel_rfl) (by kernel_rfl) ?_
            repeat (go_big_quiet_step (fail))
            refine ZS Zs Tryd.underlying85 (by rfl) _ _ false rfl M (farM far) HM5.out (f,false) rfl rfl (.int .i64 0) (fun _=>rfl) (.int .i64 ef) HLK.out ?_
            simp only[Act.put,List.setIfInBounds_toArray,List.set_cons_zero,List.set_cons_succ]
            repeat (go_big_quiet_step (fail))
            refine wpQuiet_nil ?_
            intro _ hw'
            obtain⟨n2,hw2⟩:=hw'
            subst hw2
            go_wp2
            go_meet
            exact⟨rfl,rfl,ZF _ _⟩
       case rest =>
        obtain⟨rfl,rfl,hb6⟩:=hcut
        have HF6:=Hd_ (HF5.out.below hb6 HF5.out.lt)
        have HS6:=Hd_ (HS5.out.below hb6 HS5.out.lt)
        have HB6:=Hd_ (HB.out.trans ((HB5.out.trans (hb6.mono HB5.out.size)).mono (by rw[← HFBe.out];exact HB.out.size)))
        have s0:wc.cell? ⟨SB,0,none⟩=some (.int .i64 (k:Nat)):=HS6.out.cell 0
        have s1:wc.cell? ⟨SB,1,none⟩=some (.bool false):=HS6.out.cell 1
        clear hb6 y7 f0 f1 r0 hcb
        obtain⟨w6,rfl⟩ : ∃ w6:World,w6=wc:=⟨_,rfl⟩
        cases cb with
        | true =>
         rw[if_pos rfl] at HFS
         go_wp2_with (refine ZO 90 rfl ?_)
         refine Stop.intro ?_
         refine wpList_store_row rfl 90 _ _ rfl FB #[.int .i64 (k:Nat),.bool false] rfl rfl 90 _ HF6.out (by kernel_rfl) rfl (by simp[Value.oneCell']) ?_
         have H7:=Hd_ (And.intro (ZBU HB6.out (Nat.le_refl _) #[.int .i64 (k:Nat),.bool false]) (Blk.setRow (cs':=[.int .i64 (k:Nat),.bool false]) HF6.out))
         go_wp2_with (fail)
         go_roundw
         case rel =>
          first
           | exact⟨k+1,by go_num,by omega,Hd_ H7.out.1,Hd_ (by rw[HFS.out];exact H7.out.2)⟩
           | ((repeat apply Exists.intro);exact⟨⟨k+1,by go_num,by omega,Hd_ H7.out.1,Hd_ (by rw[HFS.out];exact H7.out.2)⟩,rfl⟩)
         case measure=>simp[intOf];omega
        | false =>
         rw[if_neg (by simp)] at HFS
         go_wp2_with (fail)
         go_roundw
         case rel =>
          first
           | exact⟨k+1,by go_num,by omega,Hd_ HB6.out,Hd_ (by rw[HFS.out];exact HF6.out)⟩
           | ((repeat apply Exists.intro);exact⟨⟨k+1,by go_num,by omega,Hd_ HB6.out,Hd_ (by rw[HFS.out];exact HF6.out)⟩,rfl⟩)
         case measure=>simp[intOf];omega
    ·obtain rfl:N=k:=by omega
     clear hk hlt
     have hb8:Below w8.heap.size w8 wr:=by rw[HFBe.out];exact HB.out
     have hbw:=H8.out.1.trans (hb8.mono H8.out.1.size)
     have HM8:=Hd_ (H8.out.2.2.1.below hb8 H8.out.2.2.1.lt)
     obtain⟨f,hf⟩ : ∃ f,firstF u g D N=f:=⟨_,rfl⟩
     have hffr:=ZFK (k:=N) HFIN.out
     rw[HDE.out,hf] at hffr
     rw[hf] at HAR HFB
     have f0:wr.cell? ⟨FB,0,none⟩=some (.int .i64 f):=HFB.out.cell 0
     have f1:wr.cell? ⟨FB,1,none⟩=some (.bool false):=HFB.out.cell 1
     have HBW:=Hd_ hbw
     clear hb8 hbw hf
     by_cases h0:f < 0
     ·have df:decide (f < 0)=true:=decide_eq_true h0
      rw[if_pos h0] at HAR
      clear h0 hffr
      go_wp2_with (fail)
      refine bodyPost_ret (v:=.tuple #[.slice none 0 0,.bool false,.int .i64 0]) (by simp[results,Tryd.results12,go_sem]) rfl ?_
      exact⟨.slice none 0 0,by rw[HAR.out],by rw[HAR.out];exact World.ownsRow_nil _ _ _ _,HBW.out⟩
     ·have df:decide (f < 0)=false:=decide_eq_false h0
      rw[if_neg h0] at HAR
      obtain⟨i0,e0,rfl,-,hr0,hi0,hf0,hD0⟩:=hffr (by omega)
      rw[Int.toNat_natCast,hD0] at HAR
      simp only[Option.getD_some,Int.toNat_natCast] at HAR
      have he8:e0≤8192:=by
       have:=((HFIN.out (num i0 false)).1 e0 hf0)
       have:=ZJX this.1
       have h2:=(HFIN.out (num i0 false)).1 e0 hf0
       have h3:=h2.lt (N:=2 * g.nodes.length) (fun i d hd=>sp_lt (ZJX hd))
       rw[HN.out] at h3
       omega
      obtain⟨ans,hans⟩ : ∃ ans,waySp g D R n e0 (i0:Int) false=ans:=⟨_,rfl⟩
      rw[hans] at HAR
      have HI0:Hid (i0 < N∧ReachC g (-1) i0∧((i0:Int) ∉ R∨false=false)∧D[num i0 false]? = some (e0:Int)):=Hd_ ⟨by rw[← HN.out];exact hi0,hr0,.inr rfl,hD0⟩
      have HANS:=Hd_ hans
      have HE8:Hid (ans.length=e0+1∧e0≤8192):=Hd_ ⟨by rw[← hans,ZAc],he8⟩
      clear h0 hffr hr0 hi0 hf0 hD0 hans
      have f0':(wr.alloc (.cells #[.int .i64 (i0:Nat)] 3)).cell? ⟨FB,0,none⟩=some (.int .i64 (i0:Nat)):=ZA (ZB wr _) _ _ _ f0
      have f1':(wr.alloc (.cells #[.int .i64 (i0:Nat)] 3)).cell? ⟨FB,1,none⟩=some (.bool false):=ZA (ZB wr _) _ _ _ f1
      go_wp2_with (refine ZO 90 rfl ?_)
      refine Stop.intro ?_
      obtain⟨w2,hw2⟩ : ∃ w2,wr.alloc (.cells #[.int .i64 (i0:Nat)] 3)=w2:=⟨_,rfl⟩
      have hs2:w2.heap.size=wr.heap.size+1:=by rw[← hw2];simp
      have hbr:FB≤wr.heap.size:=by have:=HFB.out.lt;omega
      have how:w2.ownsRow FB 3 1 (.slice (some ⟨wr.heap.size,0,none⟩) 1 1) ([] ++ [(i0:Int)]).length (ints ([] ++ [(i0:Int)])):=by
       rw[← hw2]
       exact ZA8 wr #[.int .i64 (i0:Nat)] wr.heap.size rfl hbr (by decide) rfl [.int .i64 (i0:Nat)] rfl
      have ha2:Below wr.heap.size wr w2:=by rw[← hw2];exact ZB _ _
      rw[hw2,← hs2]
      clear hw2 f0' f1'
      refine wpList_store_row rfl 90 _ _ rfl w2.heap.size #[.int .i64 (i0:Nat),.bool false] rfl rfl 90 _ (heap_alloc_new _ _) (by kernel_rfl) rfl (by simp[Value.oneCell']) ?_
      rw[World.setRow_alloc_new]
      have hab:=Blk.new w2 90 [.int .i64 (i0:Nat),.bool false]
      have ha3:=ZB w2 (.cells #[.int .i64 (i0:Nat),.bool false] 90)
      obtain⟨w3,hw3⟩ : ∃ w3,w2.alloc (.cells #[.int .i64 (i0:Nat),.bool false] 90)=w3:=⟨_,rfl⟩
      rw[hw3] at hab ha3 ⊢
      have hb3:Below FB w8 w3:=HB.out.trans ((ha2.trans (ha3.mono ha2.size)).mono hbr)
      have H3:=Hd_ (And.intro hab (And.intro (ZT how ha3) (And.intro hb3 (Nat.le_trans hbr ha2.size))))
      clear hab ha3 ha2 hw3 hb3 how hs2 f0 f1 HFB HB
      rw[← HFBe.out] at H3
      go_wp2_with (fail)
      simp only[put_none]
      obtain⟨wv,rfl⟩ : ∃ wv:World,wv=wr:=⟨_,rfl⟩
      go_loopg [24,25] (e0) (fun d v24 v25 wr=>AwR g D R n w8 ans N d v24 v25 wr)
      case atStart=>exact⟨i0,false,[],_,e0,rfl,rfl,he8,Hd_ H3.out.2.2.1,Hd_ ⟨H3.out.1,H3.out.2.2.2⟩,Hd_ H3.out.2.1,HANS,Hd_ ⟨HI0.out.1,HI0.out.2.1,.inr rfl,HI0.out.2.2.2⟩⟩
      case round =>
       clear H3 HI0 HANS HM8
       obtain⟨i,p,pre,AB,d',rfl,hdd,hd8,HBL,HAB,HOW,HWY,HIX⟩:=hrel
       obtain⟨wo,rfl⟩ : ∃ wo:World,wo=wr:=⟨_,rfl⟩
       obtain⟨vA,vc,rfl,-⟩:=ZE HOW.out
       have HM:=Hd_ (H8.out.2.2.1.below HBL.out H8.out.2.2.1.lt)
       have HT:=Hd_ (H8.out.2.1.mono (ZA HBL.out))
       obtain⟨m,hm⟩ : ∃ m,g.nodes[i]? = some m:=⟨g.nodes[i]'(by rw[HN.out];exact HIX.out.1),List.getElem?_eq_getElem _⟩
       have hlen:=congrArg List.length HWY.out
       rw[List.length_append,ZAc] at hlen
       have hfx:far (num i p)=some d':=by
        have h1:=ZB1 HFIN.out (by rw[HN.out];exact HIX.out.1) HIX.out.2.1 HIX.out.2.2.1
        rw[HDE.out,HIX.out.2.2.2] at h1
        cases hq:far (num i p) with
        | none=>rw[hq] at h1;injection h1 with h1;simp only at h1;omega
        | some e=>rw[hq] at h1;injection h1 with h1;simp only at h1;congr 1;omega
       have HFX:=Hd_ hfx
       have a0:wo.cell? ⟨AB,0,none⟩=some (.int .i64 (i:Nat)):=HAB.out.1.cell 0
       have a1:wo.cell? ⟨AB,1,none⟩=some (.bool p):=HAB.out.1.cell 1
       have y7:wo.cell? ⟨Y,7,none⟩=some (.map (some M)):=by obtain⟨_,_,_,_,_,_,_,⟨-,-,-,-,-,-,-,h7⟩,-⟩:=HT.out.ex;exact h7
       have HDD:=Hd_ hdd
       have HMM:=Hd_ hm
       have HLEN:=Hd_ hlen
       clear hfx hdd hm hlen
       go_upto_region 23 with(fail)
       refine wp_region_quiet_lit (by kernel_rfl) (by kernel_rfl) ?_
       repeat (go_big_quiet_step (fail))
       refine ZS Zs Tryd.underlying85 (by rfl) _ _ false rfl M (farM far) HM.out ((i:Int),p) rfl rfl (.int .i64 0) (fun _=>rfl) (.int .i64 (d':Nat)) (by rw[ZAN HFX.out];rfl) ?_
       simp only[Act.put,List.setIfInBounds_toArray,List.set_cons_zero,List.set_cons_succ]
       repeat (go_big_quiet_step (fail))
       refine wpQuiet_nil ?_
       intro _ hw'
       obtain⟨n2,hw2⟩:=hw'
       subst hw2
       obtain⟨wd,hwd⟩ : ∃ wd,wo.drewN n2=wd:=⟨_,rfl⟩
       have hbd:Below wo.heap.size wo wd:=by rw[← hwd];exact ZF _ _
       have d0:wd.cell? ⟨AB,0,none⟩=some (.int .i64 (i:Nat)):=by rw[← hwd];exact a0
       have d1:wd.cell? ⟨AB,1,none⟩=some (.bool p):=by rw[← hwd];exact a1
       have HAD:=Hd_ (HAB.out.1.below hbd HAB.out.1.lt)
       have HOD:=Hd_ (ZT HOW.out hbd)
       have HBD:=Hd_ (HBL.out.trans (hbd.mono HBL.out.size))
       have HTD:=Hd_ (HT.out.mono (ZA hbd))
       have HMD:=Hd_ (HM.out.below hbd HM.out.lt)
       rw[hwd]
       clear hwd hbd a0 a1 y7
       cases d' with
       | zero =>
        have dz:decide ((0:Int) < ((0:Nat) : Int))=false:=rfl
        have hpre:pre ++ [(i:Int)]=ans:=HWY.out
        have HPR:=Hd_ hpre
        clear hpre
        go_wp2_with (fail)
        refine bodyPost_ret (v:=.tuple #[.slice vA (pre ++ [(i:Int)]).length vc,.bool true,.int .i64 0]) (by simp[results,Tryd.results12,go_sem]) rfl ?_
        have hfb:=H8.out.1.size
        refine⟨.slice vA (pre ++ [(i:Int)]).length vc,by rw[HAR.out],?_,?_⟩
        ·rw[HAR.out,← HPR.out]
         exact Zi HOD.out hfb
        ·exact H8.out.1.trans (HBD.out.mono hfb)
       | succ d =>
        have dz:decide ((0:Int) < ((d+1:Nat) : Int))=true:=decide_eq_true (by omega)
        have hx:(spD u g R n)[num i p]? = some ((d:Int)+1):=by
         rw[HDE.out,HIX.out.2.2.2]
         congr 1
        have hnx:=ZGv u g Y M R n far i d p m wd HRG.out HTD.out HMD.out HFIN.out HMM.out HIX.out.2.1 HIX.out.2.2.1 hx (by omega)
        obtain⟨-,hbest,-⟩:=ZEP HRG.out.whole HMM.out hx
        obtain⟨z,hz⟩ : ∃ z,bestS (spD u g R n) R n p (d:Int) (-1) (fol m)=z:=⟨_,rfl⟩
        have hz2:bestS D R n p (d:Int) (-1) (folAt g (i:Int))=z:=by
         have:folAt g (i:Int)=fol m:=by unfold folAt;rw[Int.toNat_natCast,HMM.out]
         rw[this,← HDE.out]
         exact hz
        rw[hz] at hnx hbest
        have hzb:=HRG.out.whole.fol m (List.mem_of_getElem? HMM.out) z hbest.1
        rw[HN.out] at hzb
        obtain⟨j,rfl⟩:=Int.eq_ofNat_of_zero_le hzb.1
        obtain⟨q,hq⟩ : ∃ q,(p || decide ((j:Int)=n))=q:=⟨_,rfl⟩
        have hDj:=hbest.2.1.2
        unfold nxt at hDj
        rw[Int.toNat_natCast,hq,HDE.out] at hDj
        rw[hq] at hnx
        have HNXT:=Hd_ hnx
        have HJX:Hid (j < N∧ReachC g (-1) j∧((j:Int) ∉ R∨q=false)∧D[num j q]? = some (d:Int)):=Hd_ ⟨by omega,.step HIX.out.2.1 (by omega) HMM.out hbest.1,.inl hbest.2.1.1,hDj⟩
        have hwy:(pre ++ [(i:Int)]) ++ waySp g D R n d (j:Int) q=ans:=by
         have h1:=HWY.out
         have h2:waySp g D R n (d+1) (i:Int) p=(i:Int) :: waySp g D R n d (j:Int) q:=by
          show(i:Int) :: waySp g D R n d (bestS D R n p (d:Int) (-1) (folAt g i)) (p || decide (bestS D R n p (d:Int) (-1) (folAt g i)=n))=_
          rw[hz2,hq]
         rw[h2] at h1
         rw[← h1]
         simp
        have HWJ:=Hd_ hwy
        have hlen8:(pre ++ [(i:Int)]).length≤8193:=by have h1:=HLEN.out;have h2:=HE8.out;simp;omega
        have HL8:=Hd_ hlen8
        obtain⟨l,hl⟩ : ∃ l,pre ++ [(i:Int)]=l:=⟨_,rfl⟩
        rw[hl] at HOD HWJ HL8 ⊢
        clear hx hnx hbest hz hz2 hzb hq hDj hwy hlen8 hl
        go_wp2_with (first
         | (go_at_call 34
            refine(HNXT.out).mono ?_
            rintro e w5 ⟨rfl,hb5⟩
            have HB5:=Hd_ (And.intro (HAD.out.below hb5 HAD.out.lt) (And.intro (ZT HOD.out hb5) (HBD.out.trans (hb5.mono HBD.out.size))))
            clear hb5)
         | (refine ZO 90 rfl ?_))
        refine Stop.intro ?_
        refine wpList_store_row rfl 90 _ _ rfl AB #[.int .i64 (j:Nat),.bool q] rfl rfl 90 _ HB5.out.1 (by kernel_rfl) rfl (by simp[Value.oneCell']) ?_
        have hb6:=Blk.setRow (cs':=[.int .i64 (j:Nat),.bool q]) HB5.out.1
        have ho6:(w5.setRow AB #[.int .i64 (j:Nat),.bool q]).ownsRow w8.heap.size 3 1 (.slice vA l.length vc) l.length (ints l):=HB5.out.2.1.kept (ZH1 w5 AB _) (.inr fun e=>ZQ HB5.out.2.1 HB5.out.1 (by decide) e.symm)
        have hl6:=ZBU HB5.out.2.2 HAB.out.2 #[.int .i64 (j:Nat),.bool q]
        obtain⟨w6,hw6⟩ : ∃ w6,w5.setRow AB #[.int .i64 (j:Nat),.bool q]=w6:=⟨_,rfl⟩
        rw[hw6] at hb6 ho6 hl6 ⊢
        have a0:w6.cell? ⟨AB,0,none⟩=some (.int .i64 (j:Nat)):=hb6.cell 0
        have a1:w6.cell? ⟨AB,1,none⟩=some (.bool q):=hb6.cell 1
        have H6:=Hd_ (And.intro hb6 (And.intro ho6 hl6))
        clear hb6 ho6 hl6 hw6 d0 d1
        go_wp2_with (refine ZN rfl ?_)
        refine Stop.intro ?_
        have hL8:=HL8.out
        have hs6:=H6.out.2.2.size
        refine Zg Z2 rfl _ _ rfl w8.heap.size (.slice vA l.length vc) l.length (ints l) rfl (H6.out.2.1.alloc _) w6.heap.size 0 1 [.int .i64 (j:Nat)] rfl rfl (ZL w6 [.int .i64 (j:Nat)] _ _ rfl) (by simp[Value.oneCell']) (by omega) (by decide) (by simp;omega) ?_
        intro v' w7 hown7 hgr7 hob7
        have ha7:=ZB w6 (.cells #[.int .i64 (j:Nat)] 3)
        have hb7:=(H6.out.1.below ha7 H6.out.1.lt).grown hgr7 (fun e=>ZQ H6.out.2.1 H6.out.1 (by decide) e)
        have hl7:Below w8.heap.size w8 w7:=(H6.out.2.2.trans (ha7.mono hs6)).grown hgr7 (by have:=ha7.size;omega) (fun k hk=>(H6.out.2.1.lt k hk).1)
        have ho7:w7.ownsRow w8.heap.size 3 1 v' (l ++ [(j:Int)]).length (ints (l ++ [(j:Int)])):=by
         have e1:(l ++ [(j:Int)]).length=l.length+1:=by simp
         have e2:ints (l ++ [(j:Int)])=ints l ++ [.int .i64 (j:Nat)]:=by simp[ints]
         rw[e1,e2]
         exact hown7
        have b0:w7.cell? ⟨AB,0,none⟩=some (.int .i64 (j:Nat)):=hb7.cell 0
        have b1:w7.cell? ⟨AB,1,none⟩=some (.bool q):=hb7.cell 1
        have H7:=Hd_ (And.intro ho7 hl7)
        clear ha7 hb7 hl7 ho7 hown7 hgr7 hob7 hL8 hs6 a0 a1
        go_wp2_with (refine ZO 90 rfl ?_)
        refine Stop.intro ?_
        refine wpList_store_row rfl 90 _ _ rfl w7.heap.size #[.int .i64 (j:Nat),.bool q] rfl rfl 90 _ (heap_alloc_new _ _) (by kernel_rfl) rfl (by simp[Value.oneCell']) ?_
        rw[World.setRow_alloc_new]
        have hnb:=Blk.new w7 90 [.int .i64 (j:Nat),.bool q]
        have ha8:=ZB w7 (.cells #[.int .i64 (j:Nat),.bool q] 90)
        obtain⟨w9,hw9⟩ : ∃ w9,w7.alloc (.cells #[.int .i64 (j:Nat),.bool q] 90)=w9:=⟨_,rfl⟩
        rw[hw9] at hnb ha8 ⊢
        have H9:=Hd_ (And.intro hnb (And.intro (ZT H7.out.1 ha8) (And.intro (H7.out.2.trans (ha8.mono H7.out.2.size)) H7.out.2.size)))
        clear hnb ha8 hw9 b0 b1
        go_wp2_with (fail)
        go_roundg d
        case measure=>have:=HDD.out;omega
        case rel=>exact⟨j,q,l,_,d,rfl,rfl,by omega,Hd_ H9.out.2.2.1,Hd_ ⟨H9.out.1,H9.out.2.2.2⟩,Hd_ H9.out.2.1,HWJ,HJX⟩
 ·have har:aloneR u t F n=([],false,faultE u t F n):=ZEJ hE
  have hd:(faultE u t F n != 0)=true:=by simp[hE]
  obtain⟨er,her⟩ : ∃ er,faultE u t F n=er:=⟨_,rfl⟩
  rw[her] at har HAS hd
  have HAR:=Hd_ har
  clear hE har her hwo hcl
  go_enter Tryd.func12,Tryd.ntmps12
  go_wp2_with (first
   | (go_at_call 29
      refine(HAS.out _ HBX.out.2).mono ?_
      rintro e w1 ⟨rfl,hb1⟩
      have HB1:=Hd_ (HBX.out.2.trans (hb1.mono HBX.out.2.size))
      clear hb1))
  refine bodyPost_ret (v:=.tuple #[.slice none 0 0,.bool false,.int .i64 er]) (by simp[results,Tryd.results12,go_sem]) rfl ?_
  exact⟨.slice none 0 0,by rw[HAR.out],by rw[HAR.out];exact World.ownsRow_nil _ _ _ _,HB1.out⟩
end Go.Proofs.YtffgnjgphkdodaaDoor
