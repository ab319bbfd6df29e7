import Derived.Test.YtffgnjgphkdodaaDoorD10
import Derived.Test.YtffgnjgphkdodaaDoorD35
import Derived.Test.YtffgnjgphkdodaaDoorD28
namespace Go.Proofs.YtffgnjgphkdodaaDoor
open Go Go.RowKit
theorem JW.next {ops:Array Oper} {W0:World} {sp:List (Nat × SR)} {a0:Act} {slots:List Nat} (hsl:sp.map (·.1)=slots) (hnd:slots.Nodup) (hsz:∀ d∈slots,d < a0.tmps.size) {i:Nat} {o:Oper} (s:Nat × SR) (hs:sp[i]? = some s) (ho:o.dst=some s.1) (hop:ops[i]? = some o)
  {D:Nat→Bool} {a:Act} {w w':World} {v:Value} (hp:∀ j∈predsOf o,D j=true) (hJ:JW ops W0 sp a0 D a w) (hb:Below w.heap.size w w') (hv:s.2.holds w' v) : JW ops W0 sp a0 (upD D i) (a.put o.dst v) w':=by
 subst hsl
 have hmem:s∈sp:=List.mem_of_getElem? hs
 have hmf:s.1∈sp.map (·.1):=List.mem_map.2 ⟨s,hmem,rfl⟩
 have hne:∀ j s',sp[j]? = some s'→j≠i→s'.1≠s.1:=by
  intro j s' hj e q
  have h1:(sp.map (·.1))[j]? = some s'.1:=by rw[List.getElem?_map,hj];rfl
  have h2:(sp.map (·.1))[i]? = some s.1:=by rw[List.getElem?_map,hs];rfl
  have hlt:j < (sp.map (·.1)).length:=(List.getElem?_eq_some_iff.1 h1).1
  exact e ((List.getElem?_inj hlt hnd).1 (by rw[h1,h2,q]))
 refine⟨?_,hJ.below.trans (hb.mono hJ.below.size),fun j s' hj hd=>?_,fun j s' hj hd=>?_,fun j o' ho' hd k hk=>?_⟩
 ·rw[ho]
  exact hJ.fr.put hmf v
 ·rw[ho]
  by_cases e:j=i
  ·subst e
   rw[hs] at hj
   injection hj with hj
   subst hj
   rw[hJ.fr.eval_put (hsz _ hmf)]
   exact hv
  ·rw[ZBj _ e] at hd
   rw[Zp (hne j s' hj e)]
   exact s'.2.mono hb (hJ.val j s' hj hd)
 ·rw[ho]
  by_cases e:j=i
  ·subst e
   rw[ZBy] at hd
   cases hd
  ·rw[ZBj _ e] at hd
   rw[Zp (hne j s' hj e)]
   exact hJ.un j s' hj hd
 ·by_cases e:j=i
  ·subst e
   rw[hop] at ho'
   injection ho' with ho'
   subst ho'
   exact ZCt (hp k hk)
  ·rw[ZBj _ e] at hd
   exact ZCt (hJ.ord j o' ho' hd k hk)
structure Tie where
 i:Nat
 s1:Nat
 s2:Nat
 rel:Value→Value→Prop
def Tie.holds (t:Tie) (D:Nat→Bool) (a:Act) : Prop:=D t.i=true→t.rel (a.eval (.tmp t.s1)) (a.eval (.tmp t.s2))
def Tie.off (t:Tie) (ops:Array Oper) (i s:Nat) : Prop:=i≠t.i∧t.s2≠s∧(t.s1≠s∨∃ o,ops[t.i]? = some o∧i∈predsOf o)
structure JX (ops:Array Oper) (W0:World) (sp:List (Nat × SR)) (a0:Act) (t1 t2:Tie) (D:Nat→Bool) (a:Act) (w:World) : Prop where
 jw:JW ops W0 sp a0 D a w
 r1:t1.holds D a
 r2:t2.holds D a
section
variable {P:Program} {ops:Array Oper} {Q:Exit→Act→World→Prop} {W0:World} {sp:List (Nat × SR)} {a0:Act} {t1 t2:Tie}
theorem Tie.keep {t:Tie} {i s:Nat} {D:Nat→Bool} {a:Act} {w:World} {v:Value} (hoff:t.off ops i s) (hJ:JW ops W0 sp a0 D a w) (hD:D i=false) (h:t.holds D a) : t.holds (upD D i) (a.put (some s) v):=by
 obtain⟨h1,h2,h3⟩:=hoff
 intro hd
 rw[ZBj _ (fun e=>h1 e.symm)] at hd
 rcases h3 with h3 | ⟨o,h3,h4⟩
 ·rw[Zp h3,Zp h2]
  exact h hd
 ·have:=hJ.ord t.i o h3 hd i h4
  rw[hD] at this
  cases this
theorem JX.step {slots:List Nat} (hsl:sp.map (·.1)=slots) (hnd:slots.Nodup) (hsz:∀ d∈slots,d < a0.tmps.size) {i:Nat} {o:Oper} (s:Nat × SR) (hs:sp[i]? = some s) (ho:o.dst=some s.1) (hop:ops[i]? = some o) (h1:t1.off ops i s.1) (h2:t2.off ops i s.1)
  (h:∀ (D:Nat→Bool) (a:Act) (w:World) (K:Act→World→Prop),D i=false→(∀ j∈predsOf o,D j=true)→JX ops W0 sp a0 t1 t2 D a w→(∀ v w',Below w.heap.size w w'→s.2.holds w' v→K (a.put o.dst v) w')→if Region.wanted o (yielded ops a.tmps)=true then o.wp P a w K Q else K (a.put o.dst undef) w) : StepJ P ops Q (JX ops W0 sp a0 t1 t2) i o:=by
 intro D a w K hD hp hJ hK
 refine h D a w K hD hp hJ fun v w' hb hv=>hK _ _ ⟨JW.next hsl hnd hsz s hs ho hop hp hJ.jw hb hv,?_,?_⟩
 ·rw[ho];exact Tie.keep h1 hJ.jw hD hJ.r1
 ·rw[ho];exact Tie.keep h2 hJ.jw hD hJ.r2
theorem JX.step1 {slots:List Nat} (hsl:sp.map (·.1)=slots) (hnd:slots.Nodup) (hsz:∀ d∈slots,d < a0.tmps.size) {i:Nat} {o:Oper} (s:Nat × SR) (hs:sp[i]? = some s) (ho:o.dst=some s.1) (hop:ops[i]? = some o) (h1:t1.i=i∧t1.s2=s.1∧t1.s1≠s.1) (h2:t2.off ops i s.1)
  (h:∀ (D:Nat→Bool) (a:Act) (w:World) (K:Act→World→Prop),D i=false→(∀ j∈predsOf o,D j=true)→JX ops W0 sp a0 t1 t2 D a w→(∀ v w',Below w.heap.size w w'→s.2.holds w' v→t1.rel (a.eval (.tmp t1.s1)) v→K (a.put o.dst v) w')→if Region.wanted o (yielded ops a.tmps)=true then o.wp P a w K Q else K (a.put o.dst undef) w) : StepJ P ops Q (JX ops W0 sp a0 t1 t2) i o:=by
 intro D a w K hD hp hJ hK
 refine h D a w K hD hp hJ fun v w' hb hv hr=>hK _ _ ⟨JW.next hsl hnd hsz s hs ho hop hp hJ.jw hb hv,?_,?_⟩
 ·intro _
  have hmf:s.1∈slots:=by rw[← hsl];exact List.mem_map.2 ⟨s,List.mem_of_getElem? hs,rfl⟩
  have hfr:=hJ.jw.fr
  rw[hsl] at hfr
  rw[ho,Zp h1.2.2,h1.2.1,hfr.eval_put (hsz _ hmf)]
  exact hr
 ·rw[ho];exact Tie.keep h2 hJ.jw hD hJ.r2
theorem JX.step2 {slots:List Nat} (hsl:sp.map (·.1)=slots) (hnd:slots.Nodup) (hsz:∀ d∈slots,d < a0.tmps.size) {i:Nat} {o:Oper} (s:Nat × SR) (hs:sp[i]? = some s) (ho:o.dst=some s.1) (hop:ops[i]? = some o) (h1:t1.off ops i s.1) (h2:t2.i=i∧t2.s2=s.1∧t2.s1≠s.1)
  (h:∀ (D:Nat→Bool) (a:Act) (w:World) (K:Act→World→Prop),D i=false→(∀ j∈predsOf o,D j=true)→JX ops W0 sp a0 t1 t2 D a w→(∀ v w',Below w.heap.size w w'→s.2.holds w' v→t2.rel (a.eval (.tmp t2.s1)) v→K (a.put o.dst v) w')→if Region.wanted o (yielded ops a.tmps)=true then o.wp P a w K Q else K (a.put o.dst undef) w) : StepJ P ops Q (JX ops W0 sp a0 t1 t2) i o:=by
 intro D a w K hD hp hJ hK
 refine h D a w K hD hp hJ fun v w' hb hv hr=>hK _ _ ⟨JW.next hsl hnd hsz s hs ho hop hp hJ.jw hb hv,?_,?_⟩
 ·rw[ho];exact Tie.keep h1 hJ.jw hD hJ.r1
 ·intro _
  have hmf:s.1∈slots:=by rw[← hsl];exact List.mem_map.2 ⟨s,List.mem_of_getElem? hs,rfl⟩
  have hfr:=hJ.jw.fr
  rw[hsl] at hfr
  rw[ho,Zp h2.2.2,h2.2.1,hfr.eval_put (hsz _ hmf)]
  exact hr
theorem ZFZ {id:Nat} {a:Act} {w:World} (sp:List (Nat × SR)) (t1 t2:Tie) (hm:P.follows .mixedOrders=true) (hback:ops.toList.zipIdx.all (fun x=>(predsOf x.1).all fun j=>decide (j < x.2))=true)
  (hs:StepsJ P ops Q (JX ops w sp a t1 t2) 0 ops.toList) (hend:∀ D a' w',(∀ i,i < ops.size→D i=true)→JX ops w sp a t1 t2 D a' w'→Q .normal a' w') : (Code.region id ops true).wp P Q a w :=
 ZA2 (JX ops w sp a t1 t2) hm hback ⟨JW.start,fun h=>(by cases h),fun h=>(by cases h)⟩ (ZE2 hs) hend
end
theorem ZGk (w:World) (v:Value) : (Instr.typeAssert (.iface 3 v) 20 3 false).run Tryd.prog w=.ok v w:=by kernel_rfl
def slMg:List Nat:=[12,13,14,15,16,17,18,19,20,21,22,7]
def apartR (v1 v2:Value) : Prop:=∀ b,v1.ownBlock=some b→v2.ownBlock≠some b
def tiA:Tie:=⟨7,13,19,apartR⟩
def tiB:Tie:=⟨8,19,20,fun v1 v2=>v2=.func (.func 48) #[v1] #[]⟩
def srFn (W0:World) (N:Nat) (D:List Int) : SR:=⟨fun w v=>∃ vD,v=.func (.func 48) #[vD] #[]∧w.ownsRow W0.heap.size 3 1 vD N (ints D),fun hb ⟨vD,e,h⟩=>⟨vD,e,ZT h hb⟩⟩
def srQ (W0:World) (l:List Int) (N:Nat) (D:List Int) : SR:=⟨fun w v=>∃ v1 vD,v=.agg #[v1,.func (.func 48) #[vD] #[]]∧w.ownsRow W0.heap.size 3 1 v1 l.length (ints l)∧w.ownsRow W0.heap.size 3 1 vD N (ints D)∧apartR v1 vD,
 fun hb ⟨v1,vD,e,h1,h2,h3⟩=>⟨v1,vD,e,ZT h1 hb,ZT h2 hb,h3⟩⟩
def srQp (W0:World) (l:List Int) (N:Nat) (D:List Int) : SR:=⟨fun w v=>∃ (Y:Nat) (v1 vD:Value),v=.pointer (some ⟨Y,0,none⟩)∧W0.heap.size≤Y∧Blk w Y 118 [v1,.func (.func 48) #[vD] #[]]∧w.ownsRow W0.heap.size 3 1 v1 l.length (ints l)∧w.ownsRow W0.heap.size 3 1 vD N (ints D)∧apartR v1 vD,
 fun hb ⟨Y,v1,vD,e,h0,hk,h1,h2,h3⟩=>⟨Y,v1,vD,e,h0,hk.below hb hk.lt,ZT h1 hb,ZT h2 hb,h3⟩⟩
theorem ZHm {l:List Int} {N:Nat} (h:∀ x∈l,0≤x∧x < N) : nodsV (l.map Int.toNat)=ints l:=by
 unfold nodsV ints
 rw[List.map_map]
 refine List.map_congr_left fun x hx=>?_
 have:=h x hx
 show Value.int .i64 ((x.toNat:Nat) : Int)=_
 rw[Int.toNat_of_nonneg (by omega)]
theorem ZJa {l:List Int} {N:Nat} (h:∀ x∈l,0≤x∧x < N) (hp:l.Pairwise (· < ·)) : NdI (l.map Int.toNat):=fun i j x hi hj=>by
 rw[List.getElem?_map] at hi hj
 cases ha:l[i]? with
 | none=>rw[ha] at hi;cases hi
 | some a =>
  cases hb:l[j]? with
  | none=>rw[hb] at hj;cases hj
  | some b =>
   rw[ha] at hi
   rw[hb] at hj
   injection hi with hi
   injection hj with hj
   have h1:=h a (List.mem_of_getElem? ha)
   have h2:=h b (List.mem_of_getElem? hb)
   have hab:a=b:=by omega
   subst hab
   obtain⟨l1,e1⟩:=List.getElem?_eq_some_iff.1 ha
   obtain⟨l2,e2⟩:=List.getElem?_eq_some_iff.1 hb
   rcases Nat.lt_trichotomy i j with c | c | c
   ·have:=List.pairwise_iff_getElem.1 hp i j l1 l2 c;omega
   ·exact c
   ·have:=List.pairwise_iff_getElem.1 hp j i l2 l1 c;omega
theorem ZC0 {N:Nat} {F:List Int} (h:fenB N (-1) F=true) : F.length≤N:=by
 rcases ZAu F (-1) (by omega) h with h | h
 ·omega
 ·rw[h];simp
def MgR (u:Unit_) (t:Nat) (g:Graph) (W0:World) (Y:Nat) (ans:List Int) (k:Nat) (v2:Value) (wr:World) : Prop :=
 ∃ (R:Nat→Prop) (L:List Nat) (todo left:List Int),Hid (Fq R (depthL g) wr Y L)∧Hid (HpN (keyF (depthL g)) L L.length)∧L.length=k∧k≤L.length∧k≤4096∧Hid (∀ b,b < W0.heap.size→R b)∧Hid (Ints (on wr R) v2 left)∧Hid (Below W0.heap.size W0 wr) ∧
  Hid (mergeF u (t:Int) (depthL g) L.length todo left=ans∧(∀ x:Nat,x∈L ↔ (x:Int)∈todo)∧(∀ x∈todo,0≤x∧x < g.nodes.length)∧fenB g.nodes.length (-1) left=true)
set_option maxRecDepth 100000 in
set_option maxHeartbeats 8000000 in
theorem ZFD (u:Unit_) (cs:List Value) (t:Nat) (g:Graph) (v:Value) (l:List Int) (w:World) (hT:Tab w) (hu:UnitV (cmap w) cs u) (hok:UOk u) (hc:checkF u=none) (hg:u.graphs[t]? = some g) (hl:Ints (cmap w) v l) (hf:fenB g.nodes.length (-1) l=true) :
  Calls Tryd.prog 23 #[.agg cs.toArray,.int .i64 (t:Nat),v] w fun e w'=>∃ v',e=.returned v'∧Ints (cmap w') v' (mergeF u (t:Int) (depthL g) l.length l l)∧Below w.heap.size w w':=by
 have hw:=((ZK hc).graphs g (List.mem_of_getElem? hg)).whole
 have HT:=Hd_ hT
 have HOK:=Hd_ hok
 obtain⟨sv,lv,gv,rfl,hsv,hlv,hgs⟩:=id hu
 obtain⟨gb,go,e,gcs,hgv0,hgc0⟩ : ∃ gb go,(∃ c,gv=.slice (some ⟨gb,go,none⟩) u.graphs.length c)∧∃ gcs,GraphV (cmap w) gcs g∧∀ j v,gcs[j]? = some v→cmap w gb (go+t * 4+j)=some v:=by
  obtain⟨A,c,rfl,-⟩:=id hgs
  obtain⟨gb,go,rfl,gcs,h1,h2⟩:=hgs.at_ hg
  exact⟨gb,go,⟨c,rfl⟩,gcs,h1,h2⟩
 obtain⟨gc,rfl⟩:=e
 have htG:=(List.getElem?_eq_some_iff.1 hg).1
 obtain⟨nv,rfl,hnv⟩:=id hgv0
 have HGC:=Hd_ hgc0
 have hpos:=hw.pos
 have hmost:=hw.most
 have HMO:=Hd_ hmost
 obtain⟨hfb,hfp⟩:=ZBe.1 hf
 have HLB:Hid (∀ x∈l,0≤x∧x < g.nodes.length):=Hd_ fun x hx=>by have:=hfb x hx;omega
 have HLI:Hid (l.Pairwise (· < ·)):=Hd_ hfp
 have HLL:Hid (l.length≤4096):=Hd_ (by have:=ZC0 hf;omega)
 have HU:=Hd_ hu
 have HLV:=Hd_ hl
 have hcl:=fun w1 (h:Below w.heap.size w w1)=>ZAF v l w1 (hl.mono (ZA h)) (by have:=HLL.out;omega)
 have hdp:=fun w1 (h:Below w.heap.size w w1)=>ZDe g _ w1 hw (hgv0.mono (ZA h))
 obtain⟨G,hG⟩ : ∃ G,u.graphs.length=G:=⟨_,rfl⟩
 rw[hG] at HU htG
 obtain⟨lA,lc,rfl,-⟩:=id hl
 have hbx:=Blk.new w 25 [sv,lv,.slice (some ⟨gb,go,none⟩) u.graphs.length gc]
 have hb0:=ZB w (.cells #[sv,lv,.slice (some ⟨gb,go,none⟩) u.graphs.length gc] 25)
 rw[hG] at hbx hb0 ⊢
 clear hsv hlv hgs hgv0 hgc0 hnv hu hl hf hfb hfp hok hc hg hw hG hT
 obtain⟨W0,hW0⟩ : ∃ W0:World,w.alloc (.cells #[sv,lv,.slice (some ⟨gb,go,none⟩) G gc] 25)=W0:=⟨_,rfl⟩
 rw[hW0] at hbx hb0
 have HUW:=Hd_ hbx
 have HBW:=Hd_ hb0
 have HCL:=Hd_ fun w1 (h:Below W0.heap.size W0 w1)=>hcl w1 (HBW.out.trans (h.mono HBW.out.size))
 have HDP:=Hd_ fun w1 (h:Below W0.heap.size W0 w1)=>hdp w1 (HBW.out.trans (h.mono HBW.out.size))
 have HW0:=Hd_ hW0
 clear hbx hb0 hcl hdp hW0
 obtain⟨ans,hans⟩ : ∃ ans,mergeF u (t:Int) (depthL g) l.length l l=ans:=⟨_,rfl⟩
 have HANS:=Hd_ hans
 rw[hans]
 clear hans
 go_enter Tryd.func23,Tryd.ntmps23
 go_wp2
 rw[HW0.out]
 clear HW0
 refine ZAf fun a0 ha0=>?_
 have t3:a0.eval (.tmp 3)=.pointer (some ⟨w.heap.size,0,none⟩):=by rw[ha0];rfl
 have t1:a0.eval (.tmp 1)=.int .i64 (t:Nat):=by rw[ha0];rfl
 have t2:a0.eval (.tmp 2)=.slice lA l.length lc:=by rw[ha0];rfl
 have hsz:a0.tmps.size=48:=by rw[ha0];rfl
 have HA0:=Hd_ ha0;clear ha0
 refine ZFZ [(12,.is (.slice lA l.length lc)),(13,srO W0.heap.size 3 l.length (ints l)),(14,.is (.pointer (some ⟨w.heap.size,2,none⟩))),(15,.is (.slice (some ⟨gb,go,none⟩) G gc)),(16,.is (.int .i64 (t:Nat))),(17,.is (.pointer (some ⟨gb,go+t * 4,none⟩))),(18,.is (.agg #[.string g.name,.int .i64 g.locals,.int .i64 g.slots,nv])),(19,srO W0.heap.size 3 g.nodes.length (ints (depthL g))),(20,srFn W0 g.nodes.length (depthL g)),(21,srQ W0 l g.nodes.length (depthL g)),(22,srQp W0 l g.nodes.length (depthL g)),(7,srQp W0 l g.nodes.length (depthL g))] tiA tiB (by kernel_rfl) (by kernel_rfl) ?steps ?done
 case steps =>
  refine⟨?_,?_,?_,?_,?_,?_,?_,?_,?_,?_,?_,?_,trivial⟩
  ·
   refine JX.step (slots:=slMg) rfl (by decide) (by rw[hsz];decide) (12,.is (.slice lA l.length lc)) rfl rfl rfl ⟨show(0:Nat)≠7 from by decide,show(19:Nat)≠12 from by decide,.inl (show(13:Nat)≠12 from by decide)⟩ ⟨show(0:Nat)≠8 from by decide,show(20:Nat)≠12 from by decide,.inl (show(19:Nat)≠12 from by decide)⟩ ?_
   intro D a wx K hD hp hX hK
   have h:=hX.jw
   have hfr:Fr slMg a0 a:=h.fr
   refine ZD rfl ?_
   have q2:a.eval (.tmp 2)=.slice lA l.length lc:=(hfr.eval (j:=2) (by decide)).trans t2
   exact ZH hK rfl q2
  ·
   refine JX.step (slots:=slMg) rfl (by decide) (by rw[hsz];decide) (13,srO W0.heap.size 3 l.length (ints l)) rfl rfl rfl ⟨show(1:Nat)≠7 from by decide,show(19:Nat)≠13 from by decide,.inr ⟨_,rfl,by decide⟩⟩ ⟨show(1:Nat)≠8 from by decide,show(20:Nat)≠13 from by decide,.inl (show(19:Nat)≠13 from by decide)⟩ ?_
   intro D a wx K hD hp hX hK
   have h:=hX.jw
   have hfr:Fr slMg a0 a:=h.fr
   refine ZD rfl ?_
   have q12:a.eval (.tmp 12)=.slice lA l.length lc:=h.val 0 _ rfl (hp 0 (by decide))
   refine ZAH hK Tryd.func24 (by kernel_rfl) (by kernel_rfl) rfl #[.slice lA l.length lc] (by simp only[List.map_toArray,List.map_cons,List.map_nil,q12];try rfl) ?_
   refine(HCL.out wx h.below).mono ?_
   rintro e w' ⟨v,rfl,hf,hb⟩
   exact⟨_,rfl,hb,Zi hf h.below.size⟩
  ·
   refine JX.step (slots:=slMg) rfl (by decide) (by rw[hsz];decide) (14,.is (.pointer (some ⟨w.heap.size,2,none⟩))) rfl rfl rfl ⟨show(2:Nat)≠7 from by decide,show(19:Nat)≠14 from by decide,.inl (show(13:Nat)≠14 from by decide)⟩ ⟨show(2:Nat)≠8 from by decide,show(20:Nat)≠14 from by decide,.inl (show(19:Nat)≠14 from by decide)⟩ ?_
   intro D a wx K hD hp hX hK
   have h:=hX.jw
   have hfr:Fr slMg a0 a:=h.fr
   refine ZD rfl ?_
   have q3:a.eval (.tmp 3)=.pointer (some ⟨w.heap.size,0,none⟩):=(hfr.eval (j:=3) (by decide)).trans t3
   refine ZG hK (by clear hfr;generalize a.eval=ρ at *;go_simp)
  ·
   refine JX.step (slots:=slMg) rfl (by decide) (by rw[hsz];decide) (15,.is (.slice (some ⟨gb,go,none⟩) G gc)) rfl rfl rfl ⟨show(3:Nat)≠7 from by decide,show(19:Nat)≠15 from by decide,.inl (show(13:Nat)≠15 from by decide)⟩ ⟨show(3:Nat)≠8 from by decide,show(20:Nat)≠15 from by decide,.inl (show(19:Nat)≠15 from by decide)⟩ ?_
   intro D a wx K hD hp hX hK
   have h:=hX.jw
   have hfr:Fr slMg a0 a:=h.fr
   refine ZD rfl ?_
   have q14:a.eval (.tmp 14)=.pointer (some ⟨w.heap.size,2,none⟩):=h.val 2 _ rfl (hp 2 (by decide))
   have z1:wx.cell? ⟨w.heap.size,2,none⟩=some (.slice (some ⟨gb,go,none⟩) G gc):=(HUW.out.below h.below HUW.out.lt).cell 2
   refine ZG hK (by clear hfr;generalize a.eval=ρ at *;go_simp)
  ·
   refine JX.step (slots:=slMg) rfl (by decide) (by rw[hsz];decide) (16,.is (.int .i64 (t:Nat))) rfl rfl rfl ⟨show(4:Nat)≠7 from by decide,show(19:Nat)≠16 from by decide,.inl (show(13:Nat)≠16 from by decide)⟩ ⟨show(4:Nat)≠8 from by decide,show(20:Nat)≠16 from by decide,.inl (show(19:Nat)≠16 from by decide)⟩ ?_
   intro D a wx K hD hp hX hK
   have h:=hX.jw
   have hfr:Fr slMg a0 a:=h.fr
   refine ZD rfl ?_
   have q1:a.eval (.tmp 1)=.int .i64 (t:Nat):=(hfr.eval (j:=1) (by decide)).trans t1
   exact ZH hK rfl q1
  ·
   refine JX.step (slots:=slMg) rfl (by decide) (by rw[hsz];decide) (17,.is (.pointer (some ⟨gb,go+t * 4,none⟩))) rfl rfl rfl ⟨show(5:Nat)≠7 from by decide,show(19:Nat)≠17 from by decide,.inl (show(13:Nat)≠17 from by decide)⟩ ⟨show(5:Nat)≠8 from by decide,show(20:Nat)≠17 from by decide,.inl (show(19:Nat)≠17 from by decide)⟩ ?_
   intro D a wx K hD hp hX hK
   have h:=hX.jw
   have hfr:Fr slMg a0 a:=h.fr
   refine ZD rfl ?_
   have q15:a.eval (.tmp 15)=.slice (some ⟨gb,go,none⟩) G gc:=h.val 3 _ rfl (hp 3 (by decide))
   have q16:a.eval (.tmp 16)=.int .i64 (t:Nat):=h.val 4 _ rfl (hp 4 (by decide))
   have z2:(0:Int)≤(t:Nat):=by omega
   have z3:((t:Nat) : Int) < (G:Nat):=by omega
   refine ZG hK (by clear hfr;generalize a.eval=ρ at *;go_simp)
  ·
   refine JX.step (slots:=slMg) rfl (by decide) (by rw[hsz];decide) (18,.is (.agg #[.string g.name,.int .i64 g.locals,.int .i64 g.slots,nv])) rfl rfl rfl ⟨show(6:Nat)≠7 from by decide,show(19:Nat)≠18 from by decide,.inl (show(13:Nat)≠18 from by decide)⟩ ⟨show(6:Nat)≠8 from by decide,show(20:Nat)≠18 from by decide,.inl (show(19:Nat)≠18 from by decide)⟩ ?_
   intro D a wx K hD hp hX hK
   have h:=hX.jw
   have hfr:Fr slMg a0 a:=h.fr
   refine ZD rfl ?_
   have q17:a.eval (.tmp 17)=.pointer (some ⟨gb,go+t * 4,none⟩):=h.val 5 _ rfl (hp 5 (by decide))
   refine ZAG hK 38 _ rfl gb (go+t * 4) q17 _ (by have hb:=h.below;exact fun j v hj=>ZA (HBW.out.trans (hb.mono HBW.out.size)) _ _ _ (HGC.out j v hj)) Tryd.underlying38 rfl (by kernel_rfl)
  ·
   refine JX.step1 (slots:=slMg) rfl (by decide) (by rw[hsz];decide) (19,srO W0.heap.size 3 g.nodes.length (ints (depthL g))) rfl rfl rfl ⟨rfl,rfl,show(13:Nat)≠19 from by decide⟩ ⟨show(7:Nat)≠8 from by decide,show(20:Nat)≠19 from by decide,.inr ⟨_,rfl,by decide⟩⟩ ?_
   intro D a wx K hD hp hX hK
   have h:=hX.jw
   have hfr:Fr slMg a0 a:=h.fr
   refine ZD rfl ?_
   have q18:a.eval (.tmp 18)=.agg #[.string g.name,.int .i64 g.locals,.int .i64 g.slots,nv]:=h.val 6 _ rfl (hp 6 (by decide))
   refine ZDz Tryd.func40 (by kernel_rfl) (by kernel_rfl) rfl #[.agg #[.string g.name,.int .i64 g.locals,.int .i64 g.slots,nv]] (by simp only[List.map_toArray,List.map_cons,List.map_nil,q18];try rfl) ?_
   refine(HDP.out wx h.below).mono ?_
   rintro e w' ⟨v,rfl,hf,hb⟩
   have hcl:wx.ownsRow W0.heap.size 3 1 (a.eval (.tmp 13)) l.length (ints l):=h.val 1 _ rfl (hp 1 (by decide))
   refine⟨_,rfl,hK _ _ hb (Zi hf h.below.size) fun b h1 h2=>?_⟩
   have h3:=(hcl.lt b h1).2
   have h4:=(hf.lt b h2).1
   omega
  ·
   refine JX.step2 (slots:=slMg) rfl (by decide) (by rw[hsz];decide) (20,srFn W0 g.nodes.length (depthL g)) rfl rfl rfl ⟨show(8:Nat)≠7 from by decide,show(19:Nat)≠20 from by decide,.inl (show(13:Nat)≠20 from by decide)⟩ ⟨rfl,rfl,show(19:Nat)≠20 from by decide⟩ ?_
   intro D a wx K hD hp hX hK
   have h:=hX.jw
   have hfr:Fr slMg a0 a:=h.fr
   refine ZD rfl ?_
   have q19:=h.val 7 _ rfl (hp 7 (by decide))
   generalize hq:a.eval (.tmp 19)=vD at q19
   refine ZC4 (.func (.func 48) #[vD] #[]) (by clear hfr hK h hX;generalize a.eval=ρ at *;go_simp) (hK _ _ (Below.refl _ _) ⟨vD,rfl,q19⟩ (show Value.func _ #[vD] #[]=Value.func _ #[a.eval (.tmp 19)] #[] by rw[hq]))
  ·
   refine JX.step (slots:=slMg) rfl (by decide) (by rw[hsz];decide) (21,srQ W0 l g.nodes.length (depthL g)) rfl rfl rfl ⟨show(9:Nat)≠7 from by decide,show(19:Nat)≠21 from by decide,.inl (show(13:Nat)≠21 from by decide)⟩ ⟨show(9:Nat)≠8 from by decide,show(20:Nat)≠21 from by decide,.inl (show(19:Nat)≠21 from by decide)⟩ ?_
   intro D a wx K hD hp hX hK
   have h:=hX.jw
   have hfr:Fr slMg a0 a:=h.fr
   refine ZD rfl ?_
   have q13:=h.val 1 _ rfl (hp 1 (by decide))
   have q20:=h.val 8 _ rfl (hp 8 (by decide))
   have d8:=hp 8 (by decide)
   have d7:=h.ord 8 _ rfl d8 7 (by decide)
   have h13:apartR (a.eval (.tmp 13)) (a.eval (.tmp 19)):=hX.r1 d7
   have h20:a.eval (.tmp 20)=.func (.func 48) #[a.eval (.tmp 19)] #[]:=hX.r2 d8
   have q19:=h.val 7 _ rfl d7
   generalize h1:a.eval (.tmp 13)=v1 at q13 h13
   generalize h2:a.eval (.tmp 19)=vD at q19 h13 h20
   have p13:wx.ownsRow W0.heap.size 3 1 v1 l.length (ints l):=q13
   obtain⟨A1,c1,rfl,-⟩:=ZE p13
   refine ZBw (.agg #[.slice A1 l.length c1,.func (.func 48) #[vD] #[]]) hK ⟨_,vD,rfl,q13,q19,h13⟩ (by clear hfr hK h hX q20 q13 p13 h13 q19;generalize a.eval=ρ at *;go_simp)
  ·
   refine JX.step (slots:=slMg) rfl (by decide) (by rw[hsz];decide) (22,srQp W0 l g.nodes.length (depthL g)) rfl rfl rfl ⟨show(10:Nat)≠7 from by decide,show(19:Nat)≠22 from by decide,.inl (show(13:Nat)≠22 from by decide)⟩ ⟨show(10:Nat)≠8 from by decide,show(20:Nat)≠22 from by decide,.inl (show(19:Nat)≠22 from by decide)⟩ ?_
   intro D a wx K hD hp hX hK
   have h:=hX.jw
   have hfr:Fr slMg a0 a:=h.fr
   refine ZD rfl ?_
   have q21:=h.val 9 _ rfl (hp 9 (by decide))
   obtain⟨v1,vD,e,h1,h2,h3⟩:=q21
   refine ZFY hK rfl [v1,.func (.func 48) #[vD] #[]] e fun w' hb' hk=>⟨wx.heap.size,v1,vD,rfl,h.below.size,hk,ZT h1 hb',ZT h2 hb',h3⟩
  ·
   refine JX.step (slots:=slMg) rfl (by decide) (by rw[hsz];decide) (7,srQp W0 l g.nodes.length (depthL g)) rfl rfl rfl ⟨show(11:Nat)≠7 from by decide,show(19:Nat)≠7 from by decide,.inl (show(13:Nat)≠7 from by decide)⟩ ⟨show(11:Nat)≠8 from by decide,show(20:Nat)≠7 from by decide,.inl (show(19:Nat)≠7 from by decide)⟩ ?_
   intro D a wx K hD hp hX hK
   have h:=hX.jw
   have hfr:Fr slMg a0 a:=h.fr
   refine ZD rfl ?_
   have q22:=h.val 10 _ rfl (hp 10 (by decide))
   exact ZAQ hK rfl q22
 case done =>
  intro D a wz hall h
  have hX:=h
  have h:=hX.jw
  have hd:∀ i,i < 12→D i=true:=hall
  have hfin:=Fr.allW (slots:=slMg) h.fr (by rw[hsz];decide)
  have v7:=h.val 11 _ rfl (hd 11 (by decide))
  simp only[putW,slMg] at hfin
  rw[(show a.eval (.tmp 12)=.slice lA l.length lc from h.val 0 _ rfl (hd 0 (by decide))),(show a.eval (.tmp 14)=.pointer (some ⟨w.heap.size,2,none⟩) from h.val 2 _ rfl (hd 2 (by decide))),(show a.eval (.tmp 15)=.slice (some ⟨gb,go,none⟩) G gc from h.val 3 _ rfl (hd 3 (by decide))),(show a.eval (.tmp 16)=.int .i64 (t:Nat) from h.val 4 _ rfl (hd 4 (by decide))),(show a.eval (.tmp 17)=.pointer (some ⟨gb,go+t * 4,none⟩) from h.val 5 _ rfl (hd 5 (by decide))),(show a.eval (.tmp 18)=.agg #[.string g.name,.int .i64 g.locals,.int .i64 g.slots,nv] from h.val 6 _ rfl (hd 6 (by decide)))] at hfin
  obtain⟨Y,v1,vD,e7,hY,hyb,ho1,hoD,hap⟩:=v7
  rw[e7] at hfin
  have hbz:=h.below
  generalize a.eval (.tmp 13)=r13 at hfin
  generalize a.eval (.tmp 19)=r19 at hfin
  generalize a.eval (.tmp 20)=r20 at hfin
  generalize a.eval (.tmp 21)=r21 at hfin
  generalize a.eval (.tmp 22)=r22 at hfin
  rw[hfin,HA0.out]
  clear hfin HA0 h hX hall hd t1 t2 t3 hsz e7
  simp only[Act.put,List.setIfInBounds_toArray,List.set_cons_zero,List.set_cons_succ]
  obtain⟨db,dc,rfl,-,hdl,-,hdc⟩:=ZW hoD hpos
  have hdy:db≠Y:=fun e=>ZQ hoD hyb (by decide) (by rw[e];rfl)
  have h1y:v1.ownBlock≠some Y:=fun e=>ZQ ho1 hyb (by decide) e.symm
  have hdep:=ZIH HMO.out
  have hDl:(depthL g).length=g.nodes.length:=Zj _ _
  obtain⟨R0,hR0⟩ : ∃ R0:Nat→Prop,R0=fun b=>b < wz.heap.size∧b≠Y∧v1.ownBlock≠some b:=⟨_,rfl⟩
  have hq0:Fq R0 (depthL g) wz Y (l.map Int.toNat):=by
   rw[hR0]
   refine⟨⟨v1,db,dc,by unfold FqF;rw[hDl];exact hyb,?_,⟨hdl,hdy,fun e=>hap db e rfl⟩,fun i x hx=>?_,fun b hb=>hb⟩,?_,?_⟩
   ·rw[List.length_map,ZHm HLB.out]
    exact Zi ho1 (Nat.zero_le _)
   ·have hi:=(List.getElem?_eq_some_iff.1 hx).1
    rw[hdc i (by omega)]
    simp[ints,hx]
   ·exact ZJa HLB.out HLI.out
   ·intro n hn
    obtain⟨x,hx,rfl⟩:=List.mem_map.1 hn
    have:=HLB.out x hx
    omega
  have hbig:∀ b,b < W0.heap.size→R0 b:=by
   rw[hR0]
   exact fun b hb=>⟨Nat.lt_of_lt_of_le hb hbz.size,by omega,fun e=>by have:=(ho1.lt b e).1;omega⟩
  have hlq:Ints (on wz R0) (.slice lA l.length lc) l:=by
   have hlw:=HLV.out
   refine hlw.mono fun b o x hx=>?_
   have hb:b < w.heap.size:=World.block_lt_of_cell? w ⟨b,o,none⟩ hx
   exact ZDL (ZA hbz _ _ _ (ZA HBW.out _ _ _ hx)) (hbig b (Nat.lt_of_lt_of_le hb HBW.out.size))
  have HIN:=Hd_ (ZFM _ _ hdep Y (l.map Int.toNat) wz hq0 (by rw[List.length_map];have:=HLL.out;omega))
  have HBZ:=Hd_ hbz
  have HLQ:=Hd_ hlq
  have HBIG:=Hd_ hbig
  have HDE:=Hd_ (And.intro hdep hDl)
  clear hbz hlq hbig hq0 hdep hDl h1y hdy hdc hdl hap hoD ho1 hyb hR0
  go_wp2_with (first
   | (go_at_call 49
      refine(HIN.out).mono ?_
      rintro e w2 ⟨rfl,L0,hq2,hh2,hl2,hm2,hk2⟩
      have HS:=Hd_ (And.intro hq2 (And.intro hh2 (And.intro hl2 (And.intro hm2 hk2))))
      clear hq2 hh2 hl2 hm2 hk2))
  go_loopg [2] (l.length) (fun k v2 wr=>MgR u t g W0 Y ans k v2 wr)
  case atStart =>
   have hk:=HS.out.2.2.2.2
   refine⟨R0,L0,l,l,Hd_ HS.out.1,Hd_ HS.out.2.1,by rw[HS.out.2.2.1,List.length_map],by rw[HS.out.2.2.1,List.length_map];exact Nat.le_refl _,HLL.out,Hd_ HBIG.out,Hd_ (HLQ.out.mono (Zf (fun b hb _=>hk.block b hb) fun _ h=>h)),Hd_ (ZEI HBZ.out hk HBIG.out),Hd_ ⟨by rw[HS.out.2.2.1,List.length_map];exact HANS.out,fun x=>?_,HLB.out,ZBe.2 ⟨fun x hx=>⟨by have:=HLB.out x hx;omega,(HLB.out x hx).2⟩,HLI.out⟩⟩⟩
   rw[HS.out.2.2.2.1 x,List.mem_map]
   constructor
   ·rintro⟨y,hy,rfl⟩
    have:=HLB.out y hy
    rw[Int.toNat_of_nonneg (by omega)]
    exact hy
   ·intro hx
    exact⟨x,hx,by simp⟩
  case round =>
   obtain⟨R,L,todo,left,HQ,HH,hLk,hkl,hk4,HBG,HLF,HB,HM⟩:=hrel
   obtain⟨fA,fc,rfl,-⟩:=id HLF.out
   have HLN:=Hd_ (ZCT HQ.out)
   obtain⟨n,hn⟩ : ∃ n,L.length=n:=⟨_,rfl⟩
   rw[hn] at HLN
   have HN:=Hd_ hn
   have n4:n≤4096:=by omega
   have HTA:=fun w v=>ZGk w v
   have HKK:=Hd_ hLk
   clear hn hLk
   cases n with
   | zero =>
    have d0:decide ((0:Int) < ((0:Nat) : Int))=false:=rfl
    go_wp2_with (first
     | (go_at_call 50
        refine(HLN.out).mono ?_
        rintro e w3 ⟨rfl,q3,rfl⟩))
    go_ret
    have ht:todo=[]:=by
     cases todo with
     | nil=>rfl
     | cons y ys =>
      have hy:=HM.out.2.2.1 y (by simp)
      have:=(HM.out.2.1 y.toNat).2 (by rw[Int.toNat_of_nonneg (by omega)];simp)
      rw[List.eq_nil_of_length_eq_zero HN.out] at this
      cases this
    have ha:=HM.out.1
    rw[ht,ZBc] at ha
    rw[← ha]
    have hb:=HBW.out.trans (HB.out.mono HBW.out.size)
    exact⟨_,rfl,HLF.out.mono (on_le _ _),⟨hb.os,hb.tape,hb.output,hb.size,hb.block⟩⟩
   | succ m =>
    have d0:decide ((0:Int) < ((m+1:Nat) : Int))=true:=decide_eq_true (by omega)
    have HPO:=Hd_ fun (q:Nat)=>ZFy R (depthL g) HDE.out.1 Y L (wr.drewN q) (HQ.out.below (ZF wr q)).1 HH.out (by rw[HN.out];omega) (by rw[HN.out];omega)
    go_wp2_with (first
     | (go_at_call 50
        refine(HLN.out).mono ?_
        rintro e w3 ⟨rfl,q3,rfl⟩)
     | (go_at_call 51
        refine(HPO.out _).mono ?_
        rintro e w5 ⟨s,L',rfl,hq5,hh5,hl5,hm5,hs5,hmin,hk5⟩
        have hk5':KeepR R wr w5:=(KeepR.of_below (ZF wr q3) fun b hb=>by obtain⟨_,_,_,_,_,_,_,h⟩:=HQ.out.ex;exact(h b hb).1).trans hk5
        have HP:=Hd_ (And.intro hq5 (And.intro hh5 (And.intro hl5 (And.intro hm5 (And.intro hs5 (And.intro hmin hk5'))))))
        have hb5:=ZEI HB.out hk5' HBG.out
        have hlf5:Ints (on w5 R) (.slice fA left.length fc) left:=HLF.out.mono (Zf (fun b hb _=>hk5'.block b hb) fun _ h=>h)
        have HLF5:=Hd_ hlf5
        have HB5:=Hd_ hb5
        have HWO:=Hd_ (ZAg (.slice fA left.length fc) left (s:Int) w5 (hlf5.mono (on_le _ _)) (by have:=ZC0 HM.out.2.2.2;have:=HMO.out;omega))
        clear hq5 hh5 hl5 hm5 hs5 hmin hk5 hk5' hb5 hlf5)
     | (go_at_call 30
        refine(HWO.out).mono ?_
        rintro e w6 ⟨v6,rfl,ho6,hb6⟩
        obtain⟨oA,oc,rfl,-⟩:=ZE ho6
        have hub:=HBW.out.trans ((HB5.out.trans (hb6.mono HB5.out.size)).mono HBW.out.size)
        have HLO:=Hd_ (Zx u [sv,lv,.slice (some ⟨gb,go,none⟩) G gc] (t:Int) _ (withoutL left (s:Int)) w6 (HT.out.below hub) (HU.out.mono (ZA hub)) HOK.out (Zv ho6))
        have H6:=Hd_ (And.intro ho6 hb6)
        have c0:=(HUW.out.below (HB5.out.trans (hb6.mono HB5.out.size)) HUW.out.lt).cell 0
        have c1:=(HUW.out.below (HB5.out.trans (hb6.mono HB5.out.size)) HUW.out.lt).cell 1
        have c2:=(HUW.out.below (HB5.out.trans (hb6.mono HB5.out.size)) HUW.out.lt).cell 2
        clear ho6 hb6 hub)
     | (go_at_call 14
        refine(HLO.out).mono ?_
        rintro e w7 ⟨r7,rfl,ho7,hb7⟩
        obtain⟨p,hp⟩ : ∃ p,(loadsR u (t:Int) (withoutL left (s:Int))).1=p:=⟨_,rfl⟩
        rw[hp] at ho7
        have HPL:=Hd_ hp
        obtain⟨rA,rc,rfl,-⟩:=ZE ho7
        have H7:=Hd_ hb7
        clear hp ho7 hb7))
    all_goals
     have hpop:=HP.out
     have hb67:Below w5.heap.size w5 w7:=H6.out.2.trans (H7.out.mono H6.out.2.size)
     have hsm:(s:Int)∈todo:=(HM.out.2.1 s).1 ((hpop.2.2.2.1 s).2 (.inr rfl))
     have hts:todo≠[]:=List.ne_nil_of_mem hsm
     have hle:=hpop.2.2.1
     have hlm:L'.length=m:=by have:=HN.out;omega
     have harg:argK (depthL g) todo=(s:Int):=by
      refine ZJy HDE.out.1 (fun x hx=>?_) hsm fun y hy=>?_
      ·rw[HDE.out.2];exact HM.out.2.2.1 x hx
      ·have h1:=HM.out.2.2.1 y hy
       rw[Int.toNat_natCast]
       refine hpop.2.2.2.2.2.1 y.toNat ((HM.out.2.1 _).2 ?_)
       rw[Int.toNat_of_nonneg (by omega)];exact hy
     have hans2:=HM.out.1
     rw[HN.out,ZAE hts harg] at hans2
     have hmem:∀ x:Nat,x∈L' ↔ (x:Int)∈withoutL todo (s:Int):=fun x=>by
      rw[Zm,← HM.out.2.1 x,hpop.2.2.2.1 x]
      constructor
      ·intro h
       exact ⟨.inl h, fun e => hpop.2.2.2.2.1 (by have:x=s:=by omega
                                                  rw[← this];exact h)⟩
      ·rintro⟨h | h,h2⟩
       ·exact h
       ·exact absurd (by rw[h]) h2
     have hrng:∀ x∈withoutL todo (s:Int),0≤x∧x < g.nodes.length:=fun x hx=>HM.out.2.2.1 x (Zm.1 hx).1
     have hq7:=hpop.1.more hb67
     have hb7:=HB5.out.trans (hb67.mono HB5.out.size)
     have hRl:∀ b,R b→b < w5.heap.size:=fun b hb=>by obtain⟨_,_,_,_,_,_,_,h⟩:=hpop.1.ex;exact(h b hb).1
    ·rename_i he
     have hemp:emptyR u (t:Int) (withoutL left (s:Int))=true:=by
      rw[Zd,HPL.out]
      exact List.eq_nil_of_length_eq_zero (by simpa using he)
     rw[if_pos hemp] at hans2
     go_roundg m
     case measure=>have:=HKK.out;have:=HN.out;omega
     case rel =>
      refine⟨_,L',_,withoutL left (s:Int),Hd_ hq7,Hd_ hpop.2.1,by omega,by omega,by omega,Hd_ fun b hb=>.inl (HBG.out b hb),Hd_ ?_,Hd_ hb7,Hd_ ⟨by rw[hlm];exact hans2,hmem,hrng,ZBD HM.out.2.2.2 (Z1 _ _)⟩⟩
      have h1:=ZA0 (f:=fun x:Int=>Value.int .i64 x) (R:=IntC) (fun _ _ _ _ h=>h) (ZT H6.out.1 H7.out) (Nat.le_refl _) (Nat.le_refl _)
      exact h1.mono (ZCL _ fun b h2 h3=>.inr ⟨h2,h3⟩)
    ·rename_i he
     have hemp:¬ emptyR u (t:Int) (withoutL left (s:Int))=true:=fun h=>by
      rw[Zd,HPL.out] at h
      rw[h] at he
      simp at he
     rw[if_neg hemp] at hans2
     go_roundg m
     case measure=>have:=HKK.out;have:=HN.out;omega
     case rel =>
      refine⟨_,L',_,left,Hd_ hq7,Hd_ hpop.2.1,by omega,by omega,by omega,Hd_ fun b hb=>.inl (HBG.out b hb),Hd_ (HLF5.out.mono (Zf (fun b hb hlt=>hb67.block b hlt) fun b hb=>.inl hb)),Hd_ hb7,Hd_ ⟨by rw[hlm];exact hans2,hmem,hrng,HM.out.2.2.2⟩⟩
theorem RowsV.put {w w':World} {base X i:Nat} {vs:List Value} {ls:List (List Int)} {v':Value} {l:List Int} (h:RowsV w base X vs ls) (hi:i < ls.length) (hb:Below w.heap.size w w') (ho:w'.ownsRow w.heap.size 3 1 v' l.length (ints l)) (hbase:base≤w.heap.size) :
  RowsV (w'.setCell ⟨X,i,none⟩ v') base X (vs.set i v') (ls.set i l):=by
 have h':=h.below hb
 have hlt:∀ (j:Nat) (v:Value) (b:Nat),vs[j]? = some v→v.ownBlock=some b→b < w.heap.size:=fun j v b hj hb=>by
  have hjl:j < ls.length:=by have:=(List.getElem?_eq_some_iff.1 hj).1;have:=h.len;omega
  exact((h.own j v _ hj (List.getElem?_eq_getElem hjl)).lt b hb).2
 have hxl:=h.blk.lt
 have hne:∀ {u:Value} {n:Nat} {xs:List Value},w'.ownsRow base 3 1 u n xs→u.ownBlock≠some X:=fun ho e=>ZQ ho h'.blk (by decide) e.symm
 refine⟨h'.blk.set_ i v',by simpa using h.len,fun j u m hj hm=>?_,fun a b u u' k ha hb hu hu'=>?_⟩
 ·rw[List.getElem?_set] at hj hm
  by_cases e:i=j
  ·subst e
   rw[if_pos rfl,if_pos (by rw[h.len];exact hi)] at hj
   rw[if_pos rfl,if_pos hi] at hm
   injection hj with hj
   injection hm with hm
   subst hj hm
   have ho2:=Zi ho hbase
   exact ownsRow_setCell_other ho2 (hne ho2) _
  ·rw[if_neg e] at hj hm
   have ho2:=h'.own j u m hj hm
   exact ownsRow_setCell_other ho2 (hne ho2) _
 ·rw[List.getElem?_set] at ha hb
  have hil:i < vs.length:=by rw[h.len];exact hi
  by_cases e:i=a
  ·by_cases e2:i=b
   ·omega
   ·exfalso
    rw[if_pos e,if_pos hil] at ha
    rw[if_neg e2] at hb
    injection ha with ha
    subst ha
    have:=(ho.lt k hu).1
    have:=hlt b u' k hb hu'
    omega
  ·by_cases e2:i=b
   ·exfalso
    rw[if_neg e] at ha
    rw[if_pos e2,if_pos hil] at hb
    injection hb with hb
    subst hb
    have:=(ho.lt k hu').1
    have:=hlt a u k ha hu
    omega
   ·rw[if_neg e] at ha
    rw[if_neg e2] at hb
    exact h.sep a b u u' k ha hb hu hu'
noncomputable def placeW (u:Unit_) (m:Bool) (G k:Nat) : List (List Int):=placeK u m k ++ List.replicate (G - k) []
theorem ZAR (u:Unit_) (m:Bool) {G k:Nat} (h:k≤G) : (placeW u m G k).length=G:=by
 unfold placeW
 rw[List.length_append,Zr,List.length_replicate]
 omega
theorem ZD5 (u:Unit_) (m:Bool) {G k:Nat} (h:k < G) : (placeW u m G k).set k (placeL u m k)=placeW u m G (k+1):=by
 unfold placeW
 have hr:List.replicate (G - k) ([] : List Int)=[] :: List.replicate (G - (k+1)) []:=by
  rw[show G - k=(G - (k+1))+1 by omega,List.replicate_succ]
 rw[ZFh,hr,List.set_append,if_neg (by rw[Zr];omega),Zr,Nat.sub_self,List.set_cons_zero,List.append_assoc]
 rfl
theorem ZDH (u:Unit_) (m:Bool) (G:Nat) : placeW u m G G=placeK u m G:=by
 unfold placeW
 rw[Nat.sub_self]
 simp
def PlacePost (u:Unit_) (m:Bool) (w:World) (e:Ending) (w':World) : Prop:=∃ v,e=.returned (.tuple #[v,.int .i64 (placeR u m).2])∧Below w.heap.size w w' ∧
 ((placeR u m=([],60)∧v=.slice none 0 0)∨∃ X vs,checkF u=none∧placeR u m=(placeK u m u.graphs.length,0)∧v=.slice (some ⟨X,0,none⟩) u.graphs.length u.graphs.length∧w.heap.size≤X∧RowsV w' w.heap.size X vs (placeK u m u.graphs.length))
set_option maxRecDepth 100000 in
set_option maxHeartbeats 1000000 in
theorem ZA7 (u:Unit_) (cs:List Value) (m:Bool) (w:World) (hT:Tab w) (hu:UnitV (cmap w) cs u) (hok:UOk u) :
  Calls Tryd.prog 8 #[.agg cs.toArray,.bool m] w (PlacePost u m w):=by
 have HC:=Hd_ fun w1 (h:Below w.heap.size w w1)=>Zz u cs w1 (hu.mono (ZA h)) hok
 have HLO0:=Hd_ fun w1 (t:Nat) (h:Below w.heap.size w w1)=>Zx u cs (t:Int) (.slice none 0 0) [] w1 (hT.below h) (hu.mono (ZA h)) hok (ZBH _)
 have HMG0:=Hd_ fun w1 (t:Nat) (g:Graph) (v:Value) (l:List Int) (h:Below w.heap.size w w1) (hc:checkF u=none) (hg:u.graphs[t]? = some g) (hl:Ints (cmap w1) v l) (hf:fenB g.nodes.length (-1) l=true)=>ZFD u cs t g v l w1 (hT.below h) (hu.mono (ZA h)) hok hc hg hl hf
 obtain⟨sv,lv,gv,rfl,-,-,hgs⟩:=hu
 obtain⟨gA,gc,rfl,-⟩:=id hgs
 have hgl:=hgs.len.2.2
 have hbx:=Blk.new w 25 [sv,lv,.slice gA u.graphs.length gc]
 have hb0:=ZB w (.cells #[sv,lv,.slice gA u.graphs.length gc] 25)
 have HBX:=Hd_ (And.intro hbx hb0)
 clear hbx hb0 hgs hT
 cases hc:checkF u with
 | some r =>
  obtain⟨r1,r2⟩:=r
  have HS:=Hd_ (ZCJ (u:=u) (m:=m) (by rw[hc];simp))
  rw[hc] at HC
  clear hc HLO0 HMG0
  go_enter Tryd.func8,Tryd.ntmps8
  go_wp2_with (first
   | (go_at_call 22
      refine(HC.out _ HBX.out.2).mono ?_
      rintro e w1 ⟨rfl,hb1⟩
      have HB1:=Hd_ (HBX.out.2.trans (hb1.mono HBX.out.2.size))
      simp only[checkV]
      clear hb1))
  go_ret2
  exact⟨.slice none 0 0,by rw[HS.out];rfl,HB1.out,.inl ⟨HS.out,rfl⟩⟩
 | none =>
  have HS:=Hd_ (ZAU (u:=u) (m:=m) hc)
  have hgm:=(ZK hc).threads
  have HCC:=Hd_ hc
  rw[hc] at HC
  clear hc
  have hG64:u.graphs.length≤4096:=by omega
  obtain⟨G,hG⟩ : ∃ G,u.graphs.length=G:=⟨_,rfl⟩
  have HGL:=Hd_ hG
  rw[hG] at hgl hG64 HBX HC HLO0 HMG0 HS ⊢
  clear hG hgm
  cases m with
  | false =>
   go_enter Tryd.func8,Tryd.ntmps8
   go_wp2_with (first
    | (go_at_call 22
       refine(HC.out _ HBX.out.2).mono ?_
       rintro e w1 ⟨rfl,hb1⟩
       have c2:=(HBX.out.1.below hb1 HBX.out.1.lt).cell 2
       have HU1:=Hd_ (HBX.out.1.below hb1 HBX.out.1.lt)
       have HB1:=Hd_ (HBX.out.2.trans (hb1.mono HBX.out.2.size))
       simp only[checkV]
       clear hb1)
    | (refine ZAX ZER rfl rfl (.tmp 24) (.tmp 24) rfl G rfl rfl (by omega) (by omega) ?_
       have c2x:=(HU1.out.alloc (.cells (List.replicate G (Value.slice none 0 0)).toArray 39)).cell 2
       have c2y:(w1.alloc (.cells (Array.replicate G (Value.slice none 0 0)) 39)).cell? ⟨w.heap.size,2,none⟩=some (.slice gA G gc):=by simpa using c2x
       clear c2x))
   have HRI:Hid (RowsV (w1.alloc (.cells (List.replicate G (Value.slice none 0 0)).toArray 39)) w.heap.size w1.heap.size (List.replicate G (.slice none 0 0)) (placeW u false G 0)):=Hd_ (by
    refine⟨Blk.new _ _ _,by rw[ZAR u false (Nat.zero_le _)];simp,fun i v l hv hl=>?_,fun i j v v' b hi _ hb _=>?_⟩
    ·rw[List.getElem?_replicate] at hv
     split at hv
     ·injection hv with hv
      have hl2:(List.replicate G ([] : List Int))[i]? = some l:=hl
      have hl3:l=[]:=List.eq_of_mem_replicate (List.mem_of_getElem? hl2)
      subst hv hl3
      exact World.ownsRow_nil _ _ _ _
     ·cases hv
    ·rw[List.getElem?_replicate] at hi
     split at hi
     ·injection hi with hi
      subst hi
      cases hb
     ·cases hi)
   have HWX:Hid (w.heap.size≤w1.heap.size):=Hd_ HB1.out.size
   have HBW:=Hd_ (HB1.out.alloc HB1.out.size (.cells (List.replicate G (Value.slice none 0 0)).toArray 39))
   have HUW:=Hd_ (HU1.out.alloc (.cells (List.replicate G (Value.slice none 0 0)).toArray 39))
   clear c2 c2y
   go_loopw [29] (fun v29 wr=>∃ (k:Nat) (vs:List Value),v29=.int .i64 k∧k≤G∧Hid (RowsV wr w.heap.size w1.heap.size vs (placeW u false G k))∧Hid (Below w.heap.size w wr)∧Hid (Blk wr w.heap.size 25 [sv,lv,.slice gA G gc])) (fun v29 _=>G - (intOf v29).toNat)
   case atStart=>exact⟨0,_,rfl,Nat.zero_le _,Hd_ (by simpa using HRI.out),Hd_ (by simpa using HBW.out),Hd_ (by simpa using HUW.out)⟩
   case round =>
    obtain⟨k,vs,rfl,hk,HR,HB,HU⟩:=hrel
    have hrb:=HR.out.blk
    have hrs:=hrb.lt
    by_cases hlt:k < G
    ·obtain⟨g,hg⟩ : ∃ g,u.graphs[k]? = some g:=⟨u.graphs[k]'(by rw[HGL.out];exact hlt),List.getElem?_eq_getElem _⟩
     have HG:=Hd_ hg
     have c0:=HU.out.cell 0
     have c1:=HU.out.cell 1
     have c2:=HU.out.cell 2
     have k0:(0:Int)≤k:=by omega
     have kG:(k:Int) < G:=by omega
     have HLO:=Hd_ (HLO0.out wr k HB.out)
     have HFA:=Hd_ (ZDm HCC.out hg)
     have hvl:k < vs.length:=by rw[HR.out.len,ZAR u false hk];exact hlt
     obtain⟨vk,hvk⟩ : ∃ vk,vs[k]? = some vk:=⟨_,List.getElem?_eq_getElem hvl⟩
     have hxk:=(hrb.cell k).trans hvk
     have HXC:=Hd_ hxk
     have hl4:Hid ((loadsR u (k:Int) []).1.length≤4096):=Hd_ (Nat.le_trans (ZC0 HFA.out) ((ZK HCC.out).graphs g (List.mem_of_getElem? hg)).whole.most)
     obtain⟨ll,hll⟩ : ∃ ll,(loadsR u (k:Int) []).1=ll:=⟨_,rfl⟩
     rw[hll] at HFA hl4
     have HLL:=Hd_ hll
     unfold LoadsPost at HLO
     simp only[hll] at HLO
     clear hg hvk hxk hll hvl hrb
     go_wp2_with (first
      | (go_at_call 14
         refine(HLO.out).mono ?_
         rintro e w3 ⟨r3,rfl,ho3,hb3⟩
         obtain⟨rA,rc,rfl,-⟩:=ZE ho3
         have HBW3:=Hd_ (HB.out.trans (hb3.mono HB.out.size))
         have HR3:=Hd_ (HR.out.below hb3)
         have HO3:=Hd_ (Zv ho3)
         have HU3:=Hd_ (HU.out.below hb3 HU.out.lt)
         have HBW4:=Hd_ HBW3.out
         have HR4:=Hd_ HR3.out
         have HU4:=Hd_ HU3.out
         have HCL:=Hd_ (ZAF _ _ w3 HO3.out (by have:=hl4.out;omega))
         have HPL:Hid (ll=placeL u false k):=Hd_ (by rw[Z4,HLL.out])
         clear hb3 ho3)
      | (go_at_call 24
         refine(HCL.out).mono ?_
         rintro e w5 ⟨v5,rfl,ho5,hb5⟩
         obtain⟨sA,sc,rfl,-⟩:=ZE ho5
         have HBW5:=Hd_ (HBW4.out.trans (hb5.mono HBW4.out.size))
         have HU5:=Hd_ (HU4.out.below hb5 HU4.out.lt)
         have hr5:=HR4.out.below hb5
         have hx5:=(hr5.blk.cell k).trans ((HR.out.blk.cell k).symm.trans HXC.out)
         have hf5:=hr5.blk.frozen k
         have HRR:=Hd_ (HR4.out.put (i:=k) (by rw[ZAR u false hk];exact hlt) hb5 ho5 HBW4.out.size)
         clear hb5 hr5 ho5))
     go_roundw
     case rel =>
      have hrr:=HRR.out
      have hset:=ZD5 u false hlt
      rw[← HPL.out] at hset
      rw[hset] at hrr
      exact⟨k+1,_,by go_num,by omega,Hd_ hrr,Hd_ (HBW5.out.setCell (p:=⟨w1.heap.size,k,none⟩) HWX.out _),Hd_ (HU5.out.far (p:=⟨w1.heap.size,k,none⟩) (by have:=HU1.out.lt;show w.heap.size≠w1.heap.size;omega) _)⟩
     case measure=>simp[intOf];omega
    ·obtain rfl:k=G:=by omega
     have HR5:Hid (RowsV wr w.heap.size w1.heap.size vs (placeK u false k)):=Hd_ (by rw[← ZDH];exact HR.out)
     go_wp2
     go_ret2
     refine⟨.slice (some ⟨w1.heap.size,0,none⟩) k k,by rw[HS.out];rfl,HB.out,.inr ⟨w1.heap.size,vs,HCC.out,?_,?_,HWX.out,?_⟩⟩
     ·rw[HGL.out];exact HS.out
     ·rw[HGL.out]
     ·rw[HGL.out];exact HR5.out
  | true =>
   go_enter Tryd.func8,Tryd.ntmps8
   go_wp2_with (first
    | (go_at_call 22
       refine(HC.out _ HBX.out.2).mono ?_
       rintro e w1 ⟨rfl,hb1⟩
       have c2:=(HBX.out.1.below hb1 HBX.out.1.lt).cell 2
       have HU1:=Hd_ (HBX.out.1.below hb1 HBX.out.1.lt)
       have HB1:=Hd_ (HBX.out.2.trans (hb1.mono HBX.out.2.size))
       simp only[checkV]
       clear hb1)
    | (refine ZAX ZER rfl rfl (.tmp 24) (.tmp 24) rfl G rfl rfl (by omega) (by omega) ?_
       have c2x:=(HU1.out.alloc (.cells (List.replicate G (Value.slice none 0 0)).toArray 39)).cell 2
       have c2y:(w1.alloc (.cells (Array.replicate G (Value.slice none 0 0)) 39)).cell? ⟨w.heap.size,2,none⟩=some (.slice gA G gc):=by simpa using c2x
       clear c2x))
   have HRI:Hid (RowsV (w1.alloc (.cells (List.replicate G (Value.slice none 0 0)).toArray 39)) w.heap.size w1.heap.size (List.replicate G (.slice none 0 0)) (placeW u true G 0)):=Hd_ (by
    refine⟨Blk.new _ _ _,by rw[ZAR u true (Nat.zero_le _)];simp,fun i v l hv hl=>?_,fun i j v v' b hi _ hb _=>?_⟩
    ·rw[List.getElem?_replicate] at hv
     split at hv
     ·injection hv with hv
      have hl2:(List.replicate G ([] : List Int))[i]? = some l:=hl
      have hl3:l=[]:=List.eq_of_mem_replicate (List.mem_of_getElem? hl2)
      subst hv hl3
      exact World.ownsRow_nil _ _ _ _
     ·cases hv
    ·rw[List.getElem?_replicate] at hi
     split at hi
     ·injection hi with hi
      subst hi
      cases hb
     ·cases hi)
   have HWX:Hid (w.heap.size≤w1.heap.size):=Hd_ HB1.out.size
   have HBW:=Hd_ (HB1.out.alloc HB1.out.size (.cells (List.replicate G (Value.slice none 0 0)).toArray 39))
   have HUW:=Hd_ (HU1.out.alloc (.cells (List.replicate G (Value.slice none 0 0)).toArray 39))
   clear c2 c2y
   go_loopw [29] (fun v29 wr=>∃ (k:Nat) (vs:List Value),v29=.int .i64 k∧k≤G∧Hid (RowsV wr w.heap.size w1.heap.size vs (placeW u true G k))∧Hid (Below w.heap.size w wr)∧Hid (Blk wr w.heap.size 25 [sv,lv,.slice gA G gc])) (fun v29 _=>G - (intOf v29).toNat)
   case atStart=>exact⟨0,_,rfl,Nat.zero_le _,Hd_ (by simpa using HRI.out),Hd_ (by simpa using HBW.out),Hd_ (by simpa using HUW.out)⟩
   case round =>
    obtain⟨k,vs,rfl,hk,HR,HB,HU⟩:=hrel
    have hrb:=HR.out.blk
    have hrs:=hrb.lt
    by_cases hlt:k < G
    ·obtain⟨g,hg⟩ : ∃ g,u.graphs[k]? = some g:=⟨u.graphs[k]'(by rw[HGL.out];exact hlt),List.getElem?_eq_getElem _⟩
     have HG:=Hd_ hg
     have c0:=HU.out.cell 0
     have c1:=HU.out.cell 1
     have c2:=HU.out.cell 2
     have k0:(0:Int)≤k:=by omega
     have kG:(k:Int) < G:=by omega
     have HLO:=Hd_ (HLO0.out wr k HB.out)
     have HFA:=Hd_ (ZDm HCC.out hg)
     have hvl:k < vs.length:=by rw[HR.out.len,ZAR u true hk];exact hlt
     obtain⟨vk,hvk⟩ : ∃ vk,vs[k]? = some vk:=⟨_,List.getElem?_eq_getElem hvl⟩
     have hxk:=(hrb.cell k).trans hvk
     have HXC:=Hd_ hxk
     have hl4:Hid ((loadsR u (k:Int) []).1.length≤4096):=Hd_ (Nat.le_trans (ZC0 HFA.out) ((ZK HCC.out).graphs g (List.mem_of_getElem? hg)).whole.most)
     obtain⟨ll,hll⟩ : ∃ ll,(loadsR u (k:Int) []).1=ll:=⟨_,rfl⟩
     rw[hll] at HFA hl4
     have HLL:=Hd_ hll
     unfold LoadsPost at HLO
     simp only[hll] at HLO
     clear hg hvk hxk hll hvl hrb
     go_wp2_with (first
      | (go_at_call 14
         refine(HLO.out).mono ?_
         rintro e w3 ⟨r3,rfl,ho3,hb3⟩
         obtain⟨rA,rc,rfl,-⟩:=ZE ho3
         have HBW3:=Hd_ (HB.out.trans (hb3.mono HB.out.size))
         have HR3:=Hd_ (HR.out.below hb3)
         have HO3:=Hd_ (Zv ho3)
         have HU3:=Hd_ (HU.out.below hb3 HU.out.lt)
         have m0:=HU3.out.cell 0
         have m1:=HU3.out.cell 1
         have m2:=HU3.out.cell 2
         have HMG:=Hd_ (HMG0.out w3 k g _ ll HBW3.out HCC.out HG.out HO3.out HFA.out)
         clear hb3 ho3)
      | (go_at_call 23
         refine(HMG.out).mono ?_
         rintro e w4 ⟨v4,rfl,hi4,hb4⟩
         obtain⟨mA,mc,rfl,-⟩:=id hi4
         have HBW4:=Hd_ (HBW3.out.trans (hb4.mono HBW3.out.size))
         have HR4:=Hd_ (HR3.out.below hb4)
         have HU4:=Hd_ (HU3.out.below hb4 HU3.out.lt)
         have HCL:=Hd_ (ZAF _ _ w4 hi4 (by have:=(ZCO u (k:Int) (depthL g) ll.length ll ll).length_le;have:=hl4.out;omega))
         have HPL:Hid (mergeF u (k:Int) (depthL g) ll.length ll ll=placeL u true k):=Hd_ (by rw[ZAK HG.out,HLL.out])
         clear hb4 hi4)
      | (go_at_call 24
         refine(HCL.out).mono ?_
         rintro e w5 ⟨v5,rfl,ho5,hb5⟩
         obtain⟨sA,sc,rfl,-⟩:=ZE ho5
         have HBW5:=Hd_ (HBW4.out.trans (hb5.mono HBW4.out.size))
         have HU5:=Hd_ (HU4.out.below hb5 HU4.out.lt)
         have hr5:=HR4.out.below hb5
         have hx5:=(hr5.blk.cell k).trans ((HR.out.blk.cell k).symm.trans HXC.out)
         have hf5:=hr5.blk.frozen k
         have HRR:=Hd_ (HR4.out.put (i:=k) (by rw[ZAR u true hk];exact hlt) hb5 ho5 HBW4.out.size)
         clear hb5 hr5 ho5))
     go_roundw
     case rel =>
      have hrr:=HRR.out
      have hset:=ZD5 u true hlt
      rw[← HPL.out] at hset
      rw[hset] at hrr
      exact⟨k+1,_,by go_num,by omega,Hd_ hrr,Hd_ (HBW5.out.setCell (p:=⟨w1.heap.size,k,none⟩) HWX.out _),Hd_ (HU5.out.far (p:=⟨w1.heap.size,k,none⟩) (by have:=HU1.out.lt;show w.heap.size≠w1.heap.size;omega) _)⟩
     case measure=>simp[intOf];omega
    ·obtain rfl:k=G:=by omega
     have HR5:Hid (RowsV wr w.heap.size w1.heap.size vs (placeK u true k)):=Hd_ (by rw[← ZDH];exact HR.out)
     go_wp2
     go_ret2
     refine⟨.slice (some ⟨w1.heap.size,0,none⟩) k k,by rw[HS.out];rfl,HB.out,.inr ⟨w1.heap.size,vs,HCC.out,?_,?_,HWX.out,?_⟩⟩
     ·rw[HGL.out];exact HS.out
     ·rw[HGL.out]
     ·rw[HGL.out];exact HR5.out
end Go.Proofs.YtffgnjgphkdodaaDoor
