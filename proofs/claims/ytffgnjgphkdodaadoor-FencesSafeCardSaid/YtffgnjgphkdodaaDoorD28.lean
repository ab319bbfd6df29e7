import Derived.Test.YtffgnjgphkdodaaDoorD25
import Derived.Test.YtffgnjgphkdodaaDoorD21
import Derived.Test.YtffgnjgphkdodaaDoorD27
import Derived.Test.YtffgnjgphkdodaaDoorD22
namespace Go.Proofs.YtffgnjgphkdodaaDoor
open Go Go.RowKit
def slCo:List Nat:=[38,39,40,41,42,43,44]
def cost1 (d:Int) : Int:=4 ^ (min d.toNat 16)
theorem ZIP {d:Int} (h:17≤d) : cost1 d=4294967296:=by
 unfold cost1
 rw[Nat.min_eq_right (by omega)]
 decide
theorem ZF2 (d:Int) : 1≤cost1 d∧cost1 d≤4294967296:=by
 unfold cost1
 obtain⟨m,hm⟩ : ∃ m,min d.toNat 16=m:=⟨_,rfl⟩
 have hm2:m≤16:=by omega
 rw[hm]
 rcases(by omega:m=0∨m=1∨m=2∨m=3∨m=4∨m=5∨m=6∨m=7∨m=8∨m=9∨m=10∨m=11∨m=12∨m=13∨m=14∨m=15∨m=16) with rfl | rfl | rfl | rfl | rfl | rfl | rfl | rfl | rfl | rfl | rfl | rfl | rfl | rfl | rfl | rfl | rfl <;> decide
noncomputable def costG (g:Graph) (F:List Int) : Int:=(F.map fun x=>cost1 (depN g g.nodes.length x.toNat:Nat)).sum
theorem ZIO (g:Graph) : costG g []=0:=rfl
theorem ZHF {g:Graph} {F:List Int} {j:Nat} {x:Int} (h:F[j]? = some x) : costG g (F.take (j+1))=costG g (F.take j)+cost1 (depN g g.nodes.length x.toNat:Nat):=by
 obtain⟨hlt,h3⟩:=List.getElem?_eq_some_iff.1 h
 unfold costG
 rw[List.take_succ_eq_append_getElem hlt,h3,List.map_append,List.sum_append]
 simp
noncomputable def costS (u:Unit_) (L:List (List Int)) (k:Nat) : Int:=((List.range k).map fun t=>match u.graphs[t]?,L[t]? with | some g,some F=>costG g F | _,_=>0).sum
theorem ZEG (u:Unit_) (L:List (List Int)) : costS u L 0=0:=rfl
theorem ZAw {u:Unit_} {L:List (List Int)} {k:Nat} {g:Graph} {F:List Int} (hg:u.graphs[k]? = some g) (hl:L[k]? = some F) : costS u L (k+1)=costS u L k+costG g F:=by
 unfold costS
 rw[List.range_succ,List.map_append,List.sum_append]
 simp[hg,hl]
open Classical in
noncomputable def costR (u:Unit_) (L:List (List Int)) : Int × Int :=
 if checkF u=none then if L.length=u.graphs.length∧FenAll u L then (costS u L u.graphs.length,0) else (0,110) else (0,60)
theorem ZIM {u:Unit_} {L:List (List Int)} (h:checkF u≠none) : costR u L=(0,60):=by unfold costR;rw[if_neg h]
theorem ZDg {u:Unit_} {L:List (List Int)} (h:checkF u=none) (h2:¬ (L.length=u.graphs.length∧FenAll u L)) : costR u L=(0,110):=by unfold costR;rw[if_pos h,if_neg h2]
theorem ZCY {u:Unit_} {L:List (List Int)} (h:checkF u=none) (h2:L.length=u.graphs.length∧FenAll u L) : costR u L=(costS u L u.graphs.length,0):=by unfold costR;rw[if_pos h,if_pos h2]
def CostPost (u:Unit_) (L:List (List Int)) (w:World) (e:Ending) (w':World) : Prop:=e=.returned (.tuple #[.int .i64 (costR u L).1,.int .i64 (costR u L).2])∧Below w.heap.size w w'
set_option maxRecDepth 100000 in
set_option maxHeartbeats 8000000 in
theorem ZEF (u:Unit_) (cs:List Value) (v:Value) (L:List (List Int)) (w:World) (hu:UnitV (cmap w) cs u) (hok:UOk u) (hL:Ints2 (cmap w) v L) :
  Calls Tryd.prog 17 #[.agg cs.toArray,v] w (CostPost u L w):=by
 have HC:=Hd_ fun w1 (h:Below w.heap.size w w1)=>Zz u cs w1 (hu.mono (ZA h)) hok
 obtain⟨sv,lv,gv,rfl,-,-,hgs⟩:=hu
 obtain⟨gA,gc,rfl,-⟩:=id hgs
 have hgl:=hgs.len.2.2
 obtain⟨lA,lc,rfl,-⟩:=id hL
 have hll:=hL.len.2.2
 have hbx:=Blk.new w 25 [sv,lv,.slice gA u.graphs.length gc]
 have hb0:=ZB w (.cells #[sv,lv,.slice gA u.graphs.length gc] 25)
 have HBX:=Hd_ (And.intro hbx hb0)
 have HG:=Hd_ hgs
 have HL:=Hd_ hL
 clear hbx hb0 hgs hL
 cases hc:checkF u with
 | some r =>
  obtain⟨r1,r2⟩:=r
  have HS:=Hd_ (ZIM (u:=u) (L:=L) (by rw[hc];simp))
  rw[hc] at HC
  clear hc
  go_enter Tryd.func17,Tryd.ntmps17
  go_wp2_with (first
   | (go_at_call 22
      refine(HC.out _ HBX.out.2).mono ?_
      rintro e w1 ⟨rfl,hb1⟩
      have HB1:=Hd_ (HBX.out.2.trans (hb1.mono HBX.out.2.size))
      simp only[checkV]
      clear hb1))
  go_ret2
  exact⟨by rw[HS.out];rfl,HB1.out⟩
 | none =>
  rw[hc] at HC
  have HCC:=Hd_ hc
  clear hc
  by_cases hlen:L.length=u.graphs.length
  ·have d0:((L.length:Int) != (u.graphs.length:Int))=false:=by simp[hlen]
   rw[hlen] at d0
   obtain⟨G,hG⟩ : ∃ G,u.graphs.length=G:=⟨_,rfl⟩
   have hlen2:L.length=G:=by rw[hlen,hG]
   rw[hG] at d0 hgl HBX HG HC
   rw[hlen2] at hll HL
   rw[hlen2,hG]
   have HLG:=Hd_ (And.intro hlen2 hG)
   clear hlen hlen2 hG
   go_enter Tryd.func17,Tryd.ntmps17
   go_wp2_with (first
    | (go_at_call 22
       refine(HC.out _ HBX.out.2).mono ?_
       rintro e w1 ⟨rfl,hb1⟩
       have HU1:=Hd_ (HBX.out.1.below hb1 HBX.out.1.lt)
       have c2:=HU1.out.cell 2
       have HB1:=Hd_ (HBX.out.2.trans (hb1.mono HBX.out.2.size))
       simp only[checkV]
       clear hb1))
   go_loopw [9,33] (fun v9 v33 wr=>∃ (k:Nat) (s:Int),v33=.int .i64 k∧v9=.int .i64 s∧k≤G∧Hid (s=costS u L k)∧0≤s∧s≤k * 17592186044416∧Hid (∀ (t:Nat) (g:Graph) (l:List Int),t < k→u.graphs[t]? = some g→L[t]? = some l→fenB g.nodes.length (-1) l=true)∧Hid (Below w1.heap.size w1 wr)) (fun _ v33 _=>G - (intOf v33).toNat)
   case atStart=>exact⟨0,0,rfl,rfl,Nat.zero_le _,Hd_ (ZEG u L).symm,by omega,by omega,Hd_ (fun t _ _ h=>by omega),Hd_ (Below.refl _ _)⟩
   case round =>
    obtain⟨k,s0,rfl,rfl,hk,HS0,hs1,hs2,HF,HB⟩:=hrel
    have hbw:Below w.heap.size w wr:=HB1.out.trans (HB.out.mono HB1.out.size)
    have hur:=HU1.out.below HB.out HU1.out.lt
    by_cases hlt:k < G
    ·obtain⟨g,hg⟩ : ∃ g,u.graphs[k]? = some g:=⟨u.graphs[k]'(by rw[HLG.out.2];exact hlt),List.getElem?_eq_getElem _⟩
     obtain⟨l,hl⟩ : ∃ l,L[k]? = some l:=⟨L[k]'(by rw[HLG.out.1];exact hlt),List.getElem?_eq_getElem _⟩
     obtain⟨gb,go,rfl,gcs,hgv,hgc⟩:=HG.out.at_ hg
     obtain⟨lb,lo,rfl,fv,hfc,hfi⟩:=HL.out.at_ hl
     rw[Nat.mul_one] at hfc
     have hfc1:wr.cell? ⟨lb,lo+k,none⟩=some fv:=ZA hbw _ _ _ hfc
     have hrt:=fun wx (h:Below w.heap.size w wx)=>ZCj g gcs fv l wx (hgv.mono (ZA h)) (hfi.mono (ZA h))
     have hdc:=fun wx (h:Below w.heap.size w wx) (hw:WholeG g)=>ZDe g gcs wx hw (hgv.mono (ZA h))
     obtain⟨nv,rfl,hnv⟩:=id hgv
     obtain⟨nA,nc,rfl,-⟩:=id hnv
     have HLD:Hid (∀ wx,Below wr.heap.size wr wx→∀ j x,([.string g.name,.int .i64 g.locals,.int .i64 g.slots,.slice nA g.nodes.length nc] : List Value)[j]? = some x→wx.cell? ⟨gb,go+k * 4+j,none⟩=some x):=Hd_ fun wx hx j x hj=>ZA hx _ _ _ (ZA hbw _ _ _ (hgc j x hj))
     obtain⟨fA,fc,rfl,-⟩:=id hfi
     have HRT0:=Hd_ hrt
     have HDC:=Hd_ hdc
     have HFI:=Hd_ hfi
     have k0:(0:Int)≤k:=by omega
     have kG:(k:Int) < G:=by omega
     have HGL:=Hd_ (And.intro hg (And.intro hl (And.intro hbw hur)))
     clear hg hl hgv hgc hfc hfi hnv hur hbw hrt hdc
     cases hfb:fenB g.nodes.length (-1) l with
     | false =>
      have HFB:=Hd_ hfb
      rw[hfb] at HRT0
      clear hfb
      go_wp2_with (first
       | (refine ZC rfl 38 _ rfl gb (go+k * 4) rfl _ _ (HLD.out _ (Below.refl _ _)) Tryd.underlying38 rfl (by kernel_rfl) ?_)
       | (refine ZO 38 rfl ?_))
      refine Stop.intro ?_
      refine wpList_store_row rfl 38 _ _ rfl wr.heap.size #[.string g.name,.int .i64 g.locals,.int .i64 g.slots,.slice nA g.nodes.length nc] rfl rfl 38 _ (heap_alloc_new _ _) (by kernel_rfl) rfl (by simp[Value.oneCell']) ?_
      rw[World.setRow_alloc_new]
      obtain⟨X,hX⟩ : ∃ X,wr.heap.size=X:=⟨_,rfl⟩
      have hxb0:=Blk.new wr 38 [.string g.name,.int .i64 g.locals,.int .i64 g.slots,.slice nA g.nodes.length nc]
      have ha0:=ZB wr (.cells #[.string g.name,.int .i64 g.locals,.int .i64 g.slots,.slice nA g.nodes.length nc] 38)
      obtain⟨W0,hW0⟩ : ∃ W0,wr.alloc (.cells #[.string g.name,.int .i64 g.locals,.int .i64 g.slots,.slice nA g.nodes.length nc] 38)=W0:=⟨_,rfl⟩
      rw[hW0] at hxb0 ha0 ⊢
      rw[hX] at hxb0 ⊢
      have HXW:=Hd_ hxb0
      have HBWR:=Hd_ ha0
      have HBW0:=Hd_ (HGL.out.2.2.1.trans (ha0.mono HGL.out.2.2.1.size))
      have HB1W:=Hd_ (HB.out.trans (ha0.mono HB.out.size))
      have HFC:=Hd_ (ZA HBWR.out _ _ _ hfc1)
      have HRT:=Hd_ fun wx (h:Below W0.heap.size W0 wx)=>HRT0.out wx (HBW0.out.trans (h.mono HBW0.out.size))
      clear hxb0 hW0 ha0 hX
      go_wp2
      refine ZAf fun a0 ha0=>?_
      have t11:a0.eval (.tmp 11)=.pointer (some ⟨X,0,none⟩):=by rw[ha0];rfl
      have t1:a0.eval (.tmp 1)=.slice (some ⟨lb,lo,none⟩) G lc:=by rw[ha0];rfl
      have t10:a0.eval (.tmp 10)=.int .i64 (k:Nat):=by rw[ha0];rfl
      have hsz:a0.tmps.size=68:=by rw[ha0];rfl
      have HA0:=Hd_ ha0;clear ha0
      refine Zh [(38,.is (.agg #[.string g.name,.int .i64 g.locals,.int .i64 g.slots,.slice nA g.nodes.length nc])),(39,.is (.slice (some ⟨lb,lo,none⟩) G lc)),(40,.is (.int .i64 (k:Nat))),(41,.is (.pointer (some ⟨lb,lo+k,none⟩))),(42,.is (.slice fA l.length fc)),(43,.is (.bool false)),(44,.is (.bool true))] (by kernel_rfl) (by kernel_rfl) ?steps ?done
      case steps =>
       refine⟨?_,?_,?_,?_,?_,?_,?_,trivial⟩
       ·
        refine JW.step (slots:=slCo) rfl (by decide) (by rw[hsz];decide) (38,.is (.agg #[.string g.name,.int .i64 g.locals,.int .i64 g.slots,.slice nA g.nodes.length nc])) rfl rfl rfl ?_
        intro D a wx K hD hp h hK
        have hfr:Fr slCo a0 a:=h.fr
        refine ZD rfl ?_
        have q11:a.eval (.tmp 11)=.pointer (some ⟨X,0,none⟩):=(hfr.eval (j:=11) (by decide)).trans t11
        refine ZAG hK 38 _ rfl X (0) q11 _ (by have hb:=h.below;exact fun j v hj=>by rw[Nat.zero_add,(HXW.out.below hb HXW.out.lt).cell];exact hj) Tryd.underlying38 rfl (by kernel_rfl)
       ·
        refine JW.step (slots:=slCo) rfl (by decide) (by rw[hsz];decide) (39,.is (.slice (some ⟨lb,lo,none⟩) G lc)) rfl rfl rfl ?_
        intro D a wx K hD hp h hK
        have hfr:Fr slCo a0 a:=h.fr
        refine ZD rfl ?_
        have q1:a.eval (.tmp 1)=.slice (some ⟨lb,lo,none⟩) G lc:=(hfr.eval (j:=1) (by decide)).trans t1
        exact ZH hK rfl q1
       ·
        refine JW.step (slots:=slCo) rfl (by decide) (by rw[hsz];decide) (40,.is (.int .i64 (k:Nat))) rfl rfl rfl ?_
        intro D a wx K hD hp h hK
        have hfr:Fr slCo a0 a:=h.fr
        refine ZD rfl ?_
        have q10:a.eval (.tmp 10)=.int .i64 (k:Nat):=(hfr.eval (j:=10) (by decide)).trans t10
        exact ZH hK rfl q10
       ·
        refine JW.step (slots:=slCo) rfl (by decide) (by rw[hsz];decide) (41,.is (.pointer (some ⟨lb,lo+k,none⟩))) rfl rfl rfl ?_
        intro D a wx K hD hp h hK
        have hfr:Fr slCo a0 a:=h.fr
        refine ZD rfl ?_
        have q39:a.eval (.tmp 39)=.slice (some ⟨lb,lo,none⟩) G lc:=h.val 1 _ rfl (hp 1 (by decide))
        have q40:a.eval (.tmp 40)=.int .i64 (k:Nat):=h.val 2 _ rfl (hp 2 (by decide))
        have z2:(0:Int)≤(k:Nat):=by omega
        have z3:((k:Nat) : Int) < (G:Nat):=by omega
        refine ZG hK (by clear hfr;generalize a.eval=ρ at *;go_simp)
       ·
        refine JW.step (slots:=slCo) rfl (by decide) (by rw[hsz];decide) (42,.is (.slice fA l.length fc)) rfl rfl rfl ?_
        intro D a wx K hD hp h hK
        have hfr:Fr slCo a0 a:=h.fr
        refine ZD rfl ?_
        have q41:a.eval (.tmp 41)=.pointer (some ⟨lb,lo+k,none⟩):=h.val 3 _ rfl (hp 3 (by decide))
        have z1:wx.cell? ⟨lb,lo+k,none⟩=some (.slice fA l.length fc):=ZA h.below _ _ _ HFC.out
        refine ZG hK (by clear hfr;generalize a.eval=ρ at *;go_simp)
       ·
        refine JW.step (slots:=slCo) rfl (by decide) (by rw[hsz];decide) (43,.is (.bool false)) rfl rfl rfl ?_
        intro D a wx K hD hp h hK
        have hfr:Fr slCo a0 a:=h.fr
        refine ZD rfl ?_
        have q38:a.eval (.tmp 38)=.agg #[.string g.name,.int .i64 g.locals,.int .i64 g.slots,.slice nA g.nodes.length nc]:=h.val 0 _ rfl (hp 0 (by decide))
        have q42:a.eval (.tmp 42)=.slice fA l.length fc:=h.val 4 _ rfl (hp 4 (by decide))
        refine ZAH hK Tryd.func39 (by kernel_rfl) (by kernel_rfl) rfl #[.agg #[.string g.name,.int .i64 g.locals,.int .i64 g.slots,.slice nA g.nodes.length nc],.slice fA l.length fc] (by simp only[List.map_toArray,List.map_cons,List.map_nil,q38,q42];try rfl) ?_
        refine(HRT.out wx h.below).mono ?_
        rintro e w' ⟨rfl,hb⟩
        exact⟨_,rfl,hb,rfl⟩
       ·
        refine JW.step (slots:=slCo) rfl (by decide) (by rw[hsz];decide) (44,.is (.bool true)) rfl rfl rfl ?_
        intro D a wx K hD hp h hK
        have hfr:Fr slCo a0 a:=h.fr
        refine ZD rfl ?_
        have q43:a.eval (.tmp 43)=.bool false:=h.val 5 _ rfl (hp 5 (by decide))
        refine ZG hK (by clear hfr;generalize a.eval=ρ at *;go_simp)
      case done =>
       intro D a wz hall h
       have hd:∀ i,i < 7→D i=true:=hall
       have hfin:=Fr.allW (slots:=slCo) h.fr (by rw[hsz];decide)
       simp only[putW,slCo] at hfin
       rw[(show a.eval (.tmp 38)=.agg #[.string g.name,.int .i64 g.locals,.int .i64 g.slots,.slice nA g.nodes.length nc] from h.val 0 _ rfl (hd 0 (by decide))),(show a.eval (.tmp 39)=.slice (some ⟨lb,lo,none⟩) G lc from h.val 1 _ rfl (hd 1 (by decide))),(show a.eval (.tmp 40)=.int .i64 (k:Nat) from h.val 2 _ rfl (hd 2 (by decide))),(show a.eval (.tmp 41)=.pointer (some ⟨lb,lo+k,none⟩) from h.val 3 _ rfl (hd 3 (by decide))),(show a.eval (.tmp 42)=.slice fA l.length fc from h.val 4 _ rfl (hd 4 (by decide))),(show a.eval (.tmp 43)=.bool false from h.val 5 _ rfl (hd 5 (by decide))),(show a.eval (.tmp 44)=.bool true from h.val 6 _ rfl (hd 6 (by decide)))] at hfin
       have hbz:=h.below
       rw[hfin,HA0.out]
       clear hfin HA0 h hall hd t11 t1 t10 hsz
       simp only[Act.put,List.setIfInBounds_toArray,List.set_cons_zero,List.set_cons_succ]
       have HZ:=Hd_ hbz
       clear hbz
       go_wp2
       go_ret2
       have hs:=ZDg (u:=u) (L:=L) HCC.out (by rintro⟨_,h⟩;have:=h k g l HGL.out.1 HGL.out.2.1;rw[HFB.out] at this;cases this)
       exact⟨by rw[hs];rfl,HBW0.out.trans (HZ.out.mono HBW0.out.size)⟩
     | true =>
      have HFB:=Hd_ hfb
      rw[hfb] at HRT0
      clear hfb
      go_wp2_with (first
       | (refine ZC rfl 38 _ rfl gb (go+k * 4) rfl _ _ (HLD.out _ (Below.refl _ _)) Tryd.underlying38 rfl (by kernel_rfl) ?_)
       | (refine ZO 38 rfl ?_))
      refine Stop.intro ?_
      refine wpList_store_row rfl 38 _ _ rfl wr.heap.size #[.string g.name,.int .i64 g.locals,.int .i64 g.slots,.slice nA g.nodes.length nc] rfl rfl 38 _ (heap_alloc_new _ _) (by kernel_rfl) rfl (by simp[Value.oneCell']) ?_
      rw[World.setRow_alloc_new]
      obtain⟨X,hX⟩ : ∃ X,wr.heap.size=X:=⟨_,rfl⟩
      have hxb0:=Blk.new wr 38 [.string g.name,.int .i64 g.locals,.int .i64 g.slots,.slice nA g.nodes.length nc]
      have ha0:=ZB wr (.cells #[.string g.name,.int .i64 g.locals,.int .i64 g.slots,.slice nA g.nodes.length nc] 38)
      obtain⟨W0,hW0⟩ : ∃ W0,wr.alloc (.cells #[.string g.name,.int .i64 g.locals,.int .i64 g.slots,.slice nA g.nodes.length nc] 38)=W0:=⟨_,rfl⟩
      rw[hW0] at hxb0 ha0 ⊢
      rw[hX] at hxb0 ⊢
      have HXW:=Hd_ hxb0
      have HBWR:=Hd_ ha0
      have HBW0:=Hd_ (HGL.out.2.2.1.trans (ha0.mono HGL.out.2.2.1.size))
      have HB1W:=Hd_ (HB.out.trans (ha0.mono HB.out.size))
      have HFC:=Hd_ (ZA HBWR.out _ _ _ hfc1)
      have HRT:=Hd_ fun wx (h:Below W0.heap.size W0 wx)=>HRT0.out wx (HBW0.out.trans (h.mono HBW0.out.size))
      clear hxb0 hW0 ha0 hX
      go_wp2
      refine ZAf fun a0 ha0=>?_
      have t11:a0.eval (.tmp 11)=.pointer (some ⟨X,0,none⟩):=by rw[ha0];rfl
      have t1:a0.eval (.tmp 1)=.slice (some ⟨lb,lo,none⟩) G lc:=by rw[ha0];rfl
      have t10:a0.eval (.tmp 10)=.int .i64 (k:Nat):=by rw[ha0];rfl
      have hsz:a0.tmps.size=68:=by rw[ha0];rfl
      have HA0:=Hd_ ha0;clear ha0
      refine Zh [(38,.is (.agg #[.string g.name,.int .i64 g.locals,.int .i64 g.slots,.slice nA g.nodes.length nc])),(39,.is (.slice (some ⟨lb,lo,none⟩) G lc)),(40,.is (.int .i64 (k:Nat))),(41,.is (.pointer (some ⟨lb,lo+k,none⟩))),(42,.is (.slice fA l.length fc)),(43,.is (.bool true)),(44,.is (.bool false))] (by kernel_rfl) (by kernel_rfl) ?steps ?done
      case steps =>
       refine⟨?_,?_,?_,?_,?_,?_,?_,trivial⟩
       ·
        refine JW.step (slots:=slCo) rfl (by decide) (by rw[hsz];decide) (38,.is (.agg #[.string g.name,.int .i64 g.locals,.int .i64 g.slots,.slice nA g.nodes.length nc])) rfl rfl rfl ?_
        intro D a wx K hD hp h hK
        have hfr:Fr slCo a0 a:=h.fr
        refine ZD rfl ?_
        have q11:a.eval (.tmp 11)=.pointer (some ⟨X,0,none⟩):=(hfr.eval (j:=11) (by decide)).trans t11
        refine ZAG hK 38 _ rfl X (0) q11 _ (by have hb:=h.below;exact fun j v hj=>by rw[Nat.zero_add,(HXW.out.below hb HXW.out.lt).cell];exact hj) Tryd.underlying38 rfl (by kernel_rfl)
       ·
        refine JW.step (slots:=slCo) rfl (by decide) (by rw[hsz];decide) (39,.is (.slice (some ⟨lb,lo,none⟩) G lc)) rfl rfl rfl ?_
        intro D a wx K hD hp h hK
        have hfr:Fr slCo a0 a:=h.fr
        refine ZD rfl ?_
        have q1:a.eval (.tmp 1)=.slice (some ⟨lb,lo,none⟩) G lc:=(hfr.eval (j:=1) (by decide)).trans t1
        exact ZH hK rfl q1
       ·
        refine JW.step (slots:=slCo) rfl (by decide) (by rw[hsz];decide) (40,.is (.int .i64 (k:Nat))) rfl rfl rfl ?_
        intro D a wx K hD hp h hK
        have hfr:Fr slCo a0 a:=h.fr
        refine ZD rfl ?_
        have q10:a.eval (.tmp 10)=.int .i64 (k:Nat):=(hfr.eval (j:=10) (by decide)).trans t10
        exact ZH hK rfl q10
       ·
        refine JW.step (slots:=slCo) rfl (by decide) (by rw[hsz];decide) (41,.is (.pointer (some ⟨lb,lo+k,none⟩))) rfl rfl rfl ?_
        intro D a wx K hD hp h hK
        have hfr:Fr slCo a0 a:=h.fr
        refine ZD rfl ?_
        have q39:a.eval (.tmp 39)=.slice (some ⟨lb,lo,none⟩) G lc:=h.val 1 _ rfl (hp 1 (by decide))
        have q40:a.eval (.tmp 40)=.int .i64 (k:Nat):=h.val 2 _ rfl (hp 2 (by decide))
        have z2:(0:Int)≤(k:Nat):=by omega
        have z3:((k:Nat) : Int) < (G:Nat):=by omega
        refine ZG hK (by clear hfr;generalize a.eval=ρ at *;go_simp)
       ·
        refine JW.step (slots:=slCo) rfl (by decide) (by rw[hsz];decide) (42,.is (.slice fA l.length fc)) rfl rfl rfl ?_
        intro D a wx K hD hp h hK
        have hfr:Fr slCo a0 a:=h.fr
        refine ZD rfl ?_
        have q41:a.eval (.tmp 41)=.pointer (some ⟨lb,lo+k,none⟩):=h.val 3 _ rfl (hp 3 (by decide))
        have z1:wx.cell? ⟨lb,lo+k,none⟩=some (.slice fA l.length fc):=ZA h.below _ _ _ HFC.out
        refine ZG hK (by clear hfr;generalize a.eval=ρ at *;go_simp)
       ·
        refine JW.step (slots:=slCo) rfl (by decide) (by rw[hsz];decide) (43,.is (.bool true)) rfl rfl rfl ?_
        intro D a wx K hD hp h hK
        have hfr:Fr slCo a0 a:=h.fr
        refine ZD rfl ?_
        have q38:a.eval (.tmp 38)=.agg #[.string g.name,.int .i64 g.locals,.int .i64 g.slots,.slice nA g.nodes.length nc]:=h.val 0 _ rfl (hp 0 (by decide))
        have q42:a.eval (.tmp 42)=.slice fA l.length fc:=h.val 4 _ rfl (hp 4 (by decide))
        refine ZAH hK Tryd.func39 (by kernel_rfl) (by kernel_rfl) rfl #[.agg #[.string g.name,.int .i64 g.locals,.int .i64 g.slots,.slice nA g.nodes.length nc],.slice fA l.length fc] (by simp only[List.map_toArray,List.map_cons,List.map_nil,q38,q42];try rfl) ?_
        refine(HRT.out wx h.below).mono ?_
        rintro e w' ⟨rfl,hb⟩
        exact⟨_,rfl,hb,rfl⟩
       ·
        refine JW.step (slots:=slCo) rfl (by decide) (by rw[hsz];decide) (44,.is (.bool false)) rfl rfl rfl ?_
        intro D a wx K hD hp h hK
        have hfr:Fr slCo a0 a:=h.fr
        refine ZD rfl ?_
        have q43:a.eval (.tmp 43)=.bool true:=h.val 5 _ rfl (hp 5 (by decide))
        refine ZG hK (by clear hfr;generalize a.eval=ρ at *;go_simp)
      case done =>
       intro D a wz hall h
       have hd:∀ i,i < 7→D i=true:=hall
       have hfin:=Fr.allW (slots:=slCo) h.fr (by rw[hsz];decide)
       simp only[putW,slCo] at hfin
       rw[(show a.eval (.tmp 38)=.agg #[.string g.name,.int .i64 g.locals,.int .i64 g.slots,.slice nA g.nodes.length nc] from h.val 0 _ rfl (hd 0 (by decide))),(show a.eval (.tmp 39)=.slice (some ⟨lb,lo,none⟩) G lc from h.val 1 _ rfl (hd 1 (by decide))),(show a.eval (.tmp 40)=.int .i64 (k:Nat) from h.val 2 _ rfl (hd 2 (by decide))),(show a.eval (.tmp 41)=.pointer (some ⟨lb,lo+k,none⟩) from h.val 3 _ rfl (hd 3 (by decide))),(show a.eval (.tmp 42)=.slice fA l.length fc from h.val 4 _ rfl (hd 4 (by decide))),(show a.eval (.tmp 43)=.bool true from h.val 5 _ rfl (hd 5 (by decide))),(show a.eval (.tmp 44)=.bool false from h.val 6 _ rfl (hd 6 (by decide)))] at hfin
       have hbz:=h.below
       rw[hfin,HA0.out]
       clear hfin HA0 h hall hd t11 t1 t10 hsz
       simp only[Act.put,List.setIfInBounds_toArray,List.set_cons_zero,List.set_cons_succ]
       have HZ:=Hd_ hbz
       clear hbz
       have HFK:Hid (∀ (t:Nat) (g:Graph) (l:List Int),t < k+1→u.graphs[t]? = some g→L[t]? = some l→fenB g.nodes.length (-1) l=true):=Hd_ (fun t g' l' ht hg' hl'=>by
        by_cases e:t=k
        ·subst e
         have h1:=HGL.out.1
         have h2:=HGL.out.2.1
         rw[h1] at hg';rw[h2] at hl'
         injection hg' with hg';injection hl' with hl'
         subst hg' hl'
         exact HFB.out
        ·exact HF.out t g' l' (by omega) hg' hl')
       have hwg:WholeG g:=((ZK HCC.out).graphs g (List.mem_of_getElem? HGL.out.1)).whole
       have hmost:=hwg.most
       have hll2:l.length≤4096:=by
        rcases ZAu l (-1) (by omega) HFB.out with h | h
        ·omega
        ·rw[h];simp
       have hG8:=(ZK HCC.out).threads
       rw[HLG.out.2] at hG8
       have hxz:=HXW.out.below HZ.out HXW.out.lt
       have HLX:Hid (∀ j v,([.string g.name,.int .i64 g.locals,.int .i64 g.slots,.slice nA g.nodes.length nc] : List Value)[j]? = some v→wz.cell? ⟨X,0+j,none⟩=some v):=Hd_ fun j v hj=>by rw[Nat.zero_add,hxz.cell];exact hj
       have HDP:=Hd_ (HDC.out wz (HBW0.out.trans (HZ.out.mono HBW0.out.size)) hwg)
       have hfz:wz.cell? ⟨lb,lo+k,none⟩=some (.slice fA l.length fc):=ZA HZ.out _ _ _ HFC.out
       have HFZ:=Hd_ hfz
       clear hxz hwg hfz
       go_wp2_with (first
        | (refine ZC rfl 38 _ rfl X 0 rfl _ _ HLX.out Tryd.underlying38 rfl (by kernel_rfl) ?_)
        | (go_at_call 40
           refine(HDP.out).mono ?_
           rintro e w2 ⟨dv,rfl,hdo,hb2⟩
           obtain⟨dA,dc,rfl,-⟩:=ZE hdo
           have hf2:w2.cell? ⟨lb,lo+k,none⟩=some (.slice fA l.length fc):=ZA hb2 _ _ _ HFZ.out
           have HD2:=Hd_ (And.intro (Zv (by rw[show g.nodes.length=(depthL g).length from(Zj _ _).symm] at hdo;exact hdo)) hb2)
           clear hdo hb2))
       have HIL:=Hd_ (HFI.out.mono (ZA (HBW0.out.trans ((HZ.out.trans (HD2.out.2.mono HZ.out.size)).mono HBW0.out.size))))
       obtain⟨NL,hNL⟩ : ∃ NL,l.length=NL:=⟨_,rfl⟩
       rw[hNL] at hll2
       have HNL:=Hd_ hNL
       rw[hNL]
       clear hNL
       go_loop [9,52] (fun v9 v52=>∃ (j:Nat) (s:Int),v52=.int .i64 j∧v9=.int .i64 s∧j≤NL∧Hid (s=costS u L k+costG g (l.take j))∧0≤s∧s≤(k * 4096+j) * 4294967296) (fun _ v52=>NL - (intOf v52).toNat)
       case atStart=>exact⟨0,s0,rfl,rfl,Nat.zero_le _,Hd_ (by rw[HS0.out,List.take_zero,ZIO];omega),hs1,by omega⟩
       case round =>
        obtain⟨j,s,rfl,rfl,hj,HS,hsa,hsb⟩:=hrel
        by_cases hltj:j < NL
        ·obtain⟨x,hx⟩ : ∃ x,l[j]? = some x:=⟨l[j]'(by rw[HNL.out];exact hltj),List.getElem?_eq_getElem _⟩
         obtain⟨xb,xo,rfl,hx1⟩:=HIL.out.at_ hx
         rw[Nat.mul_one] at hx1
         have hxc:w2.cell? ⟨xb,xo+j,none⟩=some (.int .i64 x):=hx1
         have hxm:=ZGQ (by omega) HFB.out (List.mem_of_getElem? hx)
         obtain⟨xn,rfl⟩:=Int.eq_ofNat_of_zero_le hxm.1
         have hxl:xn < g.nodes.length:=by omega
         have hdx:(depthL g)[xn]? = some (depN g g.nodes.length xn:Int):=ZBT g _ hxl
         obtain⟨db,dd,rfl,hd1⟩:=HD2.out.1.at_ hdx
         rw[Nat.mul_one] at hd1
         obtain⟨D,hD⟩ : ∃ D:Int,(depN g g.nodes.length xn:Int)=D:=⟨_,rfl⟩
         rw[hD] at hd1
         have hdc:w2.cell? ⟨db,dd+xn,none⟩=some (.int .i64 D):=hd1
         have hD0:0≤D:=by omega
         have HSU:Hid (∀ c,c=cost1 D→s+c=costS u L k+costG g (l.take (j+1))):=Hd_ fun c hc=>by
          rw[hc,HS.out,ZHF hx,← hD]
          show _+_+cost1 _=_+(_+cost1 ((depN g g.nodes.length ((xn:Int).toNat) : Nat) : Int))
          rw[Int.toNat_natCast]
          omega
         have hj0:(0:Int)≤j:=by omega
         have hjN:(j:Int) < NL:=by omega
         have hx0:(0:Int)≤(xn:Int):=by omega
         have hxN:(xn:Int) < (depthL g).length:=by rw[show(depthL g).length=g.nodes.length from Zj _ _];omega
         clear hx hx1 hxm hdx hd1 hD
         rcases(by omega:D=0∨D=1∨D=2∨D=3∨D=4∨D=5∨D=6∨D=7∨D=8∨D=9∨D=10∨D=11∨D=12∨D=13∨D=14∨D=15∨D=16∨17≤D) with rfl | rfl | rfl | rfl | rfl | rfl | rfl | rfl | rfl | rfl | rfl | rfl | rfl | rfl | rfl | rfl | rfl | hDb
         ·go_wp2
          go_round
          case rel=>exact⟨j+1,s+1,by go_num,by go_num,by omega,Hd_ (HSU.out 1 (by decide)),by omega,by omega⟩
          case measure=>simp[intOf];omega
         ·go_wp2
          go_round
          case rel=>exact⟨j+1,s+4,by go_num,by go_num,by omega,Hd_ (HSU.out 4 (by decide)),by omega,by omega⟩
          case measure=>simp[intOf];omega
         ·go_wp2
          go_round
          case rel=>exact⟨j+1,s+16,by go_num,by go_num,by omega,Hd_ (HSU.out 16 (by decide)),by omega,by omega⟩
          case measure=>simp[intOf];omega
         ·go_wp2
          go_round
          case rel=>exact⟨j+1,s+64,by go_num,by go_num,by omega,Hd_ (HSU.out 64 (by decide)),by omega,by omega⟩
          case measure=>simp[intOf];omega
         ·go_wp2
          go_round
          case rel=>exact⟨j+1,s+256,by go_num,by go_num,by omega,Hd_ (HSU.out 256 (by decide)),by omega,by omega⟩
          case measure=>simp[intOf];omega
         ·go_wp2
          go_round
          case rel=>exact⟨j+1,s+1024,by go_num,by go_num,by omega,Hd_ (HSU.out 1024 (by decide)),by omega,by omega⟩
          case measure=>simp[intOf];omega
         ·go_wp2
          go_round
          case rel=>exact⟨j+1,s+4096,by go_num,by go_num,by omega,Hd_ (HSU.out 4096 (by decide)),by omega,by omega⟩
          case measure=>simp[intOf];omega
         ·go_wp2
          go_round
          case rel=>exact⟨j+1,s+16384,by go_num,by go_num,by omega,Hd_ (HSU.out 16384 (by decide)),by omega,by omega⟩
          case measure=>simp[intOf];omega
         ·go_wp2
          go_round
          case rel=>exact⟨j+1,s+65536,by go_num,by go_num,by omega,Hd_ (HSU.out 65536 (by decide)),by omega,by omega⟩
          case measure=>simp[intOf];omega
         ·go_wp2
          go_round
          case rel=>exact⟨j+1,s+262144,by go_num,by go_num,by omega,Hd_ (HSU.out 262144 (by decide)),by omega,by omega⟩
          case measure=>simp[intOf];omega
         ·go_wp2
          go_round
          case rel=>exact⟨j+1,s+1048576,by go_num,by go_num,by omega,Hd_ (HSU.out 1048576 (by decide)),by omega,by omega⟩
          case measure=>simp[intOf];omega
         ·go_wp2
          go_round
          case rel=>exact⟨j+1,s+4194304,by go_num,by go_num,by omega,Hd_ (HSU.out 4194304 (by decide)),by omega,by omega⟩
          case measure=>simp[intOf];omega
         ·go_wp2
          go_round
          case rel=>exact⟨j+1,s+16777216,by go_num,by go_num,by omega,Hd_ (HSU.out 16777216 (by decide)),by omega,by omega⟩
          case measure=>simp[intOf];omega
         ·go_wp2
          go_round
          case rel=>exact⟨j+1,s+67108864,by go_num,by go_num,by omega,Hd_ (HSU.out 67108864 (by decide)),by omega,by omega⟩
          case measure=>simp[intOf];omega
         ·go_wp2
          go_round
          case rel=>exact⟨j+1,s+268435456,by go_num,by go_num,by omega,Hd_ (HSU.out 268435456 (by decide)),by omega,by omega⟩
          case measure=>simp[intOf];omega
         ·go_wp2
          go_round
          case rel=>exact⟨j+1,s+1073741824,by go_num,by go_num,by omega,Hd_ (HSU.out 1073741824 (by decide)),by omega,by omega⟩
          case measure=>simp[intOf];omega
         ·go_wp2
          go_round
          case rel=>exact⟨j+1,s+4294967296,by go_num,by go_num,by omega,Hd_ (HSU.out 4294967296 (by decide)),by omega,by omega⟩
          case measure=>simp[intOf];omega
         ·have hmn:min D 16=16:=by omega
          have hmn2:¬ (D < 16):=by omega
          have hmn3:¬ (D≤16):=by omega
          go_wp2
          go_round
          case rel=>exact⟨j+1,s+4294967296,by go_num,by go_num,by omega,Hd_ (HSU.out 4294967296 (ZIP hDb).symm),by omega,by omega⟩
          case measure=>simp[intOf];omega
        ·have hnj:¬ ((j:Int) < NL):=by omega
         obtain rfl:NL=j:=by omega
         have HSN:Hid (s=costS u L (k+1)):=Hd_ (by rw[HS.out,ZAw HGL.out.1 HGL.out.2.1,List.take_of_length_le (by rw[HNL.out];omega)])
         have HBN:Hid (Below w1.heap.size w1 w2):=Hd_ (HB1W.out.trans ((HZ.out.trans (HD2.out.2.mono HZ.out.size)).mono HB1W.out.size))
         have hsb2:s≤(k+1:Nat) * 17592186044416:=by omega
         go_wp2
         go_roundw
         case rel=>exact⟨k+1,s,by go_num,rfl,hlt,HSN,hsa,hsb2,HFK,HBN⟩
         case measure=>simp[intOf];omega
    ·obtain rfl:k=G:=by omega
     have hfa:L.length=u.graphs.length∧FenAll u L:=⟨by rw[HLG.out.1,HLG.out.2],fun t g l hg hl=>HF.out t g l (by have:=(List.getElem?_eq_some_iff.1 hl).1;rw[HLG.out.1] at this;exact this) hg hl⟩
     have HFA:=Hd_ hfa
     have HUR:=Hd_ hbw
     have hs:=ZCY HCC.out HFA.out
     rw[HLG.out.2,← HS0.out] at hs
     have HS:=Hd_ hs
     have d2:=hur.cell 2
     clear hfa hbw hur HF hs
     go_wp2
     go_ret2
     exact⟨by rw[HS.out];rfl,HUR.out⟩
  ·have d0:((L.length:Int) != (u.graphs.length:Int))=true:=by simp;omega
   have d1:(L.length != u.graphs.length)=true:=by simp;omega
   have HS:=Hd_ (ZDg (u:=u) (L:=L) HCC.out (fun h=>hlen h.1))
   clear hlen
   go_enter Tryd.func17,Tryd.ntmps17
   go_wp2_with (first
    | (go_at_call 22
       refine(HC.out _ HBX.out.2).mono ?_
       rintro e w1 ⟨rfl,hb1⟩
       have HU1:=Hd_ (HBX.out.1.below hb1 HBX.out.1.lt)
       have c2:=HU1.out.cell 2
       have HB1:=Hd_ (HBX.out.2.trans (hb1.mono HBX.out.2.size))
       simp only[checkV]
       clear hb1))
   go_ret2
   exact⟨by rw[HS.out];rfl,HB1.out⟩
end Go.Proofs.YtffgnjgphkdodaaDoor
namespace Go.Proofs.YtffgnjgphkdodaaDoor
open Go
theorem ZIH {g:Graph} (h:g.nodes.length≤4096) : DepOk (depthL g):=by
 have hl:(depthL g).length=g.nodes.length:=Zj _ _
 refine⟨by omega,fun i x hx=>?_⟩
 have hi:i < g.nodes.length:=by have:=(List.getElem?_eq_some_iff.1 hx).1;omega
 have h1:(depthL g)[i]? = some (depN g g.nodes.length i:Int):=ZBT g _ hi
 rw[h1] at hx
 injection hx with hx
 have:=ZII g g.nodes.length i
 omega
open Classical in
noncomputable def placeL (u:Unit_) (merge:Bool) (t:Nat) : List Int :=
 if merge=true then match u.graphs[t]? with
  | some g=>mergeF u (t:Int) (depthL g) (loadsR u (t:Int) []).1.length (loadsR u (t:Int) []).1 (loadsR u (t:Int) []).1
  | none=>[]
 else (loadsR u (t:Int) []).1
noncomputable def placeK (u:Unit_) (merge:Bool) (k:Nat) : List (List Int):=(List.range k).map (placeL u merge)
open Classical in
noncomputable def placeR (u:Unit_) (merge:Bool) : List (List Int) × Int:=if checkF u=none then (placeK u merge u.graphs.length,0) else ([],60)
theorem ZCJ {u:Unit_} {m:Bool} (h:checkF u≠none) : placeR u m=([],60):=by unfold placeR;rw[if_neg h]
theorem ZAU {u:Unit_} {m:Bool} (h:checkF u=none) : placeR u m=(placeK u m u.graphs.length,0):=by unfold placeR;rw[if_pos h]
theorem Zr (u:Unit_) (m:Bool) (k:Nat) : (placeK u m k).length=k:=by simp[placeK]
theorem ZAV (u:Unit_) (m:Bool) {k t:Nat} (h:t < k) : (placeK u m k)[t]? = some (placeL u m t):=by simp[placeK,h]
theorem ZFh (u:Unit_) (m:Bool) (k:Nat) : placeK u m (k+1)=placeK u m k ++ [placeL u m k]:=by simp[placeK,List.range_succ]
theorem Z4 (u:Unit_) (t:Nat) : placeL u false t=(loadsR u (t:Int) []).1:=by unfold placeL;rw[if_neg (by simp)]
theorem ZAK {u:Unit_} {t:Nat} {g:Graph} (hg:u.graphs[t]? = some g) : placeL u true t=mergeF u (t:Int) (depthL g) (loadsR u (t:Int) []).1.length (loadsR u (t:Int) []).1 (loadsR u (t:Int) []).1:=by
 unfold placeL
 rw[if_pos rfl,hg]
section
variable {u:Unit_} {g:Graph} {t:Nat}
theorem ZBe {N:Nat} : ∀ {F:List Int} {q:Int},fenB N q F=true ↔ (∀ x∈F,q < x∧x < N)∧F.Pairwise (· < ·)
 | [],_=>by simp[fenB]
 | n :: F,q=>by
  constructor
  ·intro h
   simp only[fenB,Bool.and_eq_true,decide_eq_true_eq] at h
   obtain⟨h1,h2⟩:=h
   obtain⟨h3,h4⟩:=(ZBe (F:=F) (q:=n)).1 h2
   refine⟨fun x hx=>?_,List.pairwise_cons.2 ⟨fun x hx=>(h3 x hx).1,h4⟩⟩
   rcases List.mem_cons.1 hx with rfl | hx
   ·exact h1
   ·have:=h3 x hx;omega
  ·rintro⟨h1,h2⟩
   exact ZFz _ _ h1 h2
theorem ZBD {N:Nat} {F F':List Int} (h:fenB N (-1) F=true) (hs:F'.Sublist F) : fenB N (-1) F'=true:=by
 obtain⟨h1,h2⟩:=ZBe.1 h
 exact ZBe.2 ⟨fun x hx=>h1 x (hs.subset hx),h2.sublist hs⟩
theorem ZCz (N:Nat) : fenB N (-1) []=true:=rfl
theorem Z1 (l:List Int) (n:Int) : (withoutL l n).Sublist l:=List.filter_sublist
theorem Zm {l:List Int} {n x:Int} : x∈withoutL l n ↔ x∈l∧x≠n:=by
 unfold withoutL
 simp
theorem ZAA (hc:checkF u=none) (hg:u.graphs[t]? = some g) {F:List Int} (hf:fenB g.nodes.length (-1) F=true) : loadsR u (t:Int) F=(ldK u g (openG g (stL u g) F) g.nodes.length,0):=by
 have hlt:=(List.getElem?_eq_some_iff.1 hg).1
 have ha:askE u (t:Int)=0:=ZCZ hc ⟨by omega,by omega⟩
 have ho:openR u (t:Int) F=(openG g (stL u g) F,0):=by
  unfold openR
  rw[if_pos ha,Int.toNat_natCast,hg]
  simp only
  rw[if_pos hf]
 unfold loadsR
 rw[ho,if_pos rfl,Int.toNat_natCast,hg]
theorem ZAv (hc:checkF u=none) (hg:u.graphs[t]? = some g) {F:List Int} (hf:fenB g.nodes.length (-1) F=true) : emptyR u (t:Int) F=true ↔ ∀ i:Nat,i < g.nodes.length→OpenC g (fun i=>(i:Int)∈stL u g) F i→(mkAt u g [] i).load=false:=by
 unfold emptyR
 rw[ZAA hc hg hf]
 constructor
 ·intro h i hi ho
  cases hl:(mkAt u g [] i).load with
  | false=>rfl
  | true =>
   have hm:(i:Int)∈ldK u g (openG g (stL u g) F) g.nodes.length:=ZBB.2 ⟨i,rfl,hi,(ZAq hi).2 ho,hl⟩
   rw[List.isEmpty_iff] at h
   simp only at h
   rw[h] at hm
   cases hm
 ·intro h
  rw[List.isEmpty_iff]
  cases hq:ldK u g (openG g (stL u g) F) g.nodes.length with
  | nil=>rfl
  | cons x l =>
   have hm:x∈ldK u g (openG g (stL u g) F) g.nodes.length:=by rw[hq];simp
   obtain⟨i,rfl,hi,h1,h2⟩:=ZBB.1 hm
   rw[h i hi ((ZAq hi).1 h1)] at h2
   cases h2
theorem ZF0 (hc:checkF u=none) (hg:u.graphs[t]? = some g) {F F':List Int} (hf:fenB g.nodes.length (-1) F=true) (hs:F'.Sublist F) (h:emptyR u (t:Int) F'=true) : emptyR u (t:Int) F=true:=by
 rw[ZAv hc hg (ZBD hf hs)] at h
 rw[ZAv hc hg hf]
 exact fun i hi ho=>h i hi (ZCM (fun _ h=>h) (fun x hx=>hs.subset hx) ho)
theorem Zd {F:List Int} : emptyR u (t:Int) F=true ↔ (loadsR u (t:Int) F).1=[]:=by
 unfold emptyR
 rw[List.isEmpty_iff]
theorem ZDm (hc:checkF u=none) (hg:u.graphs[t]? = some g) : fenB g.nodes.length (-1) (loadsR u (t:Int) []).1=true:=by
 rw[ZAA hc hg (ZCz _)]
 exact ZJe _ _ _
theorem ZFV (hc:checkF u=none) (hg:u.graphs[t]? = some g) : emptyR u (t:Int) (loadsR u (t:Int) []).1=true:=by
 rw[Zd,ZAA hc hg (ZDm hc hg),ZAA hc hg (ZCz _)]
 exact ZIv u g (stL u g)
theorem ZCO (u:Unit_) (t:Int) (D:List Int) : ∀ (n:Nat) (todo left:List Int),(mergeF u t D n todo left).Sublist left
 | 0,_,_=>List.Sublist.refl _
 | n+1,todo,left=>by
  by_cases h:todo=[]
  ·rw[h,ZBc];exact List.Sublist.refl _
  ·rw[ZAE h rfl]
   refine(ZCO u t D n _ _).trans ?_
   split
   ·exact Z1 _ _
   ·exact List.Sublist.refl _
theorem ZCg (u:Unit_) (t:Int) (D:List Int) : ∀ (n:Nat) (todo left:List Int),emptyR u t left=true→emptyR u t (mergeF u t D n todo left)=true
 | 0,_,_,h=>h
 | n+1,todo,left,h=>by
  by_cases c:todo=[]
  ·rw[c,ZBc];exact h
  ·rw[ZAE c rfl]
   refine ZCg u t D n _ _ ?_
   split
   ·assumption
   ·exact h
theorem ZFb {l:List Int} {n:Int} (h:n∈l) : (withoutL l n).length < l.length:=by
 unfold withoutL
 rw[← List.countP_eq_length_filter]
 have h1:=List.countP_eq_length (p:=fun k=>decide (k≠n)) (l:=l)
 have h2:=List.countP_le_length (p:=fun k=>decide (k≠n)) (l:=l)
 have:List.countP (fun k=>decide (k≠n)) l≠l.length:=fun e=>by
  have:=(h1.1 e) n h
  simp at this
 omega
theorem ZEv (l:List Int) (a b:Int) : (withoutL (withoutL l a) b).Sublist (withoutL l b):=by
 unfold withoutL
 rw[List.filter_filter]
 refine List.Sublist.trans ?_ (List.Sublist.refl _)
 have:(l.filter fun x=>decide (x≠b) && decide (x≠a))=(l.filter fun x=>decide (x≠b)).filter fun x=>decide (x≠a):=by
  rw[List.filter_filter]
  congr 1
  funext x
  exact Bool.and_comm _ _
 rw[this]
 exact List.filter_sublist
theorem ZBq (hc:checkF u=none) (hg:u.graphs[t]? = some g) (D:List Int) : ∀ (n:Nat) (todo left:List Int),todo.length≤n→fenB g.nodes.length (-1) left=true→(∀ x∈left,x∈todo∨emptyR u (t:Int) (withoutL left x)=false) →
  ∀ x∈mergeF u (t:Int) D n todo left,emptyR u (t:Int) (withoutL (mergeF u (t:Int) D n todo left) x)=false
 | 0,todo,left,hn,hf,h=>fun x hx=>by
  have:todo=[]:=List.eq_nil_of_length_eq_zero (by omega)
  subst this
  rcases h x hx with h | h
  ·cases h
  ·exact h
 | n+1,todo,left,hn,hf,h=>by
  by_cases c:todo=[]
  ·rw[c,ZBc]
   intro x hx
   rcases h x hx with h | h
   ·rw[c] at h;cases h
   ·exact h
  ·have hm:=ZGZ (D:=D) c
   rw[ZAE c rfl]
   generalize argK D todo=s at hm
   have hlen:=ZFb hm
   by_cases he:emptyR u (t:Int) (withoutL left s)=true
   ·rw[if_pos he]
    refine ZBq hc hg D n _ _ (by omega) (ZBD hf (Z1 _ _)) fun x hx=>?_
    obtain⟨h1,h2⟩:=Zm.1 hx
    rcases h x h1 with h3 | h3
    ·exact .inl (Zm.2 ⟨h3,h2⟩)
    ·refine .inr ?_
     cases hq:emptyR u (t:Int) (withoutL (withoutL left s) x) with
     | false=>rfl
     | true =>
      rw[ZF0 hc hg (ZBD hf (Z1 _ _)) (ZEv left s x) hq] at h3
      cases h3
   ·rw[if_neg he]
    refine ZBq hc hg D n _ _ (by omega) hf fun x hx=>?_
    by_cases e:x=s
    ·subst e
     exact .inr (by simpa using he)
    ·rcases h x hx with h3 | h3
     ·exact .inl (Zm.2 ⟨h3,e⟩)
     ·exact .inr h3
theorem ZBZ (hg:u.graphs[t]? = some g) : (placeL u true t).Sublist (placeL u false t):=by
 rw[ZAK hg,Z4]
 exact ZCO _ _ _ _ _ _
theorem ZCK (hc:checkF u=none) (hg:u.graphs[t]? = some g) (m:Bool) : fenB g.nodes.length (-1) (placeL u m t)=true:=by
 have h:=ZDm hc hg
 rw[← Z4] at h
 cases m with
 | false=>exact h
 | true=>exact ZBD h (ZBZ hg)
theorem ZBN (hc:checkF u=none) (hg:u.graphs[t]? = some g) (m:Bool) : emptyR u (t:Int) (placeL u m t)=true:=by
 cases m with
 | false=>rw[Z4];exact ZFV hc hg
 | true=>rw[ZAK hg];exact ZCg _ _ _ _ _ _ (ZFV hc hg)
theorem ZFg (hc:checkF u=none) (hg:u.graphs[t]? = some g) {x:Int} (hx:x∈placeL u true t) : emptyR u (t:Int) (withoutL (placeL u true t) x)=false:=by
 rw[ZAK hg] at hx ⊢
 exact ZBq hc hg _ _ _ _ (Nat.le_refl _) (ZDm hc hg) (fun x hx=>.inl hx) x hx
theorem ZGo (hc:checkF u=none) (hg:u.graphs[t]? = some g) (m:Bool) : placeL u m t=[] ↔ (loadsR u (t:Int) []).1=[]:=by
 constructor
 ·intro h
  have:=ZBN hc hg m
  rw[h] at this
  exact Zd.1 this
 ·intro h
  have h1:placeL u false t=[]:=by rw[Z4];exact h
  cases m with
  | false=>exact h1
  | true =>
   have:=ZBZ hg
   rw[h1] at this
   exact List.eq_nil_of_sublist_nil this
theorem ZIN {l l':List Int} (h:l.Sublist l') : costG g l≤costG g l':=by
 unfold costG
 induction h with
 | slnil=>exact Int.le_refl _
 | cons a _ ih =>
  simp only[List.map_cons,List.sum_cons]
  have:=(ZF2 (depN g g.nodes.length a.toNat:Nat)).1
  omega
 | cons_cons a _ ih =>
  simp only[List.map_cons,List.sum_cons]
  omega
theorem ZGV {u:Unit_} {L L':List (List Int)} : ∀ k:Nat,(∀ (t:Nat) (g:Graph),t < k→u.graphs[t]? = some g→∃ l l',L[t]? = some l∧L'[t]? = some l'∧l.Sublist l')→costS u L k≤costS u L' k
 | 0,_=>Int.le_refl _
 | k+1,h=>by
  have ih:=ZGV k fun t g ht hg=>h t g (by omega) hg
  cases hg:u.graphs[k]? with
  | none =>
   have e:∀ L,costS u L (k+1)=costS u L k:=fun L=>by
    unfold costS
    rw[List.range_succ,List.map_append,List.sum_append]
    simp[hg]
   rw[e,e];exact ih
  | some g =>
   obtain⟨l,l',h1,h2,h3⟩:=h k g (by omega) hg
   rw[ZAw hg h1,ZAw hg h2]
   have:=ZIN (g:=g) h3
   omega
theorem ZEt (hw:WholeG g) {F R:List Int} {nd:Int} (hF:∀ x,x∈F→x∈R∨x=nd) (hno:∀ i:Nat,i < g.nodes.length→OpenC g (fun i=>(i:Int)∈stL u g) F i→(mkAt u g [] i).load=false) {j:Nat} (hj:OpenC g (fun i=>(i:Int)∈stL u g) R j) (hl:(mkAt u g [] j).load=true) :
  ∃ (s d:Nat),(mkAt u g [] s).store=true∧DW (spE g R nd) (spT u g) (num s false) d:=by
 have claim:∀ i,OpenC g (fun i=>(i:Int)∈stL u g) R i→(∃ s:Nat,(mkAt u g [] s).store=true∧∀ d,DW (spE g R nd) (spT u g) (num i true) d→∃ d',DW (spE g R nd) (spT u g) (num s false) d') ∨
   ((∃ s:Nat,(mkAt u g [] s).store=true∧∀ d,DW (spE g R nd) (spT u g) (num i false) d→∃ d',DW (spE g R nd) (spT u g) (num s false) d')∧OpenC g (fun i=>(i:Int)∈stL u g) F i):=by
  intro i ho
  induction ho with
  | @first i j n hs hn hj hR =>
   obtain⟨s,e,hsl,hst⟩:=ZDC.1 hs
   have e:i=s:=by omega
   subst e
   obtain⟨_,n',hn',hsb⟩:=ZAS.1 hst
   rw[hn] at hn';injection hn' with hn';subst hn'
   have hdr:=ZIc hsb
   have hed:=ZE5 (nd:=nd) (p:=false) hn hdr hj hR
   by_cases e:(j:Int)=nd
   ·rw[decide_eq_true e] at hed
    exact .inl ⟨i,hst,fun d hd=>⟨_,.step hed hd⟩⟩
   ·rw[decide_eq_false e] at hed
    refine .inr ⟨⟨i,hst,fun d hd=>⟨_,.step hed hd⟩⟩,.first hs hn hj fun hm=>?_⟩
    rcases hF _ hm with q | q
    ·exact hR q
    ·exact e q
  | @step i j n _ hn hdr hj hR ih =>
   rcases ih with⟨s,hs,h1⟩ | ⟨⟨s,hs,h1⟩,h2⟩
   ·have hed:=ZE5 (nd:=nd) (p:=true) hn hdr hj hR
    exact .inl ⟨s,hs,fun d hd=>h1 _ (.step hed hd)⟩
   ·have hed:=ZE5 (nd:=nd) (p:=false) hn hdr hj hR
    by_cases e:(j:Int)=nd
    ·rw[decide_eq_true e] at hed
     exact .inl ⟨s,hs,fun d hd=>h1 _ (.step hed hd)⟩
    ·rw[decide_eq_false e] at hed
     refine .inr ⟨⟨s,hs,fun d hd=>h1 _ (.step hed hd)⟩,.step h2 hn hdr hj fun hm=>?_⟩
     rcases hF _ hm with q | q
     ·exact hR q
     ·exact e q
 rcases claim j hj with⟨s,hs,h1⟩ | ⟨_,h2⟩
 ·obtain⟨_,n,hn,hld⟩:=ZAY.1 hl
  obtain⟨d,hd⟩:=h1 0 (.nil ⟨j,n,rfl,hn,hld⟩)
  exact⟨s,d,hs,hd⟩
 ·rw[hno j (ZIp hw hj) h2] at hl
  cases hl
theorem ZEb {R:List Int} {nd:Int} {s d:Nat} (hs:(mkAt u g [] s).store=true) (hsl:s < g.nodes.length) (hd:DW (spE g R nd) (spT u g) (num s false) d) : ∃ j:Nat,OpenC g (fun i=>(i:Int)∈stL u g) R j∧(mkAt u g [] j).load=true:=by
 have hst:∀ i:Nat,(i:Int)∈stL u g→ReachC g (-1) i:=fun i hi=>by
  obtain⟨s,e,_,h⟩:=ZDC.1 hi
  have:i=s:=by omega
  subst this
  exact(ZAS.1 h).1
 have claim:∀ (d i:Nat) (p:Bool),DW (spE g R nd) (spT u g) (num i p) d→((i:Int)∈stL u g∧p=false)∨OpenC g (fun i=>(i:Int)∈stL u g) R i→∃ j:Nat,OpenC g (fun i=>(i:Int)∈stL u g) R j∧(mkAt u g [] j).load=true:=by
  intro d
  induction d with
  | zero =>
   intro i p h hi
   generalize hk:num i p=k at h
   cases h with
   | nil h =>
    obtain⟨j,n,h1,h2,h3⟩:=h
    rw[h1] at hk
    obtain⟨rfl,rfl⟩:=ZAO hk
    rcases hi with⟨_,e⟩ | hi
    ·cases e
    ·exact⟨i,hi,ZAY.2 ⟨ZFm hst hi,n,h2,h3⟩⟩
  | succ d ih =>
   intro i p h hi
   generalize hk:num i p=k at h
   cases h with
   | @step _ k' _ he hw =>
    subst hk
    obtain⟨j,n,rfl,hn,hdr,hj,hR⟩:=ZCG he
    refine ih j _ hw (.inr ?_)
    rcases hi with⟨hi,_⟩ | hi
    ·exact .first hi hn hj hR
    ·exact .step hi hn hdr hj hR
 exact claim d s false hd (.inl ⟨ZDC.2 ⟨s,rfl,hsl,hs⟩,rfl⟩)
structure AloneIs (u:Unit_) (g:Graph) (R:List Int) (nd:Int) (l:List Int) (s d:Nat) : Prop where
 st:(mkAt u g [] s).store=true
 sl:s < g.nodes.length
 far:(spD u g R nd)[num s false]? = some (d:Int)
 pos:1≤d
 is_:l=waySp g (spD u g R nd) R nd d (s:Int) false
theorem ZJV {R:List Int} {nd:Int} {s d:Nat} (h:(spD u g R nd)[num s false]? = some (d:Int)) : 1≤d:=by
 rcases Nat.eq_zero_or_pos d with rfl | hd
 ·exfalso
  rcases ZAd.2 _ _ h with⟨h1,_⟩ | ⟨e,h1,h2⟩
  ·omega
  ·have:e=0:=by omega
   subst this
   have:=h2.1
   generalize hk:num s false=k at this
   cases this with
   | nil q =>
    obtain⟨i,n,q1,_⟩:=q
    rw[q1] at hk
    have:=(ZAO hk).2
    cases this
 ·exact hd
theorem ZDl {F:List Int} {n:Int} (hE:faultE u (t:Int) F n=0) (hg:u.graphs[t]? = some g) :
  (aloneR u (t:Int) F n=([],false,0)∧∀ (s d:Nat),s < g.nodes.length→(mkAt u g [] s).store=true→¬ DW (spE g (withoutL F n) n) (spT u g) (num s false) d) ∨
  ∃ s d,aloneR u (t:Int) F n=((aloneR u (t:Int) F n).1,true,0)∧AloneIs u g (withoutL F n) n (aloneR u (t:Int) F n).1 s d:=by
 unfold aloneR
 rw[if_pos hE,Int.toNat_natCast,hg]
 simp only
 rcases ZDX (u:=u) (g:=g) (spD u g (withoutL F n) n) g.nodes.length with⟨h1,h2⟩ | ⟨s,h1,h2,h3,h4⟩
 ·rw[h1,if_pos (by omega)]
  refine .inl ⟨rfl,fun s d hs hst hd=>h2 s hs hst ?_⟩
  obtain⟨e,he,_⟩:=hd.min
  rw[ZAd.at_ (ZBm hs false) (.inr ⟨e,rfl,he⟩)]
  simp only[Option.getD_some]
  omega
 ·rw[h1,if_neg (by omega),Int.toNat_natCast]
  have hx:(spD u g (withoutL F n) n)[num s false]? = some ((spD u g (withoutL F n) n)[num s false]'(by rw[ZEQ];exact ZBm h2 false)):=List.getElem?_eq_getElem _
  obtain⟨x,hx'⟩ : ∃ x,(spD u g (withoutL F n) n)[num s false]'(by rw[ZEQ];exact ZBm h2 false)=x:=⟨_,rfl⟩
  rw[hx'] at hx
  rw[hx] at h4 ⊢
  simp only[Option.getD_some] at h4 ⊢
  obtain⟨d,rfl⟩:=Int.eq_ofNat_of_zero_le h4
  exact .inr ⟨s,d,trivial,h3,h2,hx,ZJV hx,by rw[Int.toNat_natCast]⟩
theorem ZEJ {F:List Int} {n t:Int} (hE:faultE u t F n≠0) : aloneR u t F n=([],false,faultE u t F n):=by
 unfold aloneR
 rw[if_neg hE]
end
end Go.Proofs.YtffgnjgphkdodaaDoor
