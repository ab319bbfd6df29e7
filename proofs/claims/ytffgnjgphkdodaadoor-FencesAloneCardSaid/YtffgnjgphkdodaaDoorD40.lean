import Derived.Test.YtffgnjgphkdodaaDoorD31
import Derived.Test.YtffgnjgphkdodaaDoorD28
import Derived.Test.YtffgnjgphkdodaaDoorD8
import Derived.Test.YtffgnjgphkdodaaDoorD18
import Derived.BigQuiet
import Derived.Deep.CutRange
namespace Go.Proofs.YtffgnjgphkdodaaDoor
open Go Go.RowKit BigFrame
attribute [local go_sem] readAtW readUpon
structure AlW (u:Unit_) (g:Graph) (l:List Int) (nd:Int) (W:List Int) : Prop where
 len:2≤W.length
 len9:W.length≤8193
 rng:∀ (i:Nat) (x:Int),W[i]? = some x→∃ k:Nat,x=k∧k < g.nodes.length
 nol:∀ (i:Nat) (x:Int),W[i+1]? = some x→x∈l→x=nd
 edge:∀ (i:Nat) (x y:Int),W[i]? = some x→W[i+1]? = some y→∃ n,g.nodes[x.toNat]? = some n∧y∈fol n∧drB n=false
 first:∃ (x:Int) (n:Node),W[0]? = some x∧g.nodes[x.toNat]? = some n∧stB u n=true
 last:∃ (x:Int) (n:Node),W[W.length - 1]? = some x∧g.nodes[x.toNat]? = some n∧ldB u n=true
 pass:∃ q:Nat,W[q+1]? = some nd
theorem ZJO {u:Unit_} {g:Graph} {F:List Int} {nd:Int} {W:List Int} {s d:Nat} (hw:WholeG g) (h:AloneIs u g (withoutL F nd) nd W s d) : AlW u g F nd W:=by
 obtain⟨h1,h2,h3,h4⟩:=ZF8 (u:=u) hw d s false h.far
 have hlen:W.length=d+1:=by rw[h.is_,ZAc]
 have hmost:=hw.most
 have hd:d < 2 * g.nodes.length:=by
  rcases ZAd.2 _ _ h.far with⟨q,_⟩ | ⟨e,q1,q2⟩
  ·omega
  ·have:=q2.lt (N:=2 * g.nodes.length) (fun i d hd=>sp_lt hd)
   omega
 have hpos:=h.pos
 rw[← h.is_] at h1 h2 h3 h4
 refine⟨by omega,by omega,h1,fun i x hx hm=>?_,fun i x y hx hy=>(h2 i x y hx hy).2,?_,?_,?_⟩
 ·have hi:i < W.length:=by have:=(List.getElem?_eq_some_iff.1 hx).1;omega
  have:=(h2 i _ x (List.getElem?_eq_getElem hi) hx).1
  rw[Zm] at this
  exact Classical.byContradiction fun e=>this ⟨hm,e⟩
 ·obtain⟨_,n,hn,hs⟩:=ZAS.1 h.st
  obtain⟨l,hl⟩:=ZCD (g:=g) (R:=withoutL F nd) (nd:=nd) (spD u g (withoutL F nd) nd) d (s:Int) false
  refine⟨(s:Int),n,by rw[h.is_,hl];rfl,by rw[Int.toNat_natCast];exact hn,hs⟩
 ·obtain⟨x,n,q1,q2,q3⟩:=h3
  exact⟨x,n,by rw[hlen];exact q1,q2,q3⟩
 ·rcases h4 with h4 | h4
  ·cases h4
  ·exact h4
set_option maxRecDepth 100000 in
set_option maxHeartbeats 1000000 in
theorem ZCh (u:Unit_) (cs:List Value) (g:Graph) (t:Nat) (cv v wv:Value) (l W:List Int) (nd:Int) (w:World) (hu:UnitV (cmap w) cs u) (hg:u.graphs[t]? = some g) (hrg:RightG u g) (hcl:Clss (cmap w) cv (clsU u)) (hl:Ints (cmap w) v l) (hW:Ints (cmap w) wv W) (hal:AlW u g l nd W) :
  Calls Tryd.prog 13 #[.agg cs.toArray,cv,.int .i64 (t:Nat),v,.int .i64 nd,wv] w fun e w'=>e=.returned (.bool true)∧Below w.heap.size w w':=by
 have hw:=hrg.whole
 have hpos:=hw.pos
 have hmost:=hw.most
 have HAL:=Hd_ hal
 have HL:=Hd_ hl
 have HWV:=Hd_ hW
 have HTH:Hid (∀ n∈g.nodes,n.kind=2∨n.kind=3→0≤n.thing∧n.thing < u.shared.length):=Hd_ fun n hn h=>ZFP (hrg.nodes n hn) h
 have HFO:Hid (∀ n∈g.nodes,∀ y∈fol n,0≤y):=Hd_ fun n hn y hy=>(hw.fol n hn y hy).1
 obtain⟨sv,lv,gv,rfl,-,-,hgs⟩:=hu
 obtain⟨gA,gc,rfl,-⟩:=id hgs
 have hgl:=hgs.len.2.2
 obtain⟨gb,go,rfl,gcs,hgv0,hgc⟩:=hgs.at_ hg
 obtain⟨nv,rfl,hnv⟩:=hgv0
 obtain⟨nA,nc,rfl,-⟩:=id hnv
 obtain⟨nb,no,e,-⟩:=hnv.at_ (i:=0) (x:=g.nodes[0]'hpos) (List.getElem?_eq_getElem _)
 subst e
 have HNC:Hid (∀ (i:Nat) (n:Node),g.nodes[i]? = some n→∀ (j:Nat) (x:Value),n.cells[j]? = some x→cmap w nb (no+i * 13+j)=some x):=Hd_ fun i n hn=>by
  obtain⟨nb',no',e,h⟩:=hnv.at_ hn
  injection e with e
  injection e with e1 e2
  subst e1 e2
  exact h
 obtain⟨cA,cc,rfl,-⟩:=id hcl
 obtain⟨lA,lc,rfl,-⟩:=id hl
 obtain⟨wA,wc0,rfl,-⟩:=id hW
 have htG:=(List.getElem?_eq_some_iff.1 hg).1
 have hcn:(clsU u).length=u.shared.length:=by simp[clsU]
 have HCV:Hid (∀ x:Int,0≤x→x < u.shared.length→∃ b o,(cA=some ⟨b,o,none⟩)∧cmap w b (o+x.toNat * 3)=some (.int .u8 (classF u x).kind)):=Hd_ fun x h0 h1=>by
  obtain⟨k,rfl⟩:=Int.eq_ofNat_of_zero_le h0
  have hk:k < u.shared.length:=by omega
  obtain⟨cb,co,e,hcc⟩:=hcl.at_ (i:=k) (x:=classF u (k:Int)) (by simp[clsU,hk])
  have hc0:=ZBJ (f:=fun c:Cls=>c.cells) hcc 0 (.int .u8 (classF u (k:Int)).kind) rfl
  rw[Nat.add_zero] at hc0
  exact⟨cb,co,e,by rw[Int.toNat_natCast];exact hc0⟩
 rw[hcn]
 obtain⟨S,hS⟩ : ∃ S,u.shared.length=S:=⟨_,rfl⟩
 obtain⟨N,HN⟩ : ∃ N,Hid (g.nodes.length=N):=⟨_,rfl⟩
 obtain⟨G,hG⟩ : ∃ G,u.graphs.length=G:=⟨_,rfl⟩
 have hbx:=Blk.new w 25 [sv,lv,.slice (some ⟨gb,go,none⟩) u.graphs.length gc]
 have hb0:=ZB w (.cells #[sv,lv,.slice (some ⟨gb,go,none⟩) u.graphs.length gc] 25)
 have HBX:=Hd_ (And.intro hbx hb0)
 have q2:(w.alloc (.cells #[sv,lv,.slice (some ⟨gb,go,none⟩) u.graphs.length gc] 25)).cell? ⟨w.heap.size,2,none⟩=some (.slice (some ⟨gb,go,none⟩) u.graphs.length gc):=hbx.cell 2
 rw[HN.out] at hgc hmost hpos
 have HLG:Hid (∀ j v,([.string g.name,.int .i64 g.locals,.int .i64 g.slots,.slice (some ⟨nb,no,none⟩) N nc] : List Value)[j]? = some v→(w.alloc (.cells #[sv,lv,.slice (some ⟨gb,go,none⟩) u.graphs.length gc] 25)).cell? ⟨gb,go+t * 4+j,none⟩=some v):=Hd_ fun j v hj=>ZA hb0 _ _ _ (hgc j v hj)
 have hln:=hl.len.2.2
 have hlW:=HAL.out.len9
 have hlW2:=HAL.out.len
 rw[hS] at HTH HCV ⊢
 rw[hG] at HBX q2 HLG htG ⊢
 have t0:(0:Int)≤(t:Nat):=by omega
 have tG:((t:Nat) : Int) < G:=by omega
 obtain⟨K,hK⟩ : ∃ K,W.length=K:=⟨_,rfl⟩
 rw[hK] at hlW hlW2 ⊢
 have HK:=Hd_ hK
 clear hK hbx hb0 hgs hgc hnv hcl hl hW hal hg hrg hw htG hcn hS hG
 go_enter Tryd.func13,Tryd.ntmps13
 go_wp2_with (first
  | (refine ZC rfl 38 _ rfl gb (go+t * 4) rfl _ _ HLG.out Tryd.underlying38 rfl (by kernel_rfl) ?_)
  | (refine ZO 38 rfl ?_))
 refine Stop.intro ?_
 obtain⟨w1,hw1⟩ : ∃ w1,w.alloc (.cells #[sv,lv,.slice (some ⟨gb,go,none⟩) G gc] 25)=w1:=⟨_,rfl⟩
 have hs1:w1.heap.size=w.heap.size+1:=by rw[← hw1];simp
 rw[hw1] at HBX ⊢
 rw[← hs1]
 refine wpList_store_row rfl 38 _ _ rfl w1.heap.size #[.string g.name,.int .i64 g.locals,.int .i64 g.slots,.slice (some ⟨nb,no,none⟩) N nc] rfl rfl 38 _ (heap_alloc_new _ _) (by kernel_rfl) rfl (by simp[Value.oneCell']) ?_
 rw[World.setRow_alloc_new]
 have hgb:=Blk.new w1 38 [.string g.name,.int .i64 g.locals,.int .i64 g.slots,.slice (some ⟨nb,no,none⟩) N nc]
 have ha2:=ZB w1 (.cells #[.string g.name,.int .i64 g.locals,.int .i64 g.slots,.slice (some ⟨nb,no,none⟩) N nc] 38)
 obtain⟨GB,hGB⟩ : ∃ GB,w1.heap.size=GB:=⟨_,rfl⟩
 obtain⟨w2,hw2⟩ : ∃ w2,w1.alloc (.cells #[.string g.name,.int .i64 g.locals,.int .i64 g.slots,.slice (some ⟨nb,no,none⟩) N nc] 38)=w2:=⟨_,rfl⟩
 rw[hw2] at hgb ha2 ⊢
 rw[hGB] at hgb ⊢
 have H2:=Hd_ (And.intro (HBX.out.2.trans (ha2.mono HBX.out.2.size)) hgb)
 have HBW:Hid (∀ wx,Below w2.heap.size w2 wx→Below w.heap.size w wx):=Hd_ fun wx h=>H2.out.1.trans (h.mono H2.out.1.size)
 have HG3:Hid (∀ wx,Below w2.heap.size w2 wx→wx.cell? ⟨GB,3,none⟩=some (.slice (some ⟨nb,no,none⟩) N nc)):=Hd_ fun wx h=>(H2.out.2.below h H2.out.2.lt).cell 3
 have HWC:Hid (∀ wx,Below w2.heap.size w2 wx→∀ (i:Nat) (x:Int),W[i]? = some x→∃ b o,wA=some ⟨b,o,none⟩∧wx.cell? ⟨b,o+i,none⟩=some (.int .i64 x)):=Hd_ fun wx h i x hx=>by
  obtain⟨b,o,e,hc⟩:=HWV.out.at_ hx
  rw[Nat.mul_one] at hc
  exact⟨b,o,e,ZA (HBW.out wx h) _ _ _ hc⟩
 have HLC:Hid (∀ wx,Below w2.heap.size w2 wx→∀ (i:Nat) (x:Int),l[i]? = some x→∃ b o,lA=some ⟨b,o,none⟩∧wx.cell? ⟨b,o+i,none⟩=some (.int .i64 x)):=Hd_ fun wx h i x hx=>by
  obtain⟨b,o,e,hc⟩:=HL.out.at_ hx
  rw[Nat.mul_one] at hc
  exact⟨b,o,e,ZA (HBW.out wx h) _ _ _ hc⟩
 have HNW:Hid (∀ wx,Below w2.heap.size w2 wx→∀ (i:Nat) (n:Node),g.nodes[i]? = some n→∀ (j:Nat) (x:Value),n.cells[j]? = some x→wx.cell? ⟨nb,no+i * 13+j,none⟩=some x):=Hd_ fun wx h i n hn j x hx=>ZA (HBW.out wx h) _ _ _ (HNC.out i n hn j x hx)
 have HRN:Hid (∀ (i:Nat) (x:Int),W[i]? = some x→∃ (k:Nat) (n:Node),x=k∧k < N∧g.nodes[k]? = some n):=Hd_ fun i x hx=>by
  obtain⟨k,h1,h2⟩:=HAL.out.rng i x hx
  exact⟨k,_,h1,by rw[← HN.out];exact h2,List.getElem?_eq_getElem h2⟩
 clear hgb ha2 hGB hw2 hw1 hs1 HLG q2 HBX HL HWV H2
 obtain⟨W0,rfl⟩ : ∃ W0:World,W0=w2:=⟨_,rfl⟩
 have d2:decide ((K:Int) < 2)=false:=decide_eq_false (by omega)
 have k9:(K:Int)≤8193:=by omega
 obtain⟨LL,hLL⟩ : ∃ LL,l.length=LL:=⟨_,rfl⟩
 have HLL:=Hd_ hLL
 rw[hLL] at hln ⊢
 clear hLL
 go_wp2_with (fail)
 try simp only[put_none]
 go_loopw [14,15] (fun v14 v15 wr=>∃ (i:Nat) (pb:Bool),v14=.bool pb∧v15=.int .i64 i∧i≤K∧Hid (Below W0.heap.size W0 wr)∧Hid (pb=true ↔ ∃ q:Nat,q+1 < i∧W[q+1]? = some nd)) (fun _ v15 _=>K - (intOf v15).toNat)
 case atStart=>exact⟨0,false,rfl,rfl,Nat.zero_le _,Hd_ (Below.refl _ _),Hd_ ⟨fun h=>(by cases h),fun ⟨q,h,_⟩=>by omega⟩⟩
 case round =>
  obtain⟨i,pb,rfl,rfl,hi,HB,HP⟩:=hrel
  by_cases hiK:i < K
  ·obtain⟨x,hx⟩ : ∃ x,W[i]? = some x:=⟨_,List.getElem?_eq_getElem (by rw[HK.out];exact hiK)⟩
   obtain⟨xn,n,rfl,hxN,hn⟩:=HRN.out i x hx
   obtain⟨wb,wo,e,hwc⟩:=HWC.out wr HB.out i _ hx
   subst e
   have HX:=Hd_ (And.intro hx hn)
   have g3:=HG3.out wr HB.out
   have i0:(0:Int)≤i:=by omega
   have iK:(i:Int) < K:=by omega
   have x0:(0:Int)≤(xn:Nat):=by omega
   have xN:((xn:Nat) : Int) < N:=by omega
   clear hx hn
   go_upto_region 8 with(fail)
   go_cut [51] from 31 to 145 (fun v51 wx=>v51=.bool false∧Below wr.heap.size wr wx)
   case first =>
    have dn:decide (((xn:Nat) : Int) < 0)=false:=decide_eq_false (by omega)
    have dg:decide ((N:Int)≤((xn:Nat) : Int))=false:=decide_eq_false (by omega)
    refine wp_region_quiet_lit (by kernel_rfl) (by kernel_rfl) ?_
    repeat (go_big_quiet_step (fail))
    refine wpQuiet_nil ?_
    intro _ hw'
    obtain⟨n2,hw2⟩:=hw'
    subst hw2
    go_wp2
    go_meet
    exact⟨by first | rfl | rw[decide_eq_false (by omega)],ZF _ _⟩
   case rest =>
    obtain⟨rfl,hb3⟩:=hcut
    have HB3:=Hd_ (HB.out.trans (hb3.mono HB.out.size))
    have g3:=HG3.out wc HB3.out
    have hwc3:wc.cell? ⟨wb,wo+i,none⟩=some (.int .i64 (xn:Nat)):=ZA hb3 _ _ _ hwc
    clear hb3 HB hwc
    obtain⟨w3,rfl⟩ : ∃ w3:World,w3=wc:=⟨_,rfl⟩
    have hn:=HX.out.2
    go_upto_region 10 with(fail)
    haveI hne:Nonempty (XC (cNew w3 61 fzN n.cells 8 9)):=XC.ne Zk
    have hB:∀ x:XC (cNew w3 61 fzN n.cells 8 9),Below w3.heap.size w3 x.w:=fun x=>ZAy x
    have f3:∀ x:XC (cNew w3 61 fzN n.cells 8 9),x.w.cell? ⟨GB,3,none⟩=some (.slice (some ⟨nb,no,none⟩) N nc):=fun x=>ZA (hB x) _ _ _ g3
    have fW:∀ x:XC (cNew w3 61 fzN n.cells 8 9),x.w.cell? ⟨wb,wo+i,none⟩=some (.int .i64 (xn:Nat)):=fun x=>ZA (hB x) _ _ _ hwc3
    have F6:Hid (∀ x:XC (cNew w3 61 fzN n.cells 8 9),∀ j v,n.cells[j]? = some v→x.w.cell? ⟨nb,no+xn * 13+j,none⟩=some v):=Hd_ fun x j v hj=>ZA (hB x) _ _ _ (HNW.out _ HB3.out _ _ hn j v hj)
    refine Z8 (cNew w3 61 fzN n.cells 8 9) [8,9] [0,1,2,3,4,5,6,7,8,9] (by kernel_rfl) (by kernel_rfl) (by kernel_rfl) Zk (ZDh rfl rfl) (ZDi rfl (by decide)) (ZBS (by rfl)) ?_
    repeat (refine ZAk rfl rfl (fun K hK=>?_);go_simp;refine hK _ ?_;clear hK K)
    refine ZAl (some 59) rfl rfl rfl rfl 61 _ rfl nb (no+xn * 13) rfl n.cells _ F6.out Tryd.underlying61 rfl (by kernel_rfl) ?_
    refine ZAn (some 16) rfl rfl rfl rfl (fun D A x hD _ _ hC=>ZAz rfl (.agg fzN.toArray) rfl (fun _=>by kernel_rfl) (by decide) hD hC) (fun D A x hD hpre hC=>?_)
    rw[hC.2.1 hD]
    clear hpre hC hD x A D
    refine ZAm rfl rfl rfl rfl (fun D A x hD hp hpre hC=>ZAx (W:=w3) (z:=fzN) (cs:=n.cells) rfl rfl rfl (by kernel_rfl) rfl rfl (by decide) (hpre 8 (by simp)).1 hD hC) (fun D A x hD hpre hC=>?_)
    clear hpre hC hD x A D
    refine ZBL (fun D A x hD hAA hC=>?_)
    obtain⟨q2,rfl⟩:=ZCA (hD 9 (by decide)) hC
    clear hAA hC hD A D
    simp only[Act.put,List.setIfInBounds_toArray,List.set_cons_zero,List.set_cons_succ]
    clear f3 fW F6 hB hne
    have hcell:∀ j v,n.cells[j]? = some v→((w3.alloc (.cells n.cells.toArray 61)).drewN q2).cell? ⟨w3.heap.size,0+j,none⟩=some v:=ZL w3 n.cells 61 w3.heap.size rfl
    have ha4:Below w3.heap.size w3 ((w3.alloc (.cells n.cells.toArray 61)).drewN q2):=ZX q2 (ZB w3 _)
    obtain⟨w4,hw4⟩ : ∃ w4,(w3.alloc (.cells n.cells.toArray 61)).drewN q2=w4:=⟨_,rfl⟩
    rw[hw4] at hcell ha4 ⊢
    clear hw4
    have HC4:=Hd_ hcell
    have HB4:=Hd_ (HB3.out.trans (ha4.mono HB3.out.size))
    have hw4:w4.cell? ⟨wb,wo+i,none⟩=some (.int .i64 (xn:Nat)):=ZA ha4 _ _ _ hwc3
    obtain⟨X,hX⟩ : ∃ X,w3.heap.size=X:=⟨_,rfl⟩
    have hX4:X < w4.heap.size:=World.block_lt_of_cell? w4 ⟨X,0+0,none⟩ (by rw[← hX];exact hcell 0 _ rfl)
    rw[hX] at HC4 ⊢
    have HXC:Hid (∀ wx,Below w4.heap.size w4 wx→∀ j v,n.cells[j]? = some v→wx.cell? ⟨X,0+j,none⟩=some v):=Hd_ fun wx h j v hj=>ZA h _ _ _ (HC4.out j v hj)
    have HW4:=Hd_ hw4
    clear hcell ha4 hX hn hwc3 g3 HB3 HC4 hX4
    obtain⟨pb2,hpb2⟩ : ∃ pb2,(pb || (decide (0 < i) && decide ((xn:Int)=nd)))=pb2:=⟨_,rfl⟩
    have HPB:=Hd_ hpb2
    clear hpb2
    go_upto_if 61 with(fail)
    go_cut [14] from 60 to 93 (fun v14 wx=>v14=.bool pb2∧Below w4.heap.size w4 wx)
    case first =>
     by_cases hi0:0 < i
     ·have dz:decide ((0:Int) < i)=true:=decide_eq_true (by omega)
      obtain⟨i1,rfl⟩ : ∃ i1,i=i1+1:=⟨i - 1,by omega⟩
      have HNO:=Hd_ (HAL.out.nol i1 _ HX.out.1)
      clear hi0
      go_wp2_with (fail)
      obtain⟨wl,rfl⟩ : ∃ wl:World,wl=w4:=⟨_,rfl⟩
      go_loopw [17] (fun v17 wr=>∃ j:Nat,v17=.int .i64 j∧j≤LL∧Hid (Below wl.heap.size wl wr)) (fun v17 _=>LL - (intOf v17).toNat)
      case atStart=>exact⟨0,rfl,Nat.zero_le _,Hd_ (Below.refl _ _)⟩
      case round =>
       obtain⟨j,rfl,hj,HBL⟩:=hrel
       have hw5:wr.cell? ⟨wb,wo+(i1+1),none⟩=some (.int .i64 (xn:Nat)):=ZA HBL.out _ _ _ HW4.out
       have hw5':wr.cell? ⟨wb,wo+i1+1,none⟩=some (.int .i64 (xn:Nat)):=hw5
       by_cases hjL:j < LL
       ·obtain⟨y,hy⟩ : ∃ y,l[j]? = some y:=⟨_,List.getElem?_eq_getElem (by rw[HLL.out];exact hjL)⟩
        obtain⟨lb,lo,e,hlc⟩:=HLC.out wr (HB4.out.trans (HBL.out.mono HB4.out.size)) j _ hy
        subst e
        have j0:(0:Int)≤j:=by omega
        have jL:(j:Int) < LL:=by omega
        have HY:=Hd_ (List.mem_of_getElem? hy)
        clear hy
        go_upto_region 15 with(fail)
        go_cut [84] from 62 to 84 (fun v84 wx=>v84=.bool false∧Below wr.heap.size wr wx)
        case first =>
         by_cases hyx:y=(xn:Int)
         ·have de:(y == (xn:Int))=true:=by simp[hyx]
          have hnd:y=nd:=by rw[hyx];exact HNO.out (by rw[← hyx];exact HY.out)
          have dn:(y != nd)=false:=by simp[hnd]
          clear hyx hnd
          refine wp_region_quiet_lit (by kernel_rfl) (by kernel_rfl) ?_
          repeat (go_big_quiet_step (fail))
          refine wpQuiet_nil ?_
          intro _ hw'
          obtain⟨n2,hw2⟩:=hw'
          subst hw2
          go_wp2
          go_meet
          exact⟨rfl,ZF _ _⟩
         ·have de:(y == (xn:Int))=false:=by rw[beq_eq_false_iff_ne];exact hyx
          clear hyx
          refine wp_region_quiet_lit (by kernel_rfl) (by kernel_rfl) ?_
          repeat (go_big_quiet_step (fail))
          refine wpQuiet_nil ?_
          intro _ hw'
          obtain⟨n2,hw2⟩:=hw'
          subst hw2
          go_wp2
          go_meet
          exact⟨rfl,ZF _ _⟩
        case rest =>
         obtain⟨rfl,hb6⟩:=hcut
         have HB6:=Hd_ (HBL.out.trans (hb6.mono HBL.out.size))
         clear hb6
         go_wp2
         go_roundw
         case rel =>
          first
           | exact⟨j+1,by go_num,by omega,HB6⟩
           | ((repeat apply Exists.intro);exact⟨⟨j+1,by go_num,by omega,HB6⟩,rfl⟩)
         case measure=>simp[intOf];omega
       ·have hq0:(pb || decide ((xn:Int)=nd))=pb2:=by rw[← HPB.out];simp
        cases pb with
        | true =>
         have hs:pb2=true:=by rw[← hq0];rfl
         subst hs
         clear hq0
         go_wp2
         go_meet
         exact⟨rfl,HBL.out⟩
        | false =>
         have hs:pb2=((xn:Int) == nd):=by rw[← hq0];rfl
         subst hs
         clear hq0
         go_wp2
         go_meet
         exact⟨rfl,HBL.out⟩
     ·have dz:decide ((0:Int) < i)=false:=decide_eq_false (by omega)
      have hs:pb2=pb:=by rw[← HPB.out,decide_eq_false hi0];simp
      subst hs
      go_wp2_with (fail)
      go_meet
      exact⟨rfl,Below.refl _ _⟩
    case rest =>
     obtain⟨rfl,hb5⟩:=hcut
     have HB5:=Hd_ (HB4.out.trans (hb5.mono HB4.out.size))
     have HX5:Hid (∀ wx,Below wc.heap.size wc wx→∀ j v,n.cells[j]? = some v→wx.cell? ⟨X,0+j,none⟩=some v):=Hd_ fun wx h=>HXC.out wx (hb5.trans (h.mono hb5.size))
     have HW5:Hid (∀ wx,Below wc.heap.size wc wx→wx.cell? ⟨wb,wo+i,none⟩=some (.int .i64 (xn:Nat))):=Hd_ fun wx h=>ZA (hb5.trans (h.mono hb5.size)) _ _ _ HW4.out
     have p0:wc.cell? ⟨X,0,none⟩=some (.int .u8 n.kind):=HX5.out wc (Below.refl _ _) 0 _ rfl
     clear hb5 HB4 HXC HW4
     obtain⟨w5,rfl⟩ : ∃ w5:World,w5=wc:=⟨_,rfl⟩
     go_upto_region 18 with(fail)
     go_cut [117] from 94 to 117 (fun v117 wx=>v117=.bool false∧Below w5.heap.size w5 wx)
     case first =>
      by_cases hi0:0 < i
      ·have dz:decide ((0:Int) < i)=true:=decide_eq_true (by omega)
       by_cases hi1:i+1 < K
       ·have dy:decide ((i:Int) < (K:Int) - 1)=true:=decide_eq_true (by omega)
        have hdr:drB n=false:=by
         obtain⟨n',h1,_,h2⟩:=HAL.out.edge i _ _ HX.out.1 (List.getElem?_eq_getElem (by rw[HK.out];exact hi1))
         rw[Int.toNat_natCast,HX.out.2] at h1
         injection h1 with h1
         rw[h1];exact h2
        have hdr2:=of_decide_eq_false hdr
        have d4:(n.kind == 4)=false:=by rw[beq_eq_false_iff_ne];omega
        have d5:(n.kind == 5)=false:=by rw[beq_eq_false_iff_ne];omega
        have d7:(n.kind == 7)=false:=by rw[beq_eq_false_iff_ne];omega
        clear hdr hdr2
        go_wp2
        all_goals
         first
          | (exfalso;omega)
          | (go_meet
             exact⟨rfl,Below.refl _ _⟩)
       ·have dy:decide ((i:Int) < (K:Int) - 1)=false:=decide_eq_false (by omega)
        go_wp2
        all_goals
         first
          | (exfalso;omega)
          | (go_meet
             exact⟨rfl,Below.refl _ _⟩)
      ·have dz:decide ((0:Int) < i)=false:=decide_eq_false (by omega)
       go_wp2
       all_goals
        first
         | (exfalso;omega)
         | (go_meet
            exact⟨rfl,Below.refl _ _⟩)
     case rest =>
      obtain⟨rfl,hb6⟩:=hcut
      have HB6:=Hd_ (HB5.out.trans (hb6.mono HB5.out.size))
      have HX6:Hid (∀ wx,Below wc.heap.size wc wx→∀ j v,n.cells[j]? = some v→wx.cell? ⟨X,0+j,none⟩=some v):=Hd_ fun wx h=>HX5.out wx (hb6.trans (h.mono hb6.size))
      clear hb6 HB5 HX5 HW5 p0
      obtain⟨w6,rfl⟩ : ∃ w6:World,w6=wc:=⟨_,rfl⟩
      have hi9:(i:Int)≤8193:=by omega
      have HP7:Hid (pb2=true ↔ ∃ q:Nat,q+1 < i+1∧W[q+1]? = some nd):=Hd_ (by
       rw[← HPB.out,Bool.or_eq_true,HP.out,Bool.and_eq_true,decide_eq_true_eq,decide_eq_true_eq]
       constructor
       ·rintro(⟨q,h1,h2⟩ | ⟨h1,h2⟩)
        ·exact⟨q,by omega,h2⟩
        ·refine⟨i - 1,by omega,?_⟩
         have e:i - 1+1=i:=by omega
         rw[e,HX.out.1,h2]
       ·rintro⟨q,h1,h2⟩
        by_cases e:q+1=i
        ·rw[e,HX.out.1] at h2
         injection h2 with h2
         exact .inr ⟨by omega,h2⟩
        ·exact .inl ⟨q,by omega,h2⟩)
      by_cases hi1:i+1 < K
      ·have dy:decide ((i:Int)+1 < (K:Int))=true:=decide_eq_true (by omega)
       obtain⟨y,hy⟩ : ∃ y,W[i+1]? = some y:=⟨_,List.getElem?_eq_getElem (by rw[HK.out];exact hi1)⟩
       have hyf:y∈fol2 n:=by
        obtain⟨n',h1,h2,_⟩:=HAL.out.edge i _ _ HX.out.1 hy
        rw[Int.toNat_natCast,HX.out.2] at h1
        injection h1 with h1
        rw[h1];exact(ZAi _ _).2 h2
       have hl2:(fol2 n).length≤2:=by
        unfold fol2
        split
        ·simp
        ·split <;> simp
       have HY:=Hd_ (And.intro hy hyf)
       have HFL:=Hd_ (ZAh n w6)
       obtain⟨p0,p1,p2,p3,p4,p5,p6,p7,p8,p9,p10,p11,p12⟩:=ZDN (n:=n) (w:=w6) (b:=X) (o:=0) fun j v hj=>HX6.out w6 (Below.refl _ _) j v hj
       simp only[Nat.zero_add] at p0 p1 p2 p3 p4 p5 p6 p7 p8 p9 p10 p11 p12
       unfold Node.cells at HFL
       clear hy hyf
       go_wp2_with (first
        | (go_at_call 35
           refine(HFL.out).mono ?_
           rintro e w7 ⟨fv,rfl,hfv,hb7⟩
           obtain⟨fA,fc,rfl,-⟩:=id hfv
           have H7:=Hd_ (And.intro hb7 (hfv.mono (ZV _ _ _)))
           clear hfv hb7))
       obtain⟨wz,rfl⟩ : ∃ wz:World,wz=w7:=⟨_,rfl⟩
       obtain⟨len,hlen⟩ : ∃ len,(fol2 n).length=len:=⟨_,rfl⟩
       have HLN:=Hd_ hlen
       rw[hlen] at H7 hl2 ⊢
       clear hlen p0 p1 p2 p3 p4 p5 p6 p7 p8 p9 p10 p11 p12
       go_loopw [19,20] (fun v19 v20 wr=>∃ (k:Nat) (tb:Bool),v19=.bool tb∧v20=.int .i64 k∧k≤len∧Hid (Below wz.heap.size wz wr)∧Hid (tb=true ↔ ∃ m:Nat,m < k∧(fol2 n)[m]? = some y)) (fun _ v20 _=>len - (intOf v20).toNat)
       case atStart=>exact⟨0,false,rfl,rfl,Nat.zero_le _,Hd_ (Below.refl _ _),Hd_ ⟨fun h=>(by cases h),fun ⟨m,h,_⟩=>by omega⟩⟩
       case round =>
        obtain⟨k,tb,rfl,rfl,hk,HBL,HTB⟩:=hrel
        by_cases hkl:k < len
        ·obtain⟨z,hz⟩ : ∃ z,(fol2 n)[k]? = some z:=⟨_,List.getElem?_eq_getElem (by rw[HLN.out];exact hkl)⟩
         obtain⟨zb,zo,e,hzc⟩:=H7.out.2.at_ hz
         subst e
         rw[Nat.mul_one] at hzc
         have z0:wr.cell? ⟨zb,zo+k,none⟩=some (.int .i64 z):=ZA HBL.out _ _ _ hzc
         obtain⟨yb,yo,e,hyc⟩:=HWC.out wr (HB6.out.trans ((H7.out.1.trans (HBL.out.mono H7.out.1.size)).mono HB6.out.size)) (i+1) y HY.out.1
         injection e with e
         injection e with e1 e2
         subst e1 e2
         have y0:wr.cell? ⟨wb,wo+(i+1),none⟩=some (.int .i64 y):=hyc
         have y1:wr.cell? ⟨wb,wo+i+1,none⟩=some (.int .i64 y):=hyc
         have k0:(0:Int)≤k:=by omega
         have kL:(k:Int) < len:=by omega
         have iK1:(i:Int)+1 < K:=by have:=(List.getElem?_eq_some_iff.1 HY.out.1).1;rw[HK.out] at this;omega
         obtain⟨tb2,htb2⟩ : ∃ tb2,(tb || decide (z=y))=tb2:=⟨_,rfl⟩
         have HT2:Hid (tb2=true ↔ ∃ m:Nat,m < k+1∧(fol2 n)[m]? = some y):=Hd_ (by
          rw[← htb2,Bool.or_eq_true,HTB.out,decide_eq_true_eq]
          constructor
          ·rintro(⟨m,h1,h2⟩ | h)
           ·exact⟨m,by omega,h2⟩
           ·exact⟨k,by omega,by rw[hz,h]⟩
          ·rintro⟨m,h1,h2⟩
           by_cases e:m=k
           ·subst e
            rw[hz] at h2
            injection h2 with h2
            exact .inr h2
           ·exact .inl ⟨m,by omega,h2⟩)
         clear hz hzc hyc
         go_upto_region 26 with(fail)
         cases tb with
         | true =>
          have hs:tb2=true:=by rw[← htb2];rfl
          subst hs
          clear htb2
          refine wp_region_quiet_lit (by kernel_rfl) (by kernel_rfl) ?_
          repeat (go_big_quiet_step (fail))
          refine wpQuiet_nil ?_
          intro _ hw'
          obtain⟨n2,hw2⟩:=hw'
          subst hw2
          have HB9:=Hd_ (HBL.out.trans ((ZF wr n2).mono HBL.out.size))
          go_wp2
          go_roundw
          case rel =>
           first
            | exact⟨k+1,_,rfl,by go_num,by omega,HB9,HT2⟩
            | ((repeat apply Exists.intro);exact⟨⟨k+1,_,rfl,by go_num,by omega,HB9,HT2⟩,rfl⟩)
          case measure=>simp[intOf];omega
         | false =>
          have hs:tb2=(z == y):=by rw[← htb2];rfl
          subst hs
          clear htb2
          refine wp_region_quiet_lit (by kernel_rfl) (by kernel_rfl) ?_
          repeat (go_big_quiet_step (fail))
          refine wpQuiet_nil ?_
          intro _ hw'
          obtain⟨n2,hw2⟩:=hw'
          subst hw2
          have HB9:=Hd_ (HBL.out.trans ((ZF wr n2).mono HBL.out.size))
          go_wp2
          go_roundw
          case rel =>
           first
            | exact⟨k+1,_,rfl,by go_num,by omega,HB9,HT2⟩
            | ((repeat apply Exists.intro);exact⟨⟨k+1,_,rfl,by go_num,by omega,HB9,HT2⟩,rfl⟩)
          case measure=>simp[intOf];omega
        ·have hs:tb=true:=HTB.out.2 (by
          obtain⟨m,hm⟩:=List.getElem?_of_mem HY.out.2
          have:=(List.getElem?_eq_some_iff.1 hm).1
          rw[HLN.out] at this
          exact⟨m,by omega,hm⟩)
         subst hs
         have HB7:=Hd_ (HB6.out.trans ((H7.out.1.trans (HBL.out.mono H7.out.1.size)).mono HB6.out.size))
         go_wp2
         go_roundw
         case rel =>
          first
           | exact⟨i+1,pb2,rfl,by go_num,by omega,HB7,HP7⟩
           | ((repeat apply Exists.intro);exact⟨⟨i+1,pb2,rfl,by go_num,by omega,HB7,HP7⟩,rfl⟩)
         case measure=>simp[intOf];omega
      ·have dy:decide ((i:Int)+1 < (K:Int))=false:=decide_eq_false (by omega)
       have HB7:=Hd_ HB6.out
       go_wp2
       go_roundw
       case rel =>
        first
         | exact⟨i+1,pb2,rfl,by go_num,by omega,HB7,HP7⟩
         | ((repeat apply Exists.intro);exact⟨⟨i+1,pb2,rfl,by go_num,by omega,HB7,HP7⟩,rfl⟩)
       case measure=>simp[intOf];omega
  ·obtain rfl:K=i:=by omega
   have hpb:pb=true:=HP.out.2 (by
    obtain⟨q,hq⟩:=HAL.out.pass
    have:=(List.getElem?_eq_some_iff.1 hq).1
    rw[HK.out] at this
    exact⟨q,this,hq⟩)
   subst hpb
   obtain⟨x,n,hx,hn,hst⟩:=HAL.out.first
   obtain⟨y,m,hy,hm,hld⟩:=HAL.out.last
   obtain⟨xn,_,rfl,hxN,-⟩:=HRN.out 0 x hx
   obtain⟨yn,_,rfl,hyN,-⟩:=HRN.out _ y hy
   rw[Int.toNat_natCast] at hn hm
   rw[HK.out] at hy
   obtain⟨K1,rfl⟩ : ∃ K1,K=K1+1:=⟨K - 1,by omega⟩
   have hy:W[K1]? = some (yn:Int):=hy
   obtain⟨wb,wo,e,hwc⟩:=HWC.out wr HB.out 0 _ hx
   subst e
   rw[Nat.add_zero] at hwc
   have g3:=HG3.out wr HB.out
   have hdm:=of_decide_eq_true hld
   have hdn:=of_decide_eq_true hst
   have htm:=HTH.out m (List.mem_of_getElem? hm) (.inl hdm.1)
   have hcm:=HCV.out m.thing htm.1 htm.2
   obtain⟨cb,co,e,hcm0⟩:=hcm
   subst e
   have HDN:Hid (n.kind=6∨(n.kind=3∧0≤n.thing∧n.thing < S∧cmap w cb (co+n.thing.toNat * 3)=some (.int .u8 3))):=Hd_ (by
    rcases hdn with h | ⟨h1,h2⟩
    ·exact .inl h
    ·have h3:=HTH.out n (List.mem_of_getElem? hn) (.inr h1)
     obtain⟨cb',co',e,h4⟩:=HCV.out n.thing h3.1 h3.2
     injection e with e
     injection e with e1 e2
     subst e1 e2
     rw[h2] at h4
     exact .inr ⟨h1,h3.1,h3.2,h4⟩)
   rw[hdm.2] at hcm0
   have HM:=Hd_ (And.intro hdm.1 (And.intro htm hcm0))
   have x0:(0:Int)≤(xn:Nat):=by omega
   have xN:((xn:Nat) : Int) < N:=by omega
   have y0:(0:Int)≤(yn:Nat):=by omega
   have yN:((yn:Nat) : Int) < N:=by omega
   have kp:(0:Int) < ((K1+1:Nat) : Int):=by omega
   have ks:(K1:Int)≤8193:=by omega
   have kw:IntKind.i64.wrap (K1:Int)=(K1:Int):=IntWalk.i64_in _ (by omega)
   have kn:(0:Int)≤K1:=by omega
   have kl:(K1:Int) < (K1:Int)+1:=by omega
   clear hx hst hld hdm hdn htm hcm0
   go_upto_region 29 with(fail)
   haveI hne:Nonempty (XC (cNew wr 61 fzN n.cells 7 8)):=XC.ne Zk
   have hB:∀ x:XC (cNew wr 61 fzN n.cells 7 8),Below wr.heap.size wr x.w:=fun x=>ZAy x
   have f3:∀ x:XC (cNew wr 61 fzN n.cells 7 8),x.w.cell? ⟨GB,3,none⟩=some (.slice (some ⟨nb,no,none⟩) N nc):=fun x=>ZA (hB x) _ _ _ g3
   have fW:∀ x:XC (cNew wr 61 fzN n.cells 7 8),x.w.cell? ⟨wb,wo,none⟩=some (.int .i64 (xn:Nat)):=fun x=>ZA (hB x) _ _ _ hwc
   have F6:Hid (∀ x:XC (cNew wr 61 fzN n.cells 7 8),∀ j v,n.cells[j]? = some v→x.w.cell? ⟨nb,no+xn * 13+j,none⟩=some v):=Hd_ fun x j v hj=>ZA (hB x) _ _ _ (HNW.out _ HB.out _ _ hn j v hj)
   refine Z8 (cNew wr 61 fzN n.cells 7 8) [7,8] [0,1,2,3,4,5,6,7,8] (by kernel_rfl) (by kernel_rfl) (by kernel_rfl) Zk (ZDh rfl rfl) (ZDi rfl (by decide)) (ZBS (by rfl)) ?_
   repeat (refine ZAk rfl rfl (fun K hK=>?_);go_simp;refine hK _ ?_;clear hK K)
   refine ZAl (some 152) rfl rfl rfl rfl 61 _ rfl nb (no+xn * 13) rfl n.cells _ F6.out Tryd.underlying61 rfl (by kernel_rfl) ?_
   refine ZAn (some 21) rfl rfl rfl rfl (fun D A x hD _ _ hC=>ZAz rfl (.agg fzN.toArray) rfl (fun _=>by kernel_rfl) (by decide) hD hC) (fun D A x hD hpre hC=>?_)
   rw[hC.2.1 hD]
   clear hpre hC hD x A D
   refine ZAm rfl rfl rfl rfl (fun D A x hD hp hpre hC=>ZAx (W:=wr) (z:=fzN) (cs:=n.cells) rfl rfl rfl (by kernel_rfl) rfl rfl (by decide) (hpre 7 (by simp)).1 hD hC) (fun D A x hD hpre hC=>?_)
   clear hpre hC hD x A D
   refine ZBL (fun D A x hD hAA hC=>?_)
   obtain⟨q2,rfl⟩:=ZCA (hD 8 (by decide)) hC
   clear hAA hC hD A D
   simp only[Act.put,List.setIfInBounds_toArray,List.set_cons_zero,List.set_cons_succ]
   clear f3 fW F6 hB hne
   have hcell:∀ j v,n.cells[j]? = some v→((wr.alloc (.cells n.cells.toArray 61)).drewN q2).cell? ⟨wr.heap.size,0+j,none⟩=some v:=ZL wr n.cells 61 wr.heap.size rfl
   have ha4:Below wr.heap.size wr ((wr.alloc (.cells n.cells.toArray 61)).drewN q2):=ZX q2 (ZB wr _)
   obtain⟨w4,hw4⟩ : ∃ w4,(wr.alloc (.cells n.cells.toArray 61)).drewN q2=w4:=⟨_,rfl⟩
   rw[hw4] at hcell ha4 ⊢
   clear hw4
   have HC4:=Hd_ hcell
   have HB4:=Hd_ (HB.out.trans (ha4.mono HB.out.size))
   obtain⟨X,hX⟩ : ∃ X,wr.heap.size=X:=⟨_,rfl⟩
   rw[hX] at HC4 ⊢
   have g3:=HG3.out w4 HB4.out
   obtain⟨wb',wo',e,hwc⟩:=HWC.out w4 HB4.out K1 _ hy
   injection e with e
   injection e with e1 e2
   subst e1 e2
   clear hcell ha4 hX HB hn hy
   go_upto_region 30 with(fail)
   haveI hne:Nonempty (XC (cNew w4 61 fzN m.cells 10 11)):=XC.ne Zk
   have hB:∀ x:XC (cNew w4 61 fzN m.cells 10 11),Below w4.heap.size w4 x.w:=fun x=>ZAy x
   have f3:∀ x:XC (cNew w4 61 fzN m.cells 10 11),x.w.cell? ⟨GB,3,none⟩=some (.slice (some ⟨nb,no,none⟩) N nc):=fun x=>ZA (hB x) _ _ _ g3
   have fW:∀ x:XC (cNew w4 61 fzN m.cells 10 11),x.w.cell? ⟨wb,wo+K1,none⟩=some (.int .i64 (yn:Nat)):=fun x=>ZA (hB x) _ _ _ hwc
   have F6:Hid (∀ x:XC (cNew w4 61 fzN m.cells 10 11),∀ j v,m.cells[j]? = some v→x.w.cell? ⟨nb,no+yn * 13+j,none⟩=some v):=Hd_ fun x j v hj=>ZA (hB x) _ _ _ (HNW.out _ HB4.out _ _ hm j v hj)
   refine Z8 (cNew w4 61 fzN m.cells 10 11) [10,11] [0,1,2,3,4,5,6,7,8,9,10,11] (by kernel_rfl) (by kernel_rfl) (by kernel_rfl) Zk (ZDh rfl rfl) (ZDi rfl (by decide)) (ZBS (by rfl)) ?_
   repeat (refine ZAk rfl rfl (fun K hK=>?_);go_simp;refine hK _ ?_;clear hK K)
   refine ZAl (some 162) rfl rfl rfl rfl 61 _ rfl nb (no+yn * 13) rfl m.cells _ F6.out Tryd.underlying61 rfl (by kernel_rfl) ?_
   refine ZAn (some 22) rfl rfl rfl rfl (fun D A x hD _ _ hC=>ZAz rfl (.agg fzN.toArray) rfl (fun _=>by kernel_rfl) (by decide) hD hC) (fun D A x hD hpre hC=>?_)
   rw[hC.2.1 hD]
   clear hpre hC hD x A D
   refine ZAm rfl rfl rfl rfl (fun D A x hD hp hpre hC=>ZAx (W:=w4) (z:=fzN) (cs:=m.cells) rfl rfl rfl (by kernel_rfl) rfl rfl (by decide) (hpre 10 (by simp)).1 hD hC) (fun D A x hD hpre hC=>?_)
   clear hpre hC hD x A D
   refine ZBL (fun D A x hD hAA hC=>?_)
   obtain⟨q2,rfl⟩:=ZCA (hD 11 (by decide)) hC
   clear hAA hC hD A D
   simp only[Act.put,List.setIfInBounds_toArray,List.set_cons_zero,List.set_cons_succ]
   clear f3 fW F6 hB hne
   have hcell:∀ j v,m.cells[j]? = some v→((w4.alloc (.cells m.cells.toArray 61)).drewN q2).cell? ⟨w4.heap.size,0+j,none⟩=some v:=ZL w4 m.cells 61 w4.heap.size rfl
   have ha5:Below w4.heap.size w4 ((w4.alloc (.cells m.cells.toArray 61)).drewN q2):=ZX q2 (ZB w4 _)
   obtain⟨w5,hw5⟩ : ∃ w5,(w4.alloc (.cells m.cells.toArray 61)).drewN q2=w5:=⟨_,rfl⟩
   rw[hw5] at hcell ha5 ⊢
   clear hw5
   have HC5:=Hd_ hcell
   have HB5:=Hd_ (HB4.out.trans (ha5.mono HB4.out.size))
   have p0:w5.cell? ⟨X,0,none⟩=some (.int .u8 n.kind):=ZA ha5 _ _ _ (HC4.out 0 _ rfl)
   have p3:w5.cell? ⟨X,3,none⟩=some (.int .i64 n.thing):=ZA ha5 _ _ _ (HC4.out 3 _ rfl)
   obtain⟨Y,hY⟩ : ∃ Y,w4.heap.size=Y:=⟨_,rfl⟩
   rw[hY] at HC5 ⊢
   have r0:w5.cell? ⟨Y,0,none⟩=some (.int .u8 m.kind):=HC5.out 0 _ rfl
   have r3:w5.cell? ⟨Y,3,none⟩=some (.int .i64 m.thing):=HC5.out 3 _ rfl
   obtain⟨th,hth⟩:=Int.eq_ofNat_of_zero_le HM.out.2.1.1
   have m0:(0:Int)≤(th:Nat):=by omega
   have mS:((th:Nat) : Int) < S:=by have:=HM.out.2.1.2;omega
   have mc:w5.cell? ⟨cb,co+th * 3,none⟩=some (.int .u8 3):=by
    have h1:=HM.out.2.2
    rw[hth,Int.toNat_natCast] at h1
    exact ZA (HBW.out _ HB5.out) _ _ _ h1
   rw[HM.out.1] at r0
   rw[hth] at r3
   clear hcell ha5 hY hm hth g3 hwc
   rcases HDN.out with h6 | ⟨h3,ht0,htS,hcn⟩
   ·rw[h6] at p0
    clear h6
    go_wp2
    go_ret
    exact⟨rfl,HBW.out _ HB5.out⟩
   ·obtain⟨tn,htn⟩:=Int.eq_ofNat_of_zero_le ht0
    rw[htn] at p3 hcn htS
    rw[h3] at p0
    rw[Int.toNat_natCast] at hcn
    have n0:(0:Int)≤(tn:Nat):=by omega
    have nc':w5.cell? ⟨cb,co+tn * 3,none⟩=some (.int .u8 3):=ZA (HBW.out _ HB5.out) _ _ _ hcn
    clear h3 ht0 htn hcn
    go_wp2
    go_ret
    exact⟨rfl,HBW.out _ HB5.out⟩
end Go.Proofs.YtffgnjgphkdodaaDoor
