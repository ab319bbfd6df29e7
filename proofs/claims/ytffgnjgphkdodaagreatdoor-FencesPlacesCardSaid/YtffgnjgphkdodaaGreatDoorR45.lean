import Derived.Test.YtffgnjgphkdodaaGreatDoorR37
import Derived.StillTailTactics
import Derived.Test.YtffgnjgphkdodaaGreatDoorR34
import Derived.Test.YtffgnjgphkdodaaGreatDoorR42
import Derived.Test.YtffgnjgphkdodaaGreatDoorR44
namespace Go.Proofs.YtffgnjgphkdodaaGreatDoor
open Go Go.RowKit
theorem ZKN (n:Node) (w:World) : (Op.equalIn 10000 66 (.agg #[.int .u8 n.kind,.int .u8 n.op,.int .i64 n.slot,.int .i64 n.thing,.bool n.a.isSlot,.int .i64 n.a.slot,.int .i64 n.a.word,.bool n.b.isSlot,.int .i64 n.b.slot,.int .i64 n.b.word,.int .i64 n.next,.int .i64 n.els,.int .i64 n.origin]) (.agg #[.int .u8 n.kind,.int .u8 n.op,.int .i64 n.slot,.int .i64 n.thing,.bool n.a.isSlot,.int .i64 n.a.slot,.int .i64 n.a.word,.bool n.b.isSlot,.int .i64 n.b.slot,.int .i64 n.b.word,.int .i64 n.next,.int .i64 n.els,.int .i64 n.origin])).run Tryz.prog w=.ok true w:=ZK5 n w
set_option maxRecDepth 100000 in
set_option maxHeartbeats 2000000 in
theorem ZDV (cs1 cs2:List Value) (g:Graph) (w:World) (h1:GraphV (cmap w) cs1 g) (h2:GraphV (cmap w) cs2 g) :
  Calls Tryz.prog 66 #[.agg cs1.toArray,.agg cs2.toArray] w fun e w'=>e=.returned (.bool true)∧Below w.heap.size w w':=by
 obtain⟨nv1,rfl,hn1⟩:=h1
 obtain⟨nv2,rfl,hn2⟩:=h2
 obtain⟨A1,c1,rfl,-⟩:=id hn1
 obtain⟨A2,c2,rfl,-⟩:=id hn2
 have bn:=hn1.len.2.2
 have e0:(g.name != g.name)=false:=by rw[bne,beq_toListBytes];simp
 have e1:(g.locals != g.locals)=false:=by simp
 have e2:(g.slots != g.slots)=false:=by simp
 have e3:((g.nodes.length:Int) != (g.nodes.length:Int))=false:=by simp
 obtain⟨W2,hW2⟩ : ∃ W2,(w.alloc (.cells #[.string g.name,.int .i64 g.locals,.int .i64 g.slots,.slice A1 g.nodes.length c1] 69)).alloc (.cells #[.string g.name,.int .i64 g.locals,.int .i64 g.slots,.slice A2 g.nodes.length c2] 69)=W2:=⟨_,rfl⟩
 have b1:Blk W2 w.heap.size 69 [.string g.name,.int .i64 g.locals,.int .i64 g.slots,.slice A1 g.nodes.length c1]:=by rw[← hW2];exact(Blk.new w _ _).alloc _
 have b2:Blk W2 (w.heap.size+1) 69 [.string g.name,.int .i64 g.locals,.int .i64 g.slots,.slice A2 g.nodes.length c2]:=by rw[← hW2];exact Blk.of (ZI _ _ _ (by simp)) rfl
 have hbl:Below w.heap.size w W2:=by rw[← hW2];exact(ZC _ _).alloc (by simp) _
 have m1:=hn1.mono (ZA hbl)
 have m2:=hn2.mono (ZA hbl)
 have q0:=b1.cell 0
 have q1:=b1.cell 1
 have q2:=b1.cell 2
 have q3:=b1.cell 3
 have r0:=b2.cell 0
 have r1:=b2.cell 1
 have r2:=b2.cell 2
 have r3:=b2.cell 3
 have HW2:=Hd_ hW2
 rw[← hW2] at q0 q1 q2 q3 r0 r1 r2 r3
 clear hW2
 go_enter Tryz.func66,Tryz.ntmps66
 go_wp2
 clear q0 q1 q2 q3 r0 r1 r2 r3
 go_loopw [5] (fun v wr=>∃ (k n:Nat),v=.int .i64 k∧k≤g.nodes.length∧wr=W2.drewN n) (fun v _=>g.nodes.length - (intOf v).toNat)
 case atStart=>exact⟨0,0,rfl,by omega,HW2.out⟩
 case round =>
  obtain⟨k,n0,rfl,hk,hw⟩:=hrel
  have x1:Nodes (cmap wr) (.slice A1 g.nodes.length c1) g.nodes:=by rw[hw];exact m1
  have x2:Nodes (cmap wr) (.slice A2 g.nodes.length c2) g.nodes:=by rw[hw];exact m2
  have q3:wr.cell? ⟨w.heap.size,3,none⟩=some (.slice A1 g.nodes.length c1):=by rw[hw];exact(b1.drewN n0).cell 3
  have r3:wr.cell? ⟨w.heap.size+1,3,none⟩=some (.slice A2 g.nodes.length c2):=by rw[hw];exact(b2.drewN n0).cell 3
  have HW:=Hd_ hw;clear hw
  by_cases hlt:k < g.nodes.length
  ·obtain⟨n,hn⟩ : ∃ n,g.nodes[k]? = some n:=⟨_,List.getElem?_eq_getElem hlt⟩
   obtain⟨bb1,o1,rfl,g1⟩:=x1.at_ hn
   obtain⟨bb2,o2,rfl,g2⟩:=x2.at_ hn
   obtain⟨p0,p1,p2,p3,p4,p5,p6,p7,p8,p9,p10,p11,p12⟩:=ZCH (w:=wr) g1
   obtain⟨s0,s1,s2,s3,s4,s5,s6,s7,s8,s9,s10,s11,s12⟩:=ZCH (w:=wr) g2
   have HN:=Hd_ hn;clear hn g1 g2
   have hk0:(0:Int)≤k:=by omega
   have hkl:(k:Int) < g.nodes.length:=by omega
   have hm : Tryz.prog.eqGuardType Tryz.prog.depth 66 = false:=by kernel_rfl
   have heq:=ZKN n
   go_wp2
   go_quiet (fail)
   go_wp2
   go_roundw
   case rel=>exact⟨k+1,_,by go_num,by omega,by rw[HW.out];exact World.drewN_drewN _ _ _⟩
   case measure=>simp[intOf];omega
  ·go_wp2
   go_ret
   refine⟨rfl,?_⟩
   rw[HW.out]
   exact⟨hbl.os,hbl.tape,hbl.output,hbl.size,hbl.block⟩
set_option maxRecDepth 100000 in
set_option maxHeartbeats 2000000 in
theorem ZED (cs1 cs2:List Value) (u:Unit_) (w:World) (h1:UnitV (cmap w) cs1 u) (h2:UnitV (cmap w) cs2 u) :
  Calls Tryz.prog 26 #[.agg cs1.toArray,.agg cs2.toArray] w fun e w'=>e=.returned (.bool true)∧Below w.heap.size w w':=by
 obtain⟨sv1,lv1,gv1,rfl,hs1,hl1,hg1⟩:=h1
 obtain⟨sv2,lv2,gv2,rfl,hs2,hl2,hg2⟩:=h2
 obtain⟨sA1,sc1,rfl,-⟩:=id hs1
 obtain⟨sA2,sc2,rfl,-⟩:=id hs2
 obtain⟨lA1,lc1,rfl,-⟩:=id hl1
 obtain⟨lA2,lc2,rfl,-⟩:=id hl2
 obtain⟨gA1,gc1,rfl,-⟩:=id hg1
 obtain⟨gA2,gc2,rfl,-⟩:=id hg2
 have bg:=hg1.len.2.2
 have e3:((u.graphs.length:Int) != (u.graphs.length:Int))=false:=by simp
 obtain⟨W2,hW2⟩ : ∃ W2,(w.alloc (.cells #[.slice sA1 u.shared.length sc1,.slice lA1 u.locks.length lc1,.slice gA1 u.graphs.length gc1] 25)).alloc (.cells #[.slice sA2 u.shared.length sc2,.slice lA2 u.locks.length lc2,.slice gA2 u.graphs.length gc2] 25)=W2:=⟨_,rfl⟩
 have b1:Blk W2 w.heap.size 25 [.slice sA1 u.shared.length sc1,.slice lA1 u.locks.length lc1,.slice gA1 u.graphs.length gc1]:=by rw[← hW2];exact(Blk.new w _ _).alloc _
 have b2:Blk W2 (w.heap.size+1) 25 [.slice sA2 u.shared.length sc2,.slice lA2 u.locks.length lc2,.slice gA2 u.graphs.length gc2]:=by rw[← hW2];exact Blk.of (ZI _ _ _ (by simp)) rfl
 have hbl:Below w.heap.size w W2:=by rw[← hW2];exact(ZC _ _).alloc (by simp) _
 have cm:=ZA hbl
 have q0:=b1.cell 0
 have q1:=b1.cell 1
 have q2:=b1.cell 2
 have r0:=b2.cell 0
 have r1:=b2.cell 1
 have r2:=b2.cell 2
 have hsz:w.heap.size+2≤W2.heap.size:=by rw[← hW2];simp
 have HW2:=Hd_ hW2
 rw[← hW2] at q0 q1 q2 r0 r1 r2
 clear hW2
 go_enter Tryz.func26,Tryz.ntmps26
 go_wp2_with fail
 rw[HW2.out] at q0 q1 q2 r0 r1 r2 ⊢
 refine(ZD2 _ _ u.shared _ (hs1.mono cm) (hs2.mono cm)).mono ?_
 rintro e w3 ⟨rfl,n3,rfl⟩
 go_wp2_with (go_at_call 65;refine(ZD2 _ _ u.locks (W2.drewN n3) (by exact hl1.mono cm) (by exact hl2.mono cm)).mono ?_;rintro e w4 ⟨rfl,n4,rfl⟩)
 clear q0 q1 q2 r0 r1 r2
 go_loopw [5] (fun v wr=>∃ (k:Nat),v=.int .i64 k∧k≤u.graphs.length∧Below W2.heap.size W2 wr) (fun v _=>u.graphs.length - (intOf v).toNat)
 case atStart=>exact⟨0,rfl,by omega,⟨rfl,rfl,rfl,Nat.le_refl _,fun _ _=>rfl⟩⟩
 case round =>
  obtain⟨k,rfl,hk,hb⟩:=hrel
  have hbs:=hb.size
  have c1:=b1.below hb (by omega)
  have c2:=b2.below hb (by omega)
  have q2:=c1.cell 2
  have r2:=c2.cell 2
  have cmr:=cm.trans (ZA hb)
  by_cases hlt:k < u.graphs.length
  ·obtain⟨g,hg⟩ : ∃ g,u.graphs[k]? = some g:=⟨_,List.getElem?_eq_getElem hlt⟩
   obtain⟨bb1,o1,rfl,cg1,hv1,d1⟩:=hg1.at_ hg
   obtain⟨bb2,o2,rfl,cg2,hv2,d2⟩:=hg2.at_ hg
   have V1:=hv1.mono cmr
   have V2:=hv2.mono cmr
   obtain⟨nv1,rfl,hn1⟩:=hv1
   obtain⟨nv2,rfl,hn2⟩:=hv2
   have p0:wr.cell? ⟨bb1,o1+k * 4,none⟩=some (.string g.name):=cmr _ _ _ (d1 0 _ rfl)
   have p1:wr.cell? ⟨bb1,o1+k * 4+1,none⟩=some (.int .i64 g.locals):=cmr _ _ _ (d1 1 _ rfl)
   have p2:wr.cell? ⟨bb1,o1+k * 4+2,none⟩=some (.int .i64 g.slots):=cmr _ _ _ (d1 2 _ rfl)
   have p3:wr.cell? ⟨bb1,o1+k * 4+3,none⟩=some nv1:=cmr _ _ _ (d1 3 _ rfl)
   have s0:wr.cell? ⟨bb2,o2+k * 4,none⟩=some (.string g.name):=cmr _ _ _ (d2 0 _ rfl)
   have s1:wr.cell? ⟨bb2,o2+k * 4+1,none⟩=some (.int .i64 g.locals):=cmr _ _ _ (d2 1 _ rfl)
   have s2:wr.cell? ⟨bb2,o2+k * 4+2,none⟩=some (.int .i64 g.slots):=cmr _ _ _ (d2 2 _ rfl)
   have s3:wr.cell? ⟨bb2,o2+k * 4+3,none⟩=some nv2:=cmr _ _ _ (d2 3 _ rfl)
   have HG:=Hd_ hg;clear hg d1 d2
   have hk0:(0:Int)≤k:=by omega
   have hkl:(k:Int) < u.graphs.length:=by omega
   go_wp2
   go_still_tail 10,(by kernel_rfl)
   change wpList _ _ _ _ _ (World.drew wr)
   go_wp2_with (go_at_call 66;refine(ZDV _ _ g (World.drew wr) (by exact V1) (by exact V2)).mono ?_;rintro e w5 ⟨rfl,hb5⟩)
   go_roundw
   case rel=>exact⟨k+1,by go_num,by omega,hb.trans (Below.mono (B:=wr.heap.size) ⟨hb5.os,hb5.tape,hb5.output,hb5.size,hb5.block⟩ hbs)⟩
   case measure=>simp[intOf];omega
  ·go_wp2
   go_ret
   exact⟨rfl,hbl.trans (hb.mono hbl.size)⟩
set_option maxRecDepth 100000 in
set_option maxHeartbeats 1000000 in
theorem ZCM (u:Unit_) (cs:List Value) (m:Bool) (w:World) (hT:Tab w) (hu:UnitV (cmap w) cs u) (hok:UOk u) (hz:USz u) :
  Calls Tryz.prog 7 #[.agg cs.toArray,.bool m] w fun e w'=>e=.returned (.bool true)∧Below w.heap.size w w':=by
 have HBG:=Hd_ fun w1 (h:Below w.heap.size w w1)=>ZCw w1 (hT.below h)
 have HPL:=Hd_ fun w1 (h:Below w.heap.size w w1) cs1 (hu1:UnitV (cmap w1) cs1 u)=>ZA5 u cs1 m w1 (hT.below h) hu1 hok
 have HU:=Hd_ hu
 have HOK:=Hd_ hok
 obtain⟨sv,lv,gv,rfl,-,-,-⟩:=id hu
 have hbx:=Blk.new w 25 [sv,lv,gv]
 have hb0:=ZC w (.cells #[sv,lv,gv] 25)
 have HBX:=Hd_ (And.intro hbx hb0)
 have HCP:=Hd_ (ZEL [sv,lv,gv] u _ (hu.mono (ZA hb0)) hz)
 clear hbx hb0 hT hu hok hz
 obtain⟨L,hL⟩ : ∃ L,(placeR u m).1=L:=⟨_,rfl⟩
 obtain⟨er,her⟩ : ∃ er,(placeR u m).2=er:=⟨_,rfl⟩
 have HLE:=Hd_ (And.intro hL her)
 have q1:(er == er)=true:=by simp
 clear hL her
 go_enter Tryz.func7,Tryz.ntmps7
 go_wp2_with (first
  | (go_at_call 25
     refine(HCP.out).mono ?_
     rintro e w1 ⟨cs',rfl,hua,hb1⟩
     obtain⟨s1,l1,g1,rfl,d1,d2,d3⟩:=id (hua.unit.mono (ZQ _ _ _))
     obtain⟨sA1,sc1,rfl,-⟩:=id d1
     obtain⟨lA1,lc1,rfl,-⟩:=id d2
     obtain⟨gA1,gc1,rfl,-⟩:=id d3
     have hu1:=hua.unit.mono (ZQ _ _ _)
     have hb1':=HBX.out.2.trans (hb1.mono HBX.out.2.size)
     have hx1:=HBX.out.1.below hb1 HBX.out.1.lt
     have hg2:=Blk.new w1 25 [.slice sA1 u.shared.length sc1,.slice lA1 u.locks.length lc1,.slice gA1 u.graphs.length gc1]
     have ha2:=ZC w1 (.cells #[.slice sA1 u.shared.length sc1,.slice lA1 u.locks.length lc1,.slice gA1 u.graphs.length gc1] 25)
     have H2:=Hd_ (And.intro (hb1'.trans (ha2.mono hb1'.size)) (And.intro (hx1.below ha2 hx1.lt) (And.intro hg2 (hu1.mono (ZA ha2)))))
     clear hua hb1 d1 d2 d3 hu1 hb1' hx1 hg2 ha2)
  | (go_at_call 35
     refine(HPL.out _ H2.out.1 _ H2.out.2.2.2).mono ?_
     rintro e w3 h3
     obtain⟨av,rfl,hb3,ha3⟩:=ZHJ h3
     rw[HLE.out.1] at ha3
     rw[HLE.out.2]
     obtain⟨aA,ac,rfl,-⟩:=id ha3
     have hx3:=H2.out.2.1.below hb3 H2.out.2.1.lt
     have x0:=hx3.cell 0
     have x1:=hx3.cell 1
     have x2:=hx3.cell 2
     have H3:=Hd_ (And.intro (H2.out.1.trans (hb3.mono H2.out.1.size)) (And.intro hx3 (And.intro (H2.out.2.2.1.below hb3 H2.out.2.2.1.lt) (And.intro (H2.out.2.2.2.mono (ZA hb3)) ha3))))
     have HRP:=Hd_ (ZCn u [sv,lv,gv] m w3 (HU.out.mono (ZA H3.out.1)) HOK.out)
     clear h3 hb3 ha3 hx3)
  | (go_at_call 36
     refine(HRP.out).mono ?_
     rintro e w4 ⟨bv,rfl,ha4,hb4⟩
     rw[HLE.out.1] at ha4
     rw[HLE.out.2]
     obtain⟨bA,bc,rfl,-⟩:=id ha4
     have hx4:=H3.out.2.1.below hb4 H3.out.2.1.lt
     have hg4:=H3.out.2.2.1.below hb4 H3.out.2.2.1.lt
     have H4:=Hd_ (And.intro (H3.out.1.trans (hb4.mono H3.out.1.size)) (And.intro hx4 (And.intro hg4 (H3.out.2.2.2.1.mono (ZA hb4)))))
     have HLS:=Hd_ (ZA8 _ _ L w4 (ZBa (H3.out.2.2.2.2.mono (ZA hb4))) (ha4.mono (ZQ _ _ _)))
     clear hb4 ha4 hx4 hg4)
  | (go_at_call 37
     refine(HLS.out).mono ?_
     rintro e w5 ⟨rfl,n5,hw5⟩
     have hb5:Below w4.heap.size w4 w5:=by rw[hw5];exact ZJ _ _
     have hx5:=H4.out.2.1.below hb5 H4.out.2.1.lt
     have hg5:=H4.out.2.2.1.below hb5 H4.out.2.2.1.lt
     have x0:=hx5.cell 0
     have x1:=hx5.cell 1
     have x2:=hx5.cell 2
     have y0:=hg5.cell 0
     have y1:=hg5.cell 1
     have y2:=hg5.cell 2
     have H5:=Hd_ (H4.out.1.trans (hb5.mono H4.out.1.size))
     have HSM:=Hd_ (ZED _ _ u w5 (H4.out.2.2.2.mono (ZA hb5)) (HU.out.mono (ZA H5.out)))
     clear hw5 hb5 hx5 hg5)
  | (go_at_call 26
     refine(HSM.out).mono ?_
     rintro e w6 ⟨rfl,hb6⟩
     have H6:=Hd_ (H5.out.trans (hb6.mono H5.out.size))
     clear hb6)
  | (go_at_call 38
     refine(HBG.out _ H6.out).mono ?_
     rintro e w7 ⟨rfl,hb7⟩
     have H7:=Hd_ (H6.out.trans (hb7.mono H6.out.size))
     clear hb7))
 go_ret
 exact⟨rfl,H7.out⟩
end Go.Proofs.YtffgnjgphkdodaaGreatDoor
