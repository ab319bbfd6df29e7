import Derived.Test.YtffgnjgphkdodaaGreatDoorR43
import Derived.Deep.RegionHeld3
namespace Go.Proofs.YtffgnjgphkdodaaGreatDoor
open Go Go.RowKit
set_option maxRecDepth 100000 in
set_option maxHeartbeats 8000000 in
theorem ZEL (cs:List Value) (u:Unit_) (w:World) (hu:UnitV (cmap w) cs u) (hz:USz u) :
  Calls Tryz.prog 25 #[.agg cs.toArray] w fun e w'=>∃ cs',e=.returned (.agg cs'.toArray)∧UnitAcc w.heap.size w' cs' u∧Below w.heap.size w w':=by
 obtain⟨sv,lv,gv,rfl,hs,hl,hg⟩:=hu
 obtain⟨sA,sc,rfl,-⟩:=id hs
 obtain⟨lA,lc,rfl,-⟩:=id hl
 obtain⟨gA,gc,rfl,-⟩:=id hg
 obtain⟨z0,z1,z2,z3⟩:=hz
 obtain⟨W0,hW0⟩ : ∃ W0,(w.alloc (.cells #[.slice sA u.shared.length sc,.slice lA u.locks.length lc,.slice gA u.graphs.length gc] 25)).alloc (.cells #[.slice none 0 0,.slice none 0 0,.slice none 0 0] 25)=W0:=⟨_,rfl⟩
 have b0:Blk W0 w.heap.size 25 [.slice sA u.shared.length sc,.slice lA u.locks.length lc,.slice gA u.graphs.length gc]:=by rw[← hW0];exact(Blk.new w _ _).alloc _
 have br:Blk W0 (w.heap.size+1) 25 [.slice none 0 0,.slice none 0 0,.slice none 0 0]:=by rw[← hW0];exact Blk.of (ZI _ _ _ (by simp)) rfl
 have hbl:Below w.heap.size w W0:=by rw[← hW0];exact(ZC _ _).alloc (by simp) _
 have hsz:w.heap.size+2=W0.heap.size:=by rw[← hW0];simp
 have hs0:=hs.mono (ZA hbl)
 have hl0:=hl.mono (ZA hbl)
 have hg0:=hg.mono (ZA hbl)
 have e0:=b0.cell 0
 have e1:=b0.cell 1
 have l0:w.heap.size < W0.heap.size:=b0.lt
 have B000:∀ o1 o2 o3,Below W0.heap.size W0 (((W0.alloc o1).alloc o2).alloc o3).drew:=fun o1 o2 o3=>(Below.al (Below.al (Below.al (Below.refl _ W0) o1) o2) o3).drew
 have e003:∀ o1 o2 o3,((((W0.alloc o1).alloc o2).alloc o3).drew).cell? ⟨w.heap.size,0,none⟩=some (.slice sA u.shared.length sc):=fun o1 o2 o3=>((B000 o1 o2 o3).cell (p:=⟨w.heap.size,0,none⟩) l0).trans e0
 have e103:∀ o1 o2 o3,((((W0.alloc o1).alloc o2).alloc o3).drew).cell? ⟨w.heap.size,1,none⟩=some (.slice lA u.locks.length lc):=fun o1 o2 o3=>((B000 o1 o2 o3).cell (p:=⟨w.heap.size,1,none⟩) l0).trans e1
 clear B000
 have n0:W0.heap.size≠w.heap.size:=by omega
 have n1:W0.heap.size+1≠w.heap.size:=by omega
 have n2:W0.heap.size+1+1≠w.heap.size:=by omega
 have HSZ:=Hd_ hsz;clear hsz
 have HW0:=Hd_ hW0;clear hW0
 have hgw:=hg
 clear hs hl hg
 go_enter Tryz.func25,Tryz.ntmps25
 go_upto_region 1 with fail
 rw[HW0.out]
 go_cut [3] (fun v3 wc=>∃ gb sv lv,v3=.pointer (some ⟨gb,0,none⟩)∧CopyAt w wc u [.slice sA u.shared.length sc,.slice lA u.locks.length lc,.slice gA u.graphs.length gc] gb sv lv)
 case first =>
  go_region_held3 (fun w'=>w'.cell? ⟨w.heap.size,0,none⟩=some (.slice sA u.shared.length sc)∧w'.cell? ⟨w.heap.size,1,none⟩=some (.slice lA u.locks.length lc)) (go_keep)
   (first
    | (refine ZFh ZHI ZGc rfl _ _ rfl _ rfl sA u.shared.length sc u.shared rfl (hs0.mono (ZA (by repeat (first | exact Below.refl _ _ | assumption | refine Below.al ?_ _ | refine Below.drew ?_)))) (by omega) ?_;intro A1 c1 w1 k1 hb1;have B1:Below W0.heap.size W0 w1:=(Below.trans (by repeat (first | exact Below.refl _ _ | assumption | refine Below.al ?_ _ | refine Below.drew ?_)) (hb1.mono (by simp <;> omega)));have z1:=B1.size;have y1:=hb1.size;(try simp only[World.size_alloc,World.size_drew] at y1);have e10:=(B1.cell (p:=⟨w.heap.size,0,none⟩) l0).trans e0;have e11:=(B1.cell (p:=⟨w.heap.size,1,none⟩) l0).trans e1;(try (refine(have G0:Blk w1 W0.heap.size 25 [.slice none 0 0,.slice none 0 0,.slice none 0 0]:=?_;?_);refine Blk.below ?_ hb1 ?_;(first | exact Blk.new _ _ _ | exact(Blk.new _ _ _).alloc _ | exact((Blk.new _ _ _).alloc _).alloc _ | exact ZAF _ _ _ _ | exact(ZAF _ _ _ _).alloc _ | exact ZCQ _ _ _ _ _ | fail);(simp <;> omega);have cG00:w1.cell? ⟨W0.heap.size,0,none⟩=some (.slice none 0 0):=G0.cell 0;have cG01:w1.cell? ⟨W0.heap.size,1,none⟩=some (.slice none 0 0):=G0.cell 1;have cG02:w1.cell? ⟨W0.heap.size,2,none⟩=some (.slice none 0 0):=G0.cell 2;have fG00:w1.frozen? ⟨W0.heap.size,0,none⟩=false:=G0.frozen 0;have fG01:w1.frozen? ⟨W0.heap.size,1,none⟩=false:=G0.frozen 1;have fG02:w1.frozen? ⟨W0.heap.size,2,none⟩=false:=G0.frozen 2;refine(have nG0:W0.heap.size≠w.heap.size:=?_;?_);omega));(try (refine(have G1:Blk w1 (W0.heap.size+1) 25 [.slice none 0 0,.slice none 0 0,.slice none 0 0]:=?_;?_);refine Blk.below ?_ hb1 ?_;(first | exact Blk.new _ _ _ | exact(Blk.new _ _ _).alloc _ | exact((Blk.new _ _ _).alloc _).alloc _ | exact ZAF _ _ _ _ | exact(ZAF _ _ _ _).alloc _ | exact ZCQ _ _ _ _ _ | fail);(simp <;> omega);have cG10:w1.cell? ⟨(W0.heap.size+1),0,none⟩=some (.slice none 0 0):=G1.cell 0;have cG11:w1.cell? ⟨(W0.heap.size+1),1,none⟩=some (.slice none 0 0):=G1.cell 1;have cG12:w1.cell? ⟨(W0.heap.size+1),2,none⟩=some (.slice none 0 0):=G1.cell 2;have fG10:w1.frozen? ⟨(W0.heap.size+1),0,none⟩=false:=G1.frozen 0;have fG11:w1.frozen? ⟨(W0.heap.size+1),1,none⟩=false:=G1.frozen 1;have fG12:w1.frozen? ⟨(W0.heap.size+1),2,none⟩=false:=G1.frozen 2;refine(have nG1:(W0.heap.size+1)≠w.heap.size:=?_;?_);omega));(try (refine(have G2:Blk w1 (W0.heap.size+1+1) 25 [.slice none 0 0,.slice none 0 0,.slice none 0 0]:=?_;?_);refine Blk.below ?_ hb1 ?_;(first | exact Blk.new _ _ _ | exact(Blk.new _ _ _).alloc _ | exact((Blk.new _ _ _).alloc _).alloc _ | exact ZAF _ _ _ _ | exact(ZAF _ _ _ _).alloc _ | exact ZCQ _ _ _ _ _ | fail);(simp <;> omega);have cG20:w1.cell? ⟨(W0.heap.size+1+1),0,none⟩=some (.slice none 0 0):=G2.cell 0;have cG21:w1.cell? ⟨(W0.heap.size+1+1),1,none⟩=some (.slice none 0 0):=G2.cell 1;have cG22:w1.cell? ⟨(W0.heap.size+1+1),2,none⟩=some (.slice none 0 0):=G2.cell 2;have fG20:w1.frozen? ⟨(W0.heap.size+1+1),0,none⟩=false:=G2.frozen 0;have fG21:w1.frozen? ⟨(W0.heap.size+1+1),1,none⟩=false:=G2.frozen 1;have fG22:w1.frozen? ⟨(W0.heap.size+1+1),2,none⟩=false:=G2.frozen 2;refine(have nG2:(W0.heap.size+1+1)≠w.heap.size:=?_;?_);omega));refine(have m0:w1.heap.size≠w.heap.size:=?_;?_);omega;refine(have m1:w1.heap.size+1≠w.heap.size:=?_;?_);omega)
    | (refine ZFh ZHI ZGc rfl _ _ rfl _ rfl lA u.locks.length lc u.locks rfl (hl0.mono (ZA (by repeat (first | exact Below.refl _ _ | assumption | refine Below.al ?_ _ | refine Below.drew ?_)))) (by omega) ?_;intro A2 c2 w2 k2 hb2;have z2:=hb2.size;have y2:=hb2.size;(try simp only[World.size_alloc] at y2);have B12:Below w1.heap.size w1 w2:=(Below.trans (by repeat (first | exact Below.refl _ _ | assumption | refine Below.al ?_ _ | refine Below.drew ?_)) (hb2.mono (by simp <;> omega)));have B2:Below W0.heap.size W0 w2:=B1.trans (B12.mono z1);have e20:=(B2.cell (p:=⟨w.heap.size,0,none⟩) l0).trans e0;have e21:=(B2.cell (p:=⟨w.heap.size,1,none⟩) l0).trans e1;(try (have H0:=G0.below B12 G0.lt;have cH00:w2.cell? ⟨W0.heap.size,0,none⟩=some (.slice none 0 0):=H0.cell 0;have cH01:w2.cell? ⟨W0.heap.size,1,none⟩=some (.slice none 0 0):=H0.cell 1;have cH02:w2.cell? ⟨W0.heap.size,2,none⟩=some (.slice none 0 0):=H0.cell 2;have fH00:w2.frozen? ⟨W0.heap.size,0,none⟩=false:=H0.frozen 0;have fH01:w2.frozen? ⟨W0.heap.size,1,none⟩=false:=H0.frozen 1;have fH02:w2.frozen? ⟨W0.heap.size,2,none⟩=false:=H0.frozen 2;refine(have nH0:W0.heap.size≠w.heap.size:=?_;?_);omega));(try (have H1:=G1.below B12 G1.lt;have cH10:w2.cell? ⟨(W0.heap.size+1),0,none⟩=some (.slice none 0 0):=H1.cell 0;have cH11:w2.cell? ⟨(W0.heap.size+1),1,none⟩=some (.slice none 0 0):=H1.cell 1;have cH12:w2.cell? ⟨(W0.heap.size+1),2,none⟩=some (.slice none 0 0):=H1.cell 2;have fH10:w2.frozen? ⟨(W0.heap.size+1),0,none⟩=false:=H1.frozen 0;have fH11:w2.frozen? ⟨(W0.heap.size+1),1,none⟩=false:=H1.frozen 1;have fH12:w2.frozen? ⟨(W0.heap.size+1),2,none⟩=false:=H1.frozen 2;refine(have nH1:(W0.heap.size+1)≠w.heap.size:=?_;?_);omega));(try (have H2:=G2.below B12 G2.lt;have cH20:w2.cell? ⟨(W0.heap.size+1+1),0,none⟩=some (.slice none 0 0):=H2.cell 0;have cH21:w2.cell? ⟨(W0.heap.size+1+1),1,none⟩=some (.slice none 0 0):=H2.cell 1;have cH22:w2.cell? ⟨(W0.heap.size+1+1),2,none⟩=some (.slice none 0 0):=H2.cell 2;have fH20:w2.frozen? ⟨(W0.heap.size+1+1),0,none⟩=false:=H2.frozen 0;have fH21:w2.frozen? ⟨(W0.heap.size+1+1),1,none⟩=false:=H2.frozen 1;have fH22:w2.frozen? ⟨(W0.heap.size+1+1),2,none⟩=false:=H2.frozen 2;refine(have nH2:(W0.heap.size+1+1)≠w.heap.size:=?_;?_);omega));(try (refine(have H3:Blk w2 w1.heap.size 25 [.slice none 0 0,.slice none 0 0,.slice none 0 0]:=?_;?_);refine Blk.below ?_ hb2 ?_;(first | exact Blk.new _ _ _ | exact(Blk.new _ _ _).alloc _ | exact((Blk.new _ _ _).alloc _).alloc _ | exact ZAF _ _ _ _ | exact(ZAF _ _ _ _).alloc _ | exact ZCQ _ _ _ _ _ | fail);(simp <;> omega);have cH30:w2.cell? ⟨w1.heap.size,0,none⟩=some (.slice none 0 0):=H3.cell 0;have cH31:w2.cell? ⟨w1.heap.size,1,none⟩=some (.slice none 0 0):=H3.cell 1;have cH32:w2.cell? ⟨w1.heap.size,2,none⟩=some (.slice none 0 0):=H3.cell 2;have fH30:w2.frozen? ⟨w1.heap.size,0,none⟩=false:=H3.frozen 0;have fH31:w2.frozen? ⟨w1.heap.size,1,none⟩=false:=H3.frozen 1;have fH32:w2.frozen? ⟨w1.heap.size,2,none⟩=false:=H3.frozen 2;refine(have nH3:w1.heap.size≠w.heap.size:=?_;?_);omega));(try (refine(have H4:Blk w2 (w1.heap.size+1) 25 [.slice none 0 0,.slice none 0 0,.slice none 0 0]:=?_;?_);refine Blk.below ?_ hb2 ?_;(first | exact Blk.new _ _ _ | exact(Blk.new _ _ _).alloc _ | exact((Blk.new _ _ _).alloc _).alloc _ | exact ZAF _ _ _ _ | exact(ZAF _ _ _ _).alloc _ | exact ZCQ _ _ _ _ _ | fail);(simp <;> omega);have cH40:w2.cell? ⟨(w1.heap.size+1),0,none⟩=some (.slice none 0 0):=H4.cell 0;have cH41:w2.cell? ⟨(w1.heap.size+1),1,none⟩=some (.slice none 0 0):=H4.cell 1;have cH42:w2.cell? ⟨(w1.heap.size+1),2,none⟩=some (.slice none 0 0):=H4.cell 2;have fH40:w2.frozen? ⟨(w1.heap.size+1),0,none⟩=false:=H4.frozen 0;have fH41:w2.frozen? ⟨(w1.heap.size+1),1,none⟩=false:=H4.frozen 1;have fH42:w2.frozen? ⟨(w1.heap.size+1),2,none⟩=false:=H4.frozen 2;refine(have nH4:(w1.heap.size+1)≠w.heap.size:=?_;?_);omega));refine(have m2:w2.heap.size≠w.heap.size:=?_;?_);(have:=B2.size;omega)))
  all_goals go_wp2_with fail
  all_goals go_meet
  all_goals (try clear n0)
  all_goals (try clear n1)
  all_goals (try clear n2)
  all_goals (try clear m0)
  all_goals (try clear m1)
  all_goals (try clear m2)
  all_goals (try clear nG0)
  all_goals (try clear nG1)
  all_goals (try clear nG2)
  all_goals (try clear nH0)
  all_goals (try clear nH1)
  all_goals (try clear nH2)
  all_goals (try clear nH3)
  all_goals (try clear nH4)
  all_goals first
   | refine⟨_,_,_,rfl,ZIN b0 br hbl HSZ.out B1 B12 k1 k2 ?_ ?_⟩
   | refine⟨_,_,_,rfl,ZJa ?_ b0 br hbl HSZ.out B1 B12 ?_ k1 k2 ?_ ?_ ?_ ?_ ?_⟩
   | fail
  all_goals first
   | exact Below.refl _ _
   | exact Below.al (Below.refl _ _) _
   | exact H0
   | exact H1
   | exact H2
   | exact H3
   | exact H4
   | exact Blk.new _ _ _
   | (simp only[World.size_alloc,World.size_drew];omega)
   | omega
 case rest =>
  obtain⟨gb,sv,lv,rfl,B1,B2,B3,hgb,k1,k2,hbc⟩:=hcut
  have hgl:=B1.lt
  have hwl:=B2.lt
  have hg':=hg0
  have hgc:Graphs (cmap wc) (.slice gA u.graphs.length gc) u.graphs:=hgw.mono (ZA hbc)
  clear hs0 hl0 hg0 e003 e103 n0 n1 n2 e0 e1
  have hnm:u.graphs.length≤9223372036854775807:=by omega
  go_wp2
  go_loopw [4] (fun v4 wr=>∃ (i:Nat) (gvv:Value) (S:Nat→Prop),v4=.int .i64 i∧i≤u.graphs.length∧Blk wr gb 25 [sv,lv,gvv]∧Acc GraphV 4 69 wc.heap.size S gvv (u.graphs.take i) wr ∧
   (∀ b,b < wc.heap.size→b≠gb→wr.heap[b]? = wc.heap[b]?)∧Below w.heap.size w wr∧wc.heap.size≤wr.heap.size) (fun v4 _=>u.graphs.length - (intOf v4).toNat)
  case atStart=>exact⟨0,_,_,rfl,by omega,B1,Acc.nil _ _ _ _ _,fun _ _ _=>rfl,hbc,Nat.le_refl _⟩
  case round =>
   obtain⟨i,gvv,S,rfl,hi,C1,hacc,hfar,hbel,hsz⟩:=hrel
   have C2:Blk wr w.heap.size 25 [.slice sA u.shared.length sc,.slice lA u.locks.length lc,.slice gA u.graphs.length gc]:=(hfar _ hwl (by omega)).trans B2
   have c2:=C1.cell 2
   have d2:=C2.cell 2
   by_cases hlt:i < u.graphs.length
   ·obtain⟨g,hgi⟩ : ∃ g,u.graphs[i]? = some g:=⟨_,List.getElem?_eq_getElem hlt⟩
    obtain⟨b,o,rfl,cg,hgv,hdc⟩:=hgw.at_ hgi
    have HTK:Hid (u.graphs.take (i+1)=u.graphs.take i ++ [g]):=Hd_ (by rw[List.take_succ_eq_append_getElem hlt,(List.getElem?_eq_some_iff.1 hgi).2])
    have hgz:=z3 g (List.mem_of_getElem? hgi)
    have HGV:=hgv
    obtain⟨nv,rfl,nA,nc,rfl,-⟩:=hgv
    have HLDg:Hid (∀ w',Below wr.heap.size wr w'→∀ j v,([.string g.name,.int .i64 g.locals,.int .i64 g.slots,.slice nA g.nodes.length nc] : List Value)[j]? = some v→w'.cell? ⟨b,o+i * 4+j,none⟩=some v):=Hd_ fun w' hb j v h=>ZA (hbel.trans (hb.mono hbel.size)) _ _ _ (hdc j v h)
    have HG2:Hid (∀ w',Below wr.heap.size wr w'→GraphV (cmap w') [.string g.name,.int .i64 g.locals,.int .i64 g.slots,.slice nA g.nodes.length nc] g):=Hd_ fun w' hb=>HGV.mono (ZA (hbel.trans (hb.mono hbel.size)))
    have hi0:(0:Int)≤i:=by omega
    have hil:(i:Int) < u.graphs.length:=by omega
    have hwr:=Below.refl wr.heap.size wr
    have hgr:=C1.lt
    have hwr2:=C2.lt
    have HB0:=Hd_ (hdc 0 _ rfl)
    have hbr:b < wr.heap.size:=by have:=World.block_lt_of_cell? w ⟨b,o+i * 4,none⟩ HB0.out;have:=hbel.size;simp at *;omega
    clear hdc hgi HGV
    go_wp2_with fail
    have hgw0:∀ j v,([.string g.name,.int .i64 g.locals,.int .i64 g.slots,.slice nA g.nodes.length nc] : List Value)[j]? = some v→wr.cell? ⟨b,o+i * 4+j,none⟩=some v:=HLDg.out _ hwr
    have x0:wr.cell? ⟨b,o+i * 4,none⟩=some (.string g.name):=hgw0 0 _ rfl
    have x1:wr.cell? ⟨b,o+i * 4+1,none⟩=some (.int .i64 g.locals):=hgw0 1 _ rfl
    have x2:wr.cell? ⟨b,o+i * 4+2,none⟩=some (.int .i64 g.slots):=hgw0 2 _ rfl
    have x3:wr.cell? ⟨b,o+i * 4+3,none⟩=some (.slice nA g.nodes.length nc):=hgw0 3 _ rfl
    clear hgw0
    have hbw:b < w.heap.size:=World.block_lt_of_cell? w ⟨b,o+i * 4,none⟩ HB0.out
    have hne1:some gb≠gvv.ownBlock:=hacc.blk C1 (by decide)
    have hne2:some w.heap.size≠gvv.ownBlock:=hacc.blk C2 (by decide)
    have hne3:some b≠gvv.ownBlock:=fun e=>by have:=(hacc.lt b e.symm).1;omega
    have f2:=C1.frozen 2
    have hil2:(u.graphs.take i).length=i:=by simp;omega
    have HIL:=Hd_ hil2;clear hil2
    have hgw1:gb≠w.heap.size:=by omega
    have hgw2:gb≠b:=by omega
    go_region_law
     (first
      | (go_simp;go_at_call 64;refine(ZD4 _ g _ (HG2.out _ (by repeat (first | exact Below.refl _ _ | refine Below.drew ?_))) hgz).mono ?_;rintro e w2 ⟨nv,rfl,hnv,hb2⟩;obtain⟨nA2,nc2,rfl,-⟩:=id hnv;have hB2:Below wr.heap.size wr w2:=Below.trans (by repeat (first | exact Below.refl _ _ | refine Below.drew ?_)) (hb2.mono (Nat.le_refl _));obtain⟨hc2,hf2⟩:=ZC1 hB2;have y0:w2.cell? ⟨gb,2,none⟩=some gvv:=(hc2 _ _ hgr).trans c2;have y1:w2.cell? ⟨w.heap.size,2,none⟩=some (.slice (some ⟨b,o,none⟩) u.graphs.length gc):=(hc2 _ _ hwr2).trans d2;have y2:w2.cell? ⟨b,o+i * 4,none⟩=_:=HLDg.out _ hB2 0 _ rfl;have y3:w2.cell? ⟨b,o+i * 4+1,none⟩=_:=HLDg.out _ hB2 1 _ rfl;have y4:w2.cell? ⟨b,o+i * 4+2,none⟩=_:=HLDg.out _ hB2 2 _ rfl;have y5:w2.cell? ⟨b,o+i * 4+3,none⟩=_:=HLDg.out _ hB2 3 _ rfl;have hn2:w2.heap.size≠gb:=Nat.ne_of_gt (Nat.lt_of_lt_of_le hgr hB2.size);have hn3:gb < w2.heap.size:=Nat.lt_of_lt_of_le hgr hB2.size;clear hc2 hf2)
      | (obtain⟨rows,ho,hrl,hrs,hrx⟩:=((hacc.keep hB2).alloc (.cells #[.string g.name,.int .i64 g.locals,.int .i64 g.slots,.slice nA2 g.nodes.length nc2] 69)).rows;refine ZCy ZJr rfl _ _ rfl wc.heap.size gvv (u.graphs.take i).length rows.flatten rfl ho w2.heap.size 0 1 [.string g.name,.int .i64 g.locals,.int .i64 g.slots,.slice nA2 g.nodes.length nc2] rfl rfl (ZK _ _ _ _ rfl) (by simp[Value.oneCell']) ?_ ?_ ?_ ?_;(rw[HIL.out];omega);(rw[HIL.out];omega);(have:=hB2.size;simp;omega);intro v' w' hown4 hgrw hob;obtain⟨vA,vc,rfl,-⟩:=ZF hown4;have j0:w'.cell? ⟨gb,2,none⟩=some gvv:=(ZBj (ZBF hB2 hgrw hgr hne1) 2).trans c2;have j1:w'.cell? ⟨w.heap.size,2,none⟩=some (.slice (some ⟨b,o,none⟩) u.graphs.length gc):=(ZBj (ZBF hB2 hgrw hwr2 hne2) 2).trans d2;have j2:=(ZBj (ZBF hB2 hgrw hbr hne3) (o+i * 4)).trans x0;have j3:=(ZBj (ZBF hB2 hgrw hbr hne3) (o+i * 4+1)).trans x1;have j4:=(ZBj (ZBF hB2 hgrw hbr hne3) (o+i * 4+2)).trans x2;have j5:=(ZBj (ZBF hB2 hgrw hbr hne3) (o+i * 4+3)).trans x3;have jf:=(ZIG (ZBF hB2 hgrw hgr hne1) 2).trans f2)
      )
    all_goals go_wp2_with fail
    all_goals (
     have hst:=ZJZ hacc hsz hfar hbel hgl (by omega) C1 hB2 hnv hrl hrs hrx hown4 hgrw hob
     rw[HIL.out] at hst
     go_roundw
     case rel=>exact⟨i+1,_,_,by go_num,by omega,hst.1,by rw[HTK.out];exact hst.2.1,hst.2.2.1,hst.2.2.2.1,hst.2.2.2.2⟩
     case measure=>simp[intOf];omega)
   ·have C3:Blk wr (w.heap.size+1) 25 [.slice none 0 0,.slice none 0 0,.slice none 0 0]:=(hfar _ (by omega) (by omega)).trans B3
    rw[List.take_of_length_le (by omega)] at hacc
    obtain⟨vA,vc,rfl,-⟩:=hacc.form
    obtain⟨svA,svc,rfl,-⟩:=id k1
    obtain⟨lvA,lvc,rfl,-⟩:=id k2
    have g0:=C1.cell 0
    have g1:=C1.cell 1
    have g2:=C1.cell 2
    have r0:=C3.cell 0
    have r1:=C3.cell 1
    have r2:=C3.cell 2
    have p0:=C3.frozen 0
    have p1:=C3.frozen 1
    have p2:=C3.frozen 2
    have n1:w.heap.size+1≠gb:=by omega
    have hfin:=ZKO hacc hfar hbel hgb hsz (by omega) C3 k1 k2
    go_wp2
    refine bodyPost_ret (v:=.agg #[.slice svA u.shared.length svc,.slice lvA u.locks.length lvc,.slice vA u.graphs.length vc]) (by simp[results,Tryz.results25,go_sem,r0,r1,r2]) rfl ⟨[.slice svA u.shared.length svc,.slice lvA u.locks.length lvc,.slice vA u.graphs.length vc],rfl,hfin.1,hfin.2⟩
end Go.Proofs.YtffgnjgphkdodaaGreatDoor
