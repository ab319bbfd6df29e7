import Derived.Test.YtffgnjgphkdodaaDoorD7
namespace Go.Proofs.YtffgnjgphkdodaaDoor
open Go Go.RowKit
theorem ZBt (n:Node) : (fol2 n).length≤2:=by
 unfold fol2
 split
 ·simp
 ·split <;> simp
set_option maxHeartbeats 400000 in
theorem ZAh (n:Node) (w:World) :
  Calls Tryd.prog 35 #[.agg n.cells.toArray] w fun e w'=>∃ v,e=.returned v∧Ints (part w' w.heap.size w'.heap.size) v (fol2 n)∧Below w.heap.size w w':=by
 unfold Node.cells
 by_cases h1:n.kind=9
 ·have hd:(n.kind == 9)=true:=by simp[h1]
  go_enter Tryd.func35,Tryd.ntmps35
  go_wp2
  go_ret
  refine⟨_,rfl,?_,ZI _ _⟩
  simp[fol2,h1];exact ZBH _
 ·have hd:(n.kind == 9)=false:=by simp[h1]
  by_cases h2:n.kind=8
  ·have hd:(n.kind == 8)=true:=by simp[h2]
   go_enter Tryd.func35,Tryd.ntmps35
   go_wp2
   go_ret
   refine⟨.slice (some ⟨w.heap.size+1,0,none⟩) 2 2,rfl,?_,(ZI _ _).alloc (by simp) _⟩
   rw[show fol2 n=[n.next,n.els] by simp[fol2,h2]]
   exact ZBI _ _ (by simp) _ _ (by rfl) _ _ (by rfl) (by simp) _ (by simp)
  ·have hd:(n.kind == 8)=false:=by simp[h2]
   go_enter Tryd.func35,Tryd.ntmps35
   go_wp2
   go_ret
   refine⟨.slice (some ⟨w.heap.size+1,0,none⟩) 1 1,rfl,?_,(ZI _ _).alloc (by simp) _⟩
   rw[show fol2 n=[n.next] by simp[fol2,h1,h2]]
   exact ZBI _ _ (by simp) _ _ (by rfl) _ _ (by rfl) (by simp) _ (by simp)
set_option maxRecDepth 100000 in
set_option maxHeartbeats 1000000 in
theorem ZEy (g:Graph) (cs:List Value) (w:World) (hw:WholeG g) (hg:GraphV (cmap w) cs g) :
  Calls Tryd.prog 27 #[.agg cs.toArray] w fun e w'=>e=.returned (.bool true)∧Below w.heap.size w w':=by
 obtain⟨nv,rfl,A,c,rfl,hlc,hc,hn⟩:=hg
 have hpos:=hw.pos
 have hmost:=hw.most
 obtain⟨b,o,rfl,hnode⟩ : ∃ b o,A=some ⟨b,o,none⟩∧∀ i x,g.nodes[i]? = some x→NodeC (cmap w) b (o+i * 13) x:=by
  rcases hn with h | h
  ·rw[h] at hpos;simp at hpos
  ·exact h
 clear hn
 obtain⟨N,HN⟩ : ∃ N,Hid (g.nodes.length=N):=⟨_,rfl⟩
 have h0:0 < N:=by rw[← HN.out];exact hpos
 have hN:N≤4096:=by rw[← HN.out];exact hmost
 rw[HN.out] at hlc
 clear hpos hmost
 rw[HN.out]
 go_enter Tryd.func27,Tryd.ntmps27
 go_wp2_with fail
 go_loopw [3] (fun v wr=>∃ k:Nat,v=.int .i64 k∧k≤N∧Blk wr w.heap.size 38 [.string g.name,.int .i64 g.locals,.int .i64 g.slots,.slice (some ⟨b,o,none⟩) N c]∧Below w.heap.size w wr) (fun v _=>N - (intOf v).toNat)
 case atStart=>exact⟨0,rfl,by omega,Blk.new w _ _,ZI _ _⟩
 case round =>
  obtain⟨k,rfl,hk,hbx,hbel⟩:=hrel
  have hbc:wr.cell? ⟨w.heap.size,3,none⟩=some (.slice (some ⟨b,o,none⟩) N c):=by rw[hbx.cell 3];rfl
  have hbl:=hbx.lt
  by_cases hlt:k < N
  ·obtain⟨nd,hnd⟩ : ∃ nd,g.nodes[k]? = some nd:=⟨g.nodes[k]'(by rw[HN.out];exact hlt),List.getElem?_eq_getElem _⟩
   have hld:∀ j v,nd.cells[j]? = some v→wr.cell? ⟨b,o+k * 13+j,none⟩=some v:=fun j v h=>ZA hbel _ _ _ (hnode k nd hnd j v h)
   have hkd:=hw.kind nd (List.mem_of_getElem? hnd)
   have hwf:∀ x∈fol2 nd,0≤x∧x < N:=fun x hx=>by
    have:=hw.fol nd (List.mem_of_getElem? hnd) x ((ZAi _ _).1 hx)
    rw[HN.out] at this
    exact this
   have hfl:(fol2 nd).length≤2:=ZBt nd
   have HWF:=Hd_ hwf;clear hwf
   have HLD:=Hd_ hld;clear hld
   have HND:=Hd_ hnd;clear hnd
   have hk1:=hkd.1
   have hk2:=hkd.2
   have hk0:(nd.kind == 0)=false:=by simp;omega
   have hk3:decide (10≤nd.kind)=false:=by simp;omega
   have hk4:decide (nd.kind≤0)=false:=by simp;omega
   clear hkd
   have hbx2:=hbx.alloc (.cells nd.cells.toArray 61)
   have hld2:∀ j v,nd.cells[j]? = some v→(wr.alloc (.cells nd.cells.toArray 61)).cell? ⟨wr.heap.size,0+j,none⟩=some v:=ZL wr nd.cells _ _ rfl
   have HLD2:=Hd_ hld2;clear hld2
   unfold Node.cells at HLD HLD2
   go_wp2_with (first | (refine ZC rfl 61 _ rfl b (o+k * 13) rfl _ _ HLD.out Tryd.underlying61 rfl (by kernel_rfl) ?_) | (refine ZC rfl 61 _ rfl wr.heap.size 0 rfl _ _ HLD2.out Tryd.underlying61 rfl (by kernel_rfl) ?_) | (go_at_call 35;refine(ZAh nd _).mono ?_;rintro e w2 ⟨fv,rfl,hf,hb2⟩;have hf':=hf;obtain⟨fA,fc,rfl,-,-,-⟩:=hf'))
   have hbx3:=hbx2.below hb2 hbx2.lt
   have hbc3:w2.cell? ⟨w.heap.size,3,none⟩=some (.slice (some ⟨b,o,none⟩) N c):=by rw[hbx3.cell 3];rfl
   have hbl3:=hbx3.lt
   have hbel3:=(hbel.alloc hbel.size (.cells nd.cells.toArray 61)).trans (hb2.mono (hbel.alloc hbel.size _).size)
   obtain⟨fs,hfs⟩ : ∃ fs,fol2 nd=fs:=⟨_,rfl⟩
   rw[hfs] at hf HWF hfl ⊢
   clear hfs hbx2 HLD HLD2
   go_loopw [6] (fun v wq=>∃ j:Nat,v=.int .i64 j∧j≤fs.length∧∃ n,wq=w2.drewN n) (fun v _=>fs.length - (intOf v).toNat)
   case atStart=>exact⟨0,rfl,by omega,0,rfl⟩
   case round =>
    obtain⟨j,rfl,hj,nq,rfl⟩:=hrel
    by_cases hjl:j < fs.length
    ·obtain⟨x,hx⟩ : ∃ x,fs[j]? = some x:=⟨_,List.getElem?_eq_getElem hjl⟩
     have hxb:=HWF.out x (List.mem_of_getElem? hx)
     obtain⟨bf,of,rfl,hfc1⟩:=hf.at_ hx
     rw[Nat.mul_one] at hfc1
     obtain⟨hfc2,-,-⟩:=Zl hfc1
     clear hfc1
     have HX:=Hd_ hx;clear hx
     have hx1:decide (x < 0)=false:=by simp;omega
     have hx2:decide ((N:Int)≤x)=false:=by simp;omega
     have hx3:=hxb.1
     have hx4:=hxb.2
     have hj0:(0:Int)≤j:=by omega
     have hjl2:(j:Int) < fs.length:=by omega
     clear hxb
     go_wp2_with fail
     go_quiet (fail)
     go_wp2_with fail
     go_roundw
     case rel=>exact⟨j+1,by go_num,by omega,_,rfl⟩
     case measure=>simp[intOf];omega
    ·go_wp2_with fail
     go_roundw
     case rel=>exact⟨k+1,by go_num,by omega,hbx3.drewN _,below_drewN hbel3 _⟩
     case measure=>simp[intOf];omega
  ·go_wp2_with fail
   go_ret
   exact⟨rfl,hbel⟩
def WRel (g:Graph) (N:Nat) (cut:Int) (cs:List Value) (w:World) (gk:Nat) (v6 v7:Value) (wr:World) : Prop :=
 ∃ l t k,v7=.int .i64 (k:Nat)∧wr.ownsRow w.heap.size 3 1 v6 t.length (ints t)∧Blk wr (w.heap.size+1) 4 (bools l)∧Blk wr w.heap.size 38 cs∧SI g cut l (t.drop k) (fun _=>False)∧Below w.heap.size w wr ∧
  gk+k=N+1∧t.length+left l=N∧k≤t.length
def WRel2 (g:Graph) (N:Nat) (cut:Int) (cs:List Value) (w:World) (at_:Nat) (nd:Node) (fs:List Int) (k lo hi:Nat) (fv:Value) (gk:Nat) (v6 v9:Value) (wr:World) : Prop :=
 ∃ l t j,v9=.int .i64 (j:Nat)∧j+gk=fs.length∧wr.ownsRow w.heap.size 3 1 v6 t.length (ints t)∧Blk wr (w.heap.size+1) 4 (bools l)∧Blk wr w.heap.size 38 cs∧Pend g cut l (t.drop (k+1)) at_ nd fs j ∧
  Below w.heap.size w wr∧t.length+left l=N∧k < t.length∧Ints (part wr lo hi) fv fs∧(∀ x,v6.ownBlock=some x→x < lo∨hi≤x)∧hi≤wr.heap.size
set_option maxRecDepth 100000 in
set_option maxHeartbeats 2000000 in
theorem ZEL (g:Graph) (cs:List Value) (cut:Int) (w:World) (hw:WholeG g) (hg:GraphV (cmap w) cs g) :
  Calls Tryd.prog 28 #[.agg cs.toArray,.int .i64 cut] w fun e w'=>∃ v l,e=.returned v∧Bools (part w' w.heap.size w'.heap.size) v l∧l.length=g.nodes.length∧(∀ i,l[i]? = some true ↔ ReachC g cut i)∧Below w.heap.size w w':=by
 obtain⟨nv,rfl,A,c,rfl,hlc,hc,hn⟩:=hg
 have hpos:=hw.pos
 have hmost:=hw.most
 obtain⟨b,o,rfl,hnode⟩ : ∃ b o,A=some ⟨b,o,none⟩∧∀ i x,g.nodes[i]? = some x→NodeC (cmap w) b (o+i * 13) x:=by
  rcases hn with h | h
  ·rw[h] at hpos;simp at hpos
  ·exact h
 clear hn
 have hst:=SI.start cut hpos
 obtain⟨N,HN⟩ : ∃ N,Hid (g.nodes.length=N):=⟨_,rfl⟩
 rw[HN.out] at hst hpos hmost hlc
 rw[HN.out]
 have h0:0 < N:=hpos
 generalize hCG:[Value.string g.name,Value.int .i64 g.locals,Value.int .i64 g.slots,Value.slice (some ⟨b,o,none⟩) N c]=CG
 have HCG:=Hd_ hCG;clear hCG
 rw[← HCG.out]
 go_enter Tryd.func28,Tryd.ntmps28
 go_wp2_with (refine ZAX ZES rfl rfl (.tmp 12) (.tmp 12) rfl N rfl rfl (by omega) (by omega) ?_)
 go_loopg [6,7] (N+1) (fun k v6 v7 wr=>WRel g N cut CG w k v6 v7 wr)
 case atStart =>
  refine⟨_,[0],0,rfl,?_,?_,?_,hst,?_,rfl,?_,by simp⟩
  ·exact ZA8 _ _ _ (by simp) (by simp;omega) (by decide) (by rfl) _ rfl
  ·refine Blk.alloc (Blk.of (ZP _ _ _ (by simp)) ?_) _
   simp[bools]
  ·rw[← HCG.out];exact((Blk.new w _ _).alloc _).alloc _
  ·exact(((Below.refl _ _).alloc (Nat.le_refl _) _).alloc (by simp) _).alloc (by simp;omega) _
  ·have:=ZBA (List.replicate N false) 0 (by rw[List.getElem?_replicate,if_pos h0])
   rw[ZBn] at this
   simp;omega
 case round =>
  obtain⟨l,t,k,rfl,hown,hout,hbox,hsi,hbel,hgk,hcnt,hk⟩:=hrel
  by_cases hlt:k < t.length
  ·obtain⟨x,hx⟩ : ∃ x,t[k]? = some x:=⟨_,List.getElem?_eq_getElem hlt⟩
   have hdr:t.drop k=x :: t.drop (k+1):=by
    rw[List.drop_eq_getElem_cons hlt]
    congr 1
    rw[List.getElem?_eq_getElem hlt] at hx
    injection hx
   obtain⟨hx0,hxN,hxl⟩:=hsi.todo x (by rw[hdr];simp)
   rw[HN.out] at hxN
   obtain⟨xn,rfl⟩:=Int.eq_ofNat_of_zero_le hx0
   rw[Int.toNat_natCast] at hxl
   have hsi1:SI g cut l (t.drop (k+1)) (· = xn):=by
    have:=SI.pop (k:=(xn:Int)) (t:=t.drop (k+1)) hsi (fun y=>by rw[hdr];simp[or_comm])
    rwa [Int.toNat_natCast] at this
   clear hsi hdr
   obtain⟨g6,c6,rfl,hg6,hg6',hc6,hcell⟩:=ZW hown (by omega)
   have hxc:wr.cell? ⟨g6,k,none⟩=some (.int .i64 (xn:Nat)):=by rw[hcell _ (by omega)];simp[ints,hx]
   clear hcell
   have hbc:wr.cell? ⟨w.heap.size,3,none⟩=some (.slice (some ⟨b,o,none⟩) N c):=by rw[hbox.cell 3,← HCG.out];rfl
   have HX:=Hd_ hx;clear hx
   have HGK:=Hd_ hgk;clear hgk
   have HCNT:=Hd_ hcnt;clear hcnt
   have hxN2:xn < N:=by omega
   have htN:t.length≤N:=by have:=HCNT.out;omega
   by_cases hcut:(xn:Int)=cut
   ·have hcb:((xn:Int) == cut)=true:=by simpa using hcut
    have hsi2:=hsi1.cut (k:=xn) (by omega) hcut
    have HC:=Hd_ hcut;clear hcut
    go_wp2
    go_roundg (gk - 1)
    case measure=>have:=HGK.out;omega
    case rel=>exact⟨l,t,k+1,by go_num,hown,hout,hbox,hsi2,hbel,by have:=HGK.out;omega,HCNT.out,by omega⟩
   ·have hcb:((xn:Int) == cut)=false:=by simpa using hcut
    obtain⟨nd,hnd⟩ : ∃ nd,g.nodes[xn]? = some nd:=⟨g.nodes[xn]'(by rw[HN.out];omega),List.getElem?_eq_getElem _⟩
    have hld:∀ j v,nd.cells[j]? = some v→wr.cell? ⟨b,o+xn * 13+j,none⟩=some v:=fun j v h=>ZA hbel _ _ _ (hnode xn nd hnd j v h)
    have d0:wr.cell? ⟨b,o+xn * 13,none⟩=some (.int .u8 nd.kind):=hld 0 _ rfl
    have d1:wr.cell? ⟨b,o+xn * 13+1,none⟩=some (.int .u8 nd.op):=hld 1 _ rfl
    have d2:wr.cell? ⟨b,o+xn * 13+2,none⟩=some (.int .i64 nd.slot):=hld 2 _ rfl
    have d3:wr.cell? ⟨b,o+xn * 13+3,none⟩=some (.int .i64 nd.thing):=hld 3 _ rfl
    have d4:wr.cell? ⟨b,o+xn * 13+4,none⟩=some (.bool nd.a.isSlot):=hld 4 _ rfl
    have d5:wr.cell? ⟨b,o+xn * 13+5,none⟩=some (.int .i64 nd.a.slot):=hld 5 _ rfl
    have d6:wr.cell? ⟨b,o+xn * 13+6,none⟩=some (.int .i64 nd.a.word):=hld 6 _ rfl
    have d7:wr.cell? ⟨b,o+xn * 13+7,none⟩=some (.bool nd.b.isSlot):=hld 7 _ rfl
    have d8:wr.cell? ⟨b,o+xn * 13+8,none⟩=some (.int .i64 nd.b.slot):=hld 8 _ rfl
    have d9:wr.cell? ⟨b,o+xn * 13+9,none⟩=some (.int .i64 nd.b.word):=hld 9 _ rfl
    have d10:wr.cell? ⟨b,o+xn * 13+10,none⟩=some (.int .i64 nd.next):=hld 10 _ rfl
    have d11:wr.cell? ⟨b,o+xn * 13+11,none⟩=some (.int .i64 nd.els):=hld 11 _ rfl
    have d12:wr.cell? ⟨b,o+xn * 13+12,none⟩=some (.int .i64 nd.origin):=hld 12 _ rfl
    clear hld
    have HND:=Hd_ hnd;clear hnd
    have HCUT:=Hd_ hcut;clear hcut
    have hk0:(0:Int)≤k:=by omega
    have hkl:(k:Int) < t.length:=by omega
    have hx1:(0:Int)≤xn:=by omega
    have hx2:(xn:Int) < N:=by omega
    go_wp2_with fail
    go_region_with (go_at_call 35;refine(ZAh nd _).mono ?_;rintro e w1 ⟨fv,rfl,hf,hb1⟩)
    all_goals (
     have hf':=hf
     obtain⟨fA,fc,rfl,-,-,-⟩:=hf'
     have hb2:Below wr.heap.size wr w1:=⟨hb1.os,hb1.tape,hb1.output,hb1.size,hb1.block⟩
     clear hb1
     have hszz:=hb2.size
     have hlo:=hout.lt
     have hf2:Ints (part w1 wr.heap.size w1.heap.size) (.slice fA (fol2 nd).length fc) (fol2 nd):=hf
     have hps:=Pend.start (k:=(xn:Int)) (fs:=fol2 nd) (by omega) (by simpa using hsi1) (by simpa using hxl) HCUT.out (by simpa using HND.out) (fun j=>ZAi nd j)
     rw[Int.toNat_natCast] at hps
     have hwf:∀ y∈fol2 nd,0≤y∧y < N:=fun y hy=>by
      have:=hw.fol nd (List.mem_of_getElem? HND.out) y ((ZAi _ _).1 hy)
      rw[HN.out] at this
      exact this
     have hfl:=ZBt nd
     have HWF:=Hd_ hwf;clear hwf
     have ho1:w1.ownsRow w.heap.size 3 1 (.slice (some ⟨g6,0,none⟩) t.length c6) t.length (ints t):=hown.kept (row:=none) ⟨hb2.os,hb2.tape,hb2.output,hb2.size,fun k hk _=>hb2.block k hk⟩ (by simp[Value.ownBlock])
     have hout1:=hout.below hb2 hout.lt
     have hbox1:=hbox.below hb2 hbox.lt
     have hbel1:=hbel.trans (hb2.mono (by omega))
     clear hf d0 d1 d2 d3 d4 d5 d6 d7 d8 d9 d10 d11 d12 hout hbox hown hsi1 hxl hxc hbc hbel
     obtain⟨fs,hfs⟩ : ∃ fs,fol2 nd=fs:=⟨_,rfl⟩
     rw[hfs] at hf2 HWF hfl hps ⊢
     clear hfs
     obtain⟨wo,rfl⟩ : ∃ wo:World,wo=wr:=⟨_,rfl⟩
     obtain⟨go,rfl⟩ : ∃ go:Nat,go=gk:=⟨_,rfl⟩
     go_wp2_with fail
     go_loopg [6,9] (fs.length) (fun k2 v6 v9 wr2=>WRel2 g N cut CG w xn nd fs k wo.heap.size w1.heap.size (.slice fA fs.length fc) k2 v6 v9 wr2)
     case atStart=>exact⟨l,t,0,rfl,by omega,ho1,hout1,hbox1,hps,hbel1,HCNT.out,hlt,hf2,fun x hx=>by simp[Value.ownBlock] at hx;omega,Nat.le_refl _⟩
     case round =>
      obtain⟨l2,t2,j,rfl,hjk,hown2,hout2,hbox2,hp,hbel2,hm,hkt,hfi,hsep,hhi⟩:=hrel
      clear ho1 hout1 hbox1 hps hbel1 hf2
      have HJ:=Hd_ hjk;clear hjk
      have HM:=Hd_ hm;clear hm
      have htN2:t2.length≤N:=by have:=HM.out;omega
      by_cases hjl:j < fs.length
      ·obtain⟨y,hy⟩ : ∃ y,fs[j]? = some y:=⟨_,List.getElem?_eq_getElem hjl⟩
       have hyb:=HWF.out y (List.mem_of_getElem? hy)
       obtain⟨yn,rfl⟩:=Int.eq_ofNat_of_zero_le hyb.1
       obtain⟨bf,of,rfl,hfc1⟩:=hfi.at_ hy
       obtain⟨hfc2,hbf1,hbf2⟩:=Zl hfc1
       rw[Nat.mul_one] at hfc2
       clear hfc1
       have hyN:yn < N:=by omega
       have hlx:yn < l2.length:=by rw[hp.1.len,HN.out];exact hyN
       have hoc:=hout2.cell yn
       have HY:=Hd_ hy;clear hy
       obtain⟨bv,hbv⟩ : ∃ v,l2[yn]? = some v:=⟨_,List.getElem?_eq_getElem hlx⟩
       have hoc2:wr.cell? ⟨w.heap.size+1,yn,none⟩=some (.bool bv):=by rw[hoc];simp[bools,hbv]
       clear hoc
       have HBV:=Hd_ hbv;clear hbv
       cases bv with
       | true =>
        go_wp2_with fail
        go_roundg (gk - 1)
        case measure=>have:=HJ.out;omega
        case rel=>exact⟨l2,t2,j+1,by go_num,by have:=HJ.out;omega,hown2,hout2,hbox2,hp.seen HY.out (by simpa using HBV.out),hbel2,HM.out,hkt,hfi,hsep,hhi⟩
       | false =>
        have hfz:=hout2.frozen yn
        have hne:=ZQ hown2 hout2 (by decide)
        have hown3:=(ownsRow_setCell_other (a:=⟨w.heap.size+1,yn,none⟩) hown2 (fun e=>hne e.symm) (.bool true)).alloc (.cells #[.int .i64 (yn:Nat)] 3)
        have hbt:(bools l2).set yn (.bool true)=bools (l2.set yn true):=by simp[bools,List.map_set]
        have hout3:=(hout2.set_ yn (.bool true)).alloc (.cells #[.int .i64 (yn:Nat)] 3)
        rw[hbt] at hout3
        have HOUT:=Hd_ hout3;clear hout3 hbt
        have hbox3:=(hbox2.far (p:=⟨w.heap.size+1,yn,none⟩) (by simp) (.bool true)).alloc (.cells #[.int .i64 (yn:Nat)] 3)
        have hbfn:bf≠w.heap.size+1:=by omega
        have hfc3:(wr.setCell ⟨w.heap.size+1,yn,none⟩ (.bool true)).cell? ⟨bf,of+j,none⟩=some (.int .i64 (yn:Nat)):=by
         rw[World.cell?_setCell_other _ _ _ _ (fun e=>hbfn (by injection e with e;exact e.symm))];exact hfc2
        go_wp2_with (refine ZN rfl ?_)
        refine Stop.intro ?_
        refine Zg Z2 rfl _ _ rfl w.heap.size u6 t2.length (ints t2) rfl hown3 wr.heap.size 0 1 [.int .i64 (yn:Nat)] rfl rfl (Za _ _ _ _ (by simp)) (by simp[Value.oneCell']) (by omega) (by decide) (by simp;omega) ?_
        intro v' w' hown4 hgr hob
        have hw':=hgr.size
        go_wp2_with fail
        go_roundg (gk - 1)
        case measure=>have:=HJ.out;omega
        case rel =>
         have hls:=ZBA l2 yn HBV.out
         have hcm:=HM.out
         refine⟨l2.set yn true,t2 ++ [(yn:Int)],j+1,by go_num,by have:=HJ.out;omega,by simpa [ints] using hown4,HOUT.out.grown hgr (ZQ hown2 hout2 (by decide)),hbox3.grown hgr (ZQ hown2 hbox2 (by decide)),?_,?_,?_,?_,?_,?_,?_⟩
         ·have:=hp.fresh hw HY.out ((t2 ++ [(yn:Int)]).drop (k+1)) (fun x=>by rw[List.drop_append_of_le_length (by omega)];simp)
          simpa using this
         ·exact((hbel2.setCell (by simp) _).alloc (by simp;omega) _).grown hgr (by simp;omega) (fun k hk=>Z5 hown2 k hk)
         ·simp;omega
         ·simp;omega
         ·refine hfi.mono (Zc fun b hb1 hb2=>?_)
          rw[hgr.block b (by simp;omega) ?_,Below.heap_alloc _ _ _ (by simp;omega),Below.heap_setCell _ _ _ _ (by simp;omega)]
          intro e
          have:=hsep b e.symm
          omega
         ·intro x hx
          rcases hob with e | e
          ·exact hsep x (by rw[← e];exact hx)
          ·rw[e] at hx;injection hx with hx;subst hx;simp;omega
         ·simp at hw';omega
      ·have hdone:=hp.done (by omega)
       go_wp2_with fail
       go_roundg (go - 1)
       case measure=>have:=HGK.out;omega
       case rel=>exact⟨l2,t2,k+1,by go_num,hown2,hout2,hbox2,hdone,hbel2,by have:=HGK.out;omega,HM.out,by omega⟩)
  ·have hdn:t.drop k=[]:=List.drop_eq_nil_of_le (by omega)
   rw[hdn] at hsi
   have hend:=hsi.done hw
   have hlen:l.length=N:=by rw[hsi.len,HN.out]
   have HL:=Hd_ hlen;clear hlen hdn hgk hcnt
   obtain⟨A6,c6,rfl,-⟩:=ZE hown
   go_wp2_with fail
   go_ret
   refine⟨.slice (some ⟨w.heap.size+1,0,none⟩) N N,l,rfl,?_,HL.out,hend,hbel⟩
   exact ZA1 (fun _ _ _ _ h=>h) hout (by omega) (Nat.le_refl _) HL.out.symm (by omega)
set_option maxHeartbeats 400000 in
theorem ZD2 (v1 v2:Value) (l1 l2:List Int) (w:World) (h1:Ints (cmap w) v1 l1) (h2:Ints (cmap w) v2 l2) :
  Calls Tryd.prog 44 #[v1,v2] w fun e w'=>e=.returned (.bool (decide (l1=l2)))∧∃ n,w'=w.drewN n:=by
 have h1':=h1
 have h2':=h2
 obtain⟨A1,c1,rfl,-,-,-⟩:=h1'
 obtain⟨A2,c2,rfl,-,-,-⟩:=h2'
 have b1:=h1.len.2.2
 have b2:=h2.len.2.2
 by_cases hl:l1.length=l2.length
 ·have hb:((l1.length:Int) != (l2.length:Int))=false:=by simp[hl]
  have HL:=Hd_ hl;clear hl
  go_enter Tryd.func44,Tryd.ntmps44
  go_wp2
  go_loopw [5] (fun v wr=>∃ (k n:Nat),v=.int .i64 k∧k≤l1.length∧wr=w.drewN n∧l1.take k=l2.take k) (fun v _=>l1.length - (intOf v).toNat)
  case atStart=>exact⟨0,0,rfl,by omega,rfl,rfl⟩
  case round =>
   obtain⟨k,n,rfl,hk,rfl,ht⟩:=hrel
   have HT:=Hd_ ht;clear ht
   by_cases hlt:k < l1.length
   ·have hlt2:k < l2.length:=by rw[← HL.out];exact hlt
    obtain⟨x1,hx1⟩ : ∃ x,l1[k]? = some x:=⟨_,List.getElem?_eq_getElem hlt⟩
    obtain⟨x2,hx2⟩ : ∃ x,l2[k]? = some x:=⟨_,List.getElem?_eq_getElem hlt2⟩
    obtain⟨bb1,o1,rfl,g1⟩:=h1.at_ hx1
    obtain⟨bb2,o2,rfl,g2⟩:=h2.at_ hx2
    rw[Nat.mul_one] at g1 g2
    have g1':w.cell? ⟨bb1,o1+k,none⟩=some (.int .i64 x1):=g1
    have g2':w.cell? ⟨bb2,o2+k,none⟩=some (.int .i64 x2):=g2
    have hk0:(0:Int)≤k:=by omega
    have hki:(k:Int) < l1.length:=by omega
    have hki2:(k:Int) < l2.length:=by omega
    clear g1 g2
    have HX1:=Hd_ hx1;clear hx1
    have HX2:=Hd_ hx2;clear hx2
    by_cases he:x1=x2
    ·have hne:(x1 != x2)=false:=by simp[he]
     have HE:=Hd_ he;clear he
     go_wp2
     go_quiet (fail)
     go_wp2
     go_roundw
     case rel=>exact⟨k+1,_,by go_num,by omega,rfl,by rw[List.take_succ_eq_append_getElem hlt,List.take_succ_eq_append_getElem hlt2,HT.out,(List.getElem?_eq_some_iff.1 HX1.out).2,(List.getElem?_eq_some_iff.1 HX2.out).2,HE.out]⟩
     case measure=>simp[intOf];omega
    ·have hne:(x1 != x2)=true:=by simp[he]
     have hd:l1≠l2:=fun h=>he (by have:=HX1.out;rw[h,HX2.out] at this;injection this with this;exact this.symm)
     have HD:Hid (decide (l1=l2)=false):=decide_eq_false hd
     clear hd
     have HE:=Hd_ he;clear he
     go_wp2
     go_quiet (fail)
     go_wp2
     go_ret
     exact⟨by rw[HD.out];rfl,_,World.drewN_drewN _ _ _⟩
   ·have hd:l1=l2:=by
     have:=HT.out
     rwa [List.take_of_length_le (by omega),List.take_of_length_le (by rw[← HL.out];omega)] at this
    have HD:Hid (decide (l1=l2)=true):=decide_eq_true hd
    clear hd
    go_wp2
    go_ret
    exact⟨by rw[HD.out];rfl,_,rfl⟩
 ·have hb:((l1.length:Int) != (l2.length:Int))=true:=by simp;omega
  have hd:l1≠l2:=fun h=>hl (by rw[h])
  have HD:Hid (decide (l1=l2)=false):=decide_eq_false hd
  clear hd
  go_enter Tryd.func44,Tryd.ntmps44
  go_wp2
  go_ret
  exact⟨by rw[HD.out];rfl,0,rfl⟩
structure HMem2 (gt it:TypeId) (cg:List Value) (w:World) (n:Nat) (s:HS) (S:Nat→Prop) (cs:List Value) (v6:Value) (wr:World) : Prop where
 own:wr.ownsRow w.heap.size 3 1 v6 s.todo.length (ints (nats s.todo))
 box:Blk wr w.heap.size gt cg
 lk:Blk wr (w.heap.size+1) it cs
 len:cs.length=n
 lists:∀ (i:Nat) (v:Value),cs[i]? = some v→∃ l,s.locks[i]? = some l∧Ints (on wr S) v l
 sep:∀ b,S b→w.heap.size+2 < b∧b < wr.heap.size∧some b≠v6.ownBlock
 fd:Blk wr (w.heap.size+1+1) 4 (bools s.found)
 below:Below w.heap.size w wr
section
variable {gt it:TypeId} {cg:List Value} {w:World} {n:Nat} {s:HS} {S:Nat→Prop} {cs:List Value} {v6:Value} {wr wx:World}
theorem HMem2.on_le (h:HMem2 gt it cg w n s S cs v6 wr) (hb:Below wr.heap.size wr wx) : (on wr S).le (on wx S) :=
 Zf (fun b hS _=>hb.block b (h.sep b hS).2.1) (fun _ h=>h)
theorem HMem2.keep (h:HMem2 gt it cg w n s S cs v6 wr) (hb:Below wr.heap.size wr wx) : HMem2 gt it cg w n s S cs v6 wx where
 own:=h.own.kept (row:=none) ⟨hb.os,hb.tape,hb.output,hb.size,fun k hk _=>hb.block k hk⟩ (by
  cases hv:v6.ownBlock with
  | none=>exact .inl rfl
  | some x=>exact .inr (by simp))
 box:=h.box.below hb h.box.lt
 lk:=h.lk.below hb h.lk.lt
 len:=h.len
 lists:=fun i v hv=>by obtain⟨l,h1,h2⟩:=h.lists i v hv;exact⟨l,h1,h2.mono (h.on_le hb)⟩
 sep:=fun b hS=>⟨(h.sep b hS).1,Nat.lt_of_lt_of_le (h.sep b hS).2.1 hb.size,(h.sep b hS).2.2⟩
 fd:=h.fd.below hb h.fd.lt
 below:=h.below.trans (hb.mono h.below.size)
theorem HMem2.more (h:HMem2 gt it cg w n s S cs v6 wr) {S':Nat→Prop} (hS:∀ b,S b→S' b) (hs:∀ b,S' b→w.heap.size+2 < b∧b < wr.heap.size∧some b≠v6.ownBlock) : HMem2 gt it cg w n s S' cs v6 wr :=
 { h with
  lists:=fun i v hv=>by
   obtain⟨l,h1,h2⟩:=h.lists i v hv
   exact⟨l,h1,h2.mono (Zf (fun _ _ _=>rfl) hS)⟩
  sep:=hs }
theorem HMem2.push (h:HMem2 gt it cg w n s S cs v6 wr) (hit : 3≠it) (hgt : 3≠gt) (hbt : 3≠4) {d:Nat} (hd:d < n) (hlk:s.locks.length=n) {now:List Int} {w5:World} {v v':Value} {o:Obj}
  (hv:Ints (on wr S) v now)
  (h5:w5.ownsRow w.heap.size 3 1 v' (s.todo.length+1) (ints (nats s.todo) ++ [.int .i64 (d:Int)])) (g5:(((wr.setCell ⟨w.heap.size+1+1,d,none⟩ (.bool true)).setCell ⟨w.heap.size+1,d,none⟩ v).alloc o).grownBy w5 v6.ownBlock)
  (ob:v'.ownBlock=v6.ownBlock∨v'.ownBlock=some (((wr.setCell ⟨w.heap.size+1+1,d,none⟩ (.bool true)).setCell ⟨w.heap.size+1,d,none⟩ v).alloc o).heap.size) :
  HMem2 gt it cg w n ⟨s.locks.set d now,s.found.set d true,s.todo ++ [d]⟩ S (cs.set d v) v' w5∧(on wr S).le (on w5 S):=by
 have s5:=g5.size
 have sz4:(((wr.setCell ⟨w.heap.size+1+1,d,none⟩ (.bool true)).setCell ⟨w.heap.size+1,d,none⟩ v).alloc o).heap.size=wr.heap.size+1:=by simp
 rw[sz4] at s5 ob
 have hbx:=h.box.lt
 have hlb:=h.lk.lt
 have hmb:=h.fd.lt
 have chain:∀ b,b < wr.heap.size→b≠w.heap.size+1→b≠w.heap.size+1+1→some b≠v6.ownBlock→w5.heap[b]? = wr.heap[b]?:=by
  intro b hb h1 h2 h3
  rw[g5.block b (by omega) h3,Below.heap_alloc _ _ _ (by simp;omega),Below.heap_setCell _ _ _ _ h1,Below.heap_setCell _ _ _ _ h2]
 have h6:∀ b,v6.ownBlock=some b→w.heap.size≤b∧b < wr.heap.size:=fun b hb=>h.own.lt b hb
 have hle:(on wr S).le (on w5 S) :=
  Zf (fun b hS hb=>chain b hb (by have:=h.sep b hS;omega) (by have:=h.sep b hS;omega) (h.sep b hS).2.2) (fun b hS=>hS)
 refine⟨{ own:=?_,box:=?_,lk:=?_,len:=by simpa using h.len,lists:=?_,sep:=?_,fd:=?_,below:=?_ },hle⟩
 ·simpa [nats,ints] using h5
 ·unfold Blk
  rw[chain _ hbx (by omega) (by omega) (ZQ h.own h.box hgt)]
  exact h.box
 ·exact(((h.lk.far (p:=⟨w.heap.size+1+1,d,none⟩) (by simp) _).set_ d v).alloc o).grown g5 (ZQ h.own h.lk hit)
 ·intro i u hu
  rw[List.getElem?_set] at hu
  split at hu
  ·rename_i e
   subst e
   rw[h.len,if_pos hd] at hu
   injection hu with hu
   subst hu
   exact⟨now,by rw[List.getElem?_set,if_pos rfl,hlk,if_pos hd],hv.mono hle⟩
  ·rename_i e
   obtain⟨l,h3,h4⟩:=h.lists i u hu
   exact⟨l,by rw[List.getElem?_set,if_neg e];exact h3,h4.mono hle⟩
 ·intro b hb
  have:=h.sep b hb
  refine⟨this.1,by omega,?_⟩
  rcases ob with e | e
  ·rw[e];exact this.2.2
  ·rw[e];intro e2;injection e2 with e2;omega
 ·have k1:=(((h.fd.set_ d (.bool true)).far (p:=⟨w.heap.size+1,d,none⟩) (by simp) v).alloc o).grown g5 (ZQ h.own h.fd hbt)
  have:(bools s.found).set d (.bool true)=bools (s.found.set d true):=by simp[bools,List.map_set]
  rwa [this] at k1
 ·exact(((h.below.setCell (by simp;omega) _).setCell (by simp) v).alloc (by simp;omega) o).grown g5 (by simp;omega) (fun k hk=>(h6 k hk).1)
end
end Go.Proofs.YtffgnjgphkdodaaDoor
