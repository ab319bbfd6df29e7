import Derived.Test.YtffgnjgphkdodaaGreatDoorV42
import Derived.Test.YtffgnjgphkdodaaGreatDoorV20
import Derived.Test.YtffgnjgphkdodaaGreatDoorV5
import Derived.Test.YtffgnjgphkdodaaGreatDoorV4
import Derived.Deep.CutRange
namespace Go.Proofs.YtffgnjgphkdodaaGreatDoor
open Go Go.RowKit
theorem ZIS {g:Graph} {R:List Int} {nd:Int} {i:Nat} {p:Bool} {n:Node} (hw:WholeG g) (hn:g.nodes[i]? = some n) (hd:drB n=false) (k:Nat) : spE g R nd (num i p) k ↔ (k:Int)∈goesL R nd p (fol2 n):=by
 rw[ZBB]
 constructor
 ·intro h
  obtain⟨j,n',rfl,hn',_,hj,hR⟩:=ZBa h
  rw[hn] at hn';injection hn' with e;subst e
  exact⟨j,(Zm n _).2 hj,hR,by unfold nxt;rw[Int.toNat_natCast]⟩
 ·rintro⟨y,h1,h2,h3⟩
  have hy:=(Zm n y).1 h1
  obtain⟨j,rfl⟩:=Int.eq_ofNat_of_zero_le (hw.fol n (List.mem_of_getElem? hn) y hy).1
  unfold nxt at h3
  rw[Int.toNat_natCast] at h3
  have h4:k=num j (p || decide ((j:Int)=nd)):=by omega
  rw[h4]
  exact ZH1 hn hd hy h2
theorem ZJ6 {g:Graph} {R:List Int} {nd:Int} {i:Nat} {p:Bool} {n:Node} (hn:g.nodes[i]? = some n) (hd:drB n=true) (k:Nat) : ¬ spE g R nd (num i p) k:=fun h=>by
 obtain⟨j,n',rfl,hn',h2,_⟩:=ZBa h
 rw[hn] at hn';injection hn' with e;subst e
 rw[hd] at h2;cases h2
theorem ZH0 {u:Unit_} {g:Graph} {i:Nat} {p:Bool} {n:Node} (hn:g.nodes[i]? = some n) : spT u g (num i p) ↔ p=true∧ldB u n=true:=by
 constructor
 ·rintro⟨j,n',h1,h2,h3⟩
  obtain⟨rfl,rfl⟩:=ZAI h1
  rw[hn] at h2;injection h2 with e;subst e
  exact⟨rfl,h3⟩
 ·rintro⟨rfl,h⟩
  exact⟨i,n,rfl,hn,h⟩
theorem ZJN {u:Unit_} {n:Node} (h:drB n=true) : ldB u n=false:=by
 unfold drB at h
 unfold ldB
 have h:=of_decide_eq_true h
 exact decide_eq_false (fun q=>by omega)
structure RdK (w:World) (G:List Value) (out:List Int) (wr:World) : Prop where
 gb:Blk wr w.heap.size 69 G
 ob:Blk wr (w.heap.size+1) 3 (ints out)
 below:Below w.heap.size w wr
section
variable {w wr w':World} {G:List Value} {out:List Int}
theorem RdK.bel (h:RdK w G out wr) (hb:Below wr.heap.size wr w') : RdK w G out w':=⟨h.gb.below hb h.gb.lt,h.ob.below hb h.ob.lt,h.below.trans (hb.mono h.below.size)⟩
theorem RdK.put (h:RdK w G out wr) (k:Nat) (x:Int) : RdK w G (out.set k x) (wr.setCell ⟨w.heap.size+1,k,none⟩ (.int .i64 x)) :=
 ⟨h.gb.far (p:=⟨w.heap.size+1,k,none⟩) (by show w.heap.size≠w.heap.size+1;omega) _,by
  have:=h.ob.set_ k (.int .i64 x)
  rwa [show(ints out).set k (.int .i64 x)=ints (out.set k x) by simp[ints,List.map_set]] at this,
  h.below.setCell (p:=⟨w.heap.size+1,k,none⟩) (by show w.heap.size≤w.heap.size+1;omega) _⟩
theorem RdK.at_ (h:RdK w G out wr) {k:Nat} {x:Int} (hx:out[k]? = some x) : wr.cell? ⟨w.heap.size+1,k,none⟩=some (.int .i64 x):=by rw[h.ob.cell];simp only[ints,List.getElem?_map,hx];rfl
end
set_option maxRecDepth 100000 in
set_option maxHeartbeats 4000000 in
theorem ZF0 (u:Unit_) (g:Graph) (cs:List Value) (cv v:Value) (R:List Int) (nd:Int) (w:World) (hw:WholeG g) (hg:GraphV (cmap w) cs g) (hcl:Clss (cmap w) cv ((List.range u.shared.length).map fun x:Nat=>classF u (x:Int))) (hth:∀ n∈g.nodes,n.kind=2→0≤n.thing∧n.thing < u.shared.length) (hR:Ints (cmap w) v R) :
  Calls Tryz.prog 92 #[.agg cs.toArray,cv,v,.int .i64 nd] w fun e w'=>e=.returned (.slice (some ⟨w.heap.size+1,0,none⟩) (2 * g.nodes.length) (2 * g.nodes.length))∧Blk w' (w.heap.size+1) 3 (ints (spD u g R nd))∧Below w.heap.size w w':=by
 have hmost:=hw.most
 have hpos:=hw.pos
 have HW:=Hd_ hw
 have HPL:Hid (∀ (k:Nat) (wx:World),k < 2 * g.nodes.length→Calls Tryz.prog 94 #[.int .i64 (k:Nat)] wx fun e w'=>e=.returned (.agg #[.int .i64 ((k / 2:Nat) : Int),.bool (decide (k % 2=1))])∧Below wx.heap.size wx w'):=Hd_ fun k wx hk=>ZC8 k wx (by omega)
 have HGO:Hid (∀ (i:Nat) (p:Bool) (n:Node) (w1:World),Below w.heap.size w w1→g.nodes[i]? = some n→Calls Tryz.prog 137 #[.agg cs.toArray,v,.int .i64 nd,.agg #[.int .i64 (i:Nat),.bool p]] w1 fun e w'=>∃ v',e=.returned v'∧w'.ownsRow w1.heap.size 3 1 v' (goesL R nd p (fol2 n)).length (ints (goesL R nd p (fol2 n)))∧Below w1.heap.size w1 w'):=Hd_ fun i p n w1 h hn=>by
  cases p with
  | true=>exact ZCY g cs v R nd i n w1 hw (hg.mono (ZA h)) (hR.mono (ZA h)) hn
  | false=>exact ZCZ g cs v R nd i n w1 hw (hg.mono (ZA h)) (hR.mono (ZA h)) hn
 have HLD:Hid (∀ (i:Nat) (n:Node) (w1:World),Below w.heap.size w w1→g.nodes[i]? = some n→Calls Tryz.prog 55 #[cv,.agg n.cells.toArray] w1 fun e w'=>e=.returned (.bool (ldB u n))∧Below w1.heap.size w1 w'):=Hd_ fun i n w1 h hn=>ZC9 u n cv w1 (hcl.mono (ZA h)) (hth n (List.mem_of_getElem? hn))
 have HDR:Hid (∀ (n:Node) (w1:World),Calls Tryz.prog 32 #[.agg n.cells.toArray] w1 fun e w'=>e=.returned (.bool (drB n))∧Below w1.heap.size w1 w'):=Hd_ fun n w1=>ZCS n w1
 obtain⟨cA,cc,rfl,-⟩:=id hcl
 have hcn:((List.range u.shared.length).map fun x:Nat=>classF u (x:Int)).length=u.shared.length:=by simp
 obtain⟨S,hS⟩ : ∃ S,u.shared.length=S:=⟨_,rfl⟩
 rw[hS] at hcn
 rw[hS,hcn] at HLD
 rw[hS,hcn]
 rw[hS] at hcl
 clear hcn
 obtain⟨rA,rc,rfl,-⟩:=id hR
 obtain⟨nv,rfl,hnv⟩:=id hg
 obtain⟨nA,nc,rfl,-⟩:=id hnv
 obtain⟨nb,no,e,-⟩:=hnv.at_ (i:=0) (x:=g.nodes[0]'hpos) (List.getElem?_eq_getElem _)
 subst e
 have HNC:Hid (∀ (i:Nat) (n:Node),g.nodes[i]? = some n→∀ (j:Nat) (x:Value),n.cells[j]? = some x→cmap w nb (no+i * 13+j)=some x):=Hd_ fun i n hn=>by
  obtain⟨nb',no',e,h⟩:=hnv.at_ hn
  injection e with e
  injection e with e1 e2
  subst e1 e2
  exact h
 obtain⟨N,HN⟩ : ∃ N,Hid (g.nodes.length=N):=⟨_,rfl⟩
 obtain⟨G,hG⟩ : ∃ G:List Value,[.string g.name,.int .i64 g.locals,.int .i64 g.slots,.slice (some ⟨nb,no,none⟩) g.nodes.length nc]=G:=⟨_,rfl⟩
 have hbx:=Blk.new w 69 [.string g.name,.int .i64 g.locals,.int .i64 g.slots,.slice (some ⟨nb,no,none⟩) g.nodes.length nc]
 have hb0:=ZC w (.cells #[.string g.name,.int .i64 g.locals,.int .i64 g.slots,.slice (some ⟨nb,no,none⟩) g.nodes.length nc] 69)
 have HBX:=Hd_ (And.intro hbx hb0)
 have HGG:=Hd_ hG
 have HST:Hid (RdK w G (List.replicate (2 * g.nodes.length) 0) ((w.alloc (.cells #[.string g.name,.int .i64 g.locals,.int .i64 g.slots,.slice (some ⟨nb,no,none⟩) g.nodes.length nc] 69)).alloc (.cells (Array.replicate (2 * g.nodes.length) (.int .i64 0)) 3))):=Hd_ ⟨by rw[← hG];exact hbx.alloc _,Blk.of (by rw[show w.heap.size+1=(w.alloc (.cells #[.string g.name,.int .i64 g.locals,.int .i64 g.slots,.slice (some ⟨nb,no,none⟩) g.nodes.length nc] 69)).heap.size by simp];exact ZN _ _ _ rfl) (by simp[ints]),hb0.alloc (by simp) _⟩
 rw[HN.out] at hmost hpos HPL HST HBX HGG HGO ⊢
 clear hbx hb0 hG hw hg hcl hR hnv
 obtain⟨N2,hN2⟩ : ∃ N2,2 * N=N2:=⟨_,rfl⟩
 have m2:(2:Int) * (N:Int)=(N2:Int):=by omega
 have n8:(N2:Int)≤8192:=by omega
 have HN2:=Hd_ hN2
 rw[hN2] at HPL HST ⊢
 go_enter Tryz.func92,Tryz.ntmps92
 go_wp2_with (refine Zw ZY rfl rfl (.tmp 23) (.tmp 23) rfl N2 rfl rfl (by omega) (by omega) ?_)
 go_loopw [11] (fun v11 wr=>∃ (z:Nat) (out:List Int),v11=.int .i64 z∧z≤N2∧Hid (RdK w G out wr)∧out.length=N2∧Hid (∀ (i:Nat) (x:Int),out[i]? = some x→i < z→(x=0∧spT u g i)∨(x = -1∧¬ spT u g i))) (fun v11 _=>N2 - (intOf v11).toNat)
 case atStart=>exact⟨0,List.replicate N2 0,rfl,Nat.zero_le _,HST,by simp,Hd_ (fun i x _ h=>by omega)⟩
 case round =>
  obtain⟨z,out,rfl,hz,HK,hol,HO⟩:=hrel
  by_cases hlt:z < N2
  ·obtain⟨i,hi⟩ : ∃ i,z / 2=i:=⟨_,rfl⟩
   obtain⟨p,hp⟩ : ∃ p,decide (z % 2=1)=p:=⟨_,rfl⟩
   have hnum:num i p=z:=by rw[← hi,← hp];exact ZDI z
   have hn2:=HN2.out
   have hiN:i < N:=by omega
   obtain⟨n,hn⟩ : ∃ n,g.nodes[i]? = some n:=⟨g.nodes[i]'(by rw[HN.out];exact hiN),List.getElem?_eq_getElem _⟩
   have hP1:=fun wx=>HPL.out z wx hlt
   rw[hi,hp] at hP1
   have HP:=Hd_ hP1
   have HNM:=Hd_ (And.intro hnum hn)
   have z0:(0:Int)≤z:=by omega
   have zN:(z:Int) < N2:=by omega
   have i0:(0:Int)≤i:=by omega
   have iN:(i:Int) < N:=by omega
   have i4:(i:Int)≤4096:=by omega
   clear hnum hn hP1 hi hp
   obtain⟨x0,hx0⟩ : ∃ x,out[z]? = some x:=⟨_,List.getElem?_eq_getElem (by omega)⟩
   have oc:=HK.out.at_ hx0
   have ofr:=HK.out.ob.frozen z
   have HK1:=Hd_ (HK.out.put z (-1))
   have HOZ:Hid (∀ (y:Int),((y=0∧spT u g z)∨(y = -1∧¬ spT u g z))→∀ (i:Nat) (x:Int),(out.set z y)[i]? = some x→i < z+1→(x=0∧spT u g i)∨(x = -1∧¬ spT u g i)):=Hd_ fun y hy i x hi hiz=>by
    rw[List.getElem?_set] at hi
    by_cases e:z=i
    ·rw[if_pos e] at hi
     split at hi
     ·injection hi with hi;rw[← hi,← e];exact hy
     ·cases hi
    ·rw[if_neg e] at hi
     exact HO.out i x hi (by omega)
   have hol2:(out.set z (-1)).length=N2:=by simpa using hol
   clear hx0
   go_wp2_with (first
    | (go_at_call 94
       refine(HP.out _).mono ?_
       rintro e w3 ⟨rfl,hb3⟩
       have HK3:=Hd_ (HK1.out.bel hb3)
       clear hb3)
    | (refine ZI 157 rfl ?_))
   refine Stop.intro ?_
   refine wpList_store_row rfl 157 _ _ rfl w3.heap.size #[.int .i64 (i:Nat),.bool p] rfl rfl 157 _ (heap_alloc_new _ _) (by kernel_rfl) rfl (by simp[Value.oneCell']) ?_
   rw[World.setRow_alloc_new]
   have HK4:=Hd_ (HK3.out.bel (ZC w3 (.cells #[.int .i64 (i:Nat),.bool p] 157)))
   have hsp:=Blk.new w3 157 [.int .i64 (i:Nat),.bool p]
   obtain⟨SB,hSB⟩ : ∃ SB,w3.heap.size=SB:=⟨_,rfl⟩
   obtain⟨w4,hw4⟩ : ∃ w4,w3.alloc (.cells #[.int .i64 (i:Nat),.bool p] 157)=w4:=⟨_,rfl⟩
   rw[hw4] at HK4 hsp ⊢
   rw[hSB] at hsp ⊢
   clear hw4
   have b0:w4.cell? ⟨SB,0,none⟩=some (.int .i64 (i:Nat)):=hsp.cell 0
   have b1:w4.cell? ⟨SB,1,none⟩=some (.bool p):=hsp.cell 1
   have HSP:=Hd_ hsp
   clear hsp
   have HLC:=Hd_ (HLD.out i n w4 HK4.out.below HNM.out.2)
   have g3:w4.cell? ⟨w.heap.size,3,none⟩=some (.slice (some ⟨nb,no,none⟩) N nc):=by rw[HK4.out.gb.cell,← HGG.out];rfl
   obtain⟨p0,p1,p2,p3,p4,p5,p6,p7,p8,p9,p10,p11,p12⟩:=ZBW (n:=n) (w:=w4) (b:=nb) (o:=no+i * 13) fun j x hj=>ZA HK4.out.below _ _ _ (HNC.out i n HNM.out.2 j x hj)
   unfold Node.cells at HLC
   obtain⟨lb,hlb⟩ : ∃ lb,(p && ldB u n)=lb:=⟨_,rfl⟩
   have HLB:=Hd_ hlb
   clear hlb
   go_upto_region 8 with(fail)
   simp only[put_none]
   go_cut [46] from 25 to 49 (fun v46 wx=>v46=.bool lb∧Below w4.heap.size w4 wx)
   case first =>
    cases p with
    | false =>
     have hs:lb=false:=by rw[← HLB.out];rfl
     subst hs
     go_wp2
     go_meet
     exact⟨rfl,Below.refl _ _⟩
    | true =>
     have hs:ldB u n=lb:=HLB.out
     rw[hs] at HLC
     clear hs
     go_wp2_with (first
      | (go_at_call 55
         refine(HLC.out).mono ?_
         rintro e w5 ⟨rfl,hb5⟩
         have HB5:=Hd_ hb5
         clear hb5))
     go_meet
     exact⟨rfl,HB5.out⟩
   case rest =>
    obtain⟨rfl,hb5⟩:=hcut
    have HK5:=Hd_ (HK4.out.bel hb5)
    have oc:∃ x,wc.cell? ⟨w.heap.size+1,z,none⟩=some x:=⟨_,HK5.out.at_ (x:=-1) (by rw[List.getElem?_set,if_pos rfl,if_pos (by omega)])⟩
    obtain⟨xo,oc⟩:=oc
    have ofr:=HK5.out.ob.frozen z
    have HEQ:=Hd_ (ZH0 (u:=u) (p:=p) HNM.out.2)
    clear hb5 b0 b1 g3 p0 p1 p2 p3 p4 p5 p6 p7 p8 p9 p10 p11 p12 HLC HK4 HK1 HK HSP
    obtain⟨w5,rfl⟩ : ∃ w5:World,w5=wc:=⟨_,rfl⟩
    cases lb with
    | false =>
     have HOE:=Hd_ (HOZ.out (-1) (.inr ⟨rfl,fun h=>by
      rw[← HNM.out.1] at h
      have h1:=HEQ.out.1 h
      have h2:=HLB.out
      rw[h1.1,h1.2] at h2
      cases h2⟩))
     go_wp2
     go_roundw
     case rel =>
      first
       | exact⟨z+1,_,by go_num,by omega,HK5,hol2,HOE⟩
       | ((repeat apply Exists.intro);exact⟨⟨z+1,_,by go_num,by omega,HK5,hol2,HOE⟩,rfl⟩)
     case measure=>simp[intOf];omega
    | true =>
     have HOE:=Hd_ (HOZ.out 0 (.inl ⟨rfl,by
      rw[← HNM.out.1]
      exact HEQ.out.2 (by simpa using HLB.out)⟩))
     have hk6:=HK5.out.put z 0
     rw[List.set_set] at hk6
     have HK6:=Hd_ hk6
     have hol3:(out.set z 0).length=N2:=by simpa using hol
     clear hk6
     go_wp2
     go_roundw
     case rel =>
      first
       | exact⟨z+1,_,by go_num,by omega,HK6,hol3,HOE⟩
       | ((repeat apply Exists.intro);exact⟨⟨z+1,_,by go_num,by omega,HK6,hol3,HOE⟩,rfl⟩)
     case measure=>simp[intOf];omega
  ·obtain rfl:N2=z:=by omega
   have HRF:Hid (RFg N2 (spE g R nd) (spT u g) out 0 0):=Hd_ (RFg.start hol fun i x hi=>HO.out i x hi (by have:=(List.getElem?_eq_some_iff.1 hi).1;omega))
   have hdone:∀ l:List Int,FarXL N2 (spE g R nd) (spT u g) l→l=spD u g R nd:=fun l hl=>by
    have h2:=ZAj (u:=u) (g:=g) (R:=R) (nd:=nd)
    rw[HN.out,HN2.out] at h2
    exact hl.inj h2
   have hspl:∀ i d,DW (spE g R nd) (spT u g) i d→i < N2:=fun i d hd=>by
    have:=ZJz hd
    rw[HN.out,HN2.out] at this
    exact this
   have HDN:=Hd_ (And.intro hdone hspl)
   clear hdone hspl hz hlt HO
   go_wp2_with (fail)
   go_loopw [13] (fun v13 wr=>∃ (r:Nat) (out:List Int),v13=.int .i64 r∧r≤N2∧Hid (RdK w G out wr)∧Hid (RFg N2 (spE g R nd) (spT u g) out r 0)) (fun v13 _=>N2 - (intOf v13).toNat)
   case atStart=>exact⟨0,out,rfl,Nat.zero_le _,HK,HRF⟩
   case round =>
    clear HK HRF hol
    obtain⟨r,out,rfl,hr,HK,HRF⟩:=hrel
    by_cases hrl:r < N2
    ·have r0:(0:Int)≤r:=by omega
     have rN:(r:Int) < N2:=by omega
     have HLE:Hid (True→∀ (i:Nat) (x:Int),out[i]? = some x→x≤r):=Hd_ fun _ i x hi=>by
      rcases HRF.out.val i x hi with⟨h1,_⟩ | ⟨d,h1,_,h3⟩
      ·omega
      ·rw[ZA0] at h3;omega
     go_wp2_with (fail)
     obtain⟨wo,rfl⟩ : ∃ wo:World,wo=wr:=⟨_,rfl⟩
     go_loopw [14,15] (fun v14 v15 wr=>∃ (z:Nat) (out:List Int) (b:Bool),v14=.bool b∧v15=.int .i64 z∧z≤N2∧Hid (RdK w G out wr)∧Hid (RFg N2 (spE g R nd) (spT u g) out r z)∧Hid (b=false→∀ (i:Nat) (x:Int),out[i]? = some x→x≤r)) (fun _ v15 _=>N2 - (intOf v15).toNat)
     case atStart=>exact⟨0,out,false,rfl,rfl,Nat.zero_le _,HK,HRF,Hd_ fun _=>HLE.out trivial⟩
     case round =>
      clear HK HRF HLE
      obtain⟨z,out,b,rfl,rfl,hz,HK,HRF,HLE⟩:=hrel
      by_cases hzl:z < N2
      ·obtain⟨i,hi⟩ : ∃ i,z / 2=i:=⟨_,rfl⟩
       obtain⟨p,hp⟩ : ∃ p,decide (z % 2=1)=p:=⟨_,rfl⟩
       have hnum:num i p=z:=by rw[← hi,← hp];exact ZDI z
       have hn2:=HN2.out
       have hiN:i < N:=by omega
       obtain⟨n,hn⟩ : ∃ n,g.nodes[i]? = some n:=⟨g.nodes[i]'(by rw[HN.out];exact hiN),List.getElem?_eq_getElem _⟩
       have hP1:=fun wx=>HPL.out z wx hzl
       rw[hi,hp] at hP1
       have HP:=Hd_ hP1
       have HNM:=Hd_ (And.intro hnum hn)
       have z0:(0:Int)≤z:=by omega
       have zN:(z:Int) < N2:=by omega
       have i0:(0:Int)≤i:=by omega
       have iN:(i:Int) < N:=by omega
       have i4:(i:Int)≤4096:=by omega
       obtain⟨x0,hx0⟩ : ∃ x,out[z]? = some x:=⟨_,List.getElem?_eq_getElem (by rw[HRF.out.len];exact hzl)⟩
       have HX0:=Hd_ hx0
       clear hnum hn hP1 hi hp hx0 hn2 hiN
       go_wp2_with (first
        | (go_at_call 94
           refine(HP.out _).mono ?_
           rintro e w3 ⟨rfl,hb3⟩
           have HK3:=Hd_ (HK.out.bel hb3)
           clear hb3)
        | (refine ZI 157 rfl ?_))
       refine Stop.intro ?_
       refine wpList_store_row rfl 157 _ _ rfl w3.heap.size #[.int .i64 (i:Nat),.bool p] rfl rfl 157 _ (heap_alloc_new _ _) (by kernel_rfl) rfl (by simp[Value.oneCell']) ?_
       rw[World.setRow_alloc_new]
       have HK4:=Hd_ (HK3.out.bel (ZC w3 (.cells #[.int .i64 (i:Nat),.bool p] 157)))
       have hsp:=Blk.new w3 157 [.int .i64 (i:Nat),.bool p]
       obtain⟨SB,hSB⟩ : ∃ SB,w3.heap.size=SB:=⟨_,rfl⟩
       obtain⟨w4,hw4⟩ : ∃ w4,w3.alloc (.cells #[.int .i64 (i:Nat),.bool p] 157)=w4:=⟨_,rfl⟩
       rw[hw4] at HK4 hsp ⊢
       rw[hSB] at hsp ⊢
       clear hw4 HK3 hSB
       have HSP:=Hd_ hsp
       clear hsp
       have b0:w4.cell? ⟨SB,0,none⟩=some (.int .i64 (i:Nat)):=HSP.out.cell 0
       have oc:w4.cell? ⟨w.heap.size+1,z,none⟩=some (.int .i64 x0):=HK4.out.at_ HX0.out
       have g3:w4.cell? ⟨w.heap.size,3,none⟩=some (.slice (some ⟨nb,no,none⟩) N nc):=by rw[HK4.out.gb.cell,← HGG.out];rfl
       obtain⟨p0,p1,p2,p3,p4,p5,p6,p7,p8,p9,p10,p11,p12⟩:=ZBW (n:=n) (w:=w4) (b:=nb) (o:=no+i * 13) fun j x hj=>ZA HK4.out.below _ _ _ (HNC.out i n HNM.out.2 j x hj)
       have HDC:=Hd_ (HDR.out n w4)
       unfold Node.cells at HDC
       obtain⟨sk,hsk⟩ : ∃ sk,(decide (0≤x0) || drB n)=sk:=⟨_,rfl⟩
       have HSK:=Hd_ hsk
       clear hsk
       go_upto_region 18 with(fail)
       simp only[put_none]
       go_cut [75] from 55 to 80 (fun v75 wx=>v75=.bool sk∧Below w4.heap.size w4 wx)
       case first =>
        by_cases hx:0≤x0
        ·have dx:decide (0≤x0)=true:=decide_eq_true hx
         have hs:sk=true:=by rw[← HSK.out,dx];rfl
         subst hs
         clear hx
         go_wp2
         go_meet
         exact⟨rfl,Below.refl _ _⟩
        ·have dx:decide (0≤x0)=false:=decide_eq_false hx
         have hs:drB n=sk:=by rw[← HSK.out,dx];rfl
         rw[hs] at HDC
         clear hx hs
         go_wp2_with (first
          | (go_at_call 32
             refine(HDC.out).mono ?_
             rintro e w5 ⟨rfl,hb5⟩
             have HB5:=Hd_ hb5
             clear hb5))
         go_meet
         exact⟨rfl,HB5.out⟩
       case rest =>
        obtain⟨rfl,hb5⟩:=hcut
        have HK5:=Hd_ (HK4.out.bel hb5)
        have HSP5:=Hd_ (HSP.out.below hb5 HSP.out.lt)
        clear hb5 b0 oc g3 p0 p1 p2 p3 p4 p5 p6 p7 p8 p9 p10 p11 p12 HDC HK4 HSP HK
        obtain⟨w5,rfl⟩ : ∃ w5:World,w5=wc:=⟨_,rfl⟩
        cases sk with
        | true =>
         have HR2:=Hd_ (HRF.out.pass HX0.out (by
          by_cases hx:0≤x0
          ·exact .inl hx
          ·have hd:drB n=true:=by
            have:=HSK.out
            rw[decide_eq_false hx] at this
            simpa using this
           refine .inr ⟨fun j=>?_,fun ht=>?_⟩
           ·rw[← HNM.out.1];exact ZJ6 HNM.out.2 hd j
           ·rw[← HNM.out.1] at ht
            have:=((ZH0 HNM.out.2).1 ht).2
            rw[ZJN hd] at this
            cases this))
         go_wp2_with (fail)
         go_roundw
         case rel =>
          first
           | exact⟨z+1,out,b,rfl,by go_num,by omega,HK5,HR2,HLE⟩
           | ((repeat apply Exists.intro);exact⟨⟨z+1,out,b,rfl,by go_num,by omega,HK5,HR2,HLE⟩,rfl⟩)
         case measure=>simp[intOf];omega
        | false =>
         have hxd:x0 < 0∧drB n=false:=by
          have:=HSK.out
          rw[Bool.or_eq_false_iff] at this
          exact⟨by have:=of_decide_eq_false this.1;omega,this.2⟩
         have hgo:=HGO.out i p n w5 HK5.out.below HNM.out.2
         have hed:=ZIS (p:=p) (nd:=nd) (R:=R) HW.out HNM.out.2 hxd.2
         have hgb:∀ y∈goesL R nd p (fol2 n),∃ k:Nat,y=k∧k < N2:=fun y hy=>by
          obtain⟨q,h1,h2,h3⟩ : ∃ k:Nat,y=(k:Int)∧True∧True:=by
           unfold goesL at hy
           obtain⟨a,_,h⟩:=List.mem_map.1 hy
           exact⟨_,h.symm,trivial,trivial⟩
          subst h1
          have h4:=ZJ0 HW.out ((hed q).2 hy)
          rw[HN.out,HN2.out] at h4
          exact⟨q,rfl,h4⟩
         have HED:=Hd_ (And.intro hed (And.intro hgb hxd))
         obtain⟨GL,hGL⟩ : ∃ GL,goesL R nd p (fol2 n)=GL:=⟨_,rfl⟩
         rw[hGL] at hgo HED
         have HGC:=Hd_ hgo
         have c0:w5.cell? ⟨w.heap.size,0,none⟩=some (.string g.name):=by rw[HK5.out.gb.cell,← HGG.out];rfl
         have c1:w5.cell? ⟨w.heap.size,1,none⟩=some (.int .i64 g.locals):=by rw[HK5.out.gb.cell,← HGG.out];rfl
         have c2:w5.cell? ⟨w.heap.size,2,none⟩=some (.int .i64 g.slots):=by rw[HK5.out.gb.cell,← HGG.out];rfl
         have c3:w5.cell? ⟨w.heap.size,3,none⟩=some (.slice (some ⟨nb,no,none⟩) N nc):=by rw[HK5.out.gb.cell,← HGG.out];rfl
         have b0:w5.cell? ⟨SB,0,none⟩=some (.int .i64 (i:Nat)):=HSP5.out.cell 0
         have b1:w5.cell? ⟨SB,1,none⟩=some (.bool p):=HSP5.out.cell 1
         have glen:GL.length≤2:=by
          rw[← hGL]
          unfold goesL
          rw[List.length_map]
          refine Nat.le_trans (List.length_filter_le _ _) ?_
          unfold fol2
          split
          ·simp
          ·split <;> simp
         clear hgo hed hgb hxd hGL
         go_wp2_with (first
          | (go_at_call 137
             refine(HGC.out).mono ?_
             rintro e w6 ⟨gv,rfl,hgv,hb6⟩
             obtain⟨vA,vc,rfl,-⟩:=ZF hgv
             have HK6:=Hd_ (HK5.out.bel hb6)
             have HGV:=Hd_ hgv
             clear hgv hb6))
         obtain⟨wi,rfl⟩ : ∃ wi:World,wi=w5:=⟨_,rfl⟩
         clear c0 c1 c2 c3 b0 b1
         go_loopw [14,18] (fun v14 v18 wr=>∃ q:Nat,v14=.bool b∧v18=.int .i64 q∧q≤GL.length∧Hid (RdK w G out wr)∧Hid (wr.ownsRow wi.heap.size 3 1 (.slice vA GL.length vc) GL.length (ints GL))∧Hid (∀ (j:Nat) (y:Int),j < q→GL[j]? = some y→out[y.toNat]?≠some (r:Int))) (fun _ v18 _=>GL.length - (intOf v18).toNat)
         case atStart=>exact⟨0,rfl,rfl,Nat.zero_le _,HK6,HGV,Hd_ fun j y h=>by omega⟩
         case round =>
          clear HK6 HGV HK5 HSP5
          obtain⟨q,rfl,rfl,hq,HK,HGV,HNO⟩:=hrel
          have HNZ:Hid (∀ j:Nat,spE g R nd z j ↔ (j:Int)∈GL):=Hd_ fun j=>by rw[← HNM.out.1];exact HED.out.1 j
          by_cases hql:q < GL.length
          ·obtain⟨y,hy⟩ : ∃ y,GL[q]? = some y:=⟨_,List.getElem?_eq_getElem hql⟩
           obtain⟨k,rfl,hkN⟩:=HED.out.2.1 y (List.mem_of_getElem? hy)
           obtain⟨xk,hxk⟩ : ∃ x,out[k]? = some x:=⟨_,List.getElem?_eq_getElem (by rw[HRF.out.len];exact hkN)⟩
           obtain⟨gb,gc,e,-,-,-,hgc⟩:=ZW HGV.out (by omega)
           injection e with e1 _ e2
           subst e1 e2
           have y0:wr.cell? ⟨gb,q,none⟩=some (.int .i64 (k:Nat)):=by
            rw[hgc q (by omega)]
            simp[ints,hy]
           have y1:wr.cell? ⟨w.heap.size+1,k,none⟩=some (.int .i64 xk):=HK.out.at_ hxk
           have q0:(0:Int)≤q:=by omega
           have qL:(q:Int) < GL.length:=by omega
           have k0:(0:Int)≤k:=by omega
           have kN:(k:Int) < N2:=by omega
           have q2:(q:Int)≤2:=by omega
           have r8:(r:Int)≤8192:=by omega
           have HYK:=Hd_ (And.intro hy hxk)
           clear hgc hy hxk
           by_cases hxr:xk=(r:Int)
           ·have dr:(xk == (r:Int))=true:=by simp[hxr]
            have oc:wr.cell? ⟨w.heap.size+1,z,none⟩=some (.int .i64 x0):=HK.out.at_ HX0.out
            have ofr:=HK.out.ob.frozen z
            have HK7:=Hd_ (HK.out.put z ((r:Int)+1))
            have hr7:=HRF.out.take_ HX0.out HED.out.2.2.1 (b:=true) (fun j hj=>by
             obtain⟨k',h1,h2⟩:=HED.out.2.1 _ ((HNZ.out j).1 hj)
             omega) ⟨fun _=>⟨k,(HNZ.out k).2 (List.mem_of_getElem? HYK.out.1),by rw[HYK.out.2,hxr]⟩,fun _=>rfl⟩
            rw[if_pos rfl] at hr7
            have HR7:=Hd_ hr7
            clear hr7 hxr
            go_wp2
            go_roundw
            case rel =>
             first
              | exact⟨z+1,_,true,rfl,by go_num,by omega,HK7,HR7,Hd_ fun h=>by cases h⟩
              | ((repeat apply Exists.intro);exact⟨⟨z+1,_,true,rfl,by go_num,by omega,HK7,HR7,Hd_ fun h=>by cases h⟩,rfl⟩)
            case measure=>simp[intOf];omega
           ·have dr:(xk == (r:Int))=false:=by rw[beq_eq_false_iff_ne];exact hxr
            have HN2':Hid (∀ (j:Nat) (y:Int),j < q+1→GL[j]? = some y→out[y.toNat]?≠some (r:Int)):=Hd_ fun j y hj hy h=>by
             by_cases e:j=q
             ·subst e
              rw[HYK.out.1] at hy
              injection hy with hy
              subst hy
              rw[Int.toNat_natCast,HYK.out.2] at h
              injection h with h
              exact hxr h
             ·exact HNO.out j y (by omega) hy h
            clear hxr
            go_wp2
            go_roundw
            case rel =>
             first
              | exact⟨q+1,rfl,by go_num,by omega,HK,HGV,HN2'⟩
              | ((repeat apply Exists.intro);exact⟨⟨q+1,rfl,by go_num,by omega,HK,HGV,HN2'⟩,rfl⟩)
            case measure=>simp[intOf];omega
          ·have hr7:=HRF.out.take_ HX0.out HED.out.2.2.1 (b:=false) (fun j hj=>by
            obtain⟨k',h1,h2⟩:=HED.out.2.1 _ ((HNZ.out j).1 hj)
            omega) ⟨fun h=>(by cases h),fun ⟨j,h1,h2⟩=>by
            obtain⟨m,hm⟩:=List.getElem?_of_mem ((HNZ.out j).1 h1)
            have hml:=(List.getElem?_eq_some_iff.1 hm).1
            exact absurd (by rw[Int.toNat_natCast];exact h2) (HNO.out m _ (by omega) hm)⟩
           rw[if_neg (by simp)] at hr7
           have HR7:=Hd_ hr7
           have z8:(z:Int)≤8192:=by omega
           clear hr7
           go_wp2
           go_roundw
           case rel =>
            first
             | exact⟨z+1,out,b,rfl,by go_num,by omega,HK,HR7,HLE⟩
             | ((repeat apply Exists.intro);exact⟨⟨z+1,out,b,rfl,by go_num,by omega,HK,HR7,HLE⟩,rfl⟩)
           case measure=>simp[intOf];omega
      ·obtain rfl:N2=z:=by omega
       cases b with
       | true =>
        have HR8:=Hd_ HRF.out.round
        have r8:(r:Int)≤8192:=by omega
        go_wp2
        go_roundw
        case rel =>
         first
          | exact⟨r+1,out,by go_num,by omega,HK,HR8⟩
          | ((repeat apply Exists.intro);exact⟨⟨r+1,out,by go_num,by omega,HK,HR8⟩,rfl⟩)
        case measure=>simp[intOf];omega
       | false =>
        have HFI:=Hd_ (HDN.out.1 out (HRF.out.still HDN.out.2 (HLE.out rfl)))
        go_wp2
        go_ret
        exact⟨rfl,by rw[← HFI.out];exact HK.out.ob,HK.out.below⟩
    ·have HFI:=Hd_ (HDN.out.1 out (HRF.out.done HDN.out.2 (by omega)))
     go_wp2
     go_ret
     exact⟨rfl,by rw[← HFI.out];exact HK.out.ob,HK.out.below⟩
end Go.Proofs.YtffgnjgphkdodaaGreatDoor
