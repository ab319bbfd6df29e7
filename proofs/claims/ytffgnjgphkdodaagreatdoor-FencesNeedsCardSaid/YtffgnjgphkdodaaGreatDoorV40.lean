import Derived.Test.YtffgnjgphkdodaaGreatDoorV39
import Derived.Test.YtffgnjgphkdodaaGreatDoorV28
import Derived.Test.YtffgnjgphkdodaaGreatDoorV23
import Derived.Test.YtffgnjgphkdodaaGreatDoorV7
import Derived.Laws.Rows
namespace Go.Proofs.YtffgnjgphkdodaaGreatDoor
open Go Go.RowKit
def goesL (R:List Int) (nd:Int) (p:Bool) (ks:List Int) : List Int:=(ks.filter fun k=>decide (k ∉ R)).map fun k=>(nxt nd p k:Int)
theorem ZBP (R:List Int) (nd:Int) (p:Bool) (ks:List Int) (k:Int) : goesL R nd p (ks ++ [k])=goesL R nd p ks ++ if k∈R then [] else [(nxt nd p k:Int)]:=by
 unfold goesL
 rw[List.filter_append,List.map_append]
 congr 1
 by_cases h:k∈R <;> simp[h]
theorem ZDT (R:List Int) (nd:Int) (p:Bool) (ks:List Int) : (goesL R nd p ks).length≤ks.length:=by
 unfold goesL
 rw[List.length_map]
 exact List.length_filter_le _ _
theorem ZBB {R:List Int} {nd:Int} {p:Bool} {ks:List Int} {x:Int} : x∈goesL R nd p ks ↔ ∃ k∈ks,k ∉ R∧x=(nxt nd p k:Int):=by
 unfold goesL
 simp only[List.mem_map,List.mem_filter,decide_eq_true_eq]
 constructor
 ·rintro⟨k,⟨h1,h2⟩,rfl⟩;exact⟨k,h1,h2,rfl⟩
 ·rintro⟨k,h1,h2,rfl⟩;exact⟨k,⟨h1,h2⟩,rfl⟩
set_option maxHeartbeats 400000 in
theorem ZD6 (i:Nat) (p:Bool) (w:World) (hi:i≤4096) : Calls Tryz.prog 174 #[.agg #[.int .i64 (i:Nat),.bool p]] w fun e w'=>e=.returned (.int .i64 (num i p:Nat))∧Below w.heap.size w w':=by
 have HB:=Hd_ (ZC w (.cells #[.int .i64 (i:Nat),.bool p] 157))
 have i0:(0:Int)≤i:=by omega
 have i4:(i:Int)≤4096:=by omega
 cases p with
 | true =>
  go_enter Tryz.func174,Tryz.ntmps174
  go_wp2
  go_ret
  exact⟨by unfold num;simp,HB.out⟩
 | false =>
  go_enter Tryz.func174,Tryz.ntmps174
  go_wp2
  go_ret
  exact⟨by unfold num;simp,HB.out⟩
theorem ZDz {P:Program} {Q:Exit→Act→World→Prop} {o:Oper} {a:Act} {w:World} {K:Act→World→Prop} {s:SR} {t e:Nat} {parts:Array (Nat × Operand)} {news:List Value} (hK:∀ v w',Below w.heap.size w w'→s.holds w' v→K (a.put o.dst v) w') (ho:o.op=.buildSlice t 1 parts) (hr:(Instr.buildSlice t 1 (parts.map fun (i,x)=>(i,a.eval x))).run P w=.ok (.slice (some ⟨w.heap.size,0,none⟩) 1 1) (w.alloc (.cells news.toArray e)))
  (h:∀ w',Below w.heap.size w w'→Blk w' w.heap.size e news→s.holds w' (.slice (some ⟨w.heap.size,0,none⟩) 1 1)) : o.wp P a w K Q:=by
 unfold Oper.wp execOp
 simp only[ho,hr,Sem.run_bind,Result.andThen_ok]
 exact hK _ _ (ZC _ _) (h _ (ZC _ _) (Blk.new _ _ _))
set_option maxHeartbeats 400000 in
theorem ZC8 (k:Nat) (w:World) (hk:k≤8192) : Calls Tryz.prog 94 #[.int .i64 (k:Nat)] w fun e w'=>e=.returned (.agg #[.int .i64 ((k / 2:Nat) : Int),.bool (decide (k % 2=1))])∧Below w.heap.size w w':=by
 have k0:(0:Int)≤k:=by omega
 have k4:(k:Int)≤8192:=by omega
 obtain⟨qn,hqn⟩ : ∃ qn,k / 2=qn:=⟨_,rfl⟩
 obtain⟨rn,hrn⟩ : ∃ rn,k % 2=rn:=⟨_,rfl⟩
 have hq:Int.tdiv (k:Int) 2=(qn:Int):=by rw[← hqn];rfl
 have hr:Int.tmod (k:Int) 2=(rn:Int):=by rw[← hrn];rfl
 have hq2:(k:Int) / 2=(qn:Int):=by rw[← hqn];omega
 have hr2:(k:Int) % 2=(rn:Int):=by rw[← hrn];omega
 have hb:decide (rn=1)=((rn:Int) == 1):=by
  rw[show((rn:Int) == 1)=decide ((rn:Int)=1) from rfl]
  exact decide_eq_decide.2 (by omega)
 rw[hqn,hrn,hb]
 obtain⟨bb,hbb⟩ : ∃ bb,((rn:Int) == 1)=bb:=⟨_,rfl⟩
 rw[hbb]
 clear hqn hrn hb
 go_enter Tryz.func94,Tryz.ntmps94
 go_wp2_with (refine ZI 157 rfl ?_)
 refine Stop.intro ?_
 refine wpList_store_row rfl 157 _ _ rfl w.heap.size #[.int .i64 (qn:Nat),.bool bb] rfl rfl 157 _ (heap_alloc_new _ _) (by kernel_rfl) rfl (by simp[Value.oneCell']) ?_
 rw[World.setRow_alloc_new]
 go_wp2
 refine bodyPost_ret (v:=.agg #[.int .i64 (qn:Nat),.bool bb]) ?_ rfl ⟨rfl,ZC _ _⟩
 exact results_cell_row Tryz.results94 _ _ w.heap.size 157 #[.int .i64 (qn:Nat),.bool bb] _ _ rfl (heap_alloc_new _ _) Tryz.underlying157 rfl (by kernel_rfl)
def slGo:List Nat:=[32,33,34,35,36,37,38,39,40,41,42,43,44,45,46,47,48,49]
set_option maxRecDepth 100000 in
set_option maxHeartbeats 2000000 in
theorem ZCY (g:Graph) (cs:List Value) (v:Value) (R:List Int) (nd:Int) (i:Nat) (n:Node) (w:World) (hw:WholeG g) (hg:GraphV (cmap w) cs g) (hR:Ints (cmap w) v R) (hn:g.nodes[i]? = some n) :
  Calls Tryz.prog 137 #[.agg cs.toArray,v,.int .i64 nd,.agg #[.int .i64 (i:Nat),.bool true]] w fun e w'=>∃ v',e=.returned v'∧w'.ownsRow w.heap.size 3 1 v' (goesL R nd true (fol2 n)).length (ints (goesL R nd true (fol2 n)))∧Below w.heap.size w w':=by
 have hmost:=hw.most
 have hb0:=hw.fol n (List.mem_of_getElem? hn)
 have hil:=(List.getElem?_eq_some_iff.1 hn).1
 have HFO:Hid (∀ y∈fol2 n,0≤y∧y < g.nodes.length):=Hd_ fun y hy=>hb0 y ((Zm n y).1 hy)
 have hl2:(fol2 n).length≤2:=by unfold fol2;split;simp;split <;> simp
 have HCN:=Hd_ fun w1 (y:Int) (h:Below w.heap.size w w1)=>ZBg v R y w1 (hR.mono (ZA h))
 obtain⟨nv,rfl,hnv⟩:=id hg
 obtain⟨nA,nc,rfl,-⟩:=id hnv
 obtain⟨nb,no,rfl,hnc⟩:=hnv.at_ hn
 obtain⟨rA,rc,rfl,-⟩:=id hR
 have h1:=Blk.new w 69 [.string g.name,.int .i64 g.locals,.int .i64 g.slots,.slice (some ⟨nb,no,none⟩) g.nodes.length nc]
 have HSP0:Hid (Blk ((w.alloc (.cells #[.string g.name,.int .i64 g.locals,.int .i64 g.slots,.slice (some ⟨nb,no,none⟩) g.nodes.length nc] 69)).alloc (.cells #[.int .i64 (i:Nat),.bool true] 157)) (w.heap.size+1) 157 [.int .i64 (i:Nat),.bool true]):=Hd_ (Blk.of (ZN _ _ _ (by simp)) rfl)
 have hgb:=h1.alloc (.cells #[.int .i64 (i:Nat),.bool true] 157)
 have hbw:=((Below.refl _ w).alloc (Nat.le_refl _) (.cells #[.string g.name,.int .i64 g.locals,.int .i64 g.slots,.slice (some ⟨nb,no,none⟩) g.nodes.length nc] 69)).alloc (by simp) (.cells #[.int .i64 (i:Nat),.bool true] 157)
 obtain⟨W1,hW1⟩ : ∃ W1,(w.alloc (.cells #[.string g.name,.int .i64 g.locals,.int .i64 g.slots,.slice (some ⟨nb,no,none⟩) g.nodes.length nc] 69)).alloc (.cells #[.int .i64 (i:Nat),.bool true] 157)=W1:=⟨_,rfl⟩
 have hs1:W1.heap.size=w.heap.size+1+1:=by rw[← hW1];simp
 rw[hW1] at HSP0 hgb hbw
 have HW1:=Hd_ hW1
 have g3:W1.cell? ⟨w.heap.size,3,none⟩=some (.slice (some ⟨nb,no,none⟩) g.nodes.length nc):=hgb.cell 3
 have p0:W1.cell? ⟨w.heap.size+1,0,none⟩=some (.int .i64 (i:Nat)):=HSP0.out.cell 0
 have HLD:Hid (∀ j x,n.cells[j]? = some x→W1.cell? ⟨nb,no+i * 13+j,none⟩=some x):=Hd_ fun j x hj=>ZA hbw _ _ _ (hnc j x hj)
 have HFW:=Hd_ (Zu n W1)
 have HB1:=Hd_ hbw
 have i0:(0:Int)≤i:=by omega
 have iN:(i:Int) < g.nodes.length:=by omega
 clear h1 hgb hbw hnv hnc hg hR hw hn hb0 hW1
 unfold Node.cells at HLD HFW
 go_enter Tryz.func137,Tryz.ntmps137
 go_wp2_with (first
  | (refine ZFD 66 rfl ?_))
 rw[HW1.out]
 refine Stop.intro ?_
 refine ZB rfl 66 _ rfl nb (no+i * 13) rfl _ _ HLD.out Tryz.underlying66 rfl (by kernel_rfl) ?_
 go_wp2_with (first
  | (go_at_call 154
     refine(HFW.out).mono ?_
     rintro e w2 ⟨fv,rfl,hf,hb2⟩
     obtain⟨fA,fc,rfl,-⟩:=id hf
     have H2:=Hd_ (And.intro hf hb2)
     clear hf hb2))
 have HS1:=Hd_ hs1
 obtain⟨TS,hTS⟩ : ∃ TS,w2.heap.size=TS:=⟨_,rfl⟩
 have HTE:=Hd_ hTS
 clear hTS hs1 g3 p0 HW1
 go_loopw [9,11] (fun v9 v11 wr=>∃ z:Nat,v11=.int .i64 z∧z≤(fol2 n).length∧Hid (wr.ownsRow w.heap.size 3 1 v9 (goesL R nd true ((fol2 n).take z)).length (ints (goesL R nd true ((fol2 n).take z))))∧Hid (Below w.heap.size w wr)∧Hid (Blk wr (w.heap.size+1) 157 [.int .i64 (i:Nat),.bool true])∧Hid (Ints (on wr (fun b=>b < TS∧w.heap.size+1 < b)) (.slice fA (fol2 n).length fc) (fol2 n))∧Hid (∀ b,v9.ownBlock=some b→¬ (b < TS∧w.heap.size+1 < b))∧Hid (TS≤wr.heap.size)) (fun _ v11 _=>(fol2 n).length - (intOf v11).toNat)
 case atStart=>exact⟨0,rfl,Nat.zero_le _,Hd_ (World.ownsRow_nil _ _ _ _),Hd_ (HB1.out.trans (H2.out.2.mono HB1.out.size)),Hd_ (HSP0.out.below H2.out.2 HSP0.out.lt),Hd_ (H2.out.1.mono (ZAH _ fun b h1 h2=>⟨by have:=HTE.out;omega,by have:=HS1.out;omega⟩)),Hd_ (fun b hb=>by cases hb),Hd_ (by have:=HTE.out;omega)⟩
 case round =>
  obtain⟨z,rfl,hz,HOW,HBW,HSP,HLI,HSEP,HTS2⟩:=hrel
  obtain⟨vA,vc,rfl,-⟩:=ZF HOW.out
  by_cases hzL:z < (fol2 n).length
  ·obtain⟨y,hy⟩ : ∃ y,(fol2 n)[z]? = some y:=⟨_,List.getElem?_eq_getElem hzL⟩
   have hyb:=HFO.out y (List.mem_of_getElem? hy)
   obtain⟨yn,rfl⟩:=Int.eq_ofNat_of_zero_le hyb.1
   obtain⟨tb,tof,rfl,htc⟩:=HLI.out.at_ hy
   rw[Nat.mul_one] at htc
   have htc2:wr.cell? ⟨tb,tof+z,none⟩=some (.int .i64 (yn:Nat)):=(ZDH htc).1
   have HTC:=Hd_ htc2
   have HTK:Hid ((fol2 n).take (z+1)=(fol2 n).take z ++ [(yn:Int)]):=Hd_ (by
    rw[List.take_succ_eq_append_getElem hzL]
    congr 2
    rw[List.getElem?_eq_getElem hzL] at hy
    injection hy)
   have hgl:=ZDT R nd true ((fol2 n).take z)
   have hgl2:(goesL R nd true ((fol2 n).take z)).length≤2:=by rw[List.length_take] at hgl;omega
   have z0:(0:Int)≤z:=by omega
   have zL:(z:Int) < (fol2 n).length:=by omega
   have z2:(z:Int)≤2:=by omega
   have y0:(0:Int)≤yn:=by omega
   have y4:yn≤4096:=by omega
   have hcn:=HCN.out wr (yn:Int) HBW.out
   clear hy htc hyb hgl
   by_cases hin:(yn:Int)∈R
   ·rw[decide_eq_true hin] at hcn
    have HCT:=Hd_ hcn
    have HIN:=Hd_ hin
    clear hin hcn
    go_wp2_with (first
     | (go_at_call 130
        refine(HCT.out).mono ?_
        rintro e w3 ⟨rfl,rfl⟩))
    go_roundw
    case rel=>exact⟨z+1,by go_num,by omega,by rw[HTK.out,ZBP,if_pos HIN.out,List.append_nil];exact HOW,HBW,HSP,HLI,HSEP,HTS2⟩
    case measure=>simp[intOf];omega
   ·rw[decide_eq_false hin] at hcn
    have HCT:=Hd_ hcn
    have HIN:=Hd_ hin
    clear hin hcn
    go_wp2_with (first
     | (go_at_call 130
        refine(HCT.out).mono ?_
        rintro e w3 ⟨rfl,rfl⟩))
    obtain⟨W0,rfl⟩ : ∃ W0:World,W0=wr:=⟨_,rfl⟩
    have HTS:Hid (TS≤W0.heap.size):=Hd_ (by have:=HTS2.out;omega)
    have HNX:Hid (nxt nd true (yn:Int)=num yn true):=Hd_ (by unfold nxt;rw[Int.toNat_natCast];rfl)
    refine ZAG fun a0 ha0=>?_
    have t9:a0.eval (.tmp 9)=.slice vA (goesL R nd true ((fol2 n).take z)).length vc:=by rw[ha0];rfl
    have t10:a0.eval (.tmp 10)=.slice (some ⟨tb,tof,none⟩) (fol2 n).length fc:=by rw[ha0];rfl
    have t11:a0.eval (.tmp 11)=.int .i64 (z:Nat):=by rw[ha0];rfl
    have t7:a0.eval (.tmp 7)=.pointer (some ⟨w.heap.size+1,0,none⟩):=by rw[ha0];rfl
    have t2:a0.eval (.tmp 2)=.int .i64 nd:=by rw[ha0];rfl
    have hsz:a0.tmps.size=52:=by rw[ha0];rfl
    have HSZ:=Hd_ hsz
    have HA0:=Hd_ ha0;clear ha0
    refine ZCw [(32,.is (.slice vA (goesL R nd true ((fol2 n).take z)).length vc)),(33,.is (.slice (some ⟨tb,tof,none⟩) (fol2 n).length fc)),(34,.is (.int .i64 (z:Nat))),(35,.is (.pointer (some ⟨tb,tof+z,none⟩))),(36,.is (.int .i64 (yn:Nat))),(37,.is (.pointer (some ⟨w.heap.size+1,1,none⟩))),(38,.is (.bool true)),(39,.is (.bool true)),(40,.is (undef)),(41,.is (undef)),(42,.is (undef)),(43,.is (undef)),(44,.is (undef)),(45,.is (undef)),(46,.is (.bool true)),(47,.is (.agg #[.int .i64 (yn:Nat),.bool true])),(48,.is (.int .i64 (num yn true:Nat))),(49,sr1 W0 3 [.int .i64 (num yn true:Nat)])] 18 50 9 (RdA W0 [(32,.is (.slice vA (goesL R nd true ((fol2 n).take z)).length vc)),(33,.is (.slice (some ⟨tb,tof,none⟩) (fol2 n).length fc)),(34,.is (.int .i64 (z:Nat))),(35,.is (.pointer (some ⟨tb,tof+z,none⟩))),(36,.is (.int .i64 (yn:Nat))),(37,.is (.pointer (some ⟨w.heap.size+1,1,none⟩))),(38,.is (.bool true)),(39,.is (.bool true)),(40,.is (undef)),(41,.is (undef)),(42,.is (undef)),(43,.is (undef)),(44,.is (undef)),(45,.is (undef)),(46,.is (.bool true)),(47,.is (.agg #[.int .i64 (yn:Nat),.bool true])),(48,.is (.int .i64 (num yn true:Nat))),(49,sr1 W0 3 [.int .i64 (num yn true:Nat)])] a0 18 w.heap.size 3 1 (.slice vA (goesL R nd true ((fol2 n).take z)).length vc) (goesL R nd true ((fol2 n).take z)).length (ints (goesL R nd true ((fol2 n).take z))) [.int .i64 (num yn true:Nat)]) (by kernel_rfl) (by kernel_rfl) rfl ?steps ?done
    case steps =>
     refine⟨?_,?_,?_,?_,?_,?_,?_,?_,?_,?_,?_,?_,?_,?_,?_,?_,?_,?_,?_,?_,trivial⟩
     ·
      refine JA.step (slots:=slGo) rfl (by decide) (by rw[hsz];decide) (32,.is (.slice vA (goesL R nd true ((fol2 n).take z)).length vc)) rfl rfl rfl (show 0 < 18 from by decide) ?_
      intro D a wx K hD hp h hK
      have hfr:Fr slGo a0 a:=h.fr
      refine ZD rfl ?_
      have q9:a.eval (.tmp 9)=.slice vA (goesL R nd true ((fol2 n).take z)).length vc:=(hfr.eval (j:=9) (by decide)).trans t9
      exact ZP hK rfl q9
     ·
      refine JA.step (slots:=slGo) rfl (by decide) (by rw[hsz];decide) (33,.is (.slice (some ⟨tb,tof,none⟩) (fol2 n).length fc)) rfl rfl rfl (show 1 < 18 from by decide) ?_
      intro D a wx K hD hp h hK
      have hfr:Fr slGo a0 a:=h.fr
      refine ZD rfl ?_
      have q10:a.eval (.tmp 10)=.slice (some ⟨tb,tof,none⟩) (fol2 n).length fc:=(hfr.eval (j:=10) (by decide)).trans t10
      exact ZP hK rfl q10
     ·
      refine JA.step (slots:=slGo) rfl (by decide) (by rw[hsz];decide) (34,.is (.int .i64 (z:Nat))) rfl rfl rfl (show 2 < 18 from by decide) ?_
      intro D a wx K hD hp h hK
      have hfr:Fr slGo a0 a:=h.fr
      refine ZD rfl ?_
      have q11:a.eval (.tmp 11)=.int .i64 (z:Nat):=(hfr.eval (j:=11) (by decide)).trans t11
      exact ZP hK rfl q11
     ·
      refine JA.step (slots:=slGo) rfl (by decide) (by rw[hsz];decide) (35,.is (.pointer (some ⟨tb,tof+z,none⟩))) rfl rfl rfl (show 3 < 18 from by decide) ?_
      intro D a wx K hD hp h hK
      have hfr:Fr slGo a0 a:=h.fr
      refine ZD rfl ?_
      have q33:a.eval (.tmp 33)=.slice (some ⟨tb,tof,none⟩) (fol2 n).length fc:=h.val 1 _ rfl (hp 1 (by decide))
      have q34:a.eval (.tmp 34)=.int .i64 (z:Nat):=h.val 2 _ rfl (hp 2 (by decide))
      have z2:(0:Int)≤(z:Nat):=by omega
      have z3:((z:Nat) : Int) < (fol2 n).length:=by omega
      refine ZM hK (by clear hfr;generalize a.eval=ρ at *;go_simp)
     ·
      refine JA.step (slots:=slGo) rfl (by decide) (by rw[hsz];decide) (36,.is (.int .i64 (yn:Nat))) rfl rfl rfl (show 4 < 18 from by decide) ?_
      intro D a wx K hD hp h hK
      have hfr:Fr slGo a0 a:=h.fr
      refine ZD rfl ?_
      have q35:a.eval (.tmp 35)=.pointer (some ⟨tb,tof+z,none⟩):=h.val 3 _ rfl (hp 3 (by decide))
      have z1:wx.cell? ⟨tb,tof+z,none⟩=some (.int .i64 (yn:Nat)):=ZA h.below _ _ _ HTC.out
      refine ZM hK (by clear hfr;generalize a.eval=ρ at *;go_simp)
     ·
      refine JA.step (slots:=slGo) rfl (by decide) (by rw[hsz];decide) (37,.is (.pointer (some ⟨w.heap.size+1,1,none⟩))) rfl rfl rfl (show 5 < 18 from by decide) ?_
      intro D a wx K hD hp h hK
      have hfr:Fr slGo a0 a:=h.fr
      refine ZD rfl ?_
      have q7:a.eval (.tmp 7)=.pointer (some ⟨w.heap.size+1,0,none⟩):=(hfr.eval (j:=7) (by decide)).trans t7
      refine ZM hK (by clear hfr;generalize a.eval=ρ at *;go_simp)
     ·
      refine JA.step (slots:=slGo) rfl (by decide) (by rw[hsz];decide) (38,.is (.bool true)) rfl rfl rfl (show 6 < 18 from by decide) ?_
      intro D a wx K hD hp h hK
      have hfr:Fr slGo a0 a:=h.fr
      refine ZD rfl ?_
      have q37:a.eval (.tmp 37)=.pointer (some ⟨w.heap.size+1,1,none⟩):=h.val 5 _ rfl (hp 5 (by decide))
      have z1:wx.cell? ⟨w.heap.size+1,1,none⟩=some (.bool true):=(HSP.out.below h.below HSP.out.lt).cell 1
      refine ZM hK (by clear hfr;generalize a.eval=ρ at *;go_simp)
     ·
      refine JA.step (slots:=slGo) rfl (by decide) (by rw[hsz];decide) (39,.is (.bool true)) rfl rfl rfl (show 7 < 18 from by decide) ?_
      intro D a wx K hD hp h hK
      have hfr:Fr slGo a0 a:=h.fr
      refine ZD rfl ?_
      have q38:a.eval (.tmp 38)=.bool true:=h.val 6 _ rfl (hp 6 (by decide))
      exact ZP hK rfl q38
     ·
      refine JA.step (slots:=slGo) rfl (by decide) (by rw[hsz];decide) (40,.is (undef)) rfl rfl rfl (show 8 < 18 from by decide) ?_
      intro D a wx K hD hp h hK
      have hfr:Fr slGo a0 a:=h.fr
      refine ZAi rfl rfl (show a.eval (.tmp 39)=.bool true from h.val 7 _ rfl (hp 7 (by decide))) (by decide) ?_
      exact hK undef wx (Below.refl _ _) rfl
     ·
      refine JA.step (slots:=slGo) rfl (by decide) (by rw[hsz];decide) (41,.is (undef)) rfl rfl rfl (show 9 < 18 from by decide) ?_
      intro D a wx K hD hp h hK
      have hfr:Fr slGo a0 a:=h.fr
      refine ZAi rfl rfl (show a.eval (.tmp 39)=.bool true from h.val 7 _ rfl (hp 7 (by decide))) (by decide) ?_
      exact hK undef wx (Below.refl _ _) rfl
     ·
      refine JA.step (slots:=slGo) rfl (by decide) (by rw[hsz];decide) (42,.is (undef)) rfl rfl rfl (show 10 < 18 from by decide) ?_
      intro D a wx K hD hp h hK
      have hfr:Fr slGo a0 a:=h.fr
      refine ZAi rfl rfl (show a.eval (.tmp 39)=.bool true from h.val 7 _ rfl (hp 7 (by decide))) (by decide) ?_
      exact hK undef wx (Below.refl _ _) rfl
     ·
      refine JA.step (slots:=slGo) rfl (by decide) (by rw[hsz];decide) (43,.is (undef)) rfl rfl rfl (show 11 < 18 from by decide) ?_
      intro D a wx K hD hp h hK
      have hfr:Fr slGo a0 a:=h.fr
      refine ZAi rfl rfl (show a.eval (.tmp 39)=.bool true from h.val 7 _ rfl (hp 7 (by decide))) (by decide) ?_
      exact hK undef wx (Below.refl _ _) rfl
     ·
      refine JA.step (slots:=slGo) rfl (by decide) (by rw[hsz];decide) (44,.is (undef)) rfl rfl rfl (show 12 < 18 from by decide) ?_
      intro D a wx K hD hp h hK
      have hfr:Fr slGo a0 a:=h.fr
      refine ZAi rfl rfl (show a.eval (.tmp 39)=.bool true from h.val 7 _ rfl (hp 7 (by decide))) (by decide) ?_
      exact hK undef wx (Below.refl _ _) rfl
     ·
      refine JA.step (slots:=slGo) rfl (by decide) (by rw[hsz];decide) (45,.is (undef)) rfl rfl rfl (show 13 < 18 from by decide) ?_
      intro D a wx K hD hp h hK
      have hfr:Fr slGo a0 a:=h.fr
      refine ZAi rfl rfl (show a.eval (.tmp 39)=.bool true from h.val 7 _ rfl (hp 7 (by decide))) (by decide) ?_
      exact hK undef wx (Below.refl _ _) rfl
     ·
      refine JA.step (slots:=slGo) rfl (by decide) (by rw[hsz];decide) (46,.is (.bool true)) rfl rfl rfl (show 14 < 18 from by decide) ?_
      intro D a wx K hD hp h hK
      have hfr:Fr slGo a0 a:=h.fr
      refine ZD rfl ?_
      have q39:a.eval (.tmp 39)=.bool true:=h.val 7 _ rfl (hp 7 (by decide))
      have q45:a.eval (.tmp 45)=undef:=h.val 13 _ rfl (hp 13 (by decide))
      have c0:a.eval (.const (Value.bool true))=(Value.bool true):=rfl
      refine ZM hK (by clear hfr;generalize a.eval=ρ at *;go_simp)
     ·
      refine JA.step (slots:=slGo) rfl (by decide) (by rw[hsz];decide) (47,.is (.agg #[.int .i64 (yn:Nat),.bool true])) rfl rfl rfl (show 15 < 18 from by decide) ?_
      intro D a wx K hD hp h hK
      have hfr:Fr slGo a0 a:=h.fr
      refine ZD rfl ?_
      have q36:a.eval (.tmp 36)=.int .i64 (yn:Nat):=h.val 4 _ rfl (hp 4 (by decide))
      have q46:a.eval (.tmp 46)=.bool true:=h.val 14 _ rfl (hp 14 (by decide))
      refine ZM hK (by clear hfr;generalize a.eval=ρ at *;go_simp)
     ·
      refine JA.step (slots:=slGo) rfl (by decide) (by rw[hsz];decide) (48,.is (.int .i64 (num yn true:Nat))) rfl rfl rfl (show 16 < 18 from by decide) ?_
      intro D a wx K hD hp h hK
      have hfr:Fr slGo a0 a:=h.fr
      refine ZD rfl ?_
      have q47:a.eval (.tmp 47)=.agg #[.int .i64 (yn:Nat),.bool true]:=h.val 15 _ rfl (hp 15 (by decide))
      refine Zn hK Tryz.func174 (by kernel_rfl) (by kernel_rfl) rfl #[.agg #[.int .i64 (yn:Nat),.bool true]] (by simp only[List.map_toArray,List.map_cons,List.map_nil,q47];try rfl) ?_
      refine(ZD6 yn true wx (by omega)).mono ?_
      rintro e w' ⟨rfl,hb⟩
      exact⟨_,rfl,hb,rfl⟩
     ·
      refine JA.step (slots:=slGo) rfl (by decide) (by rw[hsz];decide) (49,sr1 W0 3 [.int .i64 (num yn true:Nat)]) rfl rfl rfl (show 17 < 18 from by decide) ?_
      intro D a wx K hD hp h hK
      have hfr:Fr slGo a0 a:=h.fr
      refine ZD rfl ?_
      have q48:a.eval (.tmp 48)=.int .i64 (num yn true:Nat):=h.val 16 _ rfl (hp 16 (by decide))
      refine ZDz hK rfl (by clear hfr hK h;generalize a.eval=ρ at *;go_simp) fun w' hb' hk=>⟨wx.heap.size,rfl,h.below.size,hk⟩
     ·
      refine JA.app (slots:=slGo) rfl rfl rfl rfl (by kernel_rfl) (by rw[hsz];decide) ?_
      intro D a wx K hall h hK
      obtain⟨X,e,hX,hXb⟩:=h.val 17 _ rfl (hall 17 (by decide))
      refine ZD2 ZY rfl _ _ rfl w.heap.size _ _ _ (h.val 0 _ rfl (hall 0 (by decide))) (ZS HOW.out h.below) X 0 1 [.int .i64 (num yn true:Nat)] e rfl (fun j u hj=>by rw[Nat.zero_add,hXb.cell];exact hj) (by simp[Value.oneCell']) (by omega) (by decide) (by have:=h.below.size;have:=HBW.out.size;omega) ?_
      intro v' w' h1 h2 h3
      exact hK _ _ ⟨wx,h.below,h.fr,fun i s hi hs=>h.val i s hs (hall i hi),h1,h2,h3⟩
     ·
      exact JA.asg rfl rfl rfl (by decide)
    case done =>
     intro a wz v hRd
     obtain⟨w1,hb1,hf1,hv1,ho1,hg1,hb2⟩:=hRd
     have hfin:=Fr.allW (slots:=slGo) hf1 (by rw[hsz];decide)
     simp only[putW,slGo] at hfin
     rw[(show a.eval (.tmp 32)=.slice vA (goesL R nd true ((fol2 n).take z)).length vc from hv1 0 _ (by decide) rfl),(show a.eval (.tmp 33)=.slice (some ⟨tb,tof,none⟩) (fol2 n).length fc from hv1 1 _ (by decide) rfl),(show a.eval (.tmp 34)=.int .i64 (z:Nat) from hv1 2 _ (by decide) rfl),(show a.eval (.tmp 35)=.pointer (some ⟨tb,tof+z,none⟩) from hv1 3 _ (by decide) rfl),(show a.eval (.tmp 36)=.int .i64 (yn:Nat) from hv1 4 _ (by decide) rfl),(show a.eval (.tmp 37)=.pointer (some ⟨w.heap.size+1,1,none⟩) from hv1 5 _ (by decide) rfl),(show a.eval (.tmp 38)=.bool true from hv1 6 _ (by decide) rfl),(show a.eval (.tmp 39)=.bool true from hv1 7 _ (by decide) rfl),(show a.eval (.tmp 40)=undef from hv1 8 _ (by decide) rfl),(show a.eval (.tmp 41)=undef from hv1 9 _ (by decide) rfl),(show a.eval (.tmp 42)=undef from hv1 10 _ (by decide) rfl),(show a.eval (.tmp 43)=undef from hv1 11 _ (by decide) rfl),(show a.eval (.tmp 44)=undef from hv1 12 _ (by decide) rfl),(show a.eval (.tmp 45)=undef from hv1 13 _ (by decide) rfl),(show a.eval (.tmp 46)=.bool true from hv1 14 _ (by decide) rfl),(show a.eval (.tmp 47)=.agg #[.int .i64 (yn:Nat),.bool true] from hv1 15 _ (by decide) rfl),(show a.eval (.tmp 48)=.int .i64 (num yn true:Nat) from hv1 16 _ (by decide) rfl)] at hfin
     generalize a.eval (.tmp 49)=r49 at hfin
     rw[hfin,HA0.out]
     clear hfin HA0 hv1 hf1 HSZ
     simp only[Act.put,List.setIfInBounds_toArray,List.set_cons_zero,List.set_cons_succ]
     obtain⟨gA,gcc,rfl,-⟩:=ZF ho1
     have hgw:=(HBW.out.trans (hb1.mono HBW.out.size)).grown hg1 (by have:=hb1.size;have:=HBW.out.size;omega) (fun b hb=>Zg HOW.out b hb)
     have hsp:=(HSP.out.below hb1 HSP.out.lt).grown hg1 (ZO (ZS HOW.out hb1) (HSP.out.below hb1 HSP.out.lt) (by decide))
     have hli:=HLI.out.mono (ZZ (S':=fun b=>b < TS∧w.heap.size+1 < b) (fun b hb hlt=>(hg1.block b (Nat.lt_of_lt_of_le hlt hb1.size) fun e=>HSEP.out b e.symm hb).trans (hb1.block b hlt)) fun _ h=>h)
     have HE:=Hd_ (And.intro ho1 (And.intro hgw (And.intro hsp hli)))
     have HOB:=Hd_ (And.intro hb2 hb1.size)
     have HSW:=Hd_ hg1.size
     clear ho1 hgw hsp hli hg1 hb1 hb2
     go_wp2
     go_roundw
     case rel =>
      refine⟨z+1,by go_num,by omega,Hd_ ?_,Hd_ HE.out.2.1,Hd_ HE.out.2.2.1,Hd_ HE.out.2.2.2,Hd_ ?_,Hd_ ?_⟩
      ·rw[HTK.out,ZBP,if_neg HIN.out]
       have:=HE.out.1
       simpa [ints,HNX.out] using this
      ·intro b hb hq
       rcases HOB.out.1 with e | e
       ·exact HSEP.out b (by rw[← e];exact hb) hq
       ·rw[e] at hb;injection hb with hb;have:=HOB.out.2;have:=HTS.out;omega
      ·have:=HOB.out.2;have:=HTS.out;have:=HE.out.2.1.size;exact Nat.le_trans (Nat.le_trans HTS.out HOB.out.2) HSW.out
     case measure=>simp[intOf];omega
  ·obtain rfl:z=(fol2 n).length:=by omega
   have hfin:=HOW.out
   rw[List.take_length] at hfin
   have HF:=Hd_ hfin
   clear hfin
   go_wp2
   go_ret
   exact⟨_,rfl,by have:=HF.out;rwa [List.take_length],HBW.out⟩
set_option maxRecDepth 100000 in
set_option maxHeartbeats 2000000 in
theorem ZCZ (g:Graph) (cs:List Value) (v:Value) (R:List Int) (nd:Int) (i:Nat) (n:Node) (w:World) (hw:WholeG g) (hg:GraphV (cmap w) cs g) (hR:Ints (cmap w) v R) (hn:g.nodes[i]? = some n) :
  Calls Tryz.prog 137 #[.agg cs.toArray,v,.int .i64 nd,.agg #[.int .i64 (i:Nat),.bool false]] w fun e w'=>∃ v',e=.returned v'∧w'.ownsRow w.heap.size 3 1 v' (goesL R nd false (fol2 n)).length (ints (goesL R nd false (fol2 n)))∧Below w.heap.size w w':=by
 have hmost:=hw.most
 have hb0:=hw.fol n (List.mem_of_getElem? hn)
 have hil:=(List.getElem?_eq_some_iff.1 hn).1
 have HFO:Hid (∀ y∈fol2 n,0≤y∧y < g.nodes.length):=Hd_ fun y hy=>hb0 y ((Zm n y).1 hy)
 have hl2:(fol2 n).length≤2:=by unfold fol2;split;simp;split <;> simp
 have HCN:=Hd_ fun w1 (y:Int) (h:Below w.heap.size w w1)=>ZBg v R y w1 (hR.mono (ZA h))
 obtain⟨nv,rfl,hnv⟩:=id hg
 obtain⟨nA,nc,rfl,-⟩:=id hnv
 obtain⟨nb,no,rfl,hnc⟩:=hnv.at_ hn
 obtain⟨rA,rc,rfl,-⟩:=id hR
 have h1:=Blk.new w 69 [.string g.name,.int .i64 g.locals,.int .i64 g.slots,.slice (some ⟨nb,no,none⟩) g.nodes.length nc]
 have HSP0:Hid (Blk ((w.alloc (.cells #[.string g.name,.int .i64 g.locals,.int .i64 g.slots,.slice (some ⟨nb,no,none⟩) g.nodes.length nc] 69)).alloc (.cells #[.int .i64 (i:Nat),.bool false] 157)) (w.heap.size+1) 157 [.int .i64 (i:Nat),.bool false]):=Hd_ (Blk.of (ZN _ _ _ (by simp)) rfl)
 have hgb:=h1.alloc (.cells #[.int .i64 (i:Nat),.bool false] 157)
 have hbw:=((Below.refl _ w).alloc (Nat.le_refl _) (.cells #[.string g.name,.int .i64 g.locals,.int .i64 g.slots,.slice (some ⟨nb,no,none⟩) g.nodes.length nc] 69)).alloc (by simp) (.cells #[.int .i64 (i:Nat),.bool false] 157)
 obtain⟨W1,hW1⟩ : ∃ W1,(w.alloc (.cells #[.string g.name,.int .i64 g.locals,.int .i64 g.slots,.slice (some ⟨nb,no,none⟩) g.nodes.length nc] 69)).alloc (.cells #[.int .i64 (i:Nat),.bool false] 157)=W1:=⟨_,rfl⟩
 have hs1:W1.heap.size=w.heap.size+1+1:=by rw[← hW1];simp
 rw[hW1] at HSP0 hgb hbw
 have HW1:=Hd_ hW1
 have g3:W1.cell? ⟨w.heap.size,3,none⟩=some (.slice (some ⟨nb,no,none⟩) g.nodes.length nc):=hgb.cell 3
 have p0:W1.cell? ⟨w.heap.size+1,0,none⟩=some (.int .i64 (i:Nat)):=HSP0.out.cell 0
 have HLD:Hid (∀ j x,n.cells[j]? = some x→W1.cell? ⟨nb,no+i * 13+j,none⟩=some x):=Hd_ fun j x hj=>ZA hbw _ _ _ (hnc j x hj)
 have HFW:=Hd_ (Zu n W1)
 have HB1:=Hd_ hbw
 have i0:(0:Int)≤i:=by omega
 have iN:(i:Int) < g.nodes.length:=by omega
 clear h1 hgb hbw hnv hnc hg hR hw hn hb0 hW1
 unfold Node.cells at HLD HFW
 go_enter Tryz.func137,Tryz.ntmps137
 go_wp2_with (first
  | (refine ZFD 66 rfl ?_))
 rw[HW1.out]
 refine Stop.intro ?_
 refine ZB rfl 66 _ rfl nb (no+i * 13) rfl _ _ HLD.out Tryz.underlying66 rfl (by kernel_rfl) ?_
 go_wp2_with (first
  | (go_at_call 154
     refine(HFW.out).mono ?_
     rintro e w2 ⟨fv,rfl,hf,hb2⟩
     obtain⟨fA,fc,rfl,-⟩:=id hf
     have H2:=Hd_ (And.intro hf hb2)
     clear hf hb2))
 have HS1:=Hd_ hs1
 obtain⟨TS,hTS⟩ : ∃ TS,w2.heap.size=TS:=⟨_,rfl⟩
 have HTE:=Hd_ hTS
 clear hTS hs1 g3 p0 HW1
 go_loopw [9,11] (fun v9 v11 wr=>∃ z:Nat,v11=.int .i64 z∧z≤(fol2 n).length∧Hid (wr.ownsRow w.heap.size 3 1 v9 (goesL R nd false ((fol2 n).take z)).length (ints (goesL R nd false ((fol2 n).take z))))∧Hid (Below w.heap.size w wr)∧Hid (Blk wr (w.heap.size+1) 157 [.int .i64 (i:Nat),.bool false])∧Hid (Ints (on wr (fun b=>b < TS∧w.heap.size+1 < b)) (.slice fA (fol2 n).length fc) (fol2 n))∧Hid (∀ b,v9.ownBlock=some b→¬ (b < TS∧w.heap.size+1 < b))∧Hid (TS≤wr.heap.size)) (fun _ v11 _=>(fol2 n).length - (intOf v11).toNat)
 case atStart=>exact⟨0,rfl,Nat.zero_le _,Hd_ (World.ownsRow_nil _ _ _ _),Hd_ (HB1.out.trans (H2.out.2.mono HB1.out.size)),Hd_ (HSP0.out.below H2.out.2 HSP0.out.lt),Hd_ (H2.out.1.mono (ZAH _ fun b h1 h2=>⟨by have:=HTE.out;omega,by have:=HS1.out;omega⟩)),Hd_ (fun b hb=>by cases hb),Hd_ (by have:=HTE.out;omega)⟩
 case round =>
  obtain⟨z,rfl,hz,HOW,HBW,HSP,HLI,HSEP,HTS2⟩:=hrel
  obtain⟨vA,vc,rfl,-⟩:=ZF HOW.out
  by_cases hzL:z < (fol2 n).length
  ·obtain⟨y,hy⟩ : ∃ y,(fol2 n)[z]? = some y:=⟨_,List.getElem?_eq_getElem hzL⟩
   have hyb:=HFO.out y (List.mem_of_getElem? hy)
   obtain⟨yn,rfl⟩:=Int.eq_ofNat_of_zero_le hyb.1
   obtain⟨tb,tof,rfl,htc⟩:=HLI.out.at_ hy
   rw[Nat.mul_one] at htc
   have htc2:wr.cell? ⟨tb,tof+z,none⟩=some (.int .i64 (yn:Nat)):=(ZDH htc).1
   have HTC:=Hd_ htc2
   have HTK:Hid ((fol2 n).take (z+1)=(fol2 n).take z ++ [(yn:Int)]):=Hd_ (by
    rw[List.take_succ_eq_append_getElem hzL]
    congr 2
    rw[List.getElem?_eq_getElem hzL] at hy
    injection hy)
   have hgl:=ZDT R nd false ((fol2 n).take z)
   have hgl2:(goesL R nd false ((fol2 n).take z)).length≤2:=by rw[List.length_take] at hgl;omega
   have z0:(0:Int)≤z:=by omega
   have zL:(z:Int) < (fol2 n).length:=by omega
   have z2:(z:Int)≤2:=by omega
   have y0:(0:Int)≤yn:=by omega
   have y4:yn≤4096:=by omega
   have hcn:=HCN.out wr (yn:Int) HBW.out
   clear hy htc hyb hgl
   by_cases hin:(yn:Int)∈R
   ·rw[decide_eq_true hin] at hcn
    have HCT:=Hd_ hcn
    have HIN:=Hd_ hin
    clear hin hcn
    go_wp2_with (first
     | (go_at_call 130
        refine(HCT.out).mono ?_
        rintro e w3 ⟨rfl,rfl⟩))
    go_roundw
    case rel=>exact⟨z+1,by go_num,by omega,by rw[HTK.out,ZBP,if_pos HIN.out,List.append_nil];exact HOW,HBW,HSP,HLI,HSEP,HTS2⟩
    case measure=>simp[intOf];omega
   ·rw[decide_eq_false hin] at hcn
    have HCT:=Hd_ hcn
    have HIN:=Hd_ hin
    clear hin hcn
    go_wp2_with (first
     | (go_at_call 130
        refine(HCT.out).mono ?_
        rintro e w3 ⟨rfl,rfl⟩))
    obtain⟨W0,rfl⟩ : ∃ W0:World,W0=wr:=⟨_,rfl⟩
    have HTS:Hid (TS≤W0.heap.size):=Hd_ (by have:=HTS2.out;omega)
    obtain⟨q,hq⟩ : ∃ q,((yn:Int) == nd)=q:=⟨_,rfl⟩
    have HNX:Hid (nxt nd false (yn:Int)=num yn q):=Hd_ (by unfold nxt;rw[Int.toNat_natCast,← hq];rfl)
    have HQ:=Hd_ hq
    clear hq
    refine ZAG fun a0 ha0=>?_
    have t9:a0.eval (.tmp 9)=.slice vA (goesL R nd false ((fol2 n).take z)).length vc:=by rw[ha0];rfl
    have t10:a0.eval (.tmp 10)=.slice (some ⟨tb,tof,none⟩) (fol2 n).length fc:=by rw[ha0];rfl
    have t11:a0.eval (.tmp 11)=.int .i64 (z:Nat):=by rw[ha0];rfl
    have t7:a0.eval (.tmp 7)=.pointer (some ⟨w.heap.size+1,0,none⟩):=by rw[ha0];rfl
    have t2:a0.eval (.tmp 2)=.int .i64 nd:=by rw[ha0];rfl
    have hsz:a0.tmps.size=52:=by rw[ha0];rfl
    have HSZ:=Hd_ hsz
    have HA0:=Hd_ ha0;clear ha0
    refine ZCw [(32,.is (.slice vA (goesL R nd false ((fol2 n).take z)).length vc)),(33,.is (.slice (some ⟨tb,tof,none⟩) (fol2 n).length fc)),(34,.is (.int .i64 (z:Nat))),(35,.is (.pointer (some ⟨tb,tof+z,none⟩))),(36,.is (.int .i64 (yn:Nat))),(37,.is (.pointer (some ⟨w.heap.size+1,1,none⟩))),(38,.is (.bool false)),(39,.is (.bool false)),(40,.is (.slice (some ⟨tb,tof,none⟩) (fol2 n).length fc)),(41,.is (.int .i64 (z:Nat))),(42,.is (.pointer (some ⟨tb,tof+z,none⟩))),(43,.is (.int .i64 (yn:Nat))),(44,.is (.int .i64 nd)),(45,.is (.bool q)),(46,.is (.bool q)),(47,.is (.agg #[.int .i64 (yn:Nat),.bool q])),(48,.is (.int .i64 (num yn q:Nat))),(49,sr1 W0 3 [.int .i64 (num yn q:Nat)])] 18 50 9 (RdA W0 [(32,.is (.slice vA (goesL R nd false ((fol2 n).take z)).length vc)),(33,.is (.slice (some ⟨tb,tof,none⟩) (fol2 n).length fc)),(34,.is (.int .i64 (z:Nat))),(35,.is (.pointer (some ⟨tb,tof+z,none⟩))),(36,.is (.int .i64 (yn:Nat))),(37,.is (.pointer (some ⟨w.heap.size+1,1,none⟩))),(38,.is (.bool false)),(39,.is (.bool false)),(40,.is (.slice (some ⟨tb,tof,none⟩) (fol2 n).length fc)),(41,.is (.int .i64 (z:Nat))),(42,.is (.pointer (some ⟨tb,tof+z,none⟩))),(43,.is (.int .i64 (yn:Nat))),(44,.is (.int .i64 nd)),(45,.is (.bool q)),(46,.is (.bool q)),(47,.is (.agg #[.int .i64 (yn:Nat),.bool q])),(48,.is (.int .i64 (num yn q:Nat))),(49,sr1 W0 3 [.int .i64 (num yn q:Nat)])] a0 18 w.heap.size 3 1 (.slice vA (goesL R nd false ((fol2 n).take z)).length vc) (goesL R nd false ((fol2 n).take z)).length (ints (goesL R nd false ((fol2 n).take z))) [.int .i64 (num yn q:Nat)]) (by kernel_rfl) (by kernel_rfl) rfl ?steps ?done
    case steps =>
     refine⟨?_,?_,?_,?_,?_,?_,?_,?_,?_,?_,?_,?_,?_,?_,?_,?_,?_,?_,?_,?_,trivial⟩
     ·
      refine JA.step (slots:=slGo) rfl (by decide) (by rw[hsz];decide) (32,.is (.slice vA (goesL R nd false ((fol2 n).take z)).length vc)) rfl rfl rfl (show 0 < 18 from by decide) ?_
      intro D a wx K hD hp h hK
      have hfr:Fr slGo a0 a:=h.fr
      refine ZD rfl ?_
      have q9:a.eval (.tmp 9)=.slice vA (goesL R nd false ((fol2 n).take z)).length vc:=(hfr.eval (j:=9) (by decide)).trans t9
      exact ZP hK rfl q9
     ·
      refine JA.step (slots:=slGo) rfl (by decide) (by rw[hsz];decide) (33,.is (.slice (some ⟨tb,tof,none⟩) (fol2 n).length fc)) rfl rfl rfl (show 1 < 18 from by decide) ?_
      intro D a wx K hD hp h hK
      have hfr:Fr slGo a0 a:=h.fr
      refine ZD rfl ?_
      have q10:a.eval (.tmp 10)=.slice (some ⟨tb,tof,none⟩) (fol2 n).length fc:=(hfr.eval (j:=10) (by decide)).trans t10
      exact ZP hK rfl q10
     ·
      refine JA.step (slots:=slGo) rfl (by decide) (by rw[hsz];decide) (34,.is (.int .i64 (z:Nat))) rfl rfl rfl (show 2 < 18 from by decide) ?_
      intro D a wx K hD hp h hK
      have hfr:Fr slGo a0 a:=h.fr
      refine ZD rfl ?_
      have q11:a.eval (.tmp 11)=.int .i64 (z:Nat):=(hfr.eval (j:=11) (by decide)).trans t11
      exact ZP hK rfl q11
     ·
      refine JA.step (slots:=slGo) rfl (by decide) (by rw[hsz];decide) (35,.is (.pointer (some ⟨tb,tof+z,none⟩))) rfl rfl rfl (show 3 < 18 from by decide) ?_
      intro D a wx K hD hp h hK
      have hfr:Fr slGo a0 a:=h.fr
      refine ZD rfl ?_
      have q33:a.eval (.tmp 33)=.slice (some ⟨tb,tof,none⟩) (fol2 n).length fc:=h.val 1 _ rfl (hp 1 (by decide))
      have q34:a.eval (.tmp 34)=.int .i64 (z:Nat):=h.val 2 _ rfl (hp 2 (by decide))
      have z2:(0:Int)≤(z:Nat):=by omega
      have z3:((z:Nat) : Int) < (fol2 n).length:=by omega
      refine ZM hK (by clear hfr;generalize a.eval=ρ at *;go_simp)
     ·
      refine JA.step (slots:=slGo) rfl (by decide) (by rw[hsz];decide) (36,.is (.int .i64 (yn:Nat))) rfl rfl rfl (show 4 < 18 from by decide) ?_
      intro D a wx K hD hp h hK
      have hfr:Fr slGo a0 a:=h.fr
      refine ZD rfl ?_
      have q35:a.eval (.tmp 35)=.pointer (some ⟨tb,tof+z,none⟩):=h.val 3 _ rfl (hp 3 (by decide))
      have z1:wx.cell? ⟨tb,tof+z,none⟩=some (.int .i64 (yn:Nat)):=ZA h.below _ _ _ HTC.out
      refine ZM hK (by clear hfr;generalize a.eval=ρ at *;go_simp)
     ·
      refine JA.step (slots:=slGo) rfl (by decide) (by rw[hsz];decide) (37,.is (.pointer (some ⟨w.heap.size+1,1,none⟩))) rfl rfl rfl (show 5 < 18 from by decide) ?_
      intro D a wx K hD hp h hK
      have hfr:Fr slGo a0 a:=h.fr
      refine ZD rfl ?_
      have q7:a.eval (.tmp 7)=.pointer (some ⟨w.heap.size+1,0,none⟩):=(hfr.eval (j:=7) (by decide)).trans t7
      refine ZM hK (by clear hfr;generalize a.eval=ρ at *;go_simp)
     ·
      refine JA.step (slots:=slGo) rfl (by decide) (by rw[hsz];decide) (38,.is (.bool false)) rfl rfl rfl (show 6 < 18 from by decide) ?_
      intro D a wx K hD hp h hK
      have hfr:Fr slGo a0 a:=h.fr
      refine ZD rfl ?_
      have q37:a.eval (.tmp 37)=.pointer (some ⟨w.heap.size+1,1,none⟩):=h.val 5 _ rfl (hp 5 (by decide))
      have z1:wx.cell? ⟨w.heap.size+1,1,none⟩=some (.bool false):=(HSP.out.below h.below HSP.out.lt).cell 1
      refine ZM hK (by clear hfr;generalize a.eval=ρ at *;go_simp)
     ·
      refine JA.step (slots:=slGo) rfl (by decide) (by rw[hsz];decide) (39,.is (.bool false)) rfl rfl rfl (show 7 < 18 from by decide) ?_
      intro D a wx K hD hp h hK
      have hfr:Fr slGo a0 a:=h.fr
      refine ZD rfl ?_
      have q38:a.eval (.tmp 38)=.bool false:=h.val 6 _ rfl (hp 6 (by decide))
      exact ZP hK rfl q38
     ·
      refine JA.step (slots:=slGo) rfl (by decide) (by rw[hsz];decide) (40,.is (.slice (some ⟨tb,tof,none⟩) (fol2 n).length fc)) rfl rfl rfl (show 8 < 18 from by decide) ?_
      intro D a wx K hD hp h hK
      have hfr:Fr slGo a0 a:=h.fr
      refine ZAh rfl rfl (show a.eval (.tmp 39)=.bool false from h.val 7 _ rfl (hp 7 (by decide))) ?_
      have q10:a.eval (.tmp 10)=.slice (some ⟨tb,tof,none⟩) (fol2 n).length fc:=(hfr.eval (j:=10) (by decide)).trans t10
      exact ZP hK rfl q10
     ·
      refine JA.step (slots:=slGo) rfl (by decide) (by rw[hsz];decide) (41,.is (.int .i64 (z:Nat))) rfl rfl rfl (show 9 < 18 from by decide) ?_
      intro D a wx K hD hp h hK
      have hfr:Fr slGo a0 a:=h.fr
      refine ZAh rfl rfl (show a.eval (.tmp 39)=.bool false from h.val 7 _ rfl (hp 7 (by decide))) ?_
      have q11:a.eval (.tmp 11)=.int .i64 (z:Nat):=(hfr.eval (j:=11) (by decide)).trans t11
      exact ZP hK rfl q11
     ·
      refine JA.step (slots:=slGo) rfl (by decide) (by rw[hsz];decide) (42,.is (.pointer (some ⟨tb,tof+z,none⟩))) rfl rfl rfl (show 10 < 18 from by decide) ?_
      intro D a wx K hD hp h hK
      have hfr:Fr slGo a0 a:=h.fr
      refine ZAh rfl rfl (show a.eval (.tmp 39)=.bool false from h.val 7 _ rfl (hp 7 (by decide))) ?_
      have q40:a.eval (.tmp 40)=.slice (some ⟨tb,tof,none⟩) (fol2 n).length fc:=h.val 8 _ rfl (hp 8 (by decide))
      have q41:a.eval (.tmp 41)=.int .i64 (z:Nat):=h.val 9 _ rfl (hp 9 (by decide))
      have z2:(0:Int)≤(z:Nat):=by omega
      have z3:((z:Nat) : Int) < (fol2 n).length:=by omega
      refine ZM hK (by clear hfr;generalize a.eval=ρ at *;go_simp)
     ·
      refine JA.step (slots:=slGo) rfl (by decide) (by rw[hsz];decide) (43,.is (.int .i64 (yn:Nat))) rfl rfl rfl (show 11 < 18 from by decide) ?_
      intro D a wx K hD hp h hK
      have hfr:Fr slGo a0 a:=h.fr
      refine ZAh rfl rfl (show a.eval (.tmp 39)=.bool false from h.val 7 _ rfl (hp 7 (by decide))) ?_
      have q42:a.eval (.tmp 42)=.pointer (some ⟨tb,tof+z,none⟩):=h.val 10 _ rfl (hp 10 (by decide))
      have z1:wx.cell? ⟨tb,tof+z,none⟩=some (.int .i64 (yn:Nat)):=ZA h.below _ _ _ HTC.out
      refine ZM hK (by clear hfr;generalize a.eval=ρ at *;go_simp)
     ·
      refine JA.step (slots:=slGo) rfl (by decide) (by rw[hsz];decide) (44,.is (.int .i64 nd)) rfl rfl rfl (show 12 < 18 from by decide) ?_
      intro D a wx K hD hp h hK
      have hfr:Fr slGo a0 a:=h.fr
      refine ZAh rfl rfl (show a.eval (.tmp 39)=.bool false from h.val 7 _ rfl (hp 7 (by decide))) ?_
      have q2:a.eval (.tmp 2)=.int .i64 nd:=(hfr.eval (j:=2) (by decide)).trans t2
      exact ZP hK rfl q2
     ·
      refine JA.step (slots:=slGo) rfl (by decide) (by rw[hsz];decide) (45,.is (.bool q)) rfl rfl rfl (show 13 < 18 from by decide) ?_
      intro D a wx K hD hp h hK
      have hfr:Fr slGo a0 a:=h.fr
      refine ZAh rfl rfl (show a.eval (.tmp 39)=.bool false from h.val 7 _ rfl (hp 7 (by decide))) ?_
      have q43:a.eval (.tmp 43)=.int .i64 (yn:Nat):=h.val 11 _ rfl (hp 11 (by decide))
      have q44:a.eval (.tmp 44)=.int .i64 nd:=h.val 12 _ rfl (hp 12 (by decide))
      have z2:((yn:Int) == nd)=q:=HQ.out
      refine ZM hK (by clear hfr;generalize a.eval=ρ at *;go_simp)
     ·
      refine JA.step (slots:=slGo) rfl (by decide) (by rw[hsz];decide) (46,.is (.bool q)) rfl rfl rfl (show 14 < 18 from by decide) ?_
      intro D a wx K hD hp h hK
      have hfr:Fr slGo a0 a:=h.fr
      refine ZD rfl ?_
      have q39:a.eval (.tmp 39)=.bool false:=h.val 7 _ rfl (hp 7 (by decide))
      have q45:a.eval (.tmp 45)=.bool q:=h.val 13 _ rfl (hp 13 (by decide))
      have c0:a.eval (.const (Value.bool true))=(Value.bool true):=rfl
      refine ZM hK (by clear hfr;generalize a.eval=ρ at *;go_simp)
     ·
      refine JA.step (slots:=slGo) rfl (by decide) (by rw[hsz];decide) (47,.is (.agg #[.int .i64 (yn:Nat),.bool q])) rfl rfl rfl (show 15 < 18 from by decide) ?_
      intro D a wx K hD hp h hK
      have hfr:Fr slGo a0 a:=h.fr
      refine ZD rfl ?_
      have q36:a.eval (.tmp 36)=.int .i64 (yn:Nat):=h.val 4 _ rfl (hp 4 (by decide))
      have q46:a.eval (.tmp 46)=.bool q:=h.val 14 _ rfl (hp 14 (by decide))
      refine ZM hK (by clear hfr;generalize a.eval=ρ at *;go_simp)
     ·
      refine JA.step (slots:=slGo) rfl (by decide) (by rw[hsz];decide) (48,.is (.int .i64 (num yn q:Nat))) rfl rfl rfl (show 16 < 18 from by decide) ?_
      intro D a wx K hD hp h hK
      have hfr:Fr slGo a0 a:=h.fr
      refine ZD rfl ?_
      have q47:a.eval (.tmp 47)=.agg #[.int .i64 (yn:Nat),.bool q]:=h.val 15 _ rfl (hp 15 (by decide))
      refine Zn hK Tryz.func174 (by kernel_rfl) (by kernel_rfl) rfl #[.agg #[.int .i64 (yn:Nat),.bool q]] (by simp only[List.map_toArray,List.map_cons,List.map_nil,q47];try rfl) ?_
      refine(ZD6 yn q wx (by omega)).mono ?_
      rintro e w' ⟨rfl,hb⟩
      exact⟨_,rfl,hb,rfl⟩
     ·
      refine JA.step (slots:=slGo) rfl (by decide) (by rw[hsz];decide) (49,sr1 W0 3 [.int .i64 (num yn q:Nat)]) rfl rfl rfl (show 17 < 18 from by decide) ?_
      intro D a wx K hD hp h hK
      have hfr:Fr slGo a0 a:=h.fr
      refine ZD rfl ?_
      have q48:a.eval (.tmp 48)=.int .i64 (num yn q:Nat):=h.val 16 _ rfl (hp 16 (by decide))
      refine ZDz hK rfl (by clear hfr hK h;generalize a.eval=ρ at *;go_simp) fun w' hb' hk=>⟨wx.heap.size,rfl,h.below.size,hk⟩
     ·
      refine JA.app (slots:=slGo) rfl rfl rfl rfl (by kernel_rfl) (by rw[hsz];decide) ?_
      intro D a wx K hall h hK
      obtain⟨X,e,hX,hXb⟩:=h.val 17 _ rfl (hall 17 (by decide))
      refine ZD2 ZY rfl _ _ rfl w.heap.size _ _ _ (h.val 0 _ rfl (hall 0 (by decide))) (ZS HOW.out h.below) X 0 1 [.int .i64 (num yn q:Nat)] e rfl (fun j u hj=>by rw[Nat.zero_add,hXb.cell];exact hj) (by simp[Value.oneCell']) (by omega) (by decide) (by have:=h.below.size;have:=HBW.out.size;omega) ?_
      intro v' w' h1 h2 h3
      exact hK _ _ ⟨wx,h.below,h.fr,fun i s hi hs=>h.val i s hs (hall i hi),h1,h2,h3⟩
     ·
      exact JA.asg rfl rfl rfl (by decide)
    case done =>
     intro a wz v hRd
     obtain⟨w1,hb1,hf1,hv1,ho1,hg1,hb2⟩:=hRd
     have hfin:=Fr.allW (slots:=slGo) hf1 (by rw[hsz];decide)
     simp only[putW,slGo] at hfin
     rw[(show a.eval (.tmp 32)=.slice vA (goesL R nd false ((fol2 n).take z)).length vc from hv1 0 _ (by decide) rfl),(show a.eval (.tmp 33)=.slice (some ⟨tb,tof,none⟩) (fol2 n).length fc from hv1 1 _ (by decide) rfl),(show a.eval (.tmp 34)=.int .i64 (z:Nat) from hv1 2 _ (by decide) rfl),(show a.eval (.tmp 35)=.pointer (some ⟨tb,tof+z,none⟩) from hv1 3 _ (by decide) rfl),(show a.eval (.tmp 36)=.int .i64 (yn:Nat) from hv1 4 _ (by decide) rfl),(show a.eval (.tmp 37)=.pointer (some ⟨w.heap.size+1,1,none⟩) from hv1 5 _ (by decide) rfl),(show a.eval (.tmp 38)=.bool false from hv1 6 _ (by decide) rfl),(show a.eval (.tmp 39)=.bool false from hv1 7 _ (by decide) rfl),(show a.eval (.tmp 40)=.slice (some ⟨tb,tof,none⟩) (fol2 n).length fc from hv1 8 _ (by decide) rfl),(show a.eval (.tmp 41)=.int .i64 (z:Nat) from hv1 9 _ (by decide) rfl),(show a.eval (.tmp 42)=.pointer (some ⟨tb,tof+z,none⟩) from hv1 10 _ (by decide) rfl),(show a.eval (.tmp 43)=.int .i64 (yn:Nat) from hv1 11 _ (by decide) rfl),(show a.eval (.tmp 44)=.int .i64 nd from hv1 12 _ (by decide) rfl),(show a.eval (.tmp 45)=.bool q from hv1 13 _ (by decide) rfl),(show a.eval (.tmp 46)=.bool q from hv1 14 _ (by decide) rfl),(show a.eval (.tmp 47)=.agg #[.int .i64 (yn:Nat),.bool q] from hv1 15 _ (by decide) rfl),(show a.eval (.tmp 48)=.int .i64 (num yn q:Nat) from hv1 16 _ (by decide) rfl)] at hfin
     generalize a.eval (.tmp 49)=r49 at hfin
     rw[hfin,HA0.out]
     clear hfin HA0 hv1 hf1 HSZ
     simp only[Act.put,List.setIfInBounds_toArray,List.set_cons_zero,List.set_cons_succ]
     obtain⟨gA,gcc,rfl,-⟩:=ZF ho1
     have hgw:=(HBW.out.trans (hb1.mono HBW.out.size)).grown hg1 (by have:=hb1.size;have:=HBW.out.size;omega) (fun b hb=>Zg HOW.out b hb)
     have hsp:=(HSP.out.below hb1 HSP.out.lt).grown hg1 (ZO (ZS HOW.out hb1) (HSP.out.below hb1 HSP.out.lt) (by decide))
     have hli:=HLI.out.mono (ZZ (S':=fun b=>b < TS∧w.heap.size+1 < b) (fun b hb hlt=>(hg1.block b (Nat.lt_of_lt_of_le hlt hb1.size) fun e=>HSEP.out b e.symm hb).trans (hb1.block b hlt)) fun _ h=>h)
     have HE:=Hd_ (And.intro ho1 (And.intro hgw (And.intro hsp hli)))
     have HOB:=Hd_ (And.intro hb2 hb1.size)
     have HSW:=Hd_ hg1.size
     clear ho1 hgw hsp hli hg1 hb1 hb2
     go_wp2
     go_roundw
     case rel =>
      refine⟨z+1,by go_num,by omega,Hd_ ?_,Hd_ HE.out.2.1,Hd_ HE.out.2.2.1,Hd_ HE.out.2.2.2,Hd_ ?_,Hd_ ?_⟩
      ·rw[HTK.out,ZBP,if_neg HIN.out]
       have:=HE.out.1
       simpa [ints,HNX.out] using this
      ·intro b hb hq
       rcases HOB.out.1 with e | e
       ·exact HSEP.out b (by rw[← e];exact hb) hq
       ·rw[e] at hb;injection hb with hb;have:=HOB.out.2;have:=HTS.out;omega
      ·have:=HOB.out.2;have:=HTS.out;have:=HE.out.2.1.size;exact Nat.le_trans (Nat.le_trans HTS.out HOB.out.2) HSW.out
     case measure=>simp[intOf];omega
  ·obtain rfl:z=(fol2 n).length:=by omega
   have hfin:=HOW.out
   rw[List.take_length] at hfin
   have HF:=Hd_ hfin
   clear hfin
   go_wp2
   go_ret
   exact⟨_,rfl,by have:=HF.out;rwa [List.take_length],HBW.out⟩
end Go.Proofs.YtffgnjgphkdodaaGreatDoor
