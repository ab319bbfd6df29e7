import Derived.Test.YtffgnjgphkdodaaGreatDoorV14
import Derived.Test.YtffgnjgphkdodaaGreatDoorV20
import Derived.Test.YtffgnjgphkdodaaGreatDoorV19
import Derived.Test.YtffgnjgphkdodaaGreatDoorV24
import Derived.Test.YtffgnjgphkdodaaGreatDoorV25
import Derived.Test.YtffgnjgphkdodaaGreatDoorV9
namespace Go.Proofs.YtffgnjgphkdodaaGreatDoor
open Go Go.RowKit
set_option maxRecDepth 100000 in
set_option maxHeartbeats 2000000 in
theorem ZEg (u:Unit_) (g:Graph) (cs:List Value) (cv:Value) (w:World) (hrg:RightG u g) (hg:GraphV (cmap w) cs g) (hcl:Clss (cmap w) cv ((List.range u.shared.length).map fun x:Nat=>classF u (x:Int))) :
  Calls Tryz.prog 54 #[.agg cs.toArray,cv] w fun e w'=>∃ v,e=.returned v∧w'.ownsRow w.heap.size 3 1 v (stL u g).length (ints (stL u g))∧Below w.heap.size w w':=by
 have HRE:=Hd_ fun w1 (h:Below w.heap.size w w1)=>ZAc g cs w1 hrg.whole (hg.mono (ZA h))
 have HST:=Hd_ fun w1 (h:Below w.heap.size w w1) (n:Node) (hn:n∈g.nodes)=>ZCR u n cv w1 (hcl.mono (ZA h)) (fun h=>ZDg (hrg.nodes n hn) (.inr h))
 obtain⟨nv,rfl,hn⟩:=hg
 obtain⟨nA,nc,rfl,-⟩:=id hn
 obtain⟨cA,cc,rfl,-⟩:=id hcl
 have hcle:((List.range u.shared.length).map fun x:Nat=>classF u (x:Int)).length=u.shared.length:=by simp
 rw[hcle] at HST ⊢
 have bn:=hn.len.2.2
 have hpos:=hrg.whole.pos
 have hmost:=hrg.whole.most
 obtain⟨N,HN⟩ : ∃ N,Hid (g.nodes.length=N):=⟨_,rfl⟩
 rw[HN.out] at bn hpos hmost HRE ⊢
 have HG:=Hd_ hn
 have hbx:=Blk.new w 69 [.string g.name,.int .i64 g.locals,.int .i64 g.slots,.slice nA N nc]
 have hb0:=ZC w (.cells #[.string g.name,.int .i64 g.locals,.int .i64 g.slots,.slice nA N nc] 69)
 have HBX:=Hd_ (And.intro hbx hb0)
 clear hbx hb0 hn hcl hrg hcle
 go_enter Tryz.func54,Tryz.ntmps54
 go_wp2_with (first
  | (go_at_call 91
     refine(HRE.out _ HBX.out.2).mono ?_
     rintro e w1 ⟨rv,rl,rfl,hrv,hrl,hrn,hb1⟩
     have hrl':rl.length=N:=by have:=HN.out;omega
     obtain⟨rA,rc,rfl,-⟩:=id hrv
     rw[hrl'] at hrv ⊢
     have hbx1:=HBX.out.1.below hb1 HBX.out.1.lt
     have c3:=hbx1.cell 3
     have hbl:=hbx1.lt
     have H1:=Hd_ (And.intro (HBX.out.2.trans (hb1.mono HBX.out.2.size)) (And.intro hbx1 (And.intro hrv (And.intro hrl' hrn))))
     clear hb1 hbx1 hrv hrl hrl' hrn))
 go_loopw [6,14] (fun v6 v14 wr=>∃ k:Nat,v14=.int .i64 k∧k≤N∧Hid (wr.ownsRow w1.heap.size 3 1 v6 (stK u g k).length (ints (stK u g k)))∧Hid (Below w1.heap.size w1 wr)) (fun _ v14 _=>N - (intOf v14).toNat)
 case atStart=>exact⟨0,rfl,Nat.zero_le _,Hd_ (World.ownsRow_nil _ _ _ _),Hd_ (Below.refl _ _)⟩
 case round =>
  obtain⟨k,rfl,hk,HO,HB⟩:=hrel
  by_cases hlt:k < N
  ·obtain⟨nd,hnd⟩ : ∃ nd,g.nodes[k]? = some nd:=⟨g.nodes[k]'(by rw[HN.out];exact hlt),List.getElem?_eq_getElem _⟩
   obtain⟨nb,no,rfl,hnc⟩:=HG.out.at_ hnd
   have hbw:Below w.heap.size w wr:=H1.out.1.trans (HB.out.mono H1.out.1.size)
   have HLD:Hid (∀ j v,nd.cells[j]? = some v→wr.cell? ⟨nb,no+k * 13+j,none⟩=some v):=Hd_ fun j v h=>ZA hbw _ _ _ (hnc j v h)
   have HST2:=Hd_ (HST.out (wr.alloc (.cells nd.cells.toArray 66)) (hbw.alloc hbw.size _) nd (List.mem_of_getElem? hnd))
   have hkr:k < rl.length:=by rw[H1.out.2.2.2.1];exact hlt
   obtain⟨b,hb⟩ : ∃ b,rl[k]? = some b:=⟨_,List.getElem?_eq_getElem hkr⟩
   obtain⟨rb,ro,rfl,hrc⟩:=H1.out.2.2.1.at_ hb
   rw[Nat.mul_one] at hrc
   have rc1:wr.cell? ⟨rb,ro+k,none⟩=some (.bool b):=ZA HB.out _ _ _ (Zi hrc).1
   have hbr:b=true ↔ ReachC g (-1) k:=by rw[← H1.out.2.2.2.2 k,hb];simp
   have hss:=ZBG u g k
   rw[ZAd hnd hbr] at hss
   simp only at hss
   have hsl:=ZBH u g k
   obtain⟨sA,sc,rfl,-⟩:=ZF HO.out
   have k0:(0:Int)≤k:=by omega
   have kN:(k:Int) < N:=by omega
   have kS:(k:Int)≤4096:=by omega
   have hrbl:=World.block_lt_of_cell? _ _ rc1
   simp only at hrbl
   have how2:=HO.out.alloc (.cells nd.cells.toArray 66)
   have hs:=HB.out.size
   have HSS:=Hd_ hss
   have HB2:=Hd_ (HB.out.alloc hs (.cells nd.cells.toArray 66))
   have HO2:=Hd_ how2
   clear hnd hnc hkr hb hrc hbr hss hbw how2
   unfold Node.cells at HLD HST2 HB2 HO2
   obtain⟨sb,hsb⟩ : ∃ sb,stB u nd=sb:=⟨_,rfl⟩
   rw[hsb] at HST2 HSS
   clear hsb
   cases b with
   | false =>
    go_wp2_with (first
     | (refine ZB rfl 66 _ rfl nb (no+k * 13) rfl _ _ HLD.out Tryz.underlying66 rfl (by kernel_rfl) ?_))
    go_roundw
    case rel=>exact⟨k+1,by go_num,hlt,by rw[HSS.out];exact Hd_ (by simpa using HO2.out),HB2⟩
    case measure=>simp[intOf];omega
   | true =>
    cases sb with
    | false =>
     go_wp2_with (first
      | (refine ZB rfl 66 _ rfl nb (no+k * 13) rfl _ _ HLD.out Tryz.underlying66 rfl (by kernel_rfl) ?_)
      | (go_at_call 33
         refine(HST2.out).mono ?_
         rintro e w3 ⟨rfl,hb3⟩
         have hO3:=HO2.out.kept (row:=none) ⟨hb3.os,hb3.tape,hb3.output,hb3.size,fun k hk _=>hb3.block k hk⟩ (by cases sA <;> simp[Value.ownBlock])
         have H3:=Hd_ (And.intro (HB2.out.trans (hb3.mono HB2.out.size)) hO3)
         clear hb3 hO3))
     go_roundw
     case rel=>exact⟨k+1,by go_num,hlt,by rw[HSS.out];exact Hd_ (by simpa using H3.out.2),Hd_ H3.out.1⟩
     case measure=>simp[intOf];omega
    | true =>
     go_wp2_with (first
      | (refine ZB rfl 66 _ rfl nb (no+k * 13) rfl _ _ HLD.out Tryz.underlying66 rfl (by kernel_rfl) ?_)
      | (go_at_call 33
         refine(HST2.out).mono ?_
         rintro e w3 ⟨rfl,hb3⟩
         have hO3:=HO2.out.kept (row:=none) ⟨hb3.os,hb3.tape,hb3.output,hb3.size,fun k hk _=>hb3.block k hk⟩ (by cases sA <;> simp[Value.ownBlock])
         have hb4:=HB2.out.trans (hb3.mono HB2.out.size)
         have hO4:=hO3.alloc (.cells #[.int .i64 (k:Int)] 3)
         have H3:=Hd_ (And.intro hb4 hO4)
         have hs3:=hb4.size
         clear hb3 hO3 hb4 hO4)
      | (refine ZG rfl ?_))
     refine Stop.intro ?_
     refine ZT ZY rfl _ _ rfl w1.heap.size (.slice sA (stK u g k).length sc) (stK u g k).length (ints (stK u g k)) rfl H3.out.2 _ 0 1 [.int .i64 (k:Int)] rfl rfl (ZQ _ _ _ _ rfl) (by simp[Value.oneCell']) (by omega) (by decide) (by simp;omega) ?_
     intro v' w4 hown5 hgr hobn
     have hb5:=(H3.out.1.alloc H3.out.1.size (.cells #[.int .i64 (k:Int)] 3)).grown hgr (by simp;omega) (fun b hb=>(Zg HO.out b hb))
     have HF:=Hd_ (And.intro hown5 hb5)
     clear hown5 hgr hobn hb5
     go_wp2
     go_roundw
     case rel=>exact⟨k+1,by go_num,hlt,by rw[HSS.out];exact Hd_ (by simpa [ints] using HF.out.1),Hd_ HF.out.2⟩
     case measure=>simp[intOf];omega
  ·obtain rfl:k=N:=by omega
   have hfin:stK u g k=stL u g:=by unfold stL;rw[HN.out]
   rw[hfin] at HO
   go_wp2
   go_ret
   exact⟨_,rfl,Zc HO.out H1.out.1.size,H1.out.1.trans (HB.out.mono H1.out.1.size)⟩
def slRs:List Nat:=[25,26,27,28,29,30,31,32,33,34,35]
def srI (W0:World) (l:List Int) : SR:=⟨fun w v=>∃ A c,v=.slice A l.length c∧Ints (part w W0.heap.size w.heap.size) v l,fun hb ⟨A,c,e,h⟩=>⟨A,c,e,h.mono ((ZV fun b _ hlt=>hb.block b hlt).trans (Zh (Nat.le_refl _) hb.size))⟩⟩
def RsO (w:World) (g:Graph) (S:Nat→Prop) (t F:List Int) (N:Nat) (nb no nc:Nat) (gk:Nat) (v8 v9:Value) (wr:World) : Prop :=
 ∃ (l:List Bool) (T:List Int) (k:Nat),v9=.int .i64 (k:Nat)∧k≤T.length∧Hid (wr.ownsRow w.heap.size 3 1 v8 T.length (ints T))∧Hid (Blk wr (w.heap.size+1) 4 (bools l))∧Hid (DI g S F l (T.drop k) (fun _=>False))∧Hid (Below w.heap.size w wr) ∧
  Hid (Blk wr w.heap.size 69 [.string g.name,.int .i64 g.locals,.int .i64 g.slots,.slice (some ⟨nb,no,none⟩) N nc])∧left l+(T.length - k)≤gk∧left l+T.length≤8192
def RsR (w:World) (g:Graph) (S:Nat→Prop) (t F:List Int) (N:Nat) (nb no nc xn:Nat) (nd:Node) (M D k lo hi:Nat) (fv v8 v35:Value) (wr:World) : Prop :=
 ∃ (q:Nat) (T:List Int) (l:List Bool),v35=.int .i64 (q:Nat)∧q≤(fol nd).length∧Hid (wr.ownsRow w.heap.size 3 1 v8 T.length (ints T))∧Hid (Blk wr (w.heap.size+1) 4 (bools l))∧Hid (DP g S F l (T.drop (k+1)) xn nd (fol nd) q)∧Hid (Below w.heap.size w wr) ∧
  Hid (Ints (part wr lo hi) fv (fol nd))∧Hid (∀ b,v8.ownBlock=some b→b < lo∨hi≤b)∧hi≤wr.heap.size∧left l+T.length≤M∧left l+T.length≤M∧k < T.length ∧
  Hid (Blk wr w.heap.size 69 [.string g.name,.int .i64 g.locals,.int .i64 g.slots,.slice (some ⟨nb,no,none⟩) N nc])
set_option maxRecDepth 100000 in
set_option maxHeartbeats 8000000 in
theorem ZEh (g:Graph) (cs:List Value) (tv:Value) (t:List Int) (fv:Value) (F:List Int) (w:World) (hw:WholeG g) (hg:GraphV (cmap w) cs g) (ht:Ints (cmap w) tv t) (htb:∀ k∈t,0≤k∧k < g.nodes.length) (htl:t.length≤4096) (hF:Ints (cmap w) fv F) :
  Calls Tryz.prog 53 #[.agg cs.toArray,tv,fv] w fun e w'=>∃ out,e=.returned out∧w'.ownsRow w.heap.size 4 1 out g.nodes.length (bools (openG g t F))∧Below w.heap.size w w':=by
 obtain⟨nv,rfl,hn⟩:=hg
 obtain⟨nA,nc,rfl,-⟩:=id hn
 obtain⟨tA,tc0,rfl,-⟩:=id ht
 have bn:=hn.len.2.2
 have bt:=ht.len.2.2
 have hpos:=hw.pos
 have hmost:=hw.most
 obtain⟨n0,hn0⟩ : ∃ n,g.nodes[0]? = some n:=⟨_,List.getElem?_eq_getElem hpos⟩
 obtain⟨nb,no,rfl,-⟩:=hn.at_ hn0
 clear hn0
 have hst:DI g (fun i=>(i:Int)∈t) F (List.replicate g.nodes.length false) t (fun _=>False):=DI.start F (fun i hi=>by have:=(htb _ hi).2;omega) (fun k hk=>⟨(htb k hk).1,by rw[Int.toNat_of_nonneg (htb k hk).1];exact hk⟩) (fun i hi=>hi)
 obtain⟨S,hS⟩ : ∃ S:Nat→Prop,(fun i:Nat=>(i:Int)∈t)=S:=⟨_,rfl⟩
 rw[hS] at hst
 have HS0:=Hd_ hS
 have hlen0:left (List.replicate g.nodes.length false)≤g.nodes.length:=by
  unfold left
  refine Nat.le_trans List.count_le_length ?_
  simp
 have HW:=Hd_ hw
 have HNV:=Hd_ hn
 have HFF:=Hd_ hF
 have HT0:=Hd_ ht
 obtain⟨N,HN⟩ : ∃ N,Hid (g.nodes.length=N):=⟨_,rfl⟩
 rw[HN.out] at bn hpos hmost hst hlen0 ⊢
 have HST:=Hd_ hst
 have HTB:Hid (N+t.length≤8192):=Hd_ (by omega)
 have hbx:=Blk.new w 69 [.string g.name,.int .i64 g.locals,.int .i64 g.slots,.slice (some ⟨nb,no,none⟩) N nc]
 have hb0:=ZC w (.cells #[.string g.name,.int .i64 g.locals,.int .i64 g.slots,.slice (some ⟨nb,no,none⟩) N nc] 69)
 have HBX:=Hd_ (And.intro hbx hb0)
 clear hbx hb0 hst hS hw hn hF ht htb
 go_enter Tryz.func53,Tryz.ntmps53
 go_wp2_with (first
  | (refine Zw ZB5 rfl rfl (.tmp 14) (.tmp 14) rfl N rfl rfl (by omega) (by omega) ?_)
  | (refine ZG rfl ?_))
 refine Stop.intro ?_
 have hown0:(((w.alloc (.cells #[.string g.name,.int .i64 g.locals,.int .i64 g.slots,.slice (some ⟨nb,no,none⟩) N nc] 69)).alloc (.cells (List.replicate N (Value.bool false)).toArray 4)).alloc (.cells #[] 3)).ownsRow (w.heap.size+2) 3 1 (.slice (some ⟨w.heap.size+2,0,none⟩) 0 0) 0 []:=Zv _ #[] _ (by simp) (by simp) (by decide) rfl [] rfl
 refine ZBE (R:=IntC) (fun _ _ _ _ h=>h) ZY rfl _ _ rfl (w.heap.size+2) (.slice (some ⟨w.heap.size+2,0,none⟩) 0 0) 0 [] rfl hown0 tA t.length tc0 t rfl (((HT0.out.mono (ZH _ _)).mono (ZH _ _)).mono (ZH _ _)) (fun _=>rfl) (by omega) (by decide) (by simp) ?_
 intro vT w1 howT hgr hobT
 have hgs:=hgr.size
 simp at hgs
 have hgb:Below w.heap.size w w1:=((HBX.out.2.alloc (by simp) _).alloc (by simp;omega) _).grown hgr (by simp;omega) (fun k hk=>by have hk:some (w.heap.size+2)=some k:=hk;injection hk with hk;omega)
 have hb8:=(((HBX.out.1.alloc (.cells (List.replicate N (Value.bool false)).toArray 4)).alloc (.cells #[] 3)).grown hgr (fun e=>by have e:some w.heap.size=some (w.heap.size+2):=e;injection e with e;omega))
 have ho8:Blk w1 (w.heap.size+1) 4 (bools (List.replicate N false)):=((Blk.of (ZN _ _ _ (by simp)) (by simp[bools]) : Blk ((w.alloc (.cells #[.string g.name,.int .i64 g.locals,.int .i64 g.slots,.slice (some ⟨nb,no,none⟩) N nc] 69)).alloc (.cells (List.replicate N (Value.bool false)).toArray 4)) (w.heap.size+1) 4 (bools (List.replicate N false))).alloc (.cells #[] 3)).grown hgr (fun e=>by have e:some (w.heap.size+1)=some (w.heap.size+2):=e;injection e with e;omega)
 obtain⟨tA1,tc1,rfl,-⟩:=ZF howT
 rw[Nat.zero_add,List.nil_append] at howT
 rw[Nat.zero_add]
 have HIN0:Hid (RsO w g S t F N nb no nc 8192 (.slice tA1 t.length tc1) (.int .i64 0) w1):=Hd_ ⟨List.replicate N false,t,0,rfl,Nat.zero_le _,Hd_ (Zc (by simpa [ints] using howT) (by omega)),Hd_ ho8,Hd_ (by simpa using HST.out),Hd_ hgb,Hd_ hb8,by have:=HTB.out;omega,by have:=HTB.out;omega⟩
 clear howT hgr hobT hgb hb8 ho8 hgs
 go_wp2
 go_loopg [8,9] 8192 (fun k v8 v9 wr=>RsO w g S t F N nb no nc k v8 v9 wr)
 case atStart=>exact HIN0.out
 case round =>
  obtain⟨l,T,k,rfl,hk,HO,HOUT,HDI,HBA,HGX,hgk,htb8⟩:=hrel
  have HT8:=Hd_ htb8
  have hyr:=HGX.out
  have c3:=hyr.cell 3
  have hxl:=HGX.out.lt
  have hol:=HOUT.out.lt
  clear hyr htb8
  by_cases hlt:k < T.length
  ·obtain⟨x,hx⟩ : ∃ x,T[k]? = some x:=⟨_,List.getElem?_eq_getElem hlt⟩
   have hdrop:T.drop k=x :: T.drop (k+1):=by
    rw[List.drop_eq_getElem_cons hlt]
    congr 1
    rw[List.getElem?_eq_getElem hlt] at hx
    injection hx
   have hdi:=HDI.out
   rw[hdrop] at hdi
   obtain⟨hx0,hxN,hxg⟩:=hdi.todo x (by simp)
   rw[HN.out] at hxN
   obtain⟨xn,rfl⟩:=Int.eq_ofNat_of_zero_le hx0
   rw[Int.toNat_natCast] at hxg
   have hpop:DI g S F l (T.drop (k+1)) (· = xn):=by
    have:=DI.pop (k:=(xn:Int)) (t:=T.drop (k+1)) hdi (fun y=>by rw[List.mem_cons];exact or_comm)
    rwa [Int.toNat_natCast] at this
   obtain⟨nd,hnd⟩ : ∃ nd,g.nodes[xn]? = some nd:=⟨g.nodes[xn]'(by rw[HN.out];omega),List.getElem?_eq_getElem _⟩
   have HP0:=Hd_ (DP.start hpop hxg hnd (fs:=fol nd) (fun j=>Iff.rfl))
   obtain⟨nb',no',e',hnc⟩:=HNV.out.at_ hnd
   injection e' with e'
   injection e' with e1 e2
   subst e1 e2
   have HLD:Hid (∀ w1,Below w.heap.size w w1→∀ j v,nd.cells[j]? = some v→w1.cell? ⟨nb,no+xn * 13+j,none⟩=some v):=Hd_ fun w1 h j v hj=>ZA h _ _ _ (hnc j v hj)
   obtain⟨tb,tc,e,-,htbl,-,htc⟩:=ZW HO.out (by omega)
   subst e
   have HTC:Hid (wr.cell? ⟨tb,k,none⟩=some (.int .i64 (xn:Nat))):=Hd_ ((htc k (by omega)).trans (by simp[ints,hx]))
   have hownT:=HO
   have HND:=Hd_ hnd
   have hf2:=ZAR nd
   have hkT:(k:Int) < T.length:=by omega
   have hxnN:(xn:Int) < N:=by omega
   clear hx hdrop hdi hxg hpop hnd hnc htc HDI HO
   go_wp2
   obtain⟨W0,rfl⟩ : ∃ W0:World,W0=wr:=⟨_,rfl⟩
   refine ZAG fun a0 ha0=>?_
   have t3:a0.eval (.tmp 3)=.pointer (some ⟨w.heap.size,0,none⟩):=by rw[ha0];rfl
   have t8:a0.eval (.tmp 8)=.slice (some ⟨tb,0,none⟩) T.length tc:=by rw[ha0];rfl
   have t9:a0.eval (.tmp 9)=.int .i64 (k:Nat):=by rw[ha0];rfl
   have hsz:a0.tmps.size=64:=by rw[ha0];rfl
   have HA0:=Hd_ ha0;clear ha0
   refine Zk [(25,.is (.pointer (some ⟨w.heap.size,3,none⟩))),(26,.is (.slice (some ⟨nb,no,none⟩) N nc)),(27,.is (.slice (some ⟨tb,0,none⟩) T.length tc)),(28,.is (.int .i64 (k:Nat))),(29,.is (.pointer (some ⟨tb,k,none⟩))),(30,.is (.int .i64 (xn:Nat))),(31,.is (.pointer (some ⟨nb,no+xn * 13,none⟩))),(32,.is (.agg #[.int .u8 nd.kind,.int .u8 nd.op,.int .i64 nd.slot,.int .i64 nd.thing,.bool nd.a.isSlot,.int .i64 nd.a.slot,.int .i64 nd.a.word,.bool nd.b.isSlot,.int .i64 nd.b.slot,.int .i64 nd.b.word,.int .i64 nd.next,.int .i64 nd.els,.int .i64 nd.origin])),(33,srI W0 (fol nd)),(34,.is (.int .i64 ((fol nd).length:Nat))),(35,.is (.int .i64 0))] (by kernel_rfl) (by kernel_rfl) ?steps ?done
   case steps =>
    refine⟨?_,?_,?_,?_,?_,?_,?_,?_,?_,?_,?_,trivial⟩
    ·
     refine JW.step (slots:=slRs) rfl (by decide) (by rw[hsz];decide) (25,.is (.pointer (some ⟨w.heap.size,3,none⟩))) rfl rfl rfl ?_
     intro D a wx K hD hp h hK
     have hfr:Fr slRs a0 a:=h.fr
     refine ZD rfl ?_
     have q3:a.eval (.tmp 3)=.pointer (some ⟨w.heap.size,0,none⟩):=(hfr.eval (j:=3) (by decide)).trans t3
     refine ZM hK (by clear hfr;generalize a.eval=ρ at *;go_simp)
    ·
     refine JW.step (slots:=slRs) rfl (by decide) (by rw[hsz];decide) (26,.is (.slice (some ⟨nb,no,none⟩) N nc)) rfl rfl rfl ?_
     intro D a wx K hD hp h hK
     have hfr:Fr slRs a0 a:=h.fr
     refine ZD rfl ?_
     have q25:a.eval (.tmp 25)=.pointer (some ⟨w.heap.size,3,none⟩):=h.val 0 _ rfl (hp 0 (by decide))
     have z1:wx.cell? ⟨w.heap.size,3,none⟩=some (.slice (some ⟨nb,no,none⟩) N nc):=(HGX.out.below h.below HGX.out.lt).cell 3
     refine ZM hK (by clear hfr;generalize a.eval=ρ at *;go_simp)
    ·
     refine JW.step (slots:=slRs) rfl (by decide) (by rw[hsz];decide) (27,.is (.slice (some ⟨tb,0,none⟩) T.length tc)) rfl rfl rfl ?_
     intro D a wx K hD hp h hK
     have hfr:Fr slRs a0 a:=h.fr
     refine ZD rfl ?_
     have q8:a.eval (.tmp 8)=.slice (some ⟨tb,0,none⟩) T.length tc:=(hfr.eval (j:=8) (by decide)).trans t8
     exact ZP hK rfl q8
    ·
     refine JW.step (slots:=slRs) rfl (by decide) (by rw[hsz];decide) (28,.is (.int .i64 (k:Nat))) rfl rfl rfl ?_
     intro D a wx K hD hp h hK
     have hfr:Fr slRs a0 a:=h.fr
     refine ZD rfl ?_
     have q9:a.eval (.tmp 9)=.int .i64 (k:Nat):=(hfr.eval (j:=9) (by decide)).trans t9
     exact ZP hK rfl q9
    ·
     refine JW.step (slots:=slRs) rfl (by decide) (by rw[hsz];decide) (29,.is (.pointer (some ⟨tb,k,none⟩))) rfl rfl rfl ?_
     intro D a wx K hD hp h hK
     have hfr:Fr slRs a0 a:=h.fr
     refine ZD rfl ?_
     have q27:a.eval (.tmp 27)=.slice (some ⟨tb,0,none⟩) T.length tc:=h.val 2 _ rfl (hp 2 (by decide))
     have q28:a.eval (.tmp 28)=.int .i64 (k:Nat):=h.val 3 _ rfl (hp 3 (by decide))
     have z2:(0:Int)≤(k:Nat):=by omega
     have z3:((k:Nat) : Int) < (T.length:Nat):=by omega
     refine ZM hK (by clear hfr;generalize a.eval=ρ at *;go_simp)
    ·
     refine JW.step (slots:=slRs) rfl (by decide) (by rw[hsz];decide) (30,.is (.int .i64 (xn:Nat))) rfl rfl rfl ?_
     intro D a wx K hD hp h hK
     have hfr:Fr slRs a0 a:=h.fr
     refine ZD rfl ?_
     have q29:a.eval (.tmp 29)=.pointer (some ⟨tb,k,none⟩):=h.val 4 _ rfl (hp 4 (by decide))
     have z1:wx.cell? ⟨tb,k,none⟩=some (.int .i64 (xn:Nat)):=ZA h.below _ _ _ HTC.out
     refine ZM hK (by clear hfr;generalize a.eval=ρ at *;go_simp)
    ·
     refine JW.step (slots:=slRs) rfl (by decide) (by rw[hsz];decide) (31,.is (.pointer (some ⟨nb,no+xn * 13,none⟩))) rfl rfl rfl ?_
     intro D a wx K hD hp h hK
     have hfr:Fr slRs a0 a:=h.fr
     refine ZD rfl ?_
     have q26:a.eval (.tmp 26)=.slice (some ⟨nb,no,none⟩) N nc:=h.val 1 _ rfl (hp 1 (by decide))
     have q30:a.eval (.tmp 30)=.int .i64 (xn:Nat):=h.val 5 _ rfl (hp 5 (by decide))
     have z2:(0:Int)≤(xn:Nat):=by omega
     have z3:((xn:Nat) : Int) < (N:Nat):=by omega
     refine ZM hK (by clear hfr;generalize a.eval=ρ at *;go_simp)
    ·
     refine JW.step (slots:=slRs) rfl (by decide) (by rw[hsz];decide) (32,.is (.agg #[.int .u8 nd.kind,.int .u8 nd.op,.int .i64 nd.slot,.int .i64 nd.thing,.bool nd.a.isSlot,.int .i64 nd.a.slot,.int .i64 nd.a.word,.bool nd.b.isSlot,.int .i64 nd.b.slot,.int .i64 nd.b.word,.int .i64 nd.next,.int .i64 nd.els,.int .i64 nd.origin])) rfl rfl rfl ?_
     intro D a wx K hD hp h hK
     have hfr:Fr slRs a0 a:=h.fr
     refine ZD rfl ?_
     have q31:a.eval (.tmp 31)=.pointer (some ⟨nb,no+xn * 13,none⟩):=h.val 6 _ rfl (hp 6 (by decide))
     refine Z0 hK 66 _ rfl nb (no+xn * 13) q31 _ (by have hb:=h.below;exact fun j v hj=>HLD.out _ (HBA.out.trans (hb.mono HBA.out.size)) j v hj) Tryz.underlying66 rfl (by kernel_rfl)
    ·
     refine JW.step (slots:=slRs) rfl (by decide) (by rw[hsz];decide) (33,srI W0 (fol nd)) rfl rfl rfl ?_
     intro D a wx K hD hp h hK
     have hfr:Fr slRs a0 a:=h.fr
     refine ZD rfl ?_
     have q32:a.eval (.tmp 32)=.agg #[.int .u8 nd.kind,.int .u8 nd.op,.int .i64 nd.slot,.int .i64 nd.thing,.bool nd.a.isSlot,.int .i64 nd.a.slot,.int .i64 nd.a.word,.bool nd.b.isSlot,.int .i64 nd.b.slot,.int .i64 nd.b.word,.int .i64 nd.next,.int .i64 nd.els,.int .i64 nd.origin]:=h.val 7 _ rfl (hp 7 (by decide))
     refine Zn hK Tryz.func63 (by kernel_rfl) (by kernel_rfl) rfl #[.agg nd.cells.toArray] (by simp only[List.map_toArray,List.map_cons,List.map_nil,q32];rfl) ?_
     refine(ZDw nd wx).mono ?_
     rintro e w' ⟨v,rfl,hf,hb⟩
     obtain⟨A,c,rfl,hr⟩:=id hf
     exact⟨_,rfl,hb,A,c,rfl,hf.mono (Zh h.below.size (Nat.le_refl _))⟩
    ·
     refine JW.step (slots:=slRs) rfl (by decide) (by rw[hsz];decide) (34,.is (.int .i64 ((fol nd).length:Nat))) rfl rfl rfl ?_
     intro D a wx K hD hp h hK
     have hfr:Fr slRs a0 a:=h.fr
     refine ZD rfl ?_
     have q33:=h.val 8 _ rfl (hp 8 (by decide))
     obtain⟨A,c,e,hi⟩:=q33
     have q33:a.eval (.tmp 33)=.slice A (fol nd).length c:=e
     clear hi
     refine ZM hK (by clear hfr;generalize a.eval=ρ at *;go_simp)
    ·
     refine JW.step (slots:=slRs) rfl (by decide) (by rw[hsz];decide) (35,.is (.int .i64 0)) rfl rfl rfl ?_
     intro D a wx K hD hp h hK
     have hfr:Fr slRs a0 a:=h.fr
     refine ZD rfl ?_
     have c0:a.eval (.const (.int .i64 0))=(.int .i64 0):=rfl
     refine ZM hK (by clear hfr;generalize a.eval=ρ at *;go_simp)
   case done =>
    intro D a wz hall h
    have hd:∀ i,i < 11→D i=true:=hall
    have hfin:=Fr.allW (slots:=slRs) h.fr (by rw[hsz];decide)
    obtain⟨A5,c5,v33,hi33⟩:=h.val 8 _ rfl (hd 8 (by decide))
    have v33:a.eval (.tmp 33)=_:=v33
    have hi33:Ints (part wz W0.heap.size wz.heap.size) (a.eval (.tmp 33)) (fol nd):=hi33
    rw[v33] at hi33
    simp only[putW,slRs] at hfin
    rw[(show a.eval (.tmp 25)=.pointer (some ⟨w.heap.size,3,none⟩) from h.val 0 _ rfl (hd 0 (by decide))),(show a.eval (.tmp 26)=.slice (some ⟨nb,no,none⟩) N nc from h.val 1 _ rfl (hd 1 (by decide))),(show a.eval (.tmp 27)=.slice (some ⟨tb,0,none⟩) T.length tc from h.val 2 _ rfl (hd 2 (by decide))),(show a.eval (.tmp 28)=.int .i64 (k:Nat) from h.val 3 _ rfl (hd 3 (by decide))),(show a.eval (.tmp 29)=.pointer (some ⟨tb,k,none⟩) from h.val 4 _ rfl (hd 4 (by decide))),(show a.eval (.tmp 30)=.int .i64 (xn:Nat) from h.val 5 _ rfl (hd 5 (by decide))),(show a.eval (.tmp 31)=.pointer (some ⟨nb,no+xn * 13,none⟩) from h.val 6 _ rfl (hd 6 (by decide))),(show a.eval (.tmp 32)=.agg #[.int .u8 nd.kind,.int .u8 nd.op,.int .i64 nd.slot,.int .i64 nd.thing,.bool nd.a.isSlot,.int .i64 nd.a.slot,.int .i64 nd.a.word,.bool nd.b.isSlot,.int .i64 nd.b.slot,.int .i64 nd.b.word,.int .i64 nd.next,.int .i64 nd.els,.int .i64 nd.origin] from h.val 7 _ rfl (hd 7 (by decide))),(show a.eval (.tmp 34)=.int .i64 ((fol nd).length:Nat) from h.val 9 _ rfl (hd 9 (by decide))),(show a.eval (.tmp 35)=.int .i64 0 from h.val 10 _ rfl (hd 10 (by decide))),v33] at hfin
    have hbz:=h.below
    rw[hfin,HA0.out]
    clear hfin HA0 h hall hd t3 t8 t9 hsz v33
    simp only[Act.put,List.setIfInBounds_toArray,List.set_cons_zero,List.set_cons_succ]
    have HZ:=Hd_ (And.intro hbz hi33)
    clear hbz hi33
    obtain⟨lo,hlo⟩ : ∃ lo,W0.heap.size=lo:=⟨_,rfl⟩
    obtain⟨hi,hhi⟩ : ∃ hi,wz.heap.size=hi:=⟨_,rfl⟩
    have hbw:=HBA.out.trans (HZ.out.1.mono HBA.out.size)
    have hX0:=HOUT.out.lt
    have hown2:=hownT.out.kept (row:=none) ⟨HZ.out.1.os,HZ.out.1.tape,HZ.out.1.output,HZ.out.1.size,fun k hk _=>HZ.out.1.block k hk⟩ (by simp[Value.ownBlock])
    have hob0:∀ b,(Value.slice (some ⟨tb,0,none⟩) T.length tc).ownBlock=some b→b < lo∨hi≤b:=fun b hb=>.inl (by rw[← hlo];exact(World.ownsRow.lt hownT.out b hb).2)
    have hszz:=HZ.out.1.size
    rw[hlo,hhi] at hszz
    have hxlo:w.heap.size+1 < lo:=by omega
    have HFV:Hid (Ints (part wz lo hi) (.slice A5 (fol nd).length c5) (fol nd)):=Hd_ (by rw[← hlo,← hhi];exact HZ.out.2)
    have HIN:Hid (RsR w g S t F N nb no nc xn nd (left l+T.length) (T.length - k) k lo hi (.slice A5 (fol nd).length c5) (.slice (some ⟨tb,0,none⟩) T.length tc) (.int .i64 0) wz) :=
     Hd_ ⟨0,T,l,rfl,Nat.zero_le _,Hd_ hown2,Hd_ (HOUT.out.below HZ.out.1 hX0),Hd_ HP0.out,Hd_ hbw,HFV,Hd_ hob0,by omega,Nat.le_refl _,Nat.le_refl _,by omega,Hd_ (HGX.out.below HZ.out.1 HGX.out.lt)⟩
    clear hown2 hob0 hbw hX0 HP0
    go_wp2
    go_loopw [8,35] (fun v8 v35 wr=>RsR w g S t F N nb no nc xn nd (left l+T.length) (T.length - k) k lo hi (.slice A5 (fol nd).length c5) v8 v35 wr) (fun _ v35 _=>(fol nd).length - (intOf v35).toNat)
    case atStart=>exact HIN.out
    case round =>
     obtain⟨q,T2,l2,rfl,hq,HO2,HOUT2,HP,HB2,HFI,HSEP,hszw,hm2,hm3,hk2,HGX2⟩:=hrel
     have hyr:=HGX2.out
     have c3:=hyr.cell 3
     have hxl:=HGX2.out.lt
     have hol:=HOUT2.out.lt
     clear hyr
     by_cases hql:q < (fol nd).length
     ·obtain⟨y,hy⟩ : ∃ y,(fol nd)[q]? = some y:=⟨_,List.getElem?_eq_getElem hql⟩
      have hyb:=HW.out.fol nd (List.mem_of_getElem? HND.out) y (List.mem_of_getElem? hy)
      rw[HN.out] at hyb
      obtain⟨yn,rfl⟩:=Int.eq_ofNat_of_zero_le hyb.1
      have hyN:yn < N:=by omega
      obtain⟨bf,of_,rfl,hfc1⟩:=HFI.out.at_ hy
      obtain⟨hfc2,hbf1,hbf2⟩:=Zi hfc1
      rw[Nat.mul_one] at hfc2
      have hoc:=HOUT2.out.cell yn
      have hlx:yn < l2.length:=by rw[HP.out.di.len,HN.out];exact hyN
      obtain⟨bv,hbv⟩ : ∃ bv,l2[yn]? = some bv:=⟨_,List.getElem?_eq_getElem hlx⟩
      have hoc2:wr.cell? ⟨w.heap.size+1,yn,none⟩=some (.bool bv):=by rw[hoc];simp[bools,hbv]
      have hoz:=HOUT2.out.frozen yn
      have y0:(0:Int)≤yn:=by omega
      have yN:(yn:Int) < N:=by omega
      have q0:(0:Int)≤q:=by omega
      have qN:(q:Int) < (fol nd).length:=by omega
      obtain⟨sA,sc,rfl,-⟩:=ZF HO2.out
      have HRH:=Hd_ (ZHF fv F (yn:Int) wr (HFF.out.mono (ZA HB2.out)))
      have HX:=Hd_ (And.intro hy hbv)
      clear hoc hfc1 hy hbv hlx
      cases bv with
      | true =>
       go_wp2
       go_roundw
       case rel=>exact⟨q+1,T2,l2,by go_num,hql,HO2,HOUT2,Hd_ (HP.out.seen HX.out.1 (.inr (by simpa using HX.out.2))),HB2,HFI,HSEP,hszw,hm2,hm3,hk2,HGX2⟩
       case measure=>simp[intOf];omega
      | false =>
       by_cases hyF:(yn:Int)∈F
       ·rw[decide_eq_true hyF] at HRH
        have HYF:=Hd_ hyF
        clear hyF
        go_wp2_with (first
         | (go_at_call 61
            refine(HRH.out).mono ?_
            rintro e wq ⟨rfl,rfl⟩))
        go_roundw
        case rel=>exact⟨q+1,T2,l2,by go_num,hql,HO2,HOUT2,Hd_ (HP.out.seen HX.out.1 (.inl HYF.out)),HB2,HFI,HSEP,hszw,hm2,hm3,hk2,HGX2⟩
        case measure=>simp[intOf];omega
       ·rw[decide_eq_false hyF] at HRH
        have HYF:=Hd_ hyF
        clear hyF
        obtain⟨ny,hny⟩ : ∃ ny,g.nodes[yn]? = some ny:=⟨g.nodes[yn]'(by rw[HN.out];exact hyN),List.getElem?_eq_getElem _⟩
        obtain⟨nb',no',e',hncy⟩:=HNV.out.at_ hny
        injection e' with e'
        injection e' with e1 e2
        subst e1 e2
        have hbt:(bools l2).set yn (.bool true)=bools (l2.set yn true):=by simp[bools,List.map_set]
        have hls:=ZAZ l2 yn HX.out.2
        have hnX:nb≠w.heap.size+1:=fun e=>by
         have:=World.block_lt_of_cell? _ _ (hncy 0 _ rfl)
         simp only at this
         omega
        have hne:=ZO HO2.out HOUT2.out (by decide)
        have hbs:Below w.heap.size w (wr.setCell ⟨w.heap.size+1,yn,none⟩ (.bool true)):=HB2.out.setCell (p:=⟨w.heap.size+1,yn,none⟩) (by show w.heap.size≤w.heap.size+1;omega) _
        have HLDy:Hid (∀ j v,ny.cells[j]? = some v→(wr.setCell ⟨w.heap.size+1,yn,none⟩ (.bool true)).cell? ⟨nb,no+yn * 13+j,none⟩=some v):=Hd_ fun j v hj=>ZA hbs _ _ _ (hncy j v hj)
        have HS:=Hd_ (And.intro hbt (And.intro hls (And.intro hne (And.intro hbs hny))))
        have HO3:=Hd_ (ownsRow_setCell_other (a:=⟨w.heap.size+1,yn,none⟩) HO2.out (fun e=>hne e.symm) (.bool true))
        have hou3:=HOUT2.out.set_ yn (.bool true)
        rw[hbt] at hou3
        have HOUT3:=Hd_ hou3
        have HGX3:=Hd_ (HGX2.out.far (p:=⟨w.heap.size+1,yn,none⟩) (by show w.heap.size≠w.heap.size+1;omega) (.bool true))
        have HFI3:Hid (Ints (part (wr.setCell ⟨w.heap.size+1,yn,none⟩ (.bool true)) lo hi) (.slice (some ⟨bf,of_,none⟩) (fol nd).length c5) (fol nd)):=Hd_ (HFI.out.mono (ZV fun b hb1 hb=>Below.heap_setCell _ _ _ _ (by show b≠w.heap.size+1;omega)))
        have HRD:=Hd_ (ZCS ny (wr.setCell ⟨w.heap.size+1,yn,none⟩ (.bool true)))
        clear hbt hls hne hbs hncy hny hou3
        cases hdr:drB ny with
        | true =>
         rw[hdr] at HRD
         have HDR:=Hd_ hdr
         clear hdr
         go_wp2_with (first
          | (go_at_call 61
             refine(HRH.out).mono ?_
             rintro e wq ⟨rfl,rfl⟩)
          | (refine ZB rfl 66 _ rfl nb (no+yn * 13) rfl ny.cells _ HLDy.out Tryz.underlying66 rfl (by kernel_rfl) ?_)
          | (go_at_call 32
             refine(HRD.out).mono ?_
             rintro e w5 ⟨rfl,hb5⟩
             have HB5:=Hd_ hb5
             clear hb5))
         have hs5:=HB5.out.size
         simp only[World.size_setCell] at hs5
         go_roundw
         case rel=>exact⟨q+1,T2,l2.set yn true,by go_num,hql,Hd_ (HO3.out.kept (row:=none) ⟨HB5.out.os,HB5.out.tape,HB5.out.output,HB5.out.size,fun k hk _=>HB5.out.block k hk⟩ (by cases sA <;> simp[Value.ownBlock])),Hd_ (HOUT3.out.below HB5.out HOUT3.out.lt),Hd_ (by
          have:=HP.out.fresh HW.out HX.out.1 HYF.out (T2.drop (k+1)) true (fun m hm=>by
           rw[Int.toNat_natCast] at hm
           have h1:=HS.out.2.2.2.2
           rw[h1] at hm;injection hm with hm;rw[← hm];exact HDR.out) (fun x=>by simp)
          simpa using this),Hd_ (HS.out.2.2.2.1.trans (HB5.out.mono HS.out.2.2.2.1.size)),Hd_ (HFI3.out.mono (ZV fun b hb1 hb=>HB5.out.block b (by simp[World.setCell];omega))),HSEP,by omega,by have:=HS.out.2.1;omega,by have:=HS.out.2.1;omega,hk2,Hd_ (HGX3.out.below HB5.out HGX3.out.lt)⟩
         case measure=>simp[intOf];omega
        | false =>
         rw[hdr] at HRD
         have HDR:=Hd_ hdr
         clear hdr
         have hT8:T2.length < 8192:=by have:=HT8.out;have:=HS.out.2.1;omega
         go_wp2_with (first
          | (go_at_call 61
             refine(HRH.out).mono ?_
             rintro e wq ⟨rfl,rfl⟩)
          | (refine ZB rfl 66 _ rfl nb (no+yn * 13) rfl ny.cells _ HLDy.out Tryz.underlying66 rfl (by kernel_rfl) ?_)
          | (go_at_call 32
             refine(HRD.out).mono ?_
             rintro e w5 ⟨rfl,hb5⟩
             have HB5:=Hd_ hb5
             have hO5:=(HO3.out.kept (row:=none) ⟨hb5.os,hb5.tape,hb5.output,hb5.size,fun k hk _=>hb5.block k hk⟩ (by cases sA <;> simp[Value.ownBlock])).alloc (.cells #[.int .i64 (yn:Int)] 3)
             have HO5:=Hd_ hO5
             have hs5:=hb5.size
             simp only[World.size_setCell] at hs5
             clear hb5 hO5)
          | (refine ZG rfl ?_))
         refine Stop.intro ?_
         refine ZT ZY rfl _ _ rfl w.heap.size (.slice sA T2.length sc) T2.length (ints T2) rfl HO5.out _ 0 1 [.int .i64 (yn:Int)] rfl rfl (ZQ _ _ _ _ rfl) (by simp[Value.oneCell']) (by omega) (by decide) (by have:=HB2.out.size;simp;omega) ?_
         intro v' w6 hown6 hgr hobn
         have hsg:=hgr.size
         simp at hsg
         have HF:=Hd_ (And.intro hown6 (And.intro hgr hobn))
         clear hown6 hgr hobn
         go_wp2
         go_roundw
         case rel =>
          have hbw5:=HS.out.2.2.2.1.trans (HB5.out.mono HS.out.2.2.2.1.size)
          have how2:=Zg HO2.out
          refine⟨q+1,T2 ++ [(yn:Int)],l2.set yn true,by go_num,hql,Hd_ (by simpa [ints] using HF.out.1),Hd_ (((HOUT3.out.below HB5.out HOUT3.out.lt).alloc _).grown HF.out.2.1 HS.out.2.2.1),Hd_ ?_,Hd_ ((hbw5.alloc hbw5.size (.cells #[.int .i64 (yn:Int)] 3)).grown HF.out.2.1 (by have:=hbw5.size;simp;omega) (fun b hb=>how2 b hb)),Hd_ (HFI3.out.mono (ZV fun b hb1 hb=>?_)),Hd_ (fun b hb=>?_),by omega,by have:=HS.out.2.1;simp;omega,by have:=HS.out.2.1;simp;omega,by simp;omega,Hd_ (((HGX3.out.below HB5.out HGX3.out.lt).alloc _).grown HF.out.2.1 (ZO HO2.out HGX2.out (by decide)))⟩
          ·have:=HP.out.fresh HW.out HX.out.1 HYF.out (T2.drop (k+1) ++ [(yn:Int)]) false (fun m hm=>by
            rw[Int.toNat_natCast] at hm
            have h1:=HS.out.2.2.2.2
            rw[h1] at hm;injection hm with hm;rw[← hm];exact HDR.out) (fun x=>by simp)
           rw[List.drop_append_of_le_length (by omega)]
           simpa using this
          ·rw[HF.out.2.1.block b (by simp;omega) (fun e=>by
            rcases HSEP.out b e.symm with h | h
            ·omega
            ·omega),Below.heap_alloc _ _ _ (by omega),HB5.out.block b (by simp[World.setCell];omega)]
          ·rcases HF.out.2.2 with h | h
           ·rw[h] at hb
            exact HSEP.out b hb
           ·rw[h] at hb
            injection hb with hb
            simp at hb
            omega
         case measure=>simp[intOf];omega
     ·obtain rfl:q=(fol nd).length:=by omega
      have hdn:=HP.out.done (Nat.le_refl _)
      have HDN:=Hd_ hdn
      clear hdn
      have hk8:(k:Int)+1≤8192:=by have:=HT8.out;omega
      go_wp2
      go_roundg (left l2+(T2.length - (k+1)))
      case measure=>omega
      case rel=>exact⟨l2,T2,k+1,by go_num,by omega,HO2,HOUT2,HDN,HB2,HGX2,Nat.le_refl _,by have:=HT8.out;omega⟩
  ·obtain rfl:k=T.length:=by omega
   obtain⟨tA2,tc2,rfl,-⟩:=ZF HO.out
   rw[List.drop_length] at HDI
   have hdn:=HDI.out.done
   have hln:l.length=N:=by rw[HDI.out.len,HN.out]
   have HDN:=Hd_ (And.intro hdn hln)
   clear hdn hln
   go_wp2
   go_ret
   refine⟨.slice (some ⟨w.heap.size+1,0,none⟩) N N,rfl,?_,HBA.out⟩
   have hlo:=ZCl (t:=t) (F:=F) (g:=g) (l:=l) (by rw[HN.out];exact HDN.out.2) (fun i=>by rw[HS0.out];exact HDN.out.1 i)
   rw[← hlo]
   exact ZD8 HOUT.out (by omega) (by simp[bools,HDN.out.2]) (by omega)
end Go.Proofs.YtffgnjgphkdodaaGreatDoor
