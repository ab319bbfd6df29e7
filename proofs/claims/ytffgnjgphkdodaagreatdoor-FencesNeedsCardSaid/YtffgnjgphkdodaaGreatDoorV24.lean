import Derived.Test.YtffgnjgphkdodaaGreatDoorV7
import Derived.Test.YtffgnjgphkdodaaGreatDoorV6
namespace Go.Proofs.YtffgnjgphkdodaaGreatDoor
open Go Go.RowKit
def H2Rel (g:Graph) (N:Nat) (cg:List Value) (w:World) (gk:Nat) (v6 v7:Value) (wr:World) : Prop :=
 ∃ (s:HS) (S:Nat→Prop) (cs:List Value) (k:Nat),HMem2 69 26 cg w N s S cs v6 wr∧HOk N s∧hRun g gk k s=heldF g∧v7=.int .i64 k∧gk+k=N+1∧k≤s.todo.length
def H2Rel2 (g:Graph) (N:Nat) (cg:List Value) (w:World) (f k:Nat) (now fs:List Int) (v10 fv:Value) (gk:Nat) (v6 v80:Value) (wr:World) : Prop :=
 ∃ (s:HS) (S:Nat→Prop) (cs:List Value) (j:Nat),HMem2 69 26 cg w N s S cs v6 wr∧HOk N s∧hRest g f k now s (fs.drop j)=heldF g∧v80=.int .i64 j∧gk+j=fs.length∧k < s.todo.length ∧
  Ints (on wr S) v10 now∧Ints (on wr S) fv fs
def H2Now (N:Nat) (cg:List Value) (w:World) (s:HS) (cs:List Value) (v6:Value) (nd:Node) (at_ bn:Nat) (v10:Value) (wc:World) : Prop :=
 ∃ (now:List Int) (S:Nat→Prop),hNow nd (hCur s at_)=some now∧HMem2 69 26 cg w N s S cs v6 wc∧Ints (on wc S) v10 now∧Blk wc bn 66 nd.cells
set_option maxRecDepth 100000 in
set_option maxHeartbeats 4000000 in
theorem ZDR (g:Graph) (cs:List Value) (w:World) (hw:WholeG g) (hg:GraphV (cmap w) cs g) :
  Calls Tryz.prog 101 #[.agg cs.toArray] w (HPost g w):=by
 obtain⟨nv,rfl,A,c,rfl,hlc,hc,hn⟩:=hg
 have hpos:=hw.pos
 have hmost:=hw.most
 obtain⟨b,o,rfl,hnode⟩ : ∃ b o,A=some ⟨b,o,none⟩∧∀ i x,g.nodes[i]? = some x→NodeC (cmap w) b (o+i * 13) x:=by
  rcases hn with h | h
  ·rw[h] at hpos;simp at hpos
  ·exact h
 clear hn
 obtain⟨N,HN⟩ : ∃ N,Hid (g.nodes.length=N):=⟨_,rfl⟩
 have h0:0 < N:=by rw[← HN.out];exact hpos
 have hN:N≤4096:=by rw[← HN.out];exact hmost
 rw[HN.out] at hlc
 have hst:=HOk.start hpos
 clear hpos hmost
 generalize hCG:[Value.string g.name,Value.int .i64 g.locals,Value.int .i64 g.slots,Value.slice (some ⟨b,o,none⟩) N c]=CG
 rw[HN.out,hCG]
 have HCG:=Hd_ hCG;clear hCG
 rw[← HCG.out]
 go_enter Tryz.func101,Tryz.ntmps101
 go_wp2_with (first | (refine Zw ZBb rfl rfl (.tmp 14) (.tmp 14) rfl N rfl rfl (by omega) (by omega) ?_) | (refine Zw ZB5 rfl rfl (.tmp 18) (.tmp 18) rfl N rfl rfl (by omega) (by omega) ?_))
 go_loopg [6,7] (N+1) (fun k v6 v7 wr=>H2Rel g N CG w k v6 v7 wr)
 case atStart =>
  have hB:=ZAo w (.cells #[.string g.name,.int .i64 g.locals,.int .i64 g.slots,.slice (some ⟨b,o,none⟩) N c] 69) (.cells (Array.replicate N (.slice none 0 0)) 26) (.cells ((Array.replicate N (.bool false)).setIfInBounds 0 (.bool true)) 4)
  rw[HN.out] at hst
  refine⟨hStart N,fun _=>False,List.replicate N (.slice none 0 0),0,?_,hst,by unfold heldF;rw[HN.out],rfl,rfl,Nat.zero_le _⟩
  refine { own:=?_,box:=?_,lk:=?_,len:=by simp,lists:=?_,sep:=fun b h=>h.elim,fd:=?_,below:=hB.alloc (by simp;omega) _ }
  ·exact Zv _ _ _ (by simp) (by simp;omega) (by decide) (by rfl) _ rfl
  ·rw[← HCG.out]
   exact(((Blk.new w _ _).alloc _).alloc _).alloc _
  ·exact((Blk.of (ZN _ _ _ (by simp)) (by simp)).alloc _).alloc _
  ·intro i v hv
   rw[List.getElem?_replicate] at hv
   split at hv
   ·rename_i hi
    injection hv with hv
    subst hv
    exact⟨[],by simp[hStart,hi],ZAN _⟩
   ·cases hv
  ·refine(Blk.of (ZN _ _ _ (by simp)) ?_).alloc _
   simp[bools,hStart]
 case round =>
  obtain⟨s,S,ks,k,hm,hok,hrun,rfl,hgk,hk⟩:=hrel
  have htl:=hok.lt
  by_cases hlt:k < s.todo.length
  ·obtain⟨at_,hat⟩ : ∃ x,s.todo[k]? = some x:=⟨_,List.getElem?_eq_getElem hlt⟩
   have hatN:=(hok.todo at_ (List.mem_of_getElem? hat)).1
   obtain⟨g6,c6,rfl,hg6,hg6',hc6,hcell⟩:=ZW hm.own (by omega)
   have hka:wr.cell? ⟨g6,k,none⟩=some (.int .i64 (at_:Nat)):=by rw[hcell k (by omega)];exact ZIH hat
   clear hcell
   have hbc:wr.cell? ⟨w.heap.size,3,none⟩=some (.slice (some ⟨b,o,none⟩) N c):=by rw[hm.box.cell 3,← HCG.out];rfl
   obtain⟨nd,hnd⟩ : ∃ nd,g.nodes[at_]? = some nd:=⟨g.nodes[at_]'(by rw[HN.out];exact hatN),List.getElem?_eq_getElem _⟩
   have hld:∀ j v,nd.cells[j]? = some v→wr.cell? ⟨b,o+at_ * 13+j,none⟩=some v:=fun j v h=>ZA hm.below _ _ _ (hnode at_ nd hnd j v h)
   have d0:wr.cell? ⟨b,o+at_ * 13,none⟩=some (.int .u8 nd.kind):=hld 0 _ rfl
   have d1:wr.cell? ⟨b,o+at_ * 13+1,none⟩=some (.int .u8 nd.op):=hld 1 _ rfl
   have d2:wr.cell? ⟨b,o+at_ * 13+2,none⟩=some (.int .i64 nd.slot):=hld 2 _ rfl
   have d3:wr.cell? ⟨b,o+at_ * 13+3,none⟩=some (.int .i64 nd.thing):=hld 3 _ rfl
   have d4:wr.cell? ⟨b,o+at_ * 13+4,none⟩=some (.bool nd.a.isSlot):=hld 4 _ rfl
   have d5:wr.cell? ⟨b,o+at_ * 13+5,none⟩=some (.int .i64 nd.a.slot):=hld 5 _ rfl
   have d6:wr.cell? ⟨b,o+at_ * 13+6,none⟩=some (.int .i64 nd.a.word):=hld 6 _ rfl
   have d7:wr.cell? ⟨b,o+at_ * 13+7,none⟩=some (.bool nd.b.isSlot):=hld 7 _ rfl
   have d8:wr.cell? ⟨b,o+at_ * 13+8,none⟩=some (.int .i64 nd.b.slot):=hld 8 _ rfl
   have d9:wr.cell? ⟨b,o+at_ * 13+9,none⟩=some (.int .i64 nd.b.word):=hld 9 _ rfl
   have d10:wr.cell? ⟨b,o+at_ * 13+10,none⟩=some (.int .i64 nd.next):=hld 10 _ rfl
   have d11:wr.cell? ⟨b,o+at_ * 13+11,none⟩=some (.int .i64 nd.els):=hld 11 _ rfl
   have d12:wr.cell? ⟨b,o+at_ * 13+12,none⟩=some (.int .i64 nd.origin):=hld 12 _ rfl
   clear hld
   obtain⟨lv,hlv⟩ : ∃ v,ks[at_]? = some v:=⟨ks[at_]'(by rw[hm.len];exact hatN),List.getElem?_eq_getElem _⟩
   obtain⟨cur,hcur,hcl⟩:=hm.lists at_ lv hlv
   have hcl':=hcl
   obtain⟨lA,lc,rfl,-,-,-⟩:=hcl'
   have hka2:wr.cell? ⟨w.heap.size+1,at_,none⟩=some (.slice lA cur.length lc):=by rw[hm.lk.cell];exact hlv
   have hcur2:hCur s at_=cur:=by simp[hCur,hcur]
   have hcurl:cur.length≤k:=by rw[← hcur2];exact hok.len k at_ hat
   have HRUN:=Hd_ hrun;clear hrun
   have HGK:=Hd_ hgk;clear hgk
   have HAT:=Hd_ hat;clear hat
   have HND:=Hd_ hnd;clear hnd
   have HCUR:=Hd_ hcur2;clear hcur2
   clear hlv hcur
   have hbw:b < wr.heap.size:=World.block_lt_of_cell? wr ⟨b,o+at_ * 13,none⟩ d0
   have hbb:=hm.box.lt
   have hlb:=hm.lk.lt
   have hmb:=hm.fd.lt
   have hk0:(0:Int)≤k:=by omega
   have hkl:(k:Int) < s.todo.length:=by omega
   have ha0:(0:Int)≤at_:=by omega
   have haN:(at_:Int) < N:=by omega
   have hcl2:Ints (cmap wr) (.slice lA cur.length lc) cur:=hcl.mono (on_le _ _)
   go_wp2_with fail
   go_region
   have hown0:(((wr.alloc (.cells nd.cells.toArray 66)).alloc (.cells #[] 3)).drew).ownsRow (wr.heap.size+1) 3 1 (.slice (some ⟨wr.heap.size+1,0,none⟩) 0 0) 0 []:=Zv (wr.alloc _) #[] _ (by simp) (by simp) (by decide) rfl [] rfl
   go_wp2_with (refine ZG rfl ?_)
   refine Stop.intro ?_
   refine ZBE (R:=IntC) (fun _ _ _ _ h=>h) ZY rfl _ _ rfl (wr.heap.size+1) (.slice (some ⟨wr.heap.size+1,0,none⟩) 0 0) 0 [] rfl hown0 lA cur.length lc cur rfl (hcl2.mono (((ZH _ _).trans (ZH _ _)).trans (ZDk _))) (fun _=>rfl) (by omega) (by decide) (by simp) ?_
   intro vl w9 hownl hgl hobl
   have hb9:Below (wr.heap.size+1) (wr.alloc (.cells nd.cells.toArray 66)) w9:=((Below.refl _ _).alloc (by simp) _).drew.grown hgl (by simp) (fun k hk=>by simp[Value.ownBlock] at hk;omega)
   have hl9:w9.ownsRow (wr.heap.size+1) 3 1 vl cur.length (ints cur):=by simpa [ints] using hownl
   have hs9:=hb9.size
   simp only[World.size_alloc] at hs9
   have hnb9:Blk w9 wr.heap.size 66 nd.cells:=(Blk.new wr _ _).below hb9 (by omega)
   have hb9':Below wr.heap.size wr w9:=(ZE wr _).trans (hb9.mono (by omega))
   have hka9:w9.cell? ⟨g6,k,none⟩=some (.int .i64 (at_:Nat)):=(hb9'.cell (p:=⟨g6,k,none⟩) hg6').trans hka
   have hnk:w9.cell? ⟨wr.heap.size,0,none⟩=some (.int .u8 nd.kind):=hnb9.cell 0
   have hnt:w9.cell? ⟨wr.heap.size,3,none⟩=some (.int .i64 nd.thing):=hnb9.cell 3
   clear d0 d1 d2 d3 d4 d5 d6 d7 d8 d9 d10 d11 d12 hownl hgl hobl hown0 hcl hcl2 hka2 hka hbc
   obtain⟨vA,vc,rfl,hvc⟩:=ZF hl9
   go_upto_block 2 with fail
   go_cut [9] (fun v10 wc=>H2Now N CG w s ks (.slice (some ⟨g6,0,none⟩) s.todo.length c6) nd at_ wr.heap.size v10 wc)
   case first =>
    have HM:=Hd_ hm;clear hm
    have fin:∀ (now:List Int) (v10:Value) (w':World),hNow nd cur=some now→Below (wr.heap.size+1) (wr.alloc (.cells nd.cells.toArray 66)) w'→Ints (on w' (fun b=>S b∨wr.heap.size < b∧b < w'.heap.size)) v10 now →
      H2Now N CG w s ks (.slice (some ⟨g6,0,none⟩) s.todo.length c6) nd at_ wr.heap.size v10 w':=by
     intro now v10 w' h1 h2 h3
     have hb:Below wr.heap.size wr w':=(ZE wr _).trans (h2.mono (by omega))
     refine⟨now,_,by rw[HCUR.out];exact h1,(HM.out.keep hb).more (fun b h=>.inl h) (fun b hS=>?_),h3,(Blk.new wr _ _).below h2 (by omega)⟩
     rcases hS with h | h
     ·have:=HM.out.sep b h
      exact⟨this.1,by have:=hb.size;omega,this.2.2⟩
     ·refine⟨by omega,h.2,fun e=>?_⟩
      simp[Value.ownBlock] at e
      omega
    have FIN:=Hd_ fin;clear fin
    have err:hNow nd cur=none→∀ {w':World},Below (wr.heap.size+1) (wr.alloc (.cells nd.cells.toArray 66)) w'→HPost g w (.returned (.tuple #[.slice none 0 0,.int .i64 (at_:Nat)])) w':=by
     intro h1 w' h2
     refine .inr ⟨at_,rfl,?_,HM.out.below.trans (((ZE wr _).trans (h2.mono (by omega))).mono HM.out.below.size)⟩
     have hgk:=HGK.out
     obtain⟨f,rfl⟩ : ∃ f,gk=f+1:=⟨gk - 1,by omega⟩
     have:=HRUN.out
     rw[ZEr g HAT.out HND.out,HCUR.out,h1] at this
     exact this.symm
    have ERR:Hid _:=err;clear err
    have hv9:Ints (on w9 (fun b=>S b∨wr.heap.size < b∧b < w9.heap.size)) (.slice vA cur.length vc) cur:=ZGf (f:=Value.int .i64) (fun _ _ _ _ h=>h) hl9 (fun b hb=>.inr (by have:=hl9.lt b hb;omega))
    have HV9:=Hd_ hv9;clear hv9
    have hl9s:=hl9.lt
    by_cases e5:nd.kind=5
    ·have f5:(nd.kind == 5)=true:=by simpa using e5
     have hno:hNow nd cur=some (cur ++ [nd.thing]):=by simp[hNow,e5]
     have HNO:=Hd_ hno;clear hno
     have E5:=Hd_ e5;clear e5
     go_wp2_with (refine ZG rfl ?_)
     refine Stop.intro ?_
     refine ZT ZY rfl _ _ rfl (wr.heap.size+1) (.slice vA cur.length vc) cur.length (ints cur) rfl (hl9.alloc _) w9.heap.size 0 1 [.int .i64 nd.thing] rfl rfl (ZQ _ _ _ _ rfl) (by simp[Value.oneCell']) (by omega) (by decide) (by simp;omega) ?_
     intro v2 w2 hown2 hg2 hob2
     have hb2:Below (wr.heap.size+1) (wr.alloc (.cells nd.cells.toArray 66)) w2:=(hb9.alloc (by omega) _).grown hg2 (by simp;omega) (fun k hk=>(hl9s k hk).1)
     have hl2:=hown2.lt
     go_wp2_with fail
     go_meet
     exact FIN.out (cur ++ [nd.thing]) v2 w2 HNO.out hb2 (ZGf (f:=Value.int .i64) (fun _ _ _ _ h=>h) (by simpa [ints] using hown2) (fun b hb=>.inr (by have:=hl2 b hb;omega)))
    ·have f5:(nd.kind == 5)=false:=by simpa using e5
     by_cases e6:nd.kind=6
     ·have f6:(nd.kind == 6)=true:=by simpa using e6
      have E6:=Hd_ e6;clear e6
      by_cases hc0:cur=[]
      ·have hd0:((cur.length:Int) == 0)=true:=by simp[hc0]
       have hno:hNow nd cur=none:=by simp[hNow,E6.out,hc0]
       have HNO:=Hd_ hno;clear hno hc0
       go_wp2_with fail
       go_quiet (fail)
       go_wp2_with fail
       go_quiet (fail)
       go_wp2_with fail
       go_ret2
       exact ERR.out HNO.out (by first | exact below_drewN hb9 _ | exact below_drewN (below_drewN hb9 _) _)
      ·have hpos:0 < cur.length:=List.length_pos_iff.2 hc0
       have hd0:((cur.length:Int) == 0)=false:=by simp[hc0]
       obtain⟨last,hlast⟩ : ∃ x,cur[cur.length - 1]? = some x:=⟨_,List.getElem?_eq_getElem (by omega)⟩
       have hgl:cur.getLast? = some last:=by rw[List.getLast?_eq_getElem?];exact hlast
       obtain⟨lb,lo,rfl,hlc⟩:=HV9.out.at_ hlast
       rw[Nat.mul_one] at hlc
       have hlc2:w9.cell? ⟨lb,lo+(cur.length - 1),none⟩=some (.int .i64 last):=(ZDH hlc).1
       clear hlc
       have hi0:(0:Int)≤(cur.length:Int) - 1:=by omega
       have hi1:(cur.length:Int) - 1 < cur.length:=by omega
       have hi2:((cur.length:Int) - 1).toNat=cur.length - 1:=by omega
       have HGL:=Hd_ hgl;clear hgl
       clear hlast
       have HC0:=Hd_ hc0;clear hc0
       by_cases hth:last=nd.thing
       ·have hne:(last != nd.thing)=false:=by simp[hth]
        have hno:hNow nd cur=some cur.dropLast:=by simp[hNow,E6.out,HGL.out,hth]
        have HNO:=Hd_ hno;clear hno
        have HTH:=Hd_ hth;clear hth
        have hlcc:(cur.length:Int) - 1≤vc:=by omega
        go_wp2_with fail
        go_quiet (fail)
        go_wp2_with fail
        go_meet
        exact FIN.out cur.dropLast _ _ HNO.out (below_drewN hb9 _) (HV9.out.dropLast)
       ·have hne:(last != nd.thing)=true:=by simp[hth]
        have hno:hNow nd cur=none:=by simp[hNow,E6.out,HGL.out,hth]
        have HNO:=Hd_ hno;clear hno hth
        go_wp2_with fail
        go_quiet (fail)
        go_wp2_with fail
        go_quiet (fail)
        go_wp2_with fail
        go_ret2
        exact ERR.out HNO.out (by first | exact below_drewN hb9 _ | exact below_drewN (below_drewN hb9 _) _)
     ·have f6:(nd.kind == 6)=false:=by simpa using e6
      by_cases e9:nd.kind=9
      ·have f9:(nd.kind == 9)=true:=by simpa using e9
       by_cases hc0:cur=[]
       ·have hcl0:cur.length=0:=by rw[hc0];rfl
        have hno:hNow nd cur=some cur:=by simp[hNow,e9,hc0]
        have HNO:=Hd_ hno;clear hno
        have HC0:=Hd_ hc0;clear hc0
        have HCL0:=Hd_ hcl0;clear hcl0
        have E9:=Hd_ e9;clear e9
        go_wp2_with fail
        all_goals (try (exfalso;have:=HCL0.out;omega))
        go_meet
        exact FIN.out cur _ _ HNO.out hb9 HV9.out
       ·have hpos:0 < cur.length:=List.length_pos_iff.2 hc0
        have hno:hNow nd cur=none:=by simp[hNow,e9,hc0]
        have HNO:=Hd_ hno;clear hno
        have E9:=Hd_ e9;clear e9
        go_wp2_with fail
        all_goals (try (exfalso;omega))
        go_quiet (fail)
        go_wp2_with fail
        go_ret2
        exact ERR.out HNO.out (below_drewN hb9 _)
      ·have f9:(nd.kind == 9)=false:=by simpa using e9
       have hno:hNow nd cur=some cur:=by simp[hNow,e5,e6,e9]
       have HNO:=Hd_ hno;clear hno
       go_wp2_with fail
       go_meet
       exact FIN.out cur _ _ HNO.out hb9 HV9.out
   case rest =>
    obtain⟨now,S1,hno,hm1,hv10,hnb⟩:=hcut
    have hgk:=HGK.out
    obtain⟨f,rfl⟩ : ∃ f,gk=f+1:=⟨gk - 1,by omega⟩
    have hre:hRest g f k now s (fol2 nd)=heldF g:=by
     have:=HRUN.out
     rw[ZEr g HAT.out HND.out,hno] at this
     unfold hRest at this ⊢
     rw[ZFW hok nd (fun x hx=>by
      have h1:=hw.fol nd (List.mem_of_getElem? HND.out) x hx
      rw[HN.out] at h1
      omega)]
     exact this
    have hnl:now.length≤k+1:=by
     have h1:=hno
     rw[HCUR.out] at h1
     unfold hNow at h1
     split at h1
     ·injection h1 with h1;subst h1;simp;omega
     ·split at h1
      ·split at h1
       ·injection h1 with h1;subst h1;simp;omega
       ·cases h1
      ·split at h1
       ·split at h1
        ·injection h1 with h1;subst h1;simp
        ·cases h1
       ·injection h1 with h1;subst h1;omega
    have HRE:=Hd_ hre;clear hre
    clear hno hgk
    have hnd2:∀ j v,nd.cells[j]? = some v→wc.cell? ⟨wr.heap.size,0+j,none⟩=some v:=fun j v h=>by rw[Nat.zero_add,hnb.cell];exact h
    have HND2:=Hd_ hnd2;clear hnd2 hnb
    have hfl:=ZAx nd
    go_wp2_with (first | (refine ZB rfl 66 _ rfl wr.heap.size 0 rfl nd.cells _ HND2.out Tryz.underlying66 rfl (by kernel_rfl) ?_) | (go_at_call 154;refine(Zu nd _).mono ?_;rintro e w2 ⟨fv,rfl,hf,hb2⟩;have hf':=hf;obtain⟨fA,fc,rfl,hfc,hfm,hfe⟩:=hf'))
    have hs2:=hb2.size
    have h6lt:=hm1.own.lt g6 rfl
    have hbw:=hm1.fd.lt
    have hm2:HMem2 69 26 CG w N s (fun b=>S1 b∨wc.heap.size≤b∧b < w2.heap.size) ks (.slice (some ⟨g6,0,none⟩) s.todo.length c6) w2 :=
     (hm1.keep hb2).more (fun b h=>.inl h) (fun b h=>by
      rcases h with h | h
      ·have:=hm1.sep b h
       exact⟨this.1,by omega,this.2.2⟩
      ·refine⟨by omega,h.2,fun e=>?_⟩
       simp[Value.ownBlock] at e
       omega)
    have hv2:Ints (on w2 (fun b=>S1 b∨wc.heap.size≤b∧b < w2.heap.size)) u9 now :=
     hv10.mono (ZZ (fun b hS _=>hb2.block b (hm1.sep b hS).2.1) (fun b h=>.inl h))
    have hf2:Ints (on w2 (fun b=>S1 b∨wc.heap.size≤b∧b < w2.heap.size)) (.slice fA (fol2 nd).length fc) (fol2 nd) :=
     hf.mono (ZAH _ (fun b h1 h2=>.inr ⟨h1,h2⟩))
    have hwf:∀ x∈fol2 nd,0≤x∧x < N:=fun x hx=>by
     have:=hw.fol nd (List.mem_of_getElem? HND.out) x ((Zm nd x).1 hx)
     rw[HN.out] at this
     exact this
    have HWF:=Hd_ hwf;clear hwf
    clear hf hfe hv10 HND2
    obtain⟨fs,hfs⟩ : ∃ fs,fol2 nd=fs:=⟨_,rfl⟩
    rw[hfs] at hf2 HWF hfl hfc HRE ⊢
    clear hfs
    obtain⟨wo,rfl⟩ : ∃ wo:World,wo=wr:=⟨_,rfl⟩
    clear hg6 hg6' hlb hmb
    go_loopg [6,11] (fs.length) (fun k2 v6 v80 wr2=>H2Rel2 g N CG w f k now fs u9 (.slice fA fs.length fc) k2 v6 v80 wr2)
    case atStart=>exact⟨s,_,ks,0,hm2,hok,HRE.out,rfl,by omega,hlt,hv2,hf2⟩
    case round =>
     obtain⟨s2,S3,ks3,j,hm3,hok3,hr3,rfl,hj,hk3,h10,hfv⟩:=hrel
     clear hm1 hm2 hv2 hf2 HRE
     have HJ:=Hd_ hj;clear hj
     by_cases hjl:j < fs.length
     ·obtain⟨x,hx⟩ : ∃ x,fs[j]? = some x:=⟨_,List.getElem?_eq_getElem hjl⟩
      have hxb:=HWF.out x (List.mem_of_getElem? hx)
      obtain⟨xn,rfl⟩:=Int.eq_ofNat_of_zero_le hxb.1
      have hdr:fs.drop j=(xn:Int) :: fs.drop (j+1):=by
       rw[List.drop_eq_getElem_cons hjl]
       congr 1
       rw[List.getElem?_eq_getElem hjl] at hx
       injection hx
      rw[hdr,ZEK,Int.toNat_natCast] at hr3
      have HR3:=Hd_ hr3;clear hr3 hdr
      obtain⟨bf,of,rfl,hfc1⟩:=hfv.at_ hx
      rw[Nat.mul_one] at hfc1
      obtain⟨hfc2,hbf⟩:=ZDH hfc1
      clear hfc1
      have hxN:xn < N:=by omega
      have HX:=Hd_ hx;clear hx
      obtain⟨kv,hkv⟩ : ∃ v,ks3[xn]? = some v:=⟨ks3[xn]'(by rw[hm3.len];exact hxN),List.getElem?_eq_getElem _⟩
      obtain⟨lx,hlx,hlxi⟩:=hm3.lists xn kv hkv
      have hkc:wr.cell? ⟨w.heap.size+1,xn,none⟩=some kv:=by rw[hm3.lk.cell];exact hkv
      have hkf:=hm3.lk.frozen xn
      have hff:=hm3.fd.frozen xn
      have HKV:=Hd_ hkv;clear hkv
      have HLX:=Hd_ hlx;clear hlx
      obtain⟨fb,hfb⟩ : ∃ y,s2.found[xn]? = some y:=⟨s2.found[xn]'(by rw[hok3.found];exact hxN),List.getElem?_eq_getElem _⟩
      have hfdc:wr.cell? ⟨w.heap.size+1+1,xn,none⟩=some (.bool fb):=by rw[hm3.fd.cell];unfold bools;rw[List.getElem?_map,hfb];rfl
      have hfs3:=hm3.sep bf hbf
      have hfsl:=hm3.lk.lt
      have hfsd:=hm3.fd.lt
      have hj0:(0:Int)≤j:=by omega
      have hjl2:(j:Int) < fs.length:=by omega
      cases fb with
      | true =>
       have HFD:=Hd_ hfb;clear hfb
       by_cases hln:lx=now
       ·have hdt:decide (lx=now)=true:=decide_eq_true hln
        have hv:hVisit now s2 xn=.ok s2:=by
         unfold hVisit
         rw[if_pos HFD.out,if_pos (by rw[HLX.out,hln])]
        have HV:=Hd_ hv;clear hv hln
        go_wp2_with (go_at_call 79;refine(ZBI _ _ lx now _ (hlxi.mono (on_le _ _)) (h10.mono (on_le _ _))).mono ?_;rintro e w3 ⟨rfl,nq,rfl⟩)
        go_roundg (gk - 1)
        case measure=>have:=HJ.out;omega
        case rel =>
         have hr:=HR3.out
         rw[HV.out] at hr
         exact⟨s2,S3,ks3,j+1,hm3.keep (below_drewN (Below.refl _ _) _),hok3,hr,by go_num,by have:=HJ.out;omega,hk3,h10.mono (ZZ (fun _ _ _=>rfl) (fun _ h=>h)),hfv.mono (ZZ (fun _ _ _=>rfl) (fun _ h=>h))⟩
       ·have hdt:decide (lx=now)=false:=decide_eq_false hln
        have hv:hVisit now s2 xn=.error xn:=by
         unfold hVisit
         rw[if_pos HFD.out,if_neg (by rw[HLX.out];intro e;injection e with e;exact hln e)]
        have HV:=Hd_ hv;clear hv hln
        go_wp2_with (go_at_call 79;refine(ZBI _ _ lx now _ (hlxi.mono (on_le _ _)) (h10.mono (on_le _ _))).mono ?_;rintro e w3 ⟨rfl,nq,rfl⟩)
        go_quiet (fail)
        go_wp2_with fail
        go_ret2
        have hr:=HR3.out
        rw[HV.out] at hr
        exact .inr ⟨xn,rfl,hr.symm,by first | exact below_drewN hm3.below _ | exact below_drewN (below_drewN hm3.below _) _⟩
      | false =>
       have HFD:=Hd_ hfb;clear hfb
       have hnf:¬ s2.found[xn]? = some true:=by rw[HFD.out];simp
       have hv:hVisit now s2 xn=.ok ⟨s2.locks.set xn now,s2.found.set xn true,s2.todo ++ [xn]⟩:=by
        unfold hVisit
        rw[if_neg hnf]
       have hok4:=hok3.visit hxN hnf (now:=now) (by omega)
       have HV:=Hd_ hv;clear hv hnf
       have htl3:=hok3.lt
       have h10':=h10
       obtain⟨A9,c9,rfl,-,-,-⟩:=h10'
       have hfc3:(wr.setCell ⟨w.heap.size+1+1,xn,none⟩ (.bool true)).cell? ⟨bf,of+j,none⟩=some (.int .i64 (xn:Nat)):=by rw[World.cell?_setCell_other _ _ _ _ (by intro e;injection e;omega)];exact hfc2
       have hkc3:(wr.setCell ⟨w.heap.size+1+1,xn,none⟩ (.bool true)).cell? ⟨w.heap.size+1,xn,none⟩=some kv:=by rw[World.cell?_setCell_other _ _ _ _ (by intro e;injection e;omega)];exact hkc
       go_wp2_with (refine ZG rfl ?_)
       refine Stop.intro ?_
       have h6n:u6.ownBlock≠some (w.heap.size+1):=fun e=>ZO hm3.own hm3.lk (by decide) e.symm
       have h6f:u6.ownBlock≠some (w.heap.size+1+1):=fun e=>ZO hm3.own hm3.fd (by decide) e.symm
       have ho5:=(ownsRow_setCell_other (a:=⟨w.heap.size+1,xn,none⟩) (ownsRow_setCell_other (a:=⟨w.heap.size+1+1,xn,none⟩) hm3.own h6f (.bool true)) h6n (.slice A9 now.length c9)).alloc (.cells #[.int .i64 (xn:Nat)] 3)
       refine ZT ZY rfl _ _ rfl w.heap.size u6 s2.todo.length (ints (nats s2.todo)) rfl ho5 wr.heap.size 0 1 [.int .i64 (xn:Nat)] rfl rfl (ZQ _ _ _ _ (by simp)) (by simp[Value.oneCell']) (by omega) (by decide) (by simp;omega) ?_
       intro v5 w5 hown5 hg5 hob5
       obtain⟨hm5,hle5⟩:=hm3.push (by decide) (by decide) (by decide) hxN hok3.locks h10 hown5 hg5 hob5
       clear hown5 hg5 hob5 ho5
       go_wp2_with fail
       go_roundg (gk - 1)
       case measure=>have:=HJ.out;omega
       case rel =>
        have hr:=HR3.out
        rw[HV.out] at hr
        exact⟨_,_,_,j+1,hm5,hok4,hr,by go_num,by have:=HJ.out;omega,by simp;omega,h10.mono hle5,hfv.mono hle5⟩
     ·have hnil:fs.drop j=[]:=List.drop_eq_nil_of_le (by omega)
      rw[hnil,ZFX] at hr3
      have HR3:=Hd_ hr3;clear hr3 hnil
      go_wp2_with fail
      go_roundg f
      case measure=>omega
      case rel=>exact⟨s2,S3,ks3,k+1,hm3,hok3,HR3.out,by go_num,by have:=HGK.out;omega,by omega⟩
  ·have hend:=ZGp g (f:=gk) (s:=s) (k:=k) (by omega)
   rw[hend] at hrun
   have HRUN:=Hd_ hrun;clear hrun hend hgk
   obtain⟨A6,c6,rfl,_⟩:=ZF hm.own
   go_wp2_with fail
   go_ret2
   refine .inl ⟨.slice (some ⟨w.heap.size+1,0,none⟩) N N,s.locks,rfl,HRUN.out.symm,?_,hm.below⟩
   have hlt:=hm.lk.lt
   refine⟨_,N,by rw[hok.locks],by rw[hok.locks];exact Nat.le_refl _,⟨by simp only[maxLen];omega,fun h=>by cases h⟩,.inr ⟨w.heap.size+1,0,rfl,fun i x hx=>?_⟩⟩
   have hi:i < N:=by have:=(List.getElem?_eq_some_iff.1 hx).1;rw[hok.locks] at this;exact this
   obtain⟨v,hv⟩ : ∃ v,ks[i]? = some v:=⟨ks[i]'(by rw[hm.len];exact hi),List.getElem?_eq_getElem _⟩
   obtain⟨l,h1,h2⟩:=hm.lists i v hv
   rw[hx] at h1
   injection h1 with h1
   subst h1
   refine⟨v,?_,h2.mono (ZF6 _ fun b hb=>by have:=hm.sep b hb;omega)⟩
   unfold part
   rw[if_pos ⟨by omega,hlt⟩,Nat.zero_add,Nat.mul_one,hm.lk.cell]
   exact hv
set_option maxHeartbeats 400000 in
theorem ZAc (g:Graph) (cs:List Value) (w:World) (hw:WholeG g) (hg:GraphV (cmap w) cs g) :
  Calls Tryz.prog 91 #[.agg cs.toArray] w fun e w'=>∃ v l,e=.returned v∧Bools (part w' w.heap.size w'.heap.size) v l∧l.length=g.nodes.length∧(∀ i,l[i]? = some true ↔ ReachC g (-1) i)∧Below w.heap.size w w':=by
 have hg':=hg
 obtain⟨nv,rfl,-⟩:=hg'
 have hld:∀ j v,([.string g.name,.int .i64 g.locals,.int .i64 g.slots,nv] : List Value)[j]? = some v→(w.alloc (.cells #[.string g.name,.int .i64 g.locals,.int .i64 g.slots,nv] 69)).cell? ⟨w.heap.size,0+j,none⟩=some v:=ZJ w _ _ _ rfl
 have HLD:=Hd_ hld;clear hld
 have hbx:=Blk.new w 69 [.string g.name,.int .i64 g.locals,.int .i64 g.slots,nv]
 go_enter Tryz.func91,Tryz.ntmps91
 go_wp2_with (first
  | (refine ZB rfl 69 _ rfl w.heap.size 0 rfl _ _ (by first | exact HLD.out | exact HLD1.out) Tryz.underlying69 rfl (by kernel_rfl) ?_)
  | (go_at_call 135;refine(ZCN g [.string g.name,.int .i64 g.locals,.int .i64 g.slots,nv] _ hw (hg.mono (ZH _ _))).mono ?_;rintro e w1 ⟨rfl,hb1⟩;have hbx1:=hbx.below hb1 hbx.lt;have HLD1:Hid (∀ j v,([.string g.name,.int .i64 g.locals,.int .i64 g.slots,nv] : List Value)[j]? = some v→w1.cell? ⟨w.heap.size,0+j,none⟩=some v):=(fun j v h=>by rw[Nat.zero_add,hbx1.cell];exact h))
  | (go_at_call 136;refine(ZEX g [.string g.name,.int .i64 g.locals,.int .i64 g.slots,nv] (-1) _ hw (hg.mono ((ZH _ _).trans (ZA hb1)))).mono ?_;rintro e w2 ⟨v,l,rfl,h1,h2,h3,h4⟩))
 go_ret
 have hs:=hb1.size
 simp at hs
 exact⟨v,l,rfl,h1.mono (Zh (by omega) (Nat.le_refl _)),h2,h3,(ZE _ _).trans ((hb1.mono (by simp)).trans (h4.mono (by omega)))⟩
set_option maxHeartbeats 400000 in
theorem ZGV (g:Graph) (cs:List Value) (w:World) (hw:WholeG g) (hg:GraphV (cmap w) cs g) :
  Calls Tryz.prog 185 #[.agg cs.toArray] w fun e w'=>(∃ v L,e=.returned (.tuple #[v,.bool true])∧heldF g=.ok L∧Ints2 (part w' w.heap.size w'.heap.size) v L∧Below w.heap.size w w') ∨
   (∃ a:Nat,e=.returned (.tuple #[.slice none 0 0,.bool false])∧heldF g=.error a∧Below w.heap.size w w'):=by
 have hg':=hg
 obtain⟨nv,rfl,-⟩:=hg'
 have hld:∀ j v,([.string g.name,.int .i64 g.locals,.int .i64 g.slots,nv] : List Value)[j]? = some v→(w.alloc (.cells #[.string g.name,.int .i64 g.locals,.int .i64 g.slots,nv] 69)).cell? ⟨w.heap.size,0+j,none⟩=some v:=ZJ w _ _ _ rfl
 have HLD:=Hd_ hld;clear hld
 have hbx:=Blk.new w 69 [.string g.name,.int .i64 g.locals,.int .i64 g.slots,nv]
 go_enter Tryz.func185,Tryz.ntmps185
 go_wp2_with (first
  | (refine ZB rfl 69 _ rfl w.heap.size 0 rfl _ _ (by first | exact HLD.out | exact HLD1.out) Tryz.underlying69 rfl (by kernel_rfl) ?_)
  | (go_at_call 135;refine(ZCN g [.string g.name,.int .i64 g.locals,.int .i64 g.slots,nv] _ hw (hg.mono (ZH _ _))).mono ?_;rintro e w1 ⟨rfl,hb1⟩;have hbx1:=hbx.below hb1 hbx.lt;have HLD1:Hid (∀ j v,([.string g.name,.int .i64 g.locals,.int .i64 g.slots,nv] : List Value)[j]? = some v→w1.cell? ⟨w.heap.size,0+j,none⟩=some v):=(fun j v h=>by rw[Nat.zero_add,hbx1.cell];exact h)))
 refine(ZDR g [.string g.name,.int .i64 g.locals,.int .i64 g.slots,nv] _ hw (hg.mono ((ZH _ _).trans (ZA hb1)))).mono ?_
 have hs:=hb1.size
 simp at hs
 rintro e w2 (⟨v,L,rfl,h1,h2,h3⟩ | ⟨a,rfl,h1,h3⟩)
 ·have H1:=Hd_ h1;clear h1
  go_wp2_with fail
  go_ret2
  exact .inl ⟨v,L,rfl,H1.out,h2.mono (Zh (by omega) (Nat.le_refl _)),(ZE _ _).trans ((hb1.mono (by simp)).trans (h3.mono (by omega)))⟩
 ·have H1:=Hd_ h1;clear h1
  have hd:decide ((a:Int) < 0)=false:=by simp
  go_wp2_with fail
  go_ret2
  exact .inr ⟨a,rfl,H1.out,(ZE _ _).trans ((hb1.mono (by simp)).trans (h3.mono (by omega)))⟩
end Go.Proofs.YtffgnjgphkdodaaGreatDoor
