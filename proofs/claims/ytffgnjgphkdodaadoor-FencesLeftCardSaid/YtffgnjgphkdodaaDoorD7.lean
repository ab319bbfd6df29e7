import Derived.Test.YtffgnjgphkdodaaDoorD2
import Derived.Deep.RegionLaw
import Derived.Test.YtffgnjgphkdodaaDoorD1
import Derived.Deep.CutBlock
namespace Go.Proofs.YtffgnjgphkdodaaDoor
open Go Go.RowKit
def HRel (g:Graph) (N:Nat) (cg:List Value) (w:World) (gk:Nat) (v6 v7:Value) (wr:World) : Prop :=
 ∃ (s:HS) (S:Nat→Prop) (cs:List Value) (k:Nat),HMem 38 39 cg w N s S cs v6 wr∧HOk N s∧hRun g gk k s=heldF g∧v7=.int .i64 k∧gk+k=N+1∧k≤s.todo.length
def HRel2 (g:Graph) (N:Nat) (cg:List Value) (w:World) (f k:Nat) (now fs:List Int) (v10 fv:Value) (gk:Nat) (v6 v80:Value) (wr:World) : Prop :=
 ∃ (s:HS) (S:Nat→Prop) (cs:List Value) (j:Nat),HMem 38 39 cg w N s S cs v6 wr∧HOk N s∧hRest g f k now s (fs.drop j)=heldF g∧v80=.int .i64 j∧gk+j=fs.length∧k < s.todo.length ∧
  Ints (on wr S) v10 now∧Ints (on wr S) fv fs
def HNow (N:Nat) (cg:List Value) (w:World) (s:HS) (cs:List Value) (v6:Value) (nd:Node) (at_ bn:Nat) (v10:Value) (wc:World) : Prop :=
 ∃ (now:List Int) (S:Nat→Prop),hNow nd (hCur s at_)=some now∧HMem 38 39 cg w N s S cs v6 wc∧Ints (on wc S) v10 now∧Blk wc bn 61 nd.cells
def HPost (g:Graph) (w:World) (e:Ending) (w':World) : Prop :=
 (∃ v L,e=.returned (.tuple #[v,.int .i64 (-1)])∧heldF g=.ok L∧Ints2 (part w' w.heap.size w'.heap.size) v L∧Below w.heap.size w w') ∨
 (∃ a:Nat,e=.returned (.tuple #[.slice none 0 0,.int .i64 a])∧heldF g=.error a∧Below w.heap.size w w')
theorem ZJb {l:List Nat} {i x:Nat} (h:l[i]? = some x) : (ints (nats l))[i]? = some (.int .i64 (x:Int)):=by simp[ints,nats,h]
set_option maxRecDepth 100000 in
set_option maxHeartbeats 4000000 in
theorem ZEA (g:Graph) (cs:List Value) (w:World) (hw:WholeG g) (hg:GraphV (cmap w) cs g) :
  Calls Tryd.prog 47 #[.agg cs.toArray] w (HPost g w):=by
 obtain⟨nv,rfl,A,c,rfl,hlc,hc,hn⟩:=hg
 have hpos:=hw.pos
 have hmost:=hw.most
 obtain⟨b,o,rfl,hnode⟩ : ∃ b o,A=some ⟨b,o,none⟩∧∀ i x,g.nodes[i]? = some x→NodeC (cmap w) b (o+i * 13) x:=by
  rcases hn with h | h
  ·rw[h] at hpos;simp at hpos
  ·exact h
 clear hn
 obtain⟨N,HN⟩ : ∃ N,Hid (g.nodes.length=N):=⟨_,rfl⟩
 have h0:0 < N:=by rw[← HN.out];exact hpos
 have hN:N≤4096:=by rw[← HN.out];exact hmost
 rw[HN.out] at hlc
 have hst:=HOk.start hpos
 clear hpos hmost
 generalize hCG:[Value.string g.name,Value.int .i64 g.locals,Value.int .i64 g.slots,Value.slice (some ⟨b,o,none⟩) N c]=CG
 rw[HN.out,hCG]
 have HCG:=Hd_ hCG;clear hCG
 rw[← HCG.out]
 go_enter Tryd.func47,Tryd.ntmps47
 go_upto_region 2 with(refine ZAX ZER rfl rfl (.tmp 15) (.tmp 15) rfl N rfl rfl (by omega) (by omega) ?_)
 apply wp_region_lit
 refine ZBW rfl rfl ?_
 refine Zu ZBr Tryd.underlying133 rfl _ _ _ (.inr rfl) _ (fun _=>none) (MapIs.new _ _ rfl) 0 (.bool true) rfl rfl rfl ?_
 intro w1 hm1 hg1
 have hs1:=hg1.size
 simp only[World.size_alloc] at hs1 hm1 hg1
 go_wp2_with fail
 go_loopg [6,7] (N+1) (fun k v6 v7 wr=>HRel g N CG w k v6 v7 wr)
 case atStart =>
  have hB:=ZFX w (.cells #[.string g.name,.int .i64 g.locals,.int .i64 g.slots,.slice (some ⟨b,o,none⟩) N c] 38) (.cells (List.replicate N (.slice none 0 0)).toArray 39) (.map #[] 0)
  have hB1:Below w.heap.size w w1:=hB.grown hg1 hB.size (fun k hk=>by injection hk with hk;omega)
  rw[HN.out] at hst
  refine⟨hStart N,fun _=>False,List.replicate N (.slice none 0 0),0,?_,hst,by unfold heldF;rw[HN.out],rfl,rfl,Nat.zero_le _⟩
  refine { own:=?_,box:=?_,lk:=?_,len:=by simp,lists:=?_,sep:=fun b h=>h.elim,map:=?_,below:=hB1.alloc (by omega) _ }
  ·exact ZA8 _ _ _ rfl (by omega) (by decide) (by rfl) _ rfl
  ·rw[← HCG.out]
   exact((((Blk.new w _ _).alloc _).alloc _).grown hg1 (by simp;omega)).alloc _
  ·refine((((Blk.of (ZP _ _ _ (by simp)) (by simp))).alloc _).grown hg1 (by simp)).alloc _
  ·intro i v hv
   rw[List.getElem?_replicate] at hv
   split at hv
   ·rename_i hi
    injection hv with hv
    subst hv
    exact⟨[],by simp[hStart,hi],ZBH _⟩
   ·cases hv
  ·refine((hm1.congr fun k'=>?_).alloc _)
   unfold foundF hStart
   dsimp only
   by_cases e:k'=0
   ·subst e
    rw[if_pos rfl,if_pos]
    refine⟨Int.le_refl _,?_⟩
    rw[Int.toNat_zero,List.getElem?_set,if_pos rfl,if_pos (by simpa using h0)]
   ·rw[if_neg e,if_neg]
    rintro⟨h1,h2⟩
    rw[List.getElem?_set,if_neg (by omega),List.getElem?_replicate] at h2
    split at h2 <;> cases h2
 case round =>
  obtain⟨s,S,ks,k,hm,hok,hrun,rfl,hgk,hk⟩:=hrel
  have htl:=hok.lt
  by_cases hlt:k < s.todo.length
  ·obtain⟨at_,hat⟩ : ∃ x,s.todo[k]? = some x:=⟨_,List.getElem?_eq_getElem hlt⟩
   have hatN:=(hok.todo at_ (List.mem_of_getElem? hat)).1
   obtain⟨g6,c6,rfl,hg6,hg6',hc6,hcell⟩:=ZW hm.own (by omega)
   have hka:wr.cell? ⟨g6,k,none⟩=some (.int .i64 (at_:Nat)):=by rw[hcell k (by omega)];exact ZJb hat
   clear hcell
   have hbc:wr.cell? ⟨w.heap.size,3,none⟩=some (.slice (some ⟨b,o,none⟩) N c):=by rw[hm.box.cell 3,← HCG.out];rfl
   obtain⟨nd,hnd⟩ : ∃ nd,g.nodes[at_]? = some nd:=⟨g.nodes[at_]'(by rw[HN.out];exact hatN),List.getElem?_eq_getElem _⟩
   have hld:∀ j v,nd.cells[j]? = some v→wr.cell? ⟨b,o+at_ * 13+j,none⟩=some v:=fun j v h=>ZA hm.below _ _ _ (hnode at_ nd hnd j v h)
   have HLD:=Hd_ hld;clear hld
   unfold Node.cells at HLD
   obtain⟨lv,hlv⟩ : ∃ v,ks[at_]? = some v:=⟨ks[at_]'(by rw[hm.len];exact hatN),List.getElem?_eq_getElem _⟩
   obtain⟨cur,hcur,hcl⟩:=hm.lists at_ lv hlv
   have hcl':=hcl
   obtain⟨lA,lc,rfl,-,-,-⟩:=hcl'
   have hka2:wr.cell? ⟨w.heap.size+1,at_,none⟩=some (.slice lA cur.length lc):=by rw[hm.lk.cell];exact hlv
   have hcur2:hCur s at_=cur:=by simp[hCur,hcur]
   have hcurl:cur.length≤k:=by rw[← hcur2];exact hok.len k at_ hat
   have HRUN:=Hd_ hrun;clear hrun
   have HGK:=Hd_ hgk;clear hgk
   have HAT:=Hd_ hat;clear hat
   have HND:=Hd_ hnd;clear hnd
   have HCUR:=Hd_ hcur2;clear hcur2
   clear hlv hcur
   have hbb:=hm.box.lt
   have hlb:=hm.lk.lt
   have hmb:=hm.map.lt
   go_upto_block 2 with(refine ZC rfl 61 _ rfl b (o+at_ * 13) rfl _ _ HLD.out Tryd.underlying61 rfl (by kernel_rfl) ?_)
   have hcl2:Ints (cmap wr) (.slice lA cur.length lc) cur:=hcl.mono (on_le _ _)
   have hcln:=hcl.len
   have HCLS:=Hd_ hcl
   go_cut [10] (fun v10 wc=>HNow N CG w s ks (.slice (some ⟨g6,0,none⟩) s.todo.length c6) nd at_ wr.heap.size v10 wc)
   case first =>
    have HM:=Hd_ hm;clear hm
    have hcur0:cur.length < 4294967296:=by omega
    clear hcl hcln
    have fin:∀ (now:List Int) (v10:Value) (w':World) (S':Nat→Prop),hNow nd cur=some now→Below (wr.heap.size+1) (wr.alloc (.cells nd.cells.toArray 61)) w'→Ints (on w' S') v10 now→(∀ b,S b→S' b) →
      (∀ b,S' b→S b∨wr.heap.size < b∧b < w'.heap.size)→HNow N CG w s ks (.slice (some ⟨g6,0,none⟩) s.todo.length c6) nd at_ wr.heap.size v10 w':=by
     intro now v10 w' S' h1 h2 h3 h4 h5
     have hb:Below wr.heap.size wr w':=(ZI wr _).trans (h2.mono (by omega))
     refine⟨now,S',by rw[HCUR.out];exact h1,(HM.out.keep hb).more h4 (fun b hS=>?_),h3,(Blk.new wr _ _).below h2 (by omega)⟩
     rcases h5 b hS with h | h
     ·have:=HM.out.sep b h
      exact⟨this.1,by have:=hb.size;omega,this.2.2⟩
     ·refine⟨by omega,h.2,fun e=>?_⟩
      simp[Value.ownBlock] at e
      omega
    have FIN:=Hd_ fin;clear fin
    have err:hNow nd cur=none→∀ {w':World},Below (wr.heap.size+1) (wr.alloc (.cells nd.cells.toArray 61)) w'→HPost g w (.returned (.tuple #[.slice none 0 0,.int .i64 (at_:Nat)])) w':=by
     intro h1 w' h2
     refine .inr ⟨at_,rfl,?_,HM.out.below.trans (((ZI wr _).trans (h2.mono (by omega))).mono HM.out.below.size)⟩
     have hgk:=HGK.out
     obtain⟨f,rfl⟩ : ∃ f,gk=f+1:=⟨gk - 1,by omega⟩
     have:=HRUN.out
     rw[ZHy g HAT.out HND.out,HCUR.out,h1] at this
     exact this.symm
    have ERR:Hid _:=err;clear err
    have HCL:=Hd_ (show Ints (on wr S) (.slice lA cur.length lc) cur from HCLS.out)
    by_cases e5:nd.kind=5
    ·have f5:(nd.kind == 5)=true:=by simpa using e5
     have hno:hNow nd cur=some (cur ++ [nd.thing]):=by simp[hNow,e5]
     have HNO:=Hd_ hno;clear hno
     have E5:=Hd_ e5;clear e5
     go_wp2_with fail
     go_region_law (first
      | (refine ZE3 Z2 rfl _ _ rfl _ v' cur.length (ints cur) rfl (by first | exact hownA | exact hownA.alloc _) _ 0 1 [.int .i64 nd.thing] rfl rfl (by first | exact Za _ _ _ _ (by simp) | exact fun j u hj=>(hbA.cell (p:=⟨_,0+j,none⟩) (by simp)).trans (Za _ _ _ _ (by simp) j u hj)) (by simp[Value.oneCell']) hcur0 (by decide) (by have:=hbA.size;simp at this;simp;omega) ?_;intro v2 w2 hown2 hg2 hob2)
      | (go_simp;go_at_call 24;refine(ZAF _ cur _ (by first | exact hcl2.mono ((ZJ _ _).trans (ZFS _)) | exact hcl2.mono (((ZJ _ _).trans (ZJ _ _)).trans (ZFS _))) hcur0).mono ?_;rintro e wA ⟨v',rfl,hownA,hbA⟩;obtain⟨hcA,hfA⟩:=ZFU hbA))
     all_goals (
      go_wp2_with fail
      go_meet
      have hl2:=hown2.lt
      have hA:=hownA.lt
      simp only[World.size_alloc,World.size_drew] at hl2 hA
      refine FIN.out (cur ++ [nd.thing]) v2 w2 (fun b=>S b∨v2.ownBlock=some b) HNO.out ?_ (ZJH (f:=Value.int .i64) (fun _ _ _ _ h=>h) (by simpa [ints] using hown2) (fun b hb=>.inr hb)) (fun b h=>.inl h) (fun b h=>h.imp id (fun h=>?_))
      ·first
        | exact(((Below.refl _ _).drew.trans (hbA.mono (by simp))).alloc (by have:=hbA.size;simp at this;omega) _).grown hg2 (by have:=hbA.size;simp at this;simp;omega) (fun k hk=>by have:=hA k hk;omega)
        | exact((((Below.refl _ _).alloc (by simp) _).drew.trans (hbA.mono (by simp))).grown hg2 (by have:=hbA.size;simp at this;omega) (fun k hk=>by have:=hA k hk;omega))
      ·have:=hl2 b h
       omega)
    ·have f5:(nd.kind == 5)=false:=by simpa using e5
     have hb0:Below (wr.heap.size+1) (wr.alloc (.cells nd.cells.toArray 61)) (wr.alloc (.cells nd.cells.toArray 61)):=Below.refl _ _
     have hle:(on wr S).le (on (wr.alloc (.cells nd.cells.toArray 61)) S):=HM.out.on_le (ZI _ _)
     by_cases e6:nd.kind=6
     ·have f6:(nd.kind == 6)=true:=by simpa using e6
      have E6:=Hd_ e6;clear e6
      by_cases hc0:cur=[]
      ·have hcl0:cur.length=0:=by rw[hc0];rfl
       have hd0:((cur.length:Int) == 0)=true:=by simp[hc0]
       have hno:hNow nd cur=none:=by simp[hNow,E6.out,hc0]
       have HNO:=Hd_ hno;clear hno hle hc0 hcl0
       go_wp2_with fail
       go_quiet (fail)
       go_wp2_with fail
       go_ret2
       exact ERR.out HNO.out (below_drewN hb0 _)
      ·have hpos:0 < cur.length:=List.length_pos_iff.2 hc0
       have hd0:((cur.length:Int) == 0)=false:=by simp[hc0]
       obtain⟨last,hlast⟩ : ∃ x,cur[cur.length - 1]? = some x:=⟨_,List.getElem?_eq_getElem (by omega)⟩
       have hgl:cur.getLast? = some last:=by rw[List.getLast?_eq_getElem?];exact hlast
       obtain⟨lb,lo,rfl,hlc⟩:=hcl2.at_ hlast
       rw[Nat.mul_one] at hlc
       have hlc2:wr.cell? ⟨lb,lo+(cur.length - 1),none⟩=some (.int .i64 last):=hlc
       clear hlc
       have hlbs:=World.block_lt_of_cell? wr ⟨lb,lo+(cur.length - 1),none⟩ hlc2
       dsimp only at hlbs
       have hi0:(0:Int)≤(cur.length:Int) - 1:=by omega
       have hi1:(cur.length:Int) - 1 < cur.length:=by omega
       have hi2:((cur.length:Int) - 1).toNat=cur.length - 1:=by omega
       have HGL:=Hd_ hgl;clear hgl
       clear hlast
       have HC0:=Hd_ hc0;clear hc0
       by_cases hth:last=nd.thing
       ·have hne:(last != nd.thing)=false:=by simp[hth]
        have hno:hNow nd cur=some cur.dropLast:=by simp[hNow,E6.out,HGL.out,hth]
        have HNO:=Hd_ hno;clear hno
        have HTH:=Hd_ hth;clear hth
        have hlcc:(cur.length:Int) - 1≤lc:=by have:=hcl2.len.2.1;omega
        go_wp2_with fail
        go_quiet (fail)
        go_wp2_with fail
        go_meet
        exact FIN.out cur.dropLast _ _ S HNO.out (below_drewN hb0 _) ((HCL.out.mono hle).dropLast) (fun _ h=>h) (fun _ h=>.inl h)
       ·have hne:(last != nd.thing)=true:=by simp[hth]
        have hno:hNow nd cur=none:=by simp[hNow,E6.out,HGL.out,hth]
        have HNO:=Hd_ hno;clear hno hle hth
        go_wp2_with fail
        go_quiet (fail)
        go_wp2_with fail
        go_ret2
        exact ERR.out HNO.out (below_drewN hb0 _)
     ·have f6:(nd.kind == 6)=false:=by simpa using e6
      by_cases e9:nd.kind=9
      ·have f9:(nd.kind == 9)=true:=by simpa using e9
       by_cases hc0:cur=[]
       ·have hcl0:cur.length=0:=by rw[hc0];rfl
        have hno:hNow nd cur=some cur:=by simp[hNow,e9,hc0]
        have HNO:=Hd_ hno;clear hno
        have HC0:=Hd_ hc0;clear hc0
        have HCL0:=Hd_ hcl0;clear hcl0
        have E9:=Hd_ e9;clear e9
        go_wp2_with fail
        all_goals (try (exfalso;have:=HCL0.out;omega))
        go_meet
        exact FIN.out cur _ _ S HNO.out hb0 (HCL.out.mono hle) (fun _ h=>h) (fun _ h=>.inl h)
       ·have hpos:0 < cur.length:=List.length_pos_iff.2 hc0
        have hno:hNow nd cur=none:=by simp[hNow,e9,hc0]
        have hf:HPost g w (.returned (.tuple #[.slice none 0 0,.int .i64 (at_:Nat)])) (wr.alloc (.cells nd.cells.toArray 61)):=ERR.out hno (Below.refl _ _)
        have HF:=Hd_ hf;clear hf hno hb0 hle
        have E9:=Hd_ e9;clear e9
        go_wp2_with fail
        all_goals (try (exfalso;omega))
        go_ret2
        exact HF.out
      ·have f9:(nd.kind == 9)=false:=by simpa using e9
       have hno:hNow nd cur=some cur:=by simp[hNow,e5,e6,e9]
       have HNO:=Hd_ hno;clear hno
       go_wp2_with fail
       go_meet
       exact FIN.out cur _ _ S HNO.out hb0 (HCL.out.mono hle) (fun _ h=>h) (fun _ h=>.inl h)
   case rest =>
    obtain⟨now,S1,hno,hm1,hv10,hnb⟩:=hcut
    have hgk:=HGK.out
    obtain⟨f,rfl⟩ : ∃ f,gk=f+1:=⟨gk - 1,by omega⟩
    have hre:hRest g f k now s (fol nd)=heldF g:=by
     have:=HRUN.out
     rw[ZHy g HAT.out HND.out,hno] at this
     exact this
    have hnl:now.length≤k+1:=by
     have h1:=hno
     rw[HCUR.out] at h1
     unfold hNow at h1
     split at h1
     ·injection h1 with h1;subst h1;simp;omega
     ·split at h1
      ·split at h1
       ·injection h1 with h1;subst h1;simp;omega
       ·cases h1
      ·split at h1
       ·split at h1
        ·injection h1 with h1;subst h1;simp
        ·cases h1
       ·injection h1 with h1;subst h1;omega
    have HRE:=Hd_ hre;clear hre
    clear hno hgk
    have hnd2:∀ j v,nd.cells[j]? = some v→wc.cell? ⟨wr.heap.size,0+j,none⟩=some v:=fun j v h=>by rw[Nat.zero_add,hnb.cell];exact h
    have HND2:=Hd_ hnd2;clear hnd2 hnb
    have hfl:=ZAt nd
    go_wp2_with (first | (refine ZC rfl 61 _ rfl wr.heap.size 0 rfl nd.cells _ HND2.out Tryd.underlying61 rfl (by kernel_rfl) ?_) | (go_at_call 70;refine(ZAD nd _).mono ?_;rintro e w2 ⟨fv,rfl,hf,hb2⟩;have hf':=hf;obtain⟨fA,fc,rfl,hfc,hfm,hfe⟩:=hf'))
    have hs2:=hb2.size
    have h6lt:=hm1.own.lt g6 rfl
    have hbw:=hm1.map.lt
    have hm2:HMem 38 39 CG w N s (fun b=>S1 b∨wc.heap.size≤b∧b < w2.heap.size) ks (.slice (some ⟨g6,0,none⟩) s.todo.length c6) w2 :=
     (hm1.keep hb2).more (fun b h=>.inl h) (fun b h=>by
      rcases h with h | h
      ·have:=hm1.sep b h
       exact⟨this.1,by omega,this.2.2⟩
      ·refine⟨by omega,h.2,fun e=>?_⟩
       simp[Value.ownBlock] at e
       omega)
    have hv2:Ints (on w2 (fun b=>S1 b∨wc.heap.size≤b∧b < w2.heap.size)) u10 now :=
     hv10.mono (Zf (fun b hS _=>hb2.block b (hm1.sep b hS).2.1) (fun b h=>.inl h))
    have hf2:Ints (on w2 (fun b=>S1 b∨wc.heap.size≤b∧b < w2.heap.size)) (.slice fA (fol nd).length fc) (fol nd) :=
     hf.mono (ZCL _ (fun b h1 h2=>.inr ⟨h1,h2⟩))
    have hwf:∀ x∈fol nd,0≤x∧x < N:=fun x hx=>by
     have:=hw.fol nd (List.mem_of_getElem? HND.out) x hx
     rw[HN.out] at this
     exact this
    have HWF:=Hd_ hwf;clear hwf
    clear hf hfe hv10 HND2
    obtain⟨fs,hfs⟩ : ∃ fs,fol nd=fs:=⟨_,rfl⟩
    rw[hfs] at hf2 HWF hfl hfc HRE ⊢
    clear hfs
    obtain⟨wo,rfl⟩ : ∃ wo:World,wo=wr:=⟨_,rfl⟩
    clear hka hka2 hbc hcl hcl2 hcln HCLS HCUR HRUN HLD hm hbb hlb hmb
    go_loopg [6,80] (fs.length) (fun k2 v6 v80 wr2=>HRel2 g N CG w f k now fs u10 (.slice fA fs.length fc) k2 v6 v80 wr2)
    case atStart=>exact⟨s,_,ks,0,hm2,hok,HRE.out,rfl,by omega,hlt,hv2,hf2⟩
    case round =>
     obtain⟨s2,S3,ks3,j,hm3,hok3,hr3,rfl,hj,hk3,h10,hfv⟩:=hrel
     clear hm1 hm2 hv2 hf2 HRE
     have HJ:=Hd_ hj;clear hj
     by_cases hjl:j < fs.length
     ·obtain⟨x,hx⟩ : ∃ x,fs[j]? = some x:=⟨_,List.getElem?_eq_getElem hjl⟩
      have hxb:=HWF.out x (List.mem_of_getElem? hx)
      obtain⟨xn,rfl⟩:=Int.eq_ofNat_of_zero_le hxb.1
      have hdr:fs.drop j=(xn:Int) :: fs.drop (j+1):=by
       rw[List.drop_eq_getElem_cons hjl]
       congr 1
       rw[List.getElem?_eq_getElem hjl] at hx
       injection hx
      rw[hdr,ZG6,Int.toNat_natCast] at hr3
      have HR3:=Hd_ hr3;clear hr3 hdr
      obtain⟨bf,of,rfl,hfc1⟩:=hfv.at_ hx
      rw[Nat.mul_one] at hfc1
      obtain⟨hfc2,hbf⟩:=ZGu hfc1
      clear hfc1
      have hxN:xn < N:=by omega
      have HX:=Hd_ hx;clear hx
      obtain⟨kv,hkv⟩ : ∃ v,ks3[xn]? = some v:=⟨ks3[xn]'(by rw[hm3.len];exact hxN),List.getElem?_eq_getElem _⟩
      obtain⟨lx,hlx,hlxi⟩:=hm3.lists xn kv hkv
      have hkc:wr.cell? ⟨w.heap.size+1,xn,none⟩=some kv:=by rw[hm3.lk.cell];exact hkv
      have hkf:=hm3.lk.frozen xn
      have HKV:=Hd_ hkv;clear hkv
      have HLX:=Hd_ hlx;clear hlx
      by_cases hfd:s2.found[xn]? = some true
      ·have hfF:(foundF s2 (xn:Int)).getD (.bool false)=.bool true:=by
        unfold foundF
        rw[if_pos ⟨by omega,by rw[Int.toNat_natCast];exact hfd⟩]
        rfl
       have HFF:=Hd_ hfF;clear hfF
       have HFD:=Hd_ hfd;clear hfd
       by_cases hln:lx=now
       ·have hdt:decide (lx=now)=true:=decide_eq_true hln
        have hv:hVisit now s2 xn=.ok s2:=by
         unfold hVisit
         rw[if_pos HFD.out,if_pos (by rw[HLX.out,hln])]
        have HV:=Hd_ hv;clear hv hln
        go_wp2_with (refine Zo rfl ?_)
        refine Stop.intro ?_
        refine ZBK ZBr Tryd.underlying133 rfl _ _ rfl (w.heap.size+2) (foundF s2) hm3.map (xn:Int) rfl rfl (.bool false) (by kernel_rfl) ?_
        rw[HFF.out]
        go_wp2_with (go_at_call 71;refine(ZDd _ _ lx now _ (hlxi.mono (on_le _ _)) (h10.mono (on_le _ _))).mono ?_;rintro e w3 ⟨rfl,nq,rfl⟩)
        go_roundg (gk - 1)
        case measure=>have:=HJ.out;omega
        case rel =>
         have hr:=HR3.out
         rw[HV.out] at hr
         exact⟨s2,S3,ks3,j+1,hm3.keep (below_drewN (Below.refl _ _) _),hok3,hr,by go_num,by have:=HJ.out;omega,hk3,h10.mono (Zf (fun _ _ _=>rfl) (fun _ h=>h)),hfv.mono (Zf (fun _ _ _=>rfl) (fun _ h=>h))⟩
       ·have hdt:decide (lx=now)=false:=decide_eq_false hln
        have hv:hVisit now s2 xn=.error xn:=by
         unfold hVisit
         rw[if_pos HFD.out,if_neg (by rw[HLX.out];intro e;injection e with e;exact hln e)]
        have HV:=Hd_ hv;clear hv hln
        go_wp2_with (refine Zo rfl ?_)
        refine Stop.intro ?_
        refine ZBK ZBr Tryd.underlying133 rfl _ _ rfl (w.heap.size+2) (foundF s2) hm3.map (xn:Int) rfl rfl (.bool false) (by kernel_rfl) ?_
        rw[HFF.out]
        go_wp2_with (go_at_call 71;refine(ZDd _ _ lx now _ (hlxi.mono (on_le _ _)) (h10.mono (on_le _ _))).mono ?_;rintro e w3 ⟨rfl,nq,rfl⟩)
        go_ret2
        have hr:=HR3.out
        rw[HV.out] at hr
        exact .inr ⟨xn,rfl,hr.symm,below_drewN hm3.below _⟩
      ·have hfF:(foundF s2 (xn:Int)).getD (.bool false)=.bool false:=by
        unfold foundF
        rw[if_neg (fun h=>hfd (by rw[Int.toNat_natCast] at h;exact h.2))]
        rfl
       have hv:hVisit now s2 xn=.ok ⟨s2.locks.set xn now,s2.found.set xn true,s2.todo ++ [xn]⟩:=by
        unfold hVisit
        rw[if_neg hfd]
       have hok4:=hok3.visit hxN hfd (now:=now) (by omega)
       have HV:=Hd_ hv;clear hv
       have HFF:=Hd_ hfF;clear hfF
       have HFD:=Hd_ hfd;clear hfd
       have htl3:=hok3.lt
       go_wp2_with (first | (refine Zo rfl ?_) | (refine Zn rfl ?_))
       refine Stop.intro ?_
       refine ZBK ZBr Tryd.underlying133 rfl _ _ rfl (w.heap.size+2) (foundF s2) hm3.map (xn:Int) rfl rfl (.bool false) (by kernel_rfl) ?_
       rw[HFF.out]
       go_wp2_with (refine Zn rfl ?_)
       refine Stop.intro ?_
       refine Zu ZBr Tryd.underlying133 rfl _ _ _ (.inl rfl) (w.heap.size+2) (foundF s2) hm3.map (xn:Int) (.bool true) rfl rfl rfl ?_
       intro w3 hm4 hg4
       have hs3:=hg4.size
       have h10w:Ints (cmap w3) u10 now:=h10.mono ((Zf (fun b hS hb=>hg4.block b hb (by have:=hm3.sep b hS;intro e;injection e with e;omega)) (fun _ h=>h)).trans (on_le w3 S3))
       have hlk3:=hm3.lk.lt
       go_wp2_with (first | (go_at_call 24;refine(ZAF u10 now _ h10w (by omega)).mono ?_;rintro e w4 ⟨v',rfl,hown4,hb4⟩;have hk4:=(hm3.lk.grown hg4 (by simp)).below hb4 (by omega);have hc4:=(hk4.cell xn).trans HKV.out;have hf4:=hk4.frozen xn;obtain⟨vA,vc,rfl,-⟩:=ZE hown4) | (refine ZN rfl ?_))
       refine Stop.intro ?_
       have hs4:=hb4.size
       have h6n:u6.ownBlock≠some (w.heap.size+1):=fun e=>ZQ hm3.own hm3.lk (by decide) e.symm
       have h6m:some (w.heap.size+2)≠u6.ownBlock:=ZHe hm3.own hm3.map
       have ho3:w3.ownsRow w.heap.size 3 1 u6 s2.todo.length (ints (nats s2.todo)):=hm3.own.kept hg4 (.inr fun e=>h6m e.symm)
       have ho4:w4.ownsRow w.heap.size 3 1 u6 s2.todo.length (ints (nats s2.todo)):=ho3.kept (row:=none) ⟨hb4.os,hb4.tape,hb4.output,hb4.size,fun k hk _=>hb4.block k hk⟩ (by
        cases hv:u6.ownBlock with
        | none=>exact .inl rfl
        | some x=>exact .inr (by simp))
       have ho5:=(ownsRow_setCell_other (a:=⟨w.heap.size+1,xn,none⟩) ho4 h6n (.slice vA now.length vc)).alloc (.cells #[.int .i64 (xn:Nat)] 3)
       refine Zg Z2 rfl _ _ rfl w.heap.size u6 s2.todo.length (ints (nats s2.todo)) rfl ho5 w4.heap.size 0 1 [.int .i64 (xn:Nat)] rfl rfl (Za _ _ _ _ (by simp)) (by simp[Value.oneCell']) (by omega) (by decide) (by simp;omega) ?_
       intro v5 w5 hown5 hg5 hob5
       obtain⟨hm5,hle5⟩:=hm3.push (by decide) (by decide) hxN hok3.locks hok3.found hm4 hg4 hown4 hb4 hown5 hg5 hob5
       clear hm4 hg4 hown4 hb4 hown5 hg5 hob5 ho3 ho4 ho5 hc4 hf4 hk4
       go_wp2_with fail
       go_roundg (gk - 1)
       case measure=>have:=HJ.out;omega
       case rel =>
        have hr:=HR3.out
        rw[HV.out] at hr
        exact⟨_,_,_,j+1,hm5,hok4,hr,by go_num,by have:=HJ.out;omega,by simp;omega,h10.mono hle5,hfv.mono hle5⟩
     ·have hnil:fs.drop j=[]:=List.drop_eq_nil_of_le (by omega)
      rw[hnil,ZHz] at hr3
      have HR3:=Hd_ hr3;clear hr3 hnil
      go_wp2_with fail
      go_roundg f
      case measure=>omega
      case rel=>exact⟨s2,S3,ks3,k+1,hm3,hok3,HR3.out,by go_num,by have:=HGK.out;omega,by omega⟩
  ·have hend:=ZIz g (f:=gk) (s:=s) (k:=k) (by omega)
   rw[hend] at hrun
   have HRUN:=Hd_ hrun;clear hrun hend hgk
   obtain⟨A6,c6,rfl,_⟩:=ZE hm.own
   go_wp2_with fail
   go_ret2
   refine .inl ⟨.slice (some ⟨w.heap.size+1,0,none⟩) N N,s.locks,rfl,HRUN.out.symm,?_,hm.below⟩
   have hlt:=hm.lk.lt
   refine⟨_,N,by rw[hok.locks],by rw[hok.locks];exact Nat.le_refl _,⟨by simp only[maxLen];omega,fun h=>by cases h⟩,.inr ⟨w.heap.size+1,0,rfl,fun i x hx=>?_⟩⟩
   have hi:i < N:=by have:=(List.getElem?_eq_some_iff.1 hx).1;rw[hok.locks] at this;exact this
   obtain⟨v,hv⟩ : ∃ v,ks[i]? = some v:=⟨ks[i]'(by rw[hm.len];exact hi),List.getElem?_eq_getElem _⟩
   obtain⟨l,h1,h2⟩:=hm.lists i v hv
   rw[hx] at h1
   injection h1 with h1
   subst h1
   refine⟨v,?_,h2.mono (ZHk _ fun b hb=>by have:=hm.sep b hb;omega)⟩
   unfold part
   rw[if_pos ⟨by omega,hlt⟩,Nat.zero_add,Nat.mul_one,hm.lk.cell]
   exact hv
set_option maxRecDepth 100000 in
set_option maxHeartbeats 1000000 in
theorem ZA3 (g:Graph) (cs:List Value) (w:World) (hw:WholeG g) (hg:GraphV (cmap w) cs g) :
  Calls Tryd.prog 57 #[.agg cs.toArray] w fun e w'=>e=.returned (.bool true)∧Below w.heap.size w w':=by
 obtain⟨nv,rfl,A,c,rfl,hlc,hc,hn⟩:=hg
 have hpos:=hw.pos
 have hmost:=hw.most
 obtain⟨b,o,rfl,hnode⟩ : ∃ b o,A=some ⟨b,o,none⟩∧∀ i x,g.nodes[i]? = some x→NodeC (cmap w) b (o+i * 13) x:=by
  rcases hn with h | h
  ·rw[h] at hpos;simp at hpos
  ·exact h
 clear hn
 obtain⟨N,HN⟩ : ∃ N,Hid (g.nodes.length=N):=⟨_,rfl⟩
 have h0:0 < N:=by rw[← HN.out];exact hpos
 have hN:N≤4096:=by rw[← HN.out];exact hmost
 rw[HN.out] at hlc
 clear hpos hmost
 rw[HN.out]
 go_enter Tryd.func57,Tryd.ntmps57
 go_wp2_with fail
 go_loopw [20] (fun v wr=>∃ k:Nat,v=.int .i64 k∧k≤N∧Blk wr w.heap.size 38 [.string g.name,.int .i64 g.locals,.int .i64 g.slots,.slice (some ⟨b,o,none⟩) N c]∧Below w.heap.size w wr) (fun v _=>N - (intOf v).toNat)
 case atStart=>exact⟨0,rfl,by omega,Blk.new w _ _,ZI _ _⟩
 case round =>
  obtain⟨k,rfl,hk,hbx,hbel⟩:=hrel
  have hbc:wr.cell? ⟨w.heap.size,3,none⟩=some (.slice (some ⟨b,o,none⟩) N c):=by rw[hbx.cell 3];rfl
  have hbl:=hbx.lt
  by_cases hlt:k < N
  ·obtain⟨nd,hnd⟩ : ∃ nd,g.nodes[k]? = some nd:=⟨g.nodes[k]'(by rw[HN.out];exact hlt),List.getElem?_eq_getElem _⟩
   have hld:∀ j v,nd.cells[j]? = some v→wr.cell? ⟨b,o+k * 13+j,none⟩=some v:=fun j v h=>ZA hbel _ _ _ (hnode k nd hnd j v h)
   have hkd:=hw.kind nd (List.mem_of_getElem? hnd)
   have hwf:∀ x∈fol nd,0≤x∧x < N:=fun x hx=>by
    have:=hw.fol nd (List.mem_of_getElem? hnd) x (hx)
    rw[HN.out] at this
    exact this
   have hfl:(fol nd).length≤2:=ZAt nd
   have HWF:=Hd_ hwf;clear hwf
   have HLD:=Hd_ hld;clear hld
   have HND:=Hd_ hnd;clear hnd
   have hk1:=hkd.1
   have hk2:=hkd.2
   have hk0:(nd.kind == 0)=false:=by simp;omega
   have hk3:decide (10≤nd.kind)=false:=by simp;omega
   have hk4:decide (nd.kind≤0)=false:=by simp;omega
   clear hkd
   have hbx2:=hbx.alloc (.cells nd.cells.toArray 61)
   have hld2:∀ j v,nd.cells[j]? = some v→(wr.alloc (.cells nd.cells.toArray 61)).cell? ⟨wr.heap.size,0+j,none⟩=some v:=ZL wr nd.cells _ _ rfl
   have HLD2:=Hd_ hld2;clear hld2
   unfold Node.cells at HLD HLD2
   go_wp2_with (first | (refine ZC rfl 61 _ rfl b (o+k * 13) rfl _ _ HLD.out Tryd.underlying61 rfl (by kernel_rfl) ?_) | (refine ZC rfl 61 _ rfl wr.heap.size 0 rfl _ _ HLD2.out Tryd.underlying61 rfl (by kernel_rfl) ?_) | (go_at_call 70;refine(ZAD nd _).mono ?_;rintro e w2 ⟨fv,rfl,hf,hb2⟩;have hf':=hf;obtain⟨fA,fc,rfl,-,-,-⟩:=hf'))
   have hbx3:=hbx2.below hb2 hbx2.lt
   have hbc3:w2.cell? ⟨w.heap.size,3,none⟩=some (.slice (some ⟨b,o,none⟩) N c):=by rw[hbx3.cell 3];rfl
   have hbl3:=hbx3.lt
   have hbel3:=(hbel.alloc hbel.size (.cells nd.cells.toArray 61)).trans (hb2.mono (hbel.alloc hbel.size _).size)
   obtain⟨fs,hfs⟩ : ∃ fs,fol nd=fs:=⟨_,rfl⟩
   rw[hfs] at hf HWF hfl ⊢
   clear hfs hbx2 HLD HLD2
   go_loop [35] (fun v=>∃ j:Nat,v=.int .i64 j∧j≤fs.length) (fun v=>fs.length - (intOf v).toNat)
   case atStart=>exact⟨0,rfl,by omega⟩
   case round =>
    obtain⟨j,rfl,hj⟩:=hrel
    by_cases hjl:j < fs.length
    ·obtain⟨x,hx⟩ : ∃ x,fs[j]? = some x:=⟨_,List.getElem?_eq_getElem hjl⟩
     have hxb:=HWF.out x (List.mem_of_getElem? hx)
     obtain⟨bf,of,rfl,hfc1⟩:=hf.at_ hx
     rw[Nat.mul_one] at hfc1
     obtain⟨hfc2,-,-⟩:=Zl hfc1
     clear hfc1
     have HX:=Hd_ hx;clear hx
     have hx1:decide (x < 0)=false:=by simp;omega
     have hx2:decide ((N:Int)≤x)=false:=by simp;omega
     have hx3:=hxb.1
     have hx4:=hxb.2
     have hj0:(0:Int)≤j:=by omega
     have hjl2:(j:Int) < fs.length:=by omega
     clear hxb
     go_wp2_with fail
     go_round
     case rel=>exact⟨j+1,by go_num,by omega⟩
     case measure=>simp[intOf];omega
    ·go_wp2_with fail
     go_roundw
     case rel=>exact⟨k+1,by go_num,by omega,hbx3,hbel3⟩
     case measure=>simp[intOf];omega
  ·go_wp2_with fail
   go_ret
   exact⟨rfl,hbel⟩
set_option maxHeartbeats 400000 in
theorem ZA5 (g:Graph) (cs:List Value) (w:World) (hw:WholeG g) (hg:GraphV (cmap w) cs g) :
  Calls Tryd.prog 31 #[.agg cs.toArray] w fun e w'=>∃ v l,e=.returned v∧Bools (part w' w.heap.size w'.heap.size) v l∧l.length=g.nodes.length∧(∀ i,l[i]? = some true ↔ ReachC g (-1) i)∧Below w.heap.size w w':=by
 have hg':=hg
 obtain⟨nv,rfl,-⟩:=hg'
 have hld:∀ j v,([.string g.name,.int .i64 g.locals,.int .i64 g.slots,nv] : List Value)[j]? = some v→(w.alloc (.cells #[.string g.name,.int .i64 g.locals,.int .i64 g.slots,nv] 38)).cell? ⟨w.heap.size,0+j,none⟩=some v:=ZL w _ _ _ rfl
 have HLD:=Hd_ hld;clear hld
 have hbx:=Blk.new w 38 [.string g.name,.int .i64 g.locals,.int .i64 g.slots,nv]
 go_enter Tryd.func31,Tryd.ntmps31
 go_wp2_with (first
  | (refine ZC rfl 38 _ rfl w.heap.size 0 rfl _ _ (by first | exact HLD.out | exact HLD1.out) Tryd.underlying38 rfl (by kernel_rfl) ?_)
  | (go_at_call 57;refine(ZA3 g [.string g.name,.int .i64 g.locals,.int .i64 g.slots,nv] _ hw (hg.mono (ZJ _ _))).mono ?_;rintro e w1 ⟨rfl,hb1⟩;have hbx1:=hbx.below hb1 hbx.lt;have HLD1:Hid (∀ j v,([.string g.name,.int .i64 g.locals,.int .i64 g.slots,nv] : List Value)[j]? = some v→w1.cell? ⟨w.heap.size,0+j,none⟩=some v):=(fun j v h=>by rw[Nat.zero_add,hbx1.cell];exact h))
  | (go_at_call 58;refine(ZCc g [.string g.name,.int .i64 g.locals,.int .i64 g.slots,nv] (-1) _ hw (hg.mono ((ZJ _ _).trans (ZA hb1)))).mono ?_;rintro e w2 ⟨v,l,rfl,h1,h2,h3,h4⟩))
 go_ret
 have hs:=hb1.size
 simp at hs
 exact⟨v,l,rfl,h1.mono (ZAL (by omega) (Nat.le_refl _)),h2,h3,(ZI _ _).trans ((hb1.mono (by simp)).trans (h4.mono (by omega)))⟩
set_option maxHeartbeats 400000 in
theorem ZHL (g:Graph) (cs:List Value) (w:World) (hw:WholeG g) (hg:GraphV (cmap w) cs g) :
  Calls Tryd.prog 93 #[.agg cs.toArray] w fun e w'=>(∃ v L,e=.returned (.tuple #[v,.bool true])∧heldF g=.ok L∧Ints2 (part w' w.heap.size w'.heap.size) v L∧Below w.heap.size w w') ∨
   (∃ a:Nat,e=.returned (.tuple #[.slice none 0 0,.bool false])∧heldF g=.error a∧Below w.heap.size w w'):=by
 have hg':=hg
 obtain⟨nv,rfl,-⟩:=hg'
 have hld:∀ j v,([.string g.name,.int .i64 g.locals,.int .i64 g.slots,nv] : List Value)[j]? = some v→(w.alloc (.cells #[.string g.name,.int .i64 g.locals,.int .i64 g.slots,nv] 38)).cell? ⟨w.heap.size,0+j,none⟩=some v:=ZL w _ _ _ rfl
 have HLD:=Hd_ hld;clear hld
 have hbx:=Blk.new w 38 [.string g.name,.int .i64 g.locals,.int .i64 g.slots,nv]
 go_enter Tryd.func93,Tryd.ntmps93
 go_wp2_with (first
  | (refine ZC rfl 38 _ rfl w.heap.size 0 rfl _ _ (by first | exact HLD.out | exact HLD1.out) Tryd.underlying38 rfl (by kernel_rfl) ?_)
  | (go_at_call 57;refine(ZA3 g [.string g.name,.int .i64 g.locals,.int .i64 g.slots,nv] _ hw (hg.mono (ZJ _ _))).mono ?_;rintro e w1 ⟨rfl,hb1⟩;have hbx1:=hbx.below hb1 hbx.lt;have HLD1:Hid (∀ j v,([.string g.name,.int .i64 g.locals,.int .i64 g.slots,nv] : List Value)[j]? = some v→w1.cell? ⟨w.heap.size,0+j,none⟩=some v):=(fun j v h=>by rw[Nat.zero_add,hbx1.cell];exact h)))
 refine(ZEA g [.string g.name,.int .i64 g.locals,.int .i64 g.slots,nv] _ hw (hg.mono ((ZJ _ _).trans (ZA hb1)))).mono ?_
 have hs:=hb1.size
 simp at hs
 rintro e w2 (⟨v,L,rfl,h1,h2,h3⟩ | ⟨a,rfl,h1,h3⟩)
 ·have H1:=Hd_ h1;clear h1
  go_wp2_with fail
  go_ret2
  exact .inl ⟨v,L,rfl,H1.out,h2.mono (ZAL (by omega) (Nat.le_refl _)),(ZI _ _).trans ((hb1.mono (by simp)).trans (h3.mono (by omega)))⟩
 ·have H1:=Hd_ h1;clear h1
  have hd:decide ((a:Int) < 0)=false:=by simp
  go_wp2_with fail
  go_ret2
  exact .inr ⟨a,rfl,H1.out,(ZI _ _).trans ((hb1.mono (by simp)).trans (h3.mono (by omega)))⟩
end Go.Proofs.YtffgnjgphkdodaaDoor
