import Derived.Test.YtffgnjgphkdodaaGreatDoorR32
import Derived.Test.YtffgnjgphkdodaaGreatDoorR25
import Derived.Test.YtffgnjgphkdodaaGreatDoorR16
import Derived.Test.YtffgnjgphkdodaaGreatDoorR19
namespace Go.Proofs.YtffgnjgphkdodaaGreatDoor
open Go Go.RowKit
theorem ZIi:SlT Tryz.prog 58 28 1 24 (.slice none 0 0):=SlT.mk' Tryz.underlying58 (by kernel_rfl) rfl (by omega)
open Classical in
noncomputable def domT (g:Graph) (i k:Nat) : List Bool:=(List.range g.nodes.length).map fun n=>if n < k then decide (Rch g i∧Rch g n∧DomC g i n) else false
noncomputable def domB (g:Graph) (i:Nat) : List Bool:=domT g i g.nodes.length
theorem ZBE (g:Graph) (i k:Nat) : (domT g i k).length=g.nodes.length:=by simp[domT]
open Classical in
theorem ZFP (g:Graph) (i k:Nat) {n:Nat} (h:n < g.nodes.length) : (domT g i k)[n]? = some (if n < k then decide (Rch g i∧Rch g n∧DomC g i n) else false):=by simp[domT,h]
open Classical in
theorem ZJT (g:Graph) (i:Nat) {n:Nat} (h:n < g.nodes.length) : (domB g i)[n]? = some (decide (Rch g i∧Rch g n∧DomC g i n)):=by
 unfold domB
 rw[ZFP g i _ h,if_pos h]
theorem ZJQ (g:Graph) (i:Nat) : domT g i 0=List.replicate g.nodes.length false:=by
 apply List.ext_getElem?
 intro n
 by_cases h:n < g.nodes.length
 ·rw[ZFP g i 0 h,if_neg (by omega),List.getElem?_replicate,if_pos h]
 ·rw[List.getElem?_eq_none (by rw[ZBE];omega),List.getElem?_eq_none (by simp;omega)]
theorem ZJR {g:Graph} {i k:Nat} {b:Bool} (hb:b=true ↔ (Rch g i∧Rch g k∧DomC g i k)) : (domT g i k).set k b=domT g i (k+1):=by
 classical
 apply List.ext_getElem?
 intro n
 by_cases h:n < g.nodes.length
 ·rw[List.getElem?_set,ZFP g i k h,ZFP g i (k+1) h,ZBE]
  by_cases e:k=n
  ·subst e
   rw[if_pos rfl,if_pos h,if_pos (by omega)]
   congr 1
   rw[Bool.eq_iff_iff,decide_eq_true_iff]
   exact hb
  ·rw[if_neg e]
   by_cases c:n < k
   ·rw[if_pos c,if_pos (by omega)]
   ·rw[if_neg c,if_neg (by omega)]
 ·rw[List.getElem?_eq_none (by rw[List.length_set,ZBE];omega),List.getElem?_eq_none (by rw[ZBE];omega)]
theorem ZJS {g:Graph} {i:Nat} (h:¬ Rch g i) : domB g i=List.replicate g.nodes.length false:=by
 classical
 apply List.ext_getElem?
 intro n
 by_cases hn:n < g.nodes.length
 ·rw[ZJT g i hn,List.getElem?_replicate,if_pos hn,decide_eq_false (fun q=>h q.1)]
 ·unfold domB
  rw[List.getElem?_eq_none (by rw[ZBE];omega),List.getElem?_eq_none (by simp;omega)]
structure RowsB (g:Graph) (w:World) (X N i B:Nat) (vs:List Value) : Prop where
 blk:Blk w X 28 vs
 len:vs.length=N
 rows:∀ j,j < i→∃ rb,vs[j]? = some (.slice (some ⟨rb,0,none⟩) N N)∧X < rb∧rb < B∧Blk w rb 4 (bools (domB g j))
theorem RowsB.below {g:Graph} {w w':World} {X N i B:Nat} {vs:List Value} (h:RowsB g w X N i B vs) (hb:Below w.heap.size w w') : RowsB g w' X N i B vs :=
 ⟨h.blk.below hb h.blk.lt,h.len,fun j hj=>by
  obtain⟨rb,h1,h2,h3,h4⟩:=h.rows j hj
  exact⟨rb,h1,h2,h3,h4.below hb h4.lt⟩⟩
theorem RowsB.now {g:Graph} {w:World} {X N i B:Nat} {vs:List Value} (h:RowsB g w X N i B vs) : RowsB g w X N i w.heap.size vs :=
 ⟨h.blk,h.len,fun j hj=>by
  obtain⟨rb,h1,h2,h3,h4⟩:=h.rows j hj
  exact⟨rb,h1,h2,h4.lt,h4⟩⟩
theorem RowsB.far {g:Graph} {w:World} {X N i B k:Nat} {vs:List Value} (h:RowsB g w X N i B vs) {R:Nat} (hX:X < R) (hB:B≤R) (v:Value) : RowsB g (w.setCell ⟨R,k,none⟩ v) X N i B vs :=
 ⟨h.blk.far (p:=⟨R,k,none⟩) (by show X≠R;omega) _,h.len,fun j hj=>by
  obtain⟨rb,h1,h2,h3,h4⟩:=h.rows j hj
  exact⟨rb,h1,h2,h3,h4.far (p:=⟨R,k,none⟩) (by show rb≠R;omega) _⟩⟩
theorem RowsB.next {g:Graph} {w:World} {X N i B rb:Nat} {vs:List Value} (h:RowsB g w X N i B vs) (hi:i < N) (hr:Blk w rb 4 (bools (domB g i))) (hX:X < rb) (hB:B≤rb) : RowsB g (w.setCell ⟨X,i,none⟩ (.slice (some ⟨rb,0,none⟩) N N)) X N (i+1) (rb+1) (vs.set i (.slice (some ⟨rb,0,none⟩) N N)) :=
 ⟨h.blk.set_ i _,by rw[List.length_set];exact h.len,fun j hj=>by
  by_cases e:j=i
  ·subst e
   exact⟨rb,by rw[List.getElem?_set,if_pos rfl,if_pos (by rw[h.len];exact hi)],hX,by omega,hr.far (p:=⟨X,j,none⟩) (by show rb≠X;omega) _⟩
  ·obtain⟨rb',h1,h2,h3,h4⟩:=h.rows j (by omega)
   exact⟨rb',by rw[List.getElem?_set,if_neg (fun q=>e q.symm)];exact h1,h2,by omega,h4.far (p:=⟨X,i,none⟩) (by show rb'≠X;omega) _⟩⟩
def DmsPost (g:Graph) (w:World) (e:Ending) (w':World) : Prop:=∃ (X:Nat) (vs:List Value),e=.returned (.slice (some ⟨X,0,none⟩) g.nodes.length g.nodes.length)∧w.heap.size≤X∧RowsB g w' X g.nodes.length g.nodes.length w'.heap.size vs∧Below w.heap.size w w'
set_option maxRecDepth 100000 in
set_option maxHeartbeats 4000000 in
theorem ZD0 (g:Graph) (cs:List Value) (rv:Value) (rl:List Bool) (w:World) (hw:WholeG g) (hg:GraphV (cmap w) cs g) (hrl:Bools (cmap w) rv rl) (hrn:rl.length=g.nodes.length) (hrr:∀ i:Nat,rl[i]? = some true ↔ Rch g i) :
  Calls Tryz.prog 122 #[.agg cs.toArray,rv] w (DmsPost g w):=by
 have HWO:=Hd_ (fun w1 (h:Below w.heap.size w w1) (cut:Int)=>ZB4 g cs cut w1 hw (hg.mono (ZA h)))
 obtain⟨nv,rfl,hn⟩:=hg
 obtain⟨nA,nc,rfl,-⟩:=id hn
 obtain⟨rA,rc,rfl,-⟩:=id hrl
 have bn:=hn.len.2.2
 have hpos:=hw.pos
 have hmost:=hw.most
 have HW:=Hd_ hw
 have HRL:=Hd_ (And.intro hrl (And.intro hrn hrr))
 rw[hrn]
 obtain⟨N,HN⟩ : ∃ N,Hid (g.nodes.length=N):=⟨_,rfl⟩
 rw[HN.out] at bn hpos hmost HWO
 have hbx:=Blk.new w 69 [.string g.name,.int .i64 g.locals,.int .i64 g.slots,.slice nA N nc]
 have hb0:=ZC w (.cells #[.string g.name,.int .i64 g.locals,.int .i64 g.slots,.slice nA N nc] 69)
 have HBX:=Hd_ (And.intro hbx hb0)
 clear hbx hb0 hw hn hrl hrn hrr
 rw[HN.out]
 go_enter Tryz.func122,Tryz.ntmps122
 go_wp2_with (refine Zn ZIi rfl rfl (.tmp 12) (.tmp 12) rfl N rfl rfl (by omega) (by omega) ?_)
 go_loopw [6] (fun v6 wr=>∃ (i:Nat) (vs:List Value),v6=.int .i64 i∧i≤N∧Hid (RowsB g wr (w.heap.size+1) N i wr.heap.size vs)∧Hid (Below w.heap.size w wr)∧Hid (Blk wr w.heap.size 69 [.string g.name,.int .i64 g.locals,.int .i64 g.slots,.slice nA N nc])) (fun v6 _=>N - (intOf v6).toNat)
 case atStart=>exact⟨0,List.replicate N (.slice none 0 0),rfl,Nat.zero_le _,Hd_ ⟨Blk.of (ZI _ _ _ (by simp)) (by simp),by simp,fun j hj=>by omega⟩,Hd_ (HBX.out.2.alloc (by simp) _),Hd_ (HBX.out.1.alloc _)⟩
 case round =>
  obtain⟨i,vs,rfl,hi,HR,HB,HGX⟩:=hrel
  have c0:=HGX.out.cell 0
  have c1:=HGX.out.cell 1
  have c2:=HGX.out.cell 2
  have c3:=HGX.out.cell 3
  have gl:=HGX.out.lt
  have xl:=HR.out.blk.lt
  by_cases hlt:i < N
  ·have i0:(0:Int)≤i:=by omega
   have iN:(i:Int) < N:=by omega
   have i8:(i:Int)≤4096:=by omega
   obtain⟨b,hb⟩ : ∃ b,rl[i]? = some b:=⟨rl[i]'(by rw[HRL.out.2.1,HN.out];exact hlt),List.getElem?_eq_getElem _⟩
   obtain⟨rb,ro,rfl,hrc1⟩:=HRL.out.1.at_ hb
   rw[Nat.mul_one] at hrc1
   have rcell:wr.cell? ⟨rb,ro+i,none⟩=some (.bool b):=ZA HB.out _ _ _ hrc1
   have rbl:=World.block_lt_of_cell? _ _ rcell
   simp only at rbl
   have hbr:b=true ↔ Rch g i:=by rw[← HRL.out.2.2 i,hb];simp
   have HBR:=Hd_ hbr
   obtain⟨w0,rfl⟩ : ∃ w0:World,w0=wr:=⟨_,rfl⟩
   have hs0:=HB.out.size
   have HR1:=Hd_ (HR.out.below (ZC w0 (.cells (Array.replicate N (Value.bool false)) 4)))
   have HB1:=Hd_ (HB.out.alloc hs0 (.cells (Array.replicate N (Value.bool false)) 4))
   have HG1:=Hd_ (HGX.out.alloc (.cells (Array.replicate N (Value.bool false)) 4))
   have hrow:Blk (w0.alloc (.cells (Array.replicate N (Value.bool false)) 4)) w0.heap.size 4 (bools (List.replicate N false)):=Blk.of (ZI _ _ _ rfl) (by simp[bools])
   have HROW:=Hd_ hrow
   have vcell:=HR1.out.blk.cell i
   have vfr:=HR1.out.blk.frozen i
   obtain⟨vo,hvo⟩ : ∃ v,vs[i]? = some v:=⟨vs[i]'(by rw[HR.out.len];exact hlt),List.getElem?_eq_getElem _⟩
   rw[hvo] at vcell
   clear hb hrc1 hbr hrow hvo
   cases b with
   | false =>
    have hno:¬ Rch g i:=fun q=>by have:=HBR.out.2 q;cases this
    have hdb:=ZJS hno
    rw[HN.out] at hdb
    have HRN:=Hd_ (HR1.out.next hlt (by rw[hdb];exact HROW.out) xl (Nat.le_refl _)).now
    have HBN:=Hd_ (HB1.out.setCell (p:=⟨w.heap.size+1,i,none⟩) (by show w.heap.size≤w.heap.size+1;omega) (.slice (some ⟨w0.heap.size,0,none⟩) N N))
    have HGN:=Hd_ (HG1.out.far (p:=⟨w.heap.size+1,i,none⟩) (by show w.heap.size≠w.heap.size+1;omega) (.slice (some ⟨w0.heap.size,0,none⟩) N N))
    clear hno hdb
    go_wp2_with (refine Zn ZA2 rfl rfl (.tmp 23) (.tmp 23) rfl N rfl rfl (by omega) (by omega) ?_)
    go_roundw
    case rel =>
     rw[← World.setCell_alloc_past (w:=w0) (.cells (Array.replicate N (Value.bool false)) 4) (w.heap.size+1) i (.slice (some ⟨w0.heap.size,0,none⟩) N N) xl]
     exact⟨i+1,_,by go_num,hlt,HRN,HBN,HGN⟩
    case measure=>simp[intOf];omega
   | true =>
    have hri:Rch g i:=HBR.out.1 rfl
    have HRI:=Hd_ hri
    have HWI:=Hd_ (HWO.out _ HB1.out (i:Int))
    have d0:=HG1.out.cell 0
    have d1:=HG1.out.cell 1
    have d2:=HG1.out.cell 2
    have d3:=HG1.out.cell 3
    clear hri vcell vfr
    go_wp2_with (first
     | (refine Zn ZA2 rfl rfl (.tmp 23) (.tmp 23) rfl N rfl rfl (by omega) (by omega) ?_)
     | (go_at_call 136
        refine(HWI.out).mono ?_
        rintro e w2 ⟨lv,ll,rfl,hll,hln,hlr,hb2⟩
        obtain⟨lA,lc,rfl,-⟩:=id hll
        rw[hln] at hll
        rw[hln]
        have H2:=Hd_ (And.intro (HR1.out.below hb2) (And.intro (HB1.out.trans (hb2.mono HB1.out.size)) (And.intro (HG1.out.below hb2 HG1.out.lt) (And.intro (HROW.out.below hb2 HROW.out.lt) (And.intro hll (And.intro hln hlr))))))
        have hs2:=hb2.size
        simp at hs2
        clear hll hln hlr hb2))
    obtain⟨RB,hRB⟩ : ∃ RB,w0.heap.size=RB:=⟨_,rfl⟩
    rw[hRB] at H2 hs2 rbl xl gl
    rw[hRB]
    obtain⟨lo,hlo⟩ : ∃ lo,(w0.alloc (.cells (Array.replicate N (Value.bool false)) 4)).heap.size=lo:=⟨_,rfl⟩
    obtain⟨hi2,hhi⟩ : ∃ hi2,w2.heap.size=hi2:=⟨_,rfl⟩
    have hlo2:RB < lo:=by rw[← hlo];simp;omega
    have hll2:Hid (Bools (part w2 lo hi2) (.slice lA N lc) ll):=Hd_ (by rw[← hlo,← hhi];exact H2.out.2.2.2.2.1)
    have rcell2:∀ k b',rl[k]? = some b'→w.cell? ⟨rb,ro+k,none⟩=some (.bool b'):=fun k b' hb=>by
     obtain⟨rb',ro',e',hc⟩:=HRL.out.1.at_ hb
     injection e' with e'
     injection e' with e1 e2
     subst e1 e2
     rw[Nat.mul_one] at hc
     exact hc
    have HRC:=Hd_ rcell2
    clear hlo hhi rcell2 d0 d1 d2 d3 c0 c1 c2 c3 rcell
    go_loopw [9] (fun v9 wr=>∃ k:Nat,v9=.int .i64 k∧k≤N∧Hid (RowsB g wr (w.heap.size+1) N i RB vs)∧Hid (Below w.heap.size w wr)∧Hid (Blk wr w.heap.size 69 [.string g.name,.int .i64 g.locals,.int .i64 g.slots,.slice nA N nc])∧Hid (Blk wr RB 4 (bools (domT g i k)))∧Hid (Bools (part wr lo hi2) (.slice lA N lc) ll)) (fun v9 _=>N - (intOf v9).toNat)
    case atStart=>exact⟨0,rfl,Nat.zero_le _,Hd_ H2.out.1,Hd_ H2.out.2.1,Hd_ H2.out.2.2.1,Hd_ (by rw[ZJQ,HN.out];exact H2.out.2.2.2.1),hll2⟩
    case round =>
     obtain⟨k,rfl,hk,HR,HB,HGX,HRO,HLL⟩:=hrel
     have c3:=HGX.out.cell 3
     by_cases hkn:k < N
     ·have k0:(0:Int)≤k:=by omega
      have kN:(k:Int) < N:=by omega
      have k8:(k:Int)≤4096:=by omega
      obtain⟨b,hb⟩ : ∃ b,rl[k]? = some b:=⟨rl[k]'(by rw[HRL.out.2.1,HN.out];exact hkn),List.getElem?_eq_getElem _⟩
      have rcell:wr.cell? ⟨rb,ro+k,none⟩=some (.bool b):=ZA HB.out _ _ _ (HRC.out k b hb)
      have hbr:b=true ↔ Rch g k:=by rw[← HRL.out.2.2 k,hb];simp
      obtain⟨l,hl⟩ : ∃ l,ll[k]? = some l:=⟨ll[k]'(by rw[H2.out.2.2.2.2.2.1];exact hkn),List.getElem?_eq_getElem _⟩
      obtain⟨lb,lo3,rfl,hlc1⟩:=HLL.out.at_ hl
      rw[Nat.mul_one] at hlc1
      obtain⟨lcell,hlb1,hlb2⟩:=ZX hlc1
      have hlr:l=true ↔ ReachC g (i:Int) k:=by rw[← H2.out.2.2.2.2.2.2 k,hl];simp
      obtain⟨z,hz⟩ : ∃ z,(domT g i k)[k]? = some z:=⟨(domT g i k)[k]'(by rw[ZBE,HN.out];exact hkn),List.getElem?_eq_getElem _⟩
      have ocell:wr.cell? ⟨RB,k,none⟩=some (.bool z):=by rw[HRO.out.cell];simp[bools,hz]
      have ofr:=HRO.out.frozen k
      have HBL:=Hd_ (And.intro hbr hlr)
      have key:∀ bb:Bool,(bb=true ↔ (Rch g i∧Rch g k∧DomC g i k))→Hid (Blk (wr.setCell ⟨RB,k,none⟩ (.bool bb)) RB 4 (bools (domT g i (k+1)))):=fun bb hbb=>Hd_ (by
       have h1:=HRO.out.set_ k (.bool bb)
       rwa [show(bools (domT g i k)).set k (.bool bb)=bools (domT g i (k+1)) by rw[← ZJR hbb];simp[bools,List.map_set]] at h1)
      have KEY:=Hd_ key
      have HRK:=Hd_ fun bb:Bool=>HR.out.far (k:=k) xl (Nat.le_refl RB) (.bool bb)
      have HBK:=Hd_ fun bb:Bool=>HB.out.setCell (p:=⟨RB,k,none⟩) (by show w.heap.size≤RB;omega) (.bool bb)
      have HGK:=Hd_ fun bb:Bool=>HGX.out.far (p:=⟨RB,k,none⟩) (by show w.heap.size≠RB;omega) (.bool bb)
      have HLK:=Hd_ fun bb:Bool=>HLL.out.mono (ZR (w:=wr) (w':=wr.setCell ⟨RB,k,none⟩ (.bool bb)) (lo:=lo) (hi:=hi2) fun b hb1 _=>Below.heap_setCell _ _ _ _ (by show b≠RB;omega))
      clear hb hbr hl hlc1 hlr hz key
      cases b with
      | false =>
       have HKK:=KEY.out false ⟨fun q=>(by cases q),fun q=>by have:=HBL.out.1.2 q.2.1;cases this⟩
       go_wp2
       go_roundw
       case rel=>exact⟨k+1,by go_num,hkn,Hd_ (HRK.out false),Hd_ (HBK.out false),Hd_ (HGK.out false),HKK,Hd_ (HLK.out false)⟩
       case measure=>simp[intOf];omega
      | true =>
       have HRKK:=Hd_ (HBL.out.1.1 rfl)
       by_cases hki:k=i
       ·have e1:((k:Int) == (i:Int))=true:=by simp[hki]
        have e2:(k == i)=true:=by simp[hki]
        have HKK:=KEY.out true ⟨fun _=>⟨HRI.out,HRKK.out,.inl hki⟩,fun _=>rfl⟩
        clear hki
        go_wp2
        go_roundw
        case rel=>exact⟨k+1,by go_num,hkn,Hd_ (HRK.out true),Hd_ (HBK.out true),Hd_ (HGK.out true),HKK,Hd_ (HLK.out true)⟩
        case measure=>simp[intOf];omega
       ·have e1:((k:Int) == (i:Int))=false:=by simp;omega
        have e2:(k == i)=false:=by simp;omega
        have HKK:=KEY.out (!l) ⟨fun q=>⟨HRI.out,HRKK.out,.inr fun q2=>by have:=HBL.out.2.2 q2;rw[this] at q;cases q⟩,fun q=>by
         cases l with
         | false=>rfl
         | true =>
          exfalso
          rcases q.2.2 with q1 | q1
          ·exact hki q1
          ·exact q1 (HBL.out.2.1 rfl)⟩
        clear hki
        cases l with
        | false =>
         go_wp2
         go_roundw
         case rel=>exact⟨k+1,by go_num,hkn,Hd_ (HRK.out true),Hd_ (HBK.out true),Hd_ (HGK.out true),HKK,Hd_ (HLK.out true)⟩
         case measure=>simp[intOf];omega
        | true =>
         go_wp2
         go_roundw
         case rel=>exact⟨k+1,by go_num,hkn,Hd_ (HRK.out false),Hd_ (HBK.out false),Hd_ (HGK.out false),HKK,Hd_ (HLK.out false)⟩
         case measure=>simp[intOf];omega
     ·obtain rfl:k=N:=by omega
      have hdb:domT g i k=domB g i:=by unfold domB;rw[HN.out]
      rw[hdb] at HRO
      have vcell:=HR.out.blk.cell i
      have vfr:=HR.out.blk.frozen i
      obtain⟨vo,hvo⟩ : ∃ v,vs[i]? = some v:=⟨vs[i]'(by rw[HR.out.len];exact hlt),List.getElem?_eq_getElem _⟩
      rw[hvo] at vcell
      have HRN:=Hd_ (HR.out.next hlt HRO.out xl (Nat.le_refl _)).now
      have HBN:=Hd_ (HB.out.setCell (p:=⟨w.heap.size+1,i,none⟩) (by show w.heap.size≤w.heap.size+1;omega) (.slice (some ⟨RB,0,none⟩) k k))
      have HGN:=Hd_ (HGX.out.far (p:=⟨w.heap.size+1,i,none⟩) (by show w.heap.size≠w.heap.size+1;omega) (.slice (some ⟨RB,0,none⟩) k k))
      clear hdb hvo
      go_wp2
      go_roundw
      case rel=>exact⟨i+1,_,by go_num,hlt,HRN,HBN,HGN⟩
      case measure=>simp[intOf];omega
  ·obtain rfl:i=N:=by omega
   go_wp2
   go_ret
   exact⟨w.heap.size+1,vs,by rw[HN.out];rfl,by omega,by rw[HN.out];exact HR.out,HB.out⟩
attribute [local go_sem] readAtW readUpon
theorem ZCB (w:World) (k:Int) : (Instr.buildSlice 26 1 #[(0,.int .i64 k)]).run Tryz.prog w=.ok (.slice (some ⟨w.heap.size,0,none⟩) 1 1) (w.alloc (.cells #[.int .i64 k] 3)):=by
 obtain⟨ie,h1,h2,h3,h4⟩:=ZU.info
 exact run_buildSlice w _ _ 1 _ _ ie _ ZU.ht h1 h2 (by rw[h3];decide) (by rw[h3];decide) (by rw[h3];kernel_rfl)
theorem ZCY (g:Graph) (k:Nat) {l l':List Int} (h:∀ x,x∈l ↔ x∈l') : rowsM g k l=rowsM g k l':=by
 unfold rowsM
 refine List.map_congr_left fun s _=>?_
 by_cases c:(s:Int)∈l
 ·rw[if_pos c,if_pos ((h _).1 c)]
 ·rw[if_neg c,if_neg (fun q=>c ((h _).2 q))]
theorem ZKE (n:Node) : (fol2 n).length≤2:=by
 unfold fol2
 split
 ·simp
 ·split <;> simp
set_option maxRecDepth 100000 in
set_option maxHeartbeats 2000000 in
theorem ZFt (g:Graph) (cs:List Value) (w:World) (hw:WholeG g) (hg:GraphV (cmap w) cs g) :
  Calls Tryz.prog 123 #[.agg cs.toArray] w (AhPost g w):=by
 have HWC:=Hd_ (fun w1 (h:Below w.heap.size w w1)=>ZBM g cs w1 hw (hg.mono (ZA h)))
 obtain⟨nv,rfl,hn⟩:=hg
 obtain⟨nA,nc,rfl,-⟩:=id hn
 have bn:=hn.len.2.2
 have hpos:=hw.pos
 have hmost:=hw.most
 obtain⟨N,HN⟩ : ∃ N,Hid (g.nodes.length=N):=⟨_,rfl⟩
 rw[HN.out] at bn hpos hmost HWC ⊢
 have HG:=Hd_ hn
 have HW:=Hd_ hw
 clear hn hw
 have h0:0 < N:=hpos
 have hbx:=Blk.new w 69 [.string g.name,.int .i64 g.locals,.int .i64 g.slots,.slice nA N nc]
 have hb0:=ZC w (.cells #[.string g.name,.int .i64 g.locals,.int .i64 g.slots,.slice nA N nc] 69)
 have HBX:=Hd_ hbx
 have HB0:=Hd_ hb0
 clear hbx hb0
 go_enter Tryz.func123,Tryz.ntmps123
 go_wp2_with (first
  | (go_at_call 135
     refine(HWC.out _ HB0.out).mono ?_
     rintro e w1 ⟨rfl,hb1⟩
     have hbx1:=HBX.out.below hb1 HBX.out.lt
     have c3:=hbx1.cell 3
     have hlt1:=hbx1.lt
     have HB1:=Hd_ (And.intro (HB0.out.trans (hb1.mono (HB0.out.size))) hbx1)
     clear hb1 hbx1)
  | (refine Zn ZAj rfl rfl (.tmp 15) (.tmp 15) rfl N rfl rfl (by omega) (by omega) ?_))
 have hinit:RowsV (w1.alloc (.cells (List.replicate N (Value.slice none 0 0)).toArray 26)) w.heap.size w1.heap.size (List.replicate N (.slice none 0 0)) (rowsM g 0 []):=by
  refine⟨Blk.new _ _ _,by rw[Zs,HN.out];simp,fun i v l hv hl=>?_,fun i j v v' b hi _ hb _=>?_⟩
  ·rw[List.getElem?_replicate] at hv
   split at hv
   ·injection hv with hv
    rw[ZER,List.getElem?_replicate] at hl
    split at hl
    ·injection hl with hl
     subst hv hl
     exact World.ownsRow_nil _ _ _ _
    ·cases hl
   ·cases hv
  ·rw[List.getElem?_replicate] at hi
   split at hi
   ·injection hi with hi
    subst hi
    cases hb
   ·cases hi
 have HINI:=Hd_ hinit
 have HBW:=Hd_ (HB1.out.1.alloc (Nat.le_of_lt hlt1) (.cells (List.replicate N (Value.slice none 0 0)).toArray 26))
 have HBG:=Hd_ (HB1.out.2.alloc (.cells (List.replicate N (Value.slice none 0 0)).toArray 26))
 clear hinit c3
 go_loopw [5] (fun v5 wr=>∃ (k:Nat) (vs:List Value),v5=.int .i64 k∧k≤N∧Hid (RowsV wr w.heap.size w1.heap.size vs (rowsM g k []))∧Hid (Below w.heap.size w wr)∧Hid (Blk wr w.heap.size 69 [.string g.name,.int .i64 g.locals,.int .i64 g.slots,.slice nA N nc])) (fun v5 _=>N - (intOf v5).toNat)
 case atStart=>exact⟨0,_,rfl,Nat.zero_le _,HINI,HBW,HBG⟩
 case round =>
  obtain⟨k,vs,rfl,hk,HR,HB,HBX⟩:=hrel
  have c3:=HBX.out.cell 3
  have gbl:=HBX.out.lt
  obtain⟨wo,rfl⟩ : ∃ wo:World,wo=wr:=⟨_,rfl⟩
  by_cases hlt:k < N
  ·obtain⟨nd,hnd⟩ : ∃ nd,g.nodes[k]? = some nd:=⟨g.nodes[k]'(by rw[HN.out];exact hlt),List.getElem?_eq_getElem _⟩
   obtain⟨nb,no,e,hnc⟩:=HG.out.at_ hnd
   subst e
   have HND:=Hd_ hnd
   have hf1:=ZKE nd
   have hkc:Hid (∀ (q:Nat) (x:Int),(fol2 nd)[q]? = some x→0≤x∧x < N):=Hd_ fun q x hq=>by
    have:=HW.out.fol nd (List.mem_of_getElem? HND.out) x ((ZAM nd x).1 (List.mem_of_getElem? hq))
    rwa [HN.out] at this
   have hld:∀ j v,nd.cells[j]? = some v→wo.cell? ⟨nb,no+k * 13+j,none⟩=some v:=fun j v h=>ZA HB.out _ _ _ (hnc j v h)
   have HLD:=Hd_ hld
   have hk0:(0:Int)≤k:=by omega
   have hki:(k:Int) < N:=by omega
   have hks:(k:Int)≤4096:=by omega
   have HR2:=Hd_ HR.out
   have HB2:=Hd_ HB.out
   have HBX2:=Hd_ HBX.out
   have hX0:=HR.out.blk.lt
   clear hld hnc hnd
   go_wp2_with (first
    | (refine ZB rfl 66 _ rfl nb (no+k * 13) rfl nd.cells _ HLD.out Tryz.underlying66 rfl (by kernel_rfl) ?_)
    | (go_at_call 154
       refine(ZAD nd _).mono ?_
       rintro e w3 ⟨fv,rfl,hf,hb3⟩
       obtain⟨fA,fc,rfl,hfc,hfm,hfe⟩:=hf
       have HFV:Hid (Ints (part w3 wo.heap.size w3.heap.size) (.slice fA (fol2 nd).length fc) (fol2 nd)):=Hd_ ⟨fA,fc,rfl,hfc,hfm,hfe⟩
       have HB3:=Hd_ (And.intro (HR2.out.below hb3) (And.intro (HB2.out.trans (hb3.mono HB2.out.size)) (HBX2.out.below hb3 HBX2.out.lt)))
       have HSZ:Hid (wo.heap.size≤w3.heap.size):=Hd_ hb3.size
       clear hb3 hfe hfc hfm))
   clear HLD HBX HB HB2 HBX2
   have hsep:Hid (∀ (i:Nat) (v:Value) (b:Nat),vs[i]? = some v→v.ownBlock=some b→b < wo.heap.size∨w3.heap.size≤b):=Hd_ fun i v b hv hb=>by
    have hil:i < (rowsM g k []).length:=by have:=(List.getElem?_eq_some_iff.1 hv).1;have:=HR2.out.len;omega
    exact .inl ((HR2.out.own i v _ hv (List.getElem?_eq_getElem hil)).lt b hb).2
   have hXl:w1.heap.size < wo.heap.size:=by omega
   obtain⟨lo,hlo⟩ : ∃ lo,wo.heap.size=lo:=⟨_,rfl⟩
   obtain⟨hi,hhi⟩ : ∃ hi,w3.heap.size=hi:=⟨_,rfl⟩
   have hhi':Hid (hi≤w3.heap.size):=Hd_ (by omega)
   rw[hlo] at HFV hsep HSZ hXl
   rw[hhi] at HFV hsep HSZ
   have HLO:=Hd_ hlo
   clear hlo hhi HR HR2
   go_loopw [7] (fun v7 wi=>∃ (q:Nat) (vs2:List Value),v7=.int .i64 q∧q≤(fol2 nd).length∧Hid (RowsV wi w.heap.size w1.heap.size vs2 (rowsM g k ((fol2 nd).take q)))∧Hid (Below w.heap.size w wi)∧Hid (Blk wi w.heap.size 69 [.string g.name,.int .i64 g.locals,.int .i64 g.slots,.slice (some ⟨nb,no,none⟩) N nc])∧Hid (Ints (part wi lo hi) (.slice fA (fol2 nd).length fc) (fol2 nd))∧Hid (hi≤wi.heap.size)∧Hid (∀ (i:Nat) (v:Value) (b:Nat),vs2[i]? = some v→v.ownBlock=some b→b < lo∨hi≤b)) (fun v7 _=>(fol2 nd).length - (intOf v7).toNat)
   case atStart=>exact⟨0,vs,rfl,Nat.zero_le _,Hd_ (by simpa using HB3.out.1),Hd_ HB3.out.2.1,Hd_ HB3.out.2.2,HFV,hhi',hsep⟩
   case round =>
    obtain⟨q,vs2,rfl,hq,HR,HB,HBX,HFI,HHI,HSEP⟩:=hrel
    by_cases hql:q < (fol2 nd).length
    ·obtain⟨x,hx⟩ : ∃ x,(fol2 nd)[q]? = some x:=⟨_,List.getElem?_eq_getElem hql⟩
     obtain⟨hx0,hxN⟩:=hkc.out q x hx
     obtain⟨xn,rfl⟩:=Int.eq_ofNat_of_zero_le hx0
     have hxn:xn < N:=by omega
     obtain⟨fb,fo,rfl,hfc⟩:=HFI.out.at_ hx
     rw[Nat.mul_one] at hfc
     obtain⟨hfc1,-,-⟩:=ZX hfc
     have hfr:xn < vs2.length:=by rw[HR.out.len,Zs,HN.out];exact hxn
     obtain⟨rv,hrv⟩ : ∃ rv,vs2[xn]? = some rv:=⟨_,List.getElem?_eq_getElem hfr⟩
     have hrl:=ZC5 g k ((fol2 nd).take q) (s:=xn) (by rw[HN.out];exact hxn)
     have hof:=HR.out.own xn rv _ hrv hrl
     have hXc:=HR.out.blk.cell xn
     rw[hrv] at hXc
     have hXf:=HR.out.blk.frozen xn
     have hpl:=Zj g xn k
     have hX1:=HR.out.blk.lt
     have hws:=HB.out.size
     have hq0:(0:Int)≤q:=by omega
     have hqi:(q:Int) < (fol2 nd).length:=by omega
     have hq2:(q:Int)≤4096:=by omega
     have htk:∀ y:Int,y∈(fol2 nd).take (q+1) ↔ y∈(fol2 nd).take q∨y=(xn:Int):=by
      intro y
      have hl:=(List.getElem?_eq_some_iff.1 hx).1
      have he:(fol2 nd)[q]=(xn:Int):=by rw[List.getElem?_eq_getElem hl] at hx;injection hx
      rw[List.take_succ_eq_append_getElem hl,he]
      simp
     have c3:=HBX.out.cell 3
     have gbl:=HBX.out.lt
     by_cases hin:(xn:Int)∈(fol2 nd).take q
     ·rw[if_pos hin] at hrl hof
      obtain⟨rA,rc,rfl,-⟩:=ZF hof
      have hll:(predK g k xn ++ [(k:Int)]).length=(predK g k xn).length+1:=by simp
      rw[hll] at hof hXc
      obtain⟨lb,lc,e,-,-,-,hlc⟩:=ZT hof (by omega)
      injection e with e _ e3
      subst e e3
      have lcell:wr.cell? ⟨lb,(predK g k xn).length,none⟩=some (.int .i64 (k:Nat)):=(hlc _ (by omega)).trans (by simp[ints])
      have d1:((k:Int) != (k:Int))=false:=by simp
      have hp4:((predK g k xn).length:Int)≤4096:=by omega
      have hsm:=ZCY g k (l:=(fol2 nd).take (q+1)) (l':=(fol2 nd).take q) (fun y=>by
       rw[htk y]
       constructor
       ·rintro(h | rfl)
        ·exact h
        ·exact hin
       ·exact .inl)
      have HSM:=Hd_ hsm
      have d0:(((predK g k xn).length:Int)+1 == 0)=false:=by simp;omega
      obtain⟨m,hm⟩ : ∃ m,(predK g k xn).length=m:=⟨_,rfl⟩
      rw[hm] at lcell hp4 d0 hXc
      clear hx hrv hrl hof hlc htk hin hsm hfc hpl hll hm
      go_wp2
      go_roundw
      case rel=>exact⟨q+1,vs2,by go_num,by omega,Hd_ (by rw[HSM.out];exact HR.out),HB,HBX,HFI,HHI,HSEP⟩
      case measure=>simp[intOf];omega
     ·rw[if_neg hin,List.append_nil] at hrl hof
      obtain⟨rA,rc,rfl,-⟩:=ZF hof
      have hsm:=ZCY g k (l:=(fol2 nd).take (q+1)) (l':=(fol2 nd).take q ++ [(xn:Int)]) (fun y=>by rw[htk y];simp)
      have hset:=ZFn g k ((fol2 nd).take q) (s:=xn) (by rw[HN.out];exact hxn) hin
      rw[← hsm] at hset
      have HX:=Hd_ (And.intro hrv (And.intro hrl (And.intro hset hof)))
      have hlast:(predK g k xn).length=0∨∃ (z:Int) (lb:Nat) (m:Nat),rA=some ⟨lb,0,none⟩∧(predK g k xn).length=m+1∧wr.cell? ⟨lb,m,none⟩=some (.int .i64 z)∧z < k:=by
       rcases Nat.eq_zero_or_pos (predK g k xn).length with h0 | h0
       ·exact .inl h0
       ·obtain⟨lb,lc,e,-,-,-,hlc⟩:=ZT hof h0
        injection e with e _ e3
        obtain⟨m,hm⟩ : ∃ m,(predK g k xn).length=m+1:=⟨(predK g k xn).length - 1,by omega⟩
        obtain⟨z,hz⟩ : ∃ z,(predK g k xn)[m]? = some z:=⟨(predK g k xn)[m]'(by omega),List.getElem?_eq_getElem _⟩
        obtain⟨i,nd',q1,q2,_⟩:=(Z1 g xn k z).1 (List.mem_of_getElem? hz)
        exact .inr ⟨z,lb,m,e,hm,(hlc m (by omega)).trans (by simp[ints,hz]),by omega⟩
      have hpl2:(predK g k xn).length≤4096:=by omega
      obtain⟨n,hn⟩ : ∃ n,(predK g k xn).length=n:=⟨_,rfl⟩
      obtain⟨xs,hxs⟩ : ∃ xs,ints (predK g k xn)=xs:=⟨_,rfl⟩
      rw[hn] at hlast hpl2 hXc hof
      rw[hxs] at hof
      have HNX:=Hd_ (And.intro hn hxs)
      have HOW:=Hd_ hof
      have hne:=ZO hof HR.out.blk (by decide)
      have hlo4:lo≤fb∧fb < hi:=(ZX hfc).2
      have hnfb:∀ b,(Value.slice rA n rc).ownBlock=some b→b≠fb:=fun b hb e=>by
       have h1:=HSEP.out xn _ b (by rw[← hn];exact hrv) hb
       omega
      have HNF:=Hd_ (And.intro hne hnfb)
      have hX0:w1.heap.size < wr.heap.size:=hX1
      have hfbl:fb < wr.heap.size:=World.block_lt_of_cell? _ _ hfc1
      clear hx hrv hrl htk hin hsm hset hfc hpl hn hxs hof hne hnfb
      rcases hlast with h0 | ⟨zl,lb,m,h1,h2,h3,h4⟩
      ·subst h0
       have hz0:(0:Nat)=0:=rfl
       go_wp2
       have fz:∀ z:XC (cAp wr w.heap.size 3 1 (.slice rA 0 rc) 0 xs [.int .i64 (k:Nat)] w1.heap.size xn 7 8 10) [10],FrW (fun q=>(Value.slice rA 0 rc).ownBlock=some q) wr z.w:=fun z=>ApC.fr z.2.1 (z.2.2 10 (by simp))
       have f0:∀ z:XC (cAp wr w.heap.size 3 1 (.slice rA 0 rc) 0 xs [.int .i64 (k:Nat)] w1.heap.size xn 7 8 10) [10],z.w.cell? ⟨fb,fo+q,none⟩=some (.int .i64 (xn:Nat)):=fun z=>(fz z).cell hfc1 (fun e=>HNF.out.2 fb e rfl)
       haveI hne:Nonempty (XC (cAp wr w.heap.size 3 1 (.slice rA 0 rc) 0 xs [.int .i64 (k:Nat)] w1.heap.size xn 7 8 10) [10]):=XC.ne (ZCP (y:=wr))
       clear fz
       refine ZAi (cAp wr w.heap.size 3 1 (.slice rA 0 rc) 0 xs [.int .i64 (k:Nat)] w1.heap.size xn 7 8 10) [7,8,10] [0,1,2,3,4,5,6,7,8,9,10] [10] (by kernel_rfl) (by kernel_rfl) (by kernel_rfl) (by kernel_rfl) ZCP ZKZ (ZKa (by decide) (by decide)) (ZDz (by rfl)) ?_
       refine ZZ rfl rfl (fun K hK=>?_);go_simp;refine hK _ ?_;clear hK K
       refine ZZ rfl rfl (fun K hK=>?_);go_simp;refine hK _ ?_;clear hK K
       refine ZZ rfl rfl (fun K hK=>?_);go_simp;refine hK _ ?_;clear hK K
       refine ZZ rfl rfl (fun K hK=>?_);go_simp;refine hK _ ?_;clear hK K
       refine ZZ rfl rfl (fun K hK=>?_);go_simp;refine hK _ ?_;clear hK K
       refine ZZ rfl rfl (fun K hK=>?_);go_simp;refine hK _ ?_;clear hK K
       refine ZZ rfl rfl (fun K hK=>?_);go_simp;refine hK _ ?_;clear hK K
       refine ZAp (some 63) rfl rfl rfl rfl (fun D A z hD hp hpre hC=>ZGT (by decide) (by decide) (by decide) rfl (by simp only[List.map_toArray,List.map_cons,List.map_nil];exact ZCB _ _) hD hC) (fun D A z hD hpre hC=>?_)
       obtain⟨nbk,hnb,-⟩:=ApC.r1 hC hD
       rw[hnb]
       clear hpre hC hD hnb z A D
       refine ZAp (some 64) rfl rfl rfl rfl (fun D A z hD hp hpre hC=>ZEn (by decide) (by decide) (by decide) ZU (by omega) (fun x hx=>ZAT HOW.out (FrW.of_below (fun _=>False) hx) (fun _ _=>id)) rfl rfl rfl (by omega) (by unfold maxLen;omega) rfl (by simp[Value.oneCell']) hD (hpre 7 (by simp)).1 (hpre 7 (by simp)).2 hC) (fun D A z hD hpre hC=>?_)
       obtain⟨nbk2,cap2,hnb,-⟩:=ApC.r2 hC hD
       rw[hnb]
       clear hpre hC hD hnb z A D
       iterate 1 (refine ZZ rfl rfl (fun K hK=>?_);go_simp;refine hK _ ?_;clear hK K)
       refine ZCT rfl rfl rfl rfl (fun D A z hD hp hpre hC=>ZGS (by decide) (by decide) (by decide) HR.out.blk hfr (fun e=>HNF.out.1 e.symm) (by kernel_rfl) rfl rfl rfl hD (hpre 8 (by simp)).1 (hpre 8 (by simp)).2 hC) (fun D A z hD hpre hC=>?_)
       clear hpre hC hD z A D
       refine ZDH (fun D A z hD hAA hC=>?_)
       obtain⟨nb3,cap3,x0,x1,hap,rfl⟩:=ApC.fin hC (hD 10 (by decide))
       clear hAA hC hD D A f0 hne
       have HAP:=Hd_ hap
       clear hap
       go_wp2
       go_roundw
       case rel =>
        have hap:=HAP.out
        have hr0:=HR.out.below hap.bel
        have hx01:=hap.bel.size
        have hob:(Value.slice (some ⟨nb3,0,none⟩) (0+1) cap3).ownBlock=(Value.slice rA 0 rc).ownBlock∨(Value.slice (some ⟨nb3,0,none⟩) (0+1) cap3).ownBlock=some x0.heap.size:=by
         rcases hap.at_ with q1 | q1
         ·exact .inl q1.symm
         ·exact .inr (by rw[← q1];rfl)
        have hgrow:=hr0.grow (i:=xn) (v:=.slice rA 0 rc) (l:=predK g k xn) (x:=(k:Int)) (by rw[← HNX.out.1];exact HX.out.1) HX.out.2.1 hap.gr (v':=.slice (some ⟨nb3,0,none⟩) (0+1) cap3) (by rw[HNX.out.1];have:=hap.own;rw[← HNX.out.2] at this;exact this) hob
        rw[HX.out.2.2.1] at hgrow
        have hb0:Below w.heap.size w x0:=HB.out.trans (hap.bel.mono hws)
        have hb4:Below w.heap.size w x1:=hb0.grown hap.gr hb0.size (fun b hb=>Zh HOW.out b hb)
        refine⟨q+1,_,by go_num,by omega,Hd_ hgrow,Hd_ (hb4.setCell (p:=⟨w1.heap.size,xn,none⟩) (by show w.heap.size≤w1.heap.size;omega) _),?_,?_,?_,?_⟩
        ·have h1:=(HBX.out.below hap.bel HBX.out.lt).grown hap.gr (ZO HOW.out HBX.out (by decide))
         exact Hd_ (h1.far (p:=⟨w1.heap.size,xn,none⟩) (by show w.heap.size≠w1.heap.size;omega) _)
        ·refine Hd_ (HFI.out.mono (ZR fun b hb1 hb2=>?_))
         have hbs:b < wr.heap.size:=by have:=HHI.out;omega
         rw[Below.heap_setCell _ _ _ _ (by show b≠w1.heap.size;omega),hap.gr.block b (by omega) (fun e=>by
          rcases HSEP.out xn _ b (by have:=HX.out.1;rwa [HNX.out.1] at this) e.symm with h | h
          ·omega
          ·omega),hap.bel.block b hbs]
        ·exact Hd_ (by have:=HHI.out;have:=hap.gr.size;simp[World.setCell];omega)
        ·refine Hd_ fun i v b hi hb=>?_
         rw[List.getElem?_set] at hi
         by_cases e:xn=i
         ·rw[if_pos e,if_pos hfr] at hi
          injection hi with hi
          subst hi
          rcases hap.at_ with h | h
          ·exact HSEP.out xn _ b (by have:=HX.out.1;rwa [HNX.out.1] at this) (h.trans hb)
          ·have hb:some nb3=some b:=hb
           injection hb with hb
           have:=HHI.out
           omega
         ·rw[if_neg e] at hi
          exact HSEP.out i v b hi hb
       case measure=>simp[intOf];omega
      ·subst h1
       subst h2
       have d1:(zl != (k:Int))=true:=by simp;omega
       have d0:((m:Int)+1 == 0)=false:=by simp;omega
       have hm4:(m:Int)≤4096:=by omega
       go_wp2
       have fz:∀ z:XC (cAp wr w.heap.size 3 1 (.slice (some ⟨lb,0,none⟩) (m+1) rc) (m+1) xs [.int .i64 (k:Nat)] w1.heap.size xn 7 8 10) [10],FrW (fun q=>(Value.slice (some ⟨lb,0,none⟩) (m+1) rc).ownBlock=some q) wr z.w:=fun z=>ApC.fr z.2.1 (z.2.2 10 (by simp))
       have f0:∀ z:XC (cAp wr w.heap.size 3 1 (.slice (some ⟨lb,0,none⟩) (m+1) rc) (m+1) xs [.int .i64 (k:Nat)] w1.heap.size xn 7 8 10) [10],z.w.cell? ⟨fb,fo+q,none⟩=some (.int .i64 (xn:Nat)):=fun z=>(fz z).cell hfc1 (fun e=>HNF.out.2 fb e rfl)
       haveI hne:Nonempty (XC (cAp wr w.heap.size 3 1 (.slice (some ⟨lb,0,none⟩) (m+1) rc) (m+1) xs [.int .i64 (k:Nat)] w1.heap.size xn 7 8 10) [10]):=XC.ne (ZCP (y:=wr))
       clear fz
       refine ZAi (cAp wr w.heap.size 3 1 (.slice (some ⟨lb,0,none⟩) (m+1) rc) (m+1) xs [.int .i64 (k:Nat)] w1.heap.size xn 7 8 10) [7,8,10] [0,1,2,3,4,5,6,7,8,9,10] [10] (by kernel_rfl) (by kernel_rfl) (by kernel_rfl) (by kernel_rfl) ZCP ZKZ (ZKa (by decide) (by decide)) (ZDz (by rfl)) ?_
       refine ZZ rfl rfl (fun K hK=>?_);go_simp;refine hK _ ?_;clear hK K
       refine ZZ rfl rfl (fun K hK=>?_);go_simp;refine hK _ ?_;clear hK K
       refine ZZ rfl rfl (fun K hK=>?_);go_simp;refine hK _ ?_;clear hK K
       refine ZZ rfl rfl (fun K hK=>?_);go_simp;refine hK _ ?_;clear hK K
       refine ZZ rfl rfl (fun K hK=>?_);go_simp;refine hK _ ?_;clear hK K
       refine ZZ rfl rfl (fun K hK=>?_);go_simp;refine hK _ ?_;clear hK K
       refine ZZ rfl rfl (fun K hK=>?_);go_simp;refine hK _ ?_;clear hK K
       refine ZAp (some 63) rfl rfl rfl rfl (fun D A z hD hp hpre hC=>ZGT (by decide) (by decide) (by decide) rfl (by simp only[List.map_toArray,List.map_cons,List.map_nil];exact ZCB _ _) hD hC) (fun D A z hD hpre hC=>?_)
       obtain⟨nbk,hnb,-⟩:=ApC.r1 hC hD
       rw[hnb]
       clear hpre hC hD hnb z A D
       refine ZAp (some 64) rfl rfl rfl rfl (fun D A z hD hp hpre hC=>ZEn (by decide) (by decide) (by decide) ZU (by omega) (fun x hx=>ZAT HOW.out (FrW.of_below (fun _=>False) hx) (fun _ _=>id)) rfl rfl rfl (by omega) (by unfold maxLen;omega) rfl (by simp[Value.oneCell']) hD (hpre 7 (by simp)).1 (hpre 7 (by simp)).2 hC) (fun D A z hD hpre hC=>?_)
       obtain⟨nbk2,cap2,hnb,-⟩:=ApC.r2 hC hD
       rw[hnb]
       clear hpre hC hD hnb z A D
       iterate 1 (refine ZZ rfl rfl (fun K hK=>?_);go_simp;refine hK _ ?_;clear hK K)
       refine ZCT rfl rfl rfl rfl (fun D A z hD hp hpre hC=>ZGS (by decide) (by decide) (by decide) HR.out.blk hfr (fun e=>HNF.out.1 e.symm) (by kernel_rfl) rfl rfl rfl hD (hpre 8 (by simp)).1 (hpre 8 (by simp)).2 hC) (fun D A z hD hpre hC=>?_)
       clear hpre hC hD z A D
       refine ZDH (fun D A z hD hAA hC=>?_)
       obtain⟨nb3,cap3,x0,x1,hap,rfl⟩:=ApC.fin hC (hD 10 (by decide))
       clear hAA hC hD D A f0 hne
       have HAP:=Hd_ hap
       clear hap
       go_wp2
       go_roundw
       case rel =>
        have hap:=HAP.out
        have hr0:=HR.out.below hap.bel
        have hx01:=hap.bel.size
        have hob:(Value.slice (some ⟨nb3,0,none⟩) (m+1+1) cap3).ownBlock=(Value.slice (some ⟨lb,0,none⟩) (m+1) rc).ownBlock∨(Value.slice (some ⟨nb3,0,none⟩) (m+1+1) cap3).ownBlock=some x0.heap.size:=by
         rcases hap.at_ with q1 | q1
         ·exact .inl q1.symm
         ·exact .inr (by rw[← q1];rfl)
        have hgrow:=hr0.grow (i:=xn) (v:=.slice (some ⟨lb,0,none⟩) (m+1) rc) (l:=predK g k xn) (x:=(k:Int)) (by rw[← HNX.out.1];exact HX.out.1) HX.out.2.1 hap.gr (v':=.slice (some ⟨nb3,0,none⟩) (m+1+1) cap3) (by rw[HNX.out.1];have:=hap.own;rw[← HNX.out.2] at this;exact this) hob
        rw[HX.out.2.2.1] at hgrow
        have hb0:Below w.heap.size w x0:=HB.out.trans (hap.bel.mono hws)
        have hb4:Below w.heap.size w x1:=hb0.grown hap.gr hb0.size (fun b hb=>Zh HOW.out b hb)
        refine⟨q+1,_,by go_num,by omega,Hd_ hgrow,Hd_ (hb4.setCell (p:=⟨w1.heap.size,xn,none⟩) (by show w.heap.size≤w1.heap.size;omega) _),?_,?_,?_,?_⟩
        ·have h1:=(HBX.out.below hap.bel HBX.out.lt).grown hap.gr (ZO HOW.out HBX.out (by decide))
         exact Hd_ (h1.far (p:=⟨w1.heap.size,xn,none⟩) (by show w.heap.size≠w1.heap.size;omega) _)
        ·refine Hd_ (HFI.out.mono (ZR fun b hb1 hb2=>?_))
         have hbs:b < wr.heap.size:=by have:=HHI.out;omega
         rw[Below.heap_setCell _ _ _ _ (by show b≠w1.heap.size;omega),hap.gr.block b (by omega) (fun e=>by
          rcases HSEP.out xn _ b (by have:=HX.out.1;rwa [HNX.out.1] at this) e.symm with h | h
          ·omega
          ·omega),hap.bel.block b hbs]
        ·exact Hd_ (by have:=HHI.out;have:=hap.gr.size;simp[World.setCell];omega)
        ·refine Hd_ fun i v b hi hb=>?_
         rw[List.getElem?_set] at hi
         by_cases e:xn=i
         ·rw[if_pos e,if_pos hfr] at hi
          injection hi with hi
          subst hi
          rcases hap.at_ with h | h
          ·exact HSEP.out xn _ b (by have:=HX.out.1;rwa [HNX.out.1] at this) (h.trans hb)
          ·have hb:some nb3=some b:=hb
           injection hb with hb
           have:=HHI.out
           omega
         ·rw[if_neg e] at hi
          exact HSEP.out i v b hi hb
       case measure=>simp[intOf];omega
    ·obtain rfl:q=(fol2 nd).length:=by omega
     have hfin:=HR.out
     rw[List.take_length,ZCY g k (l':=fol nd) (fun y=>ZAM nd y),ZES g HND.out] at hfin
     have HFIN:=Hd_ hfin
     clear hfin
     go_wp2
     go_roundw
     case rel=>exact⟨k+1,vs2,by go_num,by omega,HFIN,HB,HBX⟩
     case measure=>simp[intOf];omega
  ·obtain rfl:k=N:=by omega
   go_wp2
   go_ret
   refine⟨.slice (some ⟨w1.heap.size,0,none⟩) k k,rfl,?_,HB.out⟩
   have h1:=HR.out.sl (by omega) (by rw[Zs,HN.out];omega)
   rw[Zs,HN.out] at h1
   have h2:rowsM g k []=(List.range g.nodes.length).map (predK g g.nodes.length):=by
    unfold rowsM
    rw[HN.out]
    refine List.map_congr_left fun s _=>by simp
   rw[h2] at h1
   exact h1
theorem LoopC.back_ex {g:Graph} {h i:Nat} (hl:LoopC g h i) : ∃ p,BackE g h p:=by
 induction hl with
 | head hb=>exact⟨_,hb⟩
 | tail hb=>exact⟨_,hb⟩
 | back _ _ _ _ ih=>exact ih
structure LK (g:Graph) (h:Nat) (ins:List Bool) (T:List Int) (tl:Nat→Prop) (hd:Prop) (k:Nat) (ex:Nat→Nat→Prop) : Prop where
 len:ins.length=g.nodes.length
 sub:∀ n:Nat,ins[n]? = some true→LoopC g h n
 todo:∀ x∈T,∃ n:Nat,x=n∧ins[n]? = some true
 mem:∀ n:Nat,ins[n]? = some true→(n:Int)∈T∨(hd∧n=h)
 tails:∀ p,BackE g h p→tl p→ins[p]? = some true
 closed:∀ (j x:Nat),j < k→T[j]? = some (x:Int)→x≠h→∀ q,Edge g q x→Rch g q→ins[q]? = some true∨ex x q
section
variable {g:Graph} {h:Nat} {ins:List Bool} {T:List Int} {tl:Nat→Prop} {hd:Prop} {k:Nat} {ex:Nat→Nat→Prop}
theorem LK.start:LK g h (List.replicate g.nodes.length false) [] (fun _=>False) False 0 (fun _ _=>False):=by
 have hno:∀ n:Nat,(List.replicate g.nodes.length false)[n]? = some true→False:=fun n hn=>by
  rw[List.getElem?_replicate] at hn
  split at hn <;> cases hn
 exact⟨by simp,fun n hn=>(hno n hn).elim,fun x hx=>(by cases hx),fun n hn=>(hno n hn).elim,fun _ _ q=>q.elim,fun j x hj=>by omega⟩
theorem LK.pass {tl':Nat→Prop} (hl:LK g h ins T tl hd k ex) (ht:∀ q,BackE g h q→tl' q→tl q∨ins[q]? = some true) : LK g h ins T tl' hd k ex :=
 ⟨hl.len,hl.sub,hl.todo,hl.mem,fun q hq hqt=>by
  rcases ht q hq hqt with q1 | q1
  ·exact hl.tails q hq q1
  ·exact q1,hl.closed⟩
theorem LK.narrow {ex':Nat→Nat→Prop} (hl:LK g h ins T tl hd k ex) (hex:∀ x q,Rch g q→ex x q→ex' x q∨ins[q]? = some true) : LK g h ins T tl hd k ex' :=
 ⟨hl.len,hl.sub,hl.todo,hl.mem,hl.tails,fun j x hj hx hne q he hr=>by
  rcases hl.closed j x hj hx hne q he hr with q1 | q1
  ·exact .inl q1
  ·rcases hex x q hr q1 with q2 | q2
   ·exact .inr q2
   ·exact .inl q2⟩
theorem LK.add {n:Nat} {tl':Nat→Prop} {ex':Nat→Nat→Prop} (hl:LK g h ins T tl hd k ex) (hc:LoopC g h n) (hnl:n < ins.length) (hk:k≤T.length) (ht:∀ q,BackE g h q→tl' q→tl q∨q=n) (hex:∀ x q,ex x q→ex' x q∨q=n) : LK g h (ins.set n true) (T ++ [(n:Int)]) tl' hd k ex':=by
 have hset:∀ m:Nat,(ins.set n true)[m]? = some true ↔ ins[m]? = some true∨m=n:=by
  intro m
  rw[List.getElem?_set]
  by_cases e:n=m
  ·subst e;simp[hnl]
  ·rw[if_neg e]
   constructor
   ·exact .inl
   ·rintro(q | q)
    ·exact q
    ·exact absurd q.symm e
 refine⟨by simpa using hl.len,fun m hm=>?_,fun x hx=>?_,fun m hm=>?_,fun p hp hpt=>?_,fun j x hj hx hne q he hr=>?_⟩
 ·rcases(hset m).1 hm with q | q
  ·exact hl.sub m q
  ·subst q;exact hc
 ·rw[List.mem_append,List.mem_singleton] at hx
  rcases hx with hx | hx
  ·obtain⟨m,q1,q2⟩:=hl.todo x hx
   exact⟨m,q1,(hset m).2 (.inl q2)⟩
  ·exact⟨n,hx,(hset n).2 (.inr rfl)⟩
 ·rcases(hset m).1 hm with q | q
  ·rcases hl.mem m q with q2 | q2
   ·exact .inl (by simp[q2])
   ·exact .inr q2
  ·exact .inl (by simp[q])
 ·rcases ht p hp hpt with q | q
  ·exact(hset p).2 (.inl (hl.tails p hp q))
  ·exact(hset p).2 (.inr q)
 ·rw[List.getElem?_append_left (by omega)] at hx
  rcases hl.closed j x hj hx hne q he hr with q1 | q1
  ·exact .inl ((hset q).2 (.inl q1))
  ·rcases hex x q q1 with q2 | q2
   ·exact .inr q2
   ·exact .inl ((hset q).2 (.inr q2))
theorem LK.head (hl:LK g h ins T tl hd k ex) (hc:LoopC g h h) (hnl:h < ins.length) : LK g h (ins.set h true) T tl True k ex:=by
 have hset:∀ m:Nat,(ins.set h true)[m]? = some true ↔ ins[m]? = some true∨m=h:=by
  intro m
  rw[List.getElem?_set]
  by_cases e:h=m
  ·subst e;simp[hnl]
  ·rw[if_neg e]
   constructor
   ·exact .inl
   ·rintro(q | q)
    ·exact q
    ·exact absurd q.symm e
 refine⟨by simpa using hl.len,fun m hm=>?_,fun x hx=>?_,fun m hm=>?_,fun p hp hpt=>(hset p).2 (.inl (hl.tails p hp hpt)),fun j x hj hx hne q he hr=>?_⟩
 ·rcases(hset m).1 hm with q | q
  ·exact hl.sub m q
  ·subst q;exact hc
 ·obtain⟨m,q1,q2⟩:=hl.todo x hx
  exact⟨m,q1,(hset m).2 (.inl q2)⟩
 ·rcases(hset m).1 hm with q | q
  ·rcases hl.mem m q with q2 | q2
   ·exact .inl q2
   ·exact .inr ⟨trivial,q2.2⟩
  ·exact .inr ⟨trivial,q⟩
 ·rcases hl.closed j x hj hx hne q he hr with q1 | q1
  ·exact .inl ((hset q).2 (.inl q1))
  ·exact .inr q1
theorem LK.skip (hl:LK g h ins T tl hd k (fun _ _=>False)) (hx:T[k]? = some (h:Int)) : LK g h ins T tl hd (k+1) (fun _ _=>False) :=
 ⟨hl.len,hl.sub,hl.todo,hl.mem,hl.tails,fun j x hj hjx hne q he hr=>by
  by_cases e:j=k
  ·subst e
   rw[hx] at hjx
   injection hjx with hjx
   exact absurd (by omega) hne
  ·exact hl.closed j x (by omega) hjx hne q he hr⟩
theorem LK.open_ {n:Nat} {Q:List Int} (hl:LK g h ins T tl hd k (fun _ _=>False)) (hx:T[k]? = some (n:Int)) (hQ:∀ q:Nat,Edge g q n→(q:Int)∈Q) : LK g h ins T tl hd (k+1) (fun x q=>x=n∧(q:Int)∈Q.drop 0) :=
 ⟨hl.len,hl.sub,hl.todo,hl.mem,hl.tails,fun j x hj hjx hne q he hr=>by
  by_cases e:j=k
  ·subst e
   rw[hx] at hjx
   injection hjx with hjx
   obtain rfl:x=n:=by omega
   exact .inr ⟨rfl,by rw[List.drop_zero];exact hQ q he⟩
  ·rcases hl.closed j x (by omega) hjx hne q he hr with q1 | q1
   ·exact .inl q1
   ·exact q1.elim⟩
theorem LK.done (hl:LK g h ins T tl True T.length (fun _ _=>False)) (ht:∀ p,BackE g h p→tl p) (hh:ins[h]? = some true) (i:Nat) : ins[i]? = some true ↔ LoopC g h i:=by
 refine⟨hl.sub i,fun hc=>?_⟩
 induction hc with
 | head _=>exact hh
 | tail hb=>exact hl.tails _ hb (ht _ hb)
 | @back j q _ hne he hr ih =>
  rcases hl.mem _ ih with q1 | q1
  ·obtain⟨p,hp⟩:=List.getElem?_of_mem q1
   rcases hl.closed p j (List.getElem?_eq_some_iff.1 hp).1 hp hne q he hr with q2 | q2
   ·exact q2
   ·exact q2.elim
  ·exact absurd q1.2 hne
end
theorem ZIA {l:List Int} {D D':Int→Prop} (h:∀ i,D i ↔ D' i) : incL l D=incL l D':=by
 have:D=D':=funext fun i=>propext (h i)
 rw[this]
theorem ZG4 {g:Graph} {h:Nat} (hr:∀ p,¬ BackE g h p) : depL g (h+1)=depL g h:=by
 apply List.ext_getElem?
 intro i
 by_cases hi:i < g.nodes.length
 ·rw[ZAY _ _ hi,ZAY _ _ hi,ZCN,if_neg (fun q=>by obtain⟨p,hp⟩:=q.2.back_ex;exact hr p hp)];simp
 ·rw[List.getElem?_eq_none (by rw[Zd];omega),List.getElem?_eq_none (by rw[Zd];omega)]
structure DqK (g:Graph) (h:Nat) (w3:World) (IB:Nat) (ins:List Bool) (wr:World) : Prop where
 in_:Blk wr IB 4 (bools ins)
 out:Blk wr w3.heap.size 3 (ints (depL g h))
 below:Below w3.heap.size w3 wr
 size:IB+1≤wr.heap.size
theorem DqK.append {g:Graph} {h IB:Nat} {w3 wr wx:World} {ins:List Bool} {v:Value} {n:Nat} {xs:List Value} (hk:DqK g h w3 IB ins wr) (hlt:w3.heap.size < IB) (o:Obj) (hr:(wr.alloc o).ownsRow (IB+1) 3 1 v n xs) (hg:(wr.alloc o).grownBy wx v.ownBlock) : DqK g h w3 IB ins wx:=by
 have hs:=hk.size
 have hne:∀ b,b < IB+1→some b≠v.ownBlock:=fun b hb e=>by have:=Zh hr b e.symm;omega
 refine⟨(hk.in_.alloc o).grown hg (hne IB (by omega)),(hk.out.alloc o).grown hg (hne _ (by omega)),(hk.below.alloc (by have:=hk.below.size;omega) o).grown hg (by have:=hk.below.size;simp;omega) (fun b hb=>by have:=Zh hr b hb;omega),?_⟩
 have:=hg.size
 simp at this
 omega
theorem DqK.set_ {g:Graph} {h IB:Nat} {w3 wr:World} {ins:List Bool} (hk:DqK g h w3 IB ins wr) (hlt:w3.heap.size < IB) (n:Nat) : DqK g h w3 IB (ins.set n true) (wr.setCell ⟨IB,n,none⟩ (.bool true)) :=
 ⟨by have h1:=hk.in_.set_ n (.bool true);rwa [show(bools ins).set n (.bool true)=bools (ins.set n true) by simp[bools,List.map_set]] at h1,hk.out.far (p:=⟨IB,n,none⟩) (by show w3.heap.size≠IB;omega) _,hk.below.setCell (p:=⟨IB,n,none⟩) (by show w3.heap.size≤IB;omega) _,by rw[World.size_setCell];exact hk.size⟩
def DqA (g:Graph) (h:Nat) (w3:World) (IB N:Nat) (P:List Int) (v9 v10:Value) (wr:World) : Prop :=
 ∃ (s:Nat) (T:List Int) (ins:List Bool),v10=.int .i64 s∧s≤P.length∧Hid (wr.ownsRow (IB+1) 3 1 v9 T.length (ints T))∧Hid (DqK g h w3 IB ins wr)∧Hid (LK g h ins T (fun p=>(p:Int)∈P.take s) False 0 (fun _ _=>False))∧left ins+T.length≤N
def DqB (g:Graph) (h:Nat) (w3:World) (IB N kg:Nat) (v9 v12:Value) (wr:World) : Prop :=
 ∃ (k:Nat) (T:List Int) (ins:List Bool),v12=.int .i64 k∧k≤T.length∧Hid (wr.ownsRow (IB+1) 3 1 v9 T.length (ints T))∧Hid (DqK g h w3 IB ins wr)∧Hid (LK g h ins T (fun _=>True) True k (fun _ _=>False))∧Hid (ins[h]? = some true)∧left ins+T.length≤N∧left ins+(T.length - k)≤kg∧kg≤8192
def DqC (g:Graph) (h:Nat) (w3:World) (IB N k n M:Nat) (Q:List Int) (v9 v14:Value) (wr:World) : Prop :=
 ∃ (s:Nat) (T:List Int) (ins:List Bool),v14=.int .i64 s∧s≤Q.length∧k < T.length∧Hid (wr.ownsRow (IB+1) 3 1 v9 T.length (ints T))∧Hid (DqK g h w3 IB ins wr)∧Hid (LK g h ins T (fun _=>True) True (k+1) (fun x q=>x=n∧(q:Int)∈Q.drop s))∧Hid (ins[h]? = some true)∧left ins+T.length≤M
set_option maxRecDepth 100000 in
set_option maxHeartbeats 8000000 in
theorem ZFs (g:Graph) (cs:List Value) (w:World) (hw:WholeG g) (hg:GraphV (cmap w) cs g) :
  Calls Tryz.prog 76 #[.agg cs.toArray] w (DpPost g w):=by
 have HRE:=Hd_ (fun w1 (h:Below w.heap.size w w1)=>ZAk g cs w1 hw (hg.mono (ZA h)))
 have HDM:=Hd_ (fun w1 (h:Below w.heap.size w w1) (rv:Value) (rl:List Bool) (h1:Bools (cmap w1) rv rl) (h2:rl.length=g.nodes.length) (h3:∀ i:Nat,rl[i]? = some true ↔ Rch g i)=>ZD0 g cs rv rl w1 hw (hg.mono (ZA h)) h1 h2 h3)
 have HAH:=Hd_ (fun w1 (h:Below w.heap.size w w1)=>ZFt g cs w1 hw (hg.mono (ZA h)))
 obtain⟨nv,rfl,hn⟩:=hg
 obtain⟨nA,nc,rfl,-⟩:=id hn
 have bn:=hn.len.2.2
 have hpos:=hw.pos
 have hmost:=hw.most
 have HW:=Hd_ hw
 obtain⟨N,HN⟩ : ∃ N,Hid (g.nodes.length=N):=⟨_,rfl⟩
 unfold DmsPost at HDM
 rw[HN.out] at bn hpos hmost HRE HDM HAH
 have hbx:=Blk.new w 69 [.string g.name,.int .i64 g.locals,.int .i64 g.slots,.slice nA N nc]
 have hb0:=ZC w (.cells #[.string g.name,.int .i64 g.locals,.int .i64 g.slots,.slice nA N nc] 69)
 have HBX:=Hd_ (And.intro hbx hb0)
 clear hbx hb0 hw hn
 rw[HN.out]
 have hq:=fun (w:World) (A:Addr) (c:Nat)=>Lib.run_eql_slice_nil w 28 4 (some A) N c 0 0 Tryz.underlying28
 simp only[Option.isNone_some] at hq
 go_enter Tryz.func76,Tryz.ntmps76
 go_wp2_with (first
  | (go_at_call 91
     refine(HRE.out _ HBX.out.2).mono ?_
     rintro e w1 ⟨rv,rl,rfl,hrl,hrn,hrr,hb1⟩
     obtain⟨rA,rc,rfl,-⟩:=id hrl
     obtain⟨r0,hr0⟩ : ∃ r,rl[0]? = some r:=⟨_,List.getElem?_eq_getElem (by omega)⟩
     obtain⟨rb,ro,rfl,-⟩:=hrl.at_ hr0
     rw[hrn] at hrl ⊢
     have hbx1:=HBX.out.1.below hb1 HBX.out.1.lt
     have c0:=hbx1.cell 0
     have c1:=hbx1.cell 1
     have c2:=hbx1.cell 2
     have c3:=hbx1.cell 3
     have H1:=Hd_ (And.intro (HBX.out.2.trans (hb1.mono HBX.out.2.size)) (And.intro hbx1 (And.intro (hrl.mono (ZQ _ _ _)) (And.intro hrn hrr))))
     clear hrl hrn hrr hb1 hbx1 hr0)
  | (go_at_call 122
     refine(HDM.out _ H1.out.1 _ rl H1.out.2.2.1 H1.out.2.2.2.1 H1.out.2.2.2.2).mono ?_
     rintro e w2 ⟨X,vs,rfl,hX,hrw,hb2⟩
     have hbx2:=H1.out.2.1.below hb2 H1.out.2.1.lt
     have c0:=hbx2.cell 0
     have c1:=hbx2.cell 1
     have c2:=hbx2.cell 2
     have c3:=hbx2.cell 3
     have H2:=Hd_ (And.intro (H1.out.1.trans (hb2.mono H1.out.1.size)) (And.intro hbx2 (And.intro hrw (H1.out.2.2.1.mono (ZA hb2)))))
     clear hrw hb2 hbx2 hX)
  | (go_at_call 123
     refine(HAH.out _ H2.out.1).mono ?_
     rintro e w3 ⟨av,rfl,ha,hb3⟩
     obtain⟨aA,an,ac,rfl,-⟩ : ∃ A n c,av=.slice A n c∧True:=by obtain⟨A,c,rfl,_⟩:=ha;exact⟨_,_,_,rfl,trivial⟩
     have hbx3:=H2.out.2.1.below hb3 H2.out.2.1.lt
     have c3:=hbx3.cell 3
     have gl3:=hbx3.lt
     have H3:=Hd_ (And.intro ha (And.intro hb3 (And.intro hbx3 (And.intro (H2.out.2.2.1.below hb3) (H2.out.2.2.2.mono (ZA hb3))))))
     clear ha hb3 hbx3)
  | (refine Zn ZU rfl rfl (.tmp 27) (.tmp 27) rfl N rfl rfl (by omega) (by omega) ?_))
 have HW3:=Hd_ (H2.out.1.trans (H3.out.2.1.mono H2.out.1.size))
 have hs3:=HW3.out.size
 have ha1:=H3.out.1
 rw[HN.out] at ha1
 have han:N=an:=by have:=ha1.len.1;simpa using this.symm
 subst han
 obtain⟨ab,ao,rfl,-⟩:=ha1.at_ (i:=0) (x:=predK g N 0) (by rw[List.getElem?_map,List.getElem?_range hpos];rfl)
 have HA:=Hd_ ha1
 have hrl3:∀ (k:Nat) (b:Bool),rl[k]? = some b→w3.cell? ⟨rb,ro+k,none⟩=some (.bool b):=fun k b hb=>by
  obtain⟨rb',ro',e',hc⟩:=H3.out.2.2.2.2.at_ hb
  injection e' with e'
  injection e' with e1 e2
  subst e1 e2
  rw[Nat.mul_one] at hc
  exact hc
 have HRL:=Hd_ (And.intro hrl3 (And.intro H1.out.2.2.2.1 H1.out.2.2.2.2))
 have HRW:=Hd_ H3.out.2.2.2.1
 have HGX3:=Hd_ H3.out.2.2.1
 have xl3:=HRW.out.blk.lt
 clear ha1 hrl3
 go_loopw [7] (fun v7 wr=>∃ h:Nat,v7=.int .i64 h∧h≤N∧Hid (Blk wr w3.heap.size 3 (ints (depL g h)))∧Hid (Below w3.heap.size w3 wr)) (fun v7 _=>N - (intOf v7).toNat)
 case atStart=>exact⟨0,rfl,Nat.zero_le _,Hd_ (Blk.of (ZI _ _ _ rfl) (by rw[ZGM,HN.out];simp[ints])),Hd_ (ZC _ _)⟩
 case round =>
  obtain⟨h,rfl,hh,HO,HB⟩:=hrel
  have gx:=HGX3.out.below HB.out gl3
  have c3:=gx.cell 3
  have gl:=gx.lt
  clear gx
  by_cases hlt:h < N
  ·have h0:(0:Int)≤h:=by omega
   have hNI:(h:Int) < N:=by omega
   have h8:(h:Int)≤4096:=by omega
   have hark:((List.range N).map (predK g N))[h]? = some (predK g N h):=by simp[hlt]
   obtain⟨ab',ao',e',rv,hac,hri⟩:=HA.out.at_ hark
   injection e' with e'
   injection e' with e1 e2
   subst e1 e2
   obtain⟨rvA,rvc,rfl,-⟩:=id hri
   rw[Nat.mul_one] at hac
   have acl3:=(ZX hac).1
   have hri3:Ints (cmap w3) (.slice rvA (predK g N h).length rvc) (predK g N h):=hri.mono (ZQ _ _ _)
   have hpe:∀ z:Nat,(z:Int)∈predK g N h ↔ Edge g z h:=fun z=>by
    have:=ZAq HW.out (n:=h) (q:=z)
    rwa [HN.out] at this
   have hpb:∀ z∈predK g N h,0≤z∧z < N:=fun z hz=>by
    obtain⟨i,nd,q1,q2,_⟩:=(Z1 g h N z).1 hz
    omega
   have hpl:=Zj g h N
   obtain⟨P,hP⟩ : ∃ P,predK g N h=P:=⟨_,rfl⟩
   rw[hP] at acl3 hri3 hpe hpb hpl
   have HPE:=Hd_ (And.intro hpe hpb)
   have HRI:=Hd_ (And.intro hri3 acl3)
   obtain⟨db,dv,dX,dlt,dblk⟩:=HRW.out.rows h hlt
   have dcell3:w3.cell? ⟨X,h,none⟩=some (.slice (some ⟨db,0,none⟩) N N):=by rw[HRW.out.blk.cell];exact dv
   have HDR:=Hd_ (And.intro dcell3 dblk)
   have hws:=HB.out.size
   have hO1:=HO.out.lt
   obtain⟨w0,rfl⟩ : ∃ w0:World,w0=wr:=⟨_,rfl⟩
   have hkk:DqK g h w3 w0.heap.size (List.replicate N false) (w0.alloc (.cells (Array.replicate N (Value.bool false)) 4)):=⟨Blk.of (ZI _ _ _ rfl) (by simp[bools]),HO.out.alloc _,HB.out.alloc hws _,by simp⟩
   have HKK:=Hd_ hkk
   have hst:LK g h (List.replicate N false) [] (fun p=>(p:Int)∈P.take 0) False 0 (fun _ _=>False):=by
    have h1:=LK.start (g:=g) (h:=h)
    rw[HN.out] at h1
    exact h1.pass fun q _ hq=>by simp at hq
   have HST:=Hd_ hst
   have hl0:left (List.replicate N false)≤N:=by
    unfold left
    refine Nat.le_trans List.count_le_length ?_
    simp
   clear hark hac hri hri3 hpe hpb hP hkk acl3 dv dX dlt dblk dcell3 hst
   go_wp2_with (refine Zn ZA2 rfl rfl (.tmp 38) (.tmp 38) rfl N rfl rfl (by omega) (by omega) ?_)
   obtain⟨IB,hIB⟩ : ∃ IB,w0.heap.size=IB:=⟨_,rfl⟩
   rw[hIB] at HKK hO1
   rw[hIB]
   clear hIB
   go_loopw [9,10] (fun v9 v10 wr=>DqA g h w3 IB N P v9 v10 wr) (fun _ v10 _=>P.length - (intOf v10).toNat)
   case atStart=>exact⟨0,[],List.replicate N false,rfl,Nat.zero_le _,Hd_ (World.ownsRow_nil _ _ _ _),HKK,HST,by simpa using hl0⟩
   case round =>
    obtain⟨s,T,ins,rfl,hs,HT,HK,HLK,hpot⟩:=hrel
    obtain⟨tA,tc,rfl,-⟩:=ZF HT.out
    have acell:wr.cell? ⟨ab,ao+h,none⟩=some (.slice rvA P.length rvc):=ZA HK.out.below _ _ _ HRI.out.2
    have s8:(s:Int)≤4096:=by omega
    by_cases hsl:s < P.length
    ·obtain⟨xp,hxp⟩ : ∃ x,P[s]? = some x:=⟨_,List.getElem?_eq_getElem hsl⟩
     obtain⟨xp0,xpk⟩:=HPE.out.2 xp (List.mem_of_getElem? hxp)
     obtain⟨p,rfl⟩:=Int.eq_ofNat_of_zero_le xp0
     obtain⟨pvb,pvo,rfl,hpc2⟩:=HRI.out.1.at_ hxp
     rw[Nat.mul_one] at hpc2
     have pcell:wr.cell? ⟨pvb,pvo+s,none⟩=some (.int .i64 (p:Nat)):=ZA HK.out.below _ _ _ hpc2
     have hpN:p < N:=by omega
     obtain⟨bp,hbp⟩ : ∃ b,rl[p]? = some b:=⟨rl[p]'(by rw[HRL.out.2.1];exact hpN),List.getElem?_eq_getElem _⟩
     have rcp:wr.cell? ⟨rb,ro+p,none⟩=some (.bool bp):=ZA HK.out.below _ _ _ (HRL.out.1 p bp hbp)
     have hbr:bp=true ↔ Rch g p:=⟨fun e=>(HRL.out.2.2 p).1 (by rw[hbp,e]),fun e=>by have h1:=(HRL.out.2.2 p).2 e;rw[hbp] at h1;injection h1⟩
     have xcell:wr.cell? ⟨X,h,none⟩=some (.slice (some ⟨db,0,none⟩) N N):=ZA HK.out.below _ _ _ HDR.out.1
     obtain⟨dd,hdd⟩ : ∃ d,(domB g h)[p]? = some d:=⟨_,List.getElem?_eq_getElem (by unfold domB;rw[ZBE,HN.out];exact hpN)⟩
     have dcell:wr.cell? ⟨db,p,none⟩=some (.bool dd):=ZA HK.out.below _ _ _ (show cmap w3 db p=some (.bool dd) from by unfold cmap;rw[HDR.out.2.cell];simp[bools,hdd])
     have hdd2:dd=true ↔ (Rch g h∧Rch g p∧DomC g h p):=by
      classical
      have h1:=ZJT g h (n:=p) (by rw[HN.out];exact hpN)
      rw[hdd] at h1
      injection h1 with h1
      rw[h1,decide_eq_true_iff]
     have hil:=HLK.out.len
     rw[HN.out] at hil
     obtain⟨bi,hbi⟩ : ∃ b,ins[p]? = some b:=⟨ins[p]'(by omega),List.getElem?_eq_getElem _⟩
     have icell:wr.cell? ⟨IB,p,none⟩=some (.bool bi):=by rw[HK.out.in_.cell];simp[bools,hbi]
     have ifr:=HK.out.in_.frozen p
     have s0:(0:Int)≤s:=by omega
     have sP:(s:Int) < P.length:=by omega
     have p0:(0:Int)≤p:=by omega
     have htk:=Zg hxp
     have hed:=(HPE.out.1 p).1 (List.mem_of_getElem? hxp)
     have HX:=Hd_ (And.intro htk (And.intro hed (And.intro hbr (And.intro hdd2 (And.intro hbi hil)))))
     clear hxp hpc2 hbp hbr htk hed hdd hdd2 hbi hil
     have hpass:(BackE g h p→ins[p]? = some true)→Hid (LK g h ins T (fun q=>(q:Int)∈P.take (s+1)) False 0 (fun _ _=>False)):=fun hno=>Hd_ (HLK.out.pass fun q hq hqt=>by
      rcases(HX.out.1 _).1 hqt with q1 | q1
      ·exact .inl q1
      ·obtain rfl:q=p:=by omega
       exact .inr (hno hq))
     have HPS:=Hd_ hpass
     clear hpass
     cases bp with
     | false =>
      have HNX:=HPS.out fun q=>by have:=HX.out.2.2.1.2 q.1;cases this
      go_wp2
      go_roundw
      case rel=>exact⟨s+1,T,ins,by go_num,hsl,HT,HK,HNX,hpot⟩
      case measure=>simp[intOf];omega
     | true =>
      cases dd with
      | false =>
       have HNX:=HPS.out fun q=>by have:=HX.out.2.2.2.1.2 ⟨q.rch,q.1,q.2.2⟩;cases this
       go_wp2
       go_roundw
       case rel=>exact⟨s+1,T,ins,by go_num,hsl,HT,HK,HNX,hpot⟩
       case measure=>simp[intOf];omega
      | true =>
       cases bi with
       | true =>
        have HNX:=HPS.out fun _=>HX.out.2.2.2.2.1
        go_wp2
        go_roundw
        case rel=>exact⟨s+1,T,ins,by go_num,hsl,HT,HK,HNX,hpot⟩
        case measure=>simp[intOf];omega
       | false =>
        have hbe:BackE g h p:=⟨HX.out.2.2.1.1 rfl,HX.out.2.1,(HX.out.2.2.2.1.1 rfl).2.2⟩
        have HLN:Hid (LK g h (ins.set p true) (T ++ [(p:Int)]) (fun q=>(q:Int)∈P.take (s+1)) False 0 (fun _ _=>False)):=Hd_ (HLK.out.add (.tail hbe) (by rw[HX.out.2.2.2.2.2];exact hpN) (Nat.zero_le _) (fun q _ hq=>by
         rcases(HX.out.1 _).1 hq with q1 | q1
         ·exact .inl q1
         ·exact .inr (by omega)) (fun _ _ q=>q.elim))
        have hls:=Z2 ins p HX.out.2.2.2.2.1
        have hk2:=HK.out.set_ hO1 p
        have ht2:=ownsRow_setCell_other (a:=⟨IB,p,none⟩) HT.out (fun e=>by have:=Zh HT.out IB e;omega) (.bool true)
        have hta:=ht2.alloc (.cells #[.int .i64 (p:Nat)] 3)
        have HK2:=Hd_ (And.intro hk2 hta)
        have hsz:=HK.out.size
        have htl:T.length≤4096:=by omega
        clear hbe hk2 ht2 hta
        go_wp2_with (refine ZD rfl ?_)
        refine Stop.intro ?_
        refine ZS ZU rfl _ _ rfl (IB+1) (.slice tA T.length tc) T.length (ints T) rfl HK2.out.2 _ 0 1 [.int .i64 (p:Nat)] rfl rfl (ZN _ _ _ _ (by simp)) (by simp[Value.oneCell']) (by omega) (by decide) (by simp;omega) ?_
        intro v' w6 hown6 hgr hobn
        have hk6:=HK2.out.1.append hO1 _ HK2.out.2 hgr
        have HF:=Hd_ (And.intro hown6 hk6)
        clear hown6 hgr hobn hk6
        go_wp2
        go_roundw
        case rel=>exact⟨s+1,T ++ [(p:Int)],ins.set p true,by go_num,hsl,Hd_ (by simpa [ints] using HF.out.1),Hd_ HF.out.2,HLN,by simp;omega⟩
        case measure=>simp[intOf];omega
    ·obtain rfl:s=P.length:=by omega
     by_cases hT0:T.length=0
     ·have hTn:T=[]:=List.eq_nil_of_length_eq_zero hT0
      have hnb:∀ p,¬ BackE g h p:=fun p hp=>by
       have h1:=HLK.out.tails p hp (by rw[List.take_length];exact(HPE.out.1 p).2 hp.2.1)
       rcases HLK.out.mem p h1 with h2 | h2
       ·rw[hTn] at h2;cases h2
       ·exact h2.1
      have HDN:=Hd_ (ZG4 hnb)
      rw[hT0]
      clear hTn hnb hT0
      go_wp2
      go_roundw
      case rel=>exact⟨h+1,by go_num,hlt,Hd_ (by rw[HDN.out];exact HK.out.out),Hd_ HK.out.below⟩
      case measure=>simp[intOf];omega
     ·have dT:((T.length:Int) == 0)=false:=by rw[beq_eq_false_iff_ne];omega
      have hbx:∃ p,BackE g h p:=by
       obtain⟨x,hx⟩ : ∃ x,x∈T:=List.exists_mem_of_length_pos (by omega)
       obtain⟨n,e,hn⟩:=HLK.out.todo x hx
       exact(HLK.out.sub n hn).back_ex
      have hil:=HLK.out.len
      rw[HN.out] at hil
      have hlh:LoopC g h h:=by obtain⟨p,hp⟩:=hbx;exact .head hp
      have hrh:Rch g h:=hlh.rch
      have hlk2:LK g h (ins.set h true) T (fun _=>True) True 0 (fun _ _=>False):=(HLK.out.head hlh (by omega)).pass fun q hq _=>.inl (by rw[List.take_length];exact(HPE.out.1 q).2 hq.2.1)
      have hih:(ins.set h true)[h]? = some true:=by rw[List.getElem?_set,if_pos rfl,if_pos (by omega)]
      have hlle:left (ins.set h true)≤left ins:=by
       obtain⟨b0,hb0⟩ : ∃ b,ins[h]? = some b:=⟨ins[h]'(by omega),List.getElem?_eq_getElem _⟩
       cases b0 with
       | false=>have:=Z2 ins h hb0;omega
       | true =>
        have:ins.set h true=ins:=by
         apply List.ext_getElem?
         intro j
         rw[List.getElem?_set]
         by_cases e:h=j
         ·subst e;rw[if_pos rfl,if_pos (by omega),hb0]
         ·rw[if_neg e]
        rw[this]
        exact Nat.le_refl _
      have hk2:=HK.out.set_ hO1 h
      have ht2:=ownsRow_setCell_other (a:=⟨IB,h,none⟩) HT.out (fun e=>by have:=Zh HT.out IB e;omega) (.bool true)
      obtain⟨z0,hz0⟩ : ∃ z,ins[h]? = some z:=⟨ins[h]'(by omega),List.getElem?_eq_getElem _⟩
      have icell:wr.cell? ⟨IB,h,none⟩=some (.bool z0):=by rw[HK.out.in_.cell];simp[bools,hz0]
      have ifr:=HK.out.in_.frozen h
      have HIN:Hid (DqB g h w3 IB N 8192 (.slice tA T.length tc) (.int .i64 0) (wr.setCell ⟨IB,h,none⟩ (.bool true))):=Hd_ ⟨0,T,ins.set h true,rfl,Nat.zero_le _,Hd_ ht2,Hd_ hk2,Hd_ hlk2,Hd_ hih,by omega,by omega,Nat.le_refl _⟩
      have HRH:=Hd_ hrh
      clear hbx hlh hlk2 hih hlle hk2 ht2 hz0 hrh hil hT0
      go_wp2
      go_loopg [9,12] 8192 (fun kg v9 v12 wr=>DqB g h w3 IB N kg v9 v12 wr)
      case atStart=>exact HIN.out
      case round =>
       obtain⟨k,T,ins,rfl,hk,HT,HK,HLK,HIH,hpot,hkg,hkg2⟩:=hrel
       have HKG:=Hd_ (And.intro hkg hkg2)
       clear hkg hkg2
       obtain⟨tA,tc,rfl,-⟩:=ZF HT.out
       have k0:(0:Int)≤k:=by omega
       have k8:(k:Int)≤4096:=by omega
       have hil:=HLK.out.len
       rw[HN.out] at hil
       by_cases hkT:k < T.length
       ·obtain⟨x,hx⟩ : ∃ x,T[k]? = some x:=⟨_,List.getElem?_eq_getElem hkT⟩
        obtain⟨n,rfl,hni⟩:=HLK.out.todo x (List.mem_of_getElem? hx)
        have hnN:n < N:=by have:=(List.getElem?_eq_some_iff.1 hni).1;omega
        have hnl:=HLK.out.sub n hni
        obtain⟨tb,tc2,e,-,-,-,htc⟩:=ZT HT.out (by omega)
        injection e with e _ e3
        subst e e3
        have tcell:wr.cell? ⟨tb,k,none⟩=some (.int .i64 (n:Nat)):=(htc k (by omega)).trans (by simp[ints,hx])
        have kT:(k:Int) < T.length:=by omega
        have n0:(0:Int)≤n:=by omega
        have nN:(n:Int) < N:=by omega
        by_cases hnh:n=h
        ·have d1:((n:Int) == (h:Int))=true:=by simp[hnh]
         have d2:(n == h)=true:=by simp[hnh]
         have HSK:=Hd_ (HLK.out.skip (by rw[hx,hnh]))
         clear hnh hx hni hnl htc
         go_wp2
         go_roundg (left ins+(T.length - (k+1)))
         case measure=>have:=HKG.out;omega
         case rel=>exact⟨k+1,T,ins,by go_num,hkT,HT,HK,HSK,HIH,hpot,Nat.le_refl _,by have:=HKG.out;omega⟩
        ·have d1:((n:Int) == (h:Int))=false:=by simp;omega
         have d2:(n == h)=false:=by simp;omega
         have hark2:((List.range N).map (predK g N))[n]? = some (predK g N n):=by simp[hnN]
         obtain⟨ab',ao',e',rv2,hac2,hri2⟩:=HA.out.at_ hark2
         injection e' with e'
         injection e' with e1 e2
         subst e1 e2
         obtain⟨sA,sc,rfl,-⟩:=id hri2
         rw[Nat.mul_one] at hac2
         have acell2:wr.cell? ⟨ab,ao+n,none⟩=some (.slice sA (predK g N n).length sc):=ZA HK.out.below _ _ _ (ZX hac2).1
         have hri5:Ints (cmap w3) (.slice sA (predK g N n).length sc) (predK g N n):=hri2.mono (ZQ _ _ _)
         have hpe2:∀ z:Nat,(z:Int)∈predK g N n ↔ Edge g z n:=fun z=>by
          have:=ZAq HW.out (n:=n) (q:=z)
          rwa [HN.out] at this
         have hpb2:∀ z∈predK g N n,0≤z∧z < N:=fun z hz=>by
          obtain⟨i,nd,q1,q2,_⟩:=(Z1 g n N z).1 hz
          omega
         have hpl2:=Zj g n N
         obtain⟨Q,hQ⟩ : ∃ Q,predK g N n=Q:=⟨_,rfl⟩
         rw[hQ] at acell2 hri5 hpe2 hpb2 hpl2
         have HPE2:=Hd_ (And.intro hpe2 (And.intro hpb2 hri5))
         have HLO:=Hd_ (HLK.out.open_ hx fun q hq=>(hpe2 q).2 hq)
         have HNL:=Hd_ (And.intro hnl hnh)
         clear hx hni hnl htc hnh hark2 hac2 hri2 hri5 hpe2 hpb2 hQ hil
         go_wp2
         go_loopw [9,14] (fun v9 v14 wr=>DqC g h w3 IB N k n (left ins+T.length) Q v9 v14 wr) (fun _ v14 _=>Q.length - (intOf v14).toNat)
         case atStart=>exact⟨0,T,ins,rfl,Nat.zero_le _,hkT,HT,HK,HLO,HIH,Nat.le_refl _⟩
         case round =>
          obtain⟨s,T2,ins2,rfl,hs,hkT2,HT2,HK2,HLK2,HIH2,hpot2⟩:=hrel
          obtain⟨tA2,tc3,rfl,-⟩:=ZF HT2.out
          have s8:(s:Int)≤4096:=by omega
          by_cases hsl:s < Q.length
          ·obtain⟨xp,hxp⟩ : ∃ x,Q[s]? = some x:=⟨_,List.getElem?_eq_getElem hsl⟩
           obtain⟨xp0,xpk⟩:=HPE2.out.2.1 xp (List.mem_of_getElem? hxp)
           obtain⟨p,rfl⟩:=Int.eq_ofNat_of_zero_le xp0
           obtain⟨pvb,pvo,rfl,hpc2⟩:=HPE2.out.2.2.at_ hxp
           rw[Nat.mul_one] at hpc2
           have pcell:wr.cell? ⟨pvb,pvo+s,none⟩=some (.int .i64 (p:Nat)):=ZA HK2.out.below _ _ _ hpc2
           have hpN:p < N:=by omega
           obtain⟨bp,hbp⟩ : ∃ b,rl[p]? = some b:=⟨rl[p]'(by rw[HRL.out.2.1];exact hpN),List.getElem?_eq_getElem _⟩
           have rcp:wr.cell? ⟨rb,ro+p,none⟩=some (.bool bp):=ZA HK2.out.below _ _ _ (HRL.out.1 p bp hbp)
           have hbr:bp=true ↔ Rch g p:=⟨fun e=>(HRL.out.2.2 p).1 (by rw[hbp,e]),fun e=>by have h1:=(HRL.out.2.2 p).2 e;rw[hbp] at h1;injection h1⟩
           have hil:=HLK2.out.len
           rw[HN.out] at hil
           obtain⟨bi,hbi⟩ : ∃ b,ins2[p]? = some b:=⟨ins2[p]'(by omega),List.getElem?_eq_getElem _⟩
           have icell:wr.cell? ⟨IB,p,none⟩=some (.bool bi):=by rw[HK2.out.in_.cell];simp[bools,hbi]
           have ifr:=HK2.out.in_.frozen p
           have s0:(0:Int)≤s:=by omega
           have sP:(s:Int) < Q.length:=by omega
           have p0:(0:Int)≤p:=by omega
           have hdr:Q.drop s=(p:Int) :: Q.drop (s+1):=by
            rw[List.drop_eq_getElem_cons hsl]
            congr 1
            rw[List.getElem?_eq_getElem hsl] at hxp
            injection hxp
           have hex:∀ x q:Nat,(x=n∧(q:Int)∈Q.drop s)→(x=n∧(q:Int)∈Q.drop (s+1))∨q=p:=fun x q hx=>by
            rw[hdr,List.mem_cons] at hx
            rcases hx with⟨h1,h2 | h2⟩
            ·exact .inr (by omega)
            ·exact .inl ⟨h1,h2⟩
           have hed:=(HPE2.out.1 p).1 (List.mem_of_getElem? hxp)
           have HX:=Hd_ (And.intro hex (And.intro hed (And.intro hbr (And.intro hbi (And.intro hil hpc2)))))
           clear hxp hpc2 hbp hbr hdr hex hed hbi hil
           cases bp with
           | false =>
            have HLN:Hid (LK g h ins2 T2 (fun _=>True) True (k+1) (fun x q=>x=n∧(q:Int)∈Q.drop (s+1))):=Hd_ (HLK2.out.narrow fun x q hr hx=>by
             rcases HX.out.1 x q hx with q1 | q1
             ·exact .inl q1
             ·subst q1;have:=HX.out.2.2.1.2 hr;cases this)
            go_wp2
            go_roundw
            case rel=>exact⟨s+1,T2,ins2,by go_num,hsl,hkT2,HT2,HK2,HLN,HIH2,hpot2⟩
            case measure=>simp[intOf];omega
           | true =>
            cases bi with
            | true =>
             have HLN:Hid (LK g h ins2 T2 (fun _=>True) True (k+1) (fun x q=>x=n∧(q:Int)∈Q.drop (s+1))):=Hd_ (HLK2.out.narrow fun x q hr hx=>by
              rcases HX.out.1 x q hx with q1 | q1
              ·exact .inl q1
              ·subst q1;exact .inr HX.out.2.2.2.1)
             go_wp2
             go_roundw
             case rel=>exact⟨s+1,T2,ins2,by go_num,hsl,hkT2,HT2,HK2,HLN,HIH2,hpot2⟩
             case measure=>simp[intOf];omega
            | false =>
             have HLN:Hid (LK g h (ins2.set p true) (T2 ++ [(p:Int)]) (fun _=>True) True (k+1) (fun x q=>x=n∧(q:Int)∈Q.drop (s+1))):=Hd_ (HLK2.out.add (.back HNL.out.1 HNL.out.2 HX.out.2.1 (HX.out.2.2.1.1 rfl)) (by rw[HX.out.2.2.2.2.1];exact hpN) hkT2 (fun _ _ _=>.inl trivial) HX.out.1)
             have hls:=Z2 ins2 p HX.out.2.2.2.1
             have hk2:=HK2.out.set_ hO1 p
             have ht2:=ownsRow_setCell_other (a:=⟨IB,p,none⟩) HT2.out (fun e=>by have:=Zh HT2.out IB e;omega) (.bool true)
             have hta:=ht2.alloc (.cells #[.int .i64 (p:Nat)] 3)
             have HKA:=Hd_ (And.intro hk2 hta)
             have HI2:Hid ((ins2.set p true)[h]? = some true):=Hd_ (Zo HIH2.out)
             have pcell2:(wr.setCell ⟨IB,p,none⟩ (.bool true)).cell? ⟨pvb,pvo+s,none⟩=some (.int .i64 (p:Nat)):=ZA HKA.out.1.below _ _ _ HX.out.2.2.2.2.2
             have hsz:=HK2.out.size
             have htl:T2.length≤4096:=by omega
             clear hk2 ht2 hta
             go_wp2_with (refine ZD rfl ?_)
             refine Stop.intro ?_
             refine ZS ZU rfl _ _ rfl (IB+1) (.slice tA2 T2.length tc3) T2.length (ints T2) rfl HKA.out.2 _ 0 1 [.int .i64 (p:Nat)] rfl rfl (ZN _ _ _ _ (by simp)) (by simp[Value.oneCell']) (by omega) (by decide) (by simp;omega) ?_
             intro v' w6 hown6 hgr hobn
             have hk6:=HKA.out.1.append hO1 _ HKA.out.2 hgr
             have HF:=Hd_ (And.intro hown6 hk6)
             clear hown6 hgr hobn hk6
             go_wp2
             go_roundw
             case rel=>exact⟨s+1,T2 ++ [(p:Int)],ins2.set p true,by go_num,hsl,by simp;omega,Hd_ (by simpa [ints] using HF.out.1),Hd_ HF.out.2,HLN,HI2,by simp;omega⟩
             case measure=>simp[intOf];omega
          ·obtain rfl:s=Q.length:=by omega
           have HLN:Hid (LK g h ins2 T2 (fun _=>True) True (k+1) (fun _ _=>False)):=Hd_ (HLK2.out.narrow fun x q _ hx=>by rw[List.drop_length] at hx;exact absurd hx.2 (by simp))
           have HME:Hid (∀ kk,left ins+(T.length - k)≤kk∧kk≤8192→left ins2+(T2.length - (k+1)) < kk∧left ins2+(T2.length - (k+1))≤8192):=Hd_ fun kk hq=>by omega
           go_wp2
           go_roundg (left ins2+(T2.length - (k+1)))
           case measure=>exact(HME.out _ HKG.out).1
           case rel=>exact⟨k+1,T2,ins2,by go_num,by omega,HT2,HK2,HLN,HIH2,by omega,Nat.le_refl _,(HME.out _ HKG.out).2⟩
       ·obtain rfl:k=T.length:=by omega
        have hall:=HLK.out.done (fun _ _=>trivial) HIH.out
        have HALL:=Hd_ hall
        have hO3:=HK.out.out
        have HIB:=Hd_ (And.intro HK.out.in_ hil)
        have hIBl:=HK.out.in_.lt
        have HST5:Hid (Blk wr w3.heap.size 3 (ints (incL (depL g h) fun x=>∃ m:Nat,x=m∧m < 0∧ins[m]? = some true))):=Hd_ (by rw[ZF5 _ (fun i q=>by obtain⟨m,_,q2,_⟩:=q;omega)];exact hO3)
        have HBW:=Hd_ HK.out.below
        clear hall hO3 hil
        go_wp2
        go_loopw [15] (fun v15 wr=>∃ i:Nat,v15=.int .i64 i∧i≤N∧Hid (Blk wr w3.heap.size 3 (ints (incL (depL g h) fun x=>∃ m:Nat,x=m∧m < i∧ins[m]? = some true)))∧Hid (Below w3.heap.size w3 wr)∧Hid (Blk wr IB 4 (bools ins))) (fun v15 _=>N - (intOf v15).toNat)
        case atStart=>exact⟨0,rfl,Nat.zero_le _,HST5,HBW,Hd_ HIB.out.1⟩
        case round =>
         obtain⟨i,rfl,hi,HO5,HB5,HI5⟩:=hrel
         by_cases hiN:i < N
         ·obtain⟨b,hb⟩ : ∃ b,ins[i]? = some b:=⟨ins[i]'(by rw[HIB.out.2];exact hiN),List.getElem?_eq_getElem _⟩
          have icell:wr.cell? ⟨IB,i,none⟩=some (.bool b):=by rw[HI5.out.cell];simp[bools,hb]
          have i0:(0:Int)≤i:=by omega
          have iN:(i:Int) < N:=by omega
          have i8:(i:Int)≤4096:=by omega
          have HBI:=Hd_ hb
          clear hb
          cases b with
          | false =>
           have HCG:=Hd_ (ZIA (l:=depL g h) (D:=fun x=>∃ m:Nat,x=m∧m < i+1∧ins[m]? = some true) (D':=fun x=>∃ m:Nat,x=m∧m < i∧ins[m]? = some true) fun x=>⟨fun ⟨m,q1,q2,q3⟩=>⟨m,q1,by
            by_cases e:m=i
            ·subst e;have:=HBI.out;rw[q3] at this;cases this
            ·omega,q3⟩,fun ⟨m,q1,q2,q3⟩=>⟨m,q1,by omega,q3⟩⟩)
           go_wp2
           go_roundw
           case rel=>exact⟨i+1,by go_num,hiN,Hd_ (by rw[HCG.out];exact HO5.out),HB5,HI5⟩
           case measure=>simp[intOf];omega
          | true =>
           have hil:i < (incL (depL g h) fun x=>∃ m:Nat,x=m∧m < i∧ins[m]? = some true).length:=by rw[ZBA,Zd,HN.out];exact hiN
           obtain⟨x,hx⟩ : ∃ x,(incL (depL g h) fun x=>∃ m:Nat,x=m∧m < i∧ins[m]? = some true)[i]? = some x:=⟨_,List.getElem?_eq_getElem hil⟩
           have hnD:¬ ∃ m:Nat,(i:Int)=m∧m < i∧ins[m]? = some true:=fun ⟨m,q1,q2,_⟩=>by omega
           have oc:wr.cell? ⟨w3.heap.size,i,none⟩=some (.int .i64 x):=by rw[HO5.out.cell];simp only[ints,List.getElem?_map,hx];rfl
           have of:=HO5.out.frozen i
           have hxb:0≤x∧x≤4096:=by
            have h1:=hx
            rw[ZBz _ _ (by rw[Zd,HN.out];exact hiN),if_neg hnD] at h1
            have h2:=ZB0 (depL g h) (k:=i) (by rw[Zd,HN.out];exact hiN)
            rw[ZAY g h (by rw[HN.out];exact hiN)] at h2
            injection h1 with h1
            injection h2 with h2
            have:=ZG3 g h i
            omega
           obtain⟨x0,x8⟩:=hxb
           have hst:=ZF4 (D':=fun x=>∃ m:Nat,x=m∧m < i+1∧ins[m]? = some true) hx hnD (fun y=>by
            constructor
            ·rintro⟨m,q1,q2,q3⟩
             by_cases e:m=i
             ·exact .inr (by omega)
             ·exact .inl ⟨m,q1,by omega,q3⟩
            ·rintro(⟨m,q1,q2,q3⟩ | rfl)
             ·exact⟨m,q1,by omega,q3⟩
             ·exact⟨i,rfl,by omega,HBI.out⟩)
           have h1:=HO5.out.set_ i (.int .i64 (x+1))
           rw[show(ints (incL (depL g h) fun x=>∃ m:Nat,x=m∧m < i∧ins[m]? = some true)).set i (.int .i64 (x+1))=ints (incL (depL g h) fun x=>∃ m:Nat,x=m∧m < i+1∧ins[m]? = some true) by rw[← hst];simp[ints,List.map_set]] at h1
           have HS6:=Hd_ (And.intro h1 (And.intro (HB5.out.setCell (p:=⟨w3.heap.size,i,none⟩) (Nat.le_refl _) (.int .i64 (x+1))) (HI5.out.far (p:=⟨w3.heap.size,i,none⟩) (by show IB≠w3.heap.size;omega) (.int .i64 (x+1)))))
           clear hil hx hnD hst h1
           go_wp2
           go_roundw
           case rel=>exact⟨i+1,by go_num,hiN,Hd_ HS6.out.1,Hd_ HS6.out.2.1,Hd_ HS6.out.2.2⟩
           case measure=>simp[intOf];omega
         ·obtain rfl:i=N:=by omega
          have hfin:=ZF6 HRH.out (D:=fun x=>∃ m:Nat,x=m∧m < i∧ins[m]? = some true) (fun j=>⟨fun ⟨m,q1,q2,q3⟩=>(HALL.out j).1 (by rw[show j=m by omega];exact q3),fun q=>⟨j,rfl,by have:=q.rch.lt HW.out;rw[HN.out] at this;exact this,(HALL.out j).2 q⟩⟩)
          rw[hfin] at HO5
          clear hfin
          go_wp2
          go_roundw
          case rel=>exact⟨h+1,by go_num,hlt,HO5,HB5⟩
          case measure=>simp[intOf];omega
  ·obtain rfl:h=N:=by omega
   go_wp2
   go_ret
   refine⟨_,rfl,?_,HW3.out.trans (HB.out.mono hs3)⟩
   rw[HN.out]
   unfold depthL
   rw[HN.out]
   exact ZC6 HO.out hs3 (by simp[ints,Zd,HN.out]) (by omega)
end Go.Proofs.YtffgnjgphkdodaaGreatDoor
