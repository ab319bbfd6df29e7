import Derived.Test.YtffgnjgphkdodaaGreatDoorR18
import Derived.Test.YtffgnjgphkdodaaGreatDoorR19
import Derived.Test.YtffgnjgphkdodaaGreatDoorR37
import Derived.Test.YtffgnjgphkdodaaGreatDoorR34
import Derived.Test.YtffgnjgphkdodaaGreatDoorR42
import Derived.Test.YtffgnjgphkdodaaGreatDoorR21
import Derived.Test.YtffgnjgphkdodaaGreatDoorR30
namespace Go.Proofs.YtffgnjgphkdodaaGreatDoor
open Go Go.RowKit
section
variable {w w':World} {base:Nat} {t e:TypeId} {v:Value} {n K:Nat}
theorem OkRows.block (h:OkRows w base t e v n K) : ∀ g,v.ownBlock=some g→∃ cur,w.heap[g]? = some (.cells cur t (0,0)):=fun g hg=>by
 obtain⟨ys,h1,_⟩:=h
 rcases h1.2 with⟨rfl,_⟩ | ⟨g',cap,cur,rfl,_,k3,_⟩
 ·cases hg
 ·injection hg with hg
  subst hg
  exact⟨cur,k3⟩
theorem OkRow.block {s:Nat} (h:OkRow w base e s v n) : ∀ g,v.ownBlock=some g→∃ cur,w.heap[g]? = some (.cells cur e (0,0)):=fun g hg=>by
 obtain⟨ys,h1⟩:=h
 rcases h1.2 with⟨rfl,_⟩ | ⟨g',cap,cur,rfl,_,k3,_⟩
 ·cases hg
 ·injection hg with hg
  subst hg
  exact⟨cur,k3⟩
theorem OkRow.lt {s:Nat} (h:OkRow w base e s v n) : ∀ g,v.ownBlock=some g→base≤g∧g < w.heap.size:=by
 obtain⟨ys,h1⟩:=h
 exact h1.lt
theorem OkRows.inner {q j:Nat} {cur:Array Value} {x:Value} (h:OkRows w base t e v n K) (hne:t≠e) (hh:w.heap[q]? = some (.cells cur e (0,0))) : OkRows (w.setCell ⟨q,j,none⟩ x) base t e v n K :=
 h.far (Shape.setCell w q j x) fun g hg=>by
  obtain⟨c,hc⟩:=h.block g hg
  exact heap_setCell_other w ⟨q,j,none⟩ g x (ZBO hc hh hne)
theorem OkRows.grown {r:Value} {b k:Nat} (h:OkRows w base t e v n K) (hne:t≠e) (hr:OkRow w b e 1 r k) (hg:w.grownBy w' r.ownBlock) (hs:Shape w w') : OkRows w' base t e v n K :=
 h.far hs fun g hv=>by
  obtain⟨c,hc⟩:=h.block g hv
  refine hg.block g (lt_of_block hc) fun e=>?_
  obtain⟨c',hc'⟩:=hr.block g e.symm
  exact ZBO hc hc' hne rfl
theorem OkRow.cellAt {s:Nat} (h:OkRow w base e s v n) {i:Nat} (hi:i < n * s) : ∃ g c,v=.slice (some ⟨g,0,none⟩) n c∧base≤g∧(∃ x,w.cell? ⟨g,i,none⟩=some x)∧w.frozen? ⟨g,i,none⟩=false:=by
 obtain⟨ys,h1,h2⟩:=h
 rcases id h2 with⟨rfl,rfl⟩ | ⟨g,cap,cur,rfl,hb,hh,hn,hm,hc,ht⟩
 ·omega
 ·have:n * s≤cap * s:=Nat.mul_le_mul_right _ hn
  have hlt:i < cur.size:=by omega
  refine⟨g,cap,rfl,hb,⟨cur[i],?_⟩,frozen_of_row w g i _ _ hh⟩
  rw[cell_of_row w g i cur e (0,0) hh]
  exact Array.getElem?_eq_getElem hlt
end
theorem ZJq:SlT Tryz.prog 26 3 1 8 (.int .i64 0):=SlT.mk' Tryz.underlying26 (by kernel_rfl) rfl (by omega)
theorem ZGR {wr w':World} {q:Nat} (h:w'.heap[q]? = wr.heap[q]?) (o:Nat) : w'.cell? ⟨q,o,none⟩=wr.cell? ⟨q,o,none⟩:=World.cell?_of_block h
theorem ZDn {wr w':World} {q:Nat} (h:w'.heap[q]? = wr.heap[q]?) (o:Nat) : w'.frozen? ⟨q,o,none⟩=wr.frozen? ⟨q,o,none⟩:=World.frozen?_of_block h
theorem ZIl:RowR IntC (fun n=>[.int .i64 n]) 1 where
 dn:=fun m b o d h j v hj=>by
  match j,hj with
  | 0,hj=>injection hj with hj;subst hj;exact h
 up:=fun m b o d h=>h 0 _ rfl
 len:=fun _=>rfl
 one:=fun d u hu=>by
  simp at hu
  subst hu;rfl
theorem ZFF:(26 : Nat)≠3:=by decide
theorem ZFu {u:Unit_} {m:Bool} {t:Nat} {g:Graph} (hc:checkF u=none) (hg:u.graphs[t]? = some g) : (placeL u m t).length≤4096:=by
 have h1:=ZBf (ZHy hc hg m)
 have h2:=((ZM hc).graphs g (List.mem_of_getElem? hg)).whole.most
 omega
theorem ZIo {u:Unit_} {m:Bool} {w w':World} {e:Ending} (h:PlacePost u m w e w') : ∃ A n c,e=.returned (.tuple #[.slice A n c,.int .i64 (placeR u m).2])∧n≤8∧Below w.heap.size w w'∧OkRows w' w.heap.size 26 3 (.slice A n c) n 4096:=by
 obtain⟨v,rfl,hb,h⟩:=h
 rcases h with⟨h1,rfl⟩ | ⟨X,vs,hc,h1,rfl,hX,hr⟩
 ·exact⟨none,0,0,rfl,by omega,hb,OkRows.nil _ _ _ _ _⟩
 ·have hl:=Z0 u m u.graphs.length
  have h8:=(ZM hc).threads
  refine⟨some ⟨X,0,none⟩,u.graphs.length,u.graphs.length,rfl,h8,hb,vs,?_,fun r hr'=>?_⟩
  ·have hbl:w'.heap[X]? = some (.cells vs.toArray 26 (0,0)):=hr.blk
   have hvl:=hr.len
   rw[hl] at hvl
   exact⟨by omega,.inr ⟨X,u.graphs.length,vs.toArray,rfl,hX,hbl,Nat.le_refl _,by simp only[maxLen];omega,by simp[hvl],by rw[Nat.mul_one];exact List.take_of_length_le (by simp;omega)⟩⟩
  ·obtain⟨i,hi⟩:=List.getElem?_of_mem hr'
   have hil:i < u.graphs.length:=by have:=(List.getElem?_eq_some_iff.1 hi).1;rw[hr.len,hl] at this;exact this
   have ho:=hr.own i r _ hi (ZIp u m hil)
   exact⟨_,ZFu hc (List.getElem?_eq_getElem hil),_,ho⟩
theorem ZJj (u:Unit_) (t:Int) (F:List Int) (n:Int) : (aloneR u t F n).1.length≤8193:=by
 by_cases hE:faultE u t F n=0
 ·obtain⟨hea,tn,g,rfl,hg,-,-⟩:=ZB2 hE
  have hmost:=((ZM (ZAL hea).1).graphs g (List.mem_of_getElem? hg)).whole.most
  rcases ZJk hE hg with⟨h,_⟩ | ⟨s,d,_,ha⟩
  ·rw[h];simp
  ·rw[ha.is_,ZAc]
   rcases ZBK.2 _ _ ha.far with⟨h1,_⟩ | ⟨e,h1,h2⟩
   ·omega
   ·have:=h2.lt (N:=2 * g.nodes.length) (fun i d hd=>sp_lt hd)
    omega
 ·rw[ZEr hE];simp
set_option maxRecDepth 100000 in
set_option maxHeartbeats 4000000 in
theorem ZDv (u:Unit_) (cs:List Value) (t:Int) (v:Value) (F:List Int) (n:Int) (w:World) (hT:Tab w) (hu:UnitV (cmap w) cs u) (hok:UOk u) (hF:Ints (cmap w) v F) (hz:F.length * 8≤140737488351232) :
  Calls Tryz.prog 10 #[.agg cs.toArray,.int .i64 t,v,.int .i64 n] w fun e w'=>e=.returned (.bool true)∧Below w.heap.size w w':=by
 have HBG:=Hd_ fun w1 (h:Below w.heap.size w w1)=>ZCw w1 (hT.below h)
 have HPL:=Hd_ fun w1 (h:Below w.heap.size w w1)=>ZA5 u cs true w1 (hT.below h) (hu.mono (ZA h)) hok
 have HRP:=Hd_ fun w1 (h:Below w.heap.size w w1)=>ZCn u cs true w1 (hu.mono (ZA h)) hok
 have HAL:=Hd_ fun w1 (x:Value) (h:Below w.heap.size w w1) (hx:Ints (cmap w1) x F)=>ZEA u cs t x F n w1 (hT.below h) (hu.mono (ZA h)) hok hx
 obtain⟨sv,lv,gv,rfl,-,-,-⟩:=hu
 obtain⟨fA,fc,rfl,-⟩:=id hF
 have hbx:=Blk.new w 25 [sv,lv,gv]
 have hb0:=ZC w (.cells #[sv,lv,gv] 25)
 have HBX:=Hd_ (And.intro hbx hb0)
 have HF:=Hd_ hF
 have HNI:=Hd_ ZFF
 clear hbx hb0 hT hok hF
 go_enter Tryz.func10,Tryz.ntmps10
 go_wp2_with (first
  | (go_at_call 38
     refine(HBG.out _ HBX.out.2).mono ?_
     rintro e w1 ⟨rfl,hb1⟩
     have hx1:=HBX.out.1.below hb1 HBX.out.1.lt
     have hb1':=HBX.out.2.trans (hb1.mono HBX.out.2.size)
     have H1:=Hd_ (And.intro hb1' (And.intro hx1 (HF.out.mono (ZA hb1'))))
     clear hb1 hx1 hb1')
  | (refine ZD rfl ?_))
 refine Stop.intro ?_
 have hb00:=ZC w1 (.cells #[] 3)
 refine ZHj ZIl ZU rfl _ _ rfl ⟨w1.heap.size,0,none⟩ rfl fA F.length fc F rfl (H1.out.2.2.mono (ZA hb00)) (by omega) ?_
 intro A2 c2 w2 hg2 hb2
 have hb12:=hb00.trans (hb2.mono hb00.size)
 have hx2:=H1.out.2.1.below hb12 H1.out.2.1.lt
 have x0:=hx2.cell 0
 have x1:=hx2.cell 1
 have x2:=hx2.cell 2
 have H2:=Hd_ (And.intro (H1.out.1.trans (hb12.mono H1.out.1.size)) (And.intro hx2 (hg2.mono (ZQ _ _ _))))
 clear hb00 hg2 hb2 hb12 hx2
 go_wp2_with (first
  | (go_at_call 35
     refine(HPL.out _ H2.out.1).mono ?_
     rintro e w3 h3
     obtain⟨aA,an,ac,rfl,han,hb3,ho3⟩:=ZIo h3
     have H3:=Hd_ (And.intro hb3 ho3)
     clear h3 hb3 ho3))
 have HBE:Hid (∀ wr,Below w2.heap.size w2 wr→Below w.heap.size w wr):=Hd_ fun wr h=>H2.out.1.trans (h.mono H2.out.1.size)
 go_loopw [12] (fun vI wr=>∃ i:Nat,vI=.int .i64 i∧i≤an∧Hid (OkRows wr w2.heap.size 26 3 (.slice aA an ac) an (4096+2 * i))∧Hid (Below w2.heap.size w2 wr)) (fun vI _=>an - (intOf vI).toNat)
 case atStart=>exact⟨0,rfl,by omega,Hd_ (H3.out.2.mono (by omega)),Hd_ H3.out.1⟩
 case round =>
  clear H3 x0 x1 x2
  obtain⟨i,rfl,hi,HR,HB⟩:=hrel
  by_cases hlt:i < an
  ·obtain⟨g,c,r,k,hv,hbg,hcell,hfz,⟨cur,hh⟩,hkk,hr⟩:=HR.out.at_ hlt
   injection hv with hv _ hvc
   subst hv
   subst hvc
   obtain⟨rA,rc,rfl⟩ : ∃ A c,r=.slice A k c:=by obtain⟨ys,hy⟩:=hr;obtain⟨A,c,h,_⟩:=ZF hy;exact⟨A,c,h⟩
   have hi0:(0:Int)≤i:=by omega
   have hil:(i:Int) < an:=by omega
   have HR0:=Hd_ hr;clear hr
   clear hh
   have hk5:k≤4112:=by omega
   go_wp2
   obtain⟨wo,rfl⟩ : ∃ wo:World,wo=wr:=⟨_,rfl⟩
   go_loopw [13] (fun vK wr=>∃ j:Nat,vK=.int .i64 j∧j≤k∧wr.cell? ⟨g,i,none⟩=some (.slice rA k rc)∧wr.frozen? ⟨g,i,none⟩=false∧Hid (OkRow wr w2.heap.size 3 1 (.slice rA k rc) k)∧Hid (OkRows wr w2.heap.size 26 3 (.slice (some ⟨g,0,none⟩) an ac) an (4096+2 * i))∧Hid (Below w2.heap.size w2 wr)) (fun vK _=>k - (intOf vK).toNat)
   case atStart=>exact⟨0,rfl,by omega,hcell,hfz,HR0,HR,HB⟩
   case round =>
    clear HR0 HR HB hcell hfz
    obtain⟨j,rfl,hj,hcell2,hfz2,HK,HS,HB⟩:=hrel
    by_cases hltj:j < k
    ·obtain⟨h,hc,x,hv2,hbh,hx,hfx,cur2,hh2⟩:=HK.out.at_ hltj
     injection hv2 with hv2 _ hvc2
     subst hv2
     subst hvc2
     have hj0:(0:Int)≤j:=by omega
     have hjl:(j:Int) < k:=by omega
     obtain⟨cur3,hh3⟩:=HS.out.block g rfl
     have hgh:g≠h:=ZBO hh3 hh2 HNI.out
     have hcell3:(wr.setCell ⟨h,j,none⟩ (.int .i64 (-4))).cell? ⟨g,i,none⟩=some (.slice (some ⟨h,0,none⟩) k rc):=(ZGR (heap_setCell_other wr ⟨h,j,none⟩ g _ hgh) i).trans hcell2
     have hfz3:(wr.setCell ⟨h,j,none⟩ (.int .i64 (-4))).frozen? ⟨g,i,none⟩=false:=(ZDn (heap_setCell_other wr ⟨h,j,none⟩ g _ hgh) i).trans hfz2
     have hbb:w2.heap.size≤h:=hbh
     have HR3:=Hd_ (And.intro (HK.out.shape (Shape.setCell wr h j (.int .i64 (-4)))) (And.intro (HS.out.inner (j:=j) (x:=.int .i64 (-4)) HNI.out hh2) (HB.out.setCell (p:=⟨h,j,none⟩) hbb (.int .i64 (-4)))))
     clear hh2 hh3
     go_wp2
     go_roundw
     case rel=>exact⟨j+1,by go_num,by omega,hcell3,hfz3,Hd_ HR3.out.1,Hd_ HR3.out.2.1,Hd_ HR3.out.2.2⟩
     case measure=>simp[intOf];omega
    ·have hKa:=HK.out.shape (Shape.alloc wr (.cells #[.int .i64 1,.int .i64 2] 3))
     have hgl:g < wr.heap.size:=(HS.out.lt g rfl).2
     have hwb:w2.heap.size≤wr.heap.size:=HB.out.size
     go_wp2_with (refine ZD rfl ?_)
     refine Stop.intro ?_
     refine app_sp ZJq rfl _ _ rfl w2.heap.size (.slice rA k rc) k rfl hKa wr.heap.size 0 2 2 [.int .i64 1,.int .i64 2] rfl rfl (ZK _ _ _ _ rfl) (by simp[Value.oneCell']) (by omega) (by decide) (by simp;omega) ?_
     intro v' w' hr' hg' hs'
     obtain⟨A',c',rfl⟩ : ∃ A c,v'=.slice A (k+2) c:=by obtain⟨ys,hy⟩:=hr';obtain⟨A,c,h,_⟩:=ZF hy;exact⟨A,c,h⟩
     have Q5:=((HS.out.far (Shape.alloc wr (.cells #[.int .i64 1,.int .i64 2] 3)) (fun g hg=>heap_alloc_old _ _ (HS.out.lt g hg).2)).grown HNI.out hKa hg' hs')
     have hcg:w'.heap[g]? = wr.heap[g]?:=by
      rw[hg'.block g (by simp;omega) (fun e=>by
       obtain⟨c5,hc5⟩:=hKa.block g e.symm
       obtain⟨c6,hc6⟩:=(HS.out.far (Shape.alloc wr (.cells #[.int .i64 1,.int .i64 2] 3)) (fun g hg=>heap_alloc_old _ _ (HS.out.lt g hg).2)).block g rfl
       exact ZBO hc6 hc5 HNI.out rfl),heap_alloc_old _ _ hgl]
     have hcell4:w'.cell? ⟨g,i,none⟩=some (.slice rA k rc):=(ZGR hcg i).trans hcell2
     have hfz4:w'.frozen? ⟨g,i,none⟩=false:=(ZDn hcg i).trans hfz2
     have hbA:Below w2.heap.size w2 w':=((HB.out).alloc hwb _).grown hg' (by simp;omega) (fun q hq=>(HK.out.lt q hq).1)
     have hbg2:w2.heap.size≤g:=hbg
     have HR4:=Hd_ (And.intro ((Q5.mono (show 4096+2 * i≤4096+2 * (i+1) by omega)).put rfl hlt hr' (show k+2≤4096+2 * (i+1) by omega)) (hbA.setCell (p:=⟨g,i,none⟩) hbg2 (.slice A' (k+2) c')))
     clear hg' hs' hcg hKa Q5 hbA
     go_wp2_with fail
     go_roundw
     case rel=>exact⟨i+1,by go_num,by omega,Hd_ HR4.out.1,Hd_ HR4.out.2⟩
     case measure=>simp[intOf];omega
  ·have hb23:=HBE.out wr HB.out
   have hx3:=H2.out.2.1.below HB.out H2.out.2.1.lt
   have x0:=hx3.cell 0
   have x1:=hx3.cell 1
   have x2:=hx3.cell 2
   have HA3:=Hd_ (HAL.out wr _ hb23 (H2.out.2.2.mono (ZA HB.out)))
   clear hb23 hx3
   go_wp2_with (first
    | (go_at_call 43
       refine(HA3.out).mono ?_
       rintro e w4 ⟨r,rfl,hr,hb4⟩
       obtain⟨rA,rc,rfl,-⟩:=ZF hr
       have hrk:OkRow w4 w2.heap.size 3 1 (.slice rA (aloneR u t F n).1.length rc) (aloneR u t F n).1.length:=⟨_,Zb hr HB.out.size⟩
       have H4:=Hd_ (And.intro hrk (HB.out.trans (hb4.mono HB.out.size)))
       clear hr hb4 hrk))
   have hp9:=ZJj u t F n
   obtain⟨p,hp⟩ : ∃ p,(aloneR u t F n).1.length=p:=⟨_,rfl⟩
   rw[hp] at H4 hp9 ⊢
   clear HR HB HA3 x0 x1 x2 hp hi hlt
   go_loopw [17] (fun vI wr=>∃ i:Nat,vI=.int .i64 i∧i≤p∧Hid (OkRow wr w2.heap.size 3 1 (.slice rA p rc) p)∧Hid (Below w2.heap.size w2 wr)) (fun vI _=>p - (intOf vI).toNat)
   case atStart=>exact⟨0,rfl,by omega,Hd_ H4.out.1,Hd_ H4.out.2⟩
   case round =>
    clear H4
    obtain⟨i,rfl,hi,HR,HB⟩:=hrel
    by_cases hlt:i < p
    ·obtain⟨h,hc,x,hv2,hbh,hx,hfx,cur2,hh2⟩:=HR.out.at_ hlt
     injection hv2 with hv2 _ hvc2
     subst hv2
     subst hvc2
     have hi0:(0:Int)≤i:=by omega
     have hil:(i:Int) < p:=by omega
     have hbb:w2.heap.size≤h:=hbh
     have HR3:=Hd_ (And.intro (HR.out.shape (Shape.setCell wr h i (.int .i64 (-4)))) (HB.out.setCell (p:=⟨h,i,none⟩) hbb (.int .i64 (-4))))
     clear hh2
     go_wp2
     go_roundw
     case rel=>exact⟨i+1,by go_num,by omega,Hd_ HR3.out.1,Hd_ HR3.out.2⟩
     case measure=>simp[intOf];omega
    ·have hb25:=HBE.out wr HB.out
     have hx5:=H2.out.2.1.below HB.out H2.out.2.1.lt
     have x0:=hx5.cell 0
     have x1:=hx5.cell 1
     have x2:=hx5.cell 2
     have HP5:=Hd_ (HPL.out wr hb25)
     have HG5:=Hd_ (H2.out.2.2.mono (ZA HB.out))
     have HF5:=Hd_ (HF.out.mono (ZA hb25))
     have HX5:=Hd_ (And.intro hx5 hb25)
     clear hx5 hb25 HR HB
     obtain⟨L,hL⟩ : ∃ L,(placeR u true).1=L:=⟨_,rfl⟩
     have HL:=Hd_ hL
     clear hL
     go_wp2_with (first
      | (go_at_call 35
         refine(HP5.out).mono ?_
         rintro e w6 h6
         obtain⟨bv,rfl,hb6,ha6⟩:=ZHJ h6
         rw[HL.out] at ha6
         obtain⟨bA,bc,rfl,-⟩:=id ha6
         have hx6:=HX5.out.1.below hb6 HX5.out.1.lt
         have y0:=hx6.cell 0
         have y1:=hx6.cell 1
         have y2:=hx6.cell 2
         have hb6':=HX5.out.2.trans (hb6.mono HX5.out.2.size)
         have H6:=Hd_ (And.intro hb6' (And.intro ha6 (And.intro (HG5.out.mono (ZA hb6)) (HF5.out.mono (ZA hb6)))))
         have HR6:=Hd_ (HRP.out w6 hb6')
         clear h6 hb6 ha6 hx6 hb6' x0 x1 x2)
      | (go_at_call 36
         refine(HR6.out).mono ?_
         rintro e w7 ⟨dv,rfl,ha7,hb7⟩
         rw[HL.out] at ha7
         obtain⟨dA,dc,rfl,-⟩:=id ha7
         have H7:=Hd_ (And.intro (H6.out.1.trans (hb7.mono H6.out.1.size)) (And.intro (H6.out.2.2.1.mono (ZA hb7)) (H6.out.2.2.2.mono (ZA hb7))))
         have HLS:=Hd_ (ZA8 _ _ L w7 (ZBa (H6.out.2.1.mono (ZA hb7))) (ha7.mono (ZQ _ _ _)))
         clear ha7 hb7 y0 y1 y2)
      | (go_at_call 37
         refine(HLS.out).mono ?_
         rintro e w8 ⟨rfl,n8,hw8⟩
         have hb8:Below w7.heap.size w7 w8:=by rw[hw8];exact ZJ _ _
         have hin:=ZCr _ _ F F w8 (H7.out.2.1.mono (ZA hb8)) (H7.out.2.2.mono (ZA hb8))
         rw[decide_eq_true (rfl:F=F)] at hin
         have HIN:=Hd_ hin
         have H8:=Hd_ (H7.out.1.trans (hb8.mono H7.out.1.size))
         clear hw8 hb8 hin)
      | (go_at_call 45
         refine(HIN.out).mono ?_
         rintro e w9 ⟨rfl,n9,hw9⟩
         have hb9:Below w8.heap.size w8 w9:=by rw[hw9];exact ZJ _ _
         have H9:=Hd_ (H8.out.trans (hb9.mono H8.out.size))
         clear hw9 hb9))
     go_ret
     exact⟨rfl,H9.out⟩
end Go.Proofs.YtffgnjgphkdodaaGreatDoor
namespace Go.Proofs.YtffgnjgphkdodaaGreatDoor
open Go Go.RowKit Go.ChangeShapes Go.WideShapes Go.Deep
section
variable {H:Type} {enc:TypeId × Value→H} {w:World} {spare:Nat→Bool} {held:Bool}
def intO1 (_:CM) (cs:List Value) (n:Int) : Prop:=cs=[.int .i64 n]
theorem ZH0 {n:Nat} {cs:List Value} {y:DataW H × List MemPlace} (h:DataW.trod enc Tryz.prog w 0 spare held n 3 cs=some y) : ∃ d,intO1 (cmap w) cs d∧i64 d:=by
 obtain⟨s1,e1,_,w1⟩:=DataW.trod_int Tryz.underlying3 h
 exact⟨s1,e1,bounds_i64 w1⟩
end
end Go.Proofs.YtffgnjgphkdodaaGreatDoor
namespace Go.Proofs.YtffgnjgphkdodaaGreatDoor
open Go Go.RowKit Go.ChangeShapes Go.WideShapes Go.ChangeAt Go.Deep
theorem ZCk {H:Type} {P:Program} {p:Nat→Bool} {t:TypeId} {ts:List TypeId} {d:DataW H} {ds:List (DataW H)} (h:(DataW.weightsEach P (t :: ts) (d :: ds)).all p=true) : (DataW.weightsEach P ts ds).all p=true:=by
 rw[DataW.weightsEach,List.all_append,Bool.and_eq_true] at h
 exact h.2
section
variable {H:Type} {enc:TypeId × Value→H} {w:World} {spare:Nat→Bool} {held:Bool}
theorem b_int : Tryz.prog.bytesOf 3 = 8:=by kernel_rfl
set_option maxRecDepth 100000 in
theorem ZGj {base:Nat} {r:Reach} {v:Value} {d:DataW H} {p:List MemPlace} (hv:Value.okWide Tryz.prog w r base 26 v) (h:DataW.Trod enc Tryz.prog w 0 spare held 26 v d p)
  (hw:(d.weights Tryz.prog 26).all (·≤reachBytes)=true) : ∃ l,Ints (cmap w) v l∧(∀ x∈l,i64 x)∧l.length * 8≤140737488351232:=by
 obtain⟨a,n,c,rfl⟩:=okWide_slice Tryz.underlying26 hv
 obtain⟨fuel,hf⟩:=h
 have hf':DataW.trod enc Tryz.prog w 0 spare held fuel 26 [.slice a n c]=some (d,p):=hf
 obtain⟨v0,l,e0,h0,hok,hz⟩:=ZCE intO1 i64 Tryz.underlying26 ZEo b_int (by decide) (fun n cs' y hy _=>ZH0 hy) hf' hw
 injection e0 with e0 _
 subst e0
 refine⟨l,h0.imp' fun m b o x hx=>?_,hok,hz⟩
 obtain⟨cs,rfl,h2⟩:=hx
 exact h2 0 _ rfl
end
end Go.Proofs.YtffgnjgphkdodaaGreatDoor
