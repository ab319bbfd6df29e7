import Derived.Test.YtffgnjgphkdodaaDoorD20
namespace Go.Proofs.YtffgnjgphkdodaaDoor
open Go Go.RowKit
def FenAll (u:Unit_) (L:List (List Int)) : Prop:=∀ (t:Nat) (g:Graph) (l:List Int),u.graphs[t]? = some g→L[t]? = some l→fenB g.nodes.length (-1) l=true
def NoneOpen (u:Unit_) (L:List (List Int)) : Prop:=∀ (t:Nat) (l:List Int),L[t]? = some l→(loadsR u (t:Int) l).1=[]
open Classical in
noncomputable def safeR (u:Unit_) (L:List (List Int)) : Bool × Int :=
 if checkF u=none then if L.length=u.graphs.length∧FenAll u L then (decide (NoneOpen u L),0) else (false,110) else (false,60)
theorem ZHZ {u:Unit_} {L:List (List Int)} (h:checkF u≠none) : safeR u L=(false,60):=by unfold safeR;rw[if_neg h]
theorem ZDE {u:Unit_} {L:List (List Int)} (h:checkF u=none) (h2:¬ (L.length=u.graphs.length∧FenAll u L)) : safeR u L=(false,110):=by unfold safeR;rw[if_pos h,if_neg h2]
theorem ZGj {u:Unit_} {L:List (List Int)} (h:checkF u=none) (h2:L.length=u.graphs.length∧FenAll u L) (h3:¬ NoneOpen u L) : safeR u L=(false,0):=by unfold safeR;rw[if_pos h,if_pos h2];simp[h3]
theorem ZD3 {u:Unit_} {L:List (List Int)} (h:checkF u=none) (h2:L.length=u.graphs.length∧FenAll u L) (h3:NoneOpen u L) : safeR u L=(true,0):=by unfold safeR;rw[if_pos h,if_pos h2];simp[h3]
def SafePost (u:Unit_) (L:List (List Int)) (w:World) (e:Ending) (w':World) : Prop:=e=.returned (.tuple #[.bool (safeR u L).1,.int .i64 (safeR u L).2])∧Below w.heap.size w w'
set_option maxRecDepth 100000 in
set_option maxHeartbeats 4000000 in
theorem ZGi (u:Unit_) (cs:List Value) (v:Value) (L:List (List Int)) (w:World) (hT:Tab w) (hu:UnitV (cmap w) cs u) (hok:UOk u) (hL:Ints2 (cmap w) v L) :
  Calls Tryd.prog 16 #[.agg cs.toArray,v] w (SafePost u L w):=by
 have HC:=Hd_ fun w1 (h:Below w.heap.size w w1)=>Zz u cs w1 (hu.mono (ZA h)) hok
 have HLO:=Hd_ fun w1 (h:Below w.heap.size w w1) (t:Int) (fv:Value) (F:List Int) (hF:Ints (cmap w) fv F)=>Zx u cs t fv F w1 (hT.below h) (hu.mono (ZA h)) hok (hF.mono (ZA h))
 obtain⟨sv,lv,gv,rfl,-,-,hgs⟩:=hu
 obtain⟨gA,gc,rfl,-⟩:=id hgs
 have hgl:=hgs.len.2.2
 obtain⟨lA,lc,rfl,-⟩:=id hL
 have hll:=hL.len.2.2
 have hbx:=Blk.new w 25 [sv,lv,.slice gA u.graphs.length gc]
 have hb0:=ZB w (.cells #[sv,lv,.slice gA u.graphs.length gc] 25)
 have HBX:=Hd_ (And.intro hbx hb0)
 have HG:=Hd_ hgs
 have HL:=Hd_ hL
 clear hbx hb0 hgs hT hL
 cases hc:checkF u with
 | some r =>
  obtain⟨r1,r2⟩:=r
  have HS:=Hd_ (ZHZ (u:=u) (L:=L) (by rw[hc];simp))
  rw[hc] at HC
  clear hc
  go_enter Tryd.func16,Tryd.ntmps16
  go_wp2_with (first
   | (go_at_call 22
      refine(HC.out _ HBX.out.2).mono ?_
      rintro e w1 ⟨rfl,hb1⟩
      have HB1:=Hd_ (HBX.out.2.trans (hb1.mono HBX.out.2.size))
      simp only[checkV]
      clear hb1))
  go_ret2
  exact⟨by rw[HS.out];rfl,HB1.out⟩
 | none =>
  rw[hc] at HC
  have HCC:=Hd_ hc
  clear hc
  by_cases hlen:L.length=u.graphs.length
  ·have d0:((L.length:Int) != (u.graphs.length:Int))=false:=by simp[hlen]
   have HLE:=Hd_ hlen
   rw[hlen] at d0
   have d0':(u.graphs.length != u.graphs.length)=false:=by simp
   obtain⟨G,hG⟩ : ∃ G,u.graphs.length=G:=⟨_,rfl⟩
   have hlen2:L.length=G:=by rw[hlen,hG]
   rw[hG] at d0 hgl HBX HG HC HLO
   clear d0'
   rw[hlen2] at hll HL
   rw[hlen2,hG]
   have HLG:=Hd_ (And.intro hlen2 hG)
   clear hlen hlen2 hG HLE
   go_enter Tryd.func16,Tryd.ntmps16
   go_wp2_with (first
    | (go_at_call 22
       refine(HC.out _ HBX.out.2).mono ?_
       rintro e w1 ⟨rfl,hb1⟩
       have HU1:=Hd_ (HBX.out.1.below hb1 HBX.out.1.lt)
       have c2:=HU1.out.cell 2
       have HB1:=Hd_ (HBX.out.2.trans (hb1.mono HBX.out.2.size))
       simp only[checkV]
       clear hb1))
   go_loopw [32] (fun v32 wr=>∃ k:Nat,v32=.int .i64 k∧k≤G∧Hid (∀ (t:Nat) (g:Graph) (l:List Int),t < k→u.graphs[t]? = some g→L[t]? = some l→fenB g.nodes.length (-1) l=true)∧Hid (Below w1.heap.size w1 wr)) (fun v32 _=>G - (intOf v32).toNat)
   case atStart=>exact⟨0,rfl,Nat.zero_le _,Hd_ (fun t _ _ h=>by omega),Hd_ (Below.refl _ _)⟩
   case round =>
    obtain⟨k,rfl,hk,HF,HB⟩:=hrel
    have hbw:Below w.heap.size w wr:=HB1.out.trans (HB.out.mono HB1.out.size)
    have hur:=HU1.out.below HB.out HU1.out.lt
    by_cases hlt:k < G
    ·obtain⟨g,hg⟩ : ∃ g,u.graphs[k]? = some g:=⟨u.graphs[k]'(by rw[HLG.out.2];exact hlt),List.getElem?_eq_getElem _⟩
     obtain⟨l,hl⟩ : ∃ l,L[k]? = some l:=⟨L[k]'(by rw[HLG.out.1];exact hlt),List.getElem?_eq_getElem _⟩
     obtain⟨gb,go,rfl,gcs,hgv,hgc⟩:=HG.out.at_ hg
     obtain⟨lb,lo,rfl,fv,hfc,hfi⟩:=HL.out.at_ hl
     rw[Nat.mul_one] at hfc
     have c2r:=hur.cell 2
     have hfc1:wr.cell? ⟨lb,lo+k,none⟩=some fv:=ZA hbw _ _ _ hfc
     obtain⟨nv,rfl,hnv⟩:=id hgv
     have HLD:Hid (∀ j x,([.string g.name,.int .i64 g.locals,.int .i64 g.slots,nv] : List Value)[j]? = some x→wr.cell? ⟨gb,go+k * 4+j,none⟩=some x):=Hd_ fun j x hj=>ZA hbw _ _ _ (hgc j x hj)
     obtain⟨fA,fc,rfl,-⟩:=id hfi
     have HRT:=Hd_ (ZCm g _ _ l wr (hgv.mono (ZA hbw)) (hfi.mono (ZA hbw)))
     have k0:(0:Int)≤k:=by omega
     have kG:(k:Int) < G:=by omega
     have HGL:=Hd_ (And.intro hg (And.intro hl (And.intro hbw hur)))
     clear hg hl hgv hgc hfc hfi hnv hur hbw
     cases hfb:fenB g.nodes.length (-1) l with
     | false =>
      have HFB:=Hd_ hfb
      rw[hfb] at HRT
      clear hfb
      go_wp2_with (first
       | (refine ZC rfl 38 _ rfl gb (go+k * 4) rfl _ _ HLD.out Tryd.underlying38 rfl (by kernel_rfl) ?_)
       | (go_at_call 38
          refine(HRT.out).mono ?_
          rintro e w2 ⟨rfl,hb2⟩
          have HB2:=Hd_ (HGL.out.2.2.1.trans (hb2.mono HGL.out.2.2.1.size))
          clear hb2))
      go_ret2
      have hs:=ZDE (u:=u) (L:=L) HCC.out (by rintro⟨_,h⟩;have:=h k g l HGL.out.1 HGL.out.2.1;rw[HFB.out] at this;cases this)
      exact⟨by rw[hs];rfl,HB2.out⟩
     | true =>
      have HFB:=Hd_ hfb
      rw[hfb] at HRT
      clear hfb
      go_wp2_with (first
       | (refine ZC rfl 38 _ rfl gb (go+k * 4) rfl _ _ HLD.out Tryd.underlying38 rfl (by kernel_rfl) ?_)
       | (go_at_call 38
          refine(HRT.out).mono ?_
          rintro e w2 ⟨rfl,hb2⟩
          have HB2:=Hd_ (HB.out.trans (hb2.mono HB.out.size))
          clear hb2))
      go_roundw
      case rel=>exact⟨k+1,by go_num,hlt,Hd_ (fun t g' l' ht hg' hl'=>by
       by_cases e:t=k
       ·subst e
        have h1:=HGL.out.1
        have h2:=HGL.out.2.1
        rw[h1] at hg';rw[h2] at hl'
        injection hg' with hg';injection hl' with hl'
        subst hg' hl'
        exact HFB.out
       ·exact HF.out t g' l' (by omega) hg' hl'),HB2⟩
      case measure=>simp[intOf];omega
    ·obtain rfl:k=G:=by omega
     have hfa:L.length=u.graphs.length∧FenAll u L:=⟨by rw[HLG.out.1,HLG.out.2],fun t g l hg hl=>HF.out t g l (by have:=(List.getElem?_eq_some_iff.1 hl).1;rw[HLG.out.1] at this;exact this) hg hl⟩
     have HFA:=Hd_ hfa
     have HUR:=Hd_ (And.intro hbw hur)
     clear hfa hbw hur HF
     go_wp2
     obtain⟨wo,rfl⟩ : ∃ wo:World,wo=wr:=⟨_,rfl⟩
     go_loopw [48] (fun v48 wr=>∃ j:Nat,v48=.int .i64 j∧j≤k∧Hid (∀ (t:Nat) (l:List Int),t < j→L[t]? = some l→(loadsR u (t:Int) l).1=[])∧Hid (Below wo.heap.size wo wr)) (fun v48 _=>k - (intOf v48).toNat)
     case atStart=>exact⟨0,rfl,Nat.zero_le _,Hd_ (fun t _ h=>by omega),Hd_ (Below.refl _ _)⟩
     case round =>
      obtain⟨j,rfl,hj,HF,HB⟩:=hrel
      have hbw:Below w.heap.size w wr:=HUR.out.1.trans (HB.out.mono HUR.out.1.size)
      have hur:=HUR.out.2.below HB.out HUR.out.2.lt
      by_cases hlt:j < k
      ·obtain⟨l,hl⟩ : ∃ l,L[j]? = some l:=⟨L[j]'(by rw[HLG.out.1];exact hlt),List.getElem?_eq_getElem _⟩
       obtain⟨lb,lo,rfl,fv,hfc,hfi⟩:=HL.out.at_ hl
       rw[Nat.mul_one] at hfc
       have d0:=hur.cell 0
       have d1:=hur.cell 1
       have d2:=hur.cell 2
       have hfc1:wr.cell? ⟨lb,lo+j,none⟩=some fv:=ZA hbw _ _ _ hfc
       obtain⟨fA,fc,rfl,-⟩:=id hfi
       have HLR:=Hd_ (HLO.out wr hbw (j:Int) _ l hfi)
       have j0:(0:Int)≤j:=by omega
       have jk:(j:Int) < k:=by omega
       have HGL:=Hd_ (And.intro hl (And.intro hbw hur))
       clear hl hfc hfi hur hbw
       by_cases hno:(loadsR u (j:Int) l).1=[]
       ·have HNO:=Hd_ hno
        clear hno
        go_wp2_with (first
         | (go_at_call 14
            refine(HLR.out).mono ?_
            rintro e w2 ⟨r,rfl,hr,hb2⟩
            rw[HNO.out] at hr
            obtain⟨rA,rc,rfl,-⟩:=ZE hr
            simp only[List.length_nil]
            have HB2:=Hd_ (HB.out.trans (hb2.mono HB.out.size))
            clear hb2 hr))
        go_roundw
        case rel=>exact⟨j+1,by go_num,hlt,Hd_ (fun t l' ht hl'=>by
         by_cases e:t=j
         ·subst e
          have h2:=HGL.out.1
          rw[h2] at hl'
          injection hl' with hl'
          subst hl'
          exact HNO.out
         ·exact HF.out t l' (by omega) hl'),HB2⟩
        case measure=>simp[intOf];omega
       ·have hpos:0 < (loadsR u (j:Int) l).1.length:=List.length_pos_iff.2 hno
        have HNO:=Hd_ hno
        clear hno
        obtain⟨n,hn⟩ : ∃ n,(loadsR u (j:Int) l).1.length=n:=⟨_,rfl⟩
        rw[hn] at hpos
        have HN:=Hd_ hn
        have hn0:(0:Int) < n:=by omega
        clear hn
        go_wp2_with (first
         | (go_at_call 14
            refine(HLR.out).mono ?_
            rintro e w2 ⟨r,rfl,hr,hb2⟩
            rw[HN.out] at hr
            obtain⟨rA,rc,rfl,-⟩:=ZE hr
            have HB2:=Hd_ (HGL.out.2.1.trans (hb2.mono HGL.out.2.1.size))
            clear hb2 hr))
        go_ret2
        have hs:=ZGj (u:=u) (L:=L) HCC.out HFA.out (fun h=>HNO.out (h j l HGL.out.1))
        exact⟨by rw[hs];rfl,HB2.out⟩
      ·obtain rfl:j=k:=by omega
       have hs:=ZD3 (u:=u) (L:=L) HCC.out HFA.out (fun t l hl=>HF.out t l (by have:=(List.getElem?_eq_some_iff.1 hl).1;rw[HLG.out.1] at this;exact this) hl)
       have HS:=Hd_ hs
       clear hs
       go_wp2
       go_ret2
       exact⟨by rw[HS.out];rfl,hbw⟩
  ·have d0:((L.length:Int) != (u.graphs.length:Int))=true:=by simp;omega
   have d1:(L.length != u.graphs.length)=true:=by simp;omega
   have HS:=Hd_ (ZDE (u:=u) (L:=L) HCC.out (fun h=>hlen h.1))
   clear hlen
   go_enter Tryd.func16,Tryd.ntmps16
   go_wp2_with (first
    | (go_at_call 22
       refine(HC.out _ HBX.out.2).mono ?_
       rintro e w1 ⟨rfl,hb1⟩
       have c2:=(HBX.out.1.below hb1 HBX.out.1.lt).cell 2
       have HB1:=Hd_ (HBX.out.2.trans (hb1.mono HBX.out.2.size))
       simp only[checkV]
       clear hb1))
   go_ret2
   exact⟨by rw[HS.out];rfl,HB1.out⟩
end Go.Proofs.YtffgnjgphkdodaaDoor
