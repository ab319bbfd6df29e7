import Derived.Test.YtffgnjgphkdodaaDoorD29
namespace Go.Proofs.YtffgnjgphkdodaaDoor
open Go Go.RowKit
theorem ZGx {u:Unit_} {t:Int} {F:List Int} {n:Int} (h:(needR u t F n).2=0) : faultE u t F n=0∧needR u t F n=(!emptyR u t (withoutL F n),0):=by
 by_cases hE:faultE u t F n=0
 ·refine⟨hE,?_⟩
  unfold needR
  rw[if_pos hE]
 ·unfold needR at h
  rw[if_neg hE] at h
  exact absurd h hE
theorem ZHn {u:Unit_} {t:Int} {F:List Int} {n:Int} (h:¬ (needR u t F n).2=0) : (needR u t F n).1=false:=by
 by_cases hE:faultE u t F n=0
 ·unfold needR at h
  rw[if_pos hE] at h
  exact absurd rfl h
 ·unfold needR
  rw[if_neg hE]
set_option maxRecDepth 100000 in
set_option maxHeartbeats 1000000 in
theorem ZCp (u:Unit_) (cs:List Value) (t:Int) (v:Value) (F:List Int) (n:Int) (w:World) (hT:Tab w) (hu:UnitV (cmap w) cs u) (hok:UOk u) (hF:Ints (cmap w) v F) :
  Calls Tryd.prog 5 #[.agg cs.toArray,.int .i64 t,v,.int .i64 n] w fun e w'=>e=.returned (.bool true)∧Below w.heap.size w w':=by
 have HBG:=Hd_ fun w1 (h:Below w.heap.size w w1)=>Z7 w1 (hT.below h)
 have HND:=Hd_ fun w1 (h:Below w.heap.size w w1)=>Z6 u cs t v F n w1 (hT.below h) (hu.mono (ZA h)) hok (hF.mono (ZA h))
 have HWO:=Hd_ fun w1 (h:Below w.heap.size w w1) (hl:F.length≤4294967295)=>ZDr v F n w1 (hF.mono (ZA h)) hl
 have HLO:=Hd_ fun w1 (x:Value) (h:Below w.heap.size w w1) (hx:Ints (cmap w1) x (withoutL F n))=>Zx u cs t x (withoutL F n) w1 (hT.below h) (hu.mono (ZA h)) hok hx
 obtain⟨sv,lv,gv,rfl,-,-,-⟩:=hu
 obtain⟨fA,fc,rfl,-⟩:=id hF
 have hbx:=Blk.new w 25 [sv,lv,gv]
 have hb0:=ZB w (.cells #[sv,lv,gv] 25)
 have HBX:=Hd_ (And.intro hbx hb0)
 clear hbx hb0 hT hok hF
 by_cases hg:(needR u t F n).2=0
 ·obtain⟨hE,hn⟩:=ZGx hg
  obtain⟨hea,tn,g,rfl,hgr,hfb,-⟩:=Zy hE
  have hc:=(Zw hea).1
  have hw:=((ZK hc).graphs g (List.mem_of_getElem? hgr)).whole
  have hmost:=hw.most
  have hll:F.length≤4294967295:=by
   rcases ZAu F (-1) (by omega) hfb with h | h
   ·omega
   ·rw[h];simp
  have hlr:=ZAA hc hgr (ZBD hfb (Z1 F n))
  have hem:emptyR u (tn:Int) (withoutL F n) = !decide (0 < (loadsR u (tn:Int) (withoutL F n)).1.length):=by
   unfold emptyR
   cases (loadsR u (tn:Int) (withoutL F n)).1 with
   | nil=>rfl
   | cons a b=>rw[decide_eq_true (by simp only[List.length_cons];omega)];rfl
  obtain⟨L,hL⟩ : ∃ L,(loadsR u (tn:Int) (withoutL F n)).1=L:=⟨_,rfl⟩
  have he0:(loadsR u (tn:Int) (withoutL F n)).2=0:=by rw[hlr]
  unfold LoadsPost at HLO
  rw[hL] at hem
  have HLE:=Hd_ (And.intro hL he0)
  rw[hn,hem] at HND
  have HWN:=Hd_ fun w1 h=>HWO.out w1 h hll
  have hbb:(!(!decide (0 < L.length)))=decide (0 < L.length):=by simp
  rw[hbb] at HND
  clear hg hE hn hea hgr hfb hc hw hmost hll hlr hem hL he0 HWO hbb
  go_enter Tryd.func5,Tryd.ntmps5
  go_wp2_with (first
   | (go_at_call 7
      refine(HBG.out _ HBX.out.2).mono ?_
      rintro e w1 ⟨rfl,hb1⟩
      have hx1:=HBX.out.1.below hb1 HBX.out.1.lt
      have x0:=hx1.cell 0
      have x1:=hx1.cell 1
      have x2:=hx1.cell 2
      have H1:=Hd_ (And.intro (HBX.out.2.trans (hb1.mono HBX.out.2.size)) hx1)
      clear hb1 hx1)
   | (go_at_call 11
      refine(HND.out _ H1.out.1).mono ?_
      rintro e w2 ⟨rfl,hb2⟩
      have hx2:=H1.out.2.below hb2 H1.out.2.lt
      have x0:=hx2.cell 0
      have x1:=hx2.cell 1
      have x2:=hx2.cell 2
      have H2:=Hd_ (And.intro (H1.out.1.trans (hb2.mono H1.out.1.size)) hx2)
      clear hb2 hx2))
  go_region_with (first
   | (go_at_call 15
      first
       | refine(HWN.out _ H2.out.1).mono ?_
       | refine(HWN.out _ (ZX 1 H2.out.1)).mono ?_
       | refine(HWN.out _ (ZX 2 H2.out.1)).mono ?_
       | refine(HWN.out _ (ZX 3 H2.out.1)).mono ?_
      rintro e w3 ⟨xv,rfl,hx3,hb3'⟩
      have hb3:Below w2.heap.size w2 w3:=by
       first
        | exact hb3'
        | exact(ZF w2 1).trans hb3'
        | exact(ZF w2 2).trans hb3'
        | exact(ZF w2 3).trans hb3'
      clear hb3'
      have hxi:Ints (cmap w3) xv (withoutL F n):=Zv hx3
      obtain⟨xA,xc,rfl,-⟩:=id hxi
      have hz3:=H2.out.2.below hb3 H2.out.2.lt
      have x0:=hz3.cell 0
      have x1:=hz3.cell 1
      have x2:=hz3.cell 2
      have H3:=Hd_ (And.intro (H2.out.1.trans (hb3.mono H2.out.1.size)) hxi)
      clear hb3 hx3 hxi hz3)
   | (go_at_call 14
      first
       | refine(HLO.out _ _ H3.out.1 H3.out.2).mono ?_
       | refine(HLO.out _ _ (ZX 1 H3.out.1) (H3.out.2.mono (ZA (ZF _ 1)))).mono ?_
       | refine(HLO.out _ _ (ZX 2 H3.out.1) (H3.out.2.mono (ZA (ZF _ 2)))).mono ?_
      rintro e w4 ⟨r,rfl,hr,hb4'⟩
      have hb4:Below w3.heap.size w3 w4:=by
       first
        | exact hb4'
        | exact(ZF w3 1).trans hb4'
        | exact(ZF w3 2).trans hb4'
      clear hb4'
      rw[HLE.out.1] at hr
      rw[HLE.out.2]
      obtain⟨rA,rc,rfl,-⟩:=ZE hr
      have H4:=Hd_ (H3.out.1.trans (hb4.mono H3.out.1.size))
      clear hb4 hr))
  all_goals
   go_wp2
   go_ret
   refine⟨?_,by first | exact H4.out | exact ZX _ H4.out⟩
   try simp
 ·have hn:=ZHn hg
  obtain⟨er,her⟩ : ∃ er,(needR u t F n).2=er:=⟨_,rfl⟩
  rw[hn] at HND
  rw[her] at HND hg
  have d1:(er != 0)=true:=by simp[hg]
  clear hg hn her
  go_enter Tryd.func5,Tryd.ntmps5
  go_wp2_with (first
   | (go_at_call 7
      refine(HBG.out _ HBX.out.2).mono ?_
      rintro e w1 ⟨rfl,hb1⟩
      have hx1:=HBX.out.1.below hb1 HBX.out.1.lt
      have x0:=hx1.cell 0
      have x1:=hx1.cell 1
      have x2:=hx1.cell 2
      have H1:=Hd_ (HBX.out.2.trans (hb1.mono HBX.out.2.size))
      clear hb1 hx1)
   | (go_at_call 11
      refine(HND.out _ H1.out).mono ?_
      rintro e w2 ⟨rfl,hb2⟩
      have H2:=Hd_ (H1.out.trans (hb2.mono H1.out.size))
      clear hb2))
  go_ret
  exact⟨rfl,H2.out⟩
end Go.Proofs.YtffgnjgphkdodaaDoor
