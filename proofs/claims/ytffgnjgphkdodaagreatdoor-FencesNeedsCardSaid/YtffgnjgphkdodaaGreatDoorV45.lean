import Derived.Test.YtffgnjgphkdodaaGreatDoorV32
import Derived.Test.YtffgnjgphkdodaaGreatDoorV44
namespace Go.Proofs.YtffgnjgphkdodaaGreatDoor
open Go Go.RowKit
set_option maxRecDepth 100000 in
set_option maxHeartbeats 1000000 in
theorem ZCG (u:Unit_) (cs:List Value) (t:Int) (v:Value) (F:List Int) (n:Int) (w:World) (hT:Tab w) (hu:UnitV (cmap w) cs u) (hok:UOk u) (hF:Ints (cmap w) v F) :
  Calls Tryz.prog 9 #[.agg cs.toArray,.int .i64 t,v,.int .i64 n] w fun e w'=>e=.returned (.bool true)∧Below w.heap.size w w':=by
 have HBG:=Hd_ fun w1 (h:Below w.heap.size w w1)=>ZFn w1 (hT.below h)
 have HN1:=Hd_ fun w1 (h:Below w.heap.size w w1)=>ZCW u cs t v F n w1 (hT.below h) (hu.mono (ZA h)) hok (hF.mono (ZA h))
 have HN2:=Hd_ fun w1 (h:Below w.heap.size w w1)=>ZEj u cs t v F n w1 (hu.mono (ZA h)) hok (hF.mono (ZA h))
 have HA1:=Hd_ fun w1 (h:Below w.heap.size w w1)=>ZDn u cs t v F n w1 (hT.below h) (hu.mono (ZA h)) hok (hF.mono (ZA h))
 have HA2:=Hd_ fun w1 (h:Below w.heap.size w w1)=>ZFL u cs t v F n w1 (hu.mono (ZA h)) hok (hF.mono (ZA h))
 obtain⟨sv,lv,gv,rfl,-,-,-⟩:=hu
 obtain⟨fA,fc,rfl,-⟩:=id hF
 have hbx:=Blk.new w 25 [sv,lv,gv]
 have hb0:=ZC w (.cells #[sv,lv,gv] 25)
 have HBX:=Hd_ (And.intro hbx hb0)
 clear hbx hb0 hT hok hF
 obtain⟨nr,hnr⟩ : ∃ o,needR u t F n=o:=⟨_,rfl⟩
 obtain⟨ar,har⟩ : ∃ o,aloneR u t F n=o:=⟨_,rfl⟩
 obtain⟨nb,ne⟩:=nr
 obtain⟨al,ab,ae⟩:=ar
 simp only[hnr] at HN1 HN2
 unfold AlonePost at HA1 HA2
 simp only[har] at HA1 HA2
 have q1:(ne == ne)=true:=by simp
 have q2:(ae == ae)=true:=by simp
 have q3:(nb == nb)=true:=by simp
 have q4:(ab == ab)=true:=by simp
 clear hnr har
 go_enter Tryz.func9,Tryz.ntmps9
 go_wp2_with (first
  | (go_at_call 41
     refine(HN1.out _ HBX.out.2).mono ?_
     rintro e w1 ⟨rfl,hb1⟩
     have hx1:=HBX.out.1.below hb1 HBX.out.1.lt
     have x0:=hx1.cell 0
     have x1:=hx1.cell 1
     have x2:=hx1.cell 2
     have H1:=Hd_ (And.intro (HBX.out.2.trans (hb1.mono HBX.out.2.size)) hx1)
     clear hb1 hx1)
  | (go_at_call 42
     refine(HN2.out _ H1.out.1).mono ?_
     rintro e w2 ⟨rfl,hb2⟩
     have hx2:=H1.out.2.below hb2 H1.out.2.lt
     have x0:=hx2.cell 0
     have x1:=hx2.cell 1
     have x2:=hx2.cell 2
     have H2:=Hd_ (And.intro (H1.out.1.trans (hb2.mono H1.out.1.size)) hx2)
     clear hb2 hx2)
  | (go_at_call 43
     refine(HA1.out _ H2.out.1).mono ?_
     rintro e w3 ⟨r,rfl,hr,hb3⟩
     have hri:Ints (cmap w3) r al:=Zj hr
     obtain⟨rA,rc,rfl,-⟩:=ZF hr
     have hx3:=H2.out.2.below hb3 H2.out.2.lt
     have x0:=hx3.cell 0
     have x1:=hx3.cell 1
     have x2:=hx3.cell 2
     have H3:=Hd_ (And.intro (H2.out.1.trans (hb3.mono H2.out.1.size)) hri)
     clear hb3 hx3 hr hri)
  | (go_at_call 44
     refine(HA2.out _ H3.out.1).mono ?_
     rintro e w4 ⟨r,rfl,hr,hb4⟩
     have hri:Ints (cmap w4) r al:=Zj hr
     obtain⟨sA,sc,rfl,-⟩:=ZF hr
     have H4:=Hd_ (H3.out.1.trans (hb4.mono H3.out.1.size))
     have hin:=ZCX _ _ al al w4 (H3.out.2.mono (ZA hb4)) hri
     rw[decide_eq_true (rfl:al=al)] at hin
     have HIN:=Hd_ hin
     clear hb4 hr hri hin)
  | (go_at_call 45
     refine(HIN.out).mono ?_
     rintro e w5 ⟨rfl,n5,hw5⟩
     have hb5:Below w4.heap.size w4 w5:=by rw[hw5];exact ZK _ _
     have H5:=Hd_ (H4.out.trans (hb5.mono H4.out.size))
     clear hw5 hb5)
  | (go_at_call 38
     refine(HBG.out _ H5.out).mono ?_
     rintro e w6 ⟨rfl,hb6⟩
     have H6:=Hd_ (H5.out.trans (hb6.mono H5.out.size))
     clear hb6))
 go_ret
 exact⟨rfl,H6.out⟩
end Go.Proofs.YtffgnjgphkdodaaGreatDoor
