import Derived.Test.YtffgnjgphkdodaaDoorD3
namespace Go.Proofs.YtffgnjgphkdodaaDoor
open Go Go.RowKit
def partsOf (k op:Int) : Int :=
 if k=1 then (if twoB op then 59 else 43) else if k=2 then 38 else if k=3 then 44 else if k=4 then 46 else if k=5 then 36 else if k=6 then 36 else if k=7 then 40 else if k=8 then 104 else 0
def hasBit (p h:Int) : Bool:=!(bits .and .u8 p h == 0)
theorem kinds {k:Int} (h1:1≤k) (h9:k≤9) : k=1∨k=2∨k=3∨k=4∨k=5∨k=6∨k=7∨k=8∨k=9:=by omega
theorem ZEY {k:Int} (h:k≠1) (op:Int) : partsOf k op=partsOf k 0:=by simp[partsOf,h]
theorem ZCe {k:Int} (h1:1≤k) (h9:k≤9) (op:Int) :
  hasBit (partsOf k op) 1=decide (k=1)∧hasBit (partsOf k op) 2=uSlot k∧hasBit (partsOf k op) 4=uThing k∧hasBit (partsOf k op) 32=uNext k∧hasBit (partsOf k op) 64=decide (k=8) ∧
  hasBit (partsOf k op) 8=uA k∧hasBit (partsOf k op) 16=(decide (k=1) && twoB op):=by
 rcases kinds h1 h9 with rfl | rfl | rfl | rfl | rfl | rfl | rfl | rfl | rfl
 ·unfold partsOf
  cases twoB op <;> decide
 all_goals (rw[ZEY (by decide)];refine⟨by decide,by decide,by decide,by decide,by decide,by decide,?_⟩;simp;decide)
set_option maxHeartbeats 1000000 in
theorem ZDI (n:Node) (h1:1≤n.kind) (h9:n.kind≤9) (w:World) :
  Calls Tryd.prog 67 #[.agg n.cells.toArray] w fun e w'=>e=.returned (.int .u8 (partsOf n.kind n.op))∧Below w.heap.size w w':=by
 obtain⟨kind,op,slot,thing,⟨a1,a2,a3⟩,⟨b1,b2,b3⟩,next,els,origin⟩:=n
 unfold Node.cells
 dsimp only at h1 h9 ⊢
 rcases kinds h1 h9 with rfl | rfl | rfl | rfl | rfl | rfl | rfl | rfl | rfl
 ·go_enter Tryd.func67,Tryd.ntmps67
  go_wp2_with (go_at_call 89;refine(ZHS _ _).mono ?_;rintro e w' ⟨rfl,rfl⟩)
  all_goals (
   go_ret
   refine⟨?_,((Below.refl _ _).alloc (Nat.le_refl _) _).alloc (by simp) _⟩
   simp_all [partsOf]
   try decide)
 all_goals (
  go_enter Tryd.func67,Tryd.ntmps67
  go_wp2
  go_ret
  exact⟨rfl,((Below.refl _ _).alloc (Nat.le_refl _) _).alloc (by simp) _⟩)
set_option maxHeartbeats 400000 in
theorem ZCa (k most p h:Int) (a:Addr) (w:World) (hc:w.cell? a=some (.int .u8 p)) :
  Calls Tryd.prog 68 #[.int .i64 k,.int .u8 h,.int .i64 most,.pointer (some a)] w fun e w'=>e=.returned (.bool (numOk k (hasBit p h) most))∧w=w':=by
 cases hb:hasBit p h
 ·have hz:(bits .and .u8 p h == 0)=true:=by simpa [hasBit] using hb
  have hz2:(bits .and .u8 p h != 0)=false:=by rw[bne,hz];rfl
  clear hb
  go_enter Tryd.func68,Tryd.ntmps68
  go_wp2
  all_goals (go_ret;refine⟨ZY (Bool.eq_iff_iff.2 ?_),rfl⟩;simp_all [numOk];try omega)
 ·have hz:(bits .and .u8 p h == 0)=false:=by simpa [hasBit] using hb
  have hz2:(bits .and .u8 p h != 0)=true:=by rw[bne,hz];rfl
  clear hb
  go_enter Tryd.func68,Tryd.ntmps68
  go_wp2
  all_goals (go_ret;refine⟨ZY (Bool.eq_iff_iff.2 ?_),rfl⟩;simp_all [numOk];try omega)
set_option maxHeartbeats 400000 in
theorem ZCd (v:Val) (p h slots:Int) (a:Addr) (b:Nat) (w:World) (hc:w.cell? a=some (.int .u8 p)) (hg:w.cell? ⟨b,2,none⟩=some (.int .i64 slots)) :
  Calls Tryd.prog 69 #[.agg v.cells.toArray,.int .u8 h,.pointer (some a),.pointer (some ⟨b,0,none⟩)] w fun e w'=>e=.returned (.bool (valOk v (hasBit p h) slots))∧Below w.heap.size w w':=by
 obtain⟨s,n,x⟩:=v
 unfold Val.cells
 have hal:=fun (o:Obj)=>World.cell?_alloc_lt w o a (World.block_lt_of_cell? w a hc)
 have hbl:=World.block_lt_of_cell? w ⟨b,2,none⟩ hg
 dsimp only at hbl
 cases hb:hasBit p h
 ·have hz:(bits .and .u8 p h == 0)=true:=by simpa [hasBit] using hb
  clear hb
  cases s <;> (
   go_enter Tryd.func69,Tryd.ntmps69
   go_wp2)
  all_goals (go_ret;refine⟨ZY (Bool.eq_iff_iff.2 ?_),ZB _ _⟩;simp_all [valOk];try omega)
 ·have hz:(bits .and .u8 p h == 0)=false:=by simpa [hasBit] using hb
  clear hb
  cases s <;> (
   go_enter Tryd.func69,Tryd.ntmps69
   go_wp2)
  all_goals (go_ret;refine⟨ZY (Bool.eq_iff_iff.2 ?_),ZB _ _⟩;simp_all [valOk];try omega)
set_option maxRecDepth 100000 in
set_option maxHeartbeats 2000000 in
theorem ZGn
  (kind op slot thing:Int) (a1:Bool) (a2 a3:Int) (b1:Bool) (b2 b3 next els origin:Int) (sA lA nA:Option Addr) (sc lc nc S L N:Nat) (gv:Value) (gn:ByteArray) (gl gs:Int) (w:World) (ho1:0≤op) (ho2:op≤255) (hk1:1≤kind) (hk2:kind≤9) (hk3:0≤origin) (hk4:origin < 4096) (e5:kind=5∨kind=6) :
  Calls Tryd.prog 46 #[.agg #[.slice sA S sc,.slice lA L lc,gv],.agg #[.string gn,.int .i64 gl,.int .i64 gs,.slice nA N nc],
   .agg #[.int .u8 kind,.int .u8 op,.int .i64 slot,.int .i64 thing,.bool a1,.int .i64 a2,.int .i64 a3,.bool b1,.int .i64 b2,.int .i64 b3,.int .i64 next,.int .i64 els,.int .i64 origin]] w
   fun e w'=>e=.returned (.bool (nodeOk S L gs N ⟨kind,op,slot,thing,⟨a1,a2,a3⟩,⟨b1,b2,b3⟩,next,els,origin⟩))∧Below w.heap.size w w':=by
 have hh:nodeHead ⟨kind,op,slot,thing,⟨a1,a2,a3⟩,⟨b1,b2,b3⟩,next,els,origin⟩=true:=decide_eq_true ⟨hk1,hk2,hk3,hk4⟩
 have HH:=Hd_ hh;clear hh
 obtain⟨p1,p2,p3,p4,p5,p6,p7⟩:=ZCe hk1 hk2 op
 obtain⟨P,hP⟩ : ∃ P,partsOf kind op=P:=⟨_,rfl⟩
 rw[hP] at p1 p2 p3 p4 p5 p6 p7
 have k0:(kind == 0)=false:=by simp;omega
 have f3:((kind == 5) || (kind == 6))=true:=by simpa using e5
 go_enter Tryd.func46,Tryd.ntmps46
 go_wp2_with (first
  | (go_at_call 67;refine(ZDI ⟨kind,op,slot,thing,⟨a1,a2,a3⟩,⟨b1,b2,b3⟩,next,els,origin⟩ hk1 hk2 _).mono ?_;rintro e w1 ⟨rfl,hb⟩;obtain⟨hc1,hf1⟩:=ZFU hb;have hB:Below w.heap.size w w1:=(ZFX _ _ _ _).trans (hb.mono (by simp;omega));have hz:w.heap.size+2 < w1.heap.size:=(by have:=hb.size;(try simp at this);omega);have hz1:w.heap.size+1 < w1.heap.size:=(by omega);have hz0:w.heap.size < w1.heap.size:=(by omega))
  | (go_at_call 68;refine(ZCa _ _ P _ _ _ (by go_simp)).mono ?_;rintro e w' ⟨rfl,rfl⟩)
  | (go_at_call 69;refine(ZCd ⟨_,_,_⟩ P _ gs _ _ _ (by go_simp) (by go_simp)).mono ?_;rintro e w2 ⟨rfl,hb2⟩;obtain⟨hc2,hf2⟩:=ZFU hb2;have hB:Below w.heap.size w w2:=(by first | exact hB.trans (hb2.mono hB.size) | exact(hB.alloc hB.size _).trans (hb2.mono (hB.alloc hB.size _).size));have hy3:w1.heap.size < w2.heap.size:=(by have:=hb2.size;(try simp at this);omega);have hy:w.heap.size+2 < w2.heap.size:=(by omega);have hy1:w.heap.size+1 < w2.heap.size:=(by omega);have hy0:w.heap.size < w2.heap.size:=(by omega)))
 all_goals (
  go_ret
  refine⟨ZY ?_,by first | exact hB | exact hB.alloc hB.size _⟩
  have hh:=HH.out
  simp only[nodeOk,hh]
  clear hh HH
  simp_all
  try (cases numOk slot _ _ <;> cases numOk thing _ _ <;> simp_all))
set_option maxRecDepth 100000 in
set_option maxHeartbeats 2000000 in
theorem ZFe
  (kind op slot thing:Int) (a1:Bool) (a2 a3:Int) (b1:Bool) (b2 b3 next els origin:Int) (sA lA nA:Option Addr) (sc lc nc S L N:Nat) (gv:Value) (gn:ByteArray) (gl gs:Int) (w:World) (ho1:0≤op) (ho2:op≤255) (hk1:1≤kind) (hk2:kind≤9) (hk3:0≤origin) (hk4:origin < 4096) (e5:¬ kind=5) (e6:¬ kind=6) :
  Calls Tryd.prog 46 #[.agg #[.slice sA S sc,.slice lA L lc,gv],.agg #[.string gn,.int .i64 gl,.int .i64 gs,.slice nA N nc],
   .agg #[.int .u8 kind,.int .u8 op,.int .i64 slot,.int .i64 thing,.bool a1,.int .i64 a2,.int .i64 a3,.bool b1,.int .i64 b2,.int .i64 b3,.int .i64 next,.int .i64 els,.int .i64 origin]] w
   fun e w'=>e=.returned (.bool (nodeOk S L gs N ⟨kind,op,slot,thing,⟨a1,a2,a3⟩,⟨b1,b2,b3⟩,next,els,origin⟩))∧Below w.heap.size w w':=by
 have hh:nodeHead ⟨kind,op,slot,thing,⟨a1,a2,a3⟩,⟨b1,b2,b3⟩,next,els,origin⟩=true:=decide_eq_true ⟨hk1,hk2,hk3,hk4⟩
 have HH:=Hd_ hh;clear hh
 obtain⟨p1,p2,p3,p4,p5,p6,p7⟩:=ZCe hk1 hk2 op
 obtain⟨P,hP⟩ : ∃ P,partsOf kind op=P:=⟨_,rfl⟩
 rw[hP] at p1 p2 p3 p4 p5 p6 p7
 have k0:(kind == 0)=false:=by simp;omega
 have f4:(kind == 5)=false:=by simp;omega
 have f5:(kind == 6)=false:=by simp;omega
 go_enter Tryd.func46,Tryd.ntmps46
 go_wp2_with (first
  | (go_at_call 67;refine(ZDI ⟨kind,op,slot,thing,⟨a1,a2,a3⟩,⟨b1,b2,b3⟩,next,els,origin⟩ hk1 hk2 _).mono ?_;rintro e w1 ⟨rfl,hb⟩;obtain⟨hc1,hf1⟩:=ZFU hb;have hB:Below w.heap.size w w1:=(ZFX _ _ _ _).trans (hb.mono (by simp;omega));have hz:w.heap.size+2 < w1.heap.size:=(by have:=hb.size;(try simp at this);omega);have hz1:w.heap.size+1 < w1.heap.size:=(by omega);have hz0:w.heap.size < w1.heap.size:=(by omega))
  | (go_at_call 68;refine(ZCa _ _ P _ _ _ (by go_simp)).mono ?_;rintro e w' ⟨rfl,rfl⟩)
  | (go_at_call 69;refine(ZCd ⟨_,_,_⟩ P _ gs _ _ _ (by go_simp) (by go_simp)).mono ?_;rintro e w2 ⟨rfl,hb2⟩;obtain⟨hc2,hf2⟩:=ZFU hb2;have hB:Below w.heap.size w w2:=(by first | exact hB.trans (hb2.mono hB.size) | exact(hB.alloc hB.size _).trans (hb2.mono (hB.alloc hB.size _).size));have hy3:w1.heap.size < w2.heap.size:=(by have:=hb2.size;(try simp at this);omega);have hy:w.heap.size+2 < w2.heap.size:=(by omega);have hy1:w.heap.size+1 < w2.heap.size:=(by omega);have hy0:w.heap.size < w2.heap.size:=(by omega)))
 all_goals (
  go_ret
  refine⟨ZY ?_,by first | exact hB | exact hB.alloc hB.size _⟩
  have hh:=HH.out
  have e8:(kind == 8)=decide (kind=8):=by rw[Bool.eq_iff_iff];simp
  simp only[nodeOk,hh]
  clear hh HH
  simp_all
  try (cases numOk slot _ _ <;> cases numOk thing _ _ <;> simp_all))
set_option maxHeartbeats 1000000 in
theorem ZHc
  (kind op slot thing:Int) (a1:Bool) (a2 a3:Int) (b1:Bool) (b2 b3 next els origin:Int) (sA lA nA:Option Addr) (sc lc nc S L N:Nat) (gv:Value) (gn:ByteArray) (gl gs:Int) (w:World) (_ho1:0≤op) (_ho2:op≤255) (hn:0≤kind) (hk:¬ (1≤kind∧kind≤9∧0≤origin∧origin < 4096)) :
  Calls Tryd.prog 46 #[.agg #[.slice sA S sc,.slice lA L lc,gv],.agg #[.string gn,.int .i64 gl,.int .i64 gs,.slice nA N nc],
   .agg #[.int .u8 kind,.int .u8 op,.int .i64 slot,.int .i64 thing,.bool a1,.int .i64 a2,.int .i64 a3,.bool b1,.int .i64 b2,.int .i64 b3,.int .i64 next,.int .i64 els,.int .i64 origin]] w
   fun e w'=>e=.returned (.bool (nodeOk S L gs N ⟨kind,op,slot,thing,⟨a1,a2,a3⟩,⟨b1,b2,b3⟩,next,els,origin⟩))∧Below w.heap.size w w':=by
 have hf2:nodeOk S L gs N ⟨kind,op,slot,thing,⟨a1,a2,a3⟩,⟨b1,b2,b3⟩,next,els,origin⟩=false:=by
  have:nodeHead ⟨kind,op,slot,thing,⟨a1,a2,a3⟩,⟨b1,b2,b3⟩,next,els,origin⟩=false:=decide_eq_false hk
  rw[nodeOk,this];rfl
 have HF:=Hd_ hf2;clear hf2
 go_enter Tryd.func46,Tryd.ntmps46
 go_wp2_with fail
 all_goals first | (exfalso;simp only[beq_iff_eq] at *;omega) | skip
 all_goals (go_ret;exact⟨ZY HF.out.symm,ZFX _ _ _ _⟩)
theorem ZDF (u:Unit_) (g:Graph) (n:Node) (m:CM) (cu cg:List Value) (hu:UnitV m cu u) (hg:GraphV m cg g) (hn:0≤n.kind) (ho:0≤n.op∧n.op≤255) (w:World) :
  Calls Tryd.prog 46 #[.agg cu.toArray,.agg cg.toArray,.agg n.cells.toArray] w fun e w'=>e=.returned (.bool (nodeOk u.shared.length u.locks.length g.slots g.nodes.length n))∧Below w.heap.size w w':=by
 obtain⟨sv,lv,gv,rfl,⟨sA,sc,rfl,-,-,-⟩,⟨lA,lc,rfl,-,-,-⟩,-⟩:=hu
 obtain⟨nv,rfl,nA,nc,rfl,-,-,-⟩:=hg
 obtain⟨kind,op,slot,thing,⟨a1,a2,a3⟩,⟨b1,b2,b3⟩,next,els,origin⟩:=n
 by_cases hk:1≤kind∧kind≤9∧0≤origin∧origin < 4096
 ·obtain⟨hk1,hk2,hk3,hk4⟩:=hk
  by_cases e5:kind=5∨kind=6
  ·exact ZGn _ _ _ _ _ _ _ _ _ _ _ _ _ _ _ _ _ _ _ _ _ _ _ _ _ _ _ ho.1 ho.2 hk1 hk2 hk3 hk4 e5
  ·exact ZFe _ _ _ _ _ _ _ _ _ _ _ _ _ _ _ _ _ _ _ _ _ _ _ _ _ _ _ ho.1 ho.2 hk1 hk2 hk3 hk4 (fun e=>e5 (.inl e)) (fun e=>e5 (.inr e))
 ·exact ZHc _ _ _ _ _ _ _ _ _ _ _ _ _ _ _ _ _ _ _ _ _ _ _ _ _ _ _ ho.1 ho.2 hn hk
end Go.Proofs.YtffgnjgphkdodaaDoor
