import Derived.Test.YtffgnjgphkdodaaDoorD5
import Derived.Test.YtffgnjgphkdodaaDoorD8
import Derived.Shelf.Spec.TrailingZeros
import Derived.Test.YtffgnjgphkdodaaDoorD1
import Derived.Test.YtffgnjgphkdodaaDoorD3
namespace Go.Proofs.YtffgnjgphkdodaaDoor
open Go Go.RowKit
set_option maxHeartbeats 400000 in
theorem ZA4 (n:Node) (w:World) :
  Calls Tryd.prog 76 #[.agg n.cells.toArray] w fun e w'=>e=.returned (.bool (touchB n))∧Below w.heap.size w w':=by
 unfold Node.cells
 go_enter Tryd.func76,Tryd.ntmps76
 go_wp2
 all_goals (go_ret;refine⟨ZY (Bool.eq_iff_iff.2 ?_),ZB _ _⟩;simp[touchB];simp_all)
def Tab (w:World) : Prop:=TabAt 0 Lib.deBruijn32tab w
theorem Tab.below {w w':World} (h:Tab w) (hb:Below w.heap.size w w') : Tab w':=fun j hj=>by
 have h1:=h j hj
 rw[hb.cell (p:=⟨_,j,none⟩) (World.block_lt_of_cell? w _ h1)];exact h1
theorem Tab.alloc {w:World} (h:Tab w) (o:Obj) : Tab (w.alloc o):=h.below (ZB _ _)
set_option maxHeartbeats 1000000 in
theorem ZHR (x k idx:Nat) (w:World) (hx0:((x:Int) == 0)=false)
  (key:bits BinOp.and IntKind.u32 (x:Int) (-(x:Int) % 4294967296) * 125613361 % 4294967296 / 134217728=(idx:Int))
  (hi:idx < 32) (hk:k < 32) (hcell:w.cell? ⟨0,idx,none⟩=some (.int .u8 k)) :
  Calls Tryd.prog 77 #[.int .u32 x] w fun e w'=>e=.returned (.int .i64 k)∧w=w':=by
 go_enter Tryd.func77,Tryd.ntmps77
 go_wp2_with (simp only[key])
 go_ret
 exact⟨rfl,rfl⟩
theorem ZGc (x:Nat) (hx:x < 4294967296) (hx0:x≠0) (w:World) (hT:Tab w) :
  Calls Tryd.prog 77 #[.int .u32 x] w fun e w'=>e=.returned (.int .i64 (Lib.ctz 32 x))∧w=w':=by
 obtain⟨hlow,hk⟩:=Lib.lowest_bit 32 x hx0 hx
 obtain⟨hi,htab⟩:=Lib.deBruijn32_at _ hk
 have hcell:=hT _ hi
 rw[htab] at hcell
 exact ZHR x _ _ w (by simp;omega) (tz32_key x _ hx hx0 hlow) hi hk hcell
set_option maxRecDepth 100000 in
set_option maxHeartbeats 1000000 in
theorem ZD9 (m:Nat) (hm:m < 65536) (w:World) (hT:Tab w) :
  Calls Tryd.prog 53 #[.int .u32 m] w fun e w'=>∃ v,e=.returned v∧w'.ownsRow w.heap.size 3 1 v (bitsUp m).length (ints (bitsUp m))∧Below w.heap.size w w':=by
 obtain⟨r,hr⟩ : ∃ r,bitsUp m=r:=⟨_,rfl⟩
 rw[hr]
 have hrl:r.length≤16:=by rw[← hr];exact ZHP _
 have HR:=Hd_ hr;clear hr
 have HT:=Hd_ hT;clear hT
 go_enter Tryd.func53,Tryd.ntmps53
 go_wp2_with fail
 go_loopg [0,3] m (fun k v0 v3 wr=>∃ (m':Nat) (out:List Int),v0=.int .u32 m'∧m' < 65536∧m'≤k∧wr.ownsRow w.heap.size 3 1 v3 out.length (ints out)∧out ++ bitsUp m'=r∧Below w.heap.size w wr)
 case atStart=>exact⟨m,[],rfl,hm,Nat.le_refl _,World.ownsRow_nil _ _ _ _,HR.out,Below.refl _ _⟩
 case round =>
  obtain⟨m',out,rfl,hm',hk,hown,hout,hbel⟩:=hrel
  have HO:=Hd_ hout;clear hout
  by_cases h0:m'=0
  ·subst h0
   have hrr:out=r:=by rw[← HO.out,ZBv,List.append_nil]
   subst hrr
   clear HO HR
   go_wp2_with fail
   go_ret
   exact⟨_,rfl,hown,hbel⟩
  ·have hne:((m':Int) != 0)=true:=by simp;omega
   obtain⟨q1,q2,q3⟩:=Z0 m' h0 hm'
   have hol:out.length < 16:=by
    have:=congrArg List.length HO.out
    rw[q1] at this
    simp at this;omega
   have hz0:Hid (m'≠0):=h0
   have h1:1≤m':=by omega
   clear h0
   obtain⟨c,hc⟩ : ∃ c,Lib.ctz 32 m'=c:=⟨_,rfl⟩
   rw[hc] at q1 q3
   have HC:=Hd_ hc;clear hc
   have Q1:=Hd_ q1;clear q1
   have hT2:=HT.out.below hbel
   have hand:bits BinOp.and IntKind.u32 (m':Int) ((m':Int) - 1)=((m' &&& (m' - 1) : Nat) : Int):=by
    have:(m':Int) - 1=((m' - 1:Nat) : Int):=by omega
    rw[this,bits_and_u32_nat _ _ (by omega) (by omega)]
   go_wp2_with (first | (go_at_call 77;refine(ZGc m' (by omega) hz0.out _ hT2).mono ?_;rintro e w1 ⟨rfl,rfl⟩;rw[HC.out]) | (refine ZN rfl ?_))
   refine Stop.intro ?_
   refine Zg Z2 rfl _ _ rfl w.heap.size u3 out.length (ints out) rfl (hown.alloc _) wr.heap.size 0 1 [.int .i64 (c:Nat)] rfl rfl (Za _ _ _ _ (by simp)) (by simp[Value.oneCell']) (by omega) (by decide) (by simp;have:=hbel.size;omega) ?_
   intro v' w' hown4 hgr hob
   have hbel4:=(hbel.alloc hbel.size (.cells #[.int .i64 (c:Nat)] 3)).grown hgr (by simp;have:=hbel.size;omega) (fun k hk=>Z5 hown k hk)
   go_wp2_with fail
   go_roundg (m' &&& (m' - 1))
   case measure=>omega
   case rel=>exact⟨m' &&& (m' - 1),out ++ [(c:Int)],rfl,by omega,Nat.le_refl _,by simpa [ints] using hown4,by rw[List.append_assoc,List.singleton_append,← Q1.out,HO.out],hbel4⟩
theorem Sl.take_ {α:Type} {R:CM→Nat→Nat→α→Prop} {size:Nat} {m:CM} {A:Option Addr} {n c:Nat} {xs:List α} (h:Sl R size m (.slice A n c) xs) {k:Nat} (hk:k≤n) : Sl R size m (.slice A k c) (xs.take k):=by
 obtain⟨A',c',he,h1,h2,h3⟩:=h
 injection he with e1 e2 e3
 subst e1 e2 e3
 have hl:(xs.take k).length=k:=by simp;omega
 refine⟨A,c,by rw[hl],by rw[hl];omega,h2,?_⟩
 rcases h3 with h3 | ⟨b,o,e,h3⟩
 ·subst h3;simp
 ·refine .inr ⟨b,o,e,fun i x hx=>h3 i x ?_⟩
  rw[List.getElem?_take] at hx
  split at hx
  ·exact hx
  ·cases hx
theorem Sl.drop_ {α:Type} {R:CM→Nat→Nat→α→Prop} {size:Nat} {m:CM} {b o:Nat} {n c:Nat} {xs:List α} (h:Sl R size m (.slice (some ⟨b,o,none⟩) n c) xs) {k:Nat} (hk:k≤n) : Sl R size m (.slice (some ⟨b,o+k * size,none⟩) (n - k) (c - k)) (xs.drop k):=by
 obtain⟨A',c',he,h1,h2,h3⟩:=h
 injection he with e1 e2 e3
 subst e2 e3
 refine⟨some ⟨b,o+k * size,none⟩,c - k,by simp,by simp;omega,⟨by omega,fun h=>by cases h⟩,?_⟩
 rcases h3 with h3 | ⟨b',o',e,h3⟩
 ·subst h3;simp
 ·rw[← e1] at e
  injection e with e
  injection e with e1 e2
  subst e1 e2
  refine .inr ⟨b,o+k * size,rfl,fun i x hx=>?_⟩
  rw[List.getElem?_drop] at hx
  have:=h3 _ x hx
  rw[Nat.add_assoc,← Nat.add_mul];exact this
abbrev intsV:=InnerV IntC 1
end Go.Proofs.YtffgnjgphkdodaaDoor
