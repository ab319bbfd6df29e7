import Derived.Test.YtffgnjgphkdodaaGreatDoorV4
import Derived.Test.YtffgnjgphkdodaaGreatDoorV7
import Derived.Shelf.Spec.TrailingZeros
import Derived.Test.YtffgnjgphkdodaaGreatDoorV1
import Derived.Test.YtffgnjgphkdodaaGreatDoorV24
namespace Go.Proofs.YtffgnjgphkdodaaGreatDoor
open Go Go.RowKit
set_option maxHeartbeats 400000 in
theorem ZAr (n:Node) (w:World) :
  Calls Tryz.prog 160 #[.agg n.cells.toArray] w fun e w'=>e=.returned (.bool (touchB n))∧Below w.heap.size w w':=by
 unfold Node.cells
 go_enter Tryz.func160,Tryz.ntmps160
 go_wp2
 all_goals (go_ret;refine⟨ZL (Bool.eq_iff_iff.2 ?_),ZC _ _⟩;simp[touchB];simp_all)
set_option maxHeartbeats 400000 in
theorem ZBS (n:Node) (x:Int) (w:World) :
  Calls Tryz.prog 172 #[.agg n.cells.toArray,.int .i64 x] w fun e w'=>e=.returned (.bool (touchB n && decide (n.thing=x)))∧Below w.heap.size w w':=by
 unfold Node.cells
 go_enter Tryz.func172,Tryz.ntmps172
 go_wp2
 all_goals (go_ret;refine⟨ZL (Bool.eq_iff_iff.2 ?_),ZC _ _⟩;simp[touchB];simp_all)
set_option maxHeartbeats 400000 in
theorem ZHU (v:Value) (l:List Int) (x:Int) (w:World) (h:Ints (cmap w) v l) :
  Calls Tryz.prog 173 #[v,.int .i64 x] w fun e w'=>e=.returned (.bool (decide (x∈l)))∧w=w':=by
 have h':=h
 obtain⟨A1,c1,rfl,-,-,-⟩:=h'
 have b1:=h.len.2.2
 obtain⟨r,hr⟩ : ∃ r,decide (x∈l)=r:=⟨_,rfl⟩
 rw[hr]
 have HR:=Hd_ hr;clear hr
 go_enter Tryz.func173,Tryz.ntmps173
 go_wp2
 go_loop [5] (fun v=>∃ (k:Nat),v=.int .i64 k∧k≤l.length∧x ∉ l.take k) (fun v=>l.length - (intOf v).toNat)
 case atStart=>exact⟨0,rfl,by omega,by simp⟩
 case round =>
  obtain⟨k,rfl,hk,ht⟩:=hrel
  have HT:=Hd_ ht;clear ht
  by_cases hlt:k < l.length
  ·obtain⟨y,hy⟩ : ∃ y,l[k]? = some y:=⟨_,List.getElem?_eq_getElem hlt⟩
   obtain⟨b,o,rfl,g⟩:=h.at_ hy
   rw[Nat.mul_one] at g
   have g':w.cell? ⟨b,o+k,none⟩=some (.int .i64 y):=g
   clear g
   have hk0:(0:Int)≤k:=by omega
   have hki:(k:Int) < l.length:=by omega
   have HY:=Hd_ hy;clear hy
   by_cases he:y=x
   ·subst he
    have hyy:(y == y)=true:=by simp
    have hrr:r=true:=by rw[← HR.out,decide_eq_true_eq];exact List.mem_of_getElem? HY.out
    have HRR:=Hd_ hrr;clear hrr
    go_wp2
    go_ret
    exact⟨ZL HRR.out.symm,rfl⟩
   ·have hne:(y == x)=false:=by simpa using he
    have HE:Hid (¬ y=x):=he
    clear he
    go_wp2
    go_round
    case rel=>exact⟨k+1,by go_num,by omega,by
     rw[List.take_succ_eq_append_getElem hlt,(List.getElem?_eq_some_iff.1 HY.out).2,List.mem_append,List.mem_singleton]
     exact fun h=>h.elim HT.out (fun e=>HE.out e.symm)⟩
    case measure=>simp[intOf];omega
  ·have hrr:r=false:=by
    rw[← HR.out,decide_eq_false_iff_not]
    have:=HT.out
    rwa [List.take_of_length_le (by omega)] at this
   have HRR:=Hd_ hrr;clear hrr
   go_wp2
   go_ret
   exact⟨ZL HRR.out.symm,rfl⟩
def Tab (w:World) : Prop:=TabAt 0 Lib.deBruijn32tab w
theorem Tab.below {w w':World} (h:Tab w) (hb:Below w.heap.size w w') : Tab w':=fun j hj=>by
 have h1:=h j hj
 rw[hb.cell (p:=⟨_,j,none⟩) (World.block_lt_of_cell? w _ h1)];exact h1
theorem Tab.alloc {w:World} (h:Tab w) (o:Obj) : Tab (w.alloc o):=h.below (ZC _ _)
set_option maxHeartbeats 1000000 in
theorem ZHs (x k idx:Nat) (w:World) (hx0:((x:Int) == 0)=false)
  (key:bits BinOp.and IntKind.u32 (x:Int) (-(x:Int) % 4294967296) * 125613361 % 4294967296 / 134217728=(idx:Int))
  (hi:idx < 32) (hk:k < 32) (hcell:w.cell? ⟨0,idx,none⟩=some (.int .u8 k)) :
  Calls Tryz.prog 161 #[.int .u32 x] w fun e w'=>e=.returned (.int .i64 k)∧w=w':=by
 go_enter Tryz.func161,Tryz.ntmps161
 go_wp2_with (simp only[key])
 go_ret
 exact⟨rfl,rfl⟩
theorem ZG6 (x:Nat) (hx:x < 4294967296) (hx0:x≠0) (w:World) (hT:Tab w) :
  Calls Tryz.prog 161 #[.int .u32 x] w fun e w'=>e=.returned (.int .i64 (Lib.ctz 32 x))∧w=w':=by
 obtain⟨hlow,hk⟩:=Lib.lowest_bit 32 x hx0 hx
 obtain⟨hi,htab⟩:=Lib.deBruijn32_at _ hk
 have hcell:=hT _ hi
 rw[htab] at hcell
 exact ZHs x _ _ w (by simp;omega) (tz32_key x _ hx hx0 hlow) hi hk hcell
set_option maxRecDepth 100000 in
set_option maxHeartbeats 1000000 in
theorem ZEF (m:Nat) (hm:m < 65536) (w:World) (hT:Tab w) :
  Calls Tryz.prog 110 #[.int .u32 m] w fun e w'=>∃ v,e=.returned v∧w'.ownsRow w.heap.size 3 1 v (bitsUp m).length (ints (bitsUp m))∧Below w.heap.size w w':=by
 obtain⟨r,hr⟩ : ∃ r,bitsUp m=r:=⟨_,rfl⟩
 rw[hr]
 have hrl:r.length≤16:=by rw[← hr];exact ZE8 _
 have HR:=Hd_ hr;clear hr
 have HT:=Hd_ hT;clear hT
 go_enter Tryz.func110,Tryz.ntmps110
 go_wp2_with fail
 go_loopg [0,3] m (fun k v0 v3 wr=>∃ (m':Nat) (out:List Int),v0=.int .u32 m'∧m' < 65536∧m'≤k∧wr.ownsRow w.heap.size 3 1 v3 out.length (ints out)∧out ++ bitsUp m'=r∧Below w.heap.size w wr)
 case atStart=>exact⟨m,[],rfl,hm,Nat.le_refl _,World.ownsRow_nil _ _ _ _,HR.out,Below.refl _ _⟩
 case round =>
  obtain⟨m',out,rfl,hm',hk,hown,hout,hbel⟩:=hrel
  have HO:=Hd_ hout;clear hout
  by_cases h0:m'=0
  ·subst h0
   have hrr:out=r:=by rw[← HO.out,ZBi,List.append_nil]
   subst hrr
   clear HO HR
   go_wp2_with fail
   go_ret
   exact⟨_,rfl,hown,hbel⟩
  ·have hne:((m':Int) != 0)=true:=by simp;omega
   obtain⟨q1,q2,q3⟩:=Zx m' h0 hm'
   have hol:out.length < 16:=by
    have:=congrArg List.length HO.out
    rw[q1] at this
    simp at this;omega
   have hz0:Hid (m'≠0):=h0
   have h1:1≤m':=by omega
   clear h0
   obtain⟨c,hc⟩ : ∃ c,Lib.ctz 32 m'=c:=⟨_,rfl⟩
   rw[hc] at q1 q3
   have HC:=Hd_ hc;clear hc
   have Q1:=Hd_ q1;clear q1
   have hT2:=HT.out.below hbel
   have hand:bits BinOp.and IntKind.u32 (m':Int) ((m':Int) - 1)=((m' &&& (m' - 1) : Nat) : Int):=by
    have:(m':Int) - 1=((m' - 1:Nat) : Int):=by omega
    rw[this,bits_and_u32_nat _ _ (by omega) (by omega)]
   go_wp2_with (first | (go_at_call 161;refine(ZG6 m' (by omega) hz0.out _ hT2).mono ?_;rintro e w1 ⟨rfl,rfl⟩;rw[HC.out]) | (refine ZG rfl ?_))
   refine Stop.intro ?_
   refine ZT ZY rfl _ _ rfl w.heap.size u3 out.length (ints out) rfl (hown.alloc _) wr.heap.size 0 1 [.int .i64 (c:Nat)] rfl rfl (ZQ _ _ _ _ (by simp)) (by simp[Value.oneCell']) (by omega) (by decide) (by simp;have:=hbel.size;omega) ?_
   intro v' w' hown4 hgr hob
   have hbel4:=(hbel.alloc hbel.size (.cells #[.int .i64 (c:Nat)] 3)).grown hgr (by simp;have:=hbel.size;omega) (fun k hk=>Zg hown k hk)
   go_wp2_with fail
   go_roundg (m' &&& (m' - 1))
   case measure=>omega
   case rel=>exact⟨m' &&& (m' - 1),out ++ [(c:Int)],rfl,by omega,Nat.le_refl _,by simpa [ints] using hown4,by rw[List.append_assoc,List.singleton_append,← Q1.out,HO.out],hbel4⟩
theorem Sl.take_ {α:Type} {R:CM→Nat→Nat→α→Prop} {size:Nat} {m:CM} {A:Option Addr} {n c:Nat} {xs:List α} (h:Sl R size m (.slice A n c) xs) {k:Nat} (hk:k≤n) : Sl R size m (.slice A k c) (xs.take k):=by
 obtain⟨A',c',he,h1,h2,h3⟩:=h
 injection he with e1 e2 e3
 subst e1 e2 e3
 have hl:(xs.take k).length=k:=by simp;omega
 refine⟨A,c,by rw[hl],by rw[hl];omega,h2,?_⟩
 rcases h3 with h3 | ⟨b,o,e,h3⟩
 ·subst h3;simp
 ·refine .inr ⟨b,o,e,fun i x hx=>h3 i x ?_⟩
  rw[List.getElem?_take] at hx
  split at hx
  ·exact hx
  ·cases hx
theorem Sl.drop_ {α:Type} {R:CM→Nat→Nat→α→Prop} {size:Nat} {m:CM} {b o:Nat} {n c:Nat} {xs:List α} (h:Sl R size m (.slice (some ⟨b,o,none⟩) n c) xs) {k:Nat} (hk:k≤n) : Sl R size m (.slice (some ⟨b,o+k * size,none⟩) (n - k) (c - k)) (xs.drop k):=by
 obtain⟨A',c',he,h1,h2,h3⟩:=h
 injection he with e1 e2 e3
 subst e2 e3
 refine⟨some ⟨b,o+k * size,none⟩,c - k,by simp,by simp;omega,⟨by omega,fun h=>by cases h⟩,?_⟩
 rcases h3 with h3 | ⟨b',o',e,h3⟩
 ·subst h3;simp
 ·rw[← e1] at e
  injection e with e
  injection e with e1 e2
  subst e1 e2
  refine .inr ⟨b,o+k * size,rfl,fun i x hx=>?_⟩
  rw[List.getElem?_drop] at hx
  have:=h3 _ x hx
  rw[Nat.add_assoc,← Nat.add_mul];exact this
set_option maxRecDepth 100000 in
set_option maxHeartbeats 2000000 in
theorem ZFI (v:Value) (l:List Int) (w:World) (h:Ints (cmap w) v l) (hl:∀ x∈l,0≤x∧x < 16) :
  Calls Tryz.prog 186 #[v] w fun e w'=>∃ v',e=.returned v'∧w'.ownsRow w.heap.size 3 1 v' (risingL l).length (ints (risingL l))∧Below w.heap.size w w':=by
 have h':=h
 obtain⟨A1,c1,rfl,-,-,-⟩:=h'
 have b1:=h.len.2.2
 have HL:=Hd_ hl;clear hl
 go_enter Tryz.func186,Tryz.ntmps186
 go_wp2
 go_loopw [3,4] (fun v3 v4 wr=>∃ (k:Nat),v4=.int .i64 k∧k≤l.length∧wr.ownsRow w.heap.size 3 1 v3 (risingL (l.take k)).length (ints (risingL (l.take k)))∧Below w.heap.size w wr) (fun _ v4 _=>l.length - (intOf v4).toNat)
 case atStart=>exact⟨0,rfl,by omega,World.ownsRow_nil _ _ _ _,Below.refl _ _⟩
 case round =>
  obtain⟨k,rfl,hk,hown,hbel⟩:=hrel
  by_cases hlt:k < l.length
  ·obtain⟨x,hx⟩ : ∃ x,l[k]? = some x:=⟨_,List.getElem?_eq_getElem hlt⟩
   have hxb:=HL.out x (List.mem_of_getElem? hx)
   obtain⟨xn,rfl⟩:=Int.eq_ofNat_of_zero_le hxb.1
   have hnext:risingL (l.take (k+1))=ins (xn:Int) (risingL (l.take k)):=by
    rw[List.take_succ_eq_append_getElem hlt,(List.getElem?_eq_some_iff.1 hx).2]
    exact ZFJ _ (by omega)
   obtain⟨out,hout⟩ : ∃ out,risingL (l.take k)=out:=⟨_,rfl⟩
   have hol:out.length≤16:=by rw[← hout];exact ZE8 _
   rw[hout] at hown hnext
   have HO:=Hd_ hout;clear hout
   have HN:=Hd_ hnext;clear hnext
   obtain⟨b,o,rfl,g⟩:=h.at_ hx
   rw[Nat.mul_one] at g
   have g':wr.cell? ⟨b,o+k,none⟩=some (.int .i64 (xn:Nat)):=ZA hbel _ _ _ g
   clear g
   have HX:=Hd_ hx;clear hx
   have hk0:(0:Int)≤k:=by omega
   have hki:(k:Int) < l.length:=by omega
   obtain⟨A3,c3,rfl,hc3⟩:=ZF hown
   have hsl:=Z4 (R:=IntC) (f:=Value.int .i64) (fun _ _ _ _ h=>h) hown (Nat.le_refl _) (Nat.le_refl _)
   have hread:=hsl.mono (ZU _ _ _)
   go_wp2
   obtain⟨wo,rfl⟩ : ∃ wo:World,wo=wr:=⟨_,rfl⟩
   go_loopw [5] (fun v5 wi=>∃ (i n:Nat),v5=.int .i64 i∧i≤out.length∧wi=wo.drewN n∧∀ (j:Nat) y,j < i→out[j]? = some y→y < (xn:Int)) (fun v5 _=>out.length - (intOf v5).toNat)
   case atStart=>exact⟨0,0,rfl,by omega,rfl,fun j y hj=>by omega⟩
   case round =>
    obtain⟨i,n,rfl,hi,rfl,hlow⟩:=hrel
    have HLOW:=Hd_ hlow;clear hlow
    by_cases hil:i < out.length
    ·obtain⟨y,hy⟩ : ∃ y,out[i]? = some y:=⟨_,List.getElem?_eq_getElem hil⟩
     obtain⟨b3,o3,rfl,g3⟩:=hread.at_ hy
     rw[Nat.mul_one] at g3
     have g3':wo.cell? ⟨b3,o3+i,none⟩=some (.int .i64 y):=g3
     clear g3
     have hi0:(0:Int)≤i:=by omega
     have hii:(i:Int) < out.length:=by omega
     have hdl:decide ((i:Int) < out.length)=true:=by simp;omega
     have HY:=Hd_ hy;clear hy
     by_cases hyx:y < (xn:Int)
     ·have hd:decide (y < (xn:Int))=true:=by simp;omega
      go_wp2
      go_quiet (fail)
      go_wp2
      go_roundw
      case rel=>exact⟨i+1,_,by go_num,by omega,rfl,fun j z hj hz=>by
       by_cases e:j=i
       ·subst e;rw[HY.out] at hz;injection hz with hz;omega
       ·exact HLOW.out j z (by omega) hz⟩
      case measure=>simp[intOf];omega
     ·have hd:decide (y < (xn:Int))=false:=by simp;omega
      by_cases hyx2:y=(xn:Int)
      ·subst hyx2
       have hd2:((xn:Int) == (xn:Int))=true:=by simp
       have hins:=(ZGn (x:=(xn:Int)) out i HLOW.out (by omega)).1 HY.out
       rw[hins] at HN
       go_wp2
       go_quiet (fail)
       go_wp2
       go_quiet (fail)
       go_wp2
       go_roundw
       case rel=>exact⟨k+1,by go_num,by omega,by rw[HN.out];exact hown,⟨hbel.os,hbel.tape,hbel.output,hbel.size,hbel.block⟩⟩
       case measure=>simp[intOf];omega
      ·have hd2:(y == (xn:Int))=false:=by simpa using hyx2
       have hins:=(ZGn (x:=(xn:Int)) out i HLOW.out (by omega)).2 (fun z hz=>by rw[HY.out] at hz;injection hz with hz;omega)
       rw[hins] at HN
       have HI:=HN
       clear hins
       go_wp2
       go_quiet (fail)
       go_wp2
       go_quiet (fail)
       have hslt:=hread.take_ hi
       have hic:¬ i=c3:=by omega
       have hic2:i < c3:=by omega
       go_wp2_with (refine ZG rfl ?_)
       refine Stop.intro ?_
       have hbn:=hbel.size
       refine ZBE (R:=IntC) (f:=Value.int .i64) (fun _ _ _ _ h=>h) ZY rfl _ _ rfl w.heap.size _ 0 [] rfl (Zv _ #[] _ rfl (by simpa using hbn) (by omega) rfl [] rfl) _ i c3 (out.take i) rfl (hslt.mono (ZH (wo.drewN _) _)) (by simp[Value.oneCell']) (by omega) (by decide) (by simp;omega) ?_
       intro v1 w1 hown1 hg1 hob1
       have hB1:Below wo.heap.size wo w1:=Below.grown (ZAb wo _ _) hg1 (by simp) (fun k hk=>by have hk2:some wo.heap.size=some k:=hk;injection hk2 with hk2;omega)
       have hs1:=hB1.size
       have g1:w1.cell? ⟨b,o+k,none⟩=some (.int .i64 (xn:Nat)):=ZA hB1 _ _ _ g'
       go_wp2_with (refine ZG rfl ?_)
       refine Stop.intro ?_
       refine ZT ZY rfl _ _ rfl w.heap.size v1 (0+i) ([] ++ (out.take i).map (Value.int .i64)) rfl (hown1.alloc _) w1.heap.size 0 1 [.int .i64 (xn:Nat)] rfl rfl (ZQ _ _ _ _ (by simp)) (by simp[Value.oneCell']) (by omega) (by decide) (by simp;omega) ?_
       intro v2 w2 hown2 hg2 hob2
       have hv1:∀ j,v1.ownBlock=some j→wo.heap.size≤j:=by
        intro j hj
        rcases hob1 with e | e
        ·rw[e] at hj;have hk2:some wo.heap.size=some j:=hj;injection hk2 with hk2;omega
        ·rw[e] at hj;injection hj with hj;simp at hj;omega
       have hB2:Below wo.heap.size wo w2:=(hB1.alloc hs1 _).grown hg2 (by simp;omega) hv1
       have hs2:=hB2.size
       have hdrp:=(hread.drop_ (k:=i) (by omega)).mono (ZA hB2)
       rw[Nat.mul_one] at hdrp
       go_wp2_with (refine ZG rfl ?_)
       refine Stop.intro ?_
       refine ZBE (R:=IntC) (f:=Value.int .i64) (fun _ _ _ _ h=>h) ZY rfl _ _ rfl w.heap.size v2 (0+i+1) _ rfl hown2 _ (out.length - i) _ (out.drop i) rfl hdrp (by simp[Value.oneCell']) (by omega) (by decide) (by omega) ?_
       intro v3 w3 hown3 hg3 hob3
       have hv2:∀ j,v2.ownBlock=some j→wo.heap.size≤j:=by
        intro j hj
        rcases hob2 with e | e
        ·rw[e] at hj;exact hv1 j hj
        ·rw[e] at hj;injection hj with hj;simp at hj;omega
       have hB3:Below wo.heap.size wo w3:=hB2.grown hg3 hs2 hv2
       have hfin:w3.ownsRow w.heap.size 3 1 v3 (out.take i ++ (xn:Int) :: out.drop i).length (ints (out.take i ++ (xn:Int) :: out.drop i)):=by
        have e1:(out.take i ++ (xn:Int) :: out.drop i).length=0+i+1+(out.length - i):=by simp;omega
        rw[e1]
        simpa [ints] using hown3
       clear hown1 hown2 hown3 hown hread hslt
       go_wp2_with fail
       go_roundw
       case rel=>exact⟨k+1,by go_num,by omega,by rw[HN.out];exact hfin,hbel.trans (hB3.mono (by omega))⟩
       case measure=>simp[intOf];omega
    ·have hdl:decide ((i:Int) < out.length)=false:=by simp;omega
     have hii:i=out.length:=by omega
     have hins:=(ZGn (x:=(xn:Int)) out i HLOW.out (by omega)).2 (fun z hz=>by rw[List.getElem?_eq_none (by omega)] at hz;cases hz)
     rw[hins] at HN
     clear hins
     have hslt:=hread.take_ hi
     have hnil:out.drop i=[]:=List.drop_eq_nil_of_le (by omega)
     have HII:=Hd_ hii;clear hii
     have HNIL:=Hd_ hnil;clear hnil
     by_cases hic:i=c3
     ·obtain rfl:i=c3:=hic
      go_wp2
      go_quiet (fail)
      go_wp2
      go_quiet (fail)
      go_wp2_with (refine ZG rfl ?_)
      refine Stop.intro ?_
      have hbn:=hbel.size
      refine ZBE (R:=IntC) (f:=Value.int .i64) (fun _ _ _ _ h=>h) ZY rfl _ _ rfl w.heap.size _ 0 [] rfl (Zv _ #[] _ rfl (by simpa using hbn) (by omega) rfl [] rfl) _ i i (out.take i) rfl (hslt.mono (ZH (wo.drewN _) _)) (by simp[Value.oneCell']) (by omega) (by decide) (by simp;omega) ?_
      intro v1 w1 hown1 hg1 hob1
      have hB1:Below wo.heap.size wo w1:=Below.grown (ZAb wo _ _) hg1 (by simp) (fun k hk=>by have hk2:some wo.heap.size=some k:=hk;injection hk2 with hk2;omega)
      have hs1:=hB1.size
      have g1:w1.cell? ⟨b,o+k,none⟩=some (.int .i64 (xn:Nat)):=ZA hB1 _ _ _ g'
      go_wp2_with (refine ZG rfl ?_)
      refine Stop.intro ?_
      refine ZT ZY rfl _ _ rfl w.heap.size v1 (0+i) ([] ++ (out.take i).map (Value.int .i64)) rfl (hown1.alloc _) w1.heap.size 0 1 [.int .i64 (xn:Nat)] rfl rfl (ZQ _ _ _ _ (by simp)) (by simp[Value.oneCell']) (by omega) (by decide) (by simp;omega) ?_
      intro v2 w2 hown2 hg2 hob2
      have hv1:∀ j,v1.ownBlock=some j→wo.heap.size≤j:=by
       intro j hj
       rcases hob1 with e | e
       ·rw[e] at hj;have hk2:some wo.heap.size=some j:=hj;injection hk2 with hk2;omega
       ·rw[e] at hj;injection hj with hj;simp at hj;omega
      have hB2:Below wo.heap.size wo w2:=(hB1.alloc hs1 _).grown hg2 (by simp;omega) hv1
      have hs2:=hB2.size
      have hdrp:Ints (cmap w2) (.slice A3 0 0) (out.drop i):=by
       rw[HNIL.out];exact⟨A3,0,rfl,by simp,⟨by simp[maxLen],fun _=>rfl⟩,.inl rfl⟩
      go_wp2_with (refine ZG rfl ?_)
      refine Stop.intro ?_
      refine ZBE (R:=IntC) (f:=Value.int .i64) (fun _ _ _ _ h=>h) ZY rfl _ _ rfl w.heap.size v2 (0+i+1) _ rfl hown2 _ _ _ (out.drop i) rfl hdrp (by simp[Value.oneCell']) (by omega) (by decide) (by omega) ?_
      intro v3 w3 hown3 hg3 hob3
      have hv2:∀ j,v2.ownBlock=some j→wo.heap.size≤j:=by
       intro j hj
       rcases hob2 with e | e
       ·rw[e] at hj;exact hv1 j hj
       ·rw[e] at hj;injection hj with hj;simp at hj;omega
      have hB3:Below wo.heap.size wo w3:=hB2.grown hg3 hs2 hv2
      have hfin:w3.ownsRow w.heap.size 3 1 v3 (out.take i ++ (xn:Int) :: out.drop i).length (ints (out.take i ++ (xn:Int) :: out.drop i)):=by
       have e1:(out.take i ++ (xn:Int) :: out.drop i).length=0+i+1+0:=by rw[HNIL.out];simp;have:=HII.out;omega
       rw[e1]
       simpa [ints] using hown3
      clear hown1 hown2 hown3 hown hread hslt
      go_wp2_with fail
      go_roundw
      case rel=>exact⟨k+1,by go_num,by omega,by rw[HN.out];exact hfin,hbel.trans (hB3.mono (by omega))⟩
      case measure=>simp[intOf];omega
     ·have hic2:i < c3:=by omega
      obtain⟨b3,o3,rfl,hcm⟩ : ∃ b3 o3,A3=some ⟨b3,o3,none⟩∧c3≤maxLen:=by
       obtain⟨A',c',he,_,⟨q1,q2⟩,q3⟩:=hread
       injection he with e1 e2 e3
       subst e1 e3
       rcases q3 with q3 | ⟨b3,o3,e,_⟩
       ·cases A3 with
        | none=>have:=q2 rfl;omega
        | some a =>
         rcases hown.2 with⟨e,_⟩ | ⟨g,cap,cur,e,_⟩
         ·cases e
         ·injection e with e;injection e with e;subst e;exact⟨_,_,rfl,q1⟩
       ·exact⟨_,_,e,q1⟩
      go_wp2
      go_quiet (fail)
      go_wp2
      go_quiet (fail)
      go_wp2_with (refine ZG rfl ?_)
      refine Stop.intro ?_
      have hbn:=hbel.size
      refine ZBE (R:=IntC) (f:=Value.int .i64) (fun _ _ _ _ h=>h) ZY rfl _ _ rfl w.heap.size _ 0 [] rfl (Zv _ #[] _ rfl (by simpa using hbn) (by omega) rfl [] rfl) _ i c3 (out.take i) rfl (hslt.mono (ZH (wo.drewN _) _)) (by simp[Value.oneCell']) (by omega) (by decide) (by simp;omega) ?_
      intro v1 w1 hown1 hg1 hob1
      have hB1:Below wo.heap.size wo w1:=Below.grown (ZAb wo _ _) hg1 (by simp) (fun k hk=>by have hk2:some wo.heap.size=some k:=hk;injection hk2 with hk2;omega)
      have hs1:=hB1.size
      have g1:w1.cell? ⟨b,o+k,none⟩=some (.int .i64 (xn:Nat)):=ZA hB1 _ _ _ g'
      go_wp2_with (refine ZG rfl ?_)
      refine Stop.intro ?_
      refine ZT ZY rfl _ _ rfl w.heap.size v1 (0+i) ([] ++ (out.take i).map (Value.int .i64)) rfl (hown1.alloc _) w1.heap.size 0 1 [.int .i64 (xn:Nat)] rfl rfl (ZQ _ _ _ _ (by simp)) (by simp[Value.oneCell']) (by omega) (by decide) (by simp;omega) ?_
      intro v2 w2 hown2 hg2 hob2
      have hv1:∀ j,v1.ownBlock=some j→wo.heap.size≤j:=by
       intro j hj
       rcases hob1 with e | e
       ·rw[e] at hj;have hk2:some wo.heap.size=some j:=hj;injection hk2 with hk2;omega
       ·rw[e] at hj;injection hj with hj;simp at hj;omega
      have hB2:Below wo.heap.size wo w2:=(hB1.alloc hs1 _).grown hg2 (by simp;omega) hv1
      have hs2:=hB2.size
      have hdrp:Ints (cmap w2) (.slice (some ⟨b3,o3+i,none⟩) (out.length - i) (c3 - i)) (out.drop i):=by
       rw[HNIL.out];exact⟨some ⟨b3,o3+i,none⟩,c3 - i,by rw[show out.length - i=0 by have:=HII.out;omega];rfl,by simp,⟨by have:=hcm;omega,fun h=>by cases h⟩,.inl rfl⟩
      go_wp2_with (refine ZG rfl ?_)
      refine Stop.intro ?_
      refine ZBE (R:=IntC) (f:=Value.int .i64) (fun _ _ _ _ h=>h) ZY rfl _ _ rfl w.heap.size v2 (0+i+1) _ rfl hown2 _ _ _ (out.drop i) rfl hdrp (by simp[Value.oneCell']) (by omega) (by decide) (by omega) ?_
      intro v3 w3 hown3 hg3 hob3
      have hv2:∀ j,v2.ownBlock=some j→wo.heap.size≤j:=by
       intro j hj
       rcases hob2 with e | e
       ·rw[e] at hj;exact hv1 j hj
       ·rw[e] at hj;injection hj with hj;simp at hj;omega
      have hB3:Below wo.heap.size wo w3:=hB2.grown hg3 hs2 hv2
      have hfin:w3.ownsRow w.heap.size 3 1 v3 (out.take i ++ (xn:Int) :: out.drop i).length (ints (out.take i ++ (xn:Int) :: out.drop i)):=by
       have e1:(out.take i ++ (xn:Int) :: out.drop i).length=0+i+1+(out.length - i):=by rw[HNIL.out];simp;have:=HII.out;omega
       rw[e1]
       simpa [ints] using hown3
      clear hown1 hown2 hown3 hown hread hslt
      go_wp2_with fail
      go_roundw
      case rel=>exact⟨k+1,by go_num,by omega,by rw[HN.out];exact hfin,hbel.trans (hB3.mono (by omega))⟩
      case measure=>simp[intOf];omega
  ·go_wp2
   go_ret
   have hk':k=l.length:=by omega
   rw[List.take_of_length_le (by omega)] at hown
   exact⟨_,rfl,hown,hbel⟩
abbrev intsV:=InnerV IntC 1
set_option maxRecDepth 100000 in
set_option maxHeartbeats 2000000 in
theorem ZFV (u:Unit_) (g:Graph) (cs:List Value) (w:World) (hr:RightG u g) (hu16:u.locks.length≤16) (hg:GraphV (cmap w) cs g) :
  Calls Tryz.prog 171 #[.agg cs.toArray] w fun e w'=>∃ v,e=.returned v∧Sl (Cells intsV) 1 (part w' w.heap.size w'.heap.size) v ((heldL g).map risingL)∧Below w.heap.size w w':=by
 have hg':=hg
 obtain⟨nv,rfl,nA,nc,rfl,-⟩:=hg'
 have hLen:=ZBu hr
 have hmost:=hr.whole.most
 have hmem:∀ l∈heldL g,∀ x∈l,0≤x∧x < 16:=fun l hl x hx=>by have:=ZDQ hr hl hx;omega
 obtain⟨L0,hL0⟩:=hr.held
 have hL:=ZCn hL0
 obtain⟨L,hLL⟩ : ∃ L,heldL g=L:=⟨_,rfl⟩
 rw[hLL] at hLen hmem hL
 rw[hLL]
 have HMEM:=Hd_ hmem;clear hmem
 have hL4:L.length≤4096:=by omega
 rw[← hL] at hL0
 have HL0:=Hd_ hL0;clear hL0 hL hLL hLen
 have hbx:=Blk.new w 69 [.string g.name,.int .i64 g.locals,.int .i64 g.slots,.slice nA g.nodes.length nc]
 have hld:∀ j v,([.string g.name,.int .i64 g.locals,.int .i64 g.slots,.slice nA g.nodes.length nc] : List Value)[j]? = some v→(w.alloc (.cells #[.string g.name,.int .i64 g.locals,.int .i64 g.slots,.slice nA g.nodes.length nc] 69)).cell? ⟨w.heap.size,0+j,none⟩=some v:=ZJ w _ _ _ rfl
 have HLD:=Hd_ hld;clear hld
 go_enter Tryz.func171,Tryz.ntmps171
 go_wp2_with (first
  | (refine ZB rfl 69 _ rfl w.heap.size 0 rfl _ _ HLD.out Tryz.underlying69 rfl (by kernel_rfl) ?_))
 refine(ZGV g [.string g.name,.int .i64 g.locals,.int .i64 g.slots,.slice nA g.nodes.length nc] _ hr.whole (hg.mono (ZH _ _))).mono ?_
 rintro e w1 (⟨v,L',rfl,h1,h2,hb1⟩ | ⟨a,rfl,h1,-⟩)
 ·have hLe:L'=L:=by have:=HL0.out;rw[h1] at this;injection this
  subst hLe
  clear h1
  have h2':=h2
  obtain⟨hA,hc,rfl,-,-,-⟩:=h2'
  have hs1:=hb1.size
  simp at hs1
  have hw1:Below w.heap.size w w1:=(ZE _ _).trans (hb1.mono (by simp))
  go_wp2
  go_loopw [5,6] (fun v5 v6 wr=>∃ (k:Nat) (S:Nat→Prop),v6=.int .i64 k∧k≤L'.length∧Acc intsV 1 26 w1.heap.size S v5 ((L'.take k).map risingL) wr∧Below w.heap.size w wr∧Below w1.heap.size w1 wr) (fun _ v6 _=>L'.length - (intOf v6).toNat)
  case atStart=>exact⟨0,_,rfl,by omega,Acc.nil _ _ _ _ _,hw1,Below.refl _ _⟩
  case round =>
   obtain⟨k,S,rfl,hk,hacc,hbel,hbel1⟩:=hrel
   by_cases hlt:k < L'.length
   ·obtain⟨l,hl⟩ : ∃ l,L'[k]? = some l:=⟨_,List.getElem?_eq_getElem hlt⟩
    obtain⟨b,o,rfl,lv,g1,g2⟩:=h2.at_ hl
    rw[Nat.mul_one] at g1
    have hpl:(part w1 (w.alloc (.cells #[.string g.name,.int .i64 g.locals,.int .i64 g.slots,.slice nA g.nodes.length nc] 69)).heap.size w1.heap.size).le (cmap wr):=(ZU _ _ _).trans (ZA hbel1)
    have g1':wr.cell? ⟨b,o+k,none⟩=some lv:=hpl _ _ _ g1
    have g2':Ints (cmap wr) lv l:=g2.mono hpl
    clear g1 g2 hpl
    have hlm:=HMEM.out l (List.mem_of_getElem? hl)
    have htk:(L'.take (k+1)).map risingL=(L'.take k).map risingL ++ [risingL l]:=by rw[List.take_succ_eq_append_getElem hlt,(List.getElem?_eq_some_iff.1 hl).2,List.map_append];rfl
    have HTK:=Hd_ htk;clear htk
    have HLM:=Hd_ hlm;clear hlm hl
    have hk0:(0:Int)≤k:=by omega
    have hkl:(k:Int) < L'.length:=by omega
    obtain⟨lA,lc,rfl,-⟩:=id g2'
    go_wp2_with (first
     | (go_at_call 186;refine(ZFI _ l _ g2' HLM.out).mono ?_;rintro e w2 ⟨rv,rfl,hro,hb2⟩;have hro':=ZF hro;obtain⟨rA,rc,rfl,-⟩:=hro')
     | (refine ZG rfl ?_))
    refine Stop.intro ?_
    have hs2:=hb2.size
    have hbs:=hbel.size
    have hbs1:=hbel1.size
    have hacc2:=(hacc.keep hb2).alloc (.cells #[.slice rA (risingL l).length rc] 26)
    obtain⟨rows,ho,hrl,hrs,hrx⟩:=hacc2.rows
    have hlen:((L'.take k).map risingL).length≤4096:=by simp;omega
    refine ZT ZBb rfl _ _ rfl w1.heap.size u5 _ rows.flatten rfl ho w2.heap.size 0 1 [.slice rA (risingL l).length rc] rfl rfl (ZQ _ _ _ _ (by simp)) (by simp[Value.oneCell']) (by omega) (by decide) (by simp;omega) ?_
    intro v' w' hown4 hgr hob
    have hv5:=hacc.lt
    have hacc3:Acc intsV 1 26 w1.heap.size (fun b=>S b∨(wr.heap.size≤b∧b < w2.heap.size)) v' ((L'.take (k+1)).map risingL) w':=by
     rw[HTK.out]
     refine hacc2.push hrl hrs hrx rfl hown4 hgr hob (fun b hb=>.inl hb) (fun b hb=>?_) ⟨_,rfl,?_⟩
     ·rcases hb with hb | hb
      ·exact hacc2.sep b hb
      ·exact⟨by omega,by simp;omega,fun e=>by have:=hv5 b e.symm;omega⟩
     ·have hx:=Z4 (R:=IntC) (f:=Value.int .i64) (fun _ _ _ _ h=>h) hro (Nat.le_refl _) (Nat.le_refl _)
      refine hx.mono ((ZAH w2 (S:=fun b=>wr.heap.size≤b∧b < w2.heap.size) fun b h1 h2=>⟨h1,h2⟩).trans (ZZ (fun b hb hlt=>?_) (fun b hb=>.inr hb)))
      rw[hgr.block b (by simp;omega) (fun e=>by have:=hv5 b e.symm;omega),Below.heap_alloc _ _ _ hlt]
    have hbel4:Below wr.heap.size wr w2:=hb2
    have hal:=hbel4.alloc hs2 (.cells #[.slice rA (risingL l).length rc] 26)
    have hle:=hbel1.size
    go_wp2_with fail
    go_roundw
    case rel=>exact⟨k+1,_,by go_num,by omega,hacc3,(hbel.trans (hal.mono hbs)).grown hgr (by simp;omega) (fun j hj=>by have:=(hv5 j hj).1;omega),(hbel1.trans (hal.mono hbs1)).grown hgr (by simp;omega) (fun j hj=>(hv5 j hj).1)⟩
    case measure=>simp[intOf];omega
   ·rw[List.take_of_length_le (by omega)] at hacc
    have hbs1:=hbel1.size
    go_wp2
    go_ret
    exact⟨u5,rfl,hacc.done (by omega) (Nat.le_refl _),hbel⟩
 ·exfalso
  have:=HL0.out
  rw[h1] at this
  cases this
end Go.Proofs.YtffgnjgphkdodaaGreatDoor
