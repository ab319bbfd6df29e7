import Derived.Test.YtffgnjgphkdodaaDoorD23
import Derived.Test.YtffgnjgphkdodaaDoorD20
import Derived.Lib.SliceRun
import Derived.Test.YtffgnjgphkdodaaDoorD5
import Derived.Test.YtffgnjgphkdodaaDoorD30
namespace Go.Proofs.YtffgnjgphkdodaaDoor
open Go Go.RowKit
set_option maxHeartbeats 1000000 in
theorem ZFt (v:Value) (l:List Int) (n:Int) (w:World) (hl:Ints (cmap w) v l) :
  Calls Tryd.prog 78 #[v,.int .i64 n] w fun e w'=>∃ r:Int,e=.returned (.int .i64 r)∧(0≤r ↔ n∈l)∧w'=w:=by
 obtain⟨A,c,rfl,-⟩:=id hl
 have bl:=hl.len.2.2
 go_enter Tryd.func78,Tryd.ntmps78
 go_wp2
 go_loop [8] (fun v8=>∃ (k:Nat),v8=.int .i64 k∧k≤l.length∧Hid (n ∉ l.take k)) (fun v8=>l.length - (intOf v8).toNat)
 case atStart=>exact⟨0,rfl,by omega,by simp[Hid]⟩
 case round =>
  obtain⟨k,rfl,hk,HQ⟩:=hrel
  by_cases hlt:k < l.length
  ·obtain⟨x,hx⟩ : ∃ x,l[k]? = some x:=⟨_,List.getElem?_eq_getElem hlt⟩
   obtain⟨b,o,rfl,g1⟩:=hl.at_ hx
   rw[Nat.mul_one] at g1
   have g2:w.cell? ⟨b,o+k,none⟩=some (.int .i64 x):=g1
   have hk0:(0:Int)≤k:=by omega
   have hkl:(k:Int) < l.length:=by omega
   have HX:=Hd_ hx;clear hx g1
   by_cases h1:n=x
   ·have hd:(n == x)=true:=by simp[h1]
    have HM:Hid (n∈l):=Hd_ (by rw[h1];exact List.mem_of_getElem? HX.out)
    clear h1
    go_wp2
    go_ret
    exact⟨(k:Int),rfl,⟨fun _=>HM.out,fun _=>by omega⟩,rfl⟩
   ·have hd:(n == x)=false:=by simp[h1]
    have HNX:Hid (n ∉ l.take (k+1)):=Hd_ fun h=>by
     rcases(List.mem_append.1 (by
      have h3:=(List.getElem?_eq_some_iff.1 HX.out).2
      rw[List.take_succ_eq_append_getElem hlt,h3] at h
      exact h)) with h | h
     ·exact HQ.out h
     ·exact h1 (by simpa using h)
    clear h1
    go_wp2
    go_round
    case rel=>exact⟨k+1,by go_num,by omega,HNX⟩
    case measure=>simp[intOf];omega
  ·have HN:Hid (n ∉ l):=Hd_ (by
    have h3:=HQ.out
    rwa [List.take_of_length_le (by omega)] at h3)
   go_wp2
   go_ret
   exact⟨-1,rfl,⟨fun h=>by omega,fun h=>absurd h HN.out⟩,rfl⟩
theorem ZAJ (v:Value) (l:List Int) (n:Int) (w:World) (hl:Ints (cmap w) v l) :
  Calls Tryd.prog 54 #[v,.int .i64 n] w fun e w'=>e=.returned (.bool (decide (n∈l)))∧w'=w:=by
 have HI:=Hd_ (ZFt v l n w hl)
 obtain⟨A,c,rfl,-⟩:=id hl
 by_cases h:n∈l
 ·rw[decide_eq_true h]
  have HM:=Hd_ h
  clear h hl
  go_enter Tryd.func54,Tryd.ntmps54
  go_wp2_with (first
   | (go_at_call 78
      refine(HI.out).mono ?_
      rintro e w1 ⟨r,rfl,hr,rfl⟩
      have hd:decide ((0:Int)≤r)=true:=decide_eq_true (hr.2 HM.out)
      clear hr))
  go_ret
  exact⟨rfl,rfl⟩
 ·rw[decide_eq_false h]
  have HM:=Hd_ h
  clear h hl
  go_enter Tryd.func54,Tryd.ntmps54
  go_wp2_with (first
   | (go_at_call 78
      refine(HI.out).mono ?_
      rintro e w1 ⟨r,rfl,hr,rfl⟩
      have hd:decide ((0:Int)≤r)=false:=decide_eq_false (fun q=>HM.out (hr.1 q))
      clear hr))
  go_ret
  exact⟨rfl,rfl⟩
def withoutL (l:List Int) (n:Int) : List Int:=l.filter fun k=>decide (k≠n)
theorem ZBx {l:List Int} {n:Int} (h:n ∉ l) : withoutL l n=l:=by
 unfold withoutL
 rw[List.filter_eq_self]
 intro a ha
 simp only[ne_eq,decide_not,Bool.not_eq_true',decide_eq_false_iff_not]
 exact fun e=>h (e ▸ ha)
theorem ZAP (l:List Int) (n x:Int) : withoutL (l ++ [x]) n=withoutL l n ++ if x=n then [] else [x]:=by
 unfold withoutL
 rw[List.filter_append]
 congr 1
 by_cases h:x=n <;> simp[h]
theorem ZEw (l:List Int) (n:Int) : (withoutL l n).length≤l.length:=List.length_filter_le _ _
set_option maxHeartbeats 400000 in
theorem ZEu (k n:Int) (B:Nat) (w:World) (hb:w.cell? ⟨B,0,none⟩=some (.int .i64 n)) :
  Calls Tryd.prog 56 #[.int .i64 k,.pointer (some ⟨B,0,none⟩)] w fun e w'=>e=.returned (.bool (k == n))∧w'=w:=by
 go_enter Tryd.func56,Tryd.ntmps56
 go_wp2
 go_ret
 exact⟨rfl,rfl⟩
set_option maxHeartbeats 1000000 in
theorem ZDS (v:Value) (l:List Int) (n:Int) (B:Nat) (w:World) (hl:Ints (cmap w) v l) (hb:w.cell? ⟨B,0,none⟩=some (.int .i64 n)) :
  Calls Tryd.prog 79 #[v,.func (.func 56) #[] #[.pointer (some ⟨B,0,none⟩)]] w fun e w'=>∃ r:Int,e=.returned (.int .i64 r)∧((r = -1∧n ∉ l)∨∃ k:Nat,r=k∧l[k]? = some n∧n ∉ l.take k)∧w'=w:=by
 obtain⟨A,c,rfl,-⟩:=id hl
 have bl:=hl.len.2.2
 go_enter Tryd.func79,Tryd.ntmps79
 go_wp2
 go_loop [8] (fun v8=>∃ (k:Nat),v8=.int .i64 k∧k≤l.length∧Hid (n ∉ l.take k)) (fun v8=>l.length - (intOf v8).toNat)
 case atStart=>exact⟨0,rfl,by omega,by simp[Hid]⟩
 case round =>
  obtain⟨k,rfl,hk,HQ⟩:=hrel
  by_cases hlt:k < l.length
  ·obtain⟨x,hx⟩ : ∃ x,l[k]? = some x:=⟨_,List.getElem?_eq_getElem hlt⟩
   obtain⟨b,o,rfl,g1⟩:=hl.at_ hx
   rw[Nat.mul_one] at g1
   have g2:w.cell? ⟨b,o+k,none⟩=some (.int .i64 x):=g1
   have hk0:(0:Int)≤k:=by omega
   have hkl:(k:Int) < l.length:=by omega
   have HX:=Hd_ hx
   have HC:=Hd_ (ZEu x n B w hb)
   clear hx g1
   by_cases h1:x=n
   ·rw[show(x == n)=true by simp[h1]] at HC
    have HM:Hid (l[k]? = some n):=Hd_ (by rw[HX.out,h1])
    clear h1
    go_wp2_with (first
     | (go_at_call 56
        refine(HC.out).mono ?_
        rintro e w1 ⟨rfl,rfl⟩))
    go_ret
    exact⟨(k:Int),rfl,.inr ⟨k,rfl,HM.out,HQ.out⟩,rfl⟩
   ·rw[show(x == n)=false by simp[h1]] at HC
    have HNX:Hid (n ∉ l.take (k+1)):=Hd_ fun h=>by
     have h3:=(List.getElem?_eq_some_iff.1 HX.out).2
     rw[List.take_succ_eq_append_getElem hlt,h3] at h
     rcases List.mem_append.1 h with h | h
     ·exact HQ.out h
     ·exact h1 (List.mem_singleton.1 h).symm
    clear h1
    go_wp2_with (first
     | (go_at_call 56
        refine(HC.out).mono ?_
        rintro e w1 ⟨rfl,rfl⟩))
    go_round
    case rel=>exact⟨k+1,by go_num,by omega,HNX⟩
    case measure=>simp[intOf];omega
  ·have HN:Hid (n ∉ l):=Hd_ (by
    have h3:=HQ.out
    rwa [List.take_of_length_le (by omega)] at h3)
   go_wp2
   go_ret
   exact⟨-1,rfl,.inl ⟨rfl,HN.out⟩,rfl⟩
theorem ZJZ {w:World} {base g c n m:Nat} {e:TypeId} {xs:List Value} (h:w.ownsRow base e 1 (.slice (some ⟨g,0,none⟩) n c) n xs) (hm:m≤n) : w.ownsRow base e 1 (.slice (some ⟨g,0,none⟩) m c) m (xs.take m):=by
 obtain⟨h1,h2⟩:=h
 rcases h2 with⟨h0,_⟩ | ⟨g',cap',cur,hv,hg,hh,hn,hcap,hsz,htake⟩
 ·cases h0
 ·cases hv
  refine⟨by rw[List.length_take];omega,.inr ⟨g,c,cur,rfl,hg,hh,by omega,hcap,hsz,?_⟩⟩
  rw[← htake,List.take_take]
  congr 1
  omega
theorem ZIm {w:World} {base g c n k:Nat} {e:TypeId} {xs:List Value} (h:w.ownsRow base e 1 (.slice (some ⟨g,0,none⟩) n c) n xs) (hk:n≤k) (u:Value) : (w.setCell ⟨g,k,none⟩ u).ownsRow base e 1 (.slice (some ⟨g,0,none⟩) n c) n xs:=by
 obtain⟨h1,h2⟩:=h
 rcases h2 with⟨h0,_⟩ | ⟨g',cap',cur,hv,hg,hh,hn,hcap,hsz,htake⟩
 ·cases h0
 ·cases hv
  have hb:Blk w g e cur.toList:=Blk.of hh rfl
  have hb2:=hb.set_ k u
  refine⟨h1,.inr ⟨g,c,(cur.toList.set k u).toArray,rfl,hg,hb2,hn,hcap,by simpa using hsz,?_⟩⟩
  rw[← htake]
  apply List.ext_getElem?
  intro i
  rw[List.getElem?_take,List.getElem?_take]
  by_cases c:i < n * 1
  ·rw[if_pos c,if_pos c,List.getElem?_set,if_neg (by omega)]
  ·rw[if_neg c,if_neg c]
theorem ZE9 {base g c n:Nat} {e:TypeId} {xs:List Value} : ∀ (vs:List Value) (k:Nat) (w:World),n≤k→w.ownsRow base e 1 (.slice (some ⟨g,0,none⟩) n c) n xs→(w.setCells g k vs).ownsRow base e 1 (.slice (some ⟨g,0,none⟩) n c) n xs
 | [],_,_,_,h=>h
 | v :: vs,k,w,hk,h=>ZE9 vs (k+1) _ (by omega) (ZIm h hk v)
theorem ZDT {g:Nat} {w0:World} : ∀ (vs:List Value) (k:Nat) (w:World),w0.grownBy w (some g)→w0.grownBy (w.setCells g k vs) (some g)
 | [],_,_,h=>h
 | v :: vs,k,w,h=>ZDT vs (k+1) _ ⟨h.os,h.tape,h.output,by rw[World.size_setCell];exact h.size,fun b hb hne=>(Below.heap_setCell _ _ _ _ (fun e=>hne (by rw[e]))).trans (h.block b hb hne)⟩
set_option maxRecDepth 100000 in
set_option maxHeartbeats 2000000 in
theorem ZCr (base:Nat) (v:Value) (l:List Int) (n:Int) (B:Nat) (w:World) (h:w.ownsRow base 3 1 v l.length (ints l)) (hb:w.cell? ⟨B,0,none⟩=some (.int .i64 n)) (hB:v.ownBlock≠some B) (hll:l.length≤4294967296) :
  Calls Tryd.prog 55 #[v,.func (.func 56) #[] #[.pointer (some ⟨B,0,none⟩)]] w fun e w'=>∃ v',e=.returned v'∧w'.ownsRow base 3 1 v' (withoutL l n).length (ints (withoutL l n))∧w.grownBy w' v.ownBlock:=by
 obtain⟨A,c,rfl,hcap⟩:=ZE h
 have hi:Ints (cmap w) (.slice A l.length c) l:=(ZA0 (f:=fun x:Int=>Value.int .i64 x) (R:=IntC) (fun _ _ _ _ h=>h) h (Nat.le_refl _) (Nat.le_refl _)).mono (ZV _ _ _)
 have HIF:=Hd_ (ZDS _ l n B w hi hb)
 have HO0:=Hd_ h
 have HBC:=Hd_ hb
 have HBN:=Hd_ hB
 clear h hi hb hB
 go_enter Tryd.func55,Tryd.ntmps55
 by_cases hn:n∈l
 ·have HN:=Hd_ hn
  clear hn
  go_wp2_with (first
   | (go_at_call 79
      refine(HIF.out).mono ?_
      rintro e w1 ⟨r,rfl,hr,rfl⟩
      obtain⟨k0,rfl,hk0,hkt⟩ : ∃ k:Nat,r=k∧l[k]? = some n∧n ∉ l.take k:=by
       rcases hr with⟨_,q⟩ | q
       ·exact absurd HN.out q
       ·exact q
      have d0:((k0:Int) == -1)=false:=by rw[beq_eq_false_iff_ne];omega
      have hkl:=(List.getElem?_eq_some_iff.1 hk0).1
      have HK:=Hd_ (And.intro hk0 hkt)
      clear hr hk0 hkt))
  go_loopw [5,6] (fun v5 v6 wr=>∃ (i j:Nat) (L:List Int),v5=.int .i64 i∧v6=.int .i64 j∧i < j∧j≤l.length∧Hid (L.length=l.length)∧Hid (L.take i=withoutL (l.take j) n)∧Hid (∀ k,j≤k→L[k]? = l[k]?)∧Hid (wr.ownsRow base 3 1 (.slice A l.length c) l.length (ints L))∧Hid (w1.grownBy wr (Value.slice A l.length c).ownBlock)∧Hid (wr.cell? ⟨B,0,none⟩=some (.int .i64 n))) (fun _ v6 _=>l.length - (intOf v6).toNat)
  case atStart =>
   refine⟨k0,k0+1,l,rfl,by go_num,by omega,by omega,Hd_ rfl,Hd_ ?_,Hd_ (fun _ _=>rfl),HO0,Hd_ (World.grownBy.refl _ _),HBC⟩
   have he:l[k0]=n:=by have:=HK.out.1;rw[List.getElem?_eq_getElem hkl] at this;injection this
   rw[List.take_succ_eq_append_getElem hkl,he,ZAP,if_pos rfl,List.append_nil,ZBx HK.out.2]
  case round =>
   obtain⟨i,j,L,rfl,rfl,hij,hjl,HLL,HPR,HRS,HO,HG,HB⟩:=hrel
   have hL:=HLL.out
   obtain⟨gb,cc,e,-,hgl,hcc,hgc⟩:=ZW HO.out (by omega)
   injection e with e _ e3
   subst e e3
   have i0:(0:Int)≤i:=by omega
   have il:(i:Int) < l.length:=by omega
   have i32:(i:Int)≤4294967296:=by omega
   have j0:(0:Int)≤j:=by omega
   have j32:(j:Int)≤4294967296:=by omega
   have HL2:=Hd_ hL
   by_cases hlt:j < l.length
   ·obtain⟨x,hx⟩ : ∃ x,l[j]? = some x:=⟨_,List.getElem?_eq_getElem hlt⟩
    have hLx:L[j]? = some x:=by rw[HRS.out j (Nat.le_refl _)];exact hx
    have jcell:wr.cell? ⟨gb,j,none⟩=some (.int .i64 x):=(hgc j (by omega)).trans (by simp[ints,hLx])
    obtain⟨zi,hzi⟩ : ∃ z,L[i]? = some z:=⟨L[i]'(by omega),List.getElem?_eq_getElem _⟩
    have icell:wr.cell? ⟨gb,i,none⟩=some (.int .i64 zi):=(hgc i (by omega)).trans (by simp[ints,hzi])
    have ifr:=World.ownsRow.frozenAt HO.out i
    have jl:(j:Int) < l.length:=by omega
    have HC:=Hd_ (ZEu x n B wr HB.out)
    have htk:l.take (j+1)=l.take j ++ [x]:=by
     rw[List.take_succ_eq_append_getElem hlt]
     congr 2
     rw[List.getElem?_eq_getElem hlt] at hx
     injection hx
    have HX:=Hd_ (And.intro hx htk)
    clear hx hLx htk hL hgc hzi
    by_cases h1:x=n
    ·rw[show(x == n)=true by simp[h1]] at HC
     have HNX:Hid (L.take i=withoutL (l.take (j+1)) n):=Hd_ (by rw[HX.out.2,ZAP,if_pos h1,List.append_nil];exact HPR.out)
     clear h1
     go_wp2_with (first
      | (go_at_call 56
         refine(HC.out).mono ?_
         rintro e w2 ⟨rfl,rfl⟩))
     go_roundw
     case rel=>exact⟨i,j+1,L,rfl,by go_num,by omega,by omega,HLL,HNX,Hd_ (fun k hk=>HRS.out k (by omega)),HO,HG,HB⟩
     case measure=>simp[intOf];omega
    ·rw[show(x == n)=false by simp[h1]] at HC
     have hst:=World.ownsRow.stored HO.out i (.int .i64 x)
     have HST:=Hd_ hst
     have HNX:Hid ((L.set i x).take (i+1)=withoutL (l.take (j+1)) n):=Hd_ (by
      rw[HX.out.2,ZAP,if_neg h1,← HPR.out]
      have hi2:i < (L.set i x).length:=by rw[List.length_set];have:=HL2.out;omega
      rw[List.take_succ_eq_append_getElem hi2,List.getElem_set_self]
      congr 1
      rw[List.take_set_of_le (Nat.le_refl _)])
     have HBC2:Hid ((wr.setCell ⟨gb,i,none⟩ (.int .i64 x)).cell? ⟨B,0,none⟩=some (.int .i64 n)):=Hd_ (by
      rw[World.cell?_of_block (w:=wr) (Below.heap_setCell _ _ _ _ (fun e=>HBN.out (by have e:B=gb:=e;rw[e];rfl)))]
      exact HB.out)
     clear h1 hst
     go_wp2_with (first
      | (go_at_call 56
         refine(HC.out).mono ?_
         rintro e w2 ⟨rfl,rfl⟩))
     go_roundw
     case rel=>exact⟨i+1,j+1,L.set i x,by go_num,by go_num,by omega,by omega,Hd_ (by rw[List.length_set];exact HL2.out),HNX,Hd_ (fun k hk=>by rw[List.getElem?_set,if_neg (by omega)];exact HRS.out k (by omega)),Hd_ (by have:=HST.out.1;rwa [show(ints L).set i (.int .i64 x)=ints (L.set i x) by simp[ints,List.map_set]] at this),Hd_ (ZJj HG.out HST.out.2),HBC2⟩
     case measure=>simp[intOf];omega
   ·obtain rfl:j=l.length:=by omega
    have hcl:∀ ty,(Builtin.clear_ #[39] ty #[.slice (some ⟨gb,i,none⟩) (l.length - i) (c - i)]).run Tryd.prog wr=.ok (.tuple #[]) (wr.setCells gb i (List.replicate (l.length - i) (.int .i64 0))):=fun ty =>
     Lib.run_clear_slice wr _ _ ty _ Z2.ht (fun _=>by kernel_rfl) rfl rfl gb i _ _ (by omega) (fun k hk=>by
      rw[hgc (i+k) (by omega),List.getElem?_eq_getElem (by simp[ints];omega)];rfl) (fun k hk=>World.ownsRow.frozenAt HO.out (i+k))
    have hcut:=ZE9 (List.replicate (l.length - i) (.int .i64 0)) i wr (Nat.le_refl _) (ZJZ HO.out (show i≤l.length by omega))
    have htk:(ints L).take i=ints (withoutL l n):=by
     have h1:=HPR.out
     rw[List.take_length] at h1
     rw[← h1]
     simp[ints,List.map_take]
    rw[htk] at hcut
    have hlen:(withoutL l n).length=i:=by
     have h1:=HPR.out
     rw[List.take_length] at h1
     rw[← h1,List.length_take]
     omega
    have hgg:=ZDT (List.replicate (l.length - i) (.int .i64 0)) i wr HG.out
    have HF:=Hd_ (And.intro hcut (And.intro hgg hlen))
    have hic:(i:Int)≤c:=by omega
    have hlc:(l.length:Int)≤c:=by omega
    have hil2:(i:Int)≤l.length:=by omega
    clear hcut htk hlen hgg hgc hL
    go_wp2
    go_ret
    exact⟨.slice (some ⟨gb,0,none⟩) i c,rfl,by rw[HF.out.2.2];exact HF.out.1,HF.out.2.1⟩
 ·have HN:=Hd_ hn
  clear hn
  go_wp2_with (first
   | (go_at_call 79
      refine(HIF.out).mono ?_
      rintro e w1 ⟨r,rfl,hr,rfl⟩
      obtain rfl:r = -1:=by
       rcases hr with⟨q,_⟩ | ⟨k,_,q,_⟩
       ·exact q
       ·exact absurd (List.mem_of_getElem? q) HN.out
      clear hr))
  go_ret
  exact⟨_,rfl,by rw[ZBx HN.out];exact HO0.out,World.grownBy.refl _ _⟩
set_option maxRecDepth 100000 in
set_option maxHeartbeats 1000000 in
theorem ZAg (v:Value) (l:List Int) (n:Int) (w:World) (hl:Ints (cmap w) v l) (hll:l.length≤4294967295) :
  Calls Tryd.prog 30 #[v,.int .i64 n] w fun e w'=>∃ v',e=.returned v'∧w'.ownsRow w.heap.size 3 1 v' (withoutL l n).length (ints (withoutL l n))∧Below w.heap.size w w':=by
 have HCL:=Hd_ fun w1 (h:Below w.heap.size w w1)=>ZAF v l w1 (hl.mono (ZA h)) (by omega)
 obtain⟨A,c,rfl,-⟩:=id hl
 have hbx:=Blk.new w 3 [.int .i64 n]
 have hb0:=ZB w (.cells #[.int .i64 n] 3)
 have HBX:=Hd_ (And.intro hbx hb0)
 clear hbx hb0 hl
 go_enter Tryd.func30,Tryd.ntmps30
 go_wp2_with (first
  | (go_at_call 24
     refine(HCL.out _ HBX.out.2).mono ?_
     rintro e w1 ⟨v1,rfl,ho1,hb1⟩
     obtain⟨A1,c1,rfl,-⟩:=ZE ho1
     have hx1:=(HBX.out.1.below hb1 HBX.out.1.lt).cell 0
     have hne:(Value.slice A1 l.length c1).ownBlock≠some w.heap.size:=fun e=>by have:=Z5 ho1 _ e;simp at this;omega
     have HDF:=Hd_ (ZCr _ _ l n w.heap.size w1 ho1 hx1 hne (by omega))
     have H1:=Hd_ (And.intro ho1 (HBX.out.2.trans (hb1.mono HBX.out.2.size)))
     clear ho1 hb1 hx1 hne)
  | (go_at_call 55
     refine(HDF.out).mono ?_
     rintro e w2 ⟨v2,rfl,ho2,hg2⟩
     have H2:=Hd_ (And.intro ho2 hg2)
     clear ho2 hg2))
 go_ret
 exact⟨v2,rfl,Zi H2.out.1 (by simp),H1.out.2.grown H2.out.2 H1.out.2.size (fun b hb=>by have:=Z5 H1.out.1 b hb;simp at this;omega)⟩
noncomputable def faultE (u:Unit_) (t:Int) (F:List Int) (n:Int) : Int :=
 if askE u t=0 then (match u.graphs[t.toNat]? with
  | some g=>if fenB g.nodes.length (-1) F=true∧n∈F then 0 else 110
  | none=>0) else askE u t
theorem ZBg {u:Unit_} {t:Int} {F:List Int} {n:Int} (h:askE u t≠0) : faultE u t F n=askE u t:=by
 unfold faultE
 rw[if_neg h]
theorem ZB9 {u:Unit_} {t:Int} {F:List Int} {n:Int} {g:Graph} (h:askE u t=0) (hg:u.graphs[t.toNat]? = some g) : faultE u t F n=if fenB g.nodes.length (-1) F=true∧n∈F then 0 else 110:=by
 unfold faultE
 rw[if_pos h,hg]
theorem Zy {u:Unit_} {t:Int} {F:List Int} {n:Int} (h:faultE u t F n=0) : askE u t=0∧∃ (tn:Nat) (g:Graph),t=tn∧u.graphs[tn]? = some g∧fenB g.nodes.length (-1) F=true∧n∈F:=by
 by_cases hE:askE u t=0
 ·obtain⟨hc,h0,h1⟩:=Zw hE
  obtain⟨tn,rfl⟩:=Int.eq_ofNat_of_zero_le h0
  obtain⟨g,hg⟩ : ∃ g,u.graphs[tn]? = some g:=⟨_,List.getElem?_eq_getElem (by omega)⟩
  rw[ZB9 hE (by rw[Int.toNat_natCast];exact hg)] at h
  split at h
  ·rename_i hh
   exact⟨hE,tn,g,rfl,hg,hh.1,hh.2⟩
  ·cases h
 ·rw[ZBg hE] at h
  exact absurd h hE
set_option maxHeartbeats 1000000 in
theorem ZCj (g:Graph) (cs:List Value) (v:Value) (F:List Int) (w:World) (hg:GraphV (cmap w) cs g) (hF:Ints (cmap w) v F) :
  Calls Tryd.prog 39 #[.agg cs.toArray,v] w fun e w'=>e=.returned (.bool (fenB g.nodes.length (-1) F))∧Below w.heap.size w w':=by
 obtain⟨nv,rfl,hn⟩:=hg
 obtain⟨nA,nc,rfl,-⟩:=id hn
 obtain⟨A,c,rfl,-⟩:=id hF
 have bF:=hF.len.2.2
 have bn:=hn.len.2.2
 obtain⟨N,HN⟩ : ∃ N,Hid (g.nodes.length=N):=⟨_,rfl⟩
 rw[HN.out] at bn ⊢
 obtain⟨r,hr⟩ : ∃ r,fenB N (-1) F=r:=⟨_,rfl⟩
 rw[hr]
 have HR:=Hd_ hr;clear hr
 have hb0:=ZB w (.cells #[.string g.name,.int .i64 g.locals,.int .i64 g.slots,.slice nA g.nodes.length nc] 38)
 have hbx:=Blk.new w 38 [.string g.name,.int .i64 g.locals,.int .i64 g.slots,.slice nA g.nodes.length nc]
 rw[HN.out] at hb0 hbx
 go_enter Tryd.func39,Tryd.ntmps39
 go_wp2
 go_loopw [9] (fun v9 wr=>∃ (k:Nat) (q:Int),v9=.int .i64 k∧k≤F.length∧-1≤q∧Hid (fenB N q (F.drop k)=r)∧Hid ((k=0∧q = -1)∨∃ j,k=j+1∧F[j]? = some q)∧Blk wr w.heap.size 38 [.string g.name,.int .i64 g.locals,.int .i64 g.slots,.slice nA N nc]∧Below w.heap.size w wr) (fun v9 _=>F.length - (intOf v9).toNat)
 case atStart=>exact⟨0,-1,rfl,by omega,by omega,HR,.inl ⟨rfl,rfl⟩,hbx,hb0⟩
 case round =>
  obtain⟨k,q,rfl,hk,hq1,HQ,HP,hbx,hbel⟩:=hrel
  have hc3:=hbx.cell 3
  have hlt3:=hbx.lt
  by_cases hlt:k < F.length
  ·obtain⟨x,hx⟩ : ∃ x,F[k]? = some x:=⟨_,List.getElem?_eq_getElem hlt⟩
   obtain⟨b,o,rfl,g1⟩:=hF.at_ hx
   rw[Nat.mul_one] at g1
   have g2:wr.cell? ⟨b,o+k,none⟩=some (.int .i64 x):=ZA hbel _ _ _ g1
   have hf:=ZH5 (N:=N) (q:=q) hx
   have hk0:(0:Int)≤k:=by omega
   have hkl:(k:Int) < F.length:=by omega
   have HF:=Hd_ hf
   have HX:=Hd_ hx;clear hf hx g1
   by_cases h0:x < 0
   ·have hd:decide (x < 0)=true:=by simp[h0]
    have hrr:r=false:=by
     rw[← HQ.out,HF.out,decide_eq_false (by omega)];rfl
    subst hrr
    go_wp2
    go_ret
    exact⟨rfl,hbel⟩
   ·have hd:decide (x < 0)=false:=by simp;omega
    by_cases h2:(N:Int)≤x
    ·have hd2:decide ((N:Int)≤x)=true:=by simp;omega
     have hrr:r=false:=by rw[← HQ.out,HF.out,decide_eq_false (by omega)];rfl
     subst hrr
     go_wp2
     go_ret
     exact⟨rfl,hbel⟩
    ·have hd2:decide ((N:Int)≤x)=false:=by simp;omega
     have key:q < x→Hid (fenB N x (F.drop (k+1))=r):=fun h=>by
      refine Hd_ ?_
      rw[← HQ.out,HF.out,decide_eq_true ⟨h,by omega⟩];rfl
     have HP2:Hid ((k+1=0∧x = -1)∨∃ j,k+1=j+1∧F[j]? = some x):=.inr ⟨k,rfl,HX.out⟩
     rcases HP.out with⟨rfl,rfl⟩ | ⟨j,rfl,hj⟩
     ·have K:=key (by omega)
      clear key
      have g0:wr.cell? ⟨b,o,none⟩=some (.int .i64 x):=g2
      have hz:decide ((0:Int) < 0)=false:=by decide
      go_wp2
      go_roundw
      case rel=>exact⟨1,x,by go_num,by omega,by omega,K,HP2,hbx,hbel⟩
      case measure=>simp[intOf];omega
     ·have hd3:decide ((0:Int) < ((j+1:Nat) : Int))=true:=decide_eq_true (by omega)
      obtain⟨b',o',e',g3⟩:=hF.at_ hj
      injection e' with e'
      injection e' with e1 e2
      subst e1 e2
      rw[Nat.mul_one] at g3
      have g4:wr.cell? ⟨b,o+j,none⟩=some (.int .i64 q):=ZA hbel _ _ _ g3
      have hj0:(0:Int)≤j:=by omega
      have hjl:(j:Int) < F.length:=by omega
      have HJ:=Hd_ hj;clear hj g3
      by_cases hq:q < x
      ·have hd4:decide (x≤q)=false:=by simp;omega
       have K:=key hq
       clear key
       go_wp2
       go_roundw
       case rel=>exact⟨j+1+1,x,by go_num,by omega,by omega,K,HP2,hbx,hbel⟩
       case measure=>simp[intOf];omega
      ·have hd4:decide (x≤q)=true:=by simp;omega
       have hrr:r=false:=by rw[← HQ.out,HF.out,decide_eq_false (by omega)];rfl
       subst hrr
       clear key
       go_wp2
       go_ret
       exact⟨rfl,hbel⟩
  ·have hrr:r=true:=by rw[← HQ.out,ZGR (by omega)]
   subst hrr
   go_wp2
   go_ret
   exact⟨rfl,hbel⟩
set_option maxRecDepth 100000 in
set_option maxHeartbeats 2000000 in
theorem ZCl (u:Unit_) (cs:List Value) (t:Int) (v:Value) (F:List Int) (n:Int) (w:World) (hu:UnitV (cmap w) cs u) (hok:UOk u) (hF:Ints (cmap w) v F) :
  Calls Tryd.prog 29 #[.agg cs.toArray,.int .i64 t,v,.int .i64 n] w fun e w'=>e=.returned (.int .i64 (faultE u t F n))∧Below w.heap.size w w':=by
 have HC:=Hd_ fun w1 (h:Below w.heap.size w w1)=>Zz u cs w1 (hu.mono (ZA h)) hok
 obtain⟨sv,lv,gv,rfl,-,-,hgs⟩:=hu
 obtain⟨gA,gc,rfl,-⟩:=id hgs
 have hgl:=hgs.len.2.2
 have hbx:=Blk.new w 25 [sv,lv,.slice gA u.graphs.length gc]
 have hb0:=ZB w (.cells #[sv,lv,.slice gA u.graphs.length gc] 25)
 have HBX:=Hd_ (And.intro hbx hb0)
 have HG:=Hd_ hgs
 clear hbx hb0 hgs
 cases hc:checkF u with
 | some r =>
  obtain⟨r1,r2⟩:=r
  have hE:=ZGY (u:=u) (t:=t) (by rw[hc];simp)
  rw[ZBg (by rw[hE];decide),hE]
  rw[hc] at HC
  clear hc hE hF
  go_enter Tryd.func29,Tryd.ntmps29
  go_wp2_with (first
   | (go_at_call 22
      refine(HC.out _ HBX.out.2).mono ?_
      rintro e w1 ⟨rfl,hb1⟩
      have HB1:=Hd_ (HBX.out.2.trans (hb1.mono HBX.out.2.size))
      simp only[checkV]
      clear hb1))
  go_ret
  exact⟨rfl,HB1.out⟩
 | none =>
  rw[hc] at HC
  have HCC:=Hd_ hc
  clear hc
  by_cases h0:t < 0
  ·have d0:decide (t < 0)=true:=decide_eq_true h0
   have hE:=ZBi (u:=u) (t:=t) HCC.out (by omega)
   rw[ZBg (by rw[hE];decide),hE]
   clear hE hF
   go_enter Tryd.func29,Tryd.ntmps29
   go_wp2_with (first
    | (go_at_call 22
       refine(HC.out _ HBX.out.2).mono ?_
       rintro e w1 ⟨rfl,hb1⟩
       have HB1:=Hd_ (HBX.out.2.trans (hb1.mono HBX.out.2.size))
       simp only[checkV]
       clear hb1))
   go_ret
   exact⟨rfl,HB1.out⟩
  ·have d0:decide (t < 0)=false:=decide_eq_false h0
   have h00:0≤t:=by omega
   by_cases h1:t < u.graphs.length
   ·have hE:=ZCZ (u:=u) (t:=t) HCC.out ⟨h00,h1⟩
    obtain⟨tn,rfl⟩:=Int.eq_ofNat_of_zero_le h00
    obtain⟨g,hg⟩ : ∃ g,u.graphs[tn]? = some g:=⟨_,List.getElem?_eq_getElem (by omega)⟩
    have hfe:=ZB9 (F:=F) (n:=n) hE (by rw[Int.toNat_natCast];exact hg)
    have d1:decide ((u.graphs.length:Int)≤(tn:Int))=false:=decide_eq_false (by omega)
    obtain⟨gb,go,rfl,gcs,hgv0,hgc⟩:=HG.out.at_ hg
    have HRT:=Hd_ fun w1 (h:Below w.heap.size w w1)=>ZCj g gcs v F w1 (hgv0.mono (ZA h)) (hF.mono (ZA h))
    have HCT:=Hd_ fun w1 (h:Below w.heap.size w w1)=>ZAJ v F n w1 (hF.mono (ZA h))
    obtain⟨nv,rfl,hnv⟩:=hgv0
    have hld:∀ w1,Below w.heap.size w w1→∀ j x,([.string g.name,.int .i64 g.locals,.int .i64 g.slots,nv] : List Value)[j]? = some x→w1.cell? ⟨gb,go+tn * 4+j,none⟩=some x:=fun w1 hb j x hj=>ZA hb _ _ _ (hgc j x hj)
    have HLD:=Hd_ hld
    clear hld hE hg hgc hF hnv
    cases hfb:fenB g.nodes.length (-1) F with
    | false =>
     rw[hfe,if_neg (by rw[hfb];simp)]
     rw[hfb] at HRT
     clear hfb hfe
     go_enter Tryd.func29,Tryd.ntmps29
     go_wp2_with (first
      | (go_at_call 22
         refine(HC.out _ HBX.out.2).mono ?_
         rintro e w1 ⟨rfl,hb1⟩
         have c2:=(HBX.out.1.below hb1 HBX.out.1.lt).cell 2
         have HB1:=Hd_ (HBX.out.2.trans (hb1.mono HBX.out.2.size))
         simp only[checkV]
         clear hb1)
      | (refine ZC rfl 38 _ rfl gb (go+tn * 4) rfl _ _ (HLD.out _ HB1.out) Tryd.underlying38 rfl (by kernel_rfl) ?_)
      | (go_at_call 39
         refine(HRT.out _ HB1.out).mono ?_
         rintro e w2 ⟨rfl,hb2⟩
         have HB2:=Hd_ (HB1.out.trans (hb2.mono HB1.out.size))
         clear hb2))
     go_ret
     exact⟨rfl,HB2.out⟩
    | true =>
     by_cases hn:n∈F
     ·rw[hfe,if_pos ⟨hfb,hn⟩]
      rw[hfb] at HRT
      rw[decide_eq_true hn] at HCT
      clear hfb hfe hn
      go_enter Tryd.func29,Tryd.ntmps29
      go_wp2_with (first
       | (go_at_call 22
          refine(HC.out _ HBX.out.2).mono ?_
          rintro e w1 ⟨rfl,hb1⟩
          have c2:=(HBX.out.1.below hb1 HBX.out.1.lt).cell 2
          have HB1:=Hd_ (HBX.out.2.trans (hb1.mono HBX.out.2.size))
          simp only[checkV]
          clear hb1)
       | (refine ZC rfl 38 _ rfl gb (go+tn * 4) rfl _ _ (HLD.out _ HB1.out) Tryd.underlying38 rfl (by kernel_rfl) ?_)
       | (go_at_call 39
          refine(HRT.out _ HB1.out).mono ?_
          rintro e w2 ⟨rfl,hb2⟩
          have HB2:=Hd_ (HB1.out.trans (hb2.mono HB1.out.size))
          clear hb2)
       | (go_at_call 54
          refine(HCT.out _ HB2.out).mono ?_
          rintro e w3 ⟨rfl,rfl⟩))
      go_ret
      exact⟨rfl,HB2.out⟩
     ·rw[hfe,if_neg (fun h=>hn h.2)]
      rw[hfb] at HRT
      rw[decide_eq_false hn] at HCT
      clear hfb hfe hn
      go_enter Tryd.func29,Tryd.ntmps29
      go_wp2_with (first
       | (go_at_call 22
          refine(HC.out _ HBX.out.2).mono ?_
          rintro e w1 ⟨rfl,hb1⟩
          have c2:=(HBX.out.1.below hb1 HBX.out.1.lt).cell 2
          have HB1:=Hd_ (HBX.out.2.trans (hb1.mono HBX.out.2.size))
          simp only[checkV]
          clear hb1)
       | (refine ZC rfl 38 _ rfl gb (go+tn * 4) rfl _ _ (HLD.out _ HB1.out) Tryd.underlying38 rfl (by kernel_rfl) ?_)
       | (go_at_call 39
          refine(HRT.out _ HB1.out).mono ?_
          rintro e w2 ⟨rfl,hb2⟩
          have HB2:=Hd_ (HB1.out.trans (hb2.mono HB1.out.size))
          clear hb2)
       | (go_at_call 54
          refine(HCT.out _ HB2.out).mono ?_
          rintro e w3 ⟨rfl,rfl⟩))
      go_ret
      exact⟨rfl,HB2.out⟩
   ·have d1:decide ((u.graphs.length:Int)≤t)=true:=decide_eq_true (by omega)
    have hE:=ZBi (u:=u) (t:=t) HCC.out (by omega)
    rw[ZBg (by rw[hE];decide),hE]
    clear hE hF
    go_enter Tryd.func29,Tryd.ntmps29
    go_wp2_with (first
     | (go_at_call 22
        refine(HC.out _ HBX.out.2).mono ?_
        rintro e w1 ⟨rfl,hb1⟩
        have c2:=(HBX.out.1.below hb1 HBX.out.1.lt).cell 2
        have HB1:=Hd_ (HBX.out.2.trans (hb1.mono HBX.out.2.size))
        simp only[checkV]
        clear hb1))
    go_ret
    exact⟨rfl,HB1.out⟩
set_option maxRecDepth 100000 in
set_option maxHeartbeats 1000000 in
theorem ZDr (v:Value) (l:List Int) (n:Int) (w:World) (hl:Ints (cmap w) v l) (hll:l.length≤4294967295) :
  Calls Tryd.prog 15 #[v,.int .i64 n] w fun e w'=>∃ v',e=.returned v'∧w'.ownsRow w.heap.size 3 1 v' (withoutL l n).length (ints (withoutL l n))∧Below w.heap.size w w':=by
 obtain⟨A,c,rfl,-⟩:=id hl
 go_enter Tryd.func15,Tryd.ntmps15
 go_wp2
 go_loopw [5,6] (fun v5 v6 wr=>∃ k:Nat,v6=.int .i64 k∧k≤l.length∧Hid (wr.ownsRow w.heap.size 3 1 v5 (withoutL (l.take k) n).length (ints (withoutL (l.take k) n)))∧Hid (Below w.heap.size w wr)) (fun _ v6 _=>l.length - (intOf v6).toNat)
 case atStart=>exact⟨0,rfl,Nat.zero_le _,Hd_ (World.ownsRow_nil _ _ _ _),Hd_ (Below.refl _ _)⟩
 case round =>
  obtain⟨k,rfl,hk,HO,HB⟩:=hrel
  by_cases hlt:k < l.length
  ·obtain⟨x,hx⟩ : ∃ x,l[k]? = some x:=⟨_,List.getElem?_eq_getElem hlt⟩
   obtain⟨b,o,rfl,g1⟩:=hl.at_ hx
   rw[Nat.mul_one] at g1
   have g2:_:=ZA HB.out _ _ _ g1
   have g3:∀ wr':World,Below w.heap.size w wr'→wr'.cell? ⟨b,o+k,none⟩=some (.int .i64 x):=fun wr' h=>ZA h _ _ _ g1
   have g4:=g3 _ HB.out
   have hk0:(0:Int)≤k:=by omega
   have hkl:(k:Int) < l.length:=by omega
   have hlen:(withoutL (l.take k) n).length≤k:=Nat.le_trans (ZEw _ _) (by simp;omega)
   have hW:withoutL (l.take (k+1)) n=withoutL (l.take k) n ++ if x=n then [] else [x]:=by
    have h3:=(List.getElem?_eq_some_iff.1 hx).2
    rw[List.take_succ_eq_append_getElem hlt,h3,ZAP]
   clear g1 g2 g3 hx
   obtain⟨sA,sc,rfl,-⟩:=ZE HO.out
   by_cases h1:x=n
   ·have hd:(x != n)=false:=by simp[h1]
    rw[if_pos h1,List.append_nil] at hW
    have HW:=Hd_ hW
    clear hW h1
    go_wp2
    go_roundw
    case rel=>exact⟨k+1,by go_num,by omega,by rw[HW.out];exact HO,HB⟩
    case measure=>simp[intOf];omega
   ·have hd:(x != n)=true:=by simp[h1]
    rw[if_neg h1] at hW
    have HW:=Hd_ hW
    clear hW h1
    have hs:=HB.out.size
    have how3:=HO.out.alloc (.cells #[.int .i64 x] 3)
    go_wp2_with (first
     | (refine ZN rfl ?_))
    refine Stop.intro ?_
    refine Zg Z2 rfl _ _ rfl w.heap.size (.slice sA (withoutL (l.take k) n).length sc) (withoutL (l.take k) n).length (ints (withoutL (l.take k) n)) rfl how3 _ 0 1 [.int .i64 x] rfl rfl (Za _ _ _ _ (by simp)) (by simp[Value.oneCell']) (by omega) (by decide) (by simp;omega) ?_
    intro v' w4 hown5 hgr hobn
    have hb4:=(HB.out.alloc HB.out.size (.cells #[.int .i64 x] 3)).grown hgr (by simp;omega) (fun b hb=>(Z5 HO.out b hb))
    have HF:=Hd_ (And.intro hown5 hb4)
    clear hown5 hgr hobn hb4 how3
    go_wp2
    go_roundw
    case rel=>exact⟨k+1,by go_num,by omega,by rw[HW.out];exact Hd_ (by simpa [ints] using HF.out.1),Hd_ HF.out.2⟩
    case measure=>simp[intOf];omega
  ·have hfin:l.take k=l:=List.take_of_length_le (by omega)
   rw[hfin] at HO
   have hnk:¬ ((k:Int) < l.length):=by omega
   go_wp2
   go_ret
   exact⟨_,rfl,HO.out,HB.out⟩
noncomputable def emptyR (u:Unit_) (t:Int) (F:List Int) : Bool:=(loadsR u t F).1.isEmpty
end Go.Proofs.YtffgnjgphkdodaaDoor
