import Derived.Test.YtffgnjgphkdodaaDoorD22
import Derived.Test.YtffgnjgphkdodaaDoorD19
import Derived.Test.YtffgnjgphkdodaaDoorD14
import Derived.BigQuiet
import Derived.BigRegion
namespace Go.Proofs.YtffgnjgphkdodaaDoor
open Go Go.RowKit
theorem ZFQ (D:List Int) (hD:DepOk D) (db dc a b:Nat) (w:World) (hc:∀ (i:Nat) x,D[i]? = some x→w.cell? ⟨db,i,none⟩=some (.int .i64 x)) (ha:a < D.length) (hb:b < D.length) :
  Calls Tryd.prog 48 #[.slice (some ⟨db,0,none⟩) D.length dc,.int .i64 (a:Int),.int .i64 (b:Int)] w fun e w'=>e=.returned (.bool (decide (keyF D a < keyF D b)))∧∃ n,w'=w.drewN n:=by
 have ha':=List.getElem?_eq_getElem ha
 have hb':=List.getElem?_eq_getElem hb
 obtain⟨x,hx⟩ : ∃ x,D[a]=x:=⟨_,rfl⟩
 obtain⟨y,hy⟩ : ∃ y,D[b]=y:=⟨_,rfl⟩
 rw[hx] at ha'
 rw[hy] at hb'
 have hk:=ZFs hD ha' hb'
 have ca:=hc a x ha'
 have cb:=hc b y hb'
 have a0:(0:Int)≤a:=by omega
 have b0:(0:Int)≤b:=by omega
 have a1:(a:Int) < D.length:=by omega
 have b1:(b:Int) < D.length:=by omega
 obtain⟨N,hN⟩ : ∃ N,D.length=N:=⟨_,rfl⟩
 rw[hN] at a1 b1 ha hb ⊢
 obtain⟨r,hr⟩ : ∃ r,decide (keyF D a < keyF D b)=r:=⟨_,rfl⟩
 rw[hr]
 have hrk:r=decide (y < x∨(x=y∧b < a)):=by rw[← hr];exact decide_eq_decide.2 hk
 clear hc ha' hb' hx hy hD hN hk hr
 by_cases h1:y < x
 ·have d1:decide (y < x)=true:=decide_eq_true h1
  have hrt:r=true:=by rw[hrk,decide_eq_true (.inl h1)]
  subst hrt
  clear hrk h1
  go_enter Tryd.func48,Tryd.ntmps48
  go_wp2
  go_quiet (fail)
  go_wp2
  go_ret
  exact⟨rfl,_,rfl⟩
 ·have d1:decide (y < x)=false:=decide_eq_false h1
  by_cases h2:x=y
  ·have d2:(y == y)=true:=by simp
   have d3:decide ((b:Int) < (a:Int))=r:=by rw[hrk];exact decide_eq_decide.2 ⟨fun h=>.inr ⟨h2,by omega⟩,fun h=>by rcases h with h | h <;> omega⟩
   subst h2
   clear hrk h1
   go_enter Tryd.func48,Tryd.ntmps48
   go_wp2
   go_quiet (fail)
   go_wp2
   go_ret
   exact⟨ZY (by simpa using d3),_,rfl⟩
  ·have d2:(x == y)=false:=by simp[h2]
   have hrt:r=false:=by rw[hrk,decide_eq_false (by rintro(h | h);exact h1 h;exact h2 h.1)]
   subst hrt
   clear hrk h1 h2
   go_enter Tryd.func48,Tryd.ntmps48
   go_wp2
   go_quiet (fail)
   go_wp2
   go_ret
   exact⟨rfl,_,rfl⟩
def FqF (db n dc:Nat) : Value:=.func (.func 48) #[.slice (some ⟨db,0,none⟩) n dc] #[]
def nodsV (L:List Nat) : List Value:=L.map fun n:Nat=>.int .i64 (n:Int)
structure Fq (R:Nat→Prop) (D:List Int) (w:World) (qb:Nat) (L:List Nat) : Prop where
 ex:∃ v db dc,Blk w qb 118 [v,FqF db D.length dc]∧w.ownsRow 0 3 1 v L.length (nodsV L)∧R db∧(∀ (i:Nat) x,D[i]? = some x→w.cell? ⟨db,i,none⟩=some (.int .i64 x))∧∀ b,R b→b < w.heap.size∧b≠qb∧v.ownBlock≠some b
 nd:NdI L
 mem:∀ n∈L,n < D.length
theorem ZDM {L:List Nat} {i x:Nat} (h:L[i]? = some x) : (nodsV L)[i]? = some (.int .i64 (x:Int)):=by
 unfold nodsV
 rw[List.getElem?_map,h]
 rfl
theorem ZGL (L:List Nat) : (nodsV L).length=L.length:=by simp[nodsV]
set_option maxHeartbeats 1000000 in
theorem ZCT {R:Nat→Prop} {D:List Int} {qb:Nat} {L:List Nat} {w:World} (h:Fq R D w qb L) : Calls Tryd.prog 50 #[.pointer (some ⟨qb,0,none⟩)] w fun e w'=>e=.returned (.int .i64 (L.length:Int))∧∃ n,w'=w.drewN n:=by
 obtain⟨v,db,dc,hb,ho,-⟩:=h.ex
 have b0:=hb.cell 0
 obtain⟨A,c,rfl,-⟩:=ZE ho
 clear hb ho h
 go_enter Tryd.func50,Tryd.ntmps50
 go_wp2
 go_ret
 exact⟨rfl,0,rfl⟩
set_option maxHeartbeats 1000000 in
theorem ZFx {R:Nat→Prop} {D:List Int} (hD:DepOk D) {qb:Nat} {L:List Nat} {i j:Nat} {w:World} (h:Fq R D w qb L) (hi:i < L.length) (hj:j < L.length) :
  Calls Tryd.prog 111 #[.pointer (some ⟨qb,0,none⟩),.int .i64 (i:Int),.int .i64 (j:Int)] w fun e w'=>e=.returned (.bool (decide (keyN (keyF D) L i < keyN (keyF D) L j)))∧Below w.heap.size w w':=by
 obtain⟨v,db,dc,hb,ho,hR,hc,-⟩:=h.ex
 have b0:=hb.cell 0
 have b1:=hb.cell 1
 obtain⟨g,c,rfl,-,-,-,hp⟩:=ZW ho (by omega)
 have hi':=List.getElem?_eq_getElem hi
 have hj':=List.getElem?_eq_getElem hj
 rw[ZEe hi',ZEe hj']
 obtain⟨x,hx⟩ : ∃ x,L[i]=x:=⟨_,rfl⟩
 obtain⟨y,hy⟩ : ∃ y,L[j]=y:=⟨_,rfl⟩
 rw[hx] at hi' ⊢
 rw[hy] at hj' ⊢
 have ci:=(hp i (by omega)).trans (ZDM hi')
 have cj:=(hp j (by omega)).trans (ZDM hj')
 have HDC:=fun wx (hw:∃ n,wx=w.drewN n)=>ZFQ D hD db dc x y wx (fun i' x' h'=>by obtain⟨n,rfl⟩:=hw;exact hc i' x' h') (h.mem x (List.mem_of_getElem? hi')) (h.mem y (List.mem_of_getElem? hj'))
 obtain⟨r,hr⟩ : ∃ r,decide (keyF D x < keyF D y)=r:=⟨_,rfl⟩
 rw[hr] at HDC ⊢
 have HDC:=Hd_ HDC
 have i0:(0:Int)≤i:=by omega
 have j0:(0:Int)≤j:=by omega
 have i1:(i:Int) < L.length:=by omega
 have j1:(j:Int) < L.length:=by omega
 obtain⟨N,hN⟩ : ∃ N,L.length=N:=⟨_,rfl⟩
 rw[hN] at i1 j1 b0
 have b0':w.cell? ⟨qb,0,none⟩=some (.slice (some ⟨g,0,none⟩) N c):=b0
 have b1':w.cell? ⟨qb,1,none⟩=some (.func (.func 48) #[.slice (some ⟨db,0,none⟩) D.length dc] #[]):=b1
 clear hp hi' hj' hx hy hc hb ho h hD hN b0 b1 hr hR
 go_enter Tryd.func111,Tryd.ntmps111
 go_wp2
 go_quiet (first | (go_at_call 48;refine Calls.quiet_of (HDC.out _ ⟨_,rfl⟩)))
 go_wp2
 go_ret
 exact⟨rfl,below_drewN (Below.refl _ _) _⟩
theorem ZGK {L:List Nat} {i x:Nat} : (nodsV L).set i (.int .i64 (x:Int))=nodsV (L.set i x):=by
 unfold nodsV
 rw[List.map_set]
set_option maxRecDepth 100000 in
set_option maxHeartbeats 4000000 in
theorem ZDV {R:Nat→Prop} {D:List Int} {qb:Nat} {L:List Nat} {i j:Nat} {w:World} (h:Fq R D w qb L) (hi:i < L.length) (hj:j < L.length) :
  Calls Tryd.prog 113 #[.pointer (some ⟨qb,0,none⟩),.int .i64 (i:Int),.int .i64 (j:Int)] w fun e w'=>e=.returned (.tuple #[])∧Fq R D w' qb (swL L i j)∧KeepR R w w':=by
 obtain⟨v,db,dc,hb,ho,hR,hc,hr⟩:=h.ex
 have b0:=hb.cell 0
 have hne:=ZQ ho hb (by decide)
 obtain⟨g,c,rfl,-,hgl,-,hp⟩:=ZW ho (by omega)
 have hgq:g≠qb:=fun e=>hne (by rw[e];rfl)
 have hi':=List.getElem?_eq_getElem hi
 have hj':=List.getElem?_eq_getElem hj
 obtain⟨x,hx⟩ : ∃ x,L[i]=x:=⟨_,rfl⟩
 obtain⟨y,hy⟩ : ∃ y,L[j]=y:=⟨_,rfl⟩
 rw[hx] at hi'
 rw[hy] at hj'
 have ci:=(hp i (by omega)).trans (ZDM hi')
 have cj:=(hp j (by omega)).trans (ZDM hj')
 have i0:(0:Int)≤i:=by omega
 have j0:(0:Int)≤j:=by omega
 have i1:(i:Int) < L.length:=by omega
 have j1:(j:Int) < L.length:=by omega
 have f1:=World.ownsRow.frozenAt ho i
 have f2:=World.ownsRow.frozenAt ho j
 have hs1:=World.ownsRow.stored ho i (.int .i64 (y:Int))
 obtain⟨u1,hu1⟩ : ∃ u,(w.setCell ⟨g,i,none⟩ (.int .i64 (y:Int))).cell? ⟨g,j,none⟩=some u:=⟨_,(World.ownsRow.cellAt hs1.1 j (by omega)).trans (List.getElem?_eq_getElem (by rw[List.length_set,ZGL];omega))⟩
 have hs2:=World.ownsRow.stored hs1.1 j (.int .i64 (x:Int))
 have q0:(w.setCell ⟨g,i,none⟩ (.int .i64 (y:Int))).cell? ⟨qb,0,none⟩=some (.slice (some ⟨g,0,none⟩) L.length c):=((hb.far (p:=⟨g,i,none⟩) (fun e=>hgq e.symm) _).cell 0)
 have HS:=Hd_ (And.intro hs1.2 (And.intro hs2.2 hs2.1))
 have HQ:=Hd_ (And.intro h (And.intro hb (And.intro hR (And.intro hc (And.intro hr (And.intro hi' hj'))))))
 have HG:=Hd_ (And.intro hgq hgl)
 obtain⟨N,hN⟩ : ∃ N,L.length=N:=⟨_,rfl⟩
 have HN:=Hd_ (And.intro hN (And.intro hi hj))
 rw[hN] at i1 j1 b0 q0
 have b0':w.cell? ⟨qb,0,none⟩=some (.slice (some ⟨g,0,none⟩) N c):=b0
 clear hp hi' hj' hx hy hc hb ho h hN b0 hr hR hs1 hs2 hgq hgl hi hj hne
 go_enter Tryd.func113,Tryd.ntmps113
 go_wp2
 go_region
 go_wp2
 go_end0
 obtain⟨h,hb,hR,hc,hr,hi',hj'⟩:=HQ.out
 have hgq:qb≠g:=fun e=>HG.out.1 e.symm
 have hdb:∀ b,R b→b≠g:=fun b hb2 e=>(hr b hb2).2.2 (by rw[e];rfl)
 refine⟨rfl,⟨⟨.slice (some ⟨g,0,none⟩) L.length c,db,dc,(hb.far (p:=⟨g,i,none⟩) hgq _).far (p:=⟨g,j,none⟩) hgq _,?_,hR,fun i' x' hx'=>?_,fun b hb2=>⟨by have:=(hr b hb2).1;simpa [World.setCell,World.drew] using this,(hr b hb2).2⟩⟩,h.nd.sw HN.out.2.1 HN.out.2.2,fun n hn=>h.mem n ((ZDB HN.out.2.1 HN.out.2.2 n).1 hn)⟩,?_⟩
 ·rw[ZU]
  have e:((nodsV L).set i (.int .i64 (y:Int))).set j (.int .i64 (x:Int))=nodsV (swL L i j):=by rw[ZGK,ZGK,ZJF hi' hj']
  rw[← e]
  exact HS.out.2.2
 ·exact((World.cell?_of_block (Below.heap_setCell _ _ _ _ (hdb db hR))).trans (World.cell?_of_block (Below.heap_setCell _ _ _ _ (hdb db hR)))).trans (hc i' x' hx')
 ·have hk:=((KeepR.refl R w).setCell (p:=⟨g,i,none⟩) (fun b hb2=>hdb b hb2) (.int .i64 (y:Int))).setCell (p:=⟨g,j,none⟩) (fun b hb2=>hdb b hb2) (.int .i64 (x:Int))
  exact⟨hk.os,hk.tape,hk.output,hk.size,hk.block⟩
set_option maxRecDepth 100000 in
set_option maxHeartbeats 4000000 in
theorem ZHA {R:Nat→Prop} {D:List Int} {qb:Nat} {L:List Nat} {s:Nat} {w:World} (h:Fq R D w qb (L ++ [s])) (hn:L.length≤100000000) :
  Calls Tryd.prog 112 #[.pointer (some ⟨qb,0,none⟩)] w fun e w'=>e=.returned (.iface 3 (.int .i64 (s:Int)))∧Fq R D w' qb L∧KeepR R w w':=by
 obtain⟨v,db,dc,hb,ho,hR,hc,hr⟩:=h.ex
 have b0:=hb.cell 0
 have hne:=ZQ ho hb (by decide)
 obtain⟨g,c,rfl,-,hgl,hnc,hp⟩:=ZW ho (by simp)
 have hgq:g≠qb:=fun e=>hne (by rw[e];rfl)
 have ci:=(hp L.length (by simp)).trans (ZDM (L:=L ++ [s]) (i:=L.length) (x:=s) (by simp))
 have hpop:=ownsRow_pop (size:=1) (n:=L.length) (xs:=nodsV L) (last:=[.int .i64 (s:Int)]) (by rw[ZGL,Nat.mul_one]) (by simpa [nodsV] using ho)
 have fz:=hb.frozen 0
 have HQ:=Hd_ (And.intro h (And.intro hb (And.intro hR (And.intro hc (And.intro hr (And.intro hpop hgq))))))
 simp only[List.length_append,List.length_singleton] at b0 hnc
 have b0':w.cell? ⟨qb,0,none⟩=some (.slice (some ⟨g,0,none⟩) (L.length+1) c):=b0
 clear hp hc hb ho h b0 hr hR hgq hgl hne hpop
 have n0:(0:Int)≤L.length:=by omega
 have n1:(L.length:Int) < L.length+1:=by omega
 have n2:(L.length:Int)≤100000000:=by omega
 have n3:¬ ((L.length:Int) < 0):=by omega
 have n4:L.length≤c:=by omega
 have n5:(L.length:Int)≤c:=by omega
 go_enter Tryd.func112,Tryd.ntmps112
 go_wp2
 go_region
 go_wp2
 go_region
 go_wp2
 go_ret
 obtain⟨h,hb,hR,hc,hr,hpop,hgq⟩:=HQ.out
 have hnd:NdI L:=by
  have:=h.nd.take L.length
  simpa using this
 have hset:(w.setCell ⟨qb,0,none⟩ (.slice (some ⟨g,0,none⟩) L.length c)).ownsRow 0 3 1 (.slice (some ⟨g,0,none⟩) L.length c) L.length (nodsV L):=ownsRow_setCell_other (a:=⟨qb,0,none⟩) hpop (fun e=>by
  have e:some g=some qb:=e
  injection e with e
  exact hgq e) _
 refine⟨rfl,⟨⟨.slice (some ⟨g,0,none⟩) L.length c,db,dc,hb.set_ 0 _,hset,hR,fun i' x' hx'=>?_,fun b hb2=>⟨by have:=(hr b hb2).1;simpa [World.setCell,World.drew] using this,(hr b hb2).2.1,(hr b hb2).2.2⟩⟩,hnd,fun n hn=>h.mem n (List.mem_append_left _ hn)⟩,?_⟩
 ·exact(World.cell?_of_block (Below.heap_setCell _ _ _ _ (hr db hR).2.1)).trans (hc i' x' hx')
 ·have hk:=(KeepR.refl R w).setCell (p:=⟨qb,0,none⟩) (fun b hb2=>(hr b hb2).2.1) (.slice (some ⟨g,0,none⟩) L.length c)
  exact⟨hk.os,hk.tape,hk.output,hk.size,hk.block⟩
theorem Fq.below {R:Nat→Prop} {D:List Int} {w w':World} {qb:Nat} {L:List Nat} (h:Fq R D w qb L) (hb:Below w.heap.size w w') : Fq R D w' qb L∧KeepR R w w':=by
 obtain⟨v,db,dc,h1,h2,h3,h4,h5⟩:=h.ex
 exact⟨⟨⟨v,db,dc,h1.below hb h1.lt,h2.kept (row:=none) ⟨hb.os,hb.tape,hb.output,hb.size,fun k hk _=>hb.block k hk⟩ (by cases h:v.ownBlock <;> simp),h3,fun i x hx=>(World.cell?_of_block (hb.block db (h5 db h3).1)).trans (h4 i x hx),fun b k=>⟨Nat.lt_of_lt_of_le (h5 b k).1 hb.size,(h5 b k).2⟩⟩,h.nd,h.mem⟩,.of_below hb fun b k=>(h5 b k).1⟩
theorem ZAj (w:World) (qb:Nat) : (method (Tryd.prog.types.size+Made.depth) 114 (.pointer (some ⟨qb,0,none⟩)) "Less").run Tryd.prog w=.ok (111,.pointer (some ⟨qb,0,none⟩)) w :=
 ZBb (by kernel_rfl) (show Tryd.prog.underlying 114 = some (.pointer 118) by kernel_rfl) _ qb w
theorem ZEk (w:World) (qb:Nat) : (method (Tryd.prog.types.size+Made.depth) 114 (.pointer (some ⟨qb,0,none⟩)) "Swap").run Tryd.prog w=.ok (113,.pointer (some ⟨qb,0,none⟩)) w :=
 ZBb (by kernel_rfl) (show Tryd.prog.underlying 114 = some (.pointer 118) by kernel_rfl) _ qb w
theorem ZJK (w:World) (qb:Nat) : (method (Tryd.prog.types.size+Made.depth) 114 (.pointer (some ⟨qb,0,none⟩)) "Len").run Tryd.prog w=.ok (50,.pointer (some ⟨qb,0,none⟩)) w :=
 ZBb (by kernel_rfl) (show Tryd.prog.underlying 114 = some (.pointer 118) by kernel_rfl) _ qb w
theorem fm_pop (w:World) (qb:Nat) : (method (Tryd.prog.types.size+Made.depth) 114 (.pointer (some ⟨qb,0,none⟩)) "Pop").run Tryd.prog w=.ok (112,.pointer (some ⟨qb,0,none⟩)) w :=
 ZBb (by kernel_rfl) (show Tryd.prog.underlying 114 = some (.pointer 118) by kernel_rfl) _ qb w
set_option maxRecDepth 100000 in
set_option maxHeartbeats 4000000 in
theorem ZDc (R:Nat→Prop) (D:List Int) (hD:DepOk D) (lo:Nat) (qb:Nat) (L:List Nat) (n i:Nat) (w:World) (h:Fq R D w qb L) (hd:DnL (keyF D) lo L n i) (hL:L.length≤100000000) (hi:i≤100000000) :
  Calls Tryd.prog 72 #[.iface 114 (.pointer (some ⟨qb,0,none⟩)),.int .i64 (i:Int),.int .i64 (n:Int)] w fun e w'=>∃ b L',e=.returned (.bool b)∧Fq R D w' qb L'∧HpL (keyF D) lo L' n∧L'.length=L.length∧(∀ x,x∈L' ↔ x∈L)∧(∀ k,n≤k→L'[k]? = L[k]?)∧KeepR R w w':=by
 have HQ:=Hd_ h
 have HD:=Hd_ hd
 have HN:=Hd_ hd.le
 have HI:=Hd_ hi
 clear h hd
 go_enter Tryd.func72,Tryd.ntmps72
 go_wp2
 go_loopw [7] (fun v7 wr=>∃ (j':Nat) (L':List Nat),v7=.int .i64 (j':Int)∧j'≤100000000∧Hid (Fq R D wr qb L')∧Hid (DnL (keyF D) lo L' n j')∧L'.length≤100000000∧Hid (L'.length=L.length∧(∀ x,x∈L' ↔ x∈L)∧(∀ k,n≤k→L'[k]? = L[k]?)∧KeepR R w wr)) (fun v7 _=>100000000 - (intOf v7).toNat)
 case atStart=>exact⟨i,L,rfl,hi,HQ,HD,hL,Hd_ ⟨rfl,fun _=>Iff.rfl,fun _ _=>rfl,KeepR.refl _ _⟩⟩
 case round =>
  obtain⟨p,L',rfl,hp,HQ,HD,hL',HB⟩:=hrel
  have hle:=HD.out.le
  have hless:∀ (a b:Nat) (x y:Int) (bv:Bool),x=(a:Int)→y=(b:Int)→a < L'.length→b < L'.length→decide (keyN (keyF D) L' a < keyN (keyF D) L' b)=bv→∀ w1,Below wr.heap.size wr w1→Calls Tryd.prog 111 #[.pointer (some ⟨qb,0,none⟩),.int .i64 x,.int .i64 y] w1 fun e w'=>e=.returned (.bool bv)∧Below wr.heap.size wr w':=by
   intro a b x y bv hx hy ha hb hbv w1 hw1
   subst hx hy hbv
   refine(ZFx hD (HQ.out.below hw1).1 ha hb).mono ?_
   rintro e w2 ⟨rfl,hb2⟩
   exact⟨rfl,hw1.trans (hb2.mono hw1.size)⟩
  have hswap:∀ (a b:Nat) (x y:Int),x=(a:Int)→y=(b:Int)→a < L'.length→b < L'.length→∀ w1,Below wr.heap.size wr w1→Calls Tryd.prog 113 #[.pointer (some ⟨qb,0,none⟩),.int .i64 x,.int .i64 y] w1 fun e w'=>e=.returned (.tuple #[])∧Fq R D w' qb (swL L' a b)∧KeepR R wr w':=by
   intro a b x y hx hy ha hb w1 hw1
   subst hx hy
   refine(ZDV (HQ.out.below hw1).1 ha hb).mono ?_
   rintro e w2 ⟨rfl,h2,k2⟩
   exact⟨rfl,h2,(HQ.out.below hw1).2.trans k2⟩
  have hq:∀ w1,Below wr.heap.size wr w1→Fq R D w1 qb L'∧KeepR R wr w1:=fun w1 hw1=>HQ.out.below hw1
  have HLS:=Hd_ hless
  have HSW:=Hd_ hswap
  have HQB:=Hd_ hq
  clear hless hswap hq
  have hp0:(0:Int)≤(p:Int):=by omega
  have hp1:(p:Int)≤100000000:=by omega
  by_cases hn:n≤2 * p+1
  ·have d1:decide ((n:Int)≤2 * (p:Int)+1)=true:=decide_eq_true (by omega)
   have HNN:=Hd_ hn
   clear hle hn
   go_wp2
   go_ret
   exact⟨_,L',rfl,HQ.out,HD.out.leaf HNN.out,HB.out.1,HB.out.2.1,HB.out.2.2.1,HB.out.2.2.2⟩
  ·have d1:decide ((n:Int)≤2 * (p:Int)+1)=false:=decide_eq_false (by omega)
   have d2:decide (2 * (p:Int)+1 < 0)=false:=decide_eq_false (by omega)
   by_cases h2:2 * p+2 < n
   ·have d3:decide (2 * (p:Int)+1+1 < (n:Int))=true:=decide_eq_true (by omega)
    have d4:decide (2 * (p:Int)+2 < (n:Int))=true:=decide_eq_true (by omega)
    have HNN:=Hd_ (And.intro h2 hle)
    clear hle
    by_cases hj:keyN (keyF D) L' (2 * p+2) < keyN (keyF D) L' (2 * p+1)
    ·have HJ:=Hd_ hj
     clear hj
     have hmin:Hid (∀ k,0 < k→k < n→(k - 1) / 2=p→keyN (keyF D) L' (2 * p+2)≤keyN (keyF D) L' k):=Hd_ fun k h0 hk hpk=>by
      have h1:=HJ.out
      rcases(show k=2 * p+1∨k=2 * p+2 by omega) with rfl | rfl
      ·omega
      ·exact Nat.le_refl _
     by_cases hl:keyN (keyF D) L' (2 * p+2) < keyN (keyF D) L' p
     ·have HL:=Hd_ hl
      clear hl
      go_wp2_with (first
     | (refine ZR (by rfl) (.tmp 29) "Less" [.tmp 30,.tmp 31] _ rfl _ _ rfl _ _ (ZAj _ qb) Tryd.func111 (by kernel_rfl) (by kernel_rfl) _ rfl ?_
        refine(HLS.out (2 * p+2) (2 * p+1) _ _ true (by omega) (by omega) (by have:=HNN.out;omega) (by have:=HNN.out;omega) (by exact decide_eq_true HJ.out) _ (Below.refl _ _)).mono ?_
        rintro e wx ⟨rfl,hbwx⟩
        have HBwx:=Hd_ hbwx
        clear hbwx
        refine⟨_,rfl,?_⟩)
     | (refine ZR (by rfl) (.tmp 35) "Less" [.tmp 36,.tmp 37] _ rfl _ _ rfl _ _ (ZAj _ qb) Tryd.func111 (by kernel_rfl) (by kernel_rfl) _ rfl ?_
        refine(HLS.out (2 * p+2) (p) _ _ true (by omega) (by omega) (by have:=HNN.out;omega) (by have:=HNN.out;omega) (by exact decide_eq_true HL.out) _ HBwx.out).mono ?_
        rintro e wy ⟨rfl,hbwy⟩
        have HBwy:=Hd_ hbwy
        clear hbwy
        refine⟨_,rfl,?_⟩)
     | (refine ZR (by rfl) (.tmp 40) "Swap" [.tmp 41,.tmp 42] _ rfl _ _ rfl _ _ (ZEk _ qb) Tryd.func113 (by kernel_rfl) (by kernel_rfl) _ rfl ?_
        refine(HSW.out p (2 * p+2) _ _ rfl (by omega) (by have:=HNN.out;omega) (by have:=HNN.out;omega) _ HBwy.out).mono ?_
        rintro e wz ⟨rfl,hq3⟩
        have HS3:=Hd_ hq3
        clear hq3
        refine⟨_,rfl,?_⟩))
      have hst:=HD.out.step (j:=2 * p+2) (by omega) (by have:=HNN.out;omega) (by omega) HL.out hmin.out
      have hil:p < L'.length:=by have:=HNN.out;omega
      have hjl:2 * p+2 < L'.length:=by have:=HNN.out;omega
      have hkp:∀ k,n≤k→(swL L' p (2 * p+2))[k]? = L'[k]?:=fun k hk=>by rw[ZBk hil hjl,if_neg (by have:=HNN.out;omega),if_neg (by have:=HNN.out;omega)]
      have HF:=Hd_ (And.intro hst (And.intro (ZDB hil hjl) hkp))
      have hjm:2 * p+2≤100000000:=by omega
      clear hst hil hjl hkp
      go_roundw
      case rel=>exact⟨2 * p+2,swL L' p (2 * p+2),by go_num,hjm,Hd_ HS3.out.1,Hd_ HF.out.1,by rw[ZU];exact hL',Hd_ ⟨by rw[ZU];exact HB.out.1,fun x=>(HF.out.2.1 x).trans (HB.out.2.1 x),fun k hk=>(HF.out.2.2 k hk).trans (HB.out.2.2.1 k hk),HB.out.2.2.2.trans HS3.out.2⟩⟩
      case measure=>simp[intOf];omega
     ·have HL:=Hd_ hl
      clear hl
      go_wp2_with (first
     | (refine ZR (by rfl) (.tmp 29) "Less" [.tmp 30,.tmp 31] _ rfl _ _ rfl _ _ (ZAj _ qb) Tryd.func111 (by kernel_rfl) (by kernel_rfl) _ rfl ?_
        refine(HLS.out (2 * p+2) (2 * p+1) _ _ true (by omega) (by omega) (by have:=HNN.out;omega) (by have:=HNN.out;omega) (by exact decide_eq_true HJ.out) _ (Below.refl _ _)).mono ?_
        rintro e wx ⟨rfl,hbwx⟩
        have HBwx:=Hd_ hbwx
        clear hbwx
        refine⟨_,rfl,?_⟩)
     | (refine ZR (by rfl) (.tmp 35) "Less" [.tmp 36,.tmp 37] _ rfl _ _ rfl _ _ (ZAj _ qb) Tryd.func111 (by kernel_rfl) (by kernel_rfl) _ rfl ?_
        refine(HLS.out (2 * p+2) (p) _ _ false (by omega) (by omega) (by have:=HNN.out;omega) (by have:=HNN.out;omega) (by exact decide_eq_false HL.out) _ HBwx.out).mono ?_
        rintro e wy ⟨rfl,hbwy⟩
        have HBwy:=Hd_ hbwy
        clear hbwy
        refine⟨_,rfl,?_⟩))
      go_ret
      have hdn:=HD.out.done (fun k h0 hk hpk=>by
       have h1:=HL.out
       have h2:=hmin.out k h0 hk hpk
       omega)
      exact⟨_,L',rfl,(HQB.out _ HBwy.out).1,hdn,HB.out.1,HB.out.2.1,HB.out.2.2.1,HB.out.2.2.2.trans (HQB.out _ HBwy.out).2⟩
    ·have HJ:=Hd_ hj
     clear hj
     have hmin:Hid (∀ k,0 < k→k < n→(k - 1) / 2=p→keyN (keyF D) L' (2 * p+1)≤keyN (keyF D) L' k):=Hd_ fun k h0 hk hpk=>by
      have h1:=HJ.out
      rcases(show k=2 * p+1∨k=2 * p+2 by omega) with rfl | rfl
      ·exact Nat.le_refl _
      ·omega
     by_cases hl:keyN (keyF D) L' (2 * p+1) < keyN (keyF D) L' p
     ·have HL:=Hd_ hl
      clear hl
      go_wp2_with (first
     | (refine ZR (by rfl) (.tmp 29) "Less" [.tmp 30,.tmp 31] _ rfl _ _ rfl _ _ (ZAj _ qb) Tryd.func111 (by kernel_rfl) (by kernel_rfl) _ rfl ?_
        refine(HLS.out (2 * p+2) (2 * p+1) _ _ false (by omega) (by omega) (by have:=HNN.out;omega) (by have:=HNN.out;omega) (by exact decide_eq_false HJ.out) _ (Below.refl _ _)).mono ?_
        rintro e wx ⟨rfl,hbwx⟩
        have HBwx:=Hd_ hbwx
        clear hbwx
        refine⟨_,rfl,?_⟩)
     | (refine ZR (by rfl) (.tmp 35) "Less" [.tmp 36,.tmp 37] _ rfl _ _ rfl _ _ (ZAj _ qb) Tryd.func111 (by kernel_rfl) (by kernel_rfl) _ rfl ?_
        refine(HLS.out (2 * p+1) (p) _ _ true (by omega) (by omega) (by have:=HNN.out;omega) (by have:=HNN.out;omega) (by exact decide_eq_true HL.out) _ HBwx.out).mono ?_
        rintro e wy ⟨rfl,hbwy⟩
        have HBwy:=Hd_ hbwy
        clear hbwy
        refine⟨_,rfl,?_⟩)
     | (refine ZR (by rfl) (.tmp 40) "Swap" [.tmp 41,.tmp 42] _ rfl _ _ rfl _ _ (ZEk _ qb) Tryd.func113 (by kernel_rfl) (by kernel_rfl) _ rfl ?_
        refine(HSW.out p (2 * p+1) _ _ rfl (by omega) (by have:=HNN.out;omega) (by have:=HNN.out;omega) _ HBwy.out).mono ?_
        rintro e wz ⟨rfl,hq3⟩
        have HS3:=Hd_ hq3
        clear hq3
        refine⟨_,rfl,?_⟩))
      have hst:=HD.out.step (j:=2 * p+1) (by omega) (by have:=HNN.out;omega) (by omega) HL.out hmin.out
      have hil:p < L'.length:=by have:=HNN.out;omega
      have hjl:2 * p+1 < L'.length:=by have:=HNN.out;omega
      have hkp:∀ k,n≤k→(swL L' p (2 * p+1))[k]? = L'[k]?:=fun k hk=>by rw[ZBk hil hjl,if_neg (by have:=HNN.out;omega),if_neg (by have:=HNN.out;omega)]
      have HF:=Hd_ (And.intro hst (And.intro (ZDB hil hjl) hkp))
      have hjm:2 * p+1≤100000000:=by omega
      clear hst hil hjl hkp
      go_roundw
      case rel=>exact⟨2 * p+1,swL L' p (2 * p+1),by go_num,hjm,Hd_ HS3.out.1,Hd_ HF.out.1,by rw[ZU];exact hL',Hd_ ⟨by rw[ZU];exact HB.out.1,fun x=>(HF.out.2.1 x).trans (HB.out.2.1 x),fun k hk=>(HF.out.2.2 k hk).trans (HB.out.2.2.1 k hk),HB.out.2.2.2.trans HS3.out.2⟩⟩
      case measure=>simp[intOf];omega
     ·have HL:=Hd_ hl
      clear hl
      go_wp2_with (first
     | (refine ZR (by rfl) (.tmp 29) "Less" [.tmp 30,.tmp 31] _ rfl _ _ rfl _ _ (ZAj _ qb) Tryd.func111 (by kernel_rfl) (by kernel_rfl) _ rfl ?_
        refine(HLS.out (2 * p+2) (2 * p+1) _ _ false (by omega) (by omega) (by have:=HNN.out;omega) (by have:=HNN.out;omega) (by exact decide_eq_false HJ.out) _ (Below.refl _ _)).mono ?_
        rintro e wx ⟨rfl,hbwx⟩
        have HBwx:=Hd_ hbwx
        clear hbwx
        refine⟨_,rfl,?_⟩)
     | (refine ZR (by rfl) (.tmp 35) "Less" [.tmp 36,.tmp 37] _ rfl _ _ rfl _ _ (ZAj _ qb) Tryd.func111 (by kernel_rfl) (by kernel_rfl) _ rfl ?_
        refine(HLS.out (2 * p+1) (p) _ _ false (by omega) (by omega) (by have:=HNN.out;omega) (by have:=HNN.out;omega) (by exact decide_eq_false HL.out) _ HBwx.out).mono ?_
        rintro e wy ⟨rfl,hbwy⟩
        have HBwy:=Hd_ hbwy
        clear hbwy
        refine⟨_,rfl,?_⟩))
      go_ret
      have hdn:=HD.out.done (fun k h0 hk hpk=>by
       have h1:=HL.out
       have h2:=hmin.out k h0 hk hpk
       omega)
      exact⟨_,L',rfl,(HQB.out _ HBwy.out).1,hdn,HB.out.1,HB.out.2.1,HB.out.2.2.1,HB.out.2.2.2.trans (HQB.out _ HBwy.out).2⟩
   ·have d3:decide (2 * (p:Int)+1+1 < (n:Int))=false:=decide_eq_false (by omega)
    have d4:decide (2 * (p:Int)+2 < (n:Int))=false:=decide_eq_false (by omega)
    have HNN:=Hd_ (And.intro (Nat.lt_of_not_le hn) hle)
    have hmin:Hid (∀ k,0 < k→k < n→(k - 1) / 2=p→keyN (keyF D) L' (2 * p+1)≤keyN (keyF D) L' k):=Hd_ fun k h0 hk hpk=>by
     have h1:k=2 * p+1:=by omega
     rw[h1];exact Nat.le_refl _
    clear hle
    by_cases hl:keyN (keyF D) L' (2 * p+1) < keyN (keyF D) L' p
    ·have HL:=Hd_ hl
     clear hl
     go_wp2_with (first
     | (refine ZR (by rfl) (.tmp 35) "Less" [.tmp 36,.tmp 37] _ rfl _ _ rfl _ _ (ZAj _ qb) Tryd.func111 (by kernel_rfl) (by kernel_rfl) _ rfl ?_
        refine(HLS.out (2 * p+1) (p) _ _ true (by omega) (by omega) (by have:=HNN.out;omega) (by have:=HNN.out;omega) (by exact decide_eq_true HL.out) _ (Below.refl _ _)).mono ?_
        rintro e wy ⟨rfl,hbwy⟩
        have HBwy:=Hd_ hbwy
        clear hbwy
        refine⟨_,rfl,?_⟩)
     | (refine ZR (by rfl) (.tmp 40) "Swap" [.tmp 41,.tmp 42] _ rfl _ _ rfl _ _ (ZEk _ qb) Tryd.func113 (by kernel_rfl) (by kernel_rfl) _ rfl ?_
        refine(HSW.out p (2 * p+1) _ _ rfl (by omega) (by have:=HNN.out;omega) (by have:=HNN.out;omega) _ HBwy.out).mono ?_
        rintro e wz ⟨rfl,hq3⟩
        have HS3:=Hd_ hq3
        clear hq3
        refine⟨_,rfl,?_⟩))
     have hst:=HD.out.step (j:=2 * p+1) (by omega) (by have:=HNN.out;omega) (by omega) HL.out hmin.out
     have hil:p < L'.length:=by have:=HNN.out;omega
     have hjl:2 * p+1 < L'.length:=by have:=HNN.out;omega
     have hkp:∀ k,n≤k→(swL L' p (2 * p+1))[k]? = L'[k]?:=fun k hk=>by rw[ZBk hil hjl,if_neg (by have:=HNN.out;omega),if_neg (by have:=HNN.out;omega)]
     have HF:=Hd_ (And.intro hst (And.intro (ZDB hil hjl) hkp))
     have hjm:2 * p+1≤100000000:=by omega
     clear hst hil hjl hkp
     go_roundw
     case rel=>exact⟨2 * p+1,swL L' p (2 * p+1),by go_num,hjm,Hd_ HS3.out.1,Hd_ HF.out.1,by rw[ZU];exact hL',Hd_ ⟨by rw[ZU];exact HB.out.1,fun x=>(HF.out.2.1 x).trans (HB.out.2.1 x),fun k hk=>(HF.out.2.2 k hk).trans (HB.out.2.2.1 k hk),HB.out.2.2.2.trans HS3.out.2⟩⟩
     case measure=>simp[intOf];omega
    ·have HL:=Hd_ hl
     clear hl
     go_wp2_with (first
     | (refine ZR (by rfl) (.tmp 35) "Less" [.tmp 36,.tmp 37] _ rfl _ _ rfl _ _ (ZAj _ qb) Tryd.func111 (by kernel_rfl) (by kernel_rfl) _ rfl ?_
        refine(HLS.out (2 * p+1) (p) _ _ false (by omega) (by omega) (by have:=HNN.out;omega) (by have:=HNN.out;omega) (by exact decide_eq_false HL.out) _ (Below.refl _ _)).mono ?_
        rintro e wy ⟨rfl,hbwy⟩
        have HBwy:=Hd_ hbwy
        clear hbwy
        refine⟨_,rfl,?_⟩))
     go_ret
     have hdn:=HD.out.done (fun k h0 hk hpk=>by
      have h1:=HL.out
      have h2:=hmin.out k h0 hk hpk
      omega)
     exact⟨_,L',rfl,(HQB.out _ HBwy.out).1,hdn,HB.out.1,HB.out.2.1,HB.out.2.2.1,HB.out.2.2.2.trans (HQB.out _ HBwy.out).2⟩
set_option maxRecDepth 100000 in
set_option maxHeartbeats 1000000 in
theorem ZFy (R:Nat→Prop) (D:List Int) (hD:DepOk D) (qb:Nat) (L:List Nat) (w:World) (h:Fq R D w qb L) (hh:HpN (keyF D) L L.length) (hL:L.length≤100000000) (hne:0 < L.length) :
  Calls Tryd.prog 51 #[.iface 114 (.pointer (some ⟨qb,0,none⟩))] w fun e w'=>∃ (s:Nat) (L':List Nat),e=.returned (.iface 3 (.int .i64 (s:Int)))∧Fq R D w' qb L'∧HpN (keyF D) L' L'.length∧L'.length+1=L.length∧(∀ x,x∈L ↔ x∈L'∨x=s)∧s ∉ L'∧(∀ x∈L,keyF D s≤keyF D x)∧KeepR R w w':=by
 obtain⟨m,hm⟩ : ∃ m,L.length=m+1:=⟨L.length - 1,by omega⟩
 have HLN:=Hd_ (ZCT h)
 have hs:=fun w1 (hw1:Below w.heap.size w w1)=>ZDV (h.below hw1).1 (i:=0) (j:=m) (by omega) (by omega)
 rw[show((0:Nat) : Int)=0 from rfl] at hs
 have HSW:=Hd_ hs
 have HKB:=Hd_ fun w1 (hw1:Below w.heap.size w w1)=>(h.below hw1).2
 have HH:=Hd_ hh
 have HM:=Hd_ hm
 have hml:m < 100000000:=by omega
 have hm0:(0:Int)≤m:=by omega
 have hm1:(m:Int) < 100000000:=by omega
 rw[hm] at HLN
 clear hs hh hm h hL hne
 go_enter Tryd.func51,Tryd.ntmps51
 go_wp2_with (first
  | (refine ZR (by rfl) (.tmp 4) "Len" [] _ rfl _ _ rfl _ _ (ZJK _ qb) Tryd.func50 (by kernel_rfl) (by kernel_rfl) _ rfl ?_
     refine(HLN.out).mono ?_
     rintro e w2 ⟨rfl,q2,rfl⟩
     refine⟨_,rfl,?_⟩)
  | (refine ZR (by rfl) (.tmp 7) "Swap" [.const (.int .i64 0),.tmp 8] _ rfl _ _ rfl _ _ (ZEk _ qb) Tryd.func113 (by kernel_rfl) (by kernel_rfl) _ rfl ?_
     refine(HSW.out _ (ZF w q2)).mono ?_
     rintro e w3 ⟨rfl,hq3,hk3⟩
     have HQ3:=Hd_ hq3
     have HB3:=Hd_ ((HKB.out _ (ZF w q2)).trans hk3)
     have hdn:=(ZDc R D hD 0 qb (swL L 0 m) m 0 w3 HQ3.out (DnL.of_swap HH.out HM.out) (by rw[ZU,HM.out];omega) (by omega))
     rw[show((0:Nat) : Int)=0 from rfl] at hdn
     have HD:=Hd_ hdn
     clear hq3 hk3 hdn
     refine⟨_,rfl,?_⟩)
  | (go_at_call 72
     refine(HD.out).mono ?_
     rintro e w4 ⟨bv,L3,rfl,h1,h2,h3,h4,h5,h6⟩
     obtain⟨s,s1,s2,s3,s4,s5⟩:=ZHx HM.out h3 h4 h5 h1.nd
     rw[s2] at h1
     have HP:=Hd_ (ZHA (L:=L3.take m) (s:=s) h1 (by rw[s4];omega))
     have HF:=Hd_ (And.intro s1 (And.intro s3 (And.intro s4 (And.intro h2 (And.intro h6 s5)))))
     clear s1 s2 s3 s4 s5 h1 h2 h3 h4 h5 h6)
  | (refine ZR (by rfl) (.tmp 13) "Pop" [] _ rfl _ _ rfl _ _ (fm_pop _ qb) Tryd.func112 (by kernel_rfl) (by kernel_rfl) _ rfl ?_
     refine(HP.out).mono ?_
     rintro e w5 ⟨rfl,hq5,hb5⟩
     have HQ5:=Hd_ (And.intro hq5 hb5)
     clear hq5 hb5
     refine⟨_,rfl,?_⟩))
 go_ret
 obtain⟨s1,s3,s4,h2,h6,s5⟩:=HF.out
 refine⟨s,L3.take m,rfl,HQ5.out.1,?_,by rw[s4,HM.out],s3,s5,?_,(HB3.out.trans h6).trans HQ5.out.2⟩
 ·rw[s4]
  exact h2.hp.take rfl
 ·intro x hx
  obtain⟨k,hk⟩:=List.mem_iff_getElem?.1 hx
  have:=HH.out.least k (by have:=(List.getElem?_eq_some_iff.1 hk).1;omega)
  rw[ZEe s1,ZEe hk] at this
  exact this
set_option maxRecDepth 100000 in
set_option maxHeartbeats 1000000 in
theorem ZFM (R:Nat→Prop) (D:List Int) (hD:DepOk D) (qb:Nat) (L:List Nat) (w:World) (h:Fq R D w qb L) (hL:L.length≤100000000) :
  Calls Tryd.prog 49 #[.iface 114 (.pointer (some ⟨qb,0,none⟩))] w fun e w'=>e=.returned (.tuple #[])∧∃ L',Fq R D w' qb L'∧HpN (keyF D) L' L'.length∧L'.length=L.length∧(∀ x,x∈L' ↔ x∈L)∧KeepR R w w':=by
 have HLN:=Hd_ (ZCT h)
 have HQ0:=Hd_ h
 obtain⟨n,hn⟩ : ∃ n,L.length=n:=⟨_,rfl⟩
 rw[hn] at HLN hL
 have HNL:=Hd_ hn
 obtain⟨q,hq⟩ : ∃ q,n / 2=q:=⟨_,rfl⟩
 have hq1:n≤2 * q+1:=by omega
 have hq2:2 * q≤n:=by omega
 have hdv:Int.tdiv (n:Int) 2=(q:Int):=by rw[← hq];rfl
 have n0:(0:Int)≤n:=by omega
 have n1:(n:Int)≤100000000:=by omega
 have q0:(0:Int)≤q:=by omega
 have q1:(q:Int)≤100000000:=by omega
 have HLV:=Hd_ hq1
 clear h hn hq
 go_enter Tryd.func49,Tryd.ntmps49
 go_wp2_with (first
  | (refine ZR (by rfl) (.tmp 4) "Len" [] _ rfl _ _ rfl _ _ (ZJK _ qb) Tryd.func50 (by kernel_rfl) (by kernel_rfl) _ rfl ?_
     refine(HLN.out).mono ?_
     rintro e w2 ⟨rfl,z2,rfl⟩
     refine⟨_,rfl,?_⟩))
 go_loopw [3] (fun v3 wr=>∃ (i:Nat) (L':List Nat),v3=.int .i64 ((i:Int) - 1)∧i≤100000000∧Hid (Fq R D wr qb L')∧Hid (HpL (keyF D) i L' n)∧Hid (L'.length=n∧(∀ x,x∈L' ↔ x∈L)∧KeepR R w wr)) (fun v3 _=>(intOf v3+1).toNat)
 case atStart=>exact⟨q,L,by go_num,by omega,Hd_ (HQ0.out.below (ZF w z2)).1,Hd_ (HpL.leaves L HLV.out),Hd_ ⟨HNL.out,fun _=>Iff.rfl,(HQ0.out.below (ZF w z2)).2⟩⟩
 case round =>
  obtain⟨i,L',rfl,hi,HQ,HP,HB⟩:=hrel
  cases i with
  | zero =>
   go_wp2
   go_end0
   exact⟨rfl,L',HQ.out,by rw[HB.out.1];exact HP.out.hp,by rw[HB.out.1,HNL.out],HB.out.2.1,HB.out.2.2⟩
  | succ j =>
   have e1:((j+1:Nat) : Int) - 1=(j:Int):=by omega
   rw[e1]
   have j0:(0:Int)≤j:=by omega
   have j1:(j:Int)≤100000000:=by omega
   have dj:decide ((0:Int)≤(j:Int))=true:=decide_eq_true j0
   have HDN:=Hd_ (ZDc R D hD j qb L' n j wr HQ.out (HP.out.sink (by rw[HB.out.1];omega)) (by rw[HB.out.1];exact hL) (by omega))
   clear e1
   go_wp2_with (first
    | (go_at_call 72
       refine(HDN.out).mono ?_
       rintro e w4 ⟨bv,L3,rfl,h1,h2,h3,h4,h5,h6⟩
       have HF:=Hd_ (And.intro h1 (And.intro h2 (And.intro h3 (And.intro h4 h6))))
       clear h1 h2 h3 h4 h5 h6))
   go_roundw
   case rel=>exact⟨j,L3,by go_num,by omega,Hd_ HF.out.1,Hd_ HF.out.2.1,Hd_ ⟨by rw[HF.out.2.2.1,HB.out.1],fun x=>(HF.out.2.2.2.1 x).trans (HB.out.2.1 x),HB.out.2.2.trans HF.out.2.2.2.2⟩⟩
   case measure=>first | (simp[intOf];done) | (simp[intOf];omega)
theorem Fq.more {R:Nat→Prop} {D:List Int} {w w':World} {qb:Nat} {L:List Nat} (h:Fq R D w qb L) (hb:Below w.heap.size w w') : Fq (fun b=>R b∨(w.heap.size≤b∧b < w'.heap.size)) D w' qb L:=by
 obtain⟨h',-⟩:=h.below hb
 obtain⟨v,db,dc,h1,h2,h3,h4,h5⟩:=h.ex
 obtain⟨hb',ho'⟩ : Blk w' qb 118 [v,FqF db D.length dc]∧w'.ownsRow 0 3 1 v L.length (nodsV L):=⟨h1.below hb h1.lt,h2.kept (row:=none) ⟨hb.os,hb.tape,hb.output,hb.size,fun k hk _=>hb.block k hk⟩ (by cases h:v.ownBlock <;> simp)⟩
 refine⟨⟨v,db,dc,hb',ho',.inl h3,fun i x hx=>(World.cell?_of_block (hb.block db (h5 db h3).1)).trans (h4 i x hx),fun b k=>?_⟩,h.nd,h.mem⟩
 rcases k with k | ⟨k1,k2⟩
 ·exact⟨Nat.lt_of_lt_of_le (h5 b k).1 hb.size,(h5 b k).2⟩
 ·refine⟨k2,fun e=>by have:=h1.lt;omega,fun e=>?_⟩
  have:=(h2.lt b e).2
  omega
end Go.Proofs.YtffgnjgphkdodaaDoor
