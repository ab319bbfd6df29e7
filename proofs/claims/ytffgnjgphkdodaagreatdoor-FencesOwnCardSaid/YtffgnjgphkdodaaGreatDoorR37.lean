import Derived.Test.YtffgnjgphkdodaaGreatDoorR29
import Derived.Test.YtffgnjgphkdodaaGreatDoorR10
import Derived.Test.YtffgnjgphkdodaaGreatDoorR19
import Derived.Test.YtffgnjgphkdodaaGreatDoorR4
import Derived.Test.YtffgnjgphkdodaaGreatDoorR8
import Derived.Test.YtffgnjgphkdodaaGreatDoorR40
namespace Go.Proofs.YtffgnjgphkdodaaGreatDoor
open Go Go.RowKit
theorem ZJA (w:World) (g:Nat) (cs:Array Value) : w.grownBy (w.setRow g cs) (some g):=⟨rfl,rfl,rfl,by simp[World.setRow],fun b _ hn=>Zm (fun e=>hn (by rw[e])) cs⟩
def AlonePost (u:Unit_) (t:Int) (F:List Int) (n:Int) (w:World) (e:Ending) (w':World) : Prop:=∃ r,e=.returned (.tuple #[r,.bool (aloneR u t F n).2.1,.int .i64 (aloneR u t F n).2.2])∧w'.ownsRow w.heap.size 3 1 r (aloneR u t F n).1.length (ints (aloneR u t F n).1)∧Below w.heap.size w w'
set_option maxRecDepth 100000 in
set_option maxHeartbeats 1000000 in
theorem ZD2 (v1 v2:Value) (L:List Decl) (w:World) (h1:Decls (cmap w) v1 L) (h2:Decls (cmap w) v2 L) :
  Calls Tryz.prog 65 #[v1,v2] w fun e w'=>e=.returned (.bool true)∧∃ n,w'=w.drewN n:=by
 obtain⟨A1,c1,rfl,-⟩:=id h1
 obtain⟨A2,c2,rfl,-⟩:=id h2
 have b1:=h1.len.2.2
 have hb:((L.length:Int) != (L.length:Int))=false:=by simp
 go_enter Tryz.func65,Tryz.ntmps65
 go_wp2
 go_loopw [5] (fun v wr=>∃ (k n:Nat),v=.int .i64 k∧k≤L.length∧wr=w.drewN n) (fun v _=>L.length - (intOf v).toNat)
 case atStart=>exact⟨0,0,rfl,by omega,rfl⟩
 case round =>
  obtain⟨k,n,rfl,hk,rfl⟩:=hrel
  by_cases hlt:k < L.length
  ·obtain⟨d,hd⟩ : ∃ d,L[k]? = some d:=⟨_,List.getElem?_eq_getElem hlt⟩
   obtain⟨bb1,o1,rfl,g10,g11,g12⟩:=h1.at_ hd
   obtain⟨bb2,o2,rfl,g20,g21,g22⟩:=h2.at_ hd
   have HD:=Hd_ hd;clear hd
   have q10:w.cell? ⟨bb1,o1+k * 3,none⟩=some (.string d.name):=g10
   have q11:w.cell? ⟨bb1,o1+k * 3+1,none⟩=some (.int .i64 d.word):=g11
   have q12:w.cell? ⟨bb1,o1+k * 3+2,none⟩=some (.int .i64 d.at_):=g12
   have q20:w.cell? ⟨bb2,o2+k * 3,none⟩=some (.string d.name):=g20
   have q21:w.cell? ⟨bb2,o2+k * 3+1,none⟩=some (.int .i64 d.word):=g21
   have q22:w.cell? ⟨bb2,o2+k * 3+2,none⟩=some (.int .i64 d.at_):=g22
   clear g10 g11 g12 g20 g21 g22
   have hk0:(0:Int)≤k:=by omega
   have hkl:(k:Int) < L.length:=by omega
   have hm : Tryz.prog.eqGuardType Tryz.prog.depth 118 = false:=by kernel_rfl
   have heq:=ZK6 d.name d.word d.at_
   go_wp2
   go_quiet (fail)
   go_wp2
   go_roundw
   case rel=>exact⟨k+1,_,by go_num,by omega,rfl⟩
   case measure=>simp[intOf];omega
  ·go_wp2
   go_ret
   exact⟨rfl,_,rfl⟩
set_option maxRecDepth 100000 in
set_option maxHeartbeats 1000000 in
theorem ZA8 (v1 v2:Value) (L:List (List Int)) (w:World) (h1:Sl (Cells intsV) 1 (cmap w) v1 L) (h2:Sl (Cells intsV) 1 (cmap w) v2 L) :
  Calls Tryz.prog 37 #[v1,v2] w fun e w'=>e=.returned (.bool true)∧∃ n,w'=w.drewN n:=by
 obtain⟨A1,c1,rfl,-⟩:=id h1
 obtain⟨A2,c2,rfl,-⟩:=id h2
 have b1:=h1.len.2.2
 have hb:((L.length:Int) != (L.length:Int))=false:=by simp
 go_enter Tryz.func37,Tryz.ntmps37
 go_wp2
 go_loopw [5] (fun v wr=>∃ (k n:Nat),v=.int .i64 k∧k≤L.length∧wr=w.drewN n) (fun v _=>L.length - (intOf v).toNat)
 case atStart=>exact⟨0,0,rfl,by omega,rfl⟩
 case round =>
  obtain⟨k,n,rfl,hk,hw⟩:=hrel
  have m1:Sl (Cells intsV) 1 (cmap wr) (.slice A1 L.length c1) L:=by rw[hw];exact h1
  have m2:Sl (Cells intsV) 1 (cmap wr) (.slice A2 L.length c2) L:=by rw[hw];exact h2
  have HW:=Hd_ hw;clear hw
  by_cases hlt:k < L.length
  ·obtain⟨l,hl⟩ : ∃ l,L[k]? = some l:=⟨_,List.getElem?_eq_getElem hlt⟩
   obtain⟨bb1,o1,rfl,_,⟨l1,rfl,g1⟩,q1⟩:=m1.at_ hl
   obtain⟨bb2,o2,rfl,_,⟨l2,rfl,g2⟩,q2⟩:=m2.at_ hl
   have p1:wr.cell? ⟨bb1,o1+k,none⟩=some l1:=by have:=q1 0 l1 rfl;rwa [Nat.mul_one] at this
   have p2:wr.cell? ⟨bb2,o2+k,none⟩=some l2:=by have:=q2 0 l2 rfl;rwa [Nat.mul_one] at this
   obtain⟨a1,d1,rfl,-⟩:=id g1
   obtain⟨a2,d2,rfl,-⟩:=id g2
   clear q1 q2
   have HL:=Hd_ hl;clear hl
   have hk0:(0:Int)≤k:=by omega
   have hkl:(k:Int) < L.length:=by omega
   go_wp2
   go_quiet (first | (go_at_call 79;refine Calls.quiet_of ((ZBb _ _ l l _ (by exact g1) (by exact g2)).mono fun e w' ⟨h1,h2⟩=>⟨by rw[h1,decide_eq_true rfl],h2⟩)))
   go_wp2
   go_roundw
   case rel=>exact⟨k+1,_,by go_num,by omega,by rw[HW.out];exact World.drewN_drewN _ _ _⟩
   case measure=>simp[intOf];omega
  ·go_wp2
   go_ret
   exact⟨rfl,_,HW.out⟩
theorem ZHJ {u:Unit_} {m:Bool} {w w':World} {e:Ending} (h:PlacePost u m w e w') : ∃ v,e=.returned (.tuple #[v,.int .i64 (placeR u m).2])∧Below w.heap.size w w'∧Ints2 (cmap w') v (placeR u m).1:=by
 obtain⟨v,rfl,hb,h⟩:=h
 rcases h with⟨h1,rfl⟩ | ⟨X,vs,hc,h1,rfl,hX,hr⟩
 ·rw[h1]
  exact⟨_,rfl,hb,none,0,rfl,by simp,⟨by simp[maxLen],fun _=>rfl⟩,.inl rfl⟩
 ·rw[h1]
  have hl:=Z0 u m u.graphs.length
  have:=hr.sl hX (by rw[hl];have:=(ZM hc).threads;omega)
  rw[hl] at this
  exact⟨_,rfl,hb,this.mono (ZQ _ _ _)⟩
end Go.Proofs.YtffgnjgphkdodaaGreatDoor
