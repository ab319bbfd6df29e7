import Derived.Test.YtffgnjgphkdodaaGreatDoorV40
import Derived.Test.YtffgnjgphkdodaaGreatDoorV41
namespace Go.Proofs.YtffgnjgphkdodaaGreatDoor
open Go Go.RowKit
def dv (D:List Int) (k:Int) : Int:=(D[k.toNat]?).getD (-1)
theorem ZDf {D:List Int} {k:Nat} {x:Int} (h:D[k]? = some x) : dv D (k:Int)=x:=by unfold dv;rw[Int.toNat_natCast,h];rfl
def StepI (D L:List Int) (b:Int) : Prop:=(b = -1∧∀ k∈L,¬ 0≤dv D k)∨((b∈L∧0≤b)∧0≤dv D b∧∀ k∈L,0≤dv D k→dv D b < dv D k∨(dv D b=dv D k∧b / 2≤k / 2))
theorem StepI.nil (D:List Int) : StepI D [] (-1):=.inl ⟨rfl,fun k h=>by cases h⟩
theorem StepI.no {D L:List Int} {b k:Int} (h:StepI D L b) (hk:¬ 0≤dv D k) : StepI D (L ++ [k]) b:=by
 rcases h with⟨rfl,h⟩ | ⟨⟨h1,h0⟩,h2,h3⟩
 ·refine .inl ⟨rfl,fun y hy=>?_⟩
  rcases List.mem_append.1 hy with hy | hy
  ·exact h y hy
  ·rw[List.mem_singleton] at hy;rw[hy];exact hk
 ·refine .inr ⟨⟨List.mem_append.2 (.inl h1),h0⟩,h2,fun y hy hd=>?_⟩
  rcases List.mem_append.1 hy with hy | hy
  ·exact h3 y hy hd
  ·rw[List.mem_singleton] at hy;rw[hy] at hd;exact absurd hd hk
theorem StepI.keep {D L:List Int} {b k:Int} (h:StepI D L b) (h0:0≤b) (hk:dv D b < dv D k∨(dv D b=dv D k∧b / 2≤k / 2)) : StepI D (L ++ [k]) b:=by
 rcases h with⟨rfl,h⟩ | ⟨⟨h1,h0⟩,h2,h3⟩
 ·omega
 ·refine .inr ⟨⟨List.mem_append.2 (.inl h1),h0⟩,h2,fun y hy hd=>?_⟩
  rcases List.mem_append.1 hy with hy | hy
  ·exact h3 y hy hd
  ·rw[List.mem_singleton] at hy;rw[hy];exact hk
theorem StepI.take {D L:List Int} {b k:Int} (h:StepI D L b) (k0:0≤k) (hd:0≤dv D k) (hk:b = -1∨dv D k < dv D b∨(dv D k=dv D b∧k / 2 < b / 2)) : StepI D (L ++ [k]) k:=by
 refine .inr ⟨⟨List.mem_append.2 (.inr (List.mem_singleton.2 rfl)),k0⟩,hd,fun y hy hdy=>?_⟩
 rcases List.mem_append.1 hy with hy | hy
 ·rcases h with⟨rfl,h⟩ | ⟨⟨h1,h0⟩,h2,h3⟩
  ·exact absurd hdy (h y hy)
  ·have:=h3 y hy hdy
   omega
 ·rw[List.mem_singleton] at hy;rw[hy];exact .inr ⟨rfl,Int.le_refl _⟩
set_option maxRecDepth 100000 in
set_option maxHeartbeats 2000000 in
theorem ZFw (g:Graph) (cs:List Value) (v:Value) (R:List Int) (nd:Int) (i:Nat) (p:Bool) (n:Node) (v4:Value) (D:List Int) (w:World) (hw:WholeG g) (hg:GraphV (cmap w) cs g) (hR:Ints (cmap w) v R) (hn:g.nodes[i]? = some n) (hD:Ints (cmap w) v4 D) (hDl:D.length=2 * g.nodes.length) :
  Calls Tryz.prog 93 #[.agg cs.toArray,v,.int .i64 nd,.agg #[.int .i64 (i:Nat),.bool p],v4] w fun e w'=>∃ b:Int,e=.returned (.tuple #[.int .i64 b,.bool (decide (0≤b))])∧StepI D (goesL R nd p (fol2 n)) b∧Below w.heap.size w w':=by
 have hmost:=hw.most
 have hb0:=hw.fol n (List.mem_of_getElem? hn)
 have hl2:(fol2 n).length≤2:=by unfold fol2;split;simp;split <;> simp
 have hgl:=ZDT R nd p (fol2 n)
 have HGB:Hid (∀ x∈goesL R nd p (fol2 n),∃ k:Nat,x=(k:Int)∧k < 2 * g.nodes.length):=Hd_ fun x hx=>by
  obtain⟨k,h1,h2,rfl⟩:=ZBB.1 hx
  have:=hb0 k ((Zm n k).1 h1)
  exact⟨_,rfl,ZA8 (by omega) _⟩
 have HGO:Hid (∀ w1,Below w.heap.size w w1→Calls Tryz.prog 137 #[.agg cs.toArray,v,.int .i64 nd,.agg #[.int .i64 (i:Nat),.bool p]] w1 fun e w'=>∃ v',e=.returned v'∧w'.ownsRow w1.heap.size 3 1 v' (goesL R nd p (fol2 n)).length (ints (goesL R nd p (fol2 n)))∧Below w1.heap.size w1 w'):=Hd_ fun w1 h=>by
  cases p with
  | true=>exact ZCY g cs v R nd i n w1 hw (hg.mono (ZA h)) (hR.mono (ZA h)) hn
  | false=>exact ZCZ g cs v R nd i n w1 hw (hg.mono (ZA h)) (hR.mono (ZA h)) hn
 obtain⟨L,hL⟩ : ∃ L,goesL R nd p (fol2 n)=L:=⟨_,rfl⟩
 rw[hL] at hgl HGB HGO ⊢
 have hL2:L.length≤2:=by omega
 obtain⟨nv,rfl,hnv⟩:=id hg
 obtain⟨DA,dc,rfl,-⟩:=id hD
 have HD:=Hd_ (And.intro hD hDl)
 obtain⟨rA,rc,rfl,-⟩:=id hR
 have hbw:=((Below.refl _ w).alloc (Nat.le_refl _) (.cells #[.string g.name,.int .i64 g.locals,.int .i64 g.slots,nv] 69)).alloc (by simp) (.cells #[.int .i64 (i:Nat),.bool p] 157)
 have HGO1:=Hd_ (HGO.out _ hbw)
 have HBW:=Hd_ hbw
 clear hgl hb0 hl2 hL hbw hnv hg hR hw hn hD hDl HGO
 go_enter Tryz.func93,Tryz.ntmps93
 go_wp2_with (first
  | (go_at_call 137
     refine(HGO1.out).mono ?_
     rintro e w2 ⟨gv,rfl,ho,hb2⟩
     obtain⟨gA,gc,rfl,-⟩:=ZF ho
     have H2:=Hd_ (And.intro (Zj ho) (HBW.out.trans (hb2.mono HBW.out.size)))
     clear ho hb2))
 clear HBW HGO1
 go_loopw [12,14] (fun v12 v14 wr=>∃ (z q:Nat) (b:Int),v14=.int .i64 z∧v12=.int .i64 b∧z≤L.length∧wr=w2.drewN q∧Hid (StepI D (L.take z) b)) (fun _ v14 _=>L.length - (intOf v14).toNat)
 case atStart=>exact⟨0,0,-1,rfl,rfl,Nat.zero_le _,rfl,Hd_ (StepI.nil D)⟩
 case round =>
  obtain⟨z,q,b,rfl,rfl,hz,rfl,HS⟩:=hrel
  by_cases hzL:z < L.length
  ·obtain⟨y,hy⟩ : ∃ y,L[z]? = some y:=⟨_,List.getElem?_eq_getElem hzL⟩
   obtain⟨kn,rfl,hkn⟩:=HGB.out y (List.mem_of_getElem? hy)
   obtain⟨dk,hdk⟩ : ∃ x,D[kn]? = some x:=⟨_,List.getElem?_eq_getElem (by rw[HD.out.2];exact hkn)⟩
   obtain⟨tb,tof,rfl,htc⟩:=H2.out.1.at_ hy
   rw[Nat.mul_one] at htc
   obtain⟨db,dof,rfl,hdc⟩:=HD.out.1.at_ hdk
   rw[Nat.mul_one] at hdc
   have t1:w2.cell? ⟨tb,tof+z,none⟩=some (.int .i64 (kn:Nat)):=htc
   have t2:w2.cell? ⟨db,dof+kn,none⟩=some (.int .i64 dk):=ZA H2.out.2 _ _ _ hdc
   have HTK:Hid (L.take (z+1)=L.take z ++ [(kn:Int)]):=Hd_ (by
    rw[List.take_succ_eq_append_getElem hzL]
    congr 2
    rw[List.getElem?_eq_getElem hzL] at hy
    injection hy)
   have HDK:=Hd_ (ZDf hdk)
   have z0:(0:Int)≤z:=by omega
   have zL:(z:Int) < L.length:=by omega
   have z2:(z:Int)≤2:=by omega
   have k0:(0:Int)≤kn:=by omega
   have kD:(kn:Int) < D.length:=by rw[HD.out.2];omega
   have k8:(kn:Int)≤8192:=by omega
   obtain⟨kh,hkh⟩ : ∃ kh,kn / 2=kh:=⟨_,rfl⟩
   have kq:Int.tdiv (kn:Int) 2=(kh:Int):=by rw[← hkh];rfl
   have kq2:(kn:Int) / 2=(kh:Int):=by omega
   have HKH:=Hd_ kq2
   clear hy hdk htc hdc hkn hkh
   by_cases hd0:0≤dk
   ·have e1:decide (0≤dk)=true:=decide_eq_true hd0
    have HD0:=Hd_ hd0
    clear hd0
    rcases id HS.out with⟨rfl,-⟩ | ⟨⟨hbm,hb0⟩,hbd,-⟩
    ·go_wp2
     go_quiet (fail)
     go_wp2
     go_roundw
     case rel=>exact⟨z+1,_,(kn:Int),by go_num,rfl,by omega,rfl,Hd_ (by rw[HTK.out];exact HS.out.take (by omega) (by rw[HDK.out];exact HD0.out) (.inl rfl))⟩
     case measure=>simp[intOf];omega
    ·obtain⟨bn,rfl,hbn⟩:=HGB.out b (List.mem_of_mem_take hbm)
     obtain⟨db',hdb⟩ : ∃ x,D[bn]? = some x:=⟨_,List.getElem?_eq_getElem (by rw[HD.out.2];exact hbn)⟩
     obtain⟨db2,dof2,e,hdc⟩:=HD.out.1.at_ hdb
     rw[Nat.mul_one] at hdc
     injection e with e
     injection e with e1' e2'
     subst e1' e2'
     have t3:w2.cell? ⟨db,dof+bn,none⟩=some (.int .i64 db'):=ZA H2.out.2 _ _ _ hdc
     have HDB:=Hd_ (ZDf hdb)
     have b0:(0:Int)≤bn:=by omega
     have bD:(bn:Int) < D.length:=by rw[HD.out.2];omega
     have b8:(bn:Int)≤8192:=by omega
     have e2:decide ((bn:Int) < 0)=false:=decide_eq_false (by omega)
     obtain⟨bh,hbh⟩ : ∃ bh,bn / 2=bh:=⟨_,rfl⟩
     have bq:Int.tdiv (bn:Int) 2=(bh:Int):=by rw[← hbh];rfl
     have bq2:(bn:Int) / 2=(bh:Int):=by omega
     have HBH:=Hd_ bq2
     clear hdb hdc hbm hbd hb0 hbn hbh
     by_cases h1:dk < db'
     ·have e3:decide (dk < db')=true:=decide_eq_true h1
      have HC:=Hd_ h1
      clear h1
      go_wp2
      go_quiet (fail)
      go_wp2
      go_roundw
      case rel=>exact⟨z+1,_,(kn:Int),by go_num,rfl,by omega,rfl,Hd_ (by rw[HTK.out];exact HS.out.take (by omega) (by rw[HDK.out];exact HD0.out) (.inr (.inl (by rw[HDK.out,HDB.out];exact HC.out))))⟩
      case measure=>simp[intOf];omega
     ·have e3:decide (dk < db')=false:=decide_eq_false h1
      by_cases h2:dk=db'
      ·have e4:(dk == db')=true:=by rw[h2];simp
       have HC:=Hd_ h2
       clear h1 h2
       by_cases h3:kh < bh
       ·have e5:decide ((kh:Int) < (bh:Int))=true:=decide_eq_true (by omega)
        have e5':decide (kh < bh)=true:=decide_eq_true h3
        have HC2:=Hd_ h3
        clear h3
        go_wp2
        go_quiet (fail)
        go_wp2
        go_roundw
        case rel=>exact⟨z+1,_,(kn:Int),by go_num,rfl,by omega,rfl,Hd_ (by rw[HTK.out];exact HS.out.take (by omega) (by rw[HDK.out];exact HD0.out) (.inr (.inr ⟨by rw[HDK.out,HDB.out];exact HC.out,by have:=HKH.out;have:=HBH.out;have:=HC2.out;omega⟩)))⟩
        case measure=>simp[intOf];omega
       ·have e5:decide ((kh:Int) < (bh:Int))=false:=decide_eq_false (by omega)
        have e5':decide (kh < bh)=false:=decide_eq_false h3
        have HC2:=Hd_ h3
        clear h3
        go_wp2
        go_quiet (fail)
        go_wp2
        go_roundw
        case rel=>exact⟨z+1,_,(bn:Int),by go_num,rfl,by omega,rfl,Hd_ (by rw[HTK.out];exact HS.out.keep (by omega) (.inr ⟨by rw[HDK.out,HDB.out];exact HC.out.symm,by have:=HKH.out;have:=HBH.out;have:=HC2.out;omega⟩))⟩
        case measure=>simp[intOf];omega
      ·have e4:(dk == db')=false:=by simp[h2]
       have HC:Hid (db' < dk):=Hd_ (by omega)
       clear h1 h2
       go_wp2
       go_quiet (fail)
       go_wp2
       go_roundw
       case rel=>exact⟨z+1,_,(bn:Int),by go_num,rfl,by omega,rfl,Hd_ (by rw[HTK.out];exact HS.out.keep (by omega) (.inl (by rw[HDK.out,HDB.out];exact HC.out)))⟩
       case measure=>simp[intOf];omega
   ·have e1:decide (0≤dk)=false:=decide_eq_false hd0
    have HD0:=Hd_ hd0
    clear hd0
    go_wp2
    go_quiet (fail)
    go_wp2
    go_roundw
    case rel=>exact⟨z+1,_,b,by go_num,rfl,by omega,rfl,Hd_ (by rw[HTK.out];exact HS.out.no (by rw[HDK.out];have:=HD0.out;omega))⟩
    case measure=>simp[intOf];omega
  ·obtain rfl:z=L.length:=by omega
   have hfin:=HS.out
   rw[List.take_length] at hfin
   have HF:=Hd_ hfin
   clear hfin
   go_wp2
   go_ret2
   exact⟨b,rfl,HF.out,H2.out.2.trans ((ZK w2 q).mono H2.out.2.size)⟩
end Go.Proofs.YtffgnjgphkdodaaGreatDoor
