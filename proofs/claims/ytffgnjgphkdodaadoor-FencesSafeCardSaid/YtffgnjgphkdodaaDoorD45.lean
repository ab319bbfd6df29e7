import Derived.Test.YtffgnjgphkdodaaDoorD28
import Derived.Test.YtffgnjgphkdodaaDoorD21
import Derived.Test.YtffgnjgphkdodaaDoorD30
namespace Go.Proofs.YtffgnjgphkdodaaDoor
open Go
section
variable {u:Unit_} {g:Graph} {t:Nat}
theorem ZE8 {m:Bool} {k:Nat} {l:List Int} (h:(placeK u m u.graphs.length)[k]? = some l) : ∃ g,u.graphs[k]? = some g∧l=placeL u m k:=by
 have hk:k < u.graphs.length:=by
  have:=(List.getElem?_eq_some_iff.1 h).1
  rw[Zr] at this
  exact this
 rw[ZAV u m hk] at h
 injection h with h
 exact⟨_,List.getElem?_eq_getElem hk,h.symm⟩
theorem ZFN (hc:checkF u=none) (m:Bool) : (placeK u m u.graphs.length).length=u.graphs.length∧FenAll u (placeK u m u.graphs.length):=by
 refine⟨Zr _ _ _,fun t g l hg hl=>?_⟩
 obtain⟨_,_,rfl⟩:=ZE8 hl
 exact ZCK hc hg m
theorem ZGh (hc:checkF u=none) (m:Bool) : safeR u (placeK u m u.graphs.length)=(true,0):=by
 refine ZD3 hc (ZFN hc m) fun t l hl=>?_
 obtain⟨g,hg,rfl⟩:=ZE8 hl
 exact Zd.1 (ZBN hc hg m)
theorem ZHE (hc:checkF u=none) (m:Bool) : costR u (placeK u m u.graphs.length)=(costS u (placeK u m u.graphs.length) u.graphs.length,0):=ZCY hc (ZFN hc m)
theorem ZIL:costS u (placeK u true u.graphs.length) u.graphs.length≤costS u (placeK u false u.graphs.length) u.graphs.length:=by
 refine ZGV _ fun t g ht hg=>⟨_,_,ZAV u true ht,ZAV u false ht,ZBZ hg⟩
theorem ZFj (hc:checkF u=none) (hg:u.graphs[t]? = some g) (m:Bool) (h:(pairsR u (t:Int)).2=0) : (pairsR u (t:Int)).1=[] ↔ placeL u m t=[]:=by
 have hlt:=(List.getElem?_eq_some_iff.1 hg).1
 have ha:askE u (t:Int)=0:=ZCZ hc ⟨by omega,by omega⟩
 have hp:pairsR u (t:Int)=if (prL u g (stL u g)).length≤65536 then (prL u g (stL u g),0) else ([],3):=by
  unfold pairsR
  rw[if_pos ha,Int.toNat_natCast,hg]
 rw[hp] at h ⊢
 by_cases hs:(prL u g (stL u g)).length≤65536
 ·rw[if_pos hs]
  rw[ZGo hc hg m,ZAA hc hg (ZCz _)]
  constructor
  ·intro e
   refine List.eq_nil_iff_forall_not_mem.2 fun x hx=>?_
   obtain⟨s,hs⟩:=(ZDP u g x).1 hx
   simp only at e
   rw[e] at hs
   cases hs
  ·intro e
   refine List.eq_nil_iff_forall_not_mem.2 fun ⟨s,x⟩ hx=>?_
   have:=(ZDP u g x).2 ⟨s,hx⟩
   simp only at e
   rw[e] at this
   cases this
 ·rw[if_neg hs] at h
  exact absurd h (by decide)
theorem ZG2 (hc:checkF u=none) (hg:u.graphs[t]? = some g) {x:Int} (hx:x∈placeL u false t) : ∃ (k:Nat) (n:Node),x=k∧k < g.nodes.length∧g.nodes[k]? = some n∧ldB u n=true:=by
 rw[Z4,ZAA hc hg (ZCz _)] at hx
 obtain⟨i,rfl,hi,_,hl⟩:=ZBB.1 hx
 obtain⟨_,n,hn,hb⟩:=ZAY.1 hl
 exact⟨i,n,rfl,hi,hn,hb⟩
end
def Amid (a b:List Int) (p i:Nat) : Prop:=(b.drop i).Sublist (a.drop p)
theorem Amid.pass {a b:List Int} {p i:Nat} {x y:Int} (h:Amid a b p i) (hx:a[p]? = some x) (hy:b[i]? = some y) (hne:x≠y) : Amid a b (p+1) i:=by
 unfold Amid at h ⊢
 obtain⟨hp,ex⟩:=List.getElem?_eq_some_iff.1 hx
 obtain⟨hi,ey⟩:=List.getElem?_eq_some_iff.1 hy
 rw[List.drop_eq_getElem_cons hp,List.drop_eq_getElem_cons hi,ex,ey] at h
 rw[List.drop_eq_getElem_cons hi,ey]
 cases h with
 | cons _ h=>exact h
 | cons_cons=>exact absurd rfl hne
theorem Amid.next {a b:List Int} {p i:Nat} (h:Amid a b p i) : Amid a b p (i+1):=by
 unfold Amid at h ⊢
 exact(List.drop_sublist_drop_left b (Nat.le_succ i)).trans h
theorem Amid.lt {a b:List Int} {p i:Nat} {y:Int} (h:Amid a b p i) (hy:b[i]? = some y) : p < a.length:=by
 unfold Amid at h
 have hi:=(List.getElem?_eq_some_iff.1 hy).1
 have:=h.length_le
 simp at this
 omega
theorem Amid.eq {a b:List Int} {p i:Nat} {x y:Int} (h:Amid a b p i) (hs:a.Pairwise (· < ·)) (hx:a[p]? = some x) (hy:b[i]? = some y) (hn:¬ x < y) : x=y:=by
 unfold Amid at h
 obtain⟨hp,ex⟩:=List.getElem?_eq_some_iff.1 hx
 obtain⟨hi,ey⟩:=List.getElem?_eq_some_iff.1 hy
 have hd:=hs.sublist (List.drop_sublist p a)
 rw[List.drop_eq_getElem_cons hp,List.drop_eq_getElem_cons hi,ex,ey] at h
 rw[List.drop_eq_getElem_cons hp,ex] at hd
 have hm:y∈x :: a.drop (p+1):=h.subset (by simp)
 rcases List.mem_cons.1 hm with e | hm
 ·exact e.symm
 ·exact absurd ((List.pairwise_cons.1 hd).1 y hm) hn
end Go.Proofs.YtffgnjgphkdodaaDoor
