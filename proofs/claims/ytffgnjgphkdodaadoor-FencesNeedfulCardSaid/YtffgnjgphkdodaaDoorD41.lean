import Derived.Test.YtffgnjgphkdodaaDoorD28
namespace Go.Proofs.YtffgnjgphkdodaaDoor
open Go
theorem ZA9 {u:Unit_} {t:Nat} {g:Graph} {F:List Int} {n:Int} (hE:faultE u (t:Int) F n=0) (hg:u.graphs[t]? = some g) (hemp:emptyR u (t:Int) F=true) : (!emptyR u (t:Int) (withoutL F n))=(aloneR u (t:Int) F n).2.1:=by
 obtain⟨hea,t',g',ht,hg',hfb,-⟩:=Zy hE
 obtain rfl:t=t':=by omega
 rw[hg] at hg'
 injection hg' with hg'
 subst hg'
 have hc:=(Zw hea).1
 have hw:=((ZK hc).graphs g (List.mem_of_getElem? hg)).whole
 have hfw:=ZBD hfb (Z1 F n)
 have hno:=(ZAv hc hg hfb).1 hemp
 rcases ZDl hE hg with⟨h1,h2⟩ | ⟨s,d,h1,h2⟩
 ·have hem:emptyR u (t:Int) (withoutL F n)=true:=by
   refine(ZAv hc hg hfw).2 fun j hj ho=>?_
   cases hl:(mkAt u g [] j).load with
   | false=>rfl
   | true =>
    exfalso
    obtain⟨s,d,h3,h4⟩:=ZEt hw (nd:=n) (fun x hx=>by
     by_cases e:x=n
     ·exact .inr e
     ·exact .inl (Zm.2 ⟨hx,e⟩)) hno ho hl
    obtain⟨_,m,hm,_⟩:=ZAS.1 h3
    exact h2 s d (List.getElem?_eq_some_iff.1 hm).1 h3 h4
  rw[hem,h1]
  rfl
 ·have hem:emptyR u (t:Int) (withoutL F n)=false:=by
   cases he:emptyR u (t:Int) (withoutL F n) with
   | false=>rfl
   | true =>
    exfalso
    have h3:=(ZAv hc hg hfw).1 he
    have hfar:DW (spE g (withoutL F n) n) (spT u g) (num s false) d:=by
     rcases ZAd.2 _ _ h2.far with⟨q,_⟩ | ⟨e,q1,q2⟩
     ·omega
     ·have:d=e:=by omega
      subst this
      exact q2.1
    obtain⟨j,h4,h5⟩:=ZEb h2.st h2.sl hfar
    obtain⟨_,m,hm,_⟩:=ZAY.1 h5
    have:=h3 j (List.getElem?_eq_some_iff.1 hm).1 h4
    rw[h5] at this
    cases this
  rw[hem,h1]
  rfl
end Go.Proofs.YtffgnjgphkdodaaDoor
