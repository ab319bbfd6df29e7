import Derived.Test.YtffgnjgphkdodaaDoorD38
namespace Go.Proofs.YtffgnjgphkdodaaDoor
open Go Go.RowKit Go.ChangeShapes Go.WideShapes Go.Deep
section
variable {H:Type} {enc:TypeId × Value→H} {w:World} {spare:Nat→Bool} {held:Bool}
def intO1 (_:CM) (cs:List Value) (n:Int) : Prop:=cs=[.int .i64 n]
theorem ZGq {n:Nat} {cs:List Value} {y:DataW H × List MemPlace} (h:DataW.trod enc Tryd.prog w 0 spare held n 3 cs=some y) : ∃ d,intO1 (cmap w) cs d∧i64 d:=by
 obtain⟨s1,e1,_,w1⟩:=DataW.trod_int Tryd.underlying3 h
 exact⟨s1,e1,bounds_i64 w1⟩
theorem ZIo {n:Nat} {cs:List Value} {y:DataW H × List MemPlace} (h:DataW.trod enc Tryd.prog w 0 spare held n 39 cs=some y) : ∃ v l,cs=[v]∧Ints (cmap w) v l∧∀ x∈l,i64 x:=by
 obtain⟨v0,l,e0,h0,hok⟩:=ZDJ intO1 i64 Tryd.underlying39 ZFT (by decide) (fun n cs' y hy=>ZGq hy) h
 refine⟨v0,l,e0,h0.imp' fun m b o x hx=>?_,hok⟩
 obtain⟨cs,rfl,h2⟩:=hx
 exact h2 0 _ rfl
set_option maxRecDepth 100000 in
theorem ZDK {base:Nat} {r:Reach} {v:Value} {d:DataW H} {p:List MemPlace} (hv:Value.okWide Tryd.prog w r base 39 v) (h:DataW.Trod enc Tryd.prog w 0 spare held 39 v d p) :
  ∃ l,Ints (cmap w) v l∧∀ x∈l,i64 x:=by
 obtain⟨a,n,c,rfl⟩:=okWide_slice Tryd.underlying39 hv
 obtain⟨fuel,hf⟩:=h
 have hf':DataW.trod enc Tryd.prog w 0 spare held fuel 39 [.slice a n c]=some (d,p):=hf
 obtain⟨v0,l,e0,h0,hok⟩:=ZIo hf'
 injection e0 with e0 _
 subst e0
 exact⟨l,h0,hok⟩
end
end Go.Proofs.YtffgnjgphkdodaaDoor
