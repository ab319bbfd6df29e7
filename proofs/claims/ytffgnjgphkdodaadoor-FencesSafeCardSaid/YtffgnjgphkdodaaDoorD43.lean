import Derived.Test.YtffgnjgphkdodaaDoorD36
namespace Go.Proofs.YtffgnjgphkdodaaDoor
open Go Go.RowKit
theorem ZBY {u:Unit_} {m:Bool} {w w':World} {e:Ending} (h:PlacePost u m w e w') : ∃ v,e=.returned (.tuple #[v,.int .i64 (placeR u m).2])∧Below w.heap.size w w'∧Ints2 (cmap w') v (placeR u m).1:=by
 obtain⟨v,rfl,hb,h⟩:=h
 rcases h with⟨h1,rfl⟩ | ⟨X,vs,hc,h1,rfl,hX,hr⟩
 ·rw[h1]
  exact⟨_,rfl,hb,none,0,rfl,by simp,⟨by simp[maxLen],fun _=>rfl⟩,.inl rfl⟩
 ·rw[h1]
  have hl:=Zr u m u.graphs.length
  have:=hr.sl hX (by rw[hl];have:=(ZK hc).threads;omega)
  rw[hl] at this
  exact⟨_,rfl,hb,this.mono (ZV _ _ _)⟩
end Go.Proofs.YtffgnjgphkdodaaDoor
