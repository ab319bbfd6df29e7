import Derived.Test.YtmkpjiahkepigaaGreatP74
import Derived.Test.YtmkpjiahkepigaaGreatP09
/- An argument that is a list of classes. -/
namespace Go.Proofs.YtmkpjiahkepigaaGreat
open Go Go.RowKit Go.ChangeShapes Go.WideShapes Go.Deep
section
variable {H : Type} {enc : TypeId × Value → H} {w : World} {spare : Nat → Bool} {held : Bool}
theorem c3_cls : Tryz.prog.cellsOf 105 = 3 := by kernel_rfl
theorem c1_clsk : Tryz.prog.cellsOf 103 = 1 := by kernel_rfl
theorem open_cls1 {n : Nat} {cs : List Value} {y : DataW H × List MemPlace} (h : DataW.trod enc Tryz.prog w 0 spare held n 105 cs = some y) : ∃ c : Cls, clsV (cmap w) cs c ∧ True := by
  obtain ⟨xs, m, _, _, hlen, hxl, hf⟩ := DataW.trod_struct Tryz.underlying105 h
  replace hlen := hlen.trans c3_cls
  obtain ⟨c0, c1, c2, rfl⟩ := list3 hlen
  obtain ⟨y0, y1, y2, rfl⟩ := list3 hxl
  have f0 := hf 0 _ rfl
  have f1 := hf 1 _ rfl
  have f2 := hf 2 _ rfl
  simp only [List.getElem_toArray, List.getElem_cons_zero, List.getElem_cons_succ, c1_clsk, c1_int] at f0 f1 f2
  obtain ⟨s0, e0, _⟩ := DataW.trod_int Tryz.underlying103 f0
  obtain ⟨s1, e1, _⟩ := DataW.trod_int Tryz.underlying3 f1
  obtain ⟨s2, e2, _⟩ := DataW.trod_int Tryz.underlying3 f2
  simp at e0 e1 e2
  subst e0 e1 e2
  exact ⟨⟨s0, s1, s2⟩, rfl, trivial⟩
set_option maxRecDepth 100000 in
/-- A LIST OF CLASSES. -/
theorem open_clss {base : Nat} {r : Reach} {v : Value} {d : DataW H} {p : List MemPlace} (hv : Value.okWide Tryz.prog w r base 48 v) (h : DataW.Trod enc Tryz.prog w 0 spare held 48 v d p) :
    ∃ A c, ∃ l : List Cls, v = .slice A l.length c ∧ Clss (cmap w) (.slice A l.length c) l := by
  obtain ⟨a, n, c, rfl⟩ := okWide_slice Tryz.underlying48 hv
  obtain ⟨fuel, hf⟩ := h
  have hf' : DataW.trod enc Tryz.prog w 0 spare held fuel 48 [.slice a n c] = some (d, p) := hf
  obtain ⟨v0, l, e0, h0, _⟩ := open_sl clsV (fun _ => True) Tryz.underlying48 c3_cls (by decide) (fun n cs' y hy => open_cls1 hy) hf'
  injection e0 with e0 _
  subst e0
  have hi : Clss (cmap w) (.slice a n c) l := h0
  obtain rfl := hi.len.1
  exact ⟨a, c, l, rfl, hi⟩
end
end Go.Proofs.YtmkpjiahkepigaaGreat
