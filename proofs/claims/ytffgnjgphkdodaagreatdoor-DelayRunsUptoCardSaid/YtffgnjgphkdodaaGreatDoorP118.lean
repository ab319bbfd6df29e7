import Derived.Test.YtffgnjgphkdodaaGreatDoorP33
/- An argument that is a list of ints, or a list of such. -/
namespace Go.Proofs.YtffgnjgphkdodaaGreatDoor
open Go Go.RowKit Go.ChangeShapes Go.WideShapes Go.Deep
section
variable {H : Type} {enc : TypeId × Value → H} {w : World} {spare : Nat → Bool} {held : Bool}
def intO1 (_ : CM) (cs : List Value) (n : Int) : Prop := cs = [.int .i64 n]
theorem open_int_1 {n : Nat} {cs : List Value} {y : DataW H × List MemPlace} (h : DataW.trod enc Tryz.prog w 0 spare held n 3 cs = some y) : ∃ d, intO1 (cmap w) cs d ∧ i64 d := by
  obtain ⟨s1, e1, _, w1⟩ := DataW.trod_int Tryz.underlying3 h
  exact ⟨s1, e1, bounds_i64 w1⟩
theorem open_row {n : Nat} {cs : List Value} {y : DataW H × List MemPlace} (h : DataW.trod enc Tryz.prog w 0 spare held n 26 cs = some y) : ∃ v l, cs = [v] ∧ Ints (cmap w) v l ∧ ∀ x ∈ l, i64 x := by
  obtain ⟨v0, l, e0, h0, hok⟩ := open_sl intO1 i64 Tryz.underlying26 c1_int (by decide) (fun n cs' y hy => open_int_1 hy) h
  refine ⟨v0, l, e0, h0.imp' fun m b o x hx => ?_, hok⟩
  obtain ⟨cs, rfl, h2⟩ := hx
  exact h2 0 _ rfl
set_option maxRecDepth 100000 in
/-- A LIST OF INTS. -/
theorem open_ints_i {base : Nat} {r : Reach} {v : Value} {d : DataW H} {p : List MemPlace} (hv : Value.okWide Tryz.prog w r base 26 v) (h : DataW.Trod enc Tryz.prog w 0 spare held 26 v d p) :
    ∃ l, Ints (cmap w) v l ∧ ∀ x ∈ l, i64 x := by
  obtain ⟨a, n, c, rfl⟩ := okWide_slice Tryz.underlying26 hv
  obtain ⟨fuel, hf⟩ := h
  have hf' : DataW.trod enc Tryz.prog w 0 spare held fuel 26 [.slice a n c] = some (d, p) := hf
  obtain ⟨v0, l, e0, h0, hok⟩ := open_row hf'
  injection e0 with e0 _
  subst e0
  exact ⟨l, h0, hok⟩
def rowO (m : CM) (cs : List Value) (l : List Int) : Prop := ∃ v, cs = [v] ∧ Ints m v l
theorem c1_row : Tryz.prog.cellsOf 26 = 1 := by kernel_rfl
set_option maxRecDepth 100000 in
/-- A LIST OF LISTS OF INTS. -/
theorem open_ints2_i {base : Nat} {r : Reach} {v : Value} {d : DataW H} {p : List MemPlace} (hv : Value.okWide Tryz.prog w r base 27 v) (h : DataW.Trod enc Tryz.prog w 0 spare held 27 v d p) :
    ∃ l, Ints2 (cmap w) v l ∧ ∀ y ∈ l, ∀ x ∈ y, i64 x := by
  obtain ⟨a, n, c, rfl⟩ := okWide_slice Tryz.underlying27 hv
  obtain ⟨fuel, hf⟩ := h
  have hf' : DataW.trod enc Tryz.prog w 0 spare held fuel 27 [.slice a n c] = some (d, p) := hf
  obtain ⟨v0, l, e0, h0, hok⟩ := open_sl rowO (fun l => ∀ x ∈ l, i64 x) Tryz.underlying27 c1_row (by decide) (fun n cs' y hy => by
    obtain ⟨v, l, e, h1, h2⟩ := open_row hy
    exact ⟨l, ⟨v, e, h1⟩, h2⟩) hf'
  injection e0 with e0 _
  subst e0
  refine ⟨l, h0.imp' fun m b o x hx => ?_, hok⟩
  obtain ⟨cs, ⟨v, rfl, h1⟩, h2⟩ := hx
  exact ⟨v, h2 0 _ rfl, h1⟩
end
end Go.Proofs.YtffgnjgphkdodaaGreatDoor
