import Derived.Test.YtffgnjgphkdodaaGreatDoorP33
import Derived.Test.YtffgnjgphkdodaaGreatDoorP72
import Derived.Test.YtffgnjgphkdodaaGreatDoorRows
/- An argument of type api.Unit with its words; a list of threads; what the bound of the second form gives. -/
namespace Go.Proofs.YtffgnjgphkdodaaGreatDoor
open Go Go.RowKit Go.ChangeShapes Go.WideShapes Go.Deep
section
variable {H : Type} {enc : TypeId × Value → H} {w : World} {spare : Nat → Bool} {held : Bool}
theorem open_decl_s {n : Nat} {cs : List Value} {y : DataW H × List MemPlace} (h : DataW.trod enc Tryz.prog w 0 spare held n 118 cs = some y) : ∃ d, declO (cmap w) cs d ∧ i64 d.word := by
  obtain ⟨xs, m, _, _, hlen, hxl, hf⟩ := DataW.trod_struct Tryz.underlying118 h
  replace hlen := hlen.trans c3_decl
  obtain ⟨c0, c1, c2, rfl⟩ := list3 hlen
  obtain ⟨y0, y1, y2, rfl⟩ := list3 hxl
  have f0 := hf 0 _ rfl
  have f1 := hf 1 _ rfl
  have f2 := hf 2 _ rfl
  simp only [List.getElem_toArray, List.getElem_cons_zero, List.getElem_cons_succ, c1_str, c1_int, c1_i64] at f0 f1 f2
  obtain ⟨s0, e0, _⟩ := DataW.trod_string Tryz.underlying9 f0
  obtain ⟨s1, e1, _, w1⟩ := DataW.trod_int Tryz.underlying2 f1
  obtain ⟨s2, e2, _⟩ := DataW.trod_int Tryz.underlying3 f2
  simp at e0 e1 e2
  subst e0 e1 e2
  exact ⟨⟨s0, s1, s2⟩, rfl, bounds_i64 w1⟩
set_option maxRecDepth 100000 in
/-- AN ARGUMENT OF TYPE Unit. -/
theorem open_unit_s {base : Nat} {r : Reach} {v : Value} {d : DataW H} {p : List MemPlace} (hv : Value.okWide Tryz.prog w r base 25 v) (h : DataW.Trod enc Tryz.prog w 0 spare held 25 v d p) :
    ∃ cs u, v = .agg cs.toArray ∧ UnitV (cmap w) cs u ∧ UOk u ∧ SOk u := by
  obtain ⟨cs, rfl, hsz⟩ := okWide_struct Tryz.underlying25 hv
  have hsz1 : cs.size = 3 := Eq.trans hsz c3_unit
  have hsz2 : cs.toList.length = 3 := Array.length_toList.trans hsz1
  clear hsz hv
  obtain ⟨fuel, hf0⟩ := h
  obtain ⟨xs, m, _, _, hlen, hxl, hf⟩ := DataW.trod_struct Tryz.underlying25 hf0
  clear hlen hf0
  obtain ⟨c0, c1, c2, hl⟩ := list3 hsz2
  obtain rfl : cs = #[c0, c1, c2] := by rw [← Array.toArray_toList (xs := cs), hl]
  obtain ⟨y0, y1, y2, rfl⟩ := list3 hxl
  have f0 := hf 0 _ rfl
  have f1 := hf 1 _ rfl
  have f2 := hf 2 _ rfl
  simp only [List.getElem_toArray, List.getElem_cons_zero, List.getElem_cons_succ, c1_decls, c1_graphs] at f0 f1 f2
  obtain ⟨v0, d0, e0, h0, hso⟩ := open_sl declO (fun d => i64 d.word) Tryz.underlying22 c3_decl (by decide) (fun n cs' y hy => open_decl_s hy) f0
  obtain ⟨v1, d1, e1, h1, _⟩ := open_sl declO (fun _ => True) Tryz.underlying22 c3_decl (by decide) (fun n cs' y hy => by obtain ⟨d, h⟩ := open_decl hy; exact ⟨d, h, trivial⟩) f1
  obtain ⟨v2, g2, e2, h2, hok⟩ := open_sl graphO (fun g => ∀ n ∈ g.nodes, n.ok) Tryz.underlying23 c4_graph (by decide) (fun n cs' y hy => open_graph hy) f2
  simp [Value.cells] at e0 e1 e2
  subst e0 e1 e2
  have dcl : ∀ {v : Value} {ds : List Decl}, Sl (Cells declO) 3 (cmap w) v ds → Decls (cmap w) v ds := fun h => h.imp' fun m b o x hx => by
    obtain ⟨cs, rfl, h2⟩ := hx
    exact ⟨h2 0 _ rfl, h2 1 _ rfl, h2 2 _ rfl⟩
  exact ⟨[c0, c1, c2], ⟨d0, d1, g2⟩, rfl, ⟨_, _, _, rfl, dcl h0, dcl h1, h2⟩, hok, hso⟩
theorem bulk_one (d : DataW H) : 1 ≤ Rows.uptoBulk d := by
  cases d with
  | lit l => cases l <;> simp [Rows.uptoBulk]
  | nil => simp [Rows.uptoBulk]
  | ptr d => simp [Rows.uptoBulk]
  | slice elems spare => simp [Rows.uptoBulk]
  | agg parts => simp [Rows.uptoBulk]
  | iface t d => simp [Rows.uptoBulk]
  | map entries => simp [Rows.uptoBulk]
  | held h => simp [Rows.uptoBulk]
theorem bulk_length (l : List (DataW H)) : l.length ≤ Rows.uptoBulkAll l := by
  induction l with
  | nil => simp [Rows.uptoBulkAll]
  | cons x r ih => have := bulk_one x; simp only [Rows.uptoBulkAll, List.length_cons]; omega
theorem bulk_part {d : DataW H} {l : List (DataW H)} (h : d ∈ l) : Rows.uptoBulk d ≤ Rows.uptoBulkAll l := by
  induction l with
  | nil => cases h
  | cons x r ih =>
    simp only [Rows.uptoBulkAll]
    cases List.mem_cons.1 h with
    | inl e => subst e; omega
    | inr e => have := ih e; omega
def intO (_ : CM) (cs : List Value) (n : Int) : Prop := cs = [.int .i64 n]
theorem open_int1 {n : Nat} {cs : List Value} {y : DataW H × List MemPlace} (h : DataW.trod enc Tryz.prog w 0 spare held n 3 cs = some y) : ∃ d, intO (cmap w) cs d ∧ i64 d := by
  obtain ⟨s1, e1, _, w1⟩ := DataW.trod_int Tryz.underlying3 h
  exact ⟨s1, e1, bounds_i64 w1⟩
set_option maxRecDepth 100000 in
/-- A LIST OF THREADS. -/
theorem open_ints_s {base : Nat} {r : Reach} {v : Value} {d : DataW H} {p : List MemPlace} (hv : Value.okWide Tryz.prog w r base 26 v) (h : DataW.Trod enc Tryz.prog w 0 spare held 26 v d p) :
    ∃ A c l, v = .slice A l.length c ∧ Ints (cmap w) (.slice A l.length c) l ∧ (∀ x ∈ l, i64 x) ∧ l.length ≤ Rows.uptoBulk d := by
  obtain ⟨a, n, c, rfl⟩ := okWide_slice Tryz.underlying26 hv
  obtain ⟨fuel, hf⟩ := h
  have hf' : DataW.trod enc Tryz.prog w 0 spare held fuel 26 [.slice a n c] = some (d, p) := hf
  obtain ⟨v0, l, e0, h0, hok⟩ := open_sl intO i64 Tryz.underlying26 c1_int (by decide) (fun n cs' y hy => open_int1 hy) hf'
  injection e0 with e0 _
  subst e0
  have hi : Ints (cmap w) (.slice a n c) l := h0.imp' fun m b o x hx => by
    obtain ⟨cs, rfl, h2⟩ := hx
    exact h2 0 _ rfl
  obtain rfl := hi.len.1
  refine ⟨a, c, l, rfl, hi, hok, ?_⟩
  rcases open_slice Tryz.underlying26 hf' with ⟨e1, _⟩ | ⟨a', len, cap, m, n', D, Pl, e1, _, hl, hm, hmm, e2, _⟩
  · injection e1 with e1 _
    injection e1 with _ e2 _
    omega
  · injection e1 with e1 _
    injection e1 with _ e3 _
    injection e2 with e2 _
    subst e2
    have := bulk_length (H := H) ((List.range len).map D)
    simp only [List.length_map, List.length_range] at this
    simp only [Rows.uptoBulk]
    omega
set_option maxRecDepth 100000 in
theorem bulk_small {ds : List (DataW H)} (h : Rows.uptoSmall H ds = true) : Rows.uptoBulkAll ds ≤ 1048576 := of_decide_eq_true h
end
end Go.Proofs.YtffgnjgphkdodaaGreatDoor
