import Derived.Test.YtpaieopclpddnaaDoorP08
import Derived.Test.YtpaieopclpddnaaDoorP01
import Derived.OpenShut
import Derived.Deep.Slices
import Derived.Deep.Fields
import Derived.ChangeSame
import Derived.Carry
import Derived.Test.YtpaieopclpddnaaDoorP10
import Derived.Test.YtpaieopclpddnaaDoorCards
import Derived.Test.YtpaieopclpddnaaDoorTie
import Derived.ProofKit
import Derived.Deep.DeepHandedRow
import Derived.Lib.LaidTab
import Derived.SevenTiedAt
/- An argument of type api.Unit, read as data, is a unit in memory. -/
namespace Go.Proofs.YtpaieopclpddnaaDoor
open Go Go.RowKit Go.ChangeShapes Go.WideShapes Go.Deep
section
variable {H : Type} {enc : TypeId × Value → H} {P : Program} {w : World} {spare : Nat → Bool} {held : Bool}
theorem choose_list {α : Type} {p : Nat → α → Prop} {n : Nat} (h : ∀ i, i < n → ∃ x, p i x) : ∃ xs : List α, xs.length = n ∧ ∀ i x, xs[i]? = some x → p i x := by
  induction n with
  | zero => exact ⟨[], rfl, fun i x h => by simp at h⟩
  | succ n ih =>
    obtain ⟨xs, h1, h2⟩ := ih (fun i hi => h i (by omega))
    obtain ⟨x, hx⟩ := h n (by omega)
    refine ⟨xs ++ [x], by simp [h1], fun i y hy => ?_⟩
    rw [List.getElem?_append] at hy
    split at hy
    · exact h2 i y hy
    · rename_i hi
      have : i = n := by
        have := (List.getElem?_eq_some_iff.1 hy).1
        simp at this; omega
      subst this
      rw [h1, Nat.sub_self] at hy
      simp at hy
      subst hy
      exact hx
theorem open_sl {α : Type} (RV : CM → List Value → α → Prop) (pok : α → Prop) {t e size : Nat} (ht : P.underlying t = some (.slice e)) (hC : P.cellsOf e = size) (hs : 0 < size)
    (hel : ∀ n cs' y, DataW.trod enc P w 0 spare held n e cs' = some y → ∃ x, RV (cmap w) cs' x ∧ pok x) {fuel : Nat} {cs : List Value} {x : DataW H × List MemPlace} (h : DataW.trod enc P w 0 spare held fuel t cs = some x) :
    ∃ v xs, cs = [v] ∧ Sl (Cells RV) size (cmap w) v xs ∧ ∀ x ∈ xs, pok x := by
  rcases open_slice ht h with ⟨rfl, _⟩ | ⟨a, len, cap, m, n, D, Pl, rfl, _, hl, hm, hmm, _, hi⟩
  · exact ⟨_, [], rfl, ⟨none, 0, rfl, by simp, ⟨by simp [maxLen], fun _ => rfl⟩, .inl rfl⟩, fun x hx => by cases hx⟩
  · have hml : len ≤ m := by rw [hmm]; split <;> omega
    obtain ⟨xs, h1, h2⟩ := choose_list (n := len) (p := fun i x => ∃ cs', w.cells? 0 (a.add (i * P.cellsOf e)) (P.cellsOf e) = some cs' ∧ RV (cmap w) cs' x ∧ pok x) (fun i hil => by
      obtain ⟨cs', k1, k2⟩ := hi i (by omega)
      obtain ⟨x, k3, k4⟩ := hel n cs' _ k2
      exact ⟨x, cs', k1, k3, k4⟩)
    refine ⟨_, xs, rfl, ⟨some a, cap, by rw [h1], by omega, ⟨hm, fun h => by cases h⟩, ?_⟩, fun x hx => ?_⟩
    · cases hxs : xs with
      | nil => exact .inl rfl
      | cons x0 rest =>
        obtain ⟨cs0, k1, _⟩ := h2 0 x0 (by rw [hxs]; rfl)
        obtain ⟨_, hcl, hat⟩ := World.cells?_some k1
        have hc0 := hat 0 (by omega)
        rw [Nat.zero_mul] at hc0
        obtain ⟨b, o, s⟩ := a
        have hlt : 0 < cs0.length := by omega
        rw [List.getElem?_eq_getElem hlt] at hc0
        have hspot : s = none := by simpa [Addr.add] using World.cell?_spot hc0
        subst hspot
        · refine .inr ⟨b, o, rfl, fun i x hx => ?_⟩
          obtain ⟨cs', q1, q2, _⟩ := h2 i x (by rw [hxs]; exact hx)
          obtain ⟨_, hcl2, hat2⟩ := World.cells?_some q1
          refine ⟨cs', q2, fun j v hv => ?_⟩
          have hj := (List.getElem?_eq_some_iff.1 hv).1
          have := hat2 j (by omega)
          rw [hC, add_mk, add_mk, hv] at this
          exact this
    · obtain ⟨i, hx⟩ := List.getElem?_of_mem hx
      obtain ⟨_, _, _, q⟩ := h2 i x hx
      exact q
end
section
variable {H : Type} {enc : TypeId × Value → H} {w : World} {spare : Nat → Bool} {held : Bool}
theorem list3 {α : Type} {l : List α} (h : l.length = 3) : ∃ a0 a1 a2, l = [a0, a1, a2] := by
  match l, h with
  | [a0, a1, a2], _ => exact ⟨a0, a1, a2, rfl⟩
theorem list4 {α : Type} {l : List α} (h : l.length = 4) : ∃ a0 a1 a2 a3, l = [a0, a1, a2, a3] := by
  match l, h with
  | [a0, a1, a2, a3], _ => exact ⟨a0, a1, a2, a3, rfl⟩
theorem list9 {α : Type} {l : List α} (h : l.length = 9) : ∃ a0 a1 a2 a3 a4 a5 a6 a7 a8, l = [a0, a1, a2, a3, a4, a5, a6, a7, a8] := by
  match l, h with
  | [a0, a1, a2, a3, a4, a5, a6, a7, a8], _ => exact ⟨a0, a1, a2, a3, a4, a5, a6, a7, a8, rfl⟩
theorem list13 {α : Type} {l : List α} (h : l.length = 13) : ∃ a0 a1 a2 a3 a4 a5 a6 a7 a8 a9 a10 a11 a12, l = [a0, a1, a2, a3, a4, a5, a6, a7, a8, a9, a10, a11, a12] := by
  match l, h with
  | [a0, a1, a2, a3, a4, a5, a6, a7, a8, a9, a10, a11, a12], _ => exact ⟨a0, a1, a2, a3, a4, a5, a6, a7, a8, a9, a10, a11, a12, rfl⟩
theorem c1_str : Tryd.prog.cellsOf 9 = 1 := by kernel_rfl
theorem c1_int : Tryd.prog.cellsOf 3 = 1 := by kernel_rfl
theorem c1_i64 : Tryd.prog.cellsOf 2 = 1 := by kernel_rfl
theorem c1_bool : Tryd.prog.cellsOf 4 = 1 := by kernel_rfl
theorem c1_kind : Tryd.prog.cellsOf 34 = 1 := by kernel_rfl
theorem c1_op : Tryd.prog.cellsOf 35 = 1 := by kernel_rfl
theorem c3_val : Tryd.prog.cellsOf 37 = 3 := by kernel_rfl
theorem c13_node : Tryd.prog.cellsOf 39 = 13 := by kernel_rfl
theorem c1_nodes : Tryd.prog.cellsOf 40 = 1 := by kernel_rfl
theorem c3_decl : Tryd.prog.cellsOf 113 = 3 := by kernel_rfl
theorem c4_graph : Tryd.prog.cellsOf 42 = 4 := by kernel_rfl
theorem c1_decls : Tryd.prog.cellsOf 22 = 1 := by kernel_rfl
theorem c1_graphs : Tryd.prog.cellsOf 23 = 1 := by kernel_rfl
theorem c3_unit : Tryd.prog.cellsOf 25 = 3 := by kernel_rfl
def declO (_ : CM) (cs : List Value) (d : Decl) : Prop := cs = [.string d.name, .int .i64 d.word, .int .i64 d.at_]
theorem open_decl {n : Nat} {cs : List Value} {y : DataW H × List MemPlace} (h : DataW.trod enc Tryd.prog w 0 spare held n 113 cs = some y) : ∃ d, declO (cmap w) cs d := by
  obtain ⟨xs, m, _, _, hlen, hxl, hf⟩ := DataW.trod_struct Tryd.underlying113 h
  replace hlen := hlen.trans c3_decl
  obtain ⟨c0, c1, c2, rfl⟩ := list3 hlen
  obtain ⟨y0, y1, y2, rfl⟩ := list3 hxl
  have f0 := hf 0 _ rfl
  have f1 := hf 1 _ rfl
  have f2 := hf 2 _ rfl
  simp only [List.getElem_toArray, List.getElem_cons_zero, List.getElem_cons_succ, c1_str, c1_int, c1_i64] at f0 f1 f2
  obtain ⟨s0, e0, _⟩ := DataW.trod_string Tryd.underlying9 f0
  obtain ⟨s1, e1, _⟩ := DataW.trod_int Tryd.underlying2 f1
  obtain ⟨s2, e2, _⟩ := DataW.trod_int Tryd.underlying3 f2
  simp at e0 e1 e2
  subst e0 e1 e2
  exact ⟨⟨s0, s1, s2⟩, rfl⟩
theorem open_val {n : Nat} {cs : List Value} {y : DataW H × List MemPlace} (h : DataW.trod enc Tryd.prog w 0 spare held n 37 cs = some y) : ∃ v : Val, cs = [.bool v.isSlot, .int .i64 v.slot, .int .i64 v.word] ∧ v.ok := by
  obtain ⟨xs, m, _, _, hlen, hxl, hf⟩ := DataW.trod_struct Tryd.underlying37 h
  replace hlen := hlen.trans c3_val
  obtain ⟨c0, c1, c2, rfl⟩ := list3 hlen
  obtain ⟨y0, y1, y2, rfl⟩ := list3 hxl
  have f0 := hf 0 _ rfl
  have f1 := hf 1 _ rfl
  have f2 := hf 2 _ rfl
  simp only [List.getElem_toArray, List.getElem_cons_zero, List.getElem_cons_succ, c1_bool, c1_int, c1_i64] at f0 f1 f2
  obtain ⟨s0, e0, _⟩ := DataW.trod_bool Tryd.underlying4 f0
  obtain ⟨s1, e1, _, w1⟩ := DataW.trod_int Tryd.underlying3 f1
  obtain ⟨s2, e2, _, w2⟩ := DataW.trod_int Tryd.underlying2 f2
  simp at e0 e1 e2
  subst e0 e1 e2
  exact ⟨⟨s0, s1, s2⟩, rfl, bounds_i64 w1, bounds_i64 w2⟩
def nodeO (_ : CM) (cs : List Value) (n : Node) : Prop := cs = n.cells
set_option maxHeartbeats 1000000 in
theorem open_node {n : Nat} {cs : List Value} {y : DataW H × List MemPlace} (h : DataW.trod enc Tryd.prog w 0 spare held n 39 cs = some y) : ∃ d, nodeO (cmap w) cs d ∧ d.ok := by
  obtain ⟨xs, m, _, _, hlen, hxl, hf⟩ := DataW.trod_struct Tryd.underlying39 h
  replace hlen := hlen.trans c13_node
  obtain ⟨c0, c1, c2, c3, c4, c5, c6, c7, c8, c9, c10, c11, c12, rfl⟩ := list13 hlen
  obtain ⟨y0, y1, y2, y3, y4, y5, y6, y7, y8, rfl⟩ := list9 hxl
  have f0 := hf 0 _ rfl
  have f1 := hf 1 _ rfl
  have f2 := hf 2 _ rfl
  have f3 := hf 3 _ rfl
  have f4 := hf 4 _ rfl
  have f5 := hf 5 _ rfl
  have f6 := hf 6 _ rfl
  have f7 := hf 7 _ rfl
  have f8 := hf 8 _ rfl
  simp only [List.getElem_toArray, List.getElem_cons_zero, List.getElem_cons_succ, c1_kind, c1_op, c1_int, c3_val] at f0 f1 f2 f3 f4 f5 f6 f7 f8
  obtain ⟨s0, e0, _, w0⟩ := DataW.trod_int Tryd.underlying34 f0
  obtain ⟨s1, e1, _, w1⟩ := DataW.trod_int Tryd.underlying35 f1
  obtain ⟨s2, e2, _, w2⟩ := DataW.trod_int Tryd.underlying3 f2
  obtain ⟨s3, e3, _, w3⟩ := DataW.trod_int Tryd.underlying3 f3
  obtain ⟨s4, e4, w4⟩ := open_val f4
  obtain ⟨s5, e5, w5⟩ := open_val f5
  obtain ⟨s6, e6, _, w6⟩ := DataW.trod_int Tryd.underlying3 f6
  obtain ⟨s7, e7, _, w7⟩ := DataW.trod_int Tryd.underlying3 f7
  obtain ⟨s8, e8, _, w8⟩ := DataW.trod_int Tryd.underlying3 f8
  simp at e0 e1 e2 e3 e4 e5 e6 e7 e8
  obtain ⟨e4a, e4b, e4c⟩ := e4
  obtain ⟨e5a, e5b, e5c⟩ := e5
  subst e0 e1 e2 e3 e4a e4b e4c e5a e5b e5c e6 e7 e8
  exact ⟨⟨s0, s1, s2, s3, s4, s5, s6, s7, s8⟩, rfl, bounds_u8 w0, bounds_u8 w1, bounds_i64 w2, bounds_i64 w3, w4, w5, bounds_i64 w6, bounds_i64 w7, bounds_i64 w8⟩
def graphO (m : CM) (cs : List Value) (g : Graph) : Prop := GraphV m cs g
theorem open_graph {n : Nat} {cs : List Value} {y : DataW H × List MemPlace} (h : DataW.trod enc Tryd.prog w 0 spare held n 42 cs = some y) : ∃ g, graphO (cmap w) cs g ∧ ∀ n ∈ g.nodes, n.ok := by
  obtain ⟨xs, m, _, _, hlen, hxl, hf⟩ := DataW.trod_struct Tryd.underlying42 h
  replace hlen := hlen.trans c4_graph
  obtain ⟨c0, c1, c2, c3, rfl⟩ := list4 hlen
  obtain ⟨y0, y1, y2, y3, rfl⟩ := list4 hxl
  have f0 := hf 0 _ rfl
  have f1 := hf 1 _ rfl
  have f2 := hf 2 _ rfl
  have f3 := hf 3 _ rfl
  simp only [List.getElem_toArray, List.getElem_cons_zero, List.getElem_cons_succ, c1_str, c1_int, c1_nodes] at f0 f1 f2 f3
  obtain ⟨s0, e0, _⟩ := DataW.trod_string Tryd.underlying9 f0
  obtain ⟨s1, e1, _⟩ := DataW.trod_int Tryd.underlying3 f1
  obtain ⟨s2, e2, _⟩ := DataW.trod_int Tryd.underlying3 f2
  obtain ⟨v, ns, e3, hn, hok⟩ := open_sl nodeO Node.ok Tryd.underlying40 c13_node (by decide) (fun n cs' y hy => open_node hy) f3
  simp at e0 e1 e2 e3
  subst e0 e1 e2 e3
  exact ⟨⟨s0, s1, s2, ns⟩, ⟨_, rfl, hn.imp' fun m b o x hx => Cells_plain hx⟩, hok⟩
set_option maxRecDepth 100000 in
/-- AN ARGUMENT OF TYPE Unit. -/
theorem open_unit {base : Nat} {r : Reach} {v : Value} {d : DataW H} {p : List MemPlace} (hv : Value.okWide Tryd.prog w r base 25 v) (h : DataW.Trod enc Tryd.prog w 0 spare held 25 v d p) :
    ∃ cs u, v = .agg cs.toArray ∧ UnitV (cmap w) cs u ∧ UOk u := by
  obtain ⟨cs, rfl, hsz⟩ := okWide_struct Tryd.underlying25 hv
  have hsz1 : cs.size = 3 := Eq.trans hsz c3_unit
  have hsz2 : cs.toList.length = 3 := Array.length_toList.trans hsz1
  clear hsz hv
  obtain ⟨fuel, hf0⟩ := h
  obtain ⟨xs, m, _, _, hlen, hxl, hf⟩ := DataW.trod_struct Tryd.underlying25 hf0
  clear hlen hf0
  obtain ⟨c0, c1, c2, hl⟩ := list3 hsz2
  obtain rfl : cs = #[c0, c1, c2] := by rw [← Array.toArray_toList (xs := cs), hl]
  obtain ⟨y0, y1, y2, rfl⟩ := list3 hxl
  have f0 := hf 0 _ rfl
  have f1 := hf 1 _ rfl
  have f2 := hf 2 _ rfl
  simp only [List.getElem_toArray, List.getElem_cons_zero, List.getElem_cons_succ, c1_decls, c1_graphs] at f0 f1 f2
  obtain ⟨v0, d0, e0, h0, _⟩ := open_sl declO (fun _ => True) Tryd.underlying22 c3_decl (by decide) (fun n cs' y hy => by obtain ⟨d, h⟩ := open_decl hy; exact ⟨d, h, trivial⟩) f0
  obtain ⟨v1, d1, e1, h1, _⟩ := open_sl declO (fun _ => True) Tryd.underlying22 c3_decl (by decide) (fun n cs' y hy => by obtain ⟨d, h⟩ := open_decl hy; exact ⟨d, h, trivial⟩) f1
  obtain ⟨v2, g2, e2, h2, hok⟩ := open_sl graphO (fun g => ∀ n ∈ g.nodes, n.ok) Tryd.underlying23 c4_graph (by decide) (fun n cs' y hy => open_graph hy) f2
  simp [Value.cells] at e0 e1 e2
  subst e0 e1 e2
  have dcl : ∀ {v : Value} {ds : List Decl}, Sl (Cells declO) 3 (cmap w) v ds → Decls (cmap w) v ds := fun h => h.imp' fun m b o x hx => by
    obtain ⟨cs, rfl, h2⟩ := hx
    exact ⟨h2 0 _ rfl, h2 1 _ rfl, h2 2 _ rfl⟩
  exact ⟨[c0, c1, c2], ⟨d0, d1, g2⟩, rfl, ⟨_, _, _, rfl, dcl h0, dcl h1, h2⟩, hok⟩
end
end Go.Proofs.YtpaieopclpddnaaDoor
/- The last step of the rows: what the listed table gives, the arguments read again, a world for the witness. -/
namespace Go.Proofs.YtpaieopclpddnaaDoor
open Go Go.RowKit Go.ChangeShapes Go.WideShapes Go.ChangeAt
theorem own_knob : ownKnob Tryd.prog.godebug = none := by kernel_rfl
theorem g_tab : Tryd.prog.globalNamed "math/bits.deBruijn32tab" = some 0 := by kernel_rfl
theorem g_tab_type : (Tryd.prog.globals[0]?).map (·.type) = some 143 := by kernel_rfl
theorem c_tab : Tryd.prog.cellsOf 143 = 32 := by kernel_rfl
theorem c_u8 : Tryd.prog.cellsOf 5 = 1 := by kernel_rfl
theorem tab_of {W : World} (h : laidMet Tryd.prog [("math/bits.deBruijn32tab", Rows.laid_math_bits_deBruijn32tab)] W) : Tab W := by
  have t : Lib.TabIs Tryd.prog W "math/bits.deBruijn32tab" .u8 [0, 1, 28, 2, 29, 14, 24, 3, 30, 22, 20, 15, 25, 17, 4, 8, 31, 27, 13, 23, 21, 19, 16, 7, 26, 12, 18, 6, 11, 5, 10, 9] :=
    Lib.tabIs_of_head (rest := []) g_tab g_tab_type Tryd.underlying143 Tryd.underlying5 c_u8 c_tab h
  intro j hj
  have hj2 : j < 32 := hj
  have := t.cell g_tab j (by simpa using hj2)
  rw [this]
  congr 2
  have : ∀ j, j < 32 → ([0, 1, 28, 2, 29, 14, 24, 3, 30, 22, 20, 15, 25, 17, 4, 8, 31, 27, 13, 23, 21, 19, 16, 7, 26, 12, 18, 6, 11, 5, 10, 9] : List Int).getD j 0 = ((Lib.deBruijn32tab.getD j 0 : Nat) : Int) := by decide +kernel
  exact this j hj2
theorem laid_out : laidOutB Tryd.prog = true := by kernel_rfl
section
variable {H : Type} {enc : TypeId × Value → H} {P : Program}
/-- The row's last step, where only 'Below' is known of the world behind. -/
theorem post_below {f : Func} {s : ChangeSpec} {apart fresh handsOn again : Bool} {W W' : World} {args : Array Value} {v : Value} {ds gs : List (DataW H)} {before pa pv : List MemPlace}
    (hW : DataW.Whole enc P f.params.toList s.vars apart W args.toList ds gs before)
    (hres : ∀ (b : Nat) (sp : Nat → Bool) (hd : Bool), DataW.TrodAll enc P W' b sp hd f.resultTypes.toList (v.resultList f.resultTypes.size) (s.fn H (ds ++ gs)).results [])
    (hargs : ∀ sp : Nat → Bool, (∀ p ∈ before, sp p.block = true) → DataW.TrodAll enc P W' 0 sp true f.params.toList args.toList (s.fn H (ds ++ gs)).args pa)
    (hvars : ∀ sp : Nat → Bool, (∀ p ∈ before, sp p.block = true) → DataW.TrodVars enc P W' sp s.vars (s.fn H (ds ++ gs)).vars pv)
    (hps : before = pa ++ pv) (hb : Below W.heap.size W W')
    (hok : ∀ (j : Nat) (t : TypeId) (r : Value), f.resultTypes[j]? = some t → (v.resultList f.resultTypes.size)[j]? = some r → Value.okWide P W' .any 0 t r) :
    s.post enc P f apart fresh handsOn again W args v W' := by
  have hlt : ∀ p ∈ before, p.block < W.heap.size := fun p hp => hW.lt p hp
  have hold : ∀ p ∈ before, (fun b => decide (b < W.heap.size)) p.block = true := fun p hp => by simpa using hlt p hp
  refine ⟨ds, gs, before, [], pa, pv, hW, hres _ _ _, hargs _ hold, hvars _ hold, World.keptBut_mono (fun p hp => ⟨hp, ?_⟩) (hb.frame (· ∈ before)), fun _ => ?_⟩
  · rw [hps, List.mem_append] at hp
    exact Or.inr hp
  · obtain ⟨_, _, _, _, _, hz, hn⟩ := hW
    refine ⟨hok, _, _, ([] ++ pa) ++ pv, ⟨[] ++ pa, pv, trodAll_append (hargs _ (fun _ _ => rfl)) (hres _ _ _), hvars _ (fun _ _ => rfl), rfl, ?_, ?_⟩, ?_⟩
    · intro b off hp
      have hin : MemPlace.cell b off ∈ before := by rw [hps]; simpa using hp
      rw [hb.frozen (hlt _ hin)]
      exact hz b off hin
    · intro ha
      have := hn ha
      rw [hps] at this
      simpa using this
    · intro p hp _
      rw [hps]
      simpa using hp
end
/-- A WORLD FOR THE WITNESS: the settled one, the table holding what its initialiser lays. -/
noncomputable def laidWorld (os : Os) : World :=
  { World.holding Tryd.prog os ⟨#[], #[], []⟩ with heap := (World.holding Tryd.prog os ⟨#[], #[], []⟩).heap.modify 0 fun
      | .cells _ t frozen => .cells #[.int .u8 0, .int .u8 1, .int .u8 28, .int .u8 2, .int .u8 29, .int .u8 14, .int .u8 24, .int .u8 3, .int .u8 30, .int .u8 22, .int .u8 20, .int .u8 15, .int .u8 25, .int .u8 17, .int .u8 4, .int .u8 8, .int .u8 31, .int .u8 27, .int .u8 13, .int .u8 23, .int .u8 21, .int .u8 19, .int .u8 16, .int .u8 7, .int .u8 26, .int .u8 12, .int .u8 18, .int .u8 6, .int .u8 11, .int .u8 5, .int .u8 10, .int .u8 9] t frozen
      | o => o }
end Go.Proofs.YtpaieopclpddnaaDoor
