import Derived.Test.YtffgnjgphkdodaaGreatDoorP09
import Derived.Test.YtffgnjgphkdodaaGreatDoorP08
import Derived.Test.YtffgnjgphkdodaaGreatDoorP06
import Derived.Laws.StructEq
import Derived.Test.YtffgnjgphkdodaaGreatDoorP02
import Derived.Test.YtffgnjgphkdodaaGreatDoorP107
import Derived.Test.YtffgnjgphkdodaaGreatDoorP21
import Derived.Test.YtffgnjgphkdodaaGreatDoorCards
import Derived.Test.YtffgnjgphkdodaaGreatDoorTie
import Derived.ProofKit
import Derived.Deep.DeepHandedRow
import Derived.Lib.LaidTab
import Derived.SevenTiedAt
namespace Go.Proofs.YtffgnjgphkdodaaGreatDoor
open Go Go.RowKit
def v0 : Val := ⟨false, 0, 0⟩
def nd (k next origin : Int) : Node := ⟨k, 0, 0, 0, v0, v0, next, 0, origin⟩
def nodesA : List Node := [nd 5 1 0, nd 3 2 1, nd 6 3 2, nd 9 0 3]
def nodesB : List Node := [nd 3 1 0, nd 9 0 1]
def strA : ByteArray := ⟨#[97]⟩
def strB : ByteArray := ⟨#[98]⟩
def strX : ByteArray := ⟨#[120]⟩
def strL : ByteArray := ⟨#[108]⟩
def twoU (nb : List Node) : Unit_ := ⟨[⟨strX, 0, 0⟩], [⟨strL, 0, 0⟩], [⟨strA, 0, 0, nodesA⟩, ⟨strB, 0, 0, nb⟩]⟩
structure TwoMem (w : World) (gb ba bb xb lb : Nat) (nbv : Value) : Prop where
 a : Blk w ba 66 (nodesA.flatMap Node.cells)
 b : Blk w bb 66 (nodesB.flatMap Node.cells)
 x : Blk w xb 118 [.string strX, .int .i64 0, .int .i64 0]
 l : Blk w lb 118 [.string strL, .int .i64 0, .int .i64 0]
 g : Blk w gb 69 [.string strA, .int .i64 0, .int .i64 0, .slice (some ⟨ba, 0, none⟩) 4 4, .string strB, .int .i64 0, .int .i64 0, nbv]
theorem TwoMem.below {w w' : World} {gb ba bb xb lb : Nat} {nbv : Value} (h : TwoMem w gb ba bb xb lb nbv) (hb : Below w.heap.size w w') : TwoMem w' gb ba bb xb lb nbv :=
 ⟨h.a.below hb h.a.lt, h.b.below hb h.b.lt, h.x.below hb h.x.lt, h.l.below hb h.l.lt, h.g.below hb h.g.lt⟩
theorem Nodes_blk {w : World} {b : Nat} {t : TypeId} {ns : List Node} (h : Blk w b t (ns.flatMap Node.cells)) (n : Nat) (hn : n = ns.length) (hl : n ≤ 1000) : Nodes (cmap w) (.slice (some ⟨b, 0, none⟩) n n) ns := by
 subst hn
 refine ⟨_, _, rfl, Nat.le_refl _, ⟨by simp only [maxLen]; omega, fun h => by cases h⟩, .inr ⟨b, 0, rfl, fun i x hx j v hv => ?_⟩⟩
 show w.cell? ⟨b, 0 + i * 13 + j, none⟩ = some v
 rw [Nat.zero_add, h.cell, List.flatMap_def]
 refine flatten_at (ns.map Node.cells) 13 i x.cells (fun r hr => ?_) ?_ j v hv
 ·obtain ⟨q, _, rfl⟩ := List.mem_map.1 hr; rfl
 ·rw [List.getElem?_map, hx]; rfl
theorem Decls_blk {w : World} {b : Nat} {t : TypeId} {s : ByteArray} (h : Blk w b t [.string s, .int .i64 0, .int .i64 0]) : Decls (cmap w) (.slice (some ⟨b, 0, none⟩) 1 1) [⟨s, 0, 0⟩] := by
 refine ⟨_, _, rfl, Nat.le_refl _, ⟨by simp [maxLen], fun h => by cases h⟩, .inr ⟨b, 0, rfl, fun i x hx => ?_⟩⟩
 match i, hx with
 | 0, hx =>
  simp at hx
  subst hx
  exact ⟨h.cell 0, h.cell 1, h.cell 2⟩
theorem TwoMem.unit {w : World} {gb ba bb xb lb : Nat} {nbv : Value} {nb : List Node} (h : TwoMem w gb ba bb xb lb nbv) (hn : Nodes (cmap w) nbv nb) :
  UnitV (cmap w) [.slice (some ⟨xb, 0, none⟩) 1 1, .slice (some ⟨lb, 0, none⟩) 1 1, .slice (some ⟨gb, 0, none⟩) 2 2] (twoU nb) := by
 refine ⟨_, _, _, rfl, Decls_blk h.x, Decls_blk h.l, ⟨_, _, rfl, Nat.le_refl _, ⟨by simp [maxLen], fun h => by cases h⟩, .inr ⟨gb, 0, rfl, fun i x hx => ?_⟩⟩⟩
 match i, hx with
 | 0, hx =>
  simp [twoU] at hx
  subst hx
  refine ⟨_, ⟨_, rfl, Nodes_blk h.a 4 rfl (by decide)⟩, fun j v hv => ?_⟩
  have hj := (List.getElem?_eq_some_iff.1 hv).1
  match j, hv with
  | 0, hv => simp at hv; subst hv; exact h.g.cell 0
  | 1, hv => simp at hv; subst hv; exact h.g.cell 1
  | 2, hv => simp at hv; subst hv; exact h.g.cell 2
  | 3, hv => simp at hv; subst hv; exact h.g.cell 3
 | 1, hx =>
  simp [twoU] at hx
  subst hx
  refine ⟨_, ⟨_, rfl, hn⟩, fun j v hv => ?_⟩
  match j, hv with
  | 0, hv => simp at hv; subst hv; exact h.g.cell 4
  | 1, hv => simp at hv; subst hv; exact h.g.cell 5
  | 2, hv => simp at hv; subst hv; exact h.g.cell 6
  | 3, hv => simp at hv; subst hv; exact h.g.cell 7
def gA : Graph := ⟨strA, 0, 0, nodesA⟩
end Go.Proofs.YtffgnjgphkdodaaGreatDoor
namespace Go.Proofs.YtffgnjgphkdodaaGreatDoor
open Go Go.RowKit
end Go.Proofs.YtffgnjgphkdodaaGreatDoor
namespace Go.Proofs.YtffgnjgphkdodaaGreatDoor
open Go Go.RowKit
section
variable {κ : Type} [DecidableEq κ] {kv : κ → Value} {dec : Value → Option κ} {P : Program} {w w' : World} {b : Nat} {F : κ → Option Value}
def MapAt (kv : κ → Value) (dec : Value → Option κ) (w : World) (b : Nat) (F : κ → Option Value) (k : κ) (st : Nat) : Prop :=
 ∃ es clock i v e, w.heap[b]? = some (.map es clock) ∧ (∀ e ∈ es.toList, ∃ k', e.key = kv k') ∧ (∀ k, (seek dec k es.toList 0).map (·.2) = F k) ∧ MapKept.Stamped es clock ∧ seek dec k es.toList 0 = some (i, v) ∧ es[i]? = some e ∧ e.born = st
theorem MapAt.keep {k : κ} {st : Nat} (h : MapAt kv dec w b F k st) (hk : w'.heap[b]? = w.heap[b]?) : MapAt kv dec w' b F k st := by
 obtain ⟨es, c, i, v, e, h, r⟩ := h
 exact ⟨es, c, i, v, e, hk.trans h, r⟩
end
end Go.Proofs.YtffgnjgphkdodaaGreatDoor
namespace Go.Proofs.YtffgnjgphkdodaaGreatDoor
open Go Go.RowKit
end Go.Proofs.YtffgnjgphkdodaaGreatDoor
namespace Go.Proofs.YtffgnjgphkdodaaGreatDoor
open Go Go.RowKit
set_option maxRecDepth 100000 in
set_option maxHeartbeats 1000000 in
theorem lists_calls (v1 v2 : Value) (L : List (List Int)) (w : World) (h1 : Sl (Cells intsV) 1 (cmap w) v1 L) (h2 : Sl (Cells intsV) 1 (cmap w) v2 L) :
  Calls Tryz.prog 37 #[v1, v2] w fun e w' => e = .returned (.bool true) ∧ ∃ n, w' = w.drewN n := by
 obtain ⟨A1, c1, rfl, -⟩ := id h1
 obtain ⟨A2, c2, rfl, -⟩ := id h2
 have b1 := h1.len.2.2
 have hb : ((L.length : Int) != (L.length : Int)) = false := by simp
 go_enter Tryz.func37, Tryz.ntmps37
 go_wp2
 go_loopw [5] (fun v wr => ∃ (k n : Nat), v = .int .i64 k ∧ k ≤ L.length ∧ wr = w.drewN n) (fun v _ => L.length - (intOf v).toNat)
 case atStart => exact ⟨0, 0, rfl, by omega, rfl⟩
 case round =>
  obtain ⟨k, n, rfl, hk, hw⟩ := hrel
  have m1 : Sl (Cells intsV) 1 (cmap wr) (.slice A1 L.length c1) L := by rw [hw]; exact h1
  have m2 : Sl (Cells intsV) 1 (cmap wr) (.slice A2 L.length c2) L := by rw [hw]; exact h2
  have HW := Lib.hid hw; clear hw
  by_cases hlt : k < L.length
  ·obtain ⟨l, hl⟩ : ∃ l, L[k]? = some l := ⟨_, List.getElem?_eq_getElem hlt⟩
   obtain ⟨bb1, o1, rfl, _, ⟨l1, rfl, g1⟩, q1⟩ := m1.at_ hl
   obtain ⟨bb2, o2, rfl, _, ⟨l2, rfl, g2⟩, q2⟩ := m2.at_ hl
   have p1 : wr.cell? ⟨bb1, o1 + k, none⟩ = some l1 := by have := q1 0 l1 rfl; rwa [Nat.mul_one] at this
   have p2 : wr.cell? ⟨bb2, o2 + k, none⟩ = some l2 := by have := q2 0 l2 rfl; rwa [Nat.mul_one] at this
   obtain ⟨a1, d1, rfl, -⟩ := id g1
   obtain ⟨a2, d2, rfl, -⟩ := id g2
   clear q1 q2
   have HL := Lib.hid hl; clear hl
   have hk0 : (0 : Int) ≤ k := by omega
   have hkl : (k : Int) < L.length := by omega
   go_wp2
   go_quiet (first | (go_at_call 79; refine Calls.quiet_of ((same_calls _ _ l l _ (by exact g1) (by exact g2)).mono fun e w' ⟨h1, h2⟩ => ⟨by rw [h1, decide_eq_true rfl], h2⟩)))
   go_wp2
   go_roundw
   case rel => exact ⟨k + 1, _, by go_num, by omega, by rw [HW.out]; exact World.drewN_drewN _ _ _⟩
   case measure => simp [intOf]; omega
  ·go_wp2
   go_ret
   exact ⟨rfl, _, HW.out⟩
end Go.Proofs.YtffgnjgphkdodaaGreatDoor
namespace Go.Proofs.YtffgnjgphkdodaaGreatDoor
open Go Go.RowKit Go.ChangeShapes Go.WideShapes Go.ChangeAt
theorem own_knob : ownKnob Tryz.prog.godebug = none := by kernel_rfl
theorem g_tab : Tryz.prog.globalNamed "math/bits.deBruijn32tab" = some 0 := by kernel_rfl
theorem g_tab_type : (Tryz.prog.globals[0]?).map (·.type) = some 246 := by kernel_rfl
theorem c_tab : Tryz.prog.cellsOf 246 = 32 := by kernel_rfl
theorem c_u8 : Tryz.prog.cellsOf 5 = 1 := by kernel_rfl
theorem tab_of {W : World} (h : laidMet Tryz.prog [("math/bits.deBruijn32tab", Rows.laid_math_bits_deBruijn32tab)] W) : Tab W := by
 have t : Lib.TabIs Tryz.prog W "math/bits.deBruijn32tab" .u8 [0, 1, 28, 2, 29, 14, 24, 3, 30, 22, 20, 15, 25, 17, 4, 8, 31, 27, 13, 23, 21, 19, 16, 7, 26, 12, 18, 6, 11, 5, 10, 9] :=
  Lib.tabIs_of_head (rest := []) g_tab g_tab_type Tryz.underlying246 Tryz.underlying5 c_u8 c_tab h
 intro j hj
 have hj2 : j < 32 := hj
 have := t.cell g_tab j (by simpa using hj2)
 rw [this]
 congr 2
 have : ∀ j, j < 32 → ([0, 1, 28, 2, 29, 14, 24, 3, 30, 22, 20, 15, 25, 17, 4, 8, 31, 27, 13, 23, 21, 19, 16, 7, 26, 12, 18, 6, 11, 5, 10, 9] : List Int).getD j 0 = ((Lib.deBruijn32tab.getD j 0 : Nat) : Int) := by decide +kernel
 exact this j hj2
theorem laid_out : laidOutB Tryz.prog = true := by kernel_rfl
section
variable {H : Type} {enc : TypeId × Value → H} {P : Program}
theorem post_below {f : Func} {s : ChangeSpec} {apart fresh handsOn again : Bool} {W W' : World} {args : Array Value} {v : Value} {ds gs : List (DataW H)} {before pa pv : List MemPlace}
  (hW : DataW.Whole enc P f.params.toList s.vars apart W args.toList ds gs before)
  (hres : ∀ (b : Nat) (sp : Nat → Bool) (hd : Bool), DataW.TrodAll enc P W' b sp hd f.resultTypes.toList (v.resultList f.resultTypes.size) (s.fn H (ds ++ gs)).results [])
  (hargs : ∀ sp : Nat → Bool, (∀ p ∈ before, sp p.block = true) → DataW.TrodAll enc P W' 0 sp true f.params.toList args.toList (s.fn H (ds ++ gs)).args pa)
  (hvars : ∀ sp : Nat → Bool, (∀ p ∈ before, sp p.block = true) → DataW.TrodVars enc P W' sp s.vars (s.fn H (ds ++ gs)).vars pv)
  (hps : before = pa ++ pv) (hb : Below W.heap.size W W')
  (hok : ∀ (j : Nat) (t : TypeId) (r : Value), f.resultTypes[j]? = some t → (v.resultList f.resultTypes.size)[j]? = some r → Value.okWide P W' .any 0 t r) :
  s.post enc P f apart fresh handsOn again W args v W' := by
 have hlt : ∀ p ∈ before, p.block < W.heap.size := fun p hp => hW.lt p hp
 have hold : ∀ p ∈ before, (fun b => decide (b < W.heap.size)) p.block = true := fun p hp => by simpa using hlt p hp
 refine ⟨ds, gs, before, [], pa, pv, hW, hres _ _ _, hargs _ hold, hvars _ hold, World.keptBut_mono (fun p hp => ⟨hp, ?_⟩) (hb.frame (· ∈ before)), fun _ => ?_⟩
 ·rw [hps, List.mem_append] at hp
  exact Or.inr hp
 ·obtain ⟨_, _, _, _, _, hz, hn⟩ := hW
  refine ⟨hok, _, _, ([] ++ pa) ++ pv, ⟨[] ++ pa, pv, trodAll_append (hargs _ (fun _ _ => rfl)) (hres _ _ _), hvars _ (fun _ _ => rfl), rfl, ?_, ?_⟩, ?_⟩
  ·intro b off hp
   have hin : MemPlace.cell b off ∈ before := by rw [hps]; simpa using hp
   rw [hb.frozen (hlt _ hin)]
   exact hz b off hin
  ·intro ha
   have := hn ha
   rw [hps] at this
   simpa using this
  ·intro p hp _
   rw [hps]
   simpa using hp
end
noncomputable def laidWorld (os : Os) : World :=
 { World.holding Tryz.prog os ⟨#[], #[], []⟩ with heap := (World.holding Tryz.prog os ⟨#[], #[], []⟩).heap.modify 0 fun
   | .cells _ t frozen => .cells #[.int .u8 0, .int .u8 1, .int .u8 28, .int .u8 2, .int .u8 29, .int .u8 14, .int .u8 24, .int .u8 3, .int .u8 30, .int .u8 22, .int .u8 20, .int .u8 15, .int .u8 25, .int .u8 17, .int .u8 4, .int .u8 8, .int .u8 31, .int .u8 27, .int .u8 13, .int .u8 23, .int .u8 21, .int .u8 19, .int .u8 16, .int .u8 7, .int .u8 26, .int .u8 12, .int .u8 18, .int .u8 6, .int .u8 11, .int .u8 5, .int .u8 10, .int .u8 9] t frozen
   | o => o }
end Go.Proofs.YtffgnjgphkdodaaGreatDoor
namespace Go.Proofs.YtffgnjgphkdodaaGreatDoor
open Go Go.RowKit Go.ChangeShapes Go.WideShapes Go.ChangeAt
section
variable {H : Type} {enc : TypeId × Value → H}
theorem trodAll_stays {W W' : World} {sp : Nat → Bool} : ∀ {ts : List TypeId} {vs : List Value} {ds : List (DataW H)} {ps : List MemPlace}, (∀ t ∈ ts, Tryz.prog.readableRec t = true ∧ t < Tryz.prog.types.size) →
  DataW.TrodAll enc Tryz.prog W 0 (fun _ => true) true ts vs ds ps → (∀ p ∈ ps, W.sameAt W' p) → (∀ p ∈ ps, sp p.block = true) → DataW.TrodAll enc Tryz.prog W' 0 sp true ts vs ds ps
 | [], vs, ds, ps, _, h, _, _ => by
  obtain ⟨rfl, rfl, rfl⟩ := trodAll_nil h
  exact trodAll_mk0
 | t :: ts, vs, ds, ps, ht, h, hs, hp => by
  obtain ⟨v, vs', d, ds', p, q, rfl, rfl, rfl, h0, r0⟩ := trodAll_cons h
  obtain ⟨hr, hz⟩ := ht t (List.mem_cons_self ..)
  exact trodAll_cons_mk (WideElems.Trod_stays laid_out hr hz h0 (fun x hx => hs x (List.mem_append_left _ hx)) (fun x hx => hp x (List.mem_append_left _ hx)))
   (trodAll_stays (fun t h => ht t (List.mem_cons_of_mem _ h)) r0 (fun x hx => hs x (List.mem_append_right _ hx)) (fun x hx => hp x (List.mem_append_right _ hx)))
theorem all_again (ts : List TypeId) (h : ts.all (fun t => Tryz.prog.readableRec t && decide (t < Tryz.prog.types.size)) = true) (t : TypeId) (ht : t ∈ ts) : Tryz.prog.readableRec t = true ∧ t < Tryz.prog.types.size := by
 have := List.all_eq_true.1 h t ht
 rw [Bool.and_eq_true, decide_eq_true_eq] at this
 exact this
end
end Go.Proofs.YtffgnjgphkdodaaGreatDoor
namespace Go.Proofs.YtffgnjgphkdodaaGreatDoor
open Go Go.RowKit Go.ChangeShapes Go.WideShapes Go.Deep
section
variable {H : Type} {enc : TypeId × Value → H} {w : World} {spare : Nat → Bool} {held : Bool}
def intO1 (_ : CM) (cs : List Value) (n : Int) : Prop := cs = [.int .i64 n]
theorem open_int_1 {n : Nat} {cs : List Value} {y : DataW H × List MemPlace} (h : DataW.trod enc Tryz.prog w 0 spare held n 3 cs = some y) : ∃ d, intO1 (cmap w) cs d ∧ i64 d := by
 obtain ⟨s1, e1, _, w1⟩ := DataW.trod_int Tryz.underlying3 h
 exact ⟨s1, e1, bounds_i64 w1⟩
theorem open_row {n : Nat} {cs : List Value} {y : DataW H × List MemPlace} (h : DataW.trod enc Tryz.prog w 0 spare held n 26 cs = some y) : ∃ v l, cs = [v] ∧ Ints (cmap w) v l ∧ ∀ x ∈ l, i64 x := by
 obtain ⟨v0, l, e0, h0, hok⟩ := open_sl intO1 i64 Tryz.underlying26 c1_int (by decide) (fun n cs' y hy => open_int_1 hy) h
 refine ⟨v0, l, e0, h0.imp' fun m b o x hx => ?_, hok⟩
 obtain ⟨cs, rfl, h2⟩ := hx
 exact h2 0 _ rfl
def rowO (m : CM) (cs : List Value) (l : List Int) : Prop := ∃ v, cs = [v] ∧ Ints m v l
theorem c1_row : Tryz.prog.cellsOf 26 = 1 := by kernel_rfl
set_option maxRecDepth 100000 in
theorem open_ints2_i {base : Nat} {r : Reach} {v : Value} {d : DataW H} {p : List MemPlace} (hv : Value.okWide Tryz.prog w r base 27 v) (h : DataW.Trod enc Tryz.prog w 0 spare held 27 v d p) :
  ∃ l, Ints2 (cmap w) v l ∧ ∀ y ∈ l, ∀ x ∈ y, i64 x := by
 obtain ⟨a, n, c, rfl⟩ := okWide_slice Tryz.underlying27 hv
 obtain ⟨fuel, hf⟩ := h
 have hf' : DataW.trod enc Tryz.prog w 0 spare held fuel 27 [.slice a n c] = some (d, p) := hf
 obtain ⟨v0, l, e0, h0, hok⟩ := open_sl rowO (fun l => ∀ x ∈ l, i64 x) Tryz.underlying27 c1_row (by decide) (fun n cs' y hy => by
  obtain ⟨v, l, e, h1, h2⟩ := open_row hy
  exact ⟨l, ⟨v, e, h1⟩, h2⟩) hf'
 injection e0 with e0 _
 subst e0
 refine ⟨l, h0.imp' fun m b o x hx => ?_, hok⟩
 obtain ⟨cs, ⟨v, rfl, h1⟩, h2⟩ := hx
 exact ⟨v, h2 0 _ rfl, h1⟩
end
end Go.Proofs.YtffgnjgphkdodaaGreatDoor
