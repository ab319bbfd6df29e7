import Derived.Test.YtffgnjgphkdodaaGreatDoorP72
import Derived.Test.YtffgnjgphkdodaaGreatDoorP113
import Derived.Test.YtffgnjgphkdodaaGreatDoorP76
import Derived.Test.YtffgnjgphkdodaaGreatDoorP117
import Derived.Test.YtffgnjgphkdodaaGreatDoorP114
/- Where an open store waits: the plain law of DelayRuns. -/
namespace Go.Proofs.YtffgnjgphkdodaaGreatDoor
open Go
/-- Nodes of open stores. -/
noncomputable def stS (u : Unit_) (g : Graph) : Nat → Prop := fun i => (i : Int) ∈ stL u g
/-- An open way comes to a node (whose own fence is not asked). -/
def ArrC (g : Graph) (S : Nat → Prop) (F : List Int) (j : Nat) : Prop := ∃ (i : Nat) (n : Node), g.nodes[i]? = some n ∧ (j : Int) ∈ fol n ∧ (S i ∨ (OpenC g S F i ∧ drB n = false))
theorem ArrC.open_ {g : Graph} {S : Nat → Prop} {F : List Int} {j : Nat} (h : ArrC g S F j) (hj : (j : Int) ∉ F) : OpenC g S F j := by
  obtain ⟨i, n, hn, hf, h | ⟨h, hd⟩⟩ := h
  · exact .first h hn hf hj
  · exact .step h hn hd hf hj
/-- Which threads have an open store behind them. -/
structure DrI (u : Unit_) (L : List (List Int)) (m : Mach) (W : List Bool) : Prop where
  len : W.length = u.graphs.length
  arr : ∀ (t : Nat) (g : Graph) (i : Nat) (F : List Int), u.graphs[t]? = some g → m.at_[t]? = some i → L[t]? = some F → W[t]? = some true → ArrC g (stS u g) F i
theorem DrI.start (u : Unit_) (L : List (List Int)) (m : Mach) : DrI u L m (List.replicate u.graphs.length false) :=
  ⟨by simp, fun t g i F _ _ _ h => by
    rw [List.getElem?_replicate] at h
    split at h <;> cases h⟩
theorem stS_of {u : Unit_} {g : Graph} {i : Nat} {n : Node} (hn : g.nodes[i]? = some n) (hr : ReachC g (-1) i) (hs : stB u n = true) : stS u g i := by
  unfold stS stL stK
  have hlt := (List.getElem?_eq_some_iff.1 hn).1
  refine List.mem_map.2 ⟨i, List.mem_filter.2 ⟨List.mem_range.2 hlt, ?_⟩, rfl⟩
  unfold mkAt
  rw [hn]
  simp [hr, hs]
theorem DrI.open_ {u : Unit_} {L : List (List Int)} {m : Mach} {W : List Bool} (h : DrI u L m W) {t : Nat} {g : Graph} {i : Nat} {n : Node} {F : List Int} (hst : Stands u m t g i n) (hF : L[t]? = some F) (hw : W[t]? = some true) (hi : (i : Int) ∉ F) {b : Bool} (hb : (openG g (stL u g) F)[i]? = some b) : b = true :=
  (openG_at _ _ (List.getElem?_eq_some_iff.1 hst.nd).1 hb).2 ((h.arr t g i F hst.gr hst.pc hF hw).open_ hi)
theorem DrI.step {u : Unit_} {L : List (List Int)} {m : Mach} {W : List Bool} (h : DrI u L m W) (hu : RightU u) (hs : Situ u m) {t : Nat} {g : Graph} {i : Nat} {n : Node} {F : List Int} (hst : Stands u m t g i n) (hb : barF u m t = 0) (hF : L[t]? = some F) {w : Bool}
    (hw : w = true → W[t]? = some true ∧ (i : Int) ∉ F) : DrI u L (stepM u m t) (W.set t (if stB u n = true then true else if drB n = true then false else w)) := by
  have hr := hs.come.reach t g i hst.gr hst.pc
  rw [hst.bar hs.ok] at hb
  rw [hst.step hs.ok hb]
  have h9 : n.kind ≠ 9 := fun e => by unfold barN at hb; rw [if_pos e] at hb; cases hb
  have hfol := actN_fol (m := m) (t := t) h9
  have hbf := (hu.graphs g (List.mem_of_getElem? hst.gr)).whole.fol n (List.mem_of_getElem? hst.nd) _ hfol
  refine ⟨by rw [List.length_set]; exact h.len, fun t' g' i' F' hg' hi' hF' hw' => ?_⟩
  have hi2 : (m.at_.set t (actN m t n).toNat)[t']? = some i' := hi'
  rw [List.getElem?_set] at hi2 hw'
  by_cases e : t = t'
  · subst e
    rw [if_pos rfl, if_pos (List.getElem?_eq_some_iff.1 hst.pc).1] at hi2
    rw [if_pos rfl, if_pos (by rw [h.len]; exact (List.getElem?_eq_some_iff.1 hst.gr).1)] at hw'
    injection hi2 with hi2
    injection hw' with hw'
    rw [hst.gr] at hg'
    injection hg' with hg'
    rw [hF] at hF'
    injection hF' with hF'
    subst hi2 hg' hF'
    refine ⟨i, n, hst.nd, by rw [Int.toNat_of_nonneg hbf.1]; exact hfol, ?_⟩
    by_cases hsb : stB u n = true
    · exact .inl (stS_of hst.nd hr hsb)
    · rw [if_neg hsb] at hw'
      by_cases hdb : drB n = true
      · rw [if_pos hdb] at hw'
        cases hw'
      · rw [if_neg hdb] at hw'
        obtain ⟨k1, k2⟩ := hw hw'
        exact .inr ⟨(h.arr t g i F hst.gr hst.pc hF k1).open_ k2, by simpa using hdb⟩
  · rw [if_neg e] at hi2 hw'
    exact h.arr t' g' i' F' hg' hi2 hF' hw'
theorem DrI.stay {u : Unit_} {L : List (List Int)} {m : Mach} {W : List Bool} (h : DrI u L m W) {t : Int} (hb : barF u m t ≠ 0) : DrI u L (stepM u m t) W := by
  rw [(step_not hb).1]
  exact h
end Go.Proofs.YtffgnjgphkdodaaGreatDoor
/- The source machine within the law DelayRuns. -/
namespace Go.Proofs.YtffgnjgphkdodaaGreatDoor
open Go Go.RowKit
def drZ (w w1 w4 : World) (q : Nat) : Prop := q = w.heap.size ∨ (w1.heap.size ≤ q ∧ q < w4.heap.size)
theorem MAz.startD {w w0 w1 w4 : World} {R : Nat → Prop} {g : Nat} {L : Lay} {u : Unit_} {m : Mach} (h1 : w.heap.size < w0.heap.size) (hw : Below w.heap.size w w0) (hM : MachB w1 R g L u m) (hR : ∀ q, R q → w0.heap.size ≤ q ∧ q < w1.heap.size) (hmu : ∀ q, L.mut g q → w0.heap.size ≤ q) (hb : Below w0.heap.size w0 w1) (hx : Below w1.heap.size w1 w4) : MAz w w4 R g L u (drZ w w1 w4) m :=
  ⟨⟨L.pv, hM.below hx, fun q hq => ⟨by have := hmu q hq; omega, fun e => by
    have h2 := hmu q hq
    have h3 := hM.lt hq
    rcases e with e | e
    · omega
    · omega⟩⟩, fun q hq => Nat.lt_of_lt_of_le (hR q hq).2 hx.size, (hw.trans (hb.mono hw.size)).trans (hx.mono (Nat.le_trans hw.size hb.size)), fun q hq => by
    have h2 := hb.size
    have h3 := hx.size
    rcases hq with e | e
    · omega
    · exact e.2⟩
/-- After k steps of the schedule. -/
structure DrAt (w w4 wr : World) (R : Nat → Prop) (g : Nat) (L : Lay) (u : Unit_) (Z : Nat → Prop) (hb : Nat) (k : Nat) (m : Mach) (W : List Bool) : Prop where
  at_ : MAz w wr R g L u Z m
  situ : Situ u m
  pr : m.prints.length ≤ k
  kz : (on w4 Z).le (on wr Z)
  own : OwnB w wr R g L hb 4 (bools W)
  nz : ¬ Z hb
section
variable {w w4 wr wx : World} {R Z : Nat → Prop} {g hb k : Nat} {L : Lay} {u : Unit_} {m : Mach} {W : List Bool}
theorem DrAt.below (h : DrAt w w4 wr R g L u Z hb k m W) (hx : Below wr.heap.size wr wx) : DrAt w w4 wx R g L u Z hb k m W :=
  ⟨h.at_.below hx, h.situ, h.pr, h.kz.trans ((FrW.of_below (fun _ => False) hx).on fun _ _ => id), h.own.below hx, h.nz⟩
theorem DrAt.drewN (h : DrAt w w4 wr R g L u Z hb k m W) (q : Nat) : DrAt w w4 (wr.drewN q) R g L u Z hb k m W := h.below (Below_drewN wr q)
theorem DrAt.succ (h : DrAt w w4 wr R g L u Z hb k m W) : DrAt w w4 wr R g L u Z hb (k + 1) m W := ⟨h.at_, h.situ, Nat.le_succ_of_le h.pr, h.kz, h.own, h.nz⟩
theorem DrAt.set_ (h : DrAt w w4 wr R g L u Z hb k m W) (j : Nat) (b : Bool) : DrAt w w4 (wr.setCell ⟨hb, j, none⟩ (.bool b)) R g L u Z hb k m (W.set j b) := by
  obtain ⟨pv, h1, h2⟩ := h.at_.ex
  have hT : 232 ≠ 4 := by decide
  have nm := h1.mut_pv h.own.blk hT h.own.nm
  refine ⟨⟨⟨pv, h1.setOther nm h.own.nr j (.bool b), h2⟩, fun q hq => by have := h.at_.rl q hq; simpa [World.setCell] using this, h.at_.bel.setCell h.own.ge (.bool b), fun q hq => by have := h.at_.zl q hq; simpa [World.setCell] using this⟩, h.situ, h.pr, h.kz.trans ((FrW.setCell (S := fun q => q = hb) wr (p := ⟨hb, j, none⟩) rfl (.bool b)).on fun q hq e => h.nz (by rw [← e]; exact hq)), ⟨?_, h.own.nm, h.own.nr, h.own.ge⟩, h.nz⟩
  have h3 := h.own.blk.set_ j (.bool b)
  rw [show bools (W.set j b) = (bools W).set j (.bool b) by simp [bools, List.map_set]]
  exact h3
theorem DrAt.cell (h : DrAt w w4 wr R g L u Z hb k m W) {j : Nat} {b : Bool} (hj : W[j]? = some b) : wr.cell? ⟨hb, j, none⟩ = some (.bool b) := by
  rw [h.own.blk.cell]
  simp [bools, hj]
theorem dr_step (hu : RightU u) (huo : UOk u) (hk : k ≤ 1048576) (h : DrAt w w4 wr R g L u Z hb k m W) {t : Int} (hbar : barF u m t = 0) :
    Calls Tryz.prog 34 #[.pointer (some ⟨g, 0, none⟩), .int .i64 t] wr fun e w' => e = .returned (.tuple #[.agg #[.int .i64 (stepD u m t).thread, .int .i64 (stepD u m t).node, .int .u8 (stepD u m t).kind, .int .i64 (stepD u m t).thing, .int .i64 (stepD u m t).word, .int .i64 (stepD u m t).put], .int .i64 0]) ∧ DrAt w w4 w' R g L u Z hb (k + 1) (stepM u m t) W := by
  obtain ⟨pv, hM, hmu⟩ := h.at_.ex
  refine (step_calls t hM h.situ.ok h.situ.mi hu huo (by have := h.pr; omega) h.at_.rl).mono ?_
  rintro e w6 ⟨rfl, hm⟩
  obtain ⟨q1, q2⟩ := h.at_.made hmu hm
  have hpp := step_prints h.situ.ok t
  exact ⟨by rw [stepD_cells, hbar], q1, h.situ.step hu huo t, by have := h.pr; omega, h.kz.trans q2, h.own.made hM (by decide) hm, h.nz⟩
end
theorem can_yes_dr {u : Unit_} {m : Mach} (hs : Situ u m) {t : Int} (h : barF u m t = 0) : ∃ (a : Nat) (g : Graph) (i : Nat) (n : Node), t = a ∧ a < u.graphs.length ∧ Stands u m a g i n ∧ m.where_ a = i := by
  obtain ⟨a, rfl, hl⟩ := bar_out hs.ok (t := t) (by rw [h]; decide)
  obtain ⟨g, i, n, hst⟩ := stands_at hs.ok hl
  refine ⟨a, g, i, n, rfl, hl, hst, ?_⟩
  unfold Mach.where_
  have := (List.getElem?_eq_some_iff.1 hst.pc).1
  rw [if_pos (by omega), Int.toNat_natCast, hst.pc]; rfl
theorem set_self {α : Type} {l : List α} {j : Nat} {b : α} (h : l[j]? = some b) : l.set j b = l := by
  apply List.ext_getElem?
  intro i
  rw [List.getElem?_set]
  by_cases e : j = i
  · subst e
    rw [if_pos rfl, if_pos (List.getElem?_eq_some_iff.1 h).1, h]
  · rw [if_neg e]
/-- The rows of open nodes. -/
noncomputable def opnL (u : Unit_) (L : List (List Int)) (t : Nat) : List Bool := match u.graphs[t]?, L[t]? with
  | some g, some F => openG g (stL u g) F
  | _, _ => []
theorem opnL_at {u : Unit_} {L : List (List Int)} {t : Nat} {g : Graph} {F : List Int} (hg : u.graphs[t]? = some g) (hF : L[t]? = some F) : opnL u L t = openG g (stL u g) F := by
  unfold opnL
  rw [hg, hF]
abbrev boolsV := InnerV BoolC 1
theorem sl_opn : SlT Tryz.prog 58 28 1 24 (.slice none 0 0) := SlT.mk' Tryz.underlying58 (by kernel_rfl) rfl (by omega)
end Go.Proofs.YtffgnjgphkdodaaGreatDoor
