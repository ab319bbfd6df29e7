import Derived.Test.YtpaieopclpddnaaDoorP18
import Derived.Test.YtpaieopclpddnaaDoorP14
import Derived.Test.YtpaieopclpddnaaDoorP21
/- The plain law of LocksetFewer: with one thread's nodes taken away no class grows. -/
namespace Go.Proofs.YtpaieopclpddnaaDoor
open Go Go.RowKit
def endN : Node := ⟨9, 0, 0, 0, v0, v0, 0, 0, 0⟩
def Graph.end_ (g : Graph) : Graph := ⟨g.name, g.locals, g.slots, [endN]⟩
def cutU (u : Unit_) (t : Nat) (g : Graph) : Unit_ := ⟨u.shared, u.locks, u.graphs.set t g.end_⟩
theorem ndBad_like {u v : Unit_} {g : Graph} (hs : v.shared.length = u.shared.length) (hl : v.locks.length = u.locks.length) : ∀ (ns : List Node) (i : Nat), ndBad v g i ns = ndBad u g i ns
  | [], _ => rfl
  | n :: ns, i => by
    unfold ndBad
    rw [ndBad_like hs hl ns (i + 1)]
    unfold ndOk
    rw [hs, hl]
theorem graphBad_like {u v : Unit_} {g : Graph} (hs : v.shared.length = u.shared.length) (hl : v.locks.length = u.locks.length) : graphBad v g = graphBad u g := by
  unfold graphBad
  rw [ndBad_like hs hl]
theorem graphsBad_iff {u : Unit_} : ∀ (gs : List Graph) (t : Nat), graphsBad u t gs = none ↔ ∀ g ∈ gs, graphBad u g = none
  | [], _ => by simp [graphsBad]
  | g :: gs, t => by
    unfold graphsBad
    cases h : graphBad u g with
    | some i => simp [h]
    | none => simp [h, graphsBad_iff gs (t + 1)]
theorem graphBad_end {u : Unit_} {g : Graph} (h : graphBad u g = none) : graphBad u g.end_ = none := by
  unfold graphBad at h ⊢
  by_cases hs : sizesOk g = true
  · have h2 : sizesOk g.end_ = true := by
      unfold sizesOk at hs ⊢
      rw [decide_eq_true_eq] at hs ⊢
      obtain ⟨h1, h2, h3, h4, _⟩ := hs
      exact ⟨h1, h2, h3, h4, by show 1 ≤ 1; decide, by show 1 ≤ 4096; decide⟩
    rw [if_pos h2]
    have h3 : ndOk u g.end_ endN = true := by
      unfold ndOk nodeOk
      simp [endN, nodeHead, numOk, valOk, uSlot, uThing, uA, uNext, v0]
    have h4 : ndBad u g.end_ 0 g.end_.nodes = none := by
      show (if ndOk u g.end_ endN = true then none else some 0) = none
      rw [if_pos h3]
    rw [h4]
    rfl
  · rw [if_neg hs] at h
    cases h
theorem nm_set {gs : List Graph} {t : Nat} {g : Graph} (h : gs[t]? = some g) : nmGraphs (gs.set t g.end_) = nmGraphs gs := by
  unfold nmGraphs
  rw [List.map_set]
  refine List.ext_getElem? fun i => ?_
  rw [List.getElem?_set]
  split
  · rename_i e
    subst e
    obtain ⟨h1, h2⟩ := List.getElem?_eq_some_iff.1 h
    rw [if_pos (by simpa using h1), List.getElem?_map, h]
    rfl
  · rfl
theorem cut_ok {u : Unit_} {t : Nat} {g : Graph} (hg : u.graphs[t]? = some g) (h : checkF u = none) : checkF (cutU u t g) = none := by
  unfold checkF at h ⊢
  by_cases hn : namedOk u = true
  · rw [if_pos hn] at h
    have hn2 : namedOk (cutU u t g) = true := by
      unfold namedOk nmAll at hn ⊢
      unfold cutU
      dsimp only
      rw [nm_set hg, List.length_set]
      exact hn
    rw [if_pos hn2]
    rw [graphsBad_iff] at h ⊢
    intro g' hg'
    rw [graphBad_like (u := u) (v := cutU u t g) rfl rfl]
    unfold cutU at hg'
    dsimp only at hg'
    rcases List.mem_or_eq_of_mem_set hg' with h1 | h1
    · exact h g' h1
    · subst h1
      exact graphBad_end (h g (List.mem_of_getElem? hg))
  · rw [if_neg hn] at h
    cases h
theorem filter_none {α : Type} {p : α → Bool} {l : List α} (h : ∀ x ∈ l, p x = false) : l.filter p = [] := by
  rw [List.filter_eq_nil_iff]
  intro x hx
  rw [h x hx]
  simp
theorem filter_all {α : Type} {p : α → Bool} {l : List α} (h : ∀ x ∈ l, p x = true) : l.filter p = l := List.filter_eq_self.2 h
theorem hits_set (x : Int) : ∀ (gs : List Graph) (k t0 : Nat) (g : Graph), gs[k]? = some g →
    (hits t0 (gs.set k g.end_)).filter (·.on x) = ((hits t0 gs).filter (·.on x)).filter (fun h => decide (h.t ≠ t0 + k))
  | [], _, _, _, h => by simp at h
  | a :: gs, 0, t0, g, h => by
    simp only [List.getElem?_cons_zero, Option.some.injEq] at h
    subst h
    simp only [List.set_cons_zero, hits, List.filter_append]
    have e1 : (hitsOf t0 a.end_ 0 a.end_.nodes).filter (·.on x) = [] := filter_none fun h hh => by
      obtain ⟨j, _, _, h3, _⟩ := hitsOf_mem _ _ h hh
      have : h.n = endN := by
        have h4 := List.mem_of_getElem? h3
        unfold Graph.end_ at h4
        simpa using h4
      unfold Hit.on touchB
      rw [this]
      rfl
    have e2 : (List.filter (fun h => decide (h.t ≠ t0 + 0)) (List.filter (·.on x) (hitsOf t0 a 0 a.nodes))) = [] := filter_none fun h hh => by
      obtain ⟨j, h1, _⟩ := hitsOf_mem _ _ h (List.mem_filter.1 hh).1
      simp [h1]
    have e3 : (List.filter (fun h => decide (h.t ≠ t0 + 0)) (List.filter (·.on x) (hits (t0 + 1) gs))) = (hits (t0 + 1) gs).filter (·.on x) := filter_all fun h hh => by
      obtain ⟨j, g, h1, _⟩ := hits_mem _ _ h (List.mem_filter.1 hh).1
      simp; omega
    rw [e1, e2, e3]
  | a :: gs, k + 1, t0, g, h => by
    simp only [List.getElem?_cons_succ] at h
    have ih := hits_set x gs k (t0 + 1) g h
    simp only [List.set_cons_succ, hits, List.filter_append]
    rw [ih]
    have e1 : (List.filter (fun h => decide (h.t ≠ t0 + (k + 1))) (List.filter (·.on x) (hitsOf t0 a 0 a.nodes))) = (hitsOf t0 a 0 a.nodes).filter (·.on x) := filter_all fun h hh => by
      obtain ⟨j, h1, _⟩ := hitsOf_mem _ _ h (List.mem_filter.1 hh).1
      simp; omega
    rw [e1, show t0 + 1 + k = t0 + (k + 1) from by omega]
theorem touch_cut {u : Unit_} {t : Nat} {g : Graph} (h : u.graphs[t]? = some g) (x : Int) : touchU (cutU u t g) x = (touchU u x).filter (fun h => decide (h.t ≠ t)) := by
  have := hits_set x u.graphs t 0 g h
  rw [Nat.zero_add] at this
  exact this
theorem guards_less {u : Unit_} {t : Nat} {g : Graph} (h : u.graphs[t]? = some g) {x : Int} (hne : touchU (cutU u t g) x ≠ []) (hg : guardsF (cutU u t g) x = []) : guardsF u x = [] := by
  unfold guardsF at hg ⊢
  rw [if_neg hne] at hg
  split
  · rfl
  · rw [List.map_eq_nil_iff, List.filter_eq_nil_iff] at hg ⊢
    intro k hk hall
    refine hg k hk ?_
    rw [List.all_eq_true] at hall ⊢
    intro y hy
    rw [touch_cut h] at hy
    exact hall y (List.mem_filter.1 hy).1
/-- No class grows, and the thread owns nothing. -/
theorem class_cut {u : Unit_} {t : Nat} {g : Graph} (h : u.graphs[t]? = some g) (x : Int) : (classF (cutU u t g) x).kind ≤ (classF u x).kind ∧ ¬ ((classF (cutU u t g) x).kind = 1 ∧ (classF (cutU u t g) x).thread = t) ∧
    (0 ≤ (classF (cutU u t g) x).kind ∧ (classF u x).kind ≤ 3) := by
  have ht := touch_cut h x
  have hsub : ∀ y ∈ touchU (cutU u t g) x, y ∈ touchU u x ∧ y.t ≠ t := fun y hy => by
    rw [ht] at hy
    obtain ⟨h1, h2⟩ := List.mem_filter.1 hy
    exact ⟨h1, of_decide_eq_true h2⟩
  have hne : touchU (cutU u t g) x ≠ [] → touchU u x ≠ [] := fun h1 h2 => by
    apply h1
    rw [ht, h2]
    rfl
  have hgl := @guards_less u t g h x
  have h3 : 0 ≤ (classF u x).kind ∧ (classF u x).kind ≤ 3 := by
    rcases class_ways u x with ⟨_, _, d⟩ | ⟨_, ⟨_, _, d⟩ | ⟨_, ⟨_, _, _, d⟩ | ⟨_, d⟩⟩⟩ <;> (rw [d]; dsimp only; decide)
  rcases class_ways (cutU u t g) x with ⟨_, _, c⟩ | ⟨a1, ⟨tt, a2, c⟩ | ⟨a2, ⟨_, _, _, c⟩ | ⟨a3, c⟩⟩⟩
  · rw [c]
    dsimp only
    exact ⟨h3.1, fun h => absurd h.1 (by decide), by decide, h3.2⟩
  · have hk : 1 ≤ (classF u x).kind := by
      rcases class_ways u x with ⟨b1, _, d⟩ | ⟨_, ⟨_, _, d⟩ | ⟨_, ⟨_, _, _, d⟩ | ⟨_, d⟩⟩⟩
      · exact absurd b1 (hne a1)
      all_goals (rw [d]; dsimp only; decide)
    rw [c]
    dsimp only
    refine ⟨hk, ?_, by decide, h3.2⟩
    rintro ⟨_, h2⟩
    cases hT : touchU (cutU u t g) x with
    | nil => exact a1 hT
    | cons y l =>
      have hy : y ∈ touchU (cutU u t g) x := by rw [hT]; simp
      have := a2 y hy
      have := (hsub y hy).2
      omega
  · have hk : 2 ≤ (classF u x).kind := by
      rcases class_ways u x with ⟨b1, _, d⟩ | ⟨_, ⟨ss, b2, d⟩ | ⟨_, ⟨_, _, _, d⟩ | ⟨_, d⟩⟩⟩
      · exact absurd b1 (hne a1)
      · exact absurd ⟨ss, fun y hy => b2 y (hsub y hy).1⟩ a2
      all_goals (rw [d]; dsimp only; decide)
    rw [c]
    dsimp only
    exact ⟨hk, fun h => absurd h.1 (by decide), by decide, h3.2⟩
  · have hk : 3 ≤ (classF u x).kind := by
      rcases class_ways u x with ⟨b1, _, d⟩ | ⟨_, ⟨ss, b2, d⟩ | ⟨_, ⟨_, _, b3, d⟩ | ⟨_, d⟩⟩⟩
      · exact absurd b1 (hne a1)
      · exact absurd ⟨ss, fun y hy => b2 y (hsub y hy).1⟩ a2
      · rw [hgl a1 a3] at b3; cases b3
      · rw [d]; dsimp only; decide
    rw [c]
    dsimp only
    exact ⟨hk, fun h => absurd h.1 (by decide), by decide, h3.2⟩
end Go.Proofs.YtpaieopclpddnaaDoor
/- A copied unit, one thread's nodes of which are taken away. -/
namespace Go.Proofs.YtpaieopclpddnaaDoor
open Go Go.RowKit
theorem UnitAcc.cut {base : Nat} {w1 W : World} {sv lv gv : Value} {u : Unit_} {t nb : Nat} {g : Graph} (h : UnitAcc base w1 [sv, lv, gv] u) (hg : u.graphs[t]? = some g) (hW : Below w1.heap.size w1 W) (hnb : w1.heap.size ≤ nb) (hn : Blk W nb 39 endN.cells) :
    ∃ gb c, gv = .slice (some ⟨gb, 0, none⟩) u.graphs.length c ∧ base ≤ gb ∧ gb < w1.heap.size ∧ (∃ x, W.cell? ⟨gb, t * 4 + 3, none⟩ = some x) ∧ W.frozen? ⟨gb, t * 4 + 3, none⟩ = false ∧
      UnitV (cmap (W.setCell ⟨gb, t * 4 + 3, none⟩ (.slice (some ⟨nb, 0, none⟩) 1 1))) [sv, lv, gv] (cutU u t g) := by
  obtain ⟨_, _, _, D, S, e, h1, h2, h3, h4⟩ := h
  injection e with e1 e; injection e with e2 e; injection e with e3 _
  subst e1 e2 e3
  obtain ⟨rows, r1, r2, r3, r4⟩ := h3.ex
  have ht : t < u.graphs.length := (List.getElem?_eq_some_iff.1 hg).1
  have hsz := hW.size
  rcases id r1.2 with ⟨rfl, h0⟩ | ⟨gb, cap, cur, rfl, hb, hh, hnc, hcm, hcs, htk⟩
  · omega
  have hgb := lt_of_block hh
  have hrow : ∀ i r, rows[i]? = some r → ∀ j v, r[j]? = some v → W.cell? ⟨gb, i * 4 + j, none⟩ = some v := fun i r hr j v hv => by
    have hi : i < u.graphs.length := by rw [← r2]; exact (List.getElem?_eq_some_iff.1 hr).1
    have hj : j < 4 := by rw [← r3 r (List.mem_of_getElem? hr)]; exact (List.getElem?_eq_some_iff.1 hv).1
    have := r1.cellAt (i * 4 + j) (by omega)
    rw [World.cell?_of_block (hW.block gb hgb), this]
    exact flatten_at rows 4 i r r3 hr j v hv
  have hfar : ∀ b, b ≠ gb → (W.setCell ⟨gb, t * 4 + 3, none⟩ (.slice (some ⟨nb, 0, none⟩) 1 1)).heap[b]? = W.heap[b]? := fun b hb => Below.heap_setCell _ _ _ _ hb
  have hold : ∀ (T : Nat → Prop), (∀ b, T b → b < w1.heap.size ∧ b ≠ gb) → (on w1 T).le (cmap (W.setCell ⟨gb, t * 4 + 3, none⟩ (.slice (some ⟨nb, 0, none⟩) 1 1))) := fun T hT b o v hv => by
    obtain ⟨k1, k2⟩ := on_at hv
    obtain ⟨k3, k4⟩ := hT b k2
    exact (World.cell?_of_block ((hfar b k4).trans (hW.block b k3))).trans k1
  have hD : ∀ b, D b → b < w1.heap.size ∧ b ≠ gb := fun b hb => ⟨(h4 b hb).2.1, fun e => (h4 b hb).2.2 (by rw [e]; rfl)⟩
  have hS : ∀ b, S b → b < w1.heap.size ∧ b ≠ gb := fun b hb => ⟨(h3.sep b hb).2.1, fun e => (h3.sep b hb).2.2 (by rw [e]; rfl)⟩
  have hrt : rows[t]? = some rows[t] := List.getElem?_eq_getElem (by rw [r2]; exact ht)
  obtain ⟨nv, hnv, -⟩ := r4 t _ g hrt hg
  have hx := hrow t _ hrt 3 nv (by rw [hnv]; rfl)
  refine ⟨gb, cap, rfl, hb, hgb, ⟨nv, hx⟩, ?_, sv, lv, _, rfl, h1.mono (hold D hD), h2.mono (hold D hD), ?_⟩
  · rw [World.frozen?_of_block (hW.block gb hgb)]
    exact frozen_of_row w1 gb _ _ _ hh
  · refine ⟨some ⟨gb, 0, none⟩, cap, by unfold cutU; simp, by unfold cutU; simp; omega, ⟨hcm, fun h => by cases h⟩, .inr ⟨gb, 0, rfl, fun i x hx' => ?_⟩⟩
    unfold cutU at hx'
    dsimp only at hx'
    rw [List.getElem?_set] at hx'
    by_cases hti : t = i
    · subst hti
      rw [if_pos rfl, if_pos ht] at hx'
      injection hx' with hx'
      subst hx'
      refine ⟨[.string g.name, .int .i64 g.locals, .int .i64 g.slots, .slice (some ⟨nb, 0, none⟩) 1 1], ⟨_, rfl, ?_⟩, fun j v hv => ?_⟩
      · refine ⟨_, 1, rfl, Nat.le_refl _, ⟨by simp [maxLen], fun h => by cases h⟩, .inr ⟨nb, 0, rfl, fun i x hx j v hv => ?_⟩⟩
        have hi0 : i = 0 := by have := (List.getElem?_eq_some_iff.1 hx).1; unfold Graph.end_ at this; simpa using this
        subst hi0
        have hxe : x = endN := by unfold Graph.end_ at hx; simpa using hx.symm
        subst hxe
        have : nb ≠ gb := by omega
        show (W.setCell _ _).cell? _ = _
        rw [World.cell?_of_block (hfar nb this)]
        have := hn.cell j
        rw [hv] at this
        simpa using this
      · show (W.setCell _ _).cell? _ = _
        match j, hv with
        | 0, hv => injection hv with hv; subst hv; rw [World.cell?_setCell_other _ _ _ _ (by simp)]; have := hrow t _ hrt 0 (.string g.name) (by rw [hnv]; rfl); simpa using this
        | 1, hv => injection hv with hv; subst hv; rw [World.cell?_setCell_other _ _ _ _ (by simp)]; have := hrow t _ hrt 1 (.int .i64 g.locals) (by rw [hnv]; rfl); simpa using this
        | 2, hv => injection hv with hv; subst hv; rw [World.cell?_setCell_other _ _ _ _ (by simp)]; have := hrow t _ hrt 2 (.int .i64 g.slots) (by rw [hnv]; rfl); simpa using this
        | 3, hv => injection hv with hv; subst hv; simp only [Nat.zero_add]; exact World.cell?_setCell_same' _ _ _ (by rw [hx]; rfl)
    · rw [if_neg hti] at hx'
      have hi : i < u.graphs.length := (List.getElem?_eq_some_iff.1 hx').1
      have hri : rows[i]? = some rows[i] := List.getElem?_eq_getElem (by rw [r2]; exact hi)
      refine ⟨rows[i], (r4 i _ x hri hx').mono (hold S hS), fun j v hv => ?_⟩
      have hj : j < 4 := by rw [← r3 _ (List.mem_of_getElem? hri)]; exact (List.getElem?_eq_some_iff.1 hv).1
      show (W.setCell _ _).cell? _ = _
      rw [World.cell?_setCell_other _ _ _ _ (by intro h; injection h with _ h _; omega)]
      have := hrow i _ hri j v hv
      simpa using this
end Go.Proofs.YtpaieopclpddnaaDoor
