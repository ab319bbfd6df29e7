import Derived.Test.YtmkpjiahkepigaaGreatP72
import Derived.Test.YtmkpjiahkepigaaGreatP43
import Derived.Test.YtmkpjiahkepigaaGreatP83
/- Two threads' actions that touch unlike things may change about. -/
namespace Go.Proofs.YtmkpjiahkepigaaGreat
open Go
def slotW (m : Mach) (t : Nat) (n : Node) : Option Int := if n.kind = 1 then some (setV m t n) else if n.kind = 2 ∨ n.kind = 4 then some (m.var n.thing) else none
def memW (m : Mach) (t : Nat) (n : Node) : Option Int := if n.kind = 3 ∨ n.kind = 4 then some (m.val t n.a) else none
def holdW (t : Nat) (n : Node) : Option Int := if n.kind = 5 then some (t : Int) else if n.kind = 6 then some (-1) else none
def prW (m : Mach) (t : Nat) (n : Node) : List (Int × Int) := if n.kind = 7 then [((t : Int), m.val t n.a)] else []
def putS (s : List (List Int)) (t : Nat) (j : Int) : Option Int → List (List Int)
  | none => s
  | some x => s.set t (((s[t]?).getD []).set j.toNat x)
def putM (s : List Int) (i : Int) : Option Int → List Int
  | none => s
  | some x => s.set i.toNat x
theorem act_form (m : Mach) (t : Nat) (n : Node) : actM m t n = ⟨m.at_, putS m.slots t n.slot (slotW m t n), putM m.mem n.thing (memW m t n), putM m.holders n.thing (holdW t n), m.prints ++ prW m t n⟩ := by
  unfold actM slotW memW holdW prW
  by_cases h1 : n.kind = 1
  · simp [h1, Mach.setSlot, putS, putM]
  · by_cases h2 : n.kind = 2
    · simp [h2, Mach.setSlot, putS, putM]
    · by_cases h3 : n.kind = 3
      · simp [h3, Mach.setVar, putS, putM]
      · by_cases h4 : n.kind = 4
        · simp [h4, Mach.setSlot, Mach.setVar, putS, putM]
        · by_cases h5 : n.kind = 5
          · simp [h5, Mach.setHolder, putS, putM]
          · by_cases h6 : n.kind = 6
            · simp [h6, Mach.setHolder, putS, putM]
            · by_cases h7 : n.kind = 7
              · simp [h7, putS, putM]
              · simp [h1, h2, h3, h4, h5, h6, h7, putS, putM]
/-- Nothing that one does is anything to the other. -/
structure Off (x y : Node) : Prop where
  xy : wrB x = true → touchB y = true → x.thing.toNat ≠ y.thing.toNat
  yx : wrB y = true → touchB x = true → y.thing.toNat ≠ x.thing.toNat
  lk : (x.kind = 5 ∨ x.kind = 6) → (y.kind = 5 ∨ y.kind = 6) → x.thing.toNat ≠ y.thing.toNat
  pr : ¬ (x.kind = 7 ∧ y.kind = 7)
theorem Off.symm {x y : Node} (h : Off x y) : Off y x := ⟨h.yx, h.xy, fun h1 h2 e => h.lk h2 h1 e.symm, fun e => h.pr e.symm⟩
/-- Behind a thread's action another one finds what it found. -/
structure SeesAs (m m' : Mach) (b : Nat) (y : Node) : Prop where
  val : ∀ v, m'.val b v = m.val b v
  var : y.kind = 2 ∨ y.kind = 4 → m'.var y.thing = m.var y.thing
  bar : barN m' y = barN m y
section
variable {m m' : Mach} {b : Nat} {y : Node}
theorem SeesAs.slotW (h : SeesAs m m' b y) : Go.Proofs.YtmkpjiahkepigaaGreat.slotW m' b y = Go.Proofs.YtmkpjiahkepigaaGreat.slotW m b y := by
  unfold Go.Proofs.YtmkpjiahkepigaaGreat.slotW
  have hs : setV m' b y = setV m b y := by unfold setV; simp only [h.val]
  rw [hs]
  by_cases hk : y.kind = 2 ∨ y.kind = 4
  · rw [h.var hk]
  · simp [hk]
theorem SeesAs.memW (h : SeesAs m m' b y) : Go.Proofs.YtmkpjiahkepigaaGreat.memW m' b y = Go.Proofs.YtmkpjiahkepigaaGreat.memW m b y := by unfold Go.Proofs.YtmkpjiahkepigaaGreat.memW; rw [h.val]
theorem SeesAs.prW (h : SeesAs m m' b y) : Go.Proofs.YtmkpjiahkepigaaGreat.prW m' b y = Go.Proofs.YtmkpjiahkepigaaGreat.prW m b y := by unfold Go.Proofs.YtmkpjiahkepigaaGreat.prW; rw [h.val]
theorem SeesAs.next (h : SeesAs m m' b y) : actN m' b y = actN m b y := by unfold actN; rw [h.val]
end
end Go.Proofs.YtmkpjiahkepigaaGreat
/- What threads that are apart do, in whatever order: the plain law of SharingApart; what a situation's text is made of. -/
namespace Go.Proofs.YtmkpjiahkepigaaGreat
open Go
/-- What was printed are words. -/
def PrI (m : Mach) : Prop := ∀ p ∈ m.prints, i64 p.1 ∧ i64 p.2
theorem PrI.start (u : Unit_) : PrI (startM u) := fun p hp => by simp [startM] at hp
theorem PrI.step {u : Unit_} (hu : RightU u) (huo : UOk u) {m : Mach} (hs : Situ u m) (h : PrI m) (t : Int) : PrI (stepM u m t) := by
  by_cases hb0 : barF u m t = 0
  · obtain ⟨t, rfl, ht⟩ := bar_out hs.ok (by rw [hb0]; decide)
    obtain ⟨g, i, n, hst⟩ := stands_at hs.ok ht
    rw [hst.bar hs.ok] at hb0
    rw [hst.step hs.ok hb0, act_form]
    intro p hp
    simp only at hp
    rcases List.mem_append.1 hp with e | e
    · exact h p e
    · unfold prW at e
      split at e
      · rw [List.mem_singleton] at e
        subst e
        have h8 := hu.threads
        have hno := huo g (List.mem_of_getElem? hst.gr) n (List.mem_of_getElem? hst.nd)
        exact ⟨⟨by show _ ≤ ((t : Nat) : Int); omega, by show ((t : Nat) : Int) ≤ _; omega⟩, hs.mi.val t hno.a⟩
      · cases e
  · rw [(step_not hb0).1]; exact h
theorem Situ.keyI {u : Unit_} (hu : RightU u) {m : Mach} (hs : Situ u m) (h : PrI m) : KeyI m := by
  refine ⟨fun n hn => ?_, hs.mi, fun x hx => ?_, h⟩
  · obtain ⟨t, ht⟩ := List.getElem?_of_mem hn
    have hl := (List.getElem?_eq_some_iff.1 ht).1
    rw [hs.ok.at_] at hl
    have h1 : u.graphs[t]? = some u.graphs[t] := List.getElem?_eq_getElem hl
    have h2 := hs.ok.node t _ _ h1 ht
    have h3 := (hu.graphs _ (List.mem_of_getElem? h1)).whole.most
    omega
  · obtain ⟨l, hl⟩ := List.getElem?_of_mem hx
    have h8 := hu.threads
    rcases hs.come.who l x hl with e | e
    · subst e; exact ⟨by omega, by omega⟩
    · exact ⟨by omega, by omega⟩
/-- Who holds a lock has a lock node of it that is reached. -/
def LockBy (u : Unit_) (m : Mach) : Prop := ∀ (l t : Nat), m.holders[l]? = some (t : Int) → ∃ g i n, u.graphs[t]? = some g ∧ g.nodes[i]? = some n ∧ ReachC g (-1) i ∧ n.kind = 5 ∧ n.thing = (l : Int)
theorem LockBy.start (u : Unit_) : LockBy u (startM u) := fun l t h => by
  simp only [startM, List.getElem?_map] at h
  cases hq : u.locks[l]? with
  | none => rw [hq] at h; cases h
  | some x => rw [hq] at h; injection h with h; have h : (-1 : Int) = t := h; omega
theorem LockBy.step {u : Unit_} (hu : RightU u) {m : Mach} (hs : Situ u m) (h : LockBy u m) (t : Int) : LockBy u (stepM u m t) := by
  by_cases hb0 : barF u m t = 0
  · obtain ⟨t, rfl, ht⟩ := bar_out hs.ok (by rw [hb0]; decide)
    obtain ⟨g, i, n, hst⟩ := stands_at hs.ok ht
    rw [hst.bar hs.ok] at hb0
    rw [hst.step hs.ok hb0]
    intro l q hq
    simp only [actM_holders] at hq
    have hth := (ndF ((hu.graphs g (List.mem_of_getElem? hst.gr)).nodes n (List.mem_of_getElem? hst.nd))).lock
    by_cases h5 : n.kind = 5
    · rw [if_pos h5, List.getElem?_set] at hq
      have h0 := hth (.inl h5)
      split at hq
      · rename_i e
        split at hq
        · injection hq with hq
          obtain rfl : t = q := by omega
          exact ⟨g, i, n, hst.gr, hst.nd, hs.come.reach t g i hst.gr hst.pc, h5, by omega⟩
        · cases hq
      · exact h l q hq
    · rw [if_neg h5] at hq
      by_cases h6 : n.kind = 6
      · rw [if_pos h6, List.getElem?_set] at hq
        split at hq
        · split at hq
          · injection hq with hq; omega
          · cases hq
        · exact h l q hq
      · rw [if_neg h6] at hq
        exact h l q hq
  · rw [(step_not hb0).1]; exact h
/-- What the law has gathered: what a did, what b did; by itself one of them does the same behind the other. -/
structure ApI (u : Unit_) (a b : Nat) (m0 m : Mach) (fs ss : List Int) : Prop where
  fa : ∀ x ∈ fs, x = (a : Int)
  sb : ∀ x ∈ ss, x = (b : Int)
  situ : Situ u m
  lock : LockBy u m
  pri : PrI m
  runs : ∃ mb, runF u m0 ss = (mb, ss.length, 0) ∧ runF u mb fs = (m, fs.length, 0) ∧ Situ u mb ∧ LockBy u mb ∧ PrI mb
theorem ApI.start {u : Unit_} {a b : Nat} {m0 : Mach} (hs : Situ u m0) (hL : LockBy u m0) (hP : PrI m0) : ApI u a b m0 m0 [] [] :=
  ⟨fun x h => (by cases h), fun x h => (by cases h), hs, hL, hP, m0, rfl, rfl, hs, hL, hP⟩
end Go.Proofs.YtmkpjiahkepigaaGreat
