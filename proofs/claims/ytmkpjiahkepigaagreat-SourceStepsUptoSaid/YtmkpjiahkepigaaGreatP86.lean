import Derived.Test.YtmkpjiahkepigaaGreatP72
import Derived.Test.YtmkpjiahkepigaaGreatP43
import Derived.Test.YtmkpjiahkepigaaGreatP83
/- Two threads' actions that touch unlike things may change about. -/
namespace Go.Proofs.YtmkpjiahkepigaaGreat
open Go
def slotW (m : Mach) (t : Nat) (n : Node) : Option Int := if n.kind = 1 then some (setV m t n) else if n.kind = 2 ∨ n.kind = 4 then some (m.var n.thing) else none
def memW (m : Mach) (t : Nat) (n : Node) : Option Int := if n.kind = 3 ∨ n.kind = 4 then some (m.val t n.a) else none
def holdW (t : Nat) (n : Node) : Option Int := if n.kind = 5 then some (t : Int) else if n.kind = 6 then some (-1) else none
def prW (m : Mach) (t : Nat) (n : Node) : List (Int × Int) := if n.kind = 7 then [((t : Int), m.val t n.a)] else []
def putS (s : List (List Int)) (t : Nat) (j : Int) : Option Int → List (List Int)
  | none => s
  | some x => s.set t (((s[t]?).getD []).set j.toNat x)
def putM (s : List Int) (i : Int) : Option Int → List Int
  | none => s
  | some x => s.set i.toNat x
theorem act_form (m : Mach) (t : Nat) (n : Node) : actM m t n = ⟨m.at_, putS m.slots t n.slot (slotW m t n), putM m.mem n.thing (memW m t n), putM m.holders n.thing (holdW t n), m.prints ++ prW m t n⟩ := by
  unfold actM slotW memW holdW prW
  by_cases h1 : n.kind = 1
  · simp [h1, Mach.setSlot, putS, putM]
  · by_cases h2 : n.kind = 2
    · simp [h2, Mach.setSlot, putS, putM]
    · by_cases h3 : n.kind = 3
      · simp [h3, Mach.setVar, putS, putM]
      · by_cases h4 : n.kind = 4
        · simp [h4, Mach.setSlot, Mach.setVar, putS, putM]
        · by_cases h5 : n.kind = 5
          · simp [h5, Mach.setHolder, putS, putM]
          · by_cases h6 : n.kind = 6
            · simp [h6, Mach.setHolder, putS, putM]
            · by_cases h7 : n.kind = 7
              · simp [h7, putS, putM]
              · simp [h1, h2, h3, h4, h5, h6, h7, putS, putM]
theorem putS_ne {s : List (List Int)} {a b : Nat} (h : a ≠ b) (j : Int) (o : Option Int) : (putS s a j o)[b]? = s[b]? := by
  cases o with
  | none => rfl
  | some x => exact List.getElem?_set_ne h
theorem putM_ne {s : List Int} {i j : Int} {o : Option Int} (h : o ≠ none → i.toNat ≠ j.toNat) : (putM s i o)[j.toNat]? = s[j.toNat]? := by
  cases o with
  | none => rfl
  | some x => exact List.getElem?_set_ne (h (by simp))
theorem putS_comm {s : List (List Int)} {a b : Nat} (h : a ≠ b) (i j : Int) (o p : Option Int) : putS (putS s a i o) b j p = putS (putS s b j p) a i o := by
  cases o with
  | none => rfl
  | some x =>
    cases p with
    | none => rfl
    | some y =>
      show (s.set a _).set b ((((s.set a _)[b]?).getD []).set _ _) = (s.set b _).set a ((((s.set b _)[a]?).getD []).set _ _)
      rw [List.getElem?_set_ne h, List.getElem?_set_ne (fun e => h e.symm), List.set_comm _ _ h]
theorem putM_comm {s : List Int} {i j : Int} {o p : Option Int} (h : o ≠ none → p ≠ none → i.toNat ≠ j.toNat) : putM (putM s i o) j p = putM (putM s j p) i o := by
  cases o with
  | none => rfl
  | some x =>
    cases p with
    | none => rfl
    | some y => exact List.set_comm _ _ (h (by simp) (by simp))
/-- Nothing that one does is anything to the other. -/
structure Off (x y : Node) : Prop where
  xy : wrB x = true → touchB y = true → x.thing.toNat ≠ y.thing.toNat
  yx : wrB y = true → touchB x = true → y.thing.toNat ≠ x.thing.toNat
  lk : (x.kind = 5 ∨ x.kind = 6) → (y.kind = 5 ∨ y.kind = 6) → x.thing.toNat ≠ y.thing.toNat
  pr : ¬ (x.kind = 7 ∧ y.kind = 7)
theorem Off.symm {x y : Node} (h : Off x y) : Off y x := ⟨h.yx, h.xy, fun h1 h2 e => h.lk h2 h1 e.symm, fun e => h.pr e.symm⟩
/-- Behind a thread's action another one finds what it found. -/
structure SeesAs (m m' : Mach) (b : Nat) (y : Node) : Prop where
  val : ∀ v, m'.val b v = m.val b v
  var : y.kind = 2 ∨ y.kind = 4 → m'.var y.thing = m.var y.thing
  bar : barN m' y = barN m y
theorem sees {m : Mach} {a b : Nat} (hab : a ≠ b) {x y : Node} (h : Off x y) (na : Nat) : SeesAs m { actM m a x with at_ := m.at_.set a na } b y := by
  rw [act_form]
  refine ⟨fun v => ?_, fun hk => ?_, ?_⟩
  · unfold Mach.val Mach.slot
    simp only
    rw [putS_ne hab]
  · unfold Mach.var
    simp only
    rw [putM_ne fun ho => h.xy ?_ ?_]
    · unfold memW at ho
      unfold wrB
      by_cases hq : x.kind = 3 ∨ x.kind = 4
      · exact decide_eq_true hq
      · rw [if_neg hq] at ho; exact absurd rfl ho
    · unfold touchB
      rcases hk with e | e <;> simp [e]
  · unfold barN
    simp only
    by_cases h5 : y.kind = 5
    · rw [putM_ne fun ho => h.lk ?_ (.inl h5)]
      unfold holdW at ho
      by_cases q5 : x.kind = 5
      · exact .inl q5
      · by_cases q6 : x.kind = 6
        · exact .inr q6
        · rw [if_neg q5, if_neg q6] at ho; exact absurd rfl ho
    · simp [h5]
section
variable {m m' : Mach} {b : Nat} {y : Node}
theorem SeesAs.slotW (h : SeesAs m m' b y) : Go.Proofs.YtmkpjiahkepigaaGreat.slotW m' b y = Go.Proofs.YtmkpjiahkepigaaGreat.slotW m b y := by
  unfold Go.Proofs.YtmkpjiahkepigaaGreat.slotW
  have hs : setV m' b y = setV m b y := by unfold setV; simp only [h.val]
  rw [hs]
  by_cases hk : y.kind = 2 ∨ y.kind = 4
  · rw [h.var hk]
  · simp [hk]
theorem SeesAs.memW (h : SeesAs m m' b y) : Go.Proofs.YtmkpjiahkepigaaGreat.memW m' b y = Go.Proofs.YtmkpjiahkepigaaGreat.memW m b y := by unfold Go.Proofs.YtmkpjiahkepigaaGreat.memW; rw [h.val]
theorem SeesAs.prW (h : SeesAs m m' b y) : Go.Proofs.YtmkpjiahkepigaaGreat.prW m' b y = Go.Proofs.YtmkpjiahkepigaaGreat.prW m b y := by unfold Go.Proofs.YtmkpjiahkepigaaGreat.prW; rw [h.val]
theorem SeesAs.next (h : SeesAs m m' b y) : actN m' b y = actN m b y := by unfold actN; rw [h.val]
end
theorem Stands.aside {u : Unit_} {m : Mach} {b : Nat} {g : Graph} {i : Nat} {y : Node} (h : Stands u m b g i y) {a : Nat} (hab : a ≠ b) (x : Node) (na : Nat) : Stands u { actM m a x with at_ := m.at_.set a na } b g i y :=
  ⟨h.gr, (List.getElem?_set_ne hab).trans h.pc, h.nd⟩
/-- The bar of the other one stays. -/
theorem bar_aside {u : Unit_} (hu : RightU u) {m : Mach} (hok : MachOk u m) {a b : Nat} (hab : a ≠ b) {g1 g2 : Graph} {i j : Nat} {x y : Node} (h1 : Stands u m a g1 i x) (h2 : Stands u m b g2 j y) (h : Off x y) (ha : barF u m a = 0) : barF u (stepM u m a) b = barF u m b := by
  rw [h1.bar hok] at ha
  have hk := step_ok hu hok h1 ha
  rw [h1.step hok ha, (h2.aside hab x _).bar hk, h2.bar hok]
  exact (sees hab h _).bar
/-- THE LAW. -/
theorem comm {u : Unit_} (hu : RightU u) {m : Mach} (hok : MachOk u m) {a b : Nat} (hab : a ≠ b) {g1 g2 : Graph} {i j : Nat} {x y : Node} (h1 : Stands u m a g1 i x) (h2 : Stands u m b g2 j y) (h : Off x y) (ha : barF u m a = 0) (hb : barF u m b = 0) :
    stepM u (stepM u m a) b = stepM u (stepM u m b) a := by
  have hba := fun e => hab (Eq.symm e)
  have k1 := bar_aside hu hok hab h1 h2 h ha
  have k2 := bar_aside hu hok hba h2 h1 h.symm hb
  have ha0 := ha
  have hb0 := hb
  rw [h1.bar hok] at ha
  rw [h2.bar hok] at hb
  have okA := step_ok hu hok h1 ha
  have okB := step_ok hu hok h2 hb
  have sA := sees hab h (actN m a x).toNat (m := m)
  have sB := sees hba h.symm (actN m b y).toNat (m := m)
  have e1 := (h2.aside hab x (actN m a x).toNat).step okA (by rw [sA.bar]; exact hb)
  have e2 := (h1.aside hba y (actN m b y).toNat).step okB (by rw [sB.bar]; exact ha)
  rw [h1.step hok ha, h2.step hok hb, e1, e2]
  obtain ⟨M1, hM1⟩ : ∃ M : Mach, ({ actM m a x with at_ := m.at_.set a (actN m a x).toNat } : Mach) = M := ⟨_, rfl⟩
  obtain ⟨M2, hM2⟩ : ∃ M : Mach, ({ actM m b y with at_ := m.at_.set b (actN m b y).toNat } : Mach) = M := ⟨_, rfl⟩
  rw [hM1] at sA ⊢
  rw [hM2] at sB ⊢
  rw [act_form M1 b y, act_form M2 a x, sA.slotW, sA.memW, sA.prW, sA.next, sB.slotW, sB.memW, sB.prW, sB.next]
  rw [act_form m a x] at hM1
  rw [act_form m b y] at hM2
  subst hM1
  subst hM2
  simp only [Mach.mk.injEq]
  refine ⟨List.set_comm _ _ hab, putS_comm hab _ _ _ _, putM_comm fun ho hp => ?_, putM_comm fun ho hp => ?_, ?_⟩
  · have hx : wrB x = true := by
      unfold memW at ho
      unfold wrB
      by_cases hq : x.kind = 3 ∨ x.kind = 4
      · exact decide_eq_true hq
      · rw [if_neg hq] at ho; exact absurd rfl ho
    have hy : touchB y = true := by
      unfold memW at hp
      unfold touchB
      by_cases hq : y.kind = 3 ∨ y.kind = 4
      · rcases hq with e | e <;> simp [e]
      · rw [if_neg hq] at hp; exact absurd rfl hp
    exact h.xy hx hy
  · have hold : ∀ {t : Nat} {n : Node}, holdW t n ≠ none → n.kind = 5 ∨ n.kind = 6 := fun {t n} ho => by
      unfold holdW at ho
      by_cases q5 : n.kind = 5
      · exact .inl q5
      · by_cases q6 : n.kind = 6
        · exact .inr q6
        · rw [if_neg q5, if_neg q6] at ho; exact absurd rfl ho
    exact h.lk (hold ho) (hold hp)
  · by_cases q : x.kind = 7
    · have q2 : y.kind ≠ 7 := fun e => h.pr ⟨q, e⟩
      simp [prW, q2]
    · simp [prW, q]
end Go.Proofs.YtmkpjiahkepigaaGreat
/- What threads that are apart do, in whatever order: the plain law of SharingApart; what a situation's text is made of. -/
namespace Go.Proofs.YtmkpjiahkepigaaGreat
open Go
/-- What was printed are words. -/
def PrI (m : Mach) : Prop := ∀ p ∈ m.prints, i64 p.1 ∧ i64 p.2
theorem PrI.start (u : Unit_) : PrI (startM u) := fun p hp => by simp [startM] at hp
theorem PrI.step {u : Unit_} (hu : RightU u) (huo : UOk u) {m : Mach} (hs : Situ u m) (h : PrI m) (t : Int) : PrI (stepM u m t) := by
  by_cases hb0 : barF u m t = 0
  · obtain ⟨t, rfl, ht⟩ := bar_out hs.ok (by rw [hb0]; decide)
    obtain ⟨g, i, n, hst⟩ := stands_at hs.ok ht
    rw [hst.bar hs.ok] at hb0
    rw [hst.step hs.ok hb0, act_form]
    intro p hp
    simp only at hp
    rcases List.mem_append.1 hp with e | e
    · exact h p e
    · unfold prW at e
      split at e
      · rw [List.mem_singleton] at e
        subst e
        have h8 := hu.threads
        have hno := huo g (List.mem_of_getElem? hst.gr) n (List.mem_of_getElem? hst.nd)
        exact ⟨⟨by show _ ≤ ((t : Nat) : Int); omega, by show ((t : Nat) : Int) ≤ _; omega⟩, hs.mi.val t hno.a⟩
      · cases e
  · rw [(step_not hb0).1]; exact h
theorem runF_pri {u : Unit_} (hu : RightU u) (huo : UOk u) : ∀ (l : List Int) {m : Mach}, Situ u m → PrI m → PrI (runF u m l).1
  | [], _, _, h => h
  | t :: ts, m, hs, h => by
    by_cases hb : barF u m t = 0
    · rw [runF_go ts hb]
      exact runF_pri hu huo ts (hs.step hu huo t) (h.step hu huo hs t)
    · rw [runF_stop ts hb]; exact h
theorem Situ.keyI {u : Unit_} (hu : RightU u) {m : Mach} (hs : Situ u m) (h : PrI m) : KeyI m := by
  refine ⟨fun n hn => ?_, hs.mi, fun x hx => ?_, h⟩
  · obtain ⟨t, ht⟩ := List.getElem?_of_mem hn
    have hl := (List.getElem?_eq_some_iff.1 ht).1
    rw [hs.ok.at_] at hl
    have h1 : u.graphs[t]? = some u.graphs[t] := List.getElem?_eq_getElem hl
    have h2 := hs.ok.node t _ _ h1 ht
    have h3 := (hu.graphs _ (List.mem_of_getElem? h1)).whole.most
    omega
  · obtain ⟨l, hl⟩ := List.getElem?_of_mem hx
    have h8 := hu.threads
    rcases hs.come.who l x hl with e | e
    · subst e; exact ⟨by omega, by omega⟩
    · exact ⟨by omega, by omega⟩
/-- Who holds a lock has a lock node of it that is reached. -/
def LockBy (u : Unit_) (m : Mach) : Prop := ∀ (l t : Nat), m.holders[l]? = some (t : Int) → ∃ g i n, u.graphs[t]? = some g ∧ g.nodes[i]? = some n ∧ ReachC g (-1) i ∧ n.kind = 5 ∧ n.thing = (l : Int)
theorem LockBy.start (u : Unit_) : LockBy u (startM u) := fun l t h => by
  simp only [startM, List.getElem?_map] at h
  cases hq : u.locks[l]? with
  | none => rw [hq] at h; cases h
  | some x => rw [hq] at h; injection h with h; have h : (-1 : Int) = t := h; omega
theorem LockBy.step {u : Unit_} (hu : RightU u) {m : Mach} (hs : Situ u m) (h : LockBy u m) (t : Int) : LockBy u (stepM u m t) := by
  by_cases hb0 : barF u m t = 0
  · obtain ⟨t, rfl, ht⟩ := bar_out hs.ok (by rw [hb0]; decide)
    obtain ⟨g, i, n, hst⟩ := stands_at hs.ok ht
    rw [hst.bar hs.ok] at hb0
    rw [hst.step hs.ok hb0]
    intro l q hq
    simp only [actM_holders] at hq
    have hth := (ndF ((hu.graphs g (List.mem_of_getElem? hst.gr)).nodes n (List.mem_of_getElem? hst.nd))).lock
    by_cases h5 : n.kind = 5
    · rw [if_pos h5, List.getElem?_set] at hq
      have h0 := hth (.inl h5)
      split at hq
      · rename_i e
        split at hq
        · injection hq with hq
          obtain rfl : t = q := by omega
          exact ⟨g, i, n, hst.gr, hst.nd, hs.come.reach t g i hst.gr hst.pc, h5, by omega⟩
        · cases hq
      · exact h l q hq
    · rw [if_neg h5] at hq
      by_cases h6 : n.kind = 6
      · rw [if_pos h6, List.getElem?_set] at hq
        split at hq
        · split at hq
          · injection hq with hq; omega
          · cases hq
        · exact h l q hq
      · rw [if_neg h6] at hq
        exact h l q hq
  · rw [(step_not hb0).1]; exact h
open Classical in
theorem com_no {x y : Graph} {p q : Node → Bool} (h : comP x y p q = false) {i j : Nat} {n k : Node} (hn : x.nodes[i]? = some n) (hi : ReachC x (-1) i) (hk : y.nodes[j]? = some k) (hj : ReachC y (-1) j) (hp : p n = true) (hq : q k = true) : n.thing ≠ k.thing := by
  intro e
  have : comP x y p q = true := by
    unfold comP
    exact decide_eq_true ⟨n.thing, anyN_yes hn hi (by simp [atP, hp]), anyN_yes hk hj (by simp [atP, hq, e])⟩
  rw [h] at this
  cases this
theorem apart_off {u : Unit_} (hu : RightU u) {m : Mach} (hs : Situ u m) (hL : LockBy u m) {a b : Nat} {g1 g2 : Graph} {i j : Nat} {x y : Node} (h1 : Stands u m a g1 i x) (h2 : Stands u m b g2 j y) (h : apartG g1 g2 = true) : Off x y := by
  unfold apartG at h
  simp only [Bool.and_eq_true, Bool.not_eq_true', Bool.or_eq_false_iff] at h
  obtain ⟨⟨c1, c2, c3, c4⟩, c5⟩ := h
  have r1 := hs.come.reach a g1 i h1.gr h1.pc
  have r2 := hs.come.reach b g2 j h2.gr h2.pc
  have n1 := ndF ((hu.graphs g1 (List.mem_of_getElem? h1.gr)).nodes x (List.mem_of_getElem? h1.nd))
  have n2 := ndF ((hu.graphs g2 (List.mem_of_getElem? h2.gr)).nodes y (List.mem_of_getElem? h2.nd))
  have tch : ∀ {n : Node}, touchB n = true → n.kind = 2 ∨ n.kind = 3 ∨ n.kind = 4 := fun {n} h => by unfold touchB at h; simpa using h
  have wtch : ∀ {n : Node}, wrB n = true → n.kind = 2 ∨ n.kind = 3 ∨ n.kind = 4 := fun {n} h => by unfold wrB at h; have := of_decide_eq_true h; omega
  have lkA : ∀ {n : Node} {g : Graph} {t k : Nat}, Stands u m t g k n → n.kind = 6 → ∃ k' n', g.nodes[k']? = some n' ∧ ReachC g (-1) k' ∧ n'.kind = 5 ∧ n'.thing = n.thing := fun {n g t k} hst h6 => by
    have hh := hs.come.unlock hu hst h6
    obtain ⟨g', i', n', q1, q2, q3, q4, q5⟩ := hL _ _ hh
    rw [hst.gr] at q1
    injection q1 with q1
    subst q1
    have hth := (ndF ((hu.graphs g (List.mem_of_getElem? hst.gr)).nodes n (List.mem_of_getElem? hst.nd))).lock (.inr h6)
    exact ⟨i', n', q2, q3, q4, by rw [q5]; omega⟩
  refine ⟨fun w1 t2 e => ?_, fun w2 t1 e => ?_, fun k1 k2 e => ?_, fun ⟨k1, k2⟩ => ?_⟩
  · have v1 := n1.var (wtch w1)
    have v2 := n2.var (tch t2)
    have e : x.thing = y.thing := by omega
    rw [touch_rw, Bool.or_eq_true] at t2
    rcases t2 with t2 | t2
    · exact com_no c1 h1.nd r1 h2.nd r2 w1 t2 e
    · exact com_no c3 h1.nd r1 h2.nd r2 w1 t2 e
  · have v1 := n1.var (tch t1)
    have v2 := n2.var (wtch w2)
    have e : x.thing = y.thing := by omega
    rw [touch_rw, Bool.or_eq_true] at t1
    rcases t1 with t1 | t1
    · exact com_no c2 h1.nd r1 h2.nd r2 t1 w2 e
    · exact com_no c3 h1.nd r1 h2.nd r2 t1 w2 e
  · have v1 := n1.lock k1
    have v2 := n2.lock k2
    have e : x.thing = y.thing := by omega
    have l1 : ∃ k' n', g1.nodes[k']? = some n' ∧ ReachC g1 (-1) k' ∧ n'.kind = 5 ∧ n'.thing = x.thing := by
      rcases k1 with k1 | k1
      · exact ⟨i, x, h1.nd, r1, k1, rfl⟩
      · exact lkA h1 k1
    have l2 : ∃ k' n', g2.nodes[k']? = some n' ∧ ReachC g2 (-1) k' ∧ n'.kind = 5 ∧ n'.thing = y.thing := by
      rcases k2 with k2 | k2
      · exact ⟨j, y, h2.nd, r2, k2, rfl⟩
      · exact lkA h2 k2
    obtain ⟨p, n, p1, p2, p3, p4⟩ := l1
    obtain ⟨q, k, q1, q2, q3, q4⟩ := l2
    exact com_no c4 p1 p2 q1 q2 (by unfold lkB; exact decide_eq_true p3) (by unfold lkB; exact decide_eq_true q3) (by rw [p4, q4]; exact e)
  · have a1 : anyN g1 prB = true := anyN_yes h1.nd r1 (by unfold prB; exact decide_eq_true k1)
    have a2 : anyN g2 prB = true := anyN_yes h2.nd r2 (by unfold prB; exact decide_eq_true k2)
    rw [a1, a2] at c5
    cases c5
theorem runF_snoc {u : Unit_} {t : Int} : ∀ (l : List Int) {m m' : Mach}, runF u m l = (m', l.length, 0) → barF u m' t = 0 → runF u m (l ++ [t]) = (stepM u m' t, l.length + 1, 0)
  | [], m, m', h, hb => by
    simp only [runF, Prod.mk.injEq] at h
    obtain ⟨rfl, -⟩ := h
    rw [List.nil_append, runF_go [] hb]; rfl
  | q :: l, m, m', h, hb => by
    by_cases hq : barF u m q = 0
    · rw [runF_go l hq] at h
      have h' : runF u (stepM u m q) l = (m', l.length, 0) := by
        simp only [Prod.mk.injEq, List.length_cons] at h
        refine Prod.ext h.1 (Prod.ext ?_ h.2.2)
        have := h.2.1
        show (runF u (stepM u m q) l).2.1 = l.length
        omega
      rw [List.cons_append, runF_go _ hq, runF_snoc l h' hb]
      rfl
    · rw [runF_stop l hq] at h
      simp only [Prod.mk.injEq, List.length_cons] at h
      omega
theorem slide {u : Unit_} (hu : RightU u) (huo : UOk u) {a b : Nat} (hab : a ≠ b) {g1 g2 : Graph} (ga : u.graphs[a]? = some g1) (gb : u.graphs[b]? = some g2) (hG : apartG g1 g2 = true) : ∀ (fs : List Int) {m m' : Mach}, (∀ x ∈ fs, x = (a : Int)) → Situ u m → LockBy u m → runF u m fs = (m', fs.length, 0) → barF u m' b = 0 →
    barF u m b = 0 ∧ runF u (stepM u m b) fs = (stepM u m' b, fs.length, 0)
  | [], m, m', _, _, _, h, hb => by
    simp only [runF, Prod.mk.injEq] at h
    obtain ⟨rfl, -⟩ := h
    exact ⟨hb, rfl⟩
  | q :: l, m, m', hf, hs, hL, h, hb => by
    obtain rfl := hf q (by simp)
    by_cases hq : barF u m a = 0
    · rw [runF_go l hq] at h
      have h' : runF u (stepM u m a) l = (m', l.length, 0) := by
        simp only [Prod.mk.injEq, List.length_cons] at h
        refine Prod.ext h.1 (Prod.ext ?_ h.2.2)
        have := h.2.1
        show (runF u (stepM u m a) l).2.1 = l.length
        omega
      obtain ⟨k1, k2⟩ := slide hu huo hab ga gb hG l (fun x hx => hf x (by simp [hx])) (hs.step hu huo a) (hL.step hu hs a) h' hb
      obtain ⟨g1', i, x, h1⟩ := stands_at hs.ok (t := a) (List.getElem?_eq_some_iff.1 ga).1
      obtain ⟨g2', j, y, h2⟩ := stands_at hs.ok (t := b) (List.getElem?_eq_some_iff.1 gb).1
      obtain rfl : g1 = g1' := Option.some.inj (ga.symm.trans h1.gr)
      obtain rfl : g2 = g2' := Option.some.inj (gb.symm.trans h2.gr)
      have hO := apart_off hu hs hL h1 h2 hG
      rw [bar_aside hu hs.ok hab h1 h2 hO hq] at k1
      have hqb : barF u (stepM u m b) a = 0 := by rw [bar_aside hu hs.ok (fun e => hab e.symm) h2 h1 hO.symm k1]; exact hq
      refine ⟨k1, ?_⟩
      rw [runF_go l hqb, ← comm hu hs.ok hab h1 h2 hO hq k1, k2]
      rfl
    · rw [runF_stop l hq] at h
      simp only [Prod.mk.injEq, List.length_cons] at h
      omega
/-- What the law has gathered: what a did, what b did; by itself one of them does the same behind the other. -/
structure ApI (u : Unit_) (a b : Nat) (m0 m : Mach) (fs ss : List Int) : Prop where
  fa : ∀ x ∈ fs, x = (a : Int)
  sb : ∀ x ∈ ss, x = (b : Int)
  situ : Situ u m
  lock : LockBy u m
  pri : PrI m
  runs : ∃ mb, runF u m0 ss = (mb, ss.length, 0) ∧ runF u mb fs = (m, fs.length, 0) ∧ Situ u mb ∧ LockBy u mb ∧ PrI mb
theorem ApI.start {u : Unit_} {a b : Nat} {m0 : Mach} (hs : Situ u m0) (hL : LockBy u m0) (hP : PrI m0) : ApI u a b m0 m0 [] [] :=
  ⟨fun x h => (by cases h), fun x h => (by cases h), hs, hL, hP, m0, rfl, rfl, hs, hL, hP⟩
theorem ApI.stepA {u : Unit_} (hu : RightU u) (huo : UOk u) {a b : Nat} {m0 m : Mach} {fs ss : List Int} (h : ApI u a b m0 m fs ss) (hb : barF u m a = 0) : ApI u a b m0 (stepM u m a) (fs ++ [(a : Int)]) ss := by
  obtain ⟨mb, k1, k2, k3, k4, k5⟩ := h.runs
  refine ⟨fun x hx => ?_, h.sb, h.situ.step hu huo a, h.lock.step hu h.situ a, h.pri.step hu huo h.situ a, mb, k1, ?_, k3, k4, k5⟩
  · rcases List.mem_append.1 hx with e | e
    · exact h.fa x e
    · simpa using e
  · rw [runF_snoc fs k2 hb]; simp
theorem ApI.stepB {u : Unit_} (hu : RightU u) (huo : UOk u) {a b : Nat} (hab : a ≠ b) {g1 g2 : Graph} (ga : u.graphs[a]? = some g1) (gb : u.graphs[b]? = some g2) (hG : apartG g1 g2 = true) {m0 m : Mach} {fs ss : List Int} (h : ApI u a b m0 m fs ss) (hb : barF u m b = 0) : ApI u a b m0 (stepM u m b) fs (ss ++ [(b : Int)]) := by
  obtain ⟨mb, k1, k2, k3, k4, k5⟩ := h.runs
  obtain ⟨q1, q2⟩ := slide hu huo hab ga gb hG fs h.fa k3 k4 k2 hb
  refine ⟨h.fa, fun x hx => ?_, h.situ.step hu huo b, h.lock.step hu h.situ b, h.pri.step hu huo h.situ b, stepM u mb b, ?_, q2, k3.step hu huo b, k4.step hu k3 b, k5.step hu huo k3 b⟩
  · rcases List.mem_append.1 hx with e | e
    · exact h.sb x e
    · simpa using e
  · rw [runF_snoc ss k1 q1]; simp
end Go.Proofs.YtmkpjiahkepigaaGreat
