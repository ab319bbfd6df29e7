import Derived.Test.YtmkpjiahkepigaaGreatP92
import Derived.Test.YtmkpjiahkepigaaGreatP62
import Derived.Test.YtmkpjiahkepigaaGreatP71
/- The reference's machine where it is the call's own: rows that may be written. -/
namespace Go.Proofs.YtmkpjiahkepigaaGreat
open Go Go.RowKit
structure RefO (w : World) (base : Nat) (va vo vm vh vp : Value) (vs : List Value) (m : Mach) : Prop where
  at_ : w.ownsRow base 3 1 va m.at_.length (natsV m.at_)
  mem : w.ownsRow base 2 1 vm m.mem.length (i64sV m.mem)
  hold : w.ownsRow base 3 1 vh m.holders.length (i64sV m.holders)
  prints : w.ownsRow base 77 2 vp m.prints.length (printsV m.prints)
  outer : w.ownsRow base 32 1 vo m.slots.length vs
  slot : ∀ (t : Nat) (v : Value) (l : List Int), vs[t]? = some v → m.slots[t]? = some l → w.ownsRow base 2 1 v l.length (i64sV l)
  apart : ∀ (t t' : Nat) (v v' : Value) (k : Nat), vs[t]? = some v → vs[t']? = some v' → v.ownBlock = some k → v'.ownBlock = some k → t = t'
  memsl : ∀ (t : Nat) (v : Value) (k : Nat), vs[t]? = some v → vm.ownBlock = some k → v.ownBlock ≠ some k
  athold : ∀ k, va.ownBlock = some k → vh.ownBlock ≠ some k
section
variable {w w' : World} {base : Nat} {va vo vm vh vp : Value} {vs : List Value} {u : Unit_} {m : Mach}
theorem RefO.len (h : RefO w base va vo vm vh vp vs m) : vs.length = m.slots.length := by have := h.outer.1; omega
theorem ownsRow_below {B : Nat} {e : TypeId} {size n : Nat} {v : Value} {xs : List Value} (h : w.ownsRow base e size v n xs) (hf : Below B w w') (hv : ∀ b, v.ownBlock = some b → b < B) : w'.ownsRow base e size v n xs := by
  refine ⟨h.1, ?_⟩
  rcases h.2 with k | ⟨g, cap, cur, rfl, k2, k3, k4⟩
  · exact .inl k
  · exact .inr ⟨g, cap, cur, rfl, k2, (hf.block g (hv g rfl)).trans k3, k4⟩
theorem RefO.below (h : RefO w base va vo vm vh vp vs m) (hf : Below w.heap.size w w') : RefO w' base va vo vm vh vp vs m where
  at_ := ownsRow_below h.at_ hf fun b hb => (h.at_.lt b hb).2
  mem := ownsRow_below h.mem hf fun b hb => (h.mem.lt b hb).2
  hold := ownsRow_below h.hold hf fun b hb => (h.hold.lt b hb).2
  prints := ownsRow_below h.prints hf fun b hb => (h.prints.lt b hb).2
  outer := ownsRow_below h.outer hf fun b hb => (h.outer.lt b hb).2
  slot := fun t v l h1 h2 => ownsRow_below (h.slot t v l h1 h2) hf fun b hb => ((h.slot t v l h1 h2).lt b hb).2
  apart := h.apart
  memsl := h.memsl
  athold := h.athold
/-- What lies short of base is written. -/
theorem RefO.fr (h : RefO w base va vo vm vh vp vs m) {S : Nat → Prop} (hf : FrW S w w') (hS : ∀ b, base ≤ b → ¬ S b) : RefO w' base va vo vm vh vp vs m where
  at_ := ownsRow_fr h.at_ hf fun b hb => hS b (own_lt h.at_ b hb)
  mem := ownsRow_fr h.mem hf fun b hb => hS b (own_lt h.mem b hb)
  hold := ownsRow_fr h.hold hf fun b hb => hS b (own_lt h.hold b hb)
  prints := ownsRow_fr h.prints hf fun b hb => hS b (own_lt h.prints b hb)
  outer := ownsRow_fr h.outer hf fun b hb => hS b (own_lt h.outer b hb)
  slot := fun t v l h1 h2 => ownsRow_fr (h.slot t v l h1 h2) hf fun b hb => hS b (own_lt (h.slot t v l h1 h2) b hb)
  apart := h.apart
  memsl := h.memsl
  athold := h.athold
theorem own_slp {α : Type} {RR : CM → Nat → Nat → α → Prop} {f : α → List Value} {size n : Nat} {e : TypeId} {v : Value} {l : List α} (hR : RowR RR f size) (h : w.ownsRow base e size v n (l.map f).flatten) (hn : n = l.length) : Sl RR size (part w base w.heap.size) v l := by
  have hacc : Acc (fun _ cs x => cs = f x) size e base (fun _ => False) v l w := by
    refine ⟨⟨l.map f, by rw [← hn]; exact h, by simp, fun r hr => ?_, fun i r x hi hx => ?_⟩, fun _ h => h.elim⟩
    · obtain ⟨x, _, rfl⟩ := List.mem_map.1 hr
      exact hR.len x
    · rw [List.getElem?_map, hx] at hi
      injection hi with hi
      exact hi.symm
  haveI : MonoV (fun (_ : CM) cs (x : α) => cs = f x) := ⟨fun _ h => h⟩
  exact (hacc.done (Nat.le_refl _) (Nat.le_refl _)).imp' fun m b o x hx => hR.up _ _ _ _ (Cells_plain hx)
theorem own_intsp {n : Nat} {t : TypeId} {v : Value} {l : List Int} (h : w.ownsRow base t 1 v n (l.map (Value.int .i64))) : Ints (part w base w.heap.size) v l := by
  have hl : n = l.length := by have := h.1; simpa using this.symm
  rw [flat1] at h
  exact own_slp row_int h hl
/-- What was made is read. -/
theorem RefO.refS (h : RefO w base va vo vm vh vp vs m) {su lu gu : Value} {S : Nat → Prop} (hu : UnitV (on w S) [su, lu, gu] u) (hS : ∀ b, base ≤ b → S b) : RefS (on w S) su lu gu va vo vm vh vp u m := by
  have hp : (part w base w.heap.size).le (on w S) := part_on w fun b h _ => hS b h
  refine ⟨hu, ?_, ?_, (own_intsp h.mem).mono hp, (own_intsp h.hold).mono hp, (own_slp row_print h.prints rfl).mono hp⟩
  · refine (own_intsp (n := m.at_.length) (t := 3) ?_).mono hp
    rw [List.map_map]; exact h.at_
  · have hl := h.len
    rcases id h.outer.2 with ⟨rfl, h0⟩ | ⟨g, cap, cur, rfl, hb, hh, hnc, hcm, _⟩
    · exact ⟨none, 0, by rw [h0], by omega, ⟨by simp [maxLen], fun _ => rfl⟩, .inl (List.eq_nil_of_length_eq_zero h0)⟩
    · refine ⟨_, cap, rfl, hnc, ⟨hcm, fun h => by cases h⟩, .inr ⟨g, 0, rfl, fun i x hx => ?_⟩⟩
      have hi : i < m.slots.length := (List.getElem?_eq_some_iff.1 hx).1
      obtain ⟨v, hv⟩ : ∃ v, vs[i]? = some v := ⟨_, List.getElem?_eq_getElem (by omega)⟩
      refine ⟨v, on_mk ?_ (hS g hb), (own_intsp (h.slot i v x hv hx)).mono hp⟩
      rw [Nat.zero_add, Nat.mul_one, h.outer.cellAt i (by omega)]
      exact hv
theorem own_nes {b b' n n' s s' : Nat} {t t' : TypeId} {v v' : Value} {xs xs' : List Value} {k : Nat} (h : w.ownsRow b t s v n xs) (h' : w.ownsRow b' t' s' v' n' xs') (hne : t ≠ t') (hk : v'.ownBlock = some k) : v.ownBlock ≠ some k := by
  obtain ⟨cur, hc⟩ := own_in h' hk
  exact own_ne h hc hne
/-- A slot is written. -/
theorem RefO.setSlot (h : RefO w base va vo vm vh vp vs m) {t k j n c : Nat} {l : List Int} (hv : vs[t]? = some (.slice (some ⟨k, 0, none⟩) n c)) (hl : m.slots[t]? = some l) (x : Int) :
    RefO (w.setCell ⟨k, j, none⟩ (.int .i64 x)) base va vo vm vh vp vs { m with slots := m.slots.set t (l.set j x) } := by
  have hs := h.slot t _ l hv hl
  have hn : n = l.length := by obtain ⟨A, c', he, _⟩ := own_slice hs; injection he
  subst hn
  refine ⟨own_far h.at_ (own_nes h.at_ hs (by decide) rfl), own_far h.mem fun e => h.memsl t _ k hv e rfl, own_far h.hold (own_nes h.hold hs (by decide) rfl), own_far h.prints (own_nes h.prints hs (by decide) rfl), ?_, fun t' v' l' h1 h2 => ?_, h.apart, h.memsl, h.athold⟩
  · rw [set_length]; exact own_far h.outer (own_nes h.outer hs (by decide) rfl)
  · rw [List.getElem?_set] at h2
    by_cases e : t = t'
    · subst e
      rw [hv] at h1
      injection h1 with h1
      subst h1
      rw [if_pos rfl, if_pos (List.getElem?_eq_some_iff.1 hl).1] at h2
      injection h2 with h2
      subst h2
      rw [i64sV_set, set_length]
      exact (hs.stored j _).1
    · rw [if_neg e] at h2
      exact own_far (h.slot t' v' l' h1 h2) fun e2 => e (h.apart t t' _ _ k hv h1 rfl e2)
/-- A shared variable is written. -/
theorem RefO.setVar (h : RefO w base va vo vm vh vp vs m) {k n c j : Nat} (hv : vm = .slice (some ⟨k, 0, none⟩) n c) (x : Int) :
    RefO (w.setCell ⟨k, j, none⟩ (.int .i64 x)) base va vo vm vh vp vs { m with mem := m.mem.set j x } := by
  have hk : vm.ownBlock = some k := by rw [hv]; rfl
  refine ⟨own_far h.at_ (own_nes h.at_ h.mem (by decide) hk), ?_, own_far h.hold (own_nes h.hold h.mem (by decide) hk), own_far h.prints (own_nes h.prints h.mem (by decide) hk), own_far h.outer (own_nes h.outer h.mem (by decide) hk), fun t' v' l' h1 h2 => own_far (h.slot t' v' l' h1 h2) (h.memsl t' v' k h1 hk), h.apart, h.memsl, h.athold⟩
  have hs := h.mem
  have hn : n = m.mem.length := by obtain ⟨A, c', he, _⟩ := own_slice hs; rw [hv] at he; injection he
  subst hn
  rw [hv] at hs ⊢
  rw [i64sV_set, set_length]
  exact (hs.stored j _).1
/-- A holder is written. -/
theorem RefO.setHolder (h : RefO w base va vo vm vh vp vs m) {k n c j : Nat} (hv : vh = .slice (some ⟨k, 0, none⟩) n c) (x : Int) :
    RefO (w.setCell ⟨k, j, none⟩ (.int .i64 x)) base va vo vm vh vp vs { m with holders := m.holders.set j x } := by
  have hk : vh.ownBlock = some k := by rw [hv]; rfl
  refine ⟨own_far h.at_ (fun e => h.athold k e hk), own_far h.mem (own_nes h.mem h.hold (by decide) hk), ?_, own_far h.prints (own_nes h.prints h.hold (by decide) hk), own_far h.outer (own_nes h.outer h.hold (by decide) hk), fun t' v' l' h1 h2 => own_far (h.slot t' v' l' h1 h2) (own_nes (h.slot t' v' l' h1 h2) h.hold (by decide) hk), h.apart, h.memsl, h.athold⟩
  have hs := h.hold
  have hn : n = m.holders.length := by obtain ⟨A, c', he, _⟩ := own_slice hs; rw [hv] at he; injection he
  subst hn
  rw [hv] at hs ⊢
  rw [i64sV_set, set_length]
  exact (hs.stored j _).1
/-- Where a thread stands is written. -/
theorem RefO.setAt (h : RefO w base va vo vm vh vp vs m) {k n c j : Nat} (hv : va = .slice (some ⟨k, 0, none⟩) n c) (x : Nat) :
    RefO (w.setCell ⟨k, j, none⟩ (.int .i64 x)) base va vo vm vh vp vs { m with at_ := m.at_.set j x } := by
  have hk : va.ownBlock = some k := by rw [hv]; rfl
  refine ⟨?_, own_far h.mem (own_nes h.mem h.at_ (by decide) hk), own_far h.hold (fun e => h.athold k hk e), own_far h.prints (own_nes h.prints h.at_ (by decide) hk), own_far h.outer (own_nes h.outer h.at_ (by decide) hk), fun t' v' l' h1 h2 => own_far (h.slot t' v' l' h1 h2) (own_nes (h.slot t' v' l' h1 h2) h.at_ (by decide) hk), h.apart, h.memsl, h.athold⟩
  have hs := h.at_
  have hn : n = m.at_.length := by obtain ⟨A, c', he, _⟩ := own_slice hs; rw [hv] at he; injection he
  subst hn
  rw [hv] at hs ⊢
  rw [natsV_set, set_length]
  exact (hs.stored j _).1
/-- Another block is written. -/
theorem RefO.far (h : RefO w base va vo vm vh vp vs m) {g : Nat} {T : TypeId} {cs : List Value} (hg : Blk w g T cs) (hT : T ≠ 3 ∧ T ≠ 2 ∧ T ≠ 77 ∧ T ≠ 32) (j : Nat) (x : Value) : RefO (w.setCell ⟨g, j, none⟩ x) base va vo vm vh vp vs m :=
  ⟨own_far h.at_ (own_ne h.at_ hg hT.1.symm), own_far h.mem (own_ne h.mem hg hT.2.1.symm), own_far h.hold (own_ne h.hold hg hT.1.symm), own_far h.prints (own_ne h.prints hg hT.2.2.1.symm), own_far h.outer (own_ne h.outer hg hT.2.2.2.symm),
    fun t' v' l' h1 h2 => own_far (h.slot t' v' l' h1 h2) (own_ne (h.slot t' v' l' h1 h2) hg hT.2.1.symm), h.apart, h.memsl, h.athold⟩
theorem own_grown {b n s : Nat} {t : TypeId} {v : Value} {xs : List Value} (h : w.ownsRow b t s v n xs) {row : Option Nat} (hg : w.grownBy w' row) (hne : ∀ k, v.ownBlock = some k → row ≠ some k) : w'.ownsRow b t s v n xs :=
  ownsRow_fr h (FrW.grown (S := fun q => row = some q) hg fun _k e => e) fun q hq e => hne q hq e
/-- Behind an append to what was printed. -/
theorem RefO.setPrints (h : RefO w base va vo vm vh vp vs m) {vp' : Value} {p : Int × Int} (hg : w.grownBy w' vp.ownBlock) (ho : w'.ownsRow base 77 2 vp' (m.prints.length + 1) (printsV m.prints ++ [.int .i64 p.1, .int .i64 p.2])) :
    RefO w' base va vo vm vh vp' vs { m with prints := m.prints ++ [p] } := by
  have hF : FrW (fun b => vp.ownBlock = some b) w w' := FrW.grown hg fun k e => e
  have far : ∀ {n s : Nat} {t : TypeId} {v : Value} {xs : List Value}, w.ownsRow base t s v n xs → t ≠ 77 → w'.ownsRow base t s v n xs := fun k hne => ownsRow_fr k hF fun b hb e => own_nes k h.prints hne e hb
  refine ⟨far h.at_ (by decide), far h.mem (by decide), far h.hold (by decide), ?_, far h.outer (by decide), fun t' v' l' h1 h2 => far (h.slot t' v' l' h1 h2) (by decide), h.apart, h.memsl, h.athold⟩
  have : printsV (m.prints ++ [p]) = printsV m.prints ++ [.int .i64 p.1, .int .i64 p.2] := by simp [printsV]
  rw [this, List.length_append, List.length_singleton]
  exact ho
end
end Go.Proofs.YtmkpjiahkepigaaGreat
/- A class of worlds for a region whose acting operations come one behind another: what each leaves is said by its place in the row. -/
namespace Go.Proofs.YtmkpjiahkepigaaGreat
open Go Go.RowKit
/-- ids: the acting operations in their order, the first nv of them have answers; St j l x: behind the first j of them, their answers being l. -/
def cSeq (ids : List Nat) (nv : Nat) (St : Nat → List Value → World → Prop) : WCls := fun D A x =>
  ∃ j, j ≤ ids.length ∧ (∀ (p i : Nat), ids[p]? = some i → D i = decide (p < j)) ∧ St j ((ids.take (min j nv)).map A) x
theorem actUpon_mono {P : Program} {N N' : Value → World → Prop} (h : ∀ v w, N v w → N' v w) : ∀ {r : Result Next}, actUpon P N r → actUpon P N' r := by
  intro r hr
  cases r with
  | ok n w =>
    cases n with
    | value u => exact h _ _ hr
    | skip => exact h _ _ hr
    | enter f args => exact Calls.mono hr fun e w'' ⟨v, e1, e2⟩ => ⟨v, e1, h _ _ e2⟩
    | _ => exact hr
  | _ => exact hr
section
variable {P : Program} {ops : Array Oper} {act : List Nat} {ids : List Nat} {nv : Nat} {St : Nat → List Value → World → Prop}
theorem cSeq_start {W : World} (h : St 0 [] W.drew) (A : Nat → Value) : cSeq ids nv St (fun _ => false) A W.drew := ⟨0, Nat.zero_le _, fun p i _ => by simp, by simpa using h⟩
theorem cSeq_hq (hi : ids.all (fun i => act.contains i) = true) : ∀ D A w k, act.contains k = false → cSeq ids nv St D A w → cSeq ids nv St (upD D k) A w := fun D A w k hk ⟨j, h1, h2, h3⟩ =>
  ⟨j, h1, fun p i hp => by rw [upD_act hk (List.all_eq_true.1 hi i (List.mem_of_getElem? hp))]; exact h2 p i hp, h3⟩
theorem cSeq_hA (hi : ids.all (fun i => act.contains i) = true) (hd : (ids.take nv).all (fun i => (dstOf ops i).isSome) = true) : ∀ D A A' w, (∀ k, act.contains k = true → D k = true → dstOf ops k ≠ none → A k = A' k) → cSeq ids nv St D A w → cSeq ids nv St D A' w := fun D A A' w hA ⟨j, h1, h2, h3⟩ => by
  refine ⟨j, h1, h2, ?_⟩
  have e : (ids.take (min j nv)).map A' = (ids.take (min j nv)).map A := by
    refine List.map_congr_left fun i hm => ?_
    obtain ⟨p, hp⟩ := List.getElem?_of_mem hm
    rw [List.getElem?_take] at hp
    split at hp
    · rename_i hlt
      refine (hA i (List.all_eq_true.1 hi i (List.mem_of_getElem? hp)) ?_ ?_).symm
      · rw [h2 p i hp]; simp; omega
      · have hm2 : i ∈ ids.take nv := List.mem_of_getElem? (i := p) (by rw [List.getElem?_take, if_pos (by omega)]; exact hp)
        have := List.all_eq_true.1 hd i hm2
        intro e
        rw [e] at this
        cases this
    · cases hp
  rw [e]; exact h3
/-- The place at which a class stands, if operation number p has come up and the next one has not. -/
theorem cSeq_step (hnd : ids.Nodup) {p i : Nat} (hi : ids[p]? = some i) {o : Oper} {a : Act} {D : Nat → Bool} {A : Nat → Value} {x : World} (hD : D i = false) (hp : ∀ i', 0 < p → ids[p - 1]? = some i' → D i' = true) (h : cSeq ids nv St D A x)
    (hs : St p ((ids.take (min p nv)).map A) x → actAtW P o a x fun v w' => St (p + 1) ((ids.take (min p nv)).map A ++ (if p < nv then [v] else [])) w') : actAtW P o a x (fun v w' => cSeq ids nv St (upD D i) (upV A i v) w') := by
  obtain ⟨j, h1, h2, h3⟩ := h
  have hlt := (List.getElem?_eq_some_iff.1 hi).1
  have e1 : ¬ p < j := by have := h2 p i hi; rw [hD] at this; simpa using this.symm
  have e2 : p ≤ j := by
    by_cases h0 : p = 0
    · omega
    · have hq : ids[p - 1]? = some ids[p - 1] := List.getElem?_eq_getElem (by omega)
      have := h2 _ _ hq
      rw [hp _ (by omega) hq] at this
      have := of_decide_eq_true this.symm
      omega
  obtain rfl : j = p := by omega
  refine actUpon_mono (fun v w' hv => ⟨j + 1, hlt, fun q k hq => ?_, ?_⟩) (hs h3)
  · by_cases e : k = i
    · subst e
      rw [upD_same]
      have := (List.getElem?_inj (List.getElem?_eq_some_iff.1 hq).1 hnd).1 (hq.trans hi.symm)
      simp; omega
    · rw [upD_ne _ e, h2 q k hq]
      have : q ≠ j := fun e2 => e (by rw [e2, hi] at hq; injection hq with hq; exact hq.symm)
      simp; omega
  · have hfar : ∀ n, n ≤ j → (ids.take n).map (upV A i v) = (ids.take n).map A := fun n hn => by
      refine List.map_congr_left fun k hk => ?_
      obtain ⟨q, hq⟩ := List.getElem?_of_mem hk
      rw [List.getElem?_take] at hq
      split at hq
      · rename_i hqn
        have : k ≠ i := fun e => by
          have := (List.getElem?_inj (List.getElem?_eq_some_iff.1 hq).1 hnd).1 (hq.trans (by rw [e, hi]))
          omega
        simp [upV, this]
      · cases hq
    by_cases hn : j < nv
    · rw [if_pos hn] at hv
      have e4 : min j nv = j := by omega
      have e5 : min (j + 1) nv = j + 1 := by omega
      rw [e4] at hv
      rw [e5, List.take_succ_eq_append_getElem hlt, List.map_append, hfar j (Nat.le_refl _)]
      have : ids[j] = i := by have := (List.getElem?_eq_some_iff.1 hi).2; exact this
      rw [this]
      simpa [upV] using hv
    · rw [if_neg hn, List.append_nil] at hv
      have e4 : min j nv = nv := by omega
      have e5 : min (j + 1) nv = nv := by omega
      rw [e5, hfar nv (by omega)]
      rw [e4] at hv
      exact hv
/-- What holds of the answers, whichever stage. -/
theorem cSeq_at {p i : Nat} (hi : ids[p]? = some i) {D : Nat → Bool} {A : Nat → Value} {x : World} (hD : D i = true) (h : cSeq ids nv St D A x) : ∃ j, p < j ∧ j ≤ ids.length ∧ St j ((ids.take (min j nv)).map A) x := by
  obtain ⟨j, h1, h2, h3⟩ := h
  have := h2 p i hi
  rw [hD] at this
  exact ⟨j, of_decide_eq_true this.symm, h1, h3⟩
theorem cSeq_end {D : Nat → Bool} {A : Nat → Value} {x : World} (hD : ∀ i ∈ ids, D i = true) (h : cSeq ids nv St D A x) : St ids.length ((ids.take nv).map A) x := by
  obtain ⟨j, h1, h2, h3⟩ := h
  have e : j = ids.length := by
    by_cases h0 : ids.length = 0
    · omega
    · have hq : ids[ids.length - 1]? = some ids[ids.length - 1] := List.getElem?_eq_getElem (by omega)
      have := h2 _ _ hq
      rw [hD _ (List.mem_of_getElem? hq)] at this
      have := of_decide_eq_true this.symm
      omega
  subst e
  have : (ids.take (min ids.length nv)) = ids.take nv := by
    by_cases hc : ids.length ≤ nv
    · rw [show min ids.length nv = ids.length by omega, List.take_of_length_le (Nat.le_refl _), List.take_of_length_le hc]
    · rw [show min ids.length nv = nv by omega]
  rwa [this] at h3
/-- A world of the class stands at some stage; ahead of the last one, if that has not come up. -/
theorem cSeq_world {fin : List Nat} (x : XC (cSeq ids nv St) fin) : ∃ j l, j ≤ ids.length ∧ St j l x.w ∧ ∀ (p i : Nat), ids[p]? = some i → i ∈ fin → j ≤ p := by
  obtain ⟨⟨D, A, w⟩, ⟨j, h1, h2, h3⟩, hf⟩ := x
  refine ⟨j, _, h1, h3, fun p i hp hi => ?_⟩
  have e1 : D i = decide (p < j) := h2 p i hp
  have e2 : D i = false := hf i hi
  rw [e2] at e1
  have := of_decide_eq_false e1.symm
  omega
end
end Go.Proofs.YtmkpjiahkepigaaGreat
/- The reference's Copy. -/
namespace Go.Proofs.YtmkpjiahkepigaaGreat
open Go Go.RowKit
attribute [local go_sem] readAtW readUpon
section
variable {P : Program} {α : Type} {R : CM → Nat → Nat → α → Prop} {f : α → List Value} {t e size bytes : Nat} {z : Value}
theorem run_app_nil (hR : RowR R f size) (T : SlT P t e size bytes z) (w : World) (ty : Nat) (A : Option Addr) (m c : Nat) (l : List α) (hr : Sl R size (cmap w) (.slice A m c) l) (hb : m * bytes ≤ 140737488355328) :
    ∃ v' w', (Builtin.append_ #[t, t] ty #[.slice none 0 0, .slice A m c]).run P w = .ok v' w' ∧ w'.ownsRow w.heap.size e size v' m (l.map f).flatten ∧ Below w.heap.size w w' := by
  obtain ⟨i, hi, hz, hsz, hby⟩ := T.info
  have hm := hr.len.1
  obtain ⟨A0, c0, he, hlc, ⟨h4, h5⟩, h6⟩ := hr
  injection he with e1 e2 e3
  subst e1 e3
  cases A with
  | none =>
    have hc := h5 rfl
    have hl : l = [] := by
      rcases h6 with h6 | ⟨b, o, e, _⟩
      · exact h6
      · cases e
    subst hl
    subst hc
    obtain rfl : m = 0 := hm
    exact ⟨_, _, run_append_owned_none (P := P) w w.heap.size t ty e i size T.ht hi (.slice none 0 0) 0 [] (World.ownsRow_nil w _ e size), World.ownsRow_nil w _ e size, Below.refl _ _⟩
  | some A =>
    have hfl : (l.map f).flatten.length = m * size := by
      have : ∀ l : List α, (l.map f).flatten.length = l.length * size := by
        intro l
        induction l with
        | nil => simp
        | cons x l ih => rw [List.map_cons, List.flatten_cons, List.length_append, ih, hR.len, List.length_cons, Nat.succ_mul, Nat.add_comm]
      rw [this, ← e2]
    have hrl : ∀ r ∈ l.map f, r.length = size := fun r hr => by
      obtain ⟨x, _, rfl⟩ := List.mem_map.1 hr
      exact hR.len x
    obtain ⟨v', w', hrun, h1, h2, _⟩ := run_append_own (P := P) w w.heap.size t ty e i z size bytes T.ht hi hz hsz hby T.hzs T.hsz (.slice none 0 0) 0 [] (World.ownsRow_nil w _ e size) A m c (l.map f).flatten hfl (fun j u hj => by
      obtain ⟨k, q, r, k1, k2, rfl⟩ := flatten_inv _ _ _ _ T.hsz hrl hj
      rw [List.getElem?_map] at k1
      cases hx : l[k]? with
      | none => rw [hx] at k1; cases k1
      | some x =>
        rw [hx] at k1
        injection k1 with k1
        subst k1
        rcases h6 with h6 | ⟨b, o, e, h6⟩
        · subst h6; simp at hx
        · injection e with e
          subst e
          have := hR.dn _ _ _ _ (h6 k x hx) q u k2
          rw [add_mk, ← Nat.add_assoc]
          exact this) (fun u hu => by
      obtain ⟨r, hr, hur⟩ := List.mem_flatten.1 hu
      obtain ⟨x, _, rfl⟩ := List.mem_map.1 hr
      exact hR.one x u hur) (by omega) (by rw [Nat.zero_add]; exact hb) (Nat.le_refl _)
    rw [Nat.zero_add, List.nil_append] at h1
    exact ⟨v', w', hrun, h1, ⟨h2.os, h2.tape, h2.output, h2.size, fun k hk => h2.block k hk (by simp [Value.ownBlock])⟩⟩
theorem app_nil (hR : RowR R f size) (T : SlT P t e size bytes z) {ops : Array Oper} {rest : List Oper} {o : Oper} {a : Act} {w : World} {Q : Exit → Act → World → Prop} (hgd : o.guard = none) (s x : Operand)
    (ho : o.op = .call { callee := .builtin .append, args := #[s, x], argTypes := #[t, t] }) (hs : a.eval s = .slice none 0 0) (A : Option Addr) (m c : Nat) (l : List α) (hx : a.eval x = .slice A m c) (hr : Sl R size (cmap w) (.slice A m c) l)
    (hb : m * bytes ≤ 140737488355328) (h : ∀ v' w', w'.ownsRow w.heap.size e size v' m (l.map f).flatten → Below w.heap.size w w' → wpList P ops Q rest (a.put o.dst v') w') : wpList P ops Q (o :: rest) a w := by
  refine wpList_plain hgd fun K hK => ?_
  obtain ⟨v', w', hrun, h1, h2⟩ := run_app_nil hR T w o.type A m c l hr hb
  unfold Oper.wp execOp
  simp only [ho, resolve, invoke, builtin, Sem.run_bind, Sem.run_pure, Result.andThen_ok, List.map_toArray, List.map_cons, List.map_nil, hs, hx, hrun]
  exact hK _ _ (h v' w' h1 h2)
end
section
variable {P : Program} {o : Oper} {a : Act} {w : World} {N : Value → World → Prop}
theorem actAt_app_nil {α : Type} {R : CM → Nat → Nat → α → Prop} {f : α → List Value} {t e size bytes : Nat} {z : Value} (hR : RowR R f size) (T : SlT P t e size bytes z) (s x : Operand)
    (ho : o.op = .call { callee := .builtin .append, args := #[s, x], argTypes := #[t, t] }) (hs : a.eval s = .slice none 0 0) (A : Option Addr) (m c : Nat) (l : List α) (hx : a.eval x = .slice A m c) (hr : Sl R size (cmap w) (.slice A m c) l)
    (hb : m * bytes ≤ 140737488355328) (h : ∀ v' w', w'.ownsRow w.heap.size e size v' m (l.map f).flatten → Below w.heap.size w w' → N v' w') : actAtW P o a w N := by
  obtain ⟨v', w', hrun, h1, h2⟩ := run_app_nil hR T w o.type A m c l hr hb
  unfold actAtW execOp
  simp only [ho, resolve, invoke, builtin, Sem.run_bind, Sem.run_pure, Result.andThen_ok, List.map_toArray, List.map_cons, List.map_nil, hs, hx, hrun, actUpon]
  exact h v' w' h1 h2
theorem actAt_app_own {t e size bytes : Nat} {z : Value} (T : SlT P t e size bytes z) (s x : Operand) (ho : o.op = .call { callee := .builtin .append, args := #[s, x], argTypes := #[t, t] }) (base : Nat) (v : Value) (n : Nat) (xs : List Value) (hs : a.eval s = v) (hown : w.ownsRow base e size v n xs)
    (nb : Nat) (hx : a.eval x = .slice (some ⟨nb, 0, none⟩) 1 1) (news : List Value) (hl : news.length = size) (hblk : Blk w nb e news) (h1 : ∀ u ∈ news, u.oneCell' = true) (hn : n + 1 ≤ maxLen) (hb : (n + 1) * bytes ≤ 140737488355328) (hbase : base ≤ w.heap.size)
    (h : ∀ v' w', w'.ownsRow base e size v' (n + 1) (xs ++ news) → w.grownBy w' v.ownBlock → (v'.ownBlock = v.ownBlock ∨ v'.ownBlock = some w.heap.size) → N v' w') : actAtW P o a w N := by
  obtain ⟨ie, k1, k2, k3, k4⟩ := T.info
  obtain ⟨gb, cap, w1, hr, k5, k6, k7, k8⟩ := run_append_lies (P := P) w t o.type base e ie z size bytes T.ht k1 k2 k3 k4 T.hzs T.hsz v n xs hown ⟨nb, 0, none⟩ 1 1 news (by rw [hl, Nat.one_mul]) (fun j u hj => by rw [add_mk, Nat.zero_add, hblk.cell]; exact hj) h1 (by omega) hn hb hbase _ rfl
  unfold actAtW execOp
  simp only [ho, resolve, invoke, builtin, Sem.run_bind, Sem.run_pure, Result.andThen_ok, List.map_toArray, List.map_cons, List.map_nil, hs, hx, hr, actUpon]
  refine h _ _ k5 k6 ?_
  rcases k7 with k7 | k7
  · exact .inl k7.symm
  · exact .inr (by rw [k7]; rfl)
theorem actAt_build {t e : Nat} {parts : Array (Nat × Operand)} {news : List Value} (ho : o.op = .buildSlice t 1 parts) (hr : (Instr.buildSlice t 1 (parts.map fun (i, x) => (i, a.eval x))).run P w = .ok (.slice (some ⟨w.heap.size, 0, none⟩) 1 1) (w.alloc (.cells news.toArray e)))
    (h : N (.slice (some ⟨w.heap.size, 0, none⟩) 1 1) (w.alloc (.cells news.toArray e))) : actAtW P o a w N := by
  unfold actAtW execOp
  simp only [ho, hr, Sem.run_bind, Result.andThen_ok, actUpon]
  exact h
theorem actAt_store {t : TypeId} {s q : Operand} {Tg : TypeId} {csg : List Value} {g c : Nat} {v : Value} (hblk : Blk w g Tg csg) (hc : c < csg.length) (hi : (P.info? t).map (·.size) = some 1) (ho : o.op = .store t s q) (hs : a.eval s = .pointer (some ⟨g, c, none⟩)) (he : a.eval q = v) (hv : v.cells = #[v]) (h1 : v.oneCell' = true)
    (h : N undef (w.setCell ⟨g, c, none⟩ v)) : actAtW P o a w N := by
  have hst := run_store_one (P := P) w g c t v (by rw [hblk.cell c, List.getElem?_eq_getElem hc]; rfl) (hblk.frozen c) hi hv h1
  unfold actAtW execOp
  simp only [ho, hs, he, Instr.storeAt, Instr.sureAddr, Sem.run_bind, Sem.run_pure, Result.andThen_ok, hst, actUpon]
  exact h
end
/-- The copy in the making, behind i threads' slots. -/
structure CpI (w wr : World) (src : List Value) (c0 c1 c2 va' vo' : Value) (vs : List Value) (m : Mach) (i : Nat) : Prop where
  bel : Below w.heap.size w wr
  b0 : Blk wr w.heap.size 35 src
  b1 : Blk wr (w.heap.size + 1) 35 [.slice none 0 0, .slice none 0 0, .slice none 0 0, .slice none 0 0, .slice none 0 0, .slice none 0 0, .slice none 0 0, .slice none 0 0]
  b2 : Blk wr (w.heap.size + 2) 35 [c0, c1, c2, va', vo', .slice none 0 0, .slice none 0 0, .slice none 0 0]
  at_ : wr.ownsRow (w.heap.size + 3) 3 1 va' m.at_.length (natsV m.at_)
  outer : wr.ownsRow (w.heap.size + 3) 32 1 vo' i vs
  slot : ∀ (t : Nat) (v : Value) (l : List Int), vs[t]? = some v → m.slots[t]? = some l → wr.ownsRow (w.heap.size + 3) 2 1 v l.length (i64sV l)
  apart : ∀ (t t' : Nat) (v v' : Value) (k : Nat), vs[t]? = some v → vs[t']? = some v' → v.ownBlock = some k → v'.ownBlock = some k → t = t'
/-- The copy's last fields. -/
structure CpT (w wr : World) (src cs : List Value) : Prop where
  bel : Below w.heap.size w wr
  b0 : Blk wr w.heap.size 35 src
  b1 : Blk wr (w.heap.size + 1) 35 [.slice none 0 0, .slice none 0 0, .slice none 0 0, .slice none 0 0, .slice none 0 0, .slice none 0 0, .slice none 0 0, .slice none 0 0]
  b2 : Blk wr (w.heap.size + 2) 35 cs
theorem CpT.step {w wr w' : World} {src cs : List Value} (h : CpT w wr src cs) (hb : Below wr.heap.size wr w') (j : Nat) (v : Value) : CpT w (w'.setCell ⟨w.heap.size + 2, j, none⟩ v) src (cs.set j v) :=
  ⟨(h.bel.trans (hb.mono h.bel.size)).setCell (by simp) _, (h.b0.below hb h.b0.lt).far (by simp) _, (h.b1.below hb h.b1.lt).far (by simp) _, (h.b2.below hb h.b2.lt).set_ j v⟩
theorem own_step {w wr w' : World} {n s j : Nat} {T : TypeId} {v x : Value} {xs : List Value} (h : wr.ownsRow (w.heap.size + 3) T s v n xs) (hb : Below wr.heap.size wr w') : (w'.setCell ⟨w.heap.size + 2, j, none⟩ x).ownsRow (w.heap.size + 3) T s v n xs :=
  own_far (ownsRow_below h hb fun b hb => (h.lt b hb).2) fun e => by have := own_lt h _ e; omega
theorem own_made {w wr w' : World} {n s j : Nat} {T : TypeId} {v x : Value} {xs : List Value} (h : w'.ownsRow wr.heap.size T s v n xs) (hw : w.heap.size + 3 ≤ wr.heap.size) : (w'.setCell ⟨w.heap.size + 2, j, none⟩ x).ownsRow (w.heap.size + 3) T s v n xs :=
  own_far (own_base h hw) fun e => by have := own_lt h _ e; omega
/-- The stages of the region in which a row is copied and put behind the others. -/
def CpSt (wr : World) (B gb : Nat) (vo' : Value) (vs : List Value) (l : List Int) (i : Nat) : Nat → List Value → World → Prop
  | 0, vv, x => vv = [] ∧ Below wr.heap.size wr x
  | 1, vv, x => ∃ v, vv = [v] ∧ (∃ A c, v = .slice A l.length c) ∧ Below wr.heap.size wr x ∧ x.ownsRow wr.heap.size 2 1 v l.length (i64sV l)
  | 2, vv, x => ∃ v nb, vv = [v, .slice (some ⟨nb, 0, none⟩) 1 1] ∧ (∃ A c, v = .slice A l.length c) ∧ Below wr.heap.size wr x ∧ x.ownsRow wr.heap.size 2 1 v l.length (i64sV l) ∧ Blk x nb 32 [v]
  | 3, vv, x => ∃ v nb vo2, vv = [v, .slice (some ⟨nb, 0, none⟩) 1 1, vo2] ∧ (∃ A c, v = .slice A l.length c) ∧ (∃ A c, vo2 = .slice A (i + 1) c) ∧ FrW (fun q => vo'.ownBlock = some q) wr x ∧ x.ownsRow wr.heap.size 2 1 v l.length (i64sV l) ∧ x.ownsRow B 32 1 vo2 (i + 1) (vs ++ [v])
  | _, vv, x => ∃ v nb vo2 x0, vv = [v, .slice (some ⟨nb, 0, none⟩) 1 1, vo2] ∧ (∃ A c, v = .slice A l.length c) ∧ (∃ A c, vo2 = .slice A (i + 1) c) ∧ FrW (fun q => vo'.ownBlock = some q) wr x0 ∧ x0.ownsRow wr.heap.size 2 1 v l.length (i64sV l) ∧ x0.ownsRow B 32 1 vo2 (i + 1) (vs ++ [v]) ∧ x = x0.setCell ⟨gb, 4, none⟩ vo2
theorem CpSt.frw {wr x : World} {B gb : Nat} {vo' : Value} {vs : List Value} {l : List Int} {i j : Nat} {vv : List Value} (hj : j ≤ 3) (h : CpSt wr B gb vo' vs l i j vv x) : FrW (fun q => vo'.ownBlock = some q) wr x := by
  match j, hj, h with
  | 0, _, h => exact FrW.of_below _ h.2
  | 1, _, h => obtain ⟨v, -, -, hb, -⟩ := h; exact FrW.of_below _ hb
  | 2, _, h => obtain ⟨v, nb, -, -, hb, -⟩ := h; exact FrW.of_below _ hb
  | 3, _, h => obtain ⟨v, nb, vo2, -, -, -, hb, -⟩ := h; exact hb
theorem CpSt.one {wr x : World} {B gb : Nat} {vo' : Value} {vs : List Value} {l : List Int} {i j : Nat} {vv : List Value} (hj : 0 < j) (h : CpSt wr B gb vo' vs l i j vv x) : ∃ A c r, vv = .slice A l.length c :: r := by
  match j, hj, h with
  | 1, _, h => obtain ⟨v, e, ⟨A, c, e2⟩, -⟩ := h; exact ⟨A, c, _, by rw [e, e2]⟩
  | 2, _, h => obtain ⟨v, nb, e, ⟨A, c, e2⟩, -⟩ := h; exact ⟨A, c, _, by rw [e, e2]⟩
  | 3, _, h => obtain ⟨v, nb, vo2, e, ⟨A, c, e2⟩, -⟩ := h; exact ⟨A, c, _, by rw [e, e2]⟩
  | k + 4, _, h => obtain ⟨v, nb, vo2, x0, e, ⟨A, c, e2⟩, -⟩ := h; exact ⟨A, c, _, by rw [e, e2]⟩
theorem CpSt.two {wr x : World} {B gb : Nat} {vo' : Value} {vs : List Value} {l : List Int} {i j : Nat} {vv : List Value} (hj : 1 < j) (h : CpSt wr B gb vo' vs l i j vv x) : ∃ v nb r, vv = v :: .slice (some ⟨nb, 0, none⟩) 1 1 :: r := by
  match j, hj, h with
  | 2, _, h => obtain ⟨v, nb, e, -⟩ := h; exact ⟨v, nb, _, e⟩
  | 3, _, h => obtain ⟨v, nb, vo2, e, -⟩ := h; exact ⟨v, nb, _, e⟩
  | k + 4, _, h => obtain ⟨v, nb, vo2, x0, e, -⟩ := h; exact ⟨v, nb, _, e⟩
theorem CpSt.three {wr x : World} {B gb : Nat} {vo' : Value} {vs : List Value} {l : List Int} {i j : Nat} {vv : List Value} (hj : 2 < j) (h : CpSt wr B gb vo' vs l i j vv x) : ∃ v w3 A c r, vv = v :: w3 :: .slice A (i + 1) c :: r := by
  match j, hj, h with
  | 3, _, h => obtain ⟨v, nb, vo2, e, -, ⟨A, c, e2⟩, -⟩ := h; exact ⟨v, _, A, c, _, by rw [e, e2]⟩
  | k + 4, _, h => obtain ⟨v, nb, vo2, x0, e, -, ⟨A, c, e2⟩, -⟩ := h; exact ⟨v, _, A, c, _, by rw [e, e2]⟩
theorem CpI.push {w wr x0 : World} {src : List Value} {c0 c1 c2 va' vo' vo2 v : Value} {vs : List Value} {m : Mach} {i : Nat} {l : List Int} (h : CpI w wr src c0 c1 c2 va' vo' vs m i) (hl : m.slots[i]? = some l) (hf : FrW (fun q => vo'.ownBlock = some q) wr x0) (h1 : x0.ownsRow wr.heap.size 2 1 v l.length (i64sV l)) (h2 : x0.ownsRow (w.heap.size + 3) 32 1 vo2 (i + 1) (vs ++ [v])) :
    CpI w (x0.setCell ⟨w.heap.size + 2, 4, none⟩ vo2) src c0 c1 c2 va' vo2 (vs ++ [v]) m (i + 1) := by
  have hvl : vs.length = i := by have := h.outer.1; omega
  have hsz := h.b2.lt
  have n0 : ¬ vo'.ownBlock = some w.heap.size := own_ne h.outer h.b0 (by decide)
  have n1 : ¬ vo'.ownBlock = some (w.heap.size + 1) := own_ne h.outer h.b1 (by decide)
  have n2 : ¬ vo'.ownBlock = some (w.heap.size + 2) := own_ne h.outer h.b2 (by decide)
  have k0 := h.b0.fr hf n0
  have k1 := h.b1.fr hf n1
  have k2 := h.b2.fr hf n2
  have hg : ∀ k, vo'.ownBlock = some k → w.heap.size ≤ k := fun k hk => by have := own_lt h.outer k hk; omega
  have ka := ownsRow_fr h.at_ hf fun b hb e => own_nes h.at_ h.outer (by decide) e hb
  have ks : ∀ (t : Nat) (v : Value) (l : List Int), vs[t]? = some v → m.slots[t]? = some l → x0.ownsRow (w.heap.size + 3) 2 1 v l.length (i64sV l) := fun t v l a b => ownsRow_fr (h.slot t v l a b) hf fun q hq e => own_nes (h.slot t v l a b) h.outer (by decide) e hq
  have far : ∀ {n : Nat} {T : TypeId} {v : Value} {xs : List Value}, x0.ownsRow (w.heap.size + 3) T 1 v n xs → (x0.setCell ⟨w.heap.size + 2, 4, none⟩ vo2).ownsRow (w.heap.size + 3) T 1 v n xs := fun k => own_far k fun e => by have := own_lt k _ e; omega
  have hwr : w.heap.size + 3 ≤ wr.heap.size := by omega
  refine ⟨(h.bel.trans (hf.grow w.heap.size h.bel.size hg)).setCell (by simp) _, k0.far (by simp) _, k1.far (by simp) _, k2.set_ 4 vo2, far ka, far h2, fun t v' l' a b => ?_, fun t t' v1 v2 k a b c d => ?_⟩
  · rw [List.getElem?_append] at a
    split at a
    · exact far (ks t v' l' a b)
    · rename_i hlt
      have ht : t - vs.length = 0 := by have := (List.getElem?_eq_some_iff.1 a).1; simp at this; omega
      rw [ht] at a
      injection a with a
      subst a
      have : t = i := by omega
      subst this
      rw [hl] at b
      injection b with b
      subst b
      exact far (own_base h1 hwr)
  · have old : ∀ (t : Nat) (v : Value), vs[t]? = some v → v.ownBlock = some k → k < wr.heap.size := fun t v hv hk => by
      have ht := (List.getElem?_eq_some_iff.1 hv).1
      have hlen : t < m.slots.length := by have := (List.getElem?_eq_some_iff.1 hl).1; omega
      exact ((h.slot t v _ hv (List.getElem?_eq_getElem hlen)).lt k hk).2
    have new : Value.ownBlock v = some k → wr.heap.size ≤ k := fun hk => own_lt h1 k hk
    rw [List.getElem?_append] at a b
    split at a <;> split at b
    · exact h.apart t t' v1 v2 k a b c d
    · have e0 : t' - vs.length = 0 := by have := (List.getElem?_eq_some_iff.1 b).1; simp at this; omega
      rw [e0] at b; injection b with b; subst b
      have := old _ _ a c; have := new d; omega
    · have e0 : t - vs.length = 0 := by have := (List.getElem?_eq_some_iff.1 a).1; simp at this; omega
      rw [e0] at a; injection a with a; subst a
      have := old _ _ b d; have := new c; omega
    · have := (List.getElem?_eq_some_iff.1 a).1; have := (List.getElem?_eq_some_iff.1 b).1; simp at *; omega
set_option maxRecDepth 100000 in
set_option maxHeartbeats 2000000 in
theorem r7copy_calls (su lu gu va vo vm vh vp : Value) (u : Unit_) (m : Mach) (w : World) (h : RefS (cmap w) su lu gu va vo vm vh vp u m) (hok : MachOk u m) (hu : RightU u) (hz : SizeU u) (hp : m.prints.length ≤ 4294967296) :
    Calls Tryz.prog 35 #[.agg #[su, lu, gu, va, vo, vm, vh, vp]] w fun e w' => ∃ va' vo' vm' vh' vp' vs, e = .returned (.agg #[su, lu, gu, va', vo', vm', vh', vp']) ∧ RefO w' (w.heap.size + 3) va' vo' vm' vh' vp' vs m ∧ Below w.heap.size w w' := by
  obtain ⟨sv, lv, gv, e, ⟨sA, sc, hs, -⟩, ⟨lA, lc, hl, -⟩, ⟨gA, gc, hg, -⟩⟩ := id h.unit
  injection e with e1 e
  injection e with e2 e
  injection e with e3 _
  subst e1 e2 e3 hs hl hg
  obtain ⟨aA, ac, rfl, -⟩ := id h.at_
  obtain ⟨oA, oc, rfl, -⟩ := id h.slots
  obtain ⟨mA, mc, rfl, -⟩ := id h.mem
  obtain ⟨hA, hc, rfl, -⟩ := id h.hold
  obtain ⟨pA, pc, rfl, -⟩ := id h.prints
  rw [List.length_map] at *
  have ht8 : m.at_.length ≤ 8 := by rw [hok.at_]; exact hu.threads
  obtain ⟨W1, hW1⟩ : ∃ W1, ((w.alloc (.cells #[.slice sA u.shared.length sc, .slice lA u.locks.length lc, .slice gA u.graphs.length gc, .slice aA m.at_.length ac, .slice oA m.slots.length oc, .slice mA m.mem.length mc, .slice hA m.holders.length hc, .slice pA m.prints.length pc] 35)).alloc (.cells #[.slice none 0 0, .slice none 0 0, .slice none 0 0, .slice none 0 0, .slice none 0 0, .slice none 0 0, .slice none 0 0, .slice none 0 0] 35)).alloc (.cells #[.slice sA u.shared.length sc, .slice lA u.locks.length lc, .slice gA u.graphs.length gc, .slice none 0 0, .slice none 0 0, .slice none 0 0, .slice none 0 0, .slice none 0 0] 35) = W1 := ⟨_, rfl⟩
  have hsz : W1.heap.size = w.heap.size + 3 := by rw [← hW1]; simp
  have hB1 : Below w.heap.size w W1 := by rw [← hW1]; exact ((Below_alloc' w _).alloc (by simp) _).alloc (by simp; omega) _
  have hk0 : Blk W1 w.heap.size 35 [.slice sA u.shared.length sc, .slice lA u.locks.length lc, .slice gA u.graphs.length gc, .slice aA m.at_.length ac, .slice oA m.slots.length oc, .slice mA m.mem.length mc, .slice hA m.holders.length hc, .slice pA m.prints.length pc] := by rw [← hW1]; exact ((Blk.new w _ _).alloc _).alloc _
  have hk1 : Blk W1 (w.heap.size + 1) 35 [.slice none 0 0, .slice none 0 0, .slice none 0 0, .slice none 0 0, .slice none 0 0, .slice none 0 0, .slice none 0 0, .slice none 0 0] := by rw [← hW1]; exact (Blk.of (heap_new (w.alloc _) _ _ (by simp)) rfl).alloc _
  have hk2 : Blk W1 (w.heap.size + 2) 35 [.slice sA u.shared.length sc, .slice lA u.locks.length lc, .slice gA u.graphs.length gc, .slice none 0 0, .slice none 0 0, .slice none 0 0, .slice none 0 0, .slice none 0 0] := by rw [← hW1]; exact Blk.of (heap_new ((w.alloc _).alloc _) _ _ (by simp)) rfl
  have HW := Lib.hid hW1
  have HK := Lib.hid (And.intro hk0 (And.intro hk1 hk2))
  have HB := Lib.hid (And.intro hB1 hsz)
  have HS := Lib.hid h
  have HZ := Lib.hid (And.intro hok (And.intro hu (And.intro hz hp)))
  clear hW1 hk0 hk1 hk2 hB1 hsz h hok hu hz hp ht8
  go_enter Tryz.func35, Tryz.ntmps35
  go_wp2_with (refine stop_append rfl ?_)
  refine Stop.intro ?_
  rw [HW.out]
  refine app_nil row_int sl_int rfl _ _ rfl rfl aA m.at_.length ac (m.at_.map Int.ofNat) rfl (by have := HS.out.at_; exact this.mono (cmap_below HB.out.1)) (by have := HZ.out.1.at_; have := HZ.out.2.1.threads; omega) ?_
  intro va1 w1 ho1 hb1
  have hsz1 := hb1.size
  have hsz0 := HB.out.2
  have k0 := HK.out.1.below hb1 HK.out.1.lt
  have k1 := HK.out.2.1.below hb1 HK.out.2.1.lt
  have k2 := HK.out.2.2.below hb1 HK.out.2.2.lt
  have g2 := k2.cell 3
  have g3 := k2.frozen 3
  have gs : w1.cell? ⟨w.heap.size, 4, none⟩ = some (.slice oA m.slots.length oc) := k0.cell 4
  obtain ⟨aA1, ac1, rfl, -⟩ := own_slice ho1
  have hne1 : (Value.slice aA1 m.at_.length ac1).ownBlock ≠ some (w.heap.size + 2) := own_ne ho1 k2 (by decide)
  have n12 : w.heap.size + 2 ≠ w.heap.size := by omega
  have e1 : natsV m.at_ = ((m.at_.map Int.ofNat).map fun n => [Value.int .i64 n]).flatten := by rw [← flat1, List.map_map]; rfl
  have hc0 : CpI w (w1.setCell ⟨w.heap.size + 2, 3, none⟩ (.slice aA1 m.at_.length ac1)) [.slice sA u.shared.length sc, .slice lA u.locks.length lc, .slice gA u.graphs.length gc, .slice aA m.at_.length ac, .slice oA m.slots.length oc, .slice mA m.mem.length mc, .slice hA m.holders.length hc, .slice pA m.prints.length pc] (.slice sA u.shared.length sc) (.slice lA u.locks.length lc) (.slice gA u.graphs.length gc) (.slice aA1 m.at_.length ac1) (.slice none 0 0) [] m 0 :=
    ⟨(HB.out.1.trans (hb1.mono HB.out.1.size)).setCell (by simp) _, k0.far (by simp) _, k1.far (by simp) _, k2.set_ 3 _, by rw [e1]; exact own_far (own_base ho1 (by omega)) hne1, World.ownsRow_nil _ _ _ _, fun _ _ _ h => (by simp at h), fun _ _ _ _ _ h => (by simp at h)⟩
  have HC := Lib.hid hc0
  clear k0 k1 k2 hb1 ho1 hc0 e1 hne1 HK hsz0 hsz1
  go_wp2
  go_loopw [19, 5, 6] (fun v19 _ _ wr => ∃ (k : Nat) (vo' : Value) (vs : List Value), v19 = .int .i64 k ∧ k ≤ m.slots.length ∧ Hid (CpI w wr [.slice sA u.shared.length sc, .slice lA u.locks.length lc, .slice gA u.graphs.length gc, .slice aA m.at_.length ac, .slice oA m.slots.length oc, .slice mA m.mem.length mc, .slice hA m.holders.length hc, .slice pA m.prints.length pc] (.slice sA u.shared.length sc) (.slice lA u.locks.length lc) (.slice gA u.graphs.length gc) (.slice aA1 m.at_.length ac1) vo' vs m k)) (fun v19 _ _ _ => m.slots.length - (intOf v19).toNat)
  case atStart => exact ⟨0, _, _, rfl, by omega, HC⟩
  case round =>
    obtain ⟨k, vo', vs, rfl, hk, HI⟩ := hrel
    by_cases hlt : k < m.slots.length
    · obtain ⟨sl, hsl⟩ : ∃ sl, m.slots[k]? = some sl := ⟨_, List.getElem?_eq_getElem hlt⟩
      obtain ⟨ob, oo, rfl, v1, hv1, hi1⟩ := HS.out.slots.at_ hsl
      obtain ⟨bA, bc, rfl, -⟩ := id hi1
      rw [Nat.mul_one] at hv1
      obtain ⟨oA', oc', rfl, -⟩ := own_slice HI.out.outer
      have k0 : (0 : Int) ≤ k := by omega
      have k1 : (k : Int) < m.slots.length := by omega
      have c4 : wr.cell? ⟨ob, oo + k, none⟩ = some (.slice bA sl.length bc) := cmap_below HI.out.bel _ _ _ hv1
      have hsz : sl.length ≤ 4160 := by
        obtain ⟨g, hg⟩ : ∃ g, u.graphs[k]? = some g := ⟨_, List.getElem?_eq_getElem (by rw [← HZ.out.1.slots]; exact hlt)⟩
        have h1 := HZ.out.1.slot k g sl hg hsl
        have h2 := HZ.out.2.2.1.slots g (List.mem_of_getElem? hg)
        omega
      have hm8 : m.slots.length ≤ 8 := by rw [HZ.out.1.slots]; exact HZ.out.2.1.threads
      have HV := Lib.hid (And.intro hsl (And.intro (hi1.mono (cmap_below HI.out.bel)) (And.intro hsz hm8)))
      have km : m.slots.length ≤ 8 := hm8
      clear hv1 hi1 hsl hsz hm8
      go_wp2
      have hstart : CpSt wr (w.heap.size + 3) (w.heap.size + 2) (.slice oA' k oc') vs sl k 0 [] wr.drew := ⟨rfl, (Below.refl _ _).drew⟩
      have hgne : ¬ (Value.slice oA' k oc').ownBlock = some (w.heap.size + 2) := own_ne HI.out.outer HI.out.b2 (by decide)
      have f4 : ∀ z : XC (cSeq [4, 5, 6, 8] 3 (CpSt wr (w.heap.size + 3) (w.heap.size + 2) (.slice oA' k oc') vs sl k)) [8], z.w.cell? ⟨w.heap.size + 1 + 1, 4, none⟩ = some (.slice oA' k oc') := fun z => by
        obtain ⟨j, vv, hj, hst, hf⟩ := cSeq_world z
        exact (CpSt.frw (hf 3 8 rfl (by simp)) hst).cell (p := ⟨w.heap.size + 2, 4, none⟩) (HI.out.b2.cell 4) hgne
      haveI hne : Nonempty (XC (cSeq [4, 5, 6, 8] 3 (CpSt wr (w.heap.size + 3) (w.heap.size + 2) (.slice oA' k oc') vs sl k)) [8]) := XC.ne (cSeq_start hstart)
      refine wp_region_mixF (cSeq [4, 5, 6, 8] 3 (CpSt wr (w.heap.size + 3) (w.heap.size + 2) (.slice oA' k oc') vs sl k)) [4, 5, 6, 8] [0, 1, 2, 3, 4, 5, 6, 7, 8] [8] (by kernel_rfl) (by kernel_rfl) (by kernel_rfl) (by kernel_rfl) (cSeq_start hstart) (cSeq_hq rfl) (cSeq_hA rfl (by kernel_rfl)) (dst_small (by rfl)) ?_
      clear hstart
      iterate 4 (refine wpMix_read rfl rfl (fun K hK => ?_); go_simp; refine hK _ ?_; clear hK K)
      refine wpMix_act (some 27) rfl rfl rfl rfl (fun D A z hD hp hpre hC => cSeq_step (p := 0) (by decide) rfl hD (fun i' h => absurd h (by decide)) hC (fun hst => actAt_app_nil row_int sl_i64 _ _ rfl rfl bA sl.length bc sl rfl (HV.out.2.1.mono (cmap_below hst.2)) (by have := HV.out.2.2.1; omega) (fun v' w' h1 h2 => ?_))) (fun D A z hD hpre hC => ?_)
      · obtain ⟨A', c', rfl, -⟩ := own_slice h1
        exact ⟨_, rfl, ⟨_, _, rfl⟩, hst.2.trans (h2.mono hst.2.size), own_base (by rw [← flat1] at h1; exact h1) hst.2.size⟩
      obtain ⟨j, hj, -, hst⟩ := cSeq_at (p := 0) rfl hD hC
      obtain ⟨vA, vc, r, hvv⟩ := hst.one hj
      have hA4 : A 4 = .slice vA sl.length vc := by
        have : min j 3 = (min j 3 - 1) + 1 := by omega
        rw [this, List.take_succ_cons, List.map_cons] at hvv
        injection hvv
      rw [hA4]
      clear hpre hC hD hst hvv hj hA4 z A D j r
      refine wpMix_act (some 28) rfl rfl rfl rfl (fun D A z hD hp hpre hC => cSeq_step (p := 1) (by decide) rfl hD (fun i' _ h => by injection h with h; subst h; exact (hpre 4 (by simp)).1) hC (fun hst => ?_)) (fun D A z hD hpre hC => ?_)
      · obtain ⟨v, e, -, hb, ho⟩ := hst
        have hv : v = .slice vA sl.length vc := by
          have h4 := (hpre 4 (by simp)).2
          simp at e
          rw [← e, h4]; rfl
        subst hv
        refine actAt_build rfl (by simp only [List.map_toArray, List.map_cons, List.map_nil]; exact run_build_sl _ _ _ _) ?_
        refine ⟨_, _, by rw [e]; rfl, ⟨_, _, rfl⟩, hb.alloc hb.size _, ownsRow_below ho (Below_alloc' _ _) fun b hb => (ho.lt b hb).2, Blk.new _ _ _⟩
      obtain ⟨j, hj, -, hst⟩ := cSeq_at (p := 1) rfl hD hC
      obtain ⟨v0, nb, r, hvv⟩ := hst.two hj
      have hA5 : A 5 = .slice (some ⟨nb, 0, none⟩) 1 1 := by
        have : min j 3 = (min j 3 - 2) + 1 + 1 := by omega
        rw [this, List.take_succ_cons, List.take_succ_cons, List.map_cons, List.map_cons] at hvv
        injection hvv with _ hvv
        injection hvv
      rw [hA5]
      clear hpre hC hD hst hvv hj hA5 z A D j r v0
      refine wpMix_act (some 29) rfl rfl rfl rfl (fun D A z hD hp hpre hC => cSeq_step (p := 2) (by decide) rfl hD (fun i' _ h => by injection h with h; subst h; exact (hpre 5 (by simp)).1) hC (fun hst => ?_)) (fun D A z hD hpre hC => ?_)
      · obtain ⟨v, nb', e, hvf, hb, ho, hbk⟩ := hst
        have h4 := (hpre 4 (by simp)).2
        have h5 := (hpre 5 (by simp)).2
        simp at e
        obtain ⟨e1, e2⟩ := e
        have hv : v = .slice vA sl.length vc := by rw [← e1, h4]; rfl
        have hn : nb' = nb := by
          rw [h5] at e2
          have e2 : Value.slice (some ⟨nb, 0, none⟩) 1 1 = Value.slice (some ⟨nb', 0, none⟩) 1 1 := e2
          injection e2 with e2; injection e2 with e2; injection e2 with e2; exact e2.symm
        subst hn hv
        have hown := ownsRow_below HI.out.outer hb fun b hb => (HI.out.outer.lt b hb).2
        refine actAt_app_own sl_i64s _ _ rfl (w.heap.size + 3) (.slice oA' k oc') k vs rfl hown nb' rfl _ rfl hbk (by simp [Value.oneCell']) (by unfold maxLen; have := HV.out.2.2.2; omega) (by have := HV.out.2.2.2; omega) (by have := HI.out.b2.lt; have := hb.size; omega) (fun v' w' h1 h2 _ => ?_)
        obtain ⟨A', c', rfl, -⟩ := own_slice h1
        refine ⟨.slice vA sl.length vc, nb', _, by simp [e1, e2], ⟨_, _, rfl⟩, ⟨_, _, rfl⟩, (FrW.of_below _ hb).andThen (FrW.grown (S := fun q => (Value.slice oA' k oc').ownBlock = some q) h2 fun q e => e) (fun _ _ e => e), own_grown ho h2 (fun q hq e => own_nes ho hown (by decide) e hq), h1⟩
      obtain ⟨j, hj, -, hst⟩ := cSeq_at (p := 2) rfl hD hC
      obtain ⟨v0, w3, oA2, oc2, r, hvv⟩ := hst.three hj
      have hA6 : A 6 = .slice oA2 (k + 1) oc2 := by
        have : min j 3 = 2 + 1 := by omega
        rw [this] at hvv
        simp at hvv
        exact hvv.2.2.1
      rw [hA6]
      clear hpre hC hD hst hvv hj hA6 z A D j r v0 w3
      iterate 1 (refine wpMix_read rfl rfl (fun K hK => ?_); go_simp; refine hK _ ?_; clear hK K)
      refine wpMix_act0 rfl rfl rfl rfl (fun D A z hD hp hpre hC => cSeq_step (p := 3) (by decide) rfl hD (fun i' _ h => by injection h with h; subst h; exact (hpre 6 (by simp)).1) hC (fun hst => ?_)) (fun D A z hD hpre hC => ?_)
      · obtain ⟨v, nb', vo2, e, hvf, hof, hfr, ho1, ho2⟩ := hst
        have h6 := (hpre 6 (by simp)).2
        have hv : vo2 = .slice oA2 (k + 1) oc2 := by
          simp at e
          rw [← e.2.2, h6]; rfl
        subst hv
        refine actAt_store (HI.out.b2.fr hfr hgne) (by simp) (by kernel_rfl) rfl rfl rfl rfl rfl ?_
        exact ⟨v, nb', _, z, by simpa using e, hvf, hof, hfr, ho1, ho2, rfl⟩
      clear hpre hC hD z A D
      refine wpMix_nil (fun D A z hD hAA hC => ?_)
      have hend := cSeq_end (fun i _ => hD i (by simp at *; omega)) hC
      obtain ⟨v, nb', vo2, x0, e, hvf, hof, hfr, ho1, ho2, rfl⟩ := hend
      have HP := Lib.hid (HI.out.push HV.out.1 hfr ho1 ho2)
      clear hAA hC hD e hvf hof hfr ho1 ho2 f4 hne hgne D A HV
      go_wp2
      go_roundw
      case rel => exact ⟨k + 1, _, _, by go_num, by omega, HP⟩
      case measure => simp [intOf]; omega
    · obtain rfl : k = m.slots.length := by omega
      have c5 := HI.out.b2.cell 5
      have d5 := HI.out.b0.cell 5
      have hn2 : w.heap.size + 1 + 1 ≠ w.heap.size := by omega
      have n0 : ¬ ((m.slots.length : Int) < m.slots.length) := by omega
      go_wp2_with (refine stop_append rfl ?_)
      refine Stop.intro ?_
      refine app_nil row_int sl_i64 rfl _ _ rfl rfl mA m.mem.length mc m.mem rfl (HS.out.mem.mono (cmap_below HI.out.bel)) (by have := HZ.out.1.mem; have := HZ.out.2.1.shared; omega) ?_
      intro vm1 w2 hom hb2
      have hs3 : w.heap.size + 3 ≤ wr.heap.size := by have := HI.out.b2.lt; omega
      have hT0 : CpT w wr _ _ := ⟨HI.out.bel, HI.out.b0, HI.out.b1, HI.out.b2⟩
      obtain ⟨mA1, mc1, rfl, -⟩ := own_slice hom
      have hT1 := hT0.step hb2 5 (.slice mA1 m.mem.length mc1)
      have hm1 : (w2.setCell ⟨w.heap.size + 2, 5, none⟩ (.slice mA1 m.mem.length mc1)).ownsRow (w.heap.size + 3) 2 1 (.slice mA1 m.mem.length mc1) m.mem.length (i64sV m.mem) := own_made (by rw [← flat1] at hom; exact hom) hs3
      have ha1 := own_step (j := 5) (x := .slice mA1 m.mem.length mc1) HI.out.at_ hb2
      have hv1 := own_step (j := 5) (x := .slice mA1 m.mem.length mc1) HI.out.outer hb2
      have hl1 := fun t v l a b => own_step (j := 5) (x := .slice mA1 m.mem.length mc1) (HI.out.slot t v l a b) hb2
      have hml : ∀ (t : Nat) (v : Value) (k : Nat), vs[t]? = some v → (Value.slice mA1 m.mem.length mc1).ownBlock = some k → v.ownBlock ≠ some k := fun t v k a b c => by
        have h1 := own_lt hom k b
        have ht := (List.getElem?_eq_some_iff.1 a).1
        have hlen : t < m.slots.length := by have := HI.out.outer.1; omega
        have h2 := ((HI.out.slot t v _ a (List.getElem?_eq_getElem hlen)).lt k c).2
        omega
      have hk2 := HI.out.b2.below hb2 HI.out.b2.lt
      have p5 : w2.cell? ⟨w.heap.size + 1 + 1, 5, none⟩ = some (.slice none 0 0) := hk2.cell 5
      have q5 : w2.frozen? ⟨w.heap.size + 1 + 1, 5, none⟩ = false := hk2.frozen 5
      have p6 : w2.cell? ⟨w.heap.size + 1 + 1, 6, none⟩ = some (.slice none 0 0) := hk2.cell 6
      have p0 : w2.cell? ⟨w.heap.size, 6, none⟩ = some (.slice hA m.holders.length hc) := (HI.out.b0.below hb2 HI.out.b0.lt).cell 6
      have HX1 := Lib.hid (And.intro hT1 (And.intro hm1 (And.intro ha1 (And.intro hv1 (And.intro hl1 hml)))))
      clear hT0 hT1 hm1 ha1 hv1 hl1 hml hk2 hom hb2 hs3 c5 d5
      go_wp2_with (refine stop_append rfl ?_)
      refine Stop.intro ?_
      obtain ⟨x2, hx2⟩ : ∃ x2, w2.setCell ⟨w.heap.size + 2, 5, none⟩ (.slice mA1 m.mem.length mc1) = x2 := ⟨_, rfl⟩
      rw [show w2.setCell ⟨w.heap.size + 1 + 1, 5, none⟩ (.slice mA1 m.mem.length mc1) = x2 from hx2]
      rw [hx2] at HX1
      clear p5 q5 p6 p0 hx2
      refine app_nil row_int sl_int rfl _ _ rfl rfl hA m.holders.length hc m.holders rfl (HS.out.hold.mono (cmap_below HX1.out.1.bel)) (by have := HZ.out.1.holders; have := HZ.out.2.1.locks; omega) ?_
      intro vh1 w3 hoh hb3
      have hs3 : w.heap.size + 3 ≤ x2.heap.size := by have := HX1.out.1.b2.lt; omega
      obtain ⟨hA1, hc1, rfl, -⟩ := own_slice hoh
      have hT1 := HX1.out.1.step hb3 6 (.slice hA1 m.holders.length hc1)
      have hh1 : (w3.setCell ⟨w.heap.size + 2, 6, none⟩ (.slice hA1 m.holders.length hc1)).ownsRow (w.heap.size + 3) 3 1 (.slice hA1 m.holders.length hc1) m.holders.length (i64sV m.holders) := own_made (by rw [← flat1] at hoh; exact hoh) hs3
      have hm1 := own_step (j := 6) (x := .slice hA1 m.holders.length hc1) HX1.out.2.1 hb3
      have ha1 := own_step (j := 6) (x := .slice hA1 m.holders.length hc1) HX1.out.2.2.1 hb3
      have hv1 := own_step (j := 6) (x := .slice hA1 m.holders.length hc1) HX1.out.2.2.2.1 hb3
      have hl1 := fun t v l a b => own_step (j := 6) (x := .slice hA1 m.holders.length hc1) (HX1.out.2.2.2.2.1 t v l a b) hb3
      have hah : ∀ k, (Value.slice aA1 m.at_.length ac1).ownBlock = some k → (Value.slice hA1 m.holders.length hc1).ownBlock ≠ some k := fun k a b => by
        have h1 := own_lt hoh k b
        have h2 := (HX1.out.2.2.1.lt k a).2
        omega
      have hk2 := HX1.out.1.b2.below hb3 HX1.out.1.b2.lt
      have p5 : w3.cell? ⟨w.heap.size + 1 + 1, 6, none⟩ = some (.slice none 0 0) := hk2.cell 6
      have q5 : w3.frozen? ⟨w.heap.size + 1 + 1, 6, none⟩ = false := hk2.frozen 6
      have p6 : w3.cell? ⟨w.heap.size + 1 + 1, 7, none⟩ = some (.slice none 0 0) := hk2.cell 7
      have p0 : w3.cell? ⟨w.heap.size, 7, none⟩ = some (.slice pA m.prints.length pc) := (HX1.out.1.b0.below hb3 HX1.out.1.b0.lt).cell 7
      have HX2 := Lib.hid (And.intro hT1 (And.intro hm1 (And.intro ha1 (And.intro hv1 (And.intro hl1 (And.intro HX1.out.2.2.2.2.2 (And.intro hh1 hah)))))))
      clear hT1 hm1 ha1 hv1 hl1 hh1 hah hk2 hoh hb3 hs3 HX1
      go_wp2_with (refine stop_append rfl ?_)
      refine Stop.intro ?_
      obtain ⟨x3, hx3⟩ : ∃ x3, w3.setCell ⟨w.heap.size + 2, 6, none⟩ (.slice hA1 m.holders.length hc1) = x3 := ⟨_, rfl⟩
      rw [show w3.setCell ⟨w.heap.size + 1 + 1, 6, none⟩ (.slice hA1 m.holders.length hc1) = x3 from hx3]
      rw [hx3] at HX2
      clear p5 q5 p6 p0 hx3
      refine app_nil row_print sl_print rfl _ _ rfl rfl pA m.prints.length pc m.prints rfl (HS.out.prints.mono (cmap_below HX2.out.1.bel)) (by have := HZ.out.2.2.2; omega) ?_
      intro vp1 w4 hop hb4
      have hs3 : w.heap.size + 3 ≤ x3.heap.size := by have := HX2.out.1.b2.lt; omega
      obtain ⟨pA1, pc1, rfl, -⟩ := own_slice hop
      have hT1 := HX2.out.1.step hb4 7 (.slice pA1 m.prints.length pc1)
      have hp1 : (w4.setCell ⟨w.heap.size + 2, 7, none⟩ (.slice pA1 m.prints.length pc1)).ownsRow (w.heap.size + 3) 77 2 (.slice pA1 m.prints.length pc1) m.prints.length (printsV m.prints) := own_made hop hs3
      have hm1 := own_step (j := 7) (x := .slice pA1 m.prints.length pc1) HX2.out.2.1 hb4
      have ha1 := own_step (j := 7) (x := .slice pA1 m.prints.length pc1) HX2.out.2.2.1 hb4
      have hv1 := own_step (j := 7) (x := .slice pA1 m.prints.length pc1) HX2.out.2.2.2.1 hb4
      have hl1 := fun t v l a b => own_step (j := 7) (x := .slice pA1 m.prints.length pc1) (HX2.out.2.2.2.2.1 t v l a b) hb4
      have hh1 := own_step (j := 7) (x := .slice pA1 m.prints.length pc1) HX2.out.2.2.2.2.2.2.1 hb4
      have hk2 := HX2.out.1.b2.below hb4 HX2.out.1.b2.lt
      have p5 : w4.cell? ⟨w.heap.size + 1 + 1, 7, none⟩ = some (.slice none 0 0) := hk2.cell 7
      have q5 : w4.frozen? ⟨w.heap.size + 1 + 1, 7, none⟩ = false := hk2.frozen 7
      obtain ⟨oA1, oc1, rfl, -⟩ := own_slice hv1
      obtain ⟨x4, hx4⟩ : ∃ x4, w4.setCell ⟨w.heap.size + 2, 7, none⟩ (.slice pA1 m.prints.length pc1) = x4 := ⟨_, rfl⟩
      rw [hx4] at hT1 hp1 hm1 ha1 hv1 hl1 hh1
      have hO : RefO x4 (w.heap.size + 3) (.slice aA1 m.at_.length ac1) (.slice oA1 m.slots.length oc1) (.slice mA1 m.mem.length mc1) (.slice hA1 m.holders.length hc1) (.slice pA1 m.prints.length pc1) vs m :=
        ⟨ha1, hm1, hh1, hp1, hv1, hl1, HI.out.apart, HX2.out.2.2.2.2.2.1, HX2.out.2.2.2.2.2.2.2⟩
      have HLD : Hid (∀ j v, ([.slice sA u.shared.length sc, .slice lA u.locks.length lc, .slice gA u.graphs.length gc, .slice aA1 m.at_.length ac1, .slice oA1 m.slots.length oc1, .slice mA1 m.mem.length mc1, .slice hA1 m.holders.length hc1, .slice pA1 m.prints.length pc1] : List Value)[j]? = some v → x4.cell? ⟨w.heap.size + 1 + 1, 0 + j, none⟩ = some v) := Lib.hid fun j v hj => by rw [Nat.zero_add]; exact (hT1.b2.cell j).trans hj
      have HX3 := Lib.hid (And.intro hT1 (And.intro hO hx4))
      clear hT1 hm1 ha1 hv1 hl1 hh1 hk2 hop hb4 hs3 HX2 hO hx4 hp1
      go_wp2_with (first
        | (refine stop_load 35 rfl ?_))
      refine Stop.intro ?_
      rw [show w4.setCell ⟨w.heap.size + 1 + 1, 7, none⟩ (.slice pA1 m.prints.length pc1) = x4 from HX3.out.2.2]
      refine wpList_load_at rfl 35 _ rfl (w.heap.size + 1 + 1) 0 rfl [.slice sA u.shared.length sc, .slice lA u.locks.length lc, .slice gA u.graphs.length gc, .slice aA1 m.at_.length ac1, .slice oA1 m.slots.length oc1, .slice mA1 m.mem.length mc1, .slice hA1 m.holders.length hc1, .slice pA1 m.prints.length pc1] _ HLD.out Tryz.underlying35 rfl (by kernel_rfl) ?_
      refine wpList_plain rfl fun K hK => wp_store_row 35 _ _ rfl (w.heap.size + 1) ([.slice sA u.shared.length sc, .slice lA u.locks.length lc, .slice gA u.graphs.length gc, .slice aA1 m.at_.length ac1, .slice oA1 m.slots.length oc1, .slice mA1 m.mem.length mc1, .slice hA1 m.holders.length hc1, .slice pA1 m.prints.length pc1] : List Value).toArray rfl rfl 35 _ HX3.out.1.b1 (by kernel_rfl) rfl (by simp [Value.oneCell']) (hK _ _ ?_)
      have hz : Blk (x4.setRow (w.heap.size + 1) ([.slice sA u.shared.length sc, .slice lA u.locks.length lc, .slice gA u.graphs.length gc, .slice aA1 m.at_.length ac1, .slice oA1 m.slots.length oc1, .slice mA1 m.mem.length mc1, .slice hA1 m.holders.length hc1, .slice pA1 m.prints.length pc1] : List Value).toArray) (w.heap.size + 1) 35 [.slice sA u.shared.length sc, .slice lA u.locks.length lc, .slice gA u.graphs.length gc, .slice aA1 m.at_.length ac1, .slice oA1 m.slots.length oc1, .slice mA1 m.mem.length mc1, .slice hA1 m.holders.length hc1, .slice pA1 m.prints.length pc1] := Blk.setRow (w := x4) (cs' := [.slice sA u.shared.length sc, .slice lA u.locks.length lc, .slice gA u.graphs.length gc, .slice aA1 m.at_.length ac1, .slice oA1 m.slots.length oc1, .slice mA1 m.mem.length mc1, .slice hA1 m.holders.length hc1, .slice pA1 m.prints.length pc1]) HX3.out.1.b1
      have hbz : Below w.heap.size w (x4.setRow (w.heap.size + 1) ([.slice sA u.shared.length sc, .slice lA u.locks.length lc, .slice gA u.graphs.length gc, .slice aA1 m.at_.length ac1, .slice oA1 m.slots.length oc1, .slice mA1 m.mem.length mc1, .slice hA1 m.holders.length hc1, .slice pA1 m.prints.length pc1] : List Value).toArray) := below_row HX3.out.1.bel (by omega) _
      have e0 := hz.cell 0
      have e1 := hz.cell 1
      have e2 := hz.cell 2
      have e3 := hz.cell 3
      have e4 := hz.cell 4
      have e5 := hz.cell 5
      have e6 := hz.cell 6
      have e7 := hz.cell 7
      have HF := Lib.hid hbz
      clear hz hbz
      have hO := HX3.out.2.1.fr (FrW.setRow (S := fun q => q = w.heap.size + 1) x4 rfl ([.slice sA u.shared.length sc, .slice lA u.locks.length lc, .slice gA u.graphs.length gc, .slice aA1 m.at_.length ac1, .slice oA1 m.slots.length oc1, .slice mA1 m.mem.length mc1, .slice hA1 m.holders.length hc1, .slice pA1 m.prints.length pc1] : List Value).toArray) (fun b hb e => by omega)
      have HO := Lib.hid hO
      clear hO
      obtain ⟨x5, hx5⟩ : ∃ x5, x4.setRow (w.heap.size + 1) ([.slice sA u.shared.length sc, .slice lA u.locks.length lc, .slice gA u.graphs.length gc, .slice aA1 m.at_.length ac1, .slice oA1 m.slots.length oc1, .slice mA1 m.mem.length mc1, .slice hA1 m.holders.length hc1, .slice pA1 m.prints.length pc1] : List Value).toArray = x5 := ⟨_, rfl⟩
      rw [hx5] at HF HO e0 e1 e2 e3 e4 e5 e6 e7 ⊢
      simp only [put_none]
      clear hx5 p5 q5
      go_wp2
      exact bodyPost_ret (v := .agg #[.slice sA u.shared.length sc, .slice lA u.locks.length lc, .slice gA u.graphs.length gc, .slice aA1 m.at_.length ac1, .slice oA1 m.slots.length oc1, .slice mA1 m.mem.length mc1, .slice hA1 m.holders.length hc1, .slice pA1 m.prints.length pc1]) (by simp [results, Tryz.results35, go_sem, e0, e1, e2, e3, e4, e5, e6, e7]) rfl ⟨_, _, _, _, _, vs, rfl, HO.out, HF.out⟩
end Go.Proofs.YtmkpjiahkepigaaGreat
