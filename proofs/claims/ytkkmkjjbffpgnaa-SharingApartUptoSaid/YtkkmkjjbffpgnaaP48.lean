import Derived.Test.YtkkmkjjbffpgnaaP41
import Derived.Test.YtkkmkjjbffpgnaaP40
import Derived.Test.YtkkmkjjbffpgnaaP28
import Derived.Test.YtkkmkjjbffpgnaaP01
import Derived.Test.YtkkmkjjbffpgnaaP09
import Derived.Test.YtkkmkjjbffpgnaaP02
import Derived.Test.YtkkmkjjbffpgnaaP26
/- Keys of sharing's maps: a thread and a variable. -/
namespace Go.Proofs.Ytkkmkjjbffpgnaa
open Go Go.RowKit
def kvP (p : Int × Int) : Value := .agg #[.int .i64 p.1, .int .i64 p.2]
def decP (v : Value) : Option (Int × Int) := match v with | .agg ⟨[.int _ a, .int _ b]⟩ => some (a, b) | _ => none
set_option maxHeartbeats 1000000 in
theorem eq_key (a b c d : Int) (w : World) : (Op.equal 92 (.agg #[.int .i64 a, .int .i64 b]) (.agg #[.int .i64 c, .int .i64 d])).run Try.prog w = .ok (decide ((a, b) = (c, d))) w := by
  have hS : Try.prog.underlying 92 = some (.struct (Try.prog.fieldsOf 92)) := by kernel_rfl
  have hp : Try.prog.stoodInHeld 92 = false := by kernel_rfl
  unfold Op.equal Op.maxDepth
  rw [show (10000 : Nat) = 9999 + 1 from rfl, run_equalIn_agg w 9999 92 _ _ hS hp]
  simp only [Program.fieldsOf, Try.underlying92]
  by_cases h1 : a = c
  · subst h1
    have e1 : (a == a) = true := by simp
    by_cases h2 : b = d
    · subst h2
      have e2 : (b == b) = true := by simp
      go_simp
    · have e2 : (b == d) = false := by simpa using h2
      go_simp
  · have e1 : (a == c) = false := by simpa using h1
    go_simp
theorem findNow_struct (fs : Array Field) (k : Value) (e : MapEntry) (es : List MapEntry) (i : Nat) : Instr.findNow (.struct fs) k (e :: es) i = none := by
  unfold Instr.findNow Instr.sameNow
  rfl
theorem key_under : Try.prog.underlying 92 = some (.struct (Try.prog.fieldsOf 92)) := by kernel_rfl
theorem findAsk_key (p : Int × Int) (w : World) : ∀ (es : List MapEntry) (i : Nat), (∀ e ∈ es, ∃ k', e.key = kvP k') → (Instr.findAsking 92 (kvP p) es i).run Try.prog w = .ok (seek decP p es i) w
  | [], _, _ => rfl
  | e :: es, i, h => by
    obtain ⟨q, hq⟩ := h e (by simp)
    have ih := findAsk_key p w es (i + 1) (fun e he => h e (by simp [he]))
    unfold Instr.findAsking seek
    rw [hq]
    have he := eq_key p.1 p.2 q.1 q.2 w
    simp only [Sem.run_bind, kvP, he, Result.andThen_ok]
    have hd : decP (kvP q) = some q := rfl
    by_cases e1 : p = q
    · subst e1
      simp [decP]
    · have e2 : ¬ ((p.1, p.2) = (q.1, q.2)) := e1
      have e3 : ¬ (some (q.1, q.2) = some p) := fun h => e1 (Option.some.inj h).symm
      simp only [e2, decide_false, decP, e3, if_false]
      exact ih
set_option maxRecDepth 100000 in
theorem check_key (b : Bool) (x y : Int) (w : World) : (Instr.checkKey b 10000 92 (.agg #[.int .i64 x, .int .i64 y])).run Try.prog w = .ok () w := by
  rw [show (10000 : Nat) = 9998 + 1 + 1 from rfl]
  generalize 9998 = n
  kernel_rfl
theorem key_p : KeyT Try.prog 92 kvP decP where
  dk := fun _ => rfl
  find := fun es k w hk => by
    unfold Instr.findKey
    rw [Sem.run_bind, run_underlying key_under, Result.andThen_ok]
    cases es with
    | nil => rfl
    | cons e es =>
      rw [findNow_struct]
      exact findAsk_key k w (e :: es) 0 hk
  check := fun b k w => by
    obtain ⟨x, y⟩ := k
    exact check_key b x y w
  same := fun k => by simp [kvP, Instr.sameBits]
end Go.Proofs.Ytkkmkjjbffpgnaa
/- The law of a region that draws its order (RegJ), inside a fence; single operations in a fence. -/
namespace Go.Proofs.Ytkkmkjjbffpgnaa
open Go Go.RowKit Go.Shelf
section
variable {F : Fence} {n : Nat} {P : Program}
/-- An operation that calls nothing. -/
def calm (o : Oper) : Bool := match o.op with
  | .call _ | .defer _ => false
  | _ => true
theorem calm_about {o : Oper} (h : calm o = true) (w : World) (ρ : Operand → Value) : o.about P w ρ = none := by
  unfold calm at h
  unfold Oper.about
  split at h <;> simp_all
theorem calm_sem {o : Oper} (h : calm o = true) (ρ : Operand → Value) : o.semAt F.round ρ = execOp ρ o := by
  refine Oper.semAt_plain F ρ o (fun c hc => ?_)
  unfold calm at h
  rw [hc] at h
  cases h
theorem wpIn_val_at {Q : Exit → Act → World → Prop} {o : Oper} {a : Act} {w : World} {K : Act → World → Prop} (hc : calm o = true) (v : Value) (w' : World) (hr : (execOp a.eval o).run P w = .ok (.value v) w') (h : K (a.put o.dst v) w') : o.wpIn F n P a w K Q := by
  unfold Oper.wpIn
  rw [calm_sem hc, hr]
  exact ⟨fun f hf => (by rw [calm_about hc] at hf; cases hf), h⟩
theorem wpIn_skip_at {Q : Exit → Act → World → Prop} {o : Oper} {a : Act} {w : World} {K : Act → World → Prop} (hc : calm o = true) (w' : World) (hr : (execOp a.eval o).run P w = .ok .skip w') (h : K (a.put o.dst undef) w') : o.wpIn F n P a w K Q := by
  unfold Oper.wpIn
  rw [calm_sem hc, hr]
  exact ⟨fun f hf => (by rw [calm_about hc] at hf; cases hf), h⟩
theorem wpListIn_val_at {ops : Array Oper} {rest : List Oper} {o : Oper} {a : Act} {w : World} {Q : Exit → Act → World → Prop} (hgd : o.guard = none) (hc : calm o = true) (v : Value) (w' : World) (hr : (execOp a.eval o).run P w = .ok (.value v) w') (h : wpListIn F n P ops Q rest (a.put o.dst v) w') : wpListIn F n P ops Q (o :: rest) a w :=
  wpListIn_plain hgd fun _ hK => wpIn_val_at hc v w' hr (hK _ _ h)
theorem exec_load {o : Oper} {ρ : Operand → Value} {w : World} (ty : TypeId) (x : Operand) (ho : o.op = .load ty x) (b f : Nat) (hx : ρ x = .pointer (some ⟨b, f, none⟩)) (cs : List Value) (d : TypeDesc) (hc : ∀ j v, cs[j]? = some v → w.cell? ⟨b, f + j, none⟩ = some v)
    (hu : P.underlying ty = some d) (hd : isRowType d = true) (hi : (P.info? ty).map (·.size) = some cs.length) : (execOp ρ o).run P w = .ok (.value (.agg cs.toArray)) w := by
  unfold execOp
  simp only [ho, hx, Instr.loadAt, Instr.sureAddr, Sem.run_bind, Sem.run_pure, Result.andThen_ok, run_loadVar_at w b f ty cs d hc hu hd hi]
theorem exec_lookup {κ : Type} [DecidableEq κ] {kv : κ → Value} {dec : Value → Option κ} {w : World} {b : Nat} {F : κ → Option Value} {o : Oper} {ρ : Operand → Value} {kt et t : TypeId} (K : KeyT P kt kv dec) (ht : P.underlying t = some (.map kt et)) {m x : Operand} (ho : o.op = .lookup t m x false)
    (h : MapIs kv dec w b F) (k : κ) (hm : ρ m = .map (some b)) (hx : ρ x = kv k) (z : Value) (hz : (zeroValue et).run P w = .ok z w) : (execOp ρ o).run P w = .ok (.value ((F k).getD z)) w := by
  have hr := map_lookup K ht h k z hz false
  simp only [Bool.false_eq_true, if_false] at hr
  unfold execOp
  simp only [ho, hm, hx, hr, Sem.run_bind, Sem.run_pure, Result.andThen_ok]
/-- One operation's step, in a fence. -/
def StepJIn (F : Fence) (n : Nat) (P : Program) (ops : Array Oper) (Q : Exit → Act → World → Prop) (J : (Nat → Bool) → Act → World → Prop) (i : Nat) (o : Oper) : Prop :=
  ∀ (D : Nat → Bool) (a : Act) (w : World) (K : Act → World → Prop), D i = false → (∀ j ∈ predsOf o, D j = true) → J D a w → (∀ a' w', J (upD D i) a' w' → K a' w') →
    if Region.wanted o (yielded ops a.tmps) = true then o.wpIn F n P a w K Q else ((∀ f, o.about P w a.eval = some f → F.fn f) ∧ K (a.put o.dst undef) w)
def StepsJIn (F : Fence) (n : Nat) (P : Program) (ops : Array Oper) (Q : Exit → Act → World → Prop) (J : (Nat → Bool) → Act → World → Prop) : Nat → List Oper → Prop
  | _, [] => True
  | i, o :: os => StepJIn F n P ops Q J i o ∧ StepsJIn F n P ops Q J (i + 1) os
theorem stepsIn_at {ops : Array Oper} {Q : Exit → Act → World → Prop} {J : (Nat → Bool) → Act → World → Prop} : ∀ (os : List Oper) (i : Nat), StepsJIn F n P ops Q J i os → ∀ j o, os[j]? = some o → StepJIn F n P ops Q J (i + j) o
  | [], _, _, j, o, h => by simp at h
  | o :: os, i, hs, 0, o', h => by simp at h; subst h; exact hs.1
  | o :: os, i, hs, j + 1, o', h => by
    have := stepsIn_at os (i + 1) hs.2 j o' (by simpa using h)
    rwa [Nat.add_right_comm, Nat.add_assoc] at this
theorem stepsIn_all {ops : Array Oper} {Q : Exit → Act → World → Prop} {J : (Nat → Bool) → Act → World → Prop} (h : StepsJIn F n P ops Q J 0 ops.toList) : ∀ i o, ops[i]? = some o → StepJIn F n P ops Q J i o := fun i o ho => by
  have := stepsIn_at ops.toList 0 h i o (by simpa using ho)
  rwa [Nat.zero_add] at this
theorem step_wpIn {ops : Array Oper} {Q : Exit → Act → World → Prop} {o : Oper} {a : Act} {w : World} {K : Act → World → Prop} {E : Prop} (hg : o.guard = none) (h : o.wpIn F n P a w K Q) : if Region.wanted o (yielded ops a.tmps) = true then o.wpIn F n P a w K Q else E := by
  rw [if_pos (by simp [Region.wanted, hg])]
  exact h
theorem wpIn_region_inv {id : Nat} {ops : Array Oper} {Q : Exit → Act → World → Prop} {a : Act} {w : World} (J : (Nat → Bool) → Act → World → Prop) (hm : P.follows .mixedOrders = true)
    (hback : ops.toList.zipIdx.all (fun x => (predsOf x.1).all fun j => decide (j < x.2)) = true)
    (h0 : J (fun _ => false) a w.drew)
    (hstep : ∀ i o, ops[i]? = some o → StepJIn F n P ops Q J i o)
    (hend : ∀ D a w, (∀ i, i < ops.size → D i = true) → J D a w → Q .normal a w) : (Code.region id ops true).wpIn F n P Q a w := by
  refine wpIn_region_any hm ?_
  have key : ∀ (fuel : Nat) (listed : Array Bool) (a : Act) (w : World), listed.size = ops.size → unlisted ops listed ≤ fuel → J (fun j => listed.getD j false) a w → wpAnyIn F n P .any ops Q fuel listed a w := by
    intro fuel
    induction fuel with
    | zero =>
      intro listed a w hs hu hJ
      have hr : Region.ready .any ops listed = [] := by
        rw [List.eq_nil_iff_forall_not_mem]
        intro i hi
        rw [mem_ready] at hi
        obtain ⟨h1, o, h2, _⟩ := hi
        have hlt : i < ops.size := (Array.getElem?_eq_some_iff.1 h2).1
        have hm : i ∈ (List.range ops.size).filter fun i => !listed.getD i true := List.mem_filter.2 ⟨List.mem_range.2 hlt, by simp [h1]⟩
        unfold unlisted at hu
        rw [List.eq_nil_of_length_eq_zero (Nat.le_zero.1 hu)] at hm
        cases hm
      exact ⟨hr, hend _ _ _ (ready_all hs hback hr) hJ⟩
    | succ fuel ih =>
      intro listed a w hs hu hJ
      refine ⟨fun hr => hend _ _ _ (ready_all hs hback hr) hJ, fun i hi => ?_⟩
      rw [mem_ready] at hi
      obtain ⟨h1, o, h2, h3⟩ := hi
      have hlt : i < ops.size := (Array.getElem?_eq_some_iff.1 h2).1
      have hD : listed.getD i false = false := by
        simp only [Array.getD] at h1 ⊢
        rw [dif_pos (by omega)] at h1 ⊢
        exact h1
      have hst := hstep i o h2 (fun j => listed.getD j false) a w (wpAnyIn F n P .any ops Q fuel (listed.setIfInBounds i true)) hD (fun j hj => by
        unfold predsOf at hj
        obtain ⟨e, he, rfl⟩ := List.mem_map.1 hj
        obtain ⟨he1, he2⟩ := List.mem_filter.1 he
        exact h3 e (by simpa using he1) he2) hJ (fun a' w' hJ' => ih _ a' w' (by simpa using hs) (by
          have : unlisted ops (listed.setIfInBounds i true) < unlisted ops listed := by
            unfold unlisted
            refine filter_lt (fun x hx => ?_) _ ⟨i, List.mem_range.2 hlt, by simp [h1], ?_⟩
            · by_cases e : i = x
              · subst e
                simp [Array.getD, hs, hlt] at hx
              · rw [getD_set_ne _ e] at hx; exact hx
            · simp [Array.getD, hs, hlt]
          omega) (by
          have e : (fun j => (listed.setIfInBounds i true).getD j false) = upD (fun j => listed.getD j false) i := by
            funext j
            unfold upD
            by_cases e : i = j
            · subst e
              simp [Array.getD, hs, hlt]
            · rw [if_neg (fun h => e h.symm), getD_set_ne _ e]
          rw [e]
          exact hJ'))
      unfold wpOpIn
      simp only [h2]
      exact hst
  refine key ops.size _ a _ (by simp) ?_ ?_
  · unfold unlisted
    exact Nat.le_trans (List.length_filter_le _ _) (by simp)
  · have e : (fun j => (Array.replicate ops.size false).getD j false) = fun _ => false := by
      funext j
      simp only [Array.getD]
      split
      · simp
      · rfl
    rw [e]
    exact h0
end
end Go.Proofs.Ytkkmkjjbffpgnaa
/- The plain law of Touches: how often a thread touches a variable; which threads do. -/
namespace Go.Proofs.Ytkkmkjjbffpgnaa
open Go
def atK (p : Node → Bool) (k : Int × Int) (h : Hit) : Bool := p h.n && (decide ((h.t : Int) = k.1) && decide (h.n.thing = k.2))
def cntT (p : Node → Bool) (pre : List Hit) (k : Int × Int) : Nat := (pre.filter (atK p k)).length
def cntM (p : Node → Bool) (pre : List Hit) (k : Int × Int) : Option Value := cntV (cntT p pre k)
theorem cntM_nil (p : Node → Bool) : cntM p [] = fun _ => none := rfl
theorem cntM_yes {p : Node → Bool} {pre : List Hit} {h : Hit} (hp : p h.n = true) : cntM p (pre ++ [h]) = fun k => if k = ((h.t : Int), h.n.thing) then some (.int .i64 ((cntT p pre ((h.t : Int), h.n.thing) : Nat) + 1)) else cntM p pre k := by
  funext k
  unfold cntM cntT
  rw [List.filter_append]
  by_cases e : k = ((h.t : Int), h.n.thing)
  · subst e
    rw [if_pos rfl]
    have : atK p ((h.t : Int), h.n.thing) h = true := by unfold atK; simp [hp]
    rw [List.filter_cons_of_pos this]
    simp only [List.filter_nil, List.length_append, List.length_cons, List.length_nil]
    unfold cntV
    rw [if_neg (by omega)]
    rfl
  · rw [if_neg e]
    have : ¬ atK p k h = true := by
      unfold atK
      simp only [Bool.and_eq_true, decide_eq_true_eq, not_and]
      intro _ h1 h2
      exact e (by rw [h1, h2])
    rw [List.filter_cons_of_neg this]
    simp
theorem cntM_no {p : Node → Bool} {pre : List Hit} {h : Hit} (hp : p h.n = false) : cntM p (pre ++ [h]) = cntM p pre := by
  funext k
  unfold cntM cntT
  rw [List.filter_append]
  have : ¬ atK p k h = true := by unfold atK; simp [hp]
  rw [List.filter_cons_of_neg this]
  simp
theorem cntT_le (p : Node → Bool) (pre : List Hit) (k : Int × Int) : cntT p pre k ≤ pre.length := List.length_filter_le _ _
theorem cntM_get (p : Node → Bool) (pre : List Hit) (k : Int × Int) : (cntM p pre k).getD (.int .i64 0) = .int .i64 (cntT p pre k : Nat) := cntV_get _
theorem hitsOf_has {t : Nat} {g : Graph} : ∀ (ns : List Node) (i j : Nat) (n : Node), ns[j]? = some n → ReachC g (-1) (i + j) → (⟨t, i + j, n, heldAt g (i + j)⟩ : Hit) ∈ hitsOf t g i ns
  | [], _, j, n, h, _ => by simp at h
  | m :: ns, i, 0, n, h, hr => by
    simp at h
    subst h
    rw [Nat.add_zero] at hr ⊢
    rw [hitsOf_yes hr]
    exact List.mem_cons_self
  | m :: ns, i, j + 1, n, h, hr => by
    have e : i + (j + 1) = i + 1 + j := by omega
    rw [e] at hr ⊢
    have ih := hitsOf_has (t := t) ns (i + 1) j n (by simpa using h) hr
    by_cases hri : ReachC g (-1) i
    · rw [hitsOf_yes hri]; exact List.mem_cons_of_mem _ ih
    · rw [hitsOf_no hri]; exact ih
theorem hits_has : ∀ (gs : List Graph) (t j i : Nat) (g : Graph) (n : Node), gs[j]? = some g → g.nodes[i]? = some n → ReachC g (-1) i → (⟨t + j, i, n, heldAt g i⟩ : Hit) ∈ hits t gs
  | [], _, _, _, _, _, h, _, _ => by simp at h
  | g0 :: gs, t, 0, i, g, n, h, hn, hr => by
    simp at h
    subst h
    simp only [hits]
    refine List.mem_append.2 (.inl ?_)
    have := hitsOf_has (t := t) g0.nodes 0 i n hn (by rwa [Nat.zero_add])
    simpa using this
  | g0 :: gs, t, j + 1, i, g, n, h, hn, hr => by
    simp only [hits]
    refine List.mem_append.2 (.inr ?_)
    have e : t + (j + 1) = t + 1 + j := by omega
    rw [e]
    exact hits_has gs (t + 1) j i g n (by simpa using h) hn hr
theorem cntT_any {u : Unit_} {p : Node → Bool} (hp : ∀ n, p n = true → touchB n = true) {t : Nat} {g : Graph} (hg : u.graphs[t]? = some g) (x : Int) : decide (0 < cntT p (TT u) ((t : Int), x)) = anyN g (atP p x) := by
  rw [Bool.eq_iff_iff, decide_eq_true_iff, anyN_iff]
  unfold cntT
  rw [List.length_pos_iff_exists_mem]
  constructor
  · rintro ⟨h, hm⟩
    obtain ⟨h1, h2⟩ := List.mem_filter.1 hm
    unfold TT at h1
    obtain ⟨h3, _⟩ := List.mem_filter.1 h1
    obtain ⟨j, g', e, hg', hn, _, hr⟩ := hits_mem _ _ h h3
    unfold atK at h2
    simp only [Bool.and_eq_true, decide_eq_true_eq] at h2
    obtain ⟨h4, h5, h6⟩ := h2
    have : j = t := by omega
    subst this
    rw [hg] at hg'
    injection hg' with hg'
    subst hg'
    exact ⟨h.i, h.n, hn, hr, by unfold atP; simp [h4, h6]⟩
  · rintro ⟨i, n, hn, hr, h⟩
    unfold atP at h
    simp only [Bool.and_eq_true, decide_eq_true_eq] at h
    have hm := hits_has u.graphs 0 t i g n hg hn hr
    rw [Nat.zero_add] at hm
    refine ⟨⟨t, i, n, heldAt g i⟩, List.mem_filter.2 ⟨?_, ?_⟩⟩
    · unfold TT
      exact List.mem_filter.2 ⟨hm, hp n h.1⟩
    · unfold atK
      simp [h.1, h.2]
/-- The threads that touch a variable, short of number k. -/
noncomputable def thrTo (u : Unit_) (p : Node → Bool) (x : Int) (k : Nat) : List Nat := (List.range k).filter fun t => ((u.graphs[t]?).map fun g => anyN g (atP p x)).getD false
theorem thrTo_zero (u : Unit_) (p : Node → Bool) (x : Int) : thrTo u p x 0 = [] := rfl
theorem thrTo_yes {u : Unit_} {p : Node → Bool} {x : Int} {k : Nat} {g : Graph} (hg : u.graphs[k]? = some g) (h : anyN g (atP p x) = true) : thrTo u p x (k + 1) = thrTo u p x k ++ [k] := by
  unfold thrTo
  rw [List.range_succ, List.filter_append, List.filter_cons_of_pos (by rw [hg]; simpa using h)]
  rfl
theorem thrTo_no {u : Unit_} {p : Node → Bool} {x : Int} {k : Nat} {g : Graph} (hg : u.graphs[k]? = some g) (h : anyN g (atP p x) = false) : thrTo u p x (k + 1) = thrTo u p x k := by
  unfold thrTo
  rw [List.range_succ, List.filter_append, List.filter_cons_of_neg (by rw [hg]; simp [h])]
  simp
theorem thrTo_length (u : Unit_) (p : Node → Bool) (x : Int) (k : Nat) : (thrTo u p x k).length ≤ k := by
  unfold thrTo
  exact Nat.le_trans (List.length_filter_le _ _) (by simp)
def natI (l : List Nat) : List Int := l.map Int.ofNat
abbrev Tou := List Int × List Int
/-- What Touches tells of a variable. -/
noncomputable def touF (u : Unit_) (x : Nat) : Tou := (natI (thrTo u rdB x u.graphs.length), natI (thrTo u wrB x u.graphs.length))
def touV (m : CM) (cs : List Value) (x : Tou) : Prop := ∃ a b, cs = [a, b] ∧ Ints m a x.1 ∧ Ints m b x.2
instance : MonoV touV := ⟨fun hm ⟨a, b, h, h1, h2⟩ => ⟨a, b, h, h1.mono hm, h2.mono hm⟩⟩
theorem natI_snoc (l : List Nat) (k : Nat) : natI (l ++ [k]) = natI l ++ [(k : Int)] := by simp [natI]
end Go.Proofs.Ytkkmkjjbffpgnaa
/- The row that sharing.Touches fills, in memory: what stands behind each append. -/
namespace Go.Proofs.Ytkkmkjjbffpgnaa
open Go Go.RowKit
abbrev nilS : Value := .slice none 0 0
theorem made2 (x : Value) (n : Nat) : madeCells #[x, x] n = (List.replicate n x).toArray := by
  apply Array.ext_getElem?
  intro j
  unfold madeCells
  by_cases hj : j < n
  · have h2 : j % 2 < 2 := Nat.mod_lt _ (by decide)
    have h3 : ([x, x] : List Value)[j % 2]?.getD default = x := by
      rcases (show j % 2 = 0 ∨ j % 2 = 1 by omega) with e | e <;> rw [e] <;> rfl
    simp [hj, h3]
  · simp [hj]
theorem mk2_run {P : Program} {t e bytes : Nat} {x : Value} (T : SlT P t e 2 bytes (.agg #[x, x])) (n : Nat) (hn : n < 4294967296) (hb : bytes ≤ 1024) (w : World) :
    (Instr.makeSlice t (.int .i64 (n : Int)) (.int .i64 (n : Int))).run P w = .ok (.slice (some ⟨w.heap.size, 0, none⟩) n n) (w.alloc (.cells (List.replicate (n * 2) x).toArray e)) := by
  obtain ⟨i, hi, hz, hsz, hby⟩ := T.info
  have hbn : ((i.bytes : Nat) : Int) * (n : Int) ≤ 281474976710656 := by
    have : i.bytes * n ≤ 1024 * 4294967296 := Nat.mul_le_mul (by omega) (by omega)
    have : ((i.bytes * n : Nat) : Int) ≤ 281474976710656 := by omega
    rwa [Int.natCast_mul] at this
  have hr := run_make (P := P) w t e i (.agg #[x, x]) T.ht hi hz .i64 .i64 n n (by omega) (Int.le_refl _) hbn (by omega)
  have hm : madeCells (Value.agg #[x, x]).cells ((n : Int).toNat * i.size) = (List.replicate (n * 2) x).toArray := by
    rw [hsz, Int.toNat_natCast]
    exact made2 x (n * 2)
  rw [hm, Int.toNat_natCast] at hr
  exact hr
theorem OkRow.kept {w w' : World} {base s n : Nat} {e : TypeId} {v : Value} {row : Option Nat} (h : OkRow w base e s v n) (hg : w.grownBy w' row) (hs : v.ownBlock = none ∨ v.ownBlock ≠ row) : OkRow w' base e s v n := by
  obtain ⟨ys, hy⟩ := h
  exact ⟨ys, hy.kept hg hs⟩
/-- A cell of a row is itself a row of the call's own. -/
def OkIn (w : World) (B2 : Nat) (IT : TypeId) (S : Nat → Prop) (x : Value) : Prop := (∀ q, x.ownBlock = some q → S q) ∧ ∃ m, m ≤ 4096 ∧ OkRow w B2 IT 1 x m
theorem OkIn.keep {w w' : World} {B2 : Nat} {IT : TypeId} {S S' : Nat → Prop} {x : Value} {row : Option Nat} (h : OkIn w B2 IT S x) (hg : w.grownBy w' row) (hs : ∀ q, S q → some q ≠ row) (hS : ∀ q, S q → S' q) : OkIn w' B2 IT S' x := by
  obtain ⟨h1, m, h2, h3⟩ := h
  refine ⟨fun q hq => hS q (h1 q hq), m, h2, h3.kept hg ?_⟩
  cases hv : x.ownBlock with
  | none => exact .inl rfl
  | some q => exact .inr (hs q (h1 q hv))
theorem OkIn.shape {w w' : World} {B2 : Nat} {IT : TypeId} {S : Nat → Prop} {x : Value} (h : OkIn w B2 IT S x) (hs : Shape w w') : OkIn w' B2 IT S x := by
  obtain ⟨h1, m, h2, h3⟩ := h
  exact ⟨h1, m, h2, h3.shape hs⟩
/-- The row while one variable's threads are gathered. -/
structure TouI (TT IT : TypeId) (B2 ob n k : Nat) (rows : List (List Value)) (S : Nat → Prop) (f : Nat → Tou) (a b : Value) (la lb : List Nat) (wr : World) : Prop where
  out : Blk wr ob TT (rows.flatten ++ ([a, b] ++ List.replicate ((n - k - 1) * 2) nilS))
  len : rows.length = k
  two : ∀ r ∈ rows, r.length = 2
  val : ∀ (i : Nat) r, rows[i]? = some r → touV (on wr S) r (f i)
  sep : ∀ q, S q → B2 ≤ q ∧ q < wr.heap.size ∧ q ≠ ob ∧ some q ≠ a.ownBlock ∧ some q ≠ b.ownBlock
  oa : wr.ownsRow B2 IT 1 a la.length (ints (natI la))
  ob_ : wr.ownsRow B2 IT 1 b lb.length (ints (natI lb))
  ne : a.ownBlock = none ∨ a.ownBlock ≠ b.ownBlock
  na : some ob ≠ a.ownBlock
  nb : some ob ≠ b.ownBlock
  okr : ∀ r ∈ rows, ∀ x ∈ r, OkIn wr B2 IT S x
section
variable {TT IT : TypeId} {B2 ob n k : Nat} {rows : List (List Value)} {S : Nat → Prop} {f : Nat → Tou} {a b a' : Value} {la lb : List Nat} {wr wx w3 : World}
theorem TouI.keep (h : TouI TT IT B2 ob n k rows S f a b la lb wr) (hb : Below wr.heap.size wr wx) : TouI TT IT B2 ob n k rows S f a b la lb wx := by
  have hg : wr.grownBy wx none := ⟨hb.os, hb.tape, hb.output, hb.size, fun k hk _ => hb.block k hk⟩
  refine ⟨h.out.below hb h.out.lt, h.len, h.two, fun i r hr => MonoV.mono (on_keep (fun q hq hlt => hb.block q hlt) (fun _ h => h)) (h.val i r hr), fun q hq => ?_, h.oa.kept hg ?_, h.ob_.kept hg ?_, h.ne, h.na, h.nb, fun r hr x hx => (h.okr r hr x hx).shape (Shape.below hb)⟩
  · have := h.sep q hq
    exact ⟨this.1, Nat.lt_of_lt_of_le this.2.1 hb.size, this.2.2⟩
  · cases hv : a.ownBlock with
    | none => exact .inl rfl
    | some x => exact .inr (by simp)
  · cases hv : b.ownBlock with
    | none => exact .inl rfl
    | some x => exact .inr (by simp)
theorem flat2_length : ∀ (rows : List (List Value)), (∀ r ∈ rows, r.length = 2) → rows.flatten.length = rows.length * 2
  | [], _ => rfl
  | r :: rows, h => by
    rw [List.flatten_cons, List.length_append, flat2_length rows (fun r hr => h r (by simp [hr])), h r (by simp), List.length_cons]
    omega
theorem TouI.cellA (h : TouI TT IT B2 ob n k rows S f a b la lb wr) : wr.cell? ⟨ob, k * 2, none⟩ = some a := by
  rw [h.out.cell]
  have hl := flat2_length rows h.two
  rw [h.len] at hl
  rw [List.getElem?_append_right (by omega), hl, Nat.sub_self]
  rfl
theorem TouI.cellB (h : TouI TT IT B2 ob n k rows S f a b la lb wr) : wr.cell? ⟨ob, k * 2 + 1, none⟩ = some b := by
  rw [h.out.cell]
  have hl := flat2_length rows h.two
  rw [h.len] at hl
  rw [List.getElem?_append_right (by omega), hl, Nat.add_sub_cancel_left]
  rfl
theorem TouI.pushA (h : TouI TT IT B2 ob n k rows S f a b la lb wr) (hIT : IT ≠ TT) {j : Nat} (ho : w3.ownsRow B2 IT 1 a' (la.length + 1) (ints (natI la) ++ [.int .i64 (j : Int)])) (hg : wr.grownBy w3 a.ownBlock) (hob : a'.ownBlock = a.ownBlock ∨ a'.ownBlock = some wr.heap.size) :
    TouI TT IT B2 ob n k rows S f a' b (la ++ [j]) lb (w3.setCell ⟨ob, k * 2, none⟩ a') := by
  have ho3 := h.out.grown hg h.na
  have hna : some ob ≠ a'.ownBlock := own_blk ho ho3 hIT
  have hg4 : w3.grownBy (w3.setCell ⟨ob, k * 2, none⟩ a') (some ob) := ⟨rfl, rfl, rfl, by simp [World.setCell], fun q hq hne => Below.heap_setCell _ _ _ _ (fun e => hne (by rw [e]))⟩
  have hl := flat2_length rows h.two
  rw [h.len] at hl
  refine ⟨?_, h.len, h.two, fun i r hr => MonoV.mono (on_keep (fun q hq hlt => ?_) (fun _ h => h)) (h.val i r hr), fun q hq => ?_, ?_, ?_, ?_, hna, h.nb, fun r hr x hx => ((h.okr r hr x hx).keep hg (fun q hq => (h.sep q hq).2.2.2.1) (fun _ h => h)).shape (Shape.setCell _ _ _ _)⟩
  · have := ho3.set_ (k * 2) a'
    rw [List.set_append, if_neg (by omega), hl, Nat.sub_self] at this
    exact this
  · have hs := h.sep q hq
    exact (Below.heap_setCell _ _ _ _ hs.2.2.1).trans (hg.block q hlt hs.2.2.2.1)
  · have hs := h.sep q hq
    refine ⟨hs.1, ?_, hs.2.2.1, ?_, hs.2.2.2.2⟩
    · simp [World.setCell]
      exact Nat.lt_of_lt_of_le hs.2.1 hg.size
    · rcases hob with e | e
      · rw [e]; exact hs.2.2.2.1
      · rw [e]; intro e2; injection e2 with e2; omega
  · have h1 := ho.kept hg4 (.inr (fun e => hna e.symm))
    rw [natI_snoc, List.length_append]
    unfold ints at h1 ⊢
    rw [List.map_append]
    exact h1
  · refine (h.ob_.kept hg ?_).kept hg4 (.inr (fun e => h.nb e.symm))
    cases hv : b.ownBlock with
    | none => exact .inl rfl
    | some x =>
      right
      rcases h.ne with e | e
      · rw [e]; simp
      · rw [hv] at e; exact fun q => e q.symm
  · rcases hob with e | e
    · rw [e]; exact h.ne
    · right
      rw [e]
      intro e2
      have := (h.ob_.lt _ e2.symm).2
      omega
theorem TouI.pushB {b' : Value} (h : TouI TT IT B2 ob n k rows S f a b la lb wr) (hIT : IT ≠ TT) {j : Nat} (ho : w3.ownsRow B2 IT 1 b' (lb.length + 1) (ints (natI lb) ++ [.int .i64 (j : Int)])) (hg : wr.grownBy w3 b.ownBlock) (hob : b'.ownBlock = b.ownBlock ∨ b'.ownBlock = some wr.heap.size) :
    TouI TT IT B2 ob n k rows S f a b' la (lb ++ [j]) (w3.setCell ⟨ob, k * 2 + 1, none⟩ b') := by
  have ho3 := h.out.grown hg h.nb
  have hnb : some ob ≠ b'.ownBlock := own_blk ho ho3 hIT
  have hg4 : w3.grownBy (w3.setCell ⟨ob, k * 2 + 1, none⟩ b') (some ob) := ⟨rfl, rfl, rfl, by simp [World.setCell], fun q hq hne => Below.heap_setCell _ _ _ _ (fun e => hne (by rw [e]))⟩
  have hl := flat2_length rows h.two
  rw [h.len] at hl
  refine ⟨?_, h.len, h.two, fun i r hr => MonoV.mono (on_keep (fun q hq hlt => ?_) (fun _ h => h)) (h.val i r hr), fun q hq => ?_, ?_, ?_, ?_, h.na, hnb, fun r hr x hx => ((h.okr r hr x hx).keep hg (fun q hq => (h.sep q hq).2.2.2.2) (fun _ h => h)).shape (Shape.setCell _ _ _ _)⟩
  · have := ho3.set_ (k * 2 + 1) b'
    rw [List.set_append, if_neg (by omega), hl, Nat.add_sub_cancel_left] at this
    exact this
  · have hs := h.sep q hq
    exact (Below.heap_setCell _ _ _ _ hs.2.2.1).trans (hg.block q hlt hs.2.2.2.2)
  · have hs := h.sep q hq
    refine ⟨hs.1, ?_, hs.2.2.1, hs.2.2.2.1, ?_⟩
    · simp [World.setCell]
      exact Nat.lt_of_lt_of_le hs.2.1 hg.size
    · rcases hob with e | e
      · rw [e]; exact hs.2.2.2.2
      · rw [e]; intro e2; injection e2 with e2; omega
  · refine (h.oa.kept hg ?_).kept hg4 (.inr (fun e => h.na e.symm))
    rcases h.ne with e | e
    · exact .inl e
    · exact .inr e
  · have h1 := ho.kept hg4 (.inr (fun e => hnb e.symm))
    rw [natI_snoc, List.length_append]
    unfold ints at h1 ⊢
    rw [List.map_append]
    exact h1
  · rcases hob with e | e
    · rw [e]; exact h.ne
    · cases hv : a.ownBlock with
      | none => exact .inl rfl
      | some x =>
        right
        rw [e]
        intro e2
        injection e2 with e2
        have := (h.oa.lt _ hv).2
        omega
/-- The row with k variables done. -/
structure TouO (TT IT : TypeId) (B2 ob n k : Nat) (rows : List (List Value)) (S : Nat → Prop) (f : Nat → Tou) (wr : World) : Prop where
  out : Blk wr ob TT (rows.flatten ++ List.replicate ((n - k) * 2) nilS)
  len : rows.length = k
  two : ∀ r ∈ rows, r.length = 2
  val : ∀ (i : Nat) r, rows[i]? = some r → touV (on wr S) r (f i)
  sep : ∀ q, S q → B2 ≤ q ∧ q < wr.heap.size ∧ q ≠ ob
  okr : ∀ r ∈ rows, ∀ x ∈ r, OkIn wr B2 IT S x
theorem TouO.begin (h : TouO TT IT B2 ob n k rows S f wr) (hk : k < n) : TouI TT IT B2 ob n k rows S f nilS nilS [] [] wr := by
  refine ⟨?_, h.len, h.two, h.val, fun q hq => ?_, World.ownsRow_nil _ _ _ _, World.ownsRow_nil _ _ _ _, .inl rfl, by simp [Value.ownBlock], by simp [Value.ownBlock], h.okr⟩
  · have := h.out
    have e : (n - k) * 2 = (n - k - 1) * 2 + 1 + 1 := by omega
    rw [e, List.replicate_succ, List.replicate_succ] at this
    exact this
  · have := h.sep q hq
    exact ⟨this.1, this.2.1, this.2.2, by simp [Value.ownBlock], by simp [Value.ownBlock]⟩
theorem TouI.finish (h : TouI TT IT B2 ob n k rows S f a b la lb wr) (_hB : B2 ≤ ob) (hf : f k = (natI la, natI lb)) (hla : la.length ≤ 4096) (hlb : lb.length ≤ 4096) : TouO TT IT B2 ob n (k + 1) (rows ++ [[a, b]]) (fun q => S q ∨ some q = a.ownBlock ∨ some q = b.ownBlock) f wr := by
  have key : ∀ (v : Value) (l : List Nat), wr.ownsRow B2 IT 1 v l.length (ints (natI l)) → (∀ q, some q = v.ownBlock → S q ∨ some q = a.ownBlock ∨ some q = b.ownBlock) → Ints (on wr (fun q => S q ∨ some q = a.ownBlock ∨ some q = b.ownBlock)) v (natI l) := by
    intro v l ho hS
    have hll : (natI l).length = l.length := by simp [natI]
    rcases ho.2 with ⟨rfl, h0⟩ | ⟨g, cap, cur, rfl, hb, hh, hnc, hcm, _⟩
    · exact ⟨none, 0, by rw [hll, h0], by omega, ⟨by simp [maxLen], fun _ => rfl⟩, .inl (List.eq_nil_of_length_eq_zero (by omega))⟩
    · refine ⟨_, cap, by rw [hll], by omega, ⟨hcm, fun h => by cases h⟩, .inr ⟨g, 0, rfl, fun i x hx => ?_⟩⟩
      have hi : i < l.length := by have := (List.getElem?_eq_some_iff.1 hx).1; omega
      have := ho.cellAt i (by omega)
      refine on_mk ?_ (hS g rfl)
      rw [Nat.zero_add, Nat.mul_one, this]
      unfold ints
      rw [List.getElem?_map, hx]
      rfl
  refine ⟨?_, by simp [h.len], fun r hr => ?_, fun i r hr => ?_, fun q hq => ?_, fun r hr x hx => ?_⟩
  · have := h.out
    rw [List.flatten_append]
    have e : n - (k + 1) = n - k - 1 := by omega
    rw [e]
    simpa using this
  · rcases List.mem_append.1 hr with e | e
    · exact h.two r e
    · rw [List.mem_singleton] at e; subst e; rfl
  · rw [List.getElem?_append] at hr
    split at hr
    · exact MonoV.mono (on_keep (fun _ _ _ => rfl) (fun q hq => .inl hq)) (h.val i r hr)
    · rename_i hi
      have hik : i = k := by
        have := (List.getElem?_eq_some_iff.1 hr).1
        have := h.len
        simp at *
        omega
      subst hik
      rw [h.len, Nat.sub_self] at hr
      simp at hr
      subst hr
      rw [hf]
      exact ⟨a, b, rfl, key a la h.oa (fun q e => .inr (.inl e)), key b lb h.ob_ (fun q e => .inr (.inr e))⟩
  · rcases hq with hq | hq | hq
    · have := h.sep q hq
      exact ⟨this.1, this.2.1, this.2.2.1⟩
    · have := h.oa.lt q hq.symm
      exact ⟨this.1, this.2, fun e => h.na (by rw [← e]; exact hq)⟩
    · have := h.ob_.lt q hq.symm
      exact ⟨this.1, this.2, fun e => h.nb (by rw [← e]; exact hq)⟩
  · rcases List.mem_append.1 hr with e | e
    · obtain ⟨k1, m, k2, k3⟩ := h.okr r e x hx
      exact ⟨fun q hq => .inl (k1 q hq), m, k2, k3⟩
    · rw [List.mem_singleton] at e
      subst e
      simp only [List.mem_cons, List.not_mem_nil, or_false] at hx
      rcases hx with rfl | rfl
      · exact ⟨fun q hq => .inr (.inl hq.symm), _, hla, _, h.oa⟩
      · exact ⟨fun q hq => .inr (.inr hq.symm), _, hlb, _, h.ob_⟩
theorem TouO.grown {D : Nat} (h : TouO TT IT B2 ob n k rows S f wr) (hg : wr.grownBy wx (some D)) (hD : D < B2) (hB : B2 ≤ ob) : TouO TT IT B2 ob n k rows S f wx :=
  ⟨h.out.grown hg (fun e => by injection e with e; omega), h.len, h.two, fun i r hr => MonoV.mono (on_keep (fun q hq hlt => hg.block q hlt (fun e => by injection e with e; have := (h.sep q hq).1; omega)) (fun _ h => h)) (h.val i r hr),
    fun q hq => by have := h.sep q hq; exact ⟨this.1, Nat.lt_of_lt_of_le this.2.1 hg.size, this.2.2⟩,
    fun r hr x hx => (h.okr r hr x hx).keep hg (fun q hq e => by injection e with e; have := (h.sep q hq).1; omega) (fun _ h => h)⟩
theorem TouO.done (h : TouO TT IT B2 ob n n rows S f wr) (hB : B2 ≤ ob) (hn : n < 4294967296) {lo hi : Nat} (hlo : lo ≤ B2) (hhi : wr.heap.size ≤ hi) : Sl (Cells touV) 2 (part wr lo hi) (.slice (some ⟨ob, 0, none⟩) n n) ((List.range n).map f) := by
  have hlt := h.out.lt
  refine ⟨_, n, by simp, by simp, ⟨by simp only [maxLen]; omega, fun h => by cases h⟩, .inr ⟨ob, 0, rfl, fun i x hx => ?_⟩⟩
  have hi' : i < n := by have := (List.getElem?_eq_some_iff.1 hx).1; simpa using this
  have hr : rows[i]? = some (rows[i]'(by rw [h.len]; exact hi')) := List.getElem?_eq_getElem _
  rw [List.getElem?_map, List.getElem?_range hi'] at hx
  injection hx with hx
  subst hx
  refine ⟨_, MonoV.mono (on_part wr fun q hq => ?_) (h.val i _ hr), fun j v hj => ?_⟩
  · have := h.sep q hq
    omega
  · unfold part
    rw [if_pos ⟨by omega, by omega⟩, Nat.zero_add, h.out.cell]
    have := flatten_at rows 2 i _ h.two hr j v hj
    have hl := (List.getElem?_eq_some_iff.1 this).1
    rw [List.getElem?_append_left hl]
    exact this
/-- A row of pairs of rows of the call's own, whatever they hold. -/
def OkTous (w : World) (base : Nat) (t e : TypeId) (v : Value) (n K : Nat) : Prop := ∃ ys, w.ownsRow base t 2 v n ys ∧ ∀ x ∈ ys, ∃ m, m ≤ K ∧ OkRow w base e 1 x m
theorem TouO.oks (h : TouO TT IT B2 ob n n rows S f wr) (hB : B2 ≤ ob) (hn : n < 4294967296) {lo : Nat} (hlo : lo ≤ B2) : OkTous wr lo TT IT (.slice (some ⟨ob, 0, none⟩) n n) n 4096 := by
  have ho := h.out
  rw [Nat.sub_self, Nat.zero_mul, List.replicate_zero, List.append_nil] at ho
  have hl := flat2_length rows h.two
  rw [h.len] at hl
  refine ⟨rows.flatten, ⟨hl, .inr ⟨ob, n, _, rfl, by omega, ho, Nat.le_refl _, by simp only [maxLen]; omega, by simp [hl], ?_⟩⟩, fun x hx => ?_⟩
  · rw [List.take_of_length_le (by simp [hl])]
  · obtain ⟨r, hr, hx⟩ := List.mem_flatten.1 hx
    obtain ⟨-, m, h2, h3⟩ := h.okr r hr x hx
    exact ⟨m, h2, h3.low hlo⟩
end
end Go.Proofs.Ytkkmkjjbffpgnaa
