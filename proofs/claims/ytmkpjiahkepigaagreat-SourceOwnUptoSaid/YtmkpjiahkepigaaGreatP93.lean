import Derived.Test.YtmkpjiahkepigaaGreatP40
import Derived.Test.YtmkpjiahkepigaaGreatP70
import Derived.Test.YtmkpjiahkepigaaGreatP82
import Derived.Laws.Concat
import Derived.Test.YtmkpjiahkepigaaGreatP92
import Derived.Test.YtmkpjiahkepigaaGreatP83
/- A law for a drawn region whose operations yield values only: each yields what its row says, whichever order comes up. -/
namespace Go.Proofs.YtmkpjiahkepigaaGreat
open Go Go.RowKit
/-- What an operation yields: a value, a row of words that reads as a list, prints. -/
inductive SV where
  | is (v : Value)
  | ints (l : List Int)
  | prints (l : List (Int × Int))
  | bytes (l : List UInt8)
def SV.holds : SV → World → Value → Prop
  | .is x, _, v => v = x
  | .ints l, w, v => ∃ A c, v = .slice A l.length c ∧ Ints (cmap w) v l
  | .prints l, w, v => ∃ A c, v = .slice A l.length c ∧ PrintsV (cmap w) v l
  | .bytes l, w, v => ∃ b c, v = .slice (some ⟨b, 0, none⟩) l.length c ∧ ∀ j (hj : j < l.length), w.cell? ⟨b, 0 + j, none⟩ = some (.int .u8 (l[j].toNat : Int))
theorem SV.mono : ∀ (s : SV) {w w' : World} {v : Value}, Below w.heap.size w w' → s.holds w v → s.holds w' v
  | .is _, _, _, _, _, h => h
  | .ints _, _, _, _, hb, ⟨A, c, e, h⟩ => ⟨A, c, e, h.mono (cmap_below hb)⟩
  | .prints _, _, _, _, hb, ⟨A, c, e, h⟩ => ⟨A, c, e, h.mono (cmap_below hb)⟩
  | .bytes _, _, _, _, hb, ⟨b, c, e, h⟩ => ⟨b, c, e, fun j hj => cmap_below hb _ _ _ (h j hj)⟩
/-- What holds whichever operations have come up: an operation's row names its slot and what stands there. -/
structure JV (ops : Array Oper) (W0 : World) (sp : List (Nat × SV)) (a0 : Act) (D : Nat → Bool) (a : Act) (w : World) : Prop where
  fr : Fr (sp.map (·.1)) a0 a
  below : Below W0.heap.size W0 w
  val : ∀ i s, sp[i]? = some s → D i = true → s.2.holds w (a.eval (.tmp s.1))
  un : ∀ i s, sp[i]? = some s → D i = false → a.eval (.tmp s.1) = a0.eval (.tmp s.1)
  ord : ∀ i o, ops[i]? = some o → D i = true → ∀ j ∈ predsOf o, D j = true
theorem JV.start {ops : Array Oper} {W0 : World} {sp : List (Nat × SV)} {a0 : Act} : JV ops W0 sp a0 (fun _ => false) a0 W0.drew :=
  ⟨Fr.refl _ _, (Below.refl _ W0).drew, fun _ _ _ h => (by cases h), fun _ _ _ _ => rfl, fun _ _ _ h => (by cases h)⟩
theorem JV.step {P : Program} {ops : Array Oper} {Q : Exit → Act → World → Prop} {W0 : World} {sp : List (Nat × SV)} {a0 : Act} {slots : List Nat} (hsl : sp.map (·.1) = slots) (hnd : slots.Nodup) (hsz : ∀ d ∈ slots, d < a0.tmps.size) {i : Nat} {o : Oper} (s : Nat × SV) (hs : sp[i]? = some s) (ho : o.dst = some s.1) (hop : ops[i]? = some o)
    (h : ∀ (D : Nat → Bool) (a : Act) (w : World) (K : Act → World → Prop), D i = false → (∀ j ∈ predsOf o, D j = true) → JV ops W0 sp a0 D a w → (∀ v w', Below w.heap.size w w' → s.2.holds w' v → K (a.put o.dst v) w') → if Region.wanted o (yielded ops a.tmps) = true then o.wp P a w K Q else K (a.put o.dst undef) w) : StepJ P ops Q (JV ops W0 sp a0) i o := by
  subst hsl
  intro D a w K hD hp hJ hK
  have hmem : s ∈ sp := List.mem_of_getElem? hs
  have hmf : s.1 ∈ sp.map (·.1) := List.mem_map.2 ⟨s, hmem, rfl⟩
  have hne : ∀ j s', sp[j]? = some s' → j ≠ i → s'.1 ≠ s.1 := by
    intro j s' hj e q
    have h1 : (sp.map (·.1))[j]? = some s'.1 := by rw [List.getElem?_map, hj]; rfl
    have h2 : (sp.map (·.1))[i]? = some s.1 := by rw [List.getElem?_map, hs]; rfl
    have hlt : j < (sp.map (·.1)).length := (List.getElem?_eq_some_iff.1 h1).1
    exact e ((List.getElem?_inj hlt hnd).1 (by rw [h1, h2, q]))
  refine h D a w K hD hp hJ fun v w' hb hv => hK _ _ ⟨?_, hJ.below.trans (hb.mono hJ.below.size), fun j s' hj hd => ?_, fun j s' hj hd => ?_, fun j o' ho' hd k hk => ?_⟩
  · rw [ho]
    exact hJ.fr.put hmf v
  · rw [ho]
    by_cases e : j = i
    · subst e
      rw [hs] at hj
      injection hj with hj
      subst hj
      rw [hJ.fr.eval_put (hsz _ hmf)]
      exact hv
    · rw [upD_ne _ e] at hd
      rw [eval_put_ne (hne j s' hj e)]
      exact s'.2.mono hb (hJ.val j s' hj hd)
  · rw [ho]
    by_cases e : j = i
    · subst e
      rw [upD_same] at hd
      cases hd
    · rw [upD_ne _ e] at hd
      rw [eval_put_ne (hne j s' hj e)]
      exact hJ.un j s' hj hd
  · by_cases e : j = i
    · subst e
      rw [hop] at ho'
      injection ho' with ho'
      subst ho'
      exact upD_mono (hp k hk)
    · rw [upD_ne _ e] at hd
      exact upD_mono (hJ.ord j o' ho' hd k hk)
/-- An operation that must come up behind this one has not come up. -/
theorem JV.off {ops : Array Oper} {W0 : World} {sp : List (Nat × SV)} {a0 a : Act} {D : Nat → Bool} {w : World} (h : JV ops W0 sp a0 D a w) {i j : Nat} {o : Oper} (ho : ops[j]? = some o) (hi : i ∈ predsOf o) (hD : D i = false) : D j = false := by
  cases hj : D j with
  | false => rfl
  | true =>
    have := h.ord j o ho hj i hi
    rw [hD] at this
    cases this
theorem wp_region_val {P : Program} {id : Nat} {ops : Array Oper} {Q : Exit → Act → World → Prop} {a : Act} {w : World} (sp : List (Nat × SV)) (hm : P.follows .mixedOrders = true) (hback : ops.toList.zipIdx.all (fun x => (predsOf x.1).all fun j => decide (j < x.2)) = true)
    (hs : StepsJ P ops Q (JV ops w sp a) 0 ops.toList) (hend : ∀ D a' w', (∀ i, i < ops.size → D i = true) → JV ops w sp a D a' w' → Q .normal a' w') : (Code.region id ops true).wp P Q a w :=
  wp_region_inv (JV ops w sp a) hm hback JV.start (steps_all hs) hend
theorem wp_call_on {P : Program} {Q : Exit → Act → World → Prop} {o : Oper} {a : Act} {w : World} {K : Act → World → Prop} {s : SV} {f : FuncId} {args : Array Operand} {ts : Array TypeId} {fn : Func} (hK : ∀ v w', Below w.heap.size w w' → s.holds w' v → K (a.put o.dst v) w') (hf : P.funcs[f]? = some fn) (hn : (fn.name == "runtime.NumGoroutine") = false) (hb : fn.body.isNone = false)
    (ho : o.op = .call { callee := .value (.func f), args := args, argTypes := ts }) (vs : Array Value) (hv : args.map a.eval = vs)
    (h : Calls P f vs w fun e w' => ∃ v, e = .returned v ∧ Below w.heap.size w w' ∧ s.holds w' v) : o.wp P a w K Q := by
  refine wp_call_at hf hn hb ho vs hv (h.mono ?_)
  rintro e w' ⟨v, rfl, hb, hs⟩
  exact ⟨v, rfl, hK _ _ hb hs⟩
theorem wp_val_on {P : Program} {Q : Exit → Act → World → Prop} {o : Oper} {a : Act} {w : World} {K : Act → World → Prop} {v : Value} (hK : ∀ v' w', Below w.heap.size w w' → (SV.is v).holds w' v' → K (a.put o.dst v') w') (hr : (execOp a.eval o).run P w = .ok (.value v) w) : o.wp P a w K Q :=
  wp_val_at v hr (hK _ _ (Below.refl _ w) rfl)
theorem wp_move_on {P : Program} {Q : Exit → Act → World → Prop} {o : Oper} {a : Act} {w : World} {K : Act → World → Prop} {s : SV} {x : Operand} (hK : ∀ v w', Below w.heap.size w w' → s.holds w' v → K (a.put o.dst v) w') (ho : o.op = .move x) (hs : s.holds w (a.eval x)) : o.wp P a w K Q :=
  wp_move_at ho (hK _ _ (Below.refl _ w) hs)
theorem wp_load_on {P : Program} {Q : Exit → Act → World → Prop} {o : Oper} {a : Act} {w : World} {K : Act → World → Prop} {cs : List Value} (hK : ∀ v w', Below w.heap.size w w' → (SV.is (.agg cs.toArray)).holds w' v → K (a.put o.dst v) w') (t : TypeId) (x : Operand) (ho : o.op = .load t x) (b f : Nat) (hx : a.eval x = .pointer (some ⟨b, f, none⟩)) (d : TypeDesc) (hg : ∀ j v, cs[j]? = some v → w.cell? ⟨b, f + j, none⟩ = some v) (hu : P.underlying t = some d) (hd : isRowType d = true)
    (hi : (P.info? t).map (·.size) = some cs.length) : o.wp P a w K Q :=
  wp_load_at t x ho b f hx cs d hg hu hd hi (hK _ _ (Below.refl _ w) rfl)
/-- The frame at the end: one put a slot. -/
def putAll (a0 : Act) (e : Operand → Value) : List Nat → Act
  | [] => a0
  | d :: ds => putAll (a0.put (some d) (e (.tmp d))) e ds
theorem Fr.all {a : Act} : ∀ {slots : List Nat} {a0 : Act}, Fr slots a0 a → (∀ d ∈ slots, d < a0.tmps.size) → a = putAll a0 a.eval slots
  | [], _, h, _ => h.done
  | d :: ds, a0, h, hs => by
    unfold putAll
    exact Fr.all (h.shut (hs d (by simp))) fun k hk => by simp only [Act.put, Array.size_setIfInBounds]; exact hs k (by simp [hk])
end Go.Proofs.YtmkpjiahkepigaaGreat
/- The reference's digits and Print. -/
namespace Go.Proofs.YtmkpjiahkepigaaGreat
open Go Go.RowKit
theorem sl_u8 : SlT Tryz.prog 109 5 1 1 (.int .u8 0) := SlT.mk' Tryz.underlying109 (by kernel_rfl) rfl (by omega)
theorem run_build_u8 (w : World) (x : Int) : (Instr.buildSlice 109 1 #[(0, .int .u8 x)]).run Tryz.prog w = .ok (.slice (some ⟨w.heap.size, 0, none⟩) 1 1) (w.alloc (.cells #[.int .u8 x] 5)) := by
  obtain ⟨ie, h1, h2, h3, h4⟩ := sl_u8.info
  exact run_buildSlice w _ _ 1 _ _ ie _ sl_u8.ht h1 h2 (by rw [h3]; decide) (by rw [h3]; decide) (by rw [h3]; kernel_rfl)
theorem wp_build_u8 {o : Oper} {a : Act} {w : World} {K : Act → World → Prop} {Q : Exit → Act → World → Prop} (_hg : o.guard = none) (e : Operand) (ho : o.op = .buildSlice 109 1 #[(0, e)]) {x : Int} (he : a.eval e = .int .u8 x)
    (h : K (a.put o.dst (.slice (some ⟨w.heap.size, 0, none⟩) 1 1)) (w.alloc (.cells #[.int .u8 x] 5))) : o.wp Tryz.prog a w K Q := by
  unfold Oper.wp execOp
  simp only [ho, List.map_toArray, List.map_cons, List.map_nil, he, run_build_u8, Sem.run_bind, Result.andThen_ok, Oper.upon]
  exact h
theorem wp_back_on {P : Program} {Q : Exit → Act → World → Prop} {o : Oper} {a : Act} {w : World} {K : Act → World → Prop} {l : List UInt8} (hK : ∀ v w', Below w.heap.size w w' → (SV.is (.string ⟨l.toArray⟩)).holds w' v → K (a.put o.dst v) w') (_hgd : o.guard = none) (src dst e : TypeId) (x : Operand) (ho : o.op = .convert src dst x) (b f n c : Nat)
    (hx : a.eval x = .slice (some ⟨b, f, none⟩) n c) (hn : n = l.length) (hs : P.underlying src = some (.slice e)) (he : P.underlying e = some (.int .u8)) (hd : P.underlying dst = some .string) (hc : ∀ j (hj : j < l.length), w.cell? ⟨b, f + j, none⟩ = some (.int .u8 (l[j].toNat : Int))) : o.wp P a w K Q := by
  subst hn
  have hr := run_convert_bytes_back (P := P) w src dst e ⟨b, f, none⟩ c l hs he hd (fun j hj => by rw [add_mk]; exact hc j hj)
  unfold Oper.wp execOp
  simp only [ho, hx, Sem.run_bind, Sem.run_pure, hr, Result.andThen]
  exact hK _ _ (Below.refl _ w) rfl
theorem run_string_add_list (w : World) (x y : List UInt8) {P : Program} (h : x.length + y.length ≤ 9223372036854775807) : (Op.stringOp .add ⟨x.toArray⟩ ⟨y.toArray⟩).run P w = .ok (.string ⟨(x ++ y).toArray⟩) w := by
  rw [run_string_add_sum w _ _ (by simp [ByteArray.size]; omega), ByteArray.mk_append_mk]
set_option maxRecDepth 100000 in
set_option maxHeartbeats 2000000 in
theorem rdigits_calls : ∀ (n : Nat), n < 18446744073709551616 → ∀ w : World, Calls Tryz.prog 96 #[.int .u64 (n : Int)] w fun e w' => e = .returned (.string ⟨(decL n).toArray⟩) ∧ Below w.heap.size w w' := by
  intro n
  induction n using Nat.strongRecOn with
  | ind n ih =>
  intro hn w
  by_cases h10 : n < 10
  · have d0 : decide ((n : Int) < 10) = true := decide_eq_true (by omega)
    have hdg := digB_toNat h10
    have HD := Lib.hid (And.intro (decL_lt h10) hdg)
    have b1 : (n : Int) < 10 := by omega
    have b0 : (0 : Int) ≤ n := by omega
    clear h10 hdg
    go_enter Tryz.func96, Tryz.ntmps96
    go_wp2_with (refine stop_convert 109 9 rfl ?_)
    refine Stop.intro ?_
    refine wpList_convert_back rfl 109 9 5 _ rfl w.heap.size 0 _ _ [digB n] rfl rfl Tryz.underlying109 Tryz.underlying5 Tryz.underlying9 (fun j hj => by
      have hj0 : j = 0 := by simp at hj; exact hj
      subst hj0
      rw [(Blk.new w 5 [.int .u8 (48 + (n : Int))]).cell]
      simp [HD.out.2]) ?_
    go_wp2
    go_ret
    exact ⟨by rw [HD.out.1]; rfl, Below_alloc' w _⟩
  · have d0 : decide ((n : Int) < 10) = false := decide_eq_false (by omega)
    have hl := decL_len20 hn
    have hge := decL_ge h10
    have HD := Lib.hid hge
    have HL : Hid ((decL (n / 10)).length + [digB (n % 10)].length ≤ 20) := Lib.hid (by rw [← List.length_append, ← hge]; exact hl)
    have HN := Lib.hid (And.intro (show ((n / 10 : Nat) : Int) = (n : Int) / 10 by omega) (And.intro (show n / 10 < n by omega) (show n / 10 < 18446744073709551616 by omega)))
    have b0 : (0 : Int) ≤ (n : Int) % 10 := by omega
    have b1 : (n : Int) % 10 < 10 := by omega
    have b2 : (n : Int) / 10 < 18446744073709551616 := by omega
    have b3 : (n : Int) < 18446744073709551616 := by omega
    have hwd : IntKind.u64.wrap ((n : Int) / 10) = (n : Int) / 10 := by simp only [IntKind.wrap, IntKind.bits, IntKind.signed]; simp; omega
    have htm : (n : Int).tmod 10 = (n : Int) % 10 := Int.tmod_eq_emod_of_nonneg (by omega)
    have hwe : IntKind.u64.wrap (48 + (n : Int) % 10) = 48 + (n : Int) % 10 := by simp only [IntKind.wrap, IntKind.bits, IntKind.signed]; simp; omega
    have hw8 : IntKind.u8.wrap (48 + (n : Int) % 10) = 48 + (n : Int) % 10 := by simp only [IntKind.wrap, IntKind.bits, IntKind.signed]; simp; omega
    clear hl hge h10
    go_enter Tryz.func96, Tryz.ntmps96
    go_upto_region 3 with fail
    refine wp_act0 fun a0 ha0 => ?_
    have t0 : a0.eval (.tmp 0) = .int .u64 (n : Int) := by rw [ha0]; rfl
    have hsz : a0.tmps.size = 20 := by rw [ha0]; rfl
    have HA0 := Lib.hid ha0; clear ha0
    refine wp_region_val [(10, .is (.int .u64 (n : Int))), (11, .is (.int .u64 ((n : Int) / 10))), (12, .is (.string ⟨(decL (n / 10)).toArray⟩)), (13, .is (.int .u64 (n : Int))), (14, .is (.int .u64 ((n : Int) % 10))), (15, .is (.int .u64 (48 + (n : Int) % 10))), (16, .is (.int .u8 (48 + (n : Int) % 10))), (17, .bytes [digB (n % 10)]), (18, .is (.string ⟨[digB (n % 10)].toArray⟩)), (19, .is (.string ⟨(decL n).toArray⟩)), (2, .is (.string ⟨(decL n).toArray⟩))] (by kernel_rfl) (by kernel_rfl) ?steps ?done
    case steps =>
      refine ⟨?_, ?_, ?_, ?_, ?_, ?_, ?_, ?_, ?_, ?_, ?_, trivial⟩
      · refine JV.step (slots := [10, 11, 12, 13, 14, 15, 16, 17, 18, 19, 2]) rfl (by decide) (by rw [hsz]; decide) (10, .is (.int .u64 (n : Int))) rfl rfl rfl ?_
        intro D a w K hD hp h hK
        have hfr : Fr [10, 11, 12, 13, 14, 15, 16, 17, 18, 19, 2] a0 a := h.fr
        refine step_wp rfl ?_
        refine wp_move_on hK rfl ?_
        exact (hfr.eval (j := 0) (by decide)).trans t0
      · refine JV.step (slots := [10, 11, 12, 13, 14, 15, 16, 17, 18, 19, 2]) rfl (by decide) (by rw [hsz]; decide) (11, .is (.int .u64 ((n : Int) / 10))) rfl rfl rfl ?_
        intro D a w K hD hp h hK
        have hfr : Fr [10, 11, 12, 13, 14, 15, 16, 17, 18, 19, 2] a0 a := h.fr
        refine step_wp rfl ?_
        have q1 : a.eval (.tmp 10) = .int .u64 (n : Int) := h.val 0 _ rfl (hp 0 (by decide))
        have qa : a.eval (.const (.int .u64 10)) = .int .u64 10 := rfl
        have qb : a.eval (.const (.int .u64 48)) = .int .u64 48 := rfl
        refine wp_val_on hK (by clear hfr; generalize a.eval = ρ at *; go_simp)
      · refine JV.step (slots := [10, 11, 12, 13, 14, 15, 16, 17, 18, 19, 2]) rfl (by decide) (by rw [hsz]; decide) (12, .is (.string ⟨(decL (n / 10)).toArray⟩)) rfl rfl rfl ?_
        intro D a w K hD hp h hK
        have hfr : Fr [10, 11, 12, 13, 14, 15, 16, 17, 18, 19, 2] a0 a := h.fr
        refine step_wp rfl ?_
        have q1 : a.eval (.tmp 11) = .int .u64 ((n : Int) / 10) := h.val 1 _ rfl (hp 1 (by decide))
        refine wp_call_on hK Tryz.func96 (by kernel_rfl) (by kernel_rfl) rfl #[.int .u64 ((n / 10 : Nat) : Int)] (by simp only [List.map_toArray, List.map_cons, List.map_nil, q1]; rw [HN.out.1]) ?_
        refine (ih (n / 10) HN.out.2.1 HN.out.2.2 w).mono ?_
        rintro e w' ⟨rfl, hb⟩
        exact ⟨_, rfl, hb, rfl⟩
      · refine JV.step (slots := [10, 11, 12, 13, 14, 15, 16, 17, 18, 19, 2]) rfl (by decide) (by rw [hsz]; decide) (13, .is (.int .u64 (n : Int))) rfl rfl rfl ?_
        intro D a w K hD hp h hK
        have hfr : Fr [10, 11, 12, 13, 14, 15, 16, 17, 18, 19, 2] a0 a := h.fr
        refine step_wp rfl ?_
        refine wp_move_on hK rfl ?_
        exact (hfr.eval (j := 0) (by decide)).trans t0
      · refine JV.step (slots := [10, 11, 12, 13, 14, 15, 16, 17, 18, 19, 2]) rfl (by decide) (by rw [hsz]; decide) (14, .is (.int .u64 ((n : Int) % 10))) rfl rfl rfl ?_
        intro D a w K hD hp h hK
        have hfr : Fr [10, 11, 12, 13, 14, 15, 16, 17, 18, 19, 2] a0 a := h.fr
        refine step_wp rfl ?_
        have q1 : a.eval (.tmp 13) = .int .u64 (n : Int) := h.val 3 _ rfl (hp 3 (by decide))
        have qa : a.eval (.const (.int .u64 10)) = .int .u64 10 := rfl
        have qb : a.eval (.const (.int .u64 48)) = .int .u64 48 := rfl
        refine wp_val_on hK (by clear hfr; generalize a.eval = ρ at *; go_simp)
      · refine JV.step (slots := [10, 11, 12, 13, 14, 15, 16, 17, 18, 19, 2]) rfl (by decide) (by rw [hsz]; decide) (15, .is (.int .u64 (48 + (n : Int) % 10))) rfl rfl rfl ?_
        intro D a w K hD hp h hK
        have hfr : Fr [10, 11, 12, 13, 14, 15, 16, 17, 18, 19, 2] a0 a := h.fr
        refine step_wp rfl ?_
        have q1 : a.eval (.tmp 14) = .int .u64 ((n : Int) % 10) := h.val 4 _ rfl (hp 4 (by decide))
        have qa : a.eval (.const (.int .u64 10)) = .int .u64 10 := rfl
        have qb : a.eval (.const (.int .u64 48)) = .int .u64 48 := rfl
        refine wp_val_on hK (by clear hfr; generalize a.eval = ρ at *; go_simp)
      · refine JV.step (slots := [10, 11, 12, 13, 14, 15, 16, 17, 18, 19, 2]) rfl (by decide) (by rw [hsz]; decide) (16, .is (.int .u8 (48 + (n : Int) % 10))) rfl rfl rfl ?_
        intro D a w K hD hp h hK
        have hfr : Fr [10, 11, 12, 13, 14, 15, 16, 17, 18, 19, 2] a0 a := h.fr
        refine step_wp rfl ?_
        have q1 : a.eval (.tmp 15) = .int .u64 (48 + (n : Int) % 10) := h.val 5 _ rfl (hp 5 (by decide))
        have qa : a.eval (.const (.int .u64 10)) = .int .u64 10 := rfl
        have qb : a.eval (.const (.int .u64 48)) = .int .u64 48 := rfl
        refine wp_val_on hK (by clear hfr; generalize a.eval = ρ at *; go_simp)
      · refine JV.step (slots := [10, 11, 12, 13, 14, 15, 16, 17, 18, 19, 2]) rfl (by decide) (by rw [hsz]; decide) (17, .bytes [digB (n % 10)]) rfl rfl rfl ?_
        intro D a w K hD hp h hK
        have hfr : Fr [10, 11, 12, 13, 14, 15, 16, 17, 18, 19, 2] a0 a := h.fr
        refine step_wp rfl ?_
        have q1 : a.eval (.tmp 16) = .int .u8 (48 + (n : Int) % 10) := h.val 6 _ rfl (hp 6 (by decide))
        refine wp_build_u8 rfl _ rfl q1 (hK _ _ (Below_alloc' _ _) ⟨w.heap.size, 1, rfl, fun j hj => ?_⟩)
        have hj0 : j = 0 := by simp at hj; exact hj
        subst hj0
        rw [(Blk.new w 5 [.int .u8 (48 + (n : Int) % 10)]).cell]
        simp [digB_toNat (show n % 10 < 10 by omega)]
      · refine JV.step (slots := [10, 11, 12, 13, 14, 15, 16, 17, 18, 19, 2]) rfl (by decide) (by rw [hsz]; decide) (18, .is (.string ⟨[digB (n % 10)].toArray⟩)) rfl rfl rfl ?_
        intro D a w K hD hp h hK
        have hfr : Fr [10, 11, 12, 13, 14, 15, 16, 17, 18, 19, 2] a0 a := h.fr
        refine step_wp rfl ?_
        obtain ⟨b, c, e, hc⟩ := h.val 7 _ rfl (hp 7 (by decide))
        have e : a.eval (.tmp 17) = .slice (some ⟨b, 0, none⟩) 1 c := e
        exact wp_back_on hK rfl 109 9 5 _ rfl b 0 1 c e rfl Tryz.underlying109 Tryz.underlying5 Tryz.underlying9 hc
      · refine JV.step (slots := [10, 11, 12, 13, 14, 15, 16, 17, 18, 19, 2]) rfl (by decide) (by rw [hsz]; decide) (19, .is (.string ⟨(decL n).toArray⟩)) rfl rfl rfl ?_
        intro D a w K hD hp h hK
        have hfr : Fr [10, 11, 12, 13, 14, 15, 16, 17, 18, 19, 2] a0 a := h.fr
        refine step_wp rfl ?_
        have q1 : a.eval (.tmp 12) = .string ⟨(decL (n / 10)).toArray⟩ := h.val 2 _ rfl (hp 2 (by decide))
        have q2 : a.eval (.tmp 18) = .string ⟨[digB (n % 10)].toArray⟩ := h.val 8 _ rfl (hp 8 (by decide))
        have hadd := run_string_add_list (P := Tryz.prog) w (decL (n / 10)) [digB (n % 10)] (by have := HL.out; omega)
        refine wp_val_on hK ?_
        rw [HD.out]
        clear hfr
        generalize a.eval = ρ at *
        go_simp
      · refine JV.step (slots := [10, 11, 12, 13, 14, 15, 16, 17, 18, 19, 2]) rfl (by decide) (by rw [hsz]; decide) (2, .is (.string ⟨(decL n).toArray⟩)) rfl rfl rfl ?_
        intro D a w K hD hp h hK
        have hfr : Fr [10, 11, 12, 13, 14, 15, 16, 17, 18, 19, 2] a0 a := h.fr
        refine step_wp rfl ?_
        have q1 : a.eval (.tmp 19) = .string ⟨(decL n).toArray⟩ := h.val 9 _ rfl (hp 9 (by decide))
        refine wp_assign_at rfl (hK _ _ (Below.refl _ w) ?_)
        exact q1
    case done =>
      intro D a wz hall h
      have hd : ∀ i, i < 11 → D i = true := hall
      have hfin := Fr.all (slots := [10, 11, 12, 13, 14, 15, 16, 17, 18, 19, 2]) h.fr (by rw [hsz]; decide)
      obtain ⟨b, c, e, -⟩ := h.val 7 _ rfl (hd 7 (by decide))
      have e : a.eval (.tmp 17) = .slice (some ⟨b, 0, none⟩) 1 c := e
      simp only [putAll] at hfin
      rw [(show a.eval (.tmp 10) = .int .u64 (n : Int) from h.val 0 _ rfl (hd 0 (by decide))), (show a.eval (.tmp 11) = .int .u64 ((n : Int) / 10) from h.val 1 _ rfl (hd 1 (by decide))), (show a.eval (.tmp 12) = .string ⟨(decL (n / 10)).toArray⟩ from h.val 2 _ rfl (hd 2 (by decide))), (show a.eval (.tmp 13) = .int .u64 (n : Int) from h.val 3 _ rfl (hd 3 (by decide))), (show a.eval (.tmp 14) = .int .u64 ((n : Int) % 10) from h.val 4 _ rfl (hd 4 (by decide))), (show a.eval (.tmp 15) = .int .u64 (48 + (n : Int) % 10) from h.val 5 _ rfl (hd 5 (by decide))), (show a.eval (.tmp 16) = .int .u8 (48 + (n : Int) % 10) from h.val 6 _ rfl (hd 6 (by decide))), e, (show a.eval (.tmp 18) = .string ⟨[digB (n % 10)].toArray⟩ from h.val 8 _ rfl (hd 8 (by decide))), (show a.eval (.tmp 19) = .string ⟨(decL n).toArray⟩ from h.val 9 _ rfl (hd 9 (by decide))), (show a.eval (.tmp 2) = .string ⟨(decL n).toArray⟩ from h.val 10 _ rfl (hd 10 (by decide)))] at hfin
      have HB := Lib.hid h.below
      rw [hfin, HA0.out]
      clear hfin HA0 h hall hd e t0 hsz
      simp only [Act.put, List.setIfInBounds_toArray, List.set_cons_zero, List.set_cons_succ]
      go_wp2
      go_ret
      exact ⟨rfl, HB.out⟩
set_option maxRecDepth 100000 in
set_option maxHeartbeats 1000000 in
theorem rprint_calls (x : Int) (hx : i64 x) (w : World) :
    Calls Tryz.prog 73 #[.int .i64 x] w fun e w' => e = .returned (.string ⟨(textL x).toArray⟩) ∧ Below w.heap.size w w' := by
  by_cases h0 : x < 0
  · have hw := wrap_u64_neg hx h0
    have d0 : decide (x ≥ 0) = false := decide_eq_false (by omega)
    obtain ⟨N, hN⟩ : ∃ N, x.natAbs = N := ⟨_, rfl⟩
    have hT : textL x = [45] ++ decL N := by unfold textL; rw [if_pos h0, hN]; rfl
    have hN6 : N < 18446744073709551616 := by obtain ⟨h1, h2⟩ := hx; omega
    have hlen := decL_len20 hN6
    rw [hN] at hw
    have HW := Lib.hid (And.intro hT (And.intro hN6 hlen))
    clear hN hT hlen hx hN6 h0
    go_enter Tryz.func73, Tryz.ntmps73
    go_wp2_with fail
    refine (rdigits_calls N HW.out.2.1 w).mono ?_
    rintro e w' ⟨rfl, hb⟩
    have HB := Lib.hid hb
    have hadd : (Op.stringOp .add ⟨#[45]⟩ ⟨(decL N).toArray⟩).run Tryz.prog w' = .ok (.string ⟨([45] ++ decL N).toArray⟩) w' := run_string_add_list w' [45] (decL N) (by have := HW.out.2.2; simp; omega)
    clear hb
    go_wp2
    go_ret
    exact ⟨by rw [HW.out.1]; rfl, HB.out⟩
  · have hw := wrap_u64_pos hx h0
    have d0 : decide (x ≥ 0) = true := decide_eq_true (by omega)
    obtain ⟨N, hN⟩ : ∃ N, x.toNat = N := ⟨_, rfl⟩
    have hT : textL x = decL N := by unfold textL; rw [if_neg h0, hN]
    have hN6 : N < 18446744073709551616 := by obtain ⟨h1, h2⟩ := hx; omega
    rw [hN] at hw
    have HW := Lib.hid (And.intro hT hN6)
    clear hN hT hx hN6 h0
    go_enter Tryz.func73, Tryz.ntmps73
    go_wp2_with fail
    refine (rdigits_calls N HW.out.2 w).mono ?_
    rintro e w' ⟨rfl, hb⟩
    have HB := Lib.hid hb
    clear hb
    go_wp2
    go_ret
    exact ⟨by rw [HW.out.1]; rfl, HB.out⟩
end Go.Proofs.YtmkpjiahkepigaaGreat
/- The reference's Key: what it hands out is keyL. -/
namespace Go.Proofs.YtmkpjiahkepigaaGreat
open Go Go.RowKit
theorem cat_eq {S T : ByteArray} {l t : List UInt8} (h : S = ⟨l.toArray⟩) (ht : T = ⟨t.toArray⟩) : S ++ T = ⟨(l ++ t).toArray⟩ := by subst h ht; exact ByteArray.mk_append_mk l t
theorem bytes_size {S : ByteArray} {l : List UInt8} (h : S = ⟨l.toArray⟩) : S.size = l.length := by subst h; show l.toArray.size = _; simp
theorem RefS.keyD {w wx : World} {su lu gu va vo vm vh vp : Value} {u : Unit_} {m : Mach} (h : RefS (cmap w) su lu gu va vo vm vh vp u m) (hb : Below w.heap.size w wx) (hx : Blk wx w.heap.size 35 [su, lu, gu, va, vo, vm, vh, vp]) : KeyD wx w.heap.size va vo vm vh vp m :=
  have k := cmap_below hb
  ⟨hx.cell 3, hx.cell 4, hx.cell 5, hx.cell 6, hx.cell 7, h.at_.mono k, h.slots.mono k, h.mem.mono k, h.hold.mono k, h.prints.mono k⟩
set_option maxHeartbeats 4000000 in
set_option maxRecDepth 100000 in
theorem rkey_calls (cs : List Value) (u : Unit_) (m : Mach) (w : World) (h : RefV (cmap w) cs u m) (hi : KeyI m) (hts : m.slots.length = m.at_.length) (ht : m.at_.length ≤ 8) (hsl : ∀ l ∈ m.slots, l.length ≤ 4160) (hm : m.mem.length ≤ 64) (hh : m.holders.length ≤ 16) (hp : m.prints.length ≤ 4294967296) :
    Calls Tryz.prog 46 #[.agg cs.toArray] w fun e w' => e = .returned (.string ⟨(keyL m).toArray⟩) ∧ Below w.heap.size w w' := by
  obtain ⟨su, lu, gu, va, vo, vm, vh, vp, rfl, hr⟩ := h
  obtain ⟨AI, hAI⟩ : ∃ AI, (m.at_.map fun n : Nat => (n : Int)) = AI := ⟨_, rfl⟩
  have hal : AI.length = m.at_.length := by rw [← hAI]; simp
  have hthr : m.thr = AI.zip m.slots := by unfold Mach.thr; rw [hAI]
  have HTHR := Lib.hid (fun p hp => hi.thr (p := p) hp)
  have hb0 := Below_alloc' w (.cells #[su, lu, gu, va, vo, vm, vh, vp] 35)
  have hx0 := Blk.new w 35 [su, lu, gu, va, vo, vm, vh, vp]
  obtain ⟨w0, hw0⟩ : ∃ w0, w.alloc (.cells #[su, lu, gu, va, vo, vm, vh, vp] 35) = w0 := ⟨_, rfl⟩
  rw [show ([su, lu, gu, va, vo, vm, vh, vp] : List Value).toArray = #[su, lu, gu, va, vo, vm, vh, vp] from rfl, hw0] at hx0
  rw [hw0] at hb0
  have h := hr.keyD hb0 hx0
  have hd := h
  have hat := h.at_
  rw [hAI] at hat
  obtain ⟨aA, ac, rfl, -⟩ := id hat
  obtain ⟨oA, oc, rfl, -⟩ := id h.slots
  obtain ⟨mA, mc, rfl, -⟩ := id h.mem
  obtain ⟨hA, hc, rfl, -⟩ := id h.hold
  obtain ⟨pA, pc, rfl, -⟩ := id h.prints
  rw [hal] at hat h hd hx0 hw0 ⊢
  have hz : ∀ (k : Nat) (x : Int) (l : List Int), AI[k]? = some x → m.slots[k]? = some l → m.thr[k]? = some (x, l) := fun k x l h1 h2 => by rw [hthr, List.getElem?_zip_eq_some]; exact ⟨h1, h2⟩
  have hzl : m.thr.length = m.at_.length := by rw [hthr, List.length_zip]; omega
  have hLt : ∀ k ≤ m.at_.length, ((m.thr.take k).flatMap thrL).length ≤ 1000000 := fun k hk => by
    refine Nat.le_trans (flat_len thrL (22 + 21 * 4160) _ fun x hx => ?_) ?_
    · obtain ⟨q1, q2, q3⟩ := HTHR.out x (List.mem_of_mem_take hx)
      exact thrL_len q1 q2 (hsl _ q3)
    · have : (m.thr.take k).length ≤ 8 := by rw [List.length_take]; omega
      exact Nat.le_trans (Nat.mul_le_mul_left _ this) (by decide)
  have hLs : ∀ (l : List Int) (k : Nat), l ∈ m.slots → ((l.take k).flatMap putL).length ≤ 100000 := fun l k hl => by
    refine Nat.le_trans (putsL_len fun x hx => hi.mi.slot l hl x (List.mem_of_mem_take hx)) ?_
    have := hsl l hl
    rw [List.length_take]; omega
  have hLm : ∀ k, ((m.mem.take k).flatMap putL).length ≤ 100000 := fun k => by
    refine Nat.le_trans (putsL_len fun x hx => hi.mi.mem x (List.mem_of_mem_take hx)) ?_
    rw [List.length_take]; omega
  have hLh : ∀ k, ((m.holders.take k).flatMap putL).length ≤ 100000 := fun k => by
    refine Nat.le_trans (putsL_len fun x hx => hi.hold x (List.mem_of_mem_take hx)) ?_
    rw [List.length_take]; omega
  have hLp : ∀ k, ((m.prints.take k).flatMap prnL).length ≤ 42 * 4294967296 := fun k => by
    refine Nat.le_trans (flat_len prnL 42 _ fun x hx => prnL_len (hi.pr x (List.mem_of_mem_take hx))) ?_
    refine Nat.mul_le_mul_left _ ?_
    rw [List.length_take]; omega
  have HZ := Lib.hid (And.intro hz hzl)
  have HL := Lib.hid (And.intro hLt (And.intro hLs (And.intro hLm (And.intro hLh hLp))))
  have HD := Lib.hid hd
  have HA := Lib.hid hat
  have HI := Lib.hid hi
  have HN := Lib.hid (And.intro hts (And.intro ht hsl))
  have HBW := Lib.hid hb0
  have g3 : w0.cell? ⟨w.heap.size, 3, none⟩ = some (.slice aA m.at_.length ac) := hd.c3
  have HW := Lib.hid hw0
  clear h hd hat hAI hal hthr hz hzl hLt hLs hLm hLh hLp hi hts hsl hb0 hx0 hw0 hr
  go_enter Tryz.func46, Tryz.ntmps46
  go_upto_region 2 with fail
  rw [HW.out]
  go_wp2
  go_loopw [16, 4, 3, 6] (fun v16 _ v3 _ wr => ∃ (k : Nat) (S : ByteArray), v16 = .int .i64 k ∧ v3 = .string S ∧ k ≤ m.at_.length ∧ Hid (S = ⟨((m.thr.take k).flatMap thrL).toArray⟩ ∧ Below w0.heap.size w0 wr)) (fun v16 _ _ _ _ => m.at_.length - (intOf v16).toNat)
  case atStart => exact ⟨0, _, rfl, rfl, by omega, Lib.hid ⟨rfl, Below.refl _ _⟩⟩
  case round =>
    obtain ⟨k, S, rfl, rfl, hk, HB⟩ := hrel
    by_cases hlt : k < m.at_.length
    · have k0 : (0 : Int) ≤ k := by omega
      have k1 : (k : Int) < m.at_.length := by omega
      have k2 : (k : Int) < m.slots.length := by rw [HN.out.1]; exact k1
      obtain ⟨x, hx⟩ : ∃ x, AI[k]? = some x := by
        obtain ⟨A', c', he, -⟩ := id HA.out
        injection he with _ he _
        exact ⟨_, List.getElem?_eq_getElem (by omega)⟩
      obtain ⟨l, hl⟩ : ∃ l, m.slots[k]? = some l := ⟨_, List.getElem?_eq_getElem (by rw [HN.out.1]; exact hlt)⟩
      have hth := HZ.out.1 k x l hx hl
      have hmem := List.mem_of_getElem? hl
      obtain ⟨hx64, hl64, -⟩ := HTHR.out _ (List.mem_of_getElem? hth)
      have hDr := HD.out.below HB.out.2
      obtain ⟨ab, ao, rfl, hac⟩ := (HA.out.mono (cmap_below HB.out.2)).at_ hx
      rw [Nat.mul_one] at hac
      have a1 : wr.cell? ⟨ab, ao + k, none⟩ = some (.int .i64 x) := hac
      obtain ⟨ob, oo, rfl, lv, hlc, hlv⟩ := HD.out.slots.at_ hl
      obtain ⟨lA, lc, rfl, -⟩ := id hlv
      rw [Nat.mul_one] at hlc
      have hll : l.length ≤ 4160 := HN.out.2.2 l hmem
      have HLV := Lib.hid (And.intro hlv (And.intro hlc (And.intro hl64 (And.intro hmem hth))))
      have HX64 := Lib.hid hx64
      have g3r := hDr.c3
      clear hx hl hth hx64 hl64 hac hlc hlv hDr hmem
      obtain ⟨TT, hTT⟩ : ∃ TT : ByteArray, ⟨(textL x).toArray⟩ = TT := ⟨_, rfl⟩
      have HPT := Lib.hid (rprint_calls x (HX64.out) wr)
      rw [hTT] at HPT
      have sT : TT.size ≤ 20 := by have := textL_len HX64.out; rw [← hTT]; exact (by simpa using this : (textL x).toArray.size ≤ 20)
      have sS : S.size ≤ 1000000000000 := by
        rw [bytes_size HB.out.1]
        have := HL.out.1 k hk
        omega
      have hs1 : ¬ (9223372036854775807 < S.size + TT.size) := by omega
      have hs2 : ¬ (9223372036854775807 < S.size + TT.size + 1) := by omega
      have HT := Lib.hid hTT
      clear hTT sT sS
      obtain ⟨wo, rfl⟩ : ∃ wo : World, wo = wr := ⟨_, rfl⟩
      go_wp2_with fail
      refine HPT.out.mono ?_
      rintro e w1 ⟨rfl, hb1⟩
      have HB1 : Hid (Below w0.heap.size w0 w1) := Lib.hid (HB.out.2.trans (hb1.mono HB.out.2.size))
      have g4r := (HD.out.below HB1.out).c4
      have o1 : w1.cell? ⟨ob, oo + k, none⟩ = some (.slice lA l.length lc) := cmap_below HB1.out _ _ _ HLV.out.2.1
      have HS1 : Hid (S ++ TT ++ ⟨#[44]⟩ = ⟨((m.thr.take k).flatMap thrL ++ putL x).toArray⟩) := Lib.hid (by
        have := cat_eq (cat_eq HB.out.1 HT.out.symm) (show (⟨#[44]⟩ : ByteArray) = ⟨[44].toArray⟩ from rfl)
        rw [this]; unfold putL; simp only [List.append_assoc])
      clear hb1 a1 g3r
      go_wp2
      go_loopw [34, 6, 3] (fun v34 _ v3 wr => ∃ (j : Nat) (S : ByteArray), v34 = .int .i64 j ∧ v3 = .string S ∧ j ≤ l.length ∧ Hid (S = ⟨((m.thr.take k).flatMap thrL ++ putL x ++ (l.take j).flatMap putL).toArray⟩ ∧ Below w0.heap.size w0 wr)) (fun v34 _ _ _ => l.length - (intOf v34).toNat)
      case atStart => exact ⟨0, _, rfl, rfl, by omega, Lib.hid ⟨by rw [HS1.out]; simp, HB1.out⟩⟩
      case round =>
        clear o1 g4r hs1 hs2
        obtain ⟨j, S, rfl, rfl, hj, HC⟩ := hrel
        by_cases hjl : j < l.length
        · have j0 : (0 : Int) ≤ j := by omega
          have j1 : (j : Int) < l.length := by omega
          obtain ⟨y, hy⟩ : ∃ y, l[j]? = some y := ⟨_, List.getElem?_eq_getElem hjl⟩
          have hy64 := HLV.out.2.2.1 y (List.mem_of_getElem? hy)
          obtain ⟨yb, yo, rfl, hyc⟩ := (HLV.out.1.mono (cmap_below HC.out.2)).at_ hy
          rw [Nat.mul_one] at hyc
          have y1 : wr.cell? ⟨yb, yo + j, none⟩ = some (.int .i64 y) := hyc
          have HX0 := HX64
          have HX64 := Lib.hid hy64
          have HY := Lib.hid hy
          clear hy hy64 hyc
          obtain ⟨TT, hTT⟩ : ∃ TT : ByteArray, ⟨(textL y).toArray⟩ = TT := ⟨_, rfl⟩
          have HPT := Lib.hid (rprint_calls y (HX64.out) wr)
          rw [hTT] at HPT
          have sT : TT.size ≤ 20 := by have := textL_len HX64.out; rw [← hTT]; exact (by simpa using this : (textL y).toArray.size ≤ 20)
          have sS : S.size ≤ 1000000000000 := by
            rw [bytes_size HC.out.1]
            have q1 := HL.out.1 k hk
            have q2 := HL.out.2.1 l j HLV.out.2.2.2.1
            have q3 := putL_len (HTHR.out _ (List.mem_of_getElem? HLV.out.2.2.2.2)).1
            simp only at q3
            simp only [List.length_append]
            omega
          have hs1 : ¬ (9223372036854775807 < S.size + TT.size) := by omega
          have hs2 : ¬ (9223372036854775807 < S.size + TT.size + 1) := by omega
          have HT := Lib.hid hTT
          clear hTT sT sS
          go_wp2_with fail
          refine HPT.out.mono ?_
          rintro e w2 ⟨rfl, hb2⟩
          have HC2 : Hid (S ++ TT ++ ⟨#[44]⟩ = ⟨((m.thr.take k).flatMap thrL ++ putL x ++ (l.take (j + 1)).flatMap putL).toArray⟩ ∧ Below w0.heap.size w0 w2) := Lib.hid ⟨by
            have := cat_eq (cat_eq HC.out.1 HT.out.symm) (show (⟨#[44]⟩ : ByteArray) = ⟨[44].toArray⟩ from rfl)
            rw [this, flat_succ putL HY.out]; unfold putL; simp only [List.append_assoc], HC.out.2.trans (hb2.mono HC.out.2.size)⟩
          clear hb2
          go_wp2
          go_roundw
          case rel => exact ⟨j + 1, _, by go_num, rfl, by omega, HC2⟩
          case measure => simp [intOf]; omega
        · obtain rfl : j = l.length := by omega
          have nj : ¬ ((l.length : Int) < l.length) := by omega
          have sS : S.size ≤ 1000000000000 := by
            rw [bytes_size HC.out.1]
            have q1 := HL.out.1 k hk
            have q2 := HL.out.2.1 l l.length HLV.out.2.2.2.1
            have q3 := putL_len (HTHR.out _ (List.mem_of_getElem? HLV.out.2.2.2.2)).1
            simp only at q3
            simp only [List.length_append]
            omega
          have hs3 : ¬ (9223372036854775807 < S.size + 1) := by omega
          clear sS
          have HC2 : Hid (S ++ ⟨#[124]⟩ = ⟨((m.thr.take (k + 1)).flatMap thrL).toArray⟩ ∧ Below w0.heap.size w0 wr) := Lib.hid ⟨by
            have := cat_eq HC.out.1 (show (⟨#[124]⟩ : ByteArray) = ⟨[124].toArray⟩ from rfl)
            rw [this, flat_succ thrL HLV.out.2.2.2.2]; unfold thrL; simp only [List.append_assoc, List.take_length], HC.out.2⟩
          clear hj hjl
          go_wp2
          go_roundw
          case rel => exact ⟨k + 1, _, by go_num, rfl, by omega, HC2⟩
          case measure => simp [intOf]; omega
    · obtain rfl : k = m.at_.length := by omega
      have nk : ¬ ((m.at_.length : Int) < m.at_.length) := by omega
      have hB2 : S = ⟨(m.thr.flatMap thrL).toArray⟩ := by have := HB.out.1; rwa [List.take_of_length_le (by rw [HZ.out.2]; exact Nat.le_refl _)] at this
      have hT : (m.thr.flatMap thrL).length ≤ 1000000 := by
        have := HL.out.1 m.at_.length (Nat.le_refl _)
        rwa [List.take_of_length_le (by rw [HZ.out.2]; exact Nat.le_refl _)] at this
      obtain ⟨T1, hT1⟩ : ∃ T1, m.thr.flatMap thrL = T1 := ⟨_, rfl⟩
      rw [hT1] at hB2 hT
      have HC := Lib.hid (And.intro hB2 HB.out.2)
      have HT1 := Lib.hid hT1
      have g5 := (HD.out.below HC.out.2).c5
      clear hk hlt HB hB2 hT1
      go_wp2
      obtain ⟨wo, rfl⟩ : ∃ wo : World, wo = wr := ⟨_, rfl⟩
      go_loopw [50, 8, 3] (fun v50 _ v3 wr => ∃ (j : Nat) (S : ByteArray), v50 = .int .i64 j ∧ v3 = .string S ∧ j ≤ m.mem.length ∧ Hid (S = ⟨(T1 ++ (m.mem.take j).flatMap putL).toArray⟩ ∧ Below w0.heap.size w0 wr)) (fun v50 _ _ _ => m.mem.length - (intOf v50).toNat)
      case atStart => exact ⟨0, _, rfl, rfl, by omega, Lib.hid ⟨by rw [HC.out.1]; simp, HC.out.2⟩⟩
      case round =>
        clear g5 HC
        obtain ⟨j, S, rfl, rfl, hj, HC⟩ := hrel
        by_cases hjl : j < m.mem.length
        · have j0 : (0 : Int) ≤ j := by omega
          have j1 : (j : Int) < m.mem.length := by omega
          obtain ⟨y, hy⟩ : ∃ y, m.mem[j]? = some y := ⟨_, List.getElem?_eq_getElem hjl⟩
          have hy64 := HI.out.mi.mem y (List.mem_of_getElem? hy)
          obtain ⟨yb, yo, rfl, hyc⟩ := (HD.out.below HC.out.2).mem.at_ hy
          rw [Nat.mul_one] at hyc
          have y1 : wr.cell? ⟨yb, yo + j, none⟩ = some (.int .i64 y) := hyc
          have HX64 := Lib.hid hy64
          have HY := Lib.hid hy
          clear hy hy64 hyc
          obtain ⟨TT, hTT⟩ : ∃ TT : ByteArray, ⟨(textL y).toArray⟩ = TT := ⟨_, rfl⟩
          have HPT := Lib.hid (rprint_calls y (HX64.out) wr)
          rw [hTT] at HPT
          have sT : TT.size ≤ 20 := by have := textL_len HX64.out; rw [← hTT]; exact (by simpa using this : (textL y).toArray.size ≤ 20)
          have sS : S.size ≤ 1000000000000 := by
            rw [bytes_size HC.out.1]
            have q2 := HL.out.2.2.1 j
            simp only [List.length_append]
            omega
          have hs1 : ¬ (9223372036854775807 < S.size + TT.size) := by omega
          have hs2 : ¬ (9223372036854775807 < S.size + TT.size + 1) := by omega
          have HT := Lib.hid hTT
          clear hTT sT sS
          go_wp2_with fail
          refine HPT.out.mono ?_
          rintro e w2 ⟨rfl, hb2⟩
          have HC2 : Hid (S ++ TT ++ ⟨#[44]⟩ = ⟨(T1 ++ (m.mem.take (j + 1)).flatMap putL).toArray⟩ ∧ Below w0.heap.size w0 w2) := Lib.hid ⟨by
            have := cat_eq (cat_eq HC.out.1 HT.out.symm) (show (⟨#[44]⟩ : ByteArray) = ⟨[44].toArray⟩ from rfl)
            rw [this, flat_succ putL HY.out]; unfold putL; simp only [List.append_assoc], HC.out.2.trans (hb2.mono HC.out.2.size)⟩
          clear hb2
          go_wp2
          go_roundw
          case rel => exact ⟨j + 1, _, by go_num, rfl, by omega, HC2⟩
          case measure => simp [intOf]; omega
        · obtain rfl : j = m.mem.length := by omega
          have nj : ¬ ((m.mem.length : Int) < m.mem.length) := by omega
          have hq := HL.out.2.2.1 m.mem.length
          rw [List.take_length] at hq
          have hS : S = ⟨(T1 ++ m.mem.flatMap putL).toArray⟩ := by have := HC.out.1; rwa [List.take_length] at this
          have sS : S.size ≤ 1000000000000 := by
            rw [bytes_size hS]
            simp only [List.length_append]
            omega
          have hs3 : ¬ (9223372036854775807 < S.size + 1) := by omega
          clear sS
          obtain ⟨T2, hT2⟩ : ∃ T, T1 ++ m.mem.flatMap putL ++ [124] = T := ⟨_, rfl⟩
          have hLT2 : T2.length ≤ 1200000 := by rw [← hT2]; simp only [List.length_append, List.length_cons, List.length_nil]; omega
          have HC2 : Hid (S ++ ⟨#[124]⟩ = ⟨T2.toArray⟩ ∧ Below w0.heap.size w0 wr) := Lib.hid ⟨by
            have := cat_eq hS (show (⟨#[124]⟩ : ByteArray) = ⟨[124].toArray⟩ from rfl)
            rw [this, hT2], HC.out.2⟩
          have HT2 := Lib.hid hT2
          have g6 := (HD.out.below HC2.out.2).c6
          clear hj hjl hT2 hq hS HC
          go_wp2
          obtain ⟨wo, rfl⟩ : ∃ wo : World, wo = wr := ⟨_, rfl⟩
          go_loopw [65, 10, 3] (fun v65 _ v3 wr => ∃ (j : Nat) (S : ByteArray), v65 = .int .i64 j ∧ v3 = .string S ∧ j ≤ m.holders.length ∧ Hid (S = ⟨(T2 ++ (m.holders.take j).flatMap putL).toArray⟩ ∧ Below w0.heap.size w0 wr)) (fun v65 _ _ _ => m.holders.length - (intOf v65).toNat)
          case atStart => exact ⟨0, _, rfl, rfl, by omega, Lib.hid ⟨by rw [HC2.out.1]; simp, HC2.out.2⟩⟩
          case round =>
            clear g6 HC2
            obtain ⟨j, S, rfl, rfl, hj, HC⟩ := hrel
            by_cases hjl : j < m.holders.length
            · have j0 : (0 : Int) ≤ j := by omega
              have j1 : (j : Int) < m.holders.length := by omega
              obtain ⟨y, hy⟩ : ∃ y, m.holders[j]? = some y := ⟨_, List.getElem?_eq_getElem hjl⟩
              have hy64 := HI.out.hold y (List.mem_of_getElem? hy)
              obtain ⟨yb, yo, rfl, hyc⟩ := (HD.out.below HC.out.2).hold.at_ hy
              rw [Nat.mul_one] at hyc
              have y1 : wr.cell? ⟨yb, yo + j, none⟩ = some (.int .i64 y) := hyc
              have HX64 := Lib.hid hy64
              have HY := Lib.hid hy
              clear hy hy64 hyc
              obtain ⟨TT, hTT⟩ : ∃ TT : ByteArray, ⟨(textL y).toArray⟩ = TT := ⟨_, rfl⟩
              have HPT := Lib.hid (rprint_calls y (HX64.out) wr)
              rw [hTT] at HPT
              have sT : TT.size ≤ 20 := by have := textL_len HX64.out; rw [← hTT]; exact (by simpa using this : (textL y).toArray.size ≤ 20)
              have sS : S.size ≤ 1000000000000 := by
                rw [bytes_size HC.out.1]
                have q2 := HL.out.2.2.2.1 j
                simp only [List.length_append]
                omega
              have hs1 : ¬ (9223372036854775807 < S.size + TT.size) := by omega
              have hs2 : ¬ (9223372036854775807 < S.size + TT.size + 1) := by omega
              have HT := Lib.hid hTT
              clear hTT sT sS
              go_wp2_with fail
              refine HPT.out.mono ?_
              rintro e w2 ⟨rfl, hb2⟩
              have HC2 : Hid (S ++ TT ++ ⟨#[44]⟩ = ⟨(T2 ++ (m.holders.take (j + 1)).flatMap putL).toArray⟩ ∧ Below w0.heap.size w0 w2) := Lib.hid ⟨by
                have := cat_eq (cat_eq HC.out.1 HT.out.symm) (show (⟨#[44]⟩ : ByteArray) = ⟨[44].toArray⟩ from rfl)
                rw [this, flat_succ putL HY.out]; unfold putL; simp only [List.append_assoc], HC.out.2.trans (hb2.mono HC.out.2.size)⟩
              clear hb2
              go_wp2
              go_roundw
              case rel => exact ⟨j + 1, _, by go_num, rfl, by omega, HC2⟩
              case measure => simp [intOf]; omega
            · obtain rfl : j = m.holders.length := by omega
              have nj : ¬ ((m.holders.length : Int) < m.holders.length) := by omega
              have hq := HL.out.2.2.2.1 m.holders.length
              rw [List.take_length] at hq
              have hS : S = ⟨(T2 ++ m.holders.flatMap putL).toArray⟩ := by have := HC.out.1; rwa [List.take_length] at this
              have sS : S.size ≤ 1000000000000 := by
                rw [bytes_size hS]
                simp only [List.length_append]
                omega
              have hs3 : ¬ (9223372036854775807 < S.size + 1) := by omega
              clear sS
              obtain ⟨T3, hT3⟩ : ∃ T, T2 ++ m.holders.flatMap putL ++ [124] = T := ⟨_, rfl⟩
              have hLT3 : T3.length ≤ 1400000 := by rw [← hT3]; simp only [List.length_append, List.length_cons, List.length_nil]; omega
              have HC2 : Hid (S ++ ⟨#[124]⟩ = ⟨T3.toArray⟩ ∧ Below w0.heap.size w0 wr) := Lib.hid ⟨by
                have := cat_eq hS (show (⟨#[124]⟩ : ByteArray) = ⟨[124].toArray⟩ from rfl)
                rw [this, hT3], HC.out.2⟩
              have HT3 := Lib.hid hT3
              have g7 := (HD.out.below HC2.out.2).c7
              clear hj hjl hT3 hq hS HC
              go_wp2
              obtain ⟨wo, rfl⟩ : ∃ wo : World, wo = wr := ⟨_, rfl⟩
              go_loopw [80, 12, 3] (fun v80 _ v3 wr => ∃ (j : Nat) (S : ByteArray), v80 = .int .i64 j ∧ v3 = .string S ∧ j ≤ m.prints.length ∧ Hid (S = ⟨(T3 ++ (m.prints.take j).flatMap prnL).toArray⟩ ∧ Below w0.heap.size w0 wr)) (fun v80 _ _ _ => m.prints.length - (intOf v80).toNat)
              case atStart => exact ⟨0, _, rfl, rfl, by omega, Lib.hid ⟨by rw [HC2.out.1]; simp, HC2.out.2⟩⟩
              case round =>
                clear g7 HC2
                obtain ⟨j, S, rfl, rfl, hj, HC⟩ := hrel
                by_cases hjl : j < m.prints.length
                · have j0 : (0 : Int) ≤ j := by omega
                  have j1 : (j : Int) < m.prints.length := by omega
                  obtain ⟨⟨y, z⟩, hy⟩ : ∃ y, m.prints[j]? = some y := ⟨_, List.getElem?_eq_getElem hjl⟩
                  obtain ⟨hy64, hz64⟩ := HI.out.pr _ (List.mem_of_getElem? hy)
                  obtain ⟨yb, yo, rfl, hyc, hzc⟩ := (HD.out.below HC.out.2).prints.at_ hy
                  have HLDP : Hid (∀ i v, ([.int .i64 y, .int .i64 z] : List Value)[i]? = some v → wr.cell? ⟨yb, yo + j * 2 + i, none⟩ = some v) := Lib.hid fun i v hv => by
                    match i, hv with
                    | 0, hv => injection hv with hv; subst hv; exact hyc
                    | 1, hv => injection hv with hv; subst hv; exact hzc
                  have hEA := HC.out.2.alloc HC.out.2.size (.cells #[.int .i64 y, .int .i64 z] 77)
                  have hK := Blk.new wr 77 [.int .i64 y, .int .i64 z]
                  have HY := Lib.hid (And.intro hy (And.intro hEA hK))
                  have HX64 := Lib.hid hy64
                  have HZ64 := Lib.hid hz64
                  have hwz := HC.out.2.size
                  clear hy hy64 hz64 hyc hzc hEA hK
                  go_wp2_with (first
                    | (refine wpList_load_at rfl 77 _ rfl yb (yo + j * 2) rfl _ _ HLDP.out Tryz.underlying77 rfl (by kernel_rfl) ?_))
                  obtain ⟨TT, hTT⟩ : ∃ TT : ByteArray, (⟨(textL y).toArray⟩ : ByteArray) = TT := ⟨_, rfl⟩
                  obtain ⟨T9, hT9⟩ : ∃ TT : ByteArray, (⟨(textL z).toArray⟩ : ByteArray) = TT := ⟨_, rfl⟩
                  have sT : TT.size ≤ 20 := by have := textL_len HX64.out; rw [bytes_size hTT.symm]; exact this
                  have sT9 : T9.size ≤ 20 := by have := textL_len HZ64.out; rw [bytes_size hT9.symm]; exact this
                  have sS : S.size ≤ 1000000000000 := by
                    rw [bytes_size HC.out.1]
                    have q2 := HL.out.2.2.2.2 j
                    simp only [List.length_append]
                    omega
                  have hs1 : ¬ (9223372036854775807 < S.size + TT.size) := by omega
                  have hs2 : ¬ (9223372036854775807 < S.size + TT.size + 1) := by omega
                  have hs3 : ¬ (9223372036854775807 < S.size + TT.size + 1 + T9.size) := by omega
                  have hs4 : ¬ (9223372036854775807 < S.size + TT.size + 1 + T9.size + 1) := by omega
                  have HT := Lib.hid hTT
                  have HT9 := Lib.hid hT9
                  clear hTT hT9 sT sT9 sS
                  obtain ⟨X, hX⟩ : ∃ X, wr.heap.size = X := ⟨_, rfl⟩
                  obtain ⟨wb, hwb⟩ : ∃ wb, wr.alloc (.cells #[.int .i64 y, .int .i64 z] 77) = wb := ⟨_, rfl⟩
                  have HBK : Hid (Blk wb X 77 [.int .i64 y, .int .i64 z]) := Lib.hid (by rw [← hwb, ← hX]; exact HY.out.2.2)
                  have HEA : Hid (Below w0.heap.size w0 wb) := Lib.hid (by rw [← hwb]; exact HY.out.2.1)
                  first | rw [hwb, hX] | (rw [hX] at hwb ⊢; rw [hwb])
                  refine wp_act0 fun a0 ha0 => ?_
                  have t3 : a0.eval (.tmp 3) = .string S := by rw [ha0]; rfl
                  have t12 : a0.eval (.tmp 12) = .pointer (some ⟨X, 0, none⟩) := by rw [ha0]; rfl
                  have hsz : a0.tmps.size = 97 := by rw [ha0]; rfl
                  have HA0 := Lib.hid ha0; clear ha0
                  refine wp_region_val [(84, .is (.string S)), (85, .is (.pointer (some ⟨X, 0, none⟩))), (86, .is (.int .i64 y)), (87, .is (.string TT)), (88, .is (.string (S ++ TT))), (89, .is (.string (S ++ TT ++ ⟨#[58]⟩))), (90, .is (.pointer (some ⟨X, 1, none⟩))), (91, .is (.int .i64 z)), (92, .is (.string T9)), (93, .is (.string (S ++ TT ++ ⟨#[58]⟩ ++ T9))), (94, .is (.string (S ++ TT ++ ⟨#[58]⟩ ++ T9 ++ ⟨#[44]⟩))), (3, .is (.string (S ++ TT ++ ⟨#[58]⟩ ++ T9 ++ ⟨#[44]⟩)))] (by kernel_rfl) (by kernel_rfl) ?steps ?done
                  case steps =>
                    refine ⟨?_, ?_, ?_, ?_, ?_, ?_, ?_, ?_, ?_, ?_, ?_, ?_, trivial⟩
                    · refine JV.step (slots := [84, 85, 86, 87, 88, 89, 90, 91, 92, 93, 94, 3]) rfl (by decide) (by rw [hsz]; decide) (84, .is (.string S)) rfl rfl rfl ?_
                      intro D a wy K hD hp h hK
                      have hfr : Fr [84, 85, 86, 87, 88, 89, 90, 91, 92, 93, 94, 3] a0 a := h.fr
                      refine step_wp rfl ?_
                      refine wp_move_on hK rfl ?_
                      have d4 := h.off (j := 4) rfl (show 0 ∈ predsOf _ by decide) hD
                      have d5 := h.off (j := 5) rfl (show 4 ∈ predsOf _ by decide) d4
                      have d9 := h.off (j := 9) rfl (show 5 ∈ predsOf _ by decide) d5
                      have d10 := h.off (j := 10) rfl (show 9 ∈ predsOf _ by decide) d9
                      have d11 := h.off (j := 11) rfl (show 10 ∈ predsOf _ by decide) d10
                      exact (h.un 11 _ rfl d11).trans t3
                    · refine JV.step (slots := [84, 85, 86, 87, 88, 89, 90, 91, 92, 93, 94, 3]) rfl (by decide) (by rw [hsz]; decide) (85, .is (.pointer (some ⟨X, 0, none⟩))) rfl rfl rfl ?_
                      intro D a wy K hD hp h hK
                      have hfr : Fr [84, 85, 86, 87, 88, 89, 90, 91, 92, 93, 94, 3] a0 a := h.fr
                      refine step_wp rfl ?_
                      have r12 := (hfr.eval (j := 12) (by decide)).trans t12
                      refine wp_val_on hK (by clear hfr; generalize a.eval = ρ at *; go_simp)
                    · refine JV.step (slots := [84, 85, 86, 87, 88, 89, 90, 91, 92, 93, 94, 3]) rfl (by decide) (by rw [hsz]; decide) (86, .is (.int .i64 y)) rfl rfl rfl ?_
                      intro D a wy K hD hp h hK
                      have hfr : Fr [84, 85, 86, 87, 88, 89, 90, 91, 92, 93, 94, 3] a0 a := h.fr
                      refine step_wp rfl ?_
                      have q1 : a.eval (.tmp 85) = .pointer (some ⟨X, 0, none⟩) := h.val 1 _ rfl (hp 1 (by decide))
                      have z1 : wy.cell? ⟨X, 0, none⟩ = some (.int .i64 y) := (HBK.out.below h.below HBK.out.lt).cell 0
                      refine wp_val_on hK (by clear hfr; generalize a.eval = ρ at *; go_simp)
                    · refine JV.step (slots := [84, 85, 86, 87, 88, 89, 90, 91, 92, 93, 94, 3]) rfl (by decide) (by rw [hsz]; decide) (87, .is (.string TT)) rfl rfl rfl ?_
                      intro D a wy K hD hp h hK
                      have hfr : Fr [84, 85, 86, 87, 88, 89, 90, 91, 92, 93, 94, 3] a0 a := h.fr
                      refine step_wp rfl ?_
                      have q2 : a.eval (.tmp 86) = .int .i64 y := h.val 2 _ rfl (hp 2 (by decide))
                      refine wp_call_on hK Tryz.func73 (by kernel_rfl) (by kernel_rfl) rfl #[.int .i64 y] (by simp only [List.map_toArray, List.map_cons, List.map_nil, q2]) ?_
                      refine (rprint_calls y HX64.out wy).mono ?_
                      rintro e w' ⟨rfl, hb⟩
                      exact ⟨_, rfl, hb, congrArg Value.string HT.out⟩
                    · refine JV.step (slots := [84, 85, 86, 87, 88, 89, 90, 91, 92, 93, 94, 3]) rfl (by decide) (by rw [hsz]; decide) (88, .is (.string (S ++ TT))) rfl rfl rfl ?_
                      intro D a wy K hD hp h hK
                      have hfr : Fr [84, 85, 86, 87, 88, 89, 90, 91, 92, 93, 94, 3] a0 a := h.fr
                      refine step_wp rfl ?_
                      have q0 : a.eval (.tmp 84) = .string S := h.val 0 _ rfl (hp 0 (by decide))
                      have q3 : a.eval (.tmp 87) = .string TT := h.val 3 _ rfl (hp 3 (by decide))
                      refine wp_val_on hK (by clear hfr; generalize a.eval = ρ at *; go_simp)
                    · refine JV.step (slots := [84, 85, 86, 87, 88, 89, 90, 91, 92, 93, 94, 3]) rfl (by decide) (by rw [hsz]; decide) (89, .is (.string (S ++ TT ++ ⟨#[58]⟩))) rfl rfl rfl ?_
                      intro D a wy K hD hp h hK
                      have hfr : Fr [84, 85, 86, 87, 88, 89, 90, 91, 92, 93, 94, 3] a0 a := h.fr
                      refine step_wp rfl ?_
                      have q4 : a.eval (.tmp 88) = .string (S ++ TT) := h.val 4 _ rfl (hp 4 (by decide))
                      have qc : a.eval (.const (.string ⟨#[58]⟩)) = .string ⟨#[58]⟩ := rfl
                      refine wp_val_on hK (by clear hfr; generalize a.eval = ρ at *; go_simp)
                    · refine JV.step (slots := [84, 85, 86, 87, 88, 89, 90, 91, 92, 93, 94, 3]) rfl (by decide) (by rw [hsz]; decide) (90, .is (.pointer (some ⟨X, 1, none⟩))) rfl rfl rfl ?_
                      intro D a wy K hD hp h hK
                      have hfr : Fr [84, 85, 86, 87, 88, 89, 90, 91, 92, 93, 94, 3] a0 a := h.fr
                      refine step_wp rfl ?_
                      have r12 := (hfr.eval (j := 12) (by decide)).trans t12
                      refine wp_val_on hK (by clear hfr; generalize a.eval = ρ at *; go_simp)
                    · refine JV.step (slots := [84, 85, 86, 87, 88, 89, 90, 91, 92, 93, 94, 3]) rfl (by decide) (by rw [hsz]; decide) (91, .is (.int .i64 z)) rfl rfl rfl ?_
                      intro D a wy K hD hp h hK
                      have hfr : Fr [84, 85, 86, 87, 88, 89, 90, 91, 92, 93, 94, 3] a0 a := h.fr
                      refine step_wp rfl ?_
                      have q6 : a.eval (.tmp 90) = .pointer (some ⟨X, 1, none⟩) := h.val 6 _ rfl (hp 6 (by decide))
                      have z1 : wy.cell? ⟨X, 1, none⟩ = some (.int .i64 z) := (HBK.out.below h.below HBK.out.lt).cell 1
                      refine wp_val_on hK (by clear hfr; generalize a.eval = ρ at *; go_simp)
                    · refine JV.step (slots := [84, 85, 86, 87, 88, 89, 90, 91, 92, 93, 94, 3]) rfl (by decide) (by rw [hsz]; decide) (92, .is (.string T9)) rfl rfl rfl ?_
                      intro D a wy K hD hp h hK
                      have hfr : Fr [84, 85, 86, 87, 88, 89, 90, 91, 92, 93, 94, 3] a0 a := h.fr
                      refine step_wp rfl ?_
                      have q7 : a.eval (.tmp 91) = .int .i64 z := h.val 7 _ rfl (hp 7 (by decide))
                      refine wp_call_on hK Tryz.func73 (by kernel_rfl) (by kernel_rfl) rfl #[.int .i64 z] (by simp only [List.map_toArray, List.map_cons, List.map_nil, q7]) ?_
                      refine (rprint_calls z HZ64.out wy).mono ?_
                      rintro e w' ⟨rfl, hb⟩
                      exact ⟨_, rfl, hb, congrArg Value.string HT9.out⟩
                    · refine JV.step (slots := [84, 85, 86, 87, 88, 89, 90, 91, 92, 93, 94, 3]) rfl (by decide) (by rw [hsz]; decide) (93, .is (.string (S ++ TT ++ ⟨#[58]⟩ ++ T9))) rfl rfl rfl ?_
                      intro D a wy K hD hp h hK
                      have hfr : Fr [84, 85, 86, 87, 88, 89, 90, 91, 92, 93, 94, 3] a0 a := h.fr
                      refine step_wp rfl ?_
                      have q5 : a.eval (.tmp 89) = .string (S ++ TT ++ ⟨#[58]⟩) := h.val 5 _ rfl (hp 5 (by decide))
                      have q8 : a.eval (.tmp 92) = .string T9 := h.val 8 _ rfl (hp 8 (by decide))
                      refine wp_val_on hK (by clear hfr; generalize a.eval = ρ at *; go_simp)
                    · refine JV.step (slots := [84, 85, 86, 87, 88, 89, 90, 91, 92, 93, 94, 3]) rfl (by decide) (by rw [hsz]; decide) (94, .is (.string (S ++ TT ++ ⟨#[58]⟩ ++ T9 ++ ⟨#[44]⟩))) rfl rfl rfl ?_
                      intro D a wy K hD hp h hK
                      have hfr : Fr [84, 85, 86, 87, 88, 89, 90, 91, 92, 93, 94, 3] a0 a := h.fr
                      refine step_wp rfl ?_
                      have q9 : a.eval (.tmp 93) = .string (S ++ TT ++ ⟨#[58]⟩ ++ T9) := h.val 9 _ rfl (hp 9 (by decide))
                      have qc : a.eval (.const (.string ⟨#[44]⟩)) = .string ⟨#[44]⟩ := rfl
                      refine wp_val_on hK (by clear hfr; generalize a.eval = ρ at *; go_simp)
                    · refine JV.step (slots := [84, 85, 86, 87, 88, 89, 90, 91, 92, 93, 94, 3]) rfl (by decide) (by rw [hsz]; decide) (3, .is (.string (S ++ TT ++ ⟨#[58]⟩ ++ T9 ++ ⟨#[44]⟩))) rfl rfl rfl ?_
                      intro D a wy K hD hp h hK
                      have hfr : Fr [84, 85, 86, 87, 88, 89, 90, 91, 92, 93, 94, 3] a0 a := h.fr
                      refine step_wp rfl ?_
                      have q10 : a.eval (.tmp 94) = .string (S ++ TT ++ ⟨#[58]⟩ ++ T9 ++ ⟨#[44]⟩) := h.val 10 _ rfl (hp 10 (by decide))
                      refine wp_assign_at rfl (hK _ _ (Below.refl _ wy) ?_)
                      exact q10
                  case done =>
                    intro D a wz hall h
                    have hd : ∀ i, i < 12 → D i = true := hall
                    have hfin := Fr.all (slots := [84, 85, 86, 87, 88, 89, 90, 91, 92, 93, 94, 3]) h.fr (by rw [hsz]; decide)
                    simp only [putAll] at hfin
                    rw [(show a.eval (.tmp 84) = .string S from h.val 0 _ rfl (hd 0 (by decide))), (show a.eval (.tmp 85) = .pointer (some ⟨X, 0, none⟩) from h.val 1 _ rfl (hd 1 (by decide))), (show a.eval (.tmp 86) = .int .i64 y from h.val 2 _ rfl (hd 2 (by decide))), (show a.eval (.tmp 87) = .string TT from h.val 3 _ rfl (hd 3 (by decide))), (show a.eval (.tmp 88) = .string (S ++ TT) from h.val 4 _ rfl (hd 4 (by decide))), (show a.eval (.tmp 89) = .string (S ++ TT ++ ⟨#[58]⟩) from h.val 5 _ rfl (hd 5 (by decide))), (show a.eval (.tmp 90) = .pointer (some ⟨X, 1, none⟩) from h.val 6 _ rfl (hd 6 (by decide))), (show a.eval (.tmp 91) = .int .i64 z from h.val 7 _ rfl (hd 7 (by decide))), (show a.eval (.tmp 92) = .string T9 from h.val 8 _ rfl (hd 8 (by decide))), (show a.eval (.tmp 93) = .string (S ++ TT ++ ⟨#[58]⟩ ++ T9) from h.val 9 _ rfl (hd 9 (by decide))), (show a.eval (.tmp 94) = .string (S ++ TT ++ ⟨#[58]⟩ ++ T9 ++ ⟨#[44]⟩) from h.val 10 _ rfl (hd 10 (by decide))), (show a.eval (.tmp 3) = .string (S ++ TT ++ ⟨#[58]⟩ ++ T9 ++ ⟨#[44]⟩) from h.val 11 _ rfl (hd 11 (by decide)))] at hfin
                    have HC2 : Hid (S ++ TT ++ ⟨#[58]⟩ ++ T9 ++ ⟨#[44]⟩ = ⟨(T3 ++ (m.prints.take (j + 1)).flatMap prnL).toArray⟩ ∧ Below w0.heap.size w0 wz) := Lib.hid ⟨by
                      have := cat_eq (cat_eq (cat_eq (cat_eq HC.out.1 HT.out.symm) (show (⟨#[58]⟩ : ByteArray) = ⟨[58].toArray⟩ from rfl)) HT9.out.symm) (show (⟨#[44]⟩ : ByteArray) = ⟨[44].toArray⟩ from rfl)
                      rw [this, flat_succ prnL HY.out.1]; unfold prnL putL; simp only [List.append_assoc], HEA.out.trans (h.below.mono HEA.out.size)⟩
                    rw [hfin, HA0.out]
                    clear hfin HA0 h hall hd t3 t12 hsz
                    simp only [Act.put, List.setIfInBounds_toArray, List.set_cons_zero, List.set_cons_succ]
                    go_wp2
                    go_roundw
                    case rel => exact ⟨j + 1, _, by go_num, rfl, by omega, HC2⟩
                    case measure => simp [intOf]; omega
                · obtain rfl : j = m.prints.length := by omega
                  have nj : ¬ ((m.prints.length : Int) < m.prints.length) := by omega
                  have hS : S = ⟨(T3 ++ m.prints.flatMap prnL).toArray⟩ := by have := HC.out.1; rwa [List.take_length] at this
                  have HE := Lib.hid HC.out.2
                  have HK : Hid (S = ⟨(keyL m).toArray⟩) := Lib.hid (by rw [hS]; unfold keyL; rw [← HT3.out, ← HT2.out, ← HT1.out])
                  clear hj hjl hS
                  go_wp2
                  go_ret
                  exact ⟨by rw [← HK.out]; rfl, HBW.out.trans (HE.out.mono HBW.out.size)⟩
end Go.Proofs.YtmkpjiahkepigaaGreat
