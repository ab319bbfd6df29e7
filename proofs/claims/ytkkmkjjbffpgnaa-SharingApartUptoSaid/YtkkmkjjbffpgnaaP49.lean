import Derived.Test.YtkkmkjjbffpgnaaP48
import Derived.IntWalk
/- 'm[k]++' on a map of the call's own, whose order is open, inside a fence. -/
namespace Go.Proofs.Ytkkmkjjbffpgnaa
open Go Go.RowKit Go.Shelf
theorem MapAt.is {κ : Type} [DecidableEq κ] {kv : κ → Value} {dec : Value → Option κ} {w : World} {b : Nat} {F : κ → Option Value} {k : κ} {st : Nat} (h : MapAt kv dec w b F k st) : MapIs kv dec w b F := by
  obtain ⟨es, c, i, v, e, h1, h2, h3, h4, _⟩ := h
  exact ⟨es, c, h1, h2, h3, h4⟩
theorem grownBy_trans {w1 w2 w3 : World} {r : Option Nat} (h : w1.grownBy w2 r) (k : w2.grownBy w3 r) : w1.grownBy w3 r :=
  ⟨k.os.trans h.os, k.tape.trans h.tape, k.output.trans h.output, Nat.le_trans h.size k.size, fun i hi hr => (k.block i (Nat.lt_of_lt_of_le hi h.size) hr).trans (h.block i hi hr)⟩
theorem grownBy_cell {w1 w2 : World} {r : Nat} (h : w1.grownBy w2 (some r)) {b o : Nat} {v : Value} (hb : b ≠ r) (hc : w1.cell? ⟨b, o, none⟩ = some v) : w2.cell? ⟨b, o, none⟩ = some v := by
  have hlt := World.block_lt_of_cell? w1 ⟨b, o, none⟩ hc
  exact (World.cell?_of_block (h.block b hlt (fun e => hb (by injection e)))).trans hc
theorem zero_int (w : World) : (zeroValue 3).run Try.prog w = .ok (.int .i64 0) w := by kernel_rfl
/-- What holds while m[k]++ comes up. -/
structure IncR (w0 : World) (b : Nat) (F : Int × Int → Option Value) (k : Int × Int) (c : Nat) (a0 : Act) (D : Nat → Bool) (a : Act) (w : World) : Prop where
  fr : Fr [37, 38, 39, 40, 41, 42] a0 a
  gr : w0.grownBy w (some b)
  s0 : D 0 = true → a.eval (.tmp 37) = .map (some b)
  s1 : D 1 = true → a.eval (.tmp 38) = kvP k
  s2 : D 2 = true → a.eval (.tmp 39) = .int .i64 (c : Int)
  s3 : D 3 = true → a.eval (.tmp 40) = .int .i64 ((c : Int) + 1)
  s4 : D 4 = true → ∃ st : Nat, a.eval (.tmp 41) = .tuple #[.int .i64 (c : Int), .int .i64 (st : Int)] ∧ (D 5 = true → a.eval (.tmp 42) = .int .i64 (st : Int)) ∧ (D 6 = false → MapAt kvP decP w b (fun k' => if k' = k then some (.int .i64 (c : Int)) else F k') k st)
  o4 : D 4 = false → MapIs kvP decP w b F
  o5 : D 5 = true → D 4 = true
  o6 : D 6 = true → D 4 = true ∧ D 3 = true ∧ D 5 = true ∧ D 2 = true
  s6 : D 6 = true → MapIs kvP decP w b (fun k' => if k' = k then some (.int .i64 ((c : Int) + 1)) else F k')
set_option maxRecDepth 100000 in
set_option maxHeartbeats 2000000 in
theorem incR_steps {G : Fence} {n : Nat} {Q : Exit → Act → World → Prop} {ops : Array Oper} (o0 o1 o2 o3 o4 o5 o6 : Oper) (p0 : o0.op = .load 84 (.tmp 7)) (d0 : o0.dst = some 37) (g0 : o0.guard = none) (p1 : o1.op = .load 92 (.tmp 10)) (d1 : o1.dst = some 38) (g1 : o1.guard = none) (p2 : o2.op = .lookup 84 (.tmp 37) (.tmp 38) false) (d2 : o2.dst = some 39) (g2 : o2.guard = none) (p3 : o3.op = .binOp .add 3 (.tmp 39) (.const (.int .i64 1)) 3) (d3 : o3.dst = some 40) (g3 : o3.guard = none) (p4 : o4.op = .mapEntry 84 (.tmp 37) (.tmp 38)) (d4 : o4.dst = some 41) (g4 : o4.guard = none) (p5 : o5.op = .extract (.tmp 41) 1) (d5 : o5.dst = some 42) (g5 : o5.guard = none) (p6 : o6.op = .entryStore 84 (.tmp 37) (.tmp 42) (.tmp 40)) (d6 : o6.dst = none) (g6 : o6.guard = none)
    (q2 : 0 ∈ predsOf o2 ∧ 1 ∈ predsOf o2) (q3 : 2 ∈ predsOf o3) (q4 : 0 ∈ predsOf o4 ∧ 1 ∈ predsOf o4) (q5 : 4 ∈ predsOf o5) (q6 : 0 ∈ predsOf o6 ∧ 2 ∈ predsOf o6 ∧ 3 ∈ predsOf o6 ∧ 4 ∈ predsOf o6 ∧ 5 ∈ predsOf o6)
    (w0 : World) (b : Nat) (F : Int × Int → Option Value) (k : Int × Int) (c : Nat) (a0 : Act) (B7 B10 : Nat)
    (hsz : 43 ≤ a0.tmps.size) (tm : a0.eval (.tmp 7) = .pointer (some ⟨B7, 0, none⟩)) (tk : a0.eval (.tmp 10) = .pointer (some ⟨B10, 0, none⟩)) (hF : (F k).getD (.int .i64 0) = .int .i64 (c : Int)) (hc : c ≤ 1000000)
    (c7 : w0.cell? ⟨B7, 0, none⟩ = some (.map (some b))) (k0 : w0.cell? ⟨B10, 0, none⟩ = some (.int .i64 k.1)) (k1 : w0.cell? ⟨B10, 1, none⟩ = some (.int .i64 k.2)) (n7 : B7 ≠ b) (n10 : B10 ≠ b) :
    StepsJIn G n Try.prog ops Q (IncR w0 b F k c a0) 0 [o0, o1, o2, o3, o4, o5, o6] := by
  refine ⟨?_, ?_, ?_, ?_, ?_, ?_, ?_, trivial⟩
  · intro D a w K hD hp h hK
    refine step_wpIn g0 ?_
    have z := grownBy_cell h.gr n7 c7
    have r := (h.fr.eval (j := 7) (by decide)).trans tm
    refine wpIn_val_at (by unfold calm; rw [p0]) (.map (some b)) w (by
      unfold execOp
      rw [p0]
      generalize a.eval = ρ at *
      go_simp) ?_
    rw [d0]
    refine hK _ _ {
      fr := h.fr.put (by decide) _
      gr := h.gr
      s0 := fun _ => h.fr.eval_put (by omega) _
      s1 := by simpa [upD, eval_put_ne, put_none] using h.s1
      s2 := by simpa [upD, eval_put_ne, put_none] using h.s2
      s3 := by simpa [upD, eval_put_ne, put_none] using h.s3
      s4 := by simpa [upD, eval_put_ne, put_none] using h.s4
      o4 := by simpa [upD] using h.o4
      o5 := by simpa [upD] using h.o5
      o6 := fun hd => by rw [upD_ne _ (by decide)] at hd; have q := h.o6 hd; exact ⟨upD_mono q.1, upD_mono q.2.1, upD_mono q.2.2.1, upD_mono q.2.2.2⟩
      s6 := by simpa [upD] using h.s6 }
  · intro D a w K hD hp h hK
    refine step_wpIn g1 ?_
    have r := (h.fr.eval (j := 10) (by decide)).trans tk
    refine wpIn_val_at (by unfold calm; rw [p1]) (kvP k) w (exec_load 92 _ p1 B10 0 r [.int .i64 k.1, .int .i64 k.2] _ (fun j v hj => by
      match j, hj with
      | 0, hj => injection hj with hj; subst hj; exact grownBy_cell h.gr n10 k0
      | 1, hj => injection hj with hj; subst hj; exact grownBy_cell h.gr n10 k1) Try.underlying92 rfl (by kernel_rfl)) ?_
    rw [d1]
    refine hK _ _ {
      fr := h.fr.put (by decide) _
      gr := h.gr
      s1 := fun _ => h.fr.eval_put (by omega) _
      s0 := by simpa [upD, eval_put_ne, put_none] using h.s0
      s2 := by simpa [upD, eval_put_ne, put_none] using h.s2
      s3 := by simpa [upD, eval_put_ne, put_none] using h.s3
      s4 := by simpa [upD, eval_put_ne, put_none] using h.s4
      o4 := by simpa [upD] using h.o4
      o5 := by simpa [upD] using h.o5
      o6 := fun hd => by rw [upD_ne _ (by decide)] at hd; have q := h.o6 hd; exact ⟨upD_mono q.1, upD_mono q.2.1, upD_mono q.2.2.1, upD_mono q.2.2.2⟩
      s6 := by simpa [upD] using h.s6 }
  · intro D a w K hD hp h hK
    refine step_wpIn g2 ?_
    have r0 := h.s0 (hp 0 q2.1)
    have r1 := h.s1 (hp 1 q2.2)
    have h6 : D 6 = false := by
      cases e : D 6 with
      | false => rfl
      | true => have := (h.o6 e).2.2.2; rw [hD] at this; cases this
    have hr : (execOp a.eval o2).run Try.prog w = .ok (.value (.int .i64 (c : Int))) w := by
      cases h4 : D 4 with
      | false => rw [exec_lookup key_p Try.underlying84 p2 (h.o4 h4) k r0 r1 (.int .i64 0) (zero_int w), hF]
      | true =>
        obtain ⟨st, _, _, hat⟩ := h.s4 h4
        rw [exec_lookup key_p Try.underlying84 p2 (hat h6).is k r0 r1 (.int .i64 0) (zero_int w)]
        simp
    refine wpIn_val_at (by unfold calm; rw [p2]) (.int .i64 (c : Int)) w hr ?_
    rw [d2]
    refine hK _ _ {
      fr := h.fr.put (by decide) _
      gr := h.gr
      s2 := fun _ => h.fr.eval_put (by omega) _
      s0 := by simpa [upD, eval_put_ne, put_none] using h.s0
      s1 := by simpa [upD, eval_put_ne, put_none] using h.s1
      s3 := by simpa [upD, eval_put_ne, put_none] using h.s3
      s4 := by simpa [upD, eval_put_ne, put_none] using h.s4
      o4 := by simpa [upD] using h.o4
      o5 := by simpa [upD] using h.o5
      o6 := fun hd => by rw [upD_ne _ (by decide)] at hd; have q := h.o6 hd; exact ⟨upD_mono q.1, upD_mono q.2.1, upD_mono q.2.2.1, upD_mono q.2.2.2⟩
      s6 := by simpa [upD] using h.s6 }
  · intro D a w K hD hp h hK
    refine step_wpIn g3 ?_
    have r0 := h.s2 (hp 2 q3)
    have rc : a.eval (.const (.int .i64 1)) = .int .i64 1 := rfl
    have hwr : IntKind.i64.wrap ((c : Int) + 1) = (c : Int) + 1 := IntWalk.i64_in _ (by omega)
    have c0 : (0 : Int) ≤ c := by omega
    have c1 : (c : Int) ≤ 1000000 := by omega
    refine wpIn_val_at (by unfold calm; rw [p3]) (.int .i64 ((c : Int) + 1)) w (by
      unfold execOp
      rw [p3]
      generalize a.eval = ρ at *
      go_simp) ?_
    rw [d3]
    refine hK _ _ {
      fr := h.fr.put (by decide) _
      gr := h.gr
      s3 := fun _ => h.fr.eval_put (by omega) _
      s0 := by simpa [upD, eval_put_ne, put_none] using h.s0
      s1 := by simpa [upD, eval_put_ne, put_none] using h.s1
      s2 := by simpa [upD, eval_put_ne, put_none] using h.s2
      s4 := by simpa [upD, eval_put_ne, put_none] using h.s4
      o4 := by simpa [upD] using h.o4
      o5 := by simpa [upD] using h.o5
      o6 := fun hd => by rw [upD_ne _ (by decide)] at hd; have q := h.o6 hd; exact ⟨upD_mono q.1, upD_mono q.2.1, upD_mono q.2.2.1, upD_mono q.2.2.2⟩
      s6 := by simpa [upD] using h.s6 }
  · intro D a w K hD hp h hK
    refine step_wpIn g4 ?_
    have r0 := h.s0 (hp 0 q4.1)
    have r1 := h.s1 (hp 1 q4.2)
    have h5 : D 5 = false := by
      cases e : D 5 with
      | false => rfl
      | true => have := h.o5 e; rw [hD] at this; cases this
    have h6 : D 6 = false := by
      cases e : D 6 with
      | false => rfl
      | true => have := (h.o6 e).1; rw [hD] at this; cases this
    obtain ⟨w', st, hr, hat, hg⟩ := map_entry key_p Try.underlying84 (h.o4 hD) k (.int .i64 0) (zero_int w)
    rw [hF] at hr hat
    refine wpIn_val_at (by unfold calm; rw [p4]) (.tuple #[.int .i64 (c : Int), .int .i64 (st : Int)]) w' (by
      unfold execOp
      simp only [p4, r0, r1, hr, Sem.run_bind, Sem.run_pure, Result.andThen_ok]) ?_
    rw [d4]
    refine hK _ _ {
      fr := h.fr.put (by decide) _
      gr := grownBy_trans h.gr hg
      s4 := fun _ => ⟨st, h.fr.eval_put (by omega) _, fun h5' => (by rw [upD_ne _ (by decide), h5] at h5'; cases h5'), fun _ => hat⟩
      o4 := fun hd => by rw [upD_same] at hd; cases hd
      o5 := fun hd => upD_same _ _
      s6 := fun hd => by rw [upD_ne _ (by decide), h6] at hd; cases hd
      s0 := by simpa [upD, eval_put_ne, put_none] using h.s0
      s1 := by simpa [upD, eval_put_ne, put_none] using h.s1
      s2 := by simpa [upD, eval_put_ne, put_none] using h.s2
      s3 := by simpa [upD, eval_put_ne, put_none] using h.s3
      o6 := fun hd => by rw [upD_ne _ (by decide)] at hd; have q := h.o6 hd; exact ⟨upD_mono q.1, upD_mono q.2.1, upD_mono q.2.2.1, upD_mono q.2.2.2⟩ }
  · intro D a w K hD hp h hK
    refine step_wpIn g5 ?_
    obtain ⟨st, r0, -, hat⟩ := h.s4 (hp 4 q5)
    refine wpIn_val_at (by unfold calm; rw [p5]) (.int .i64 (st : Int)) w (by
      unfold execOp
      rw [p5]
      generalize a.eval = ρ at *
      go_simp) ?_
    rw [d5]
    refine hK _ _ {
      fr := h.fr.put (by decide) _
      gr := h.gr
      s4 := fun _ => ⟨st, by rw [eval_put_ne (by decide)]; exact r0, fun _ => h.fr.eval_put (by omega) _, by simpa [upD] using hat⟩
      o5 := fun _ => upD_mono (hp 4 q5)
      s0 := by simpa [upD, eval_put_ne, put_none] using h.s0
      s1 := by simpa [upD, eval_put_ne, put_none] using h.s1
      s2 := by simpa [upD, eval_put_ne, put_none] using h.s2
      s3 := by simpa [upD, eval_put_ne, put_none] using h.s3
      o4 := by simpa [upD] using h.o4
      o6 := fun hd => by rw [upD_ne _ (by decide)] at hd; have q := h.o6 hd; exact ⟨upD_mono q.1, upD_mono q.2.1, upD_mono q.2.2.1, upD_mono q.2.2.2⟩
      s6 := by simpa [upD] using h.s6 }
  · intro D a w K hD hp h hK
    refine step_wpIn g6 ?_
    have r0 := h.s0 (hp 0 q6.1)
    have r3 := h.s3 (hp 3 q6.2.2.1)
    obtain ⟨st, r4, r5, hat⟩ := h.s4 (hp 4 q6.2.2.2.1)
    have r5 := r5 (hp 5 q6.2.2.2.2)
    obtain ⟨w', hr, hm, hg⟩ := entry_store (P := Try.prog) (t := 84) key_p.dk (hat hD) (.int .i64 ((c : Int) + 1))
    refine wpIn_skip_at (by unfold calm; rw [p6]) w' (by
      unfold execOp
      simp only [p6, r0, r3, r5, hr, Sem.run_bind, Sem.run_pure, Result.andThen_ok]) ?_
    rw [d6]
    refine hK _ _ {
      fr := h.fr
      gr := grownBy_trans h.gr hg
      s4 := fun _ => ⟨st, r4, fun _ => r5, fun h6 => (by rw [upD_same] at h6; cases h6)⟩
      o4 := fun hd => by rw [upD_ne _ (by decide)] at hd; rw [hp 4 q6.2.2.2.1] at hd; cases hd
      o6 := fun _ => ⟨upD_mono (hp 4 q6.2.2.2.1), upD_mono (hp 3 q6.2.2.1), upD_mono (hp 5 q6.2.2.2.2), upD_mono (hp 2 q6.2.1)⟩
      s6 := fun _ => by
        have e : (fun k' => if k' = k then some (Value.int .i64 ((c : Int) + 1)) else if k' = k then some (.int .i64 (c : Int)) else F k') = fun k' => if k' = k then some (.int .i64 ((c : Int) + 1)) else F k' := by
          funext k'
          by_cases q : k' = k <;> simp [q]
        rw [← e]
        exact hm
      s0 := by simpa [upD, eval_put_ne, put_none] using h.s0
      s1 := by simpa [upD, eval_put_ne, put_none] using h.s1
      s2 := by simpa [upD, eval_put_ne, put_none] using h.s2
      s3 := by simpa [upD, eval_put_ne, put_none] using h.s3
      o5 := by simpa [upD] using h.o5 }
/-- What holds while m[k]++ comes up. -/
structure IncW (w0 : World) (b : Nat) (F : Int × Int → Option Value) (k : Int × Int) (c : Nat) (a0 : Act) (D : Nat → Bool) (a : Act) (w : World) : Prop where
  fr : Fr [45, 46, 47, 48, 49, 50] a0 a
  gr : w0.grownBy w (some b)
  s0 : D 0 = true → a.eval (.tmp 45) = .map (some b)
  s1 : D 1 = true → a.eval (.tmp 46) = kvP k
  s2 : D 2 = true → a.eval (.tmp 47) = .int .i64 (c : Int)
  s3 : D 3 = true → a.eval (.tmp 48) = .int .i64 ((c : Int) + 1)
  s4 : D 4 = true → ∃ st : Nat, a.eval (.tmp 49) = .tuple #[.int .i64 (c : Int), .int .i64 (st : Int)] ∧ (D 5 = true → a.eval (.tmp 50) = .int .i64 (st : Int)) ∧ (D 6 = false → MapAt kvP decP w b (fun k' => if k' = k then some (.int .i64 (c : Int)) else F k') k st)
  o4 : D 4 = false → MapIs kvP decP w b F
  o5 : D 5 = true → D 4 = true
  o6 : D 6 = true → D 4 = true ∧ D 3 = true ∧ D 5 = true ∧ D 2 = true
  s6 : D 6 = true → MapIs kvP decP w b (fun k' => if k' = k then some (.int .i64 ((c : Int) + 1)) else F k')
set_option maxRecDepth 100000 in
set_option maxHeartbeats 2000000 in
theorem incW_steps {G : Fence} {n : Nat} {Q : Exit → Act → World → Prop} {ops : Array Oper} (o0 o1 o2 o3 o4 o5 o6 : Oper) (p0 : o0.op = .load 84 (.tmp 8)) (d0 : o0.dst = some 45) (g0 : o0.guard = none) (p1 : o1.op = .load 92 (.tmp 10)) (d1 : o1.dst = some 46) (g1 : o1.guard = none) (p2 : o2.op = .lookup 84 (.tmp 45) (.tmp 46) false) (d2 : o2.dst = some 47) (g2 : o2.guard = none) (p3 : o3.op = .binOp .add 3 (.tmp 47) (.const (.int .i64 1)) 3) (d3 : o3.dst = some 48) (g3 : o3.guard = none) (p4 : o4.op = .mapEntry 84 (.tmp 45) (.tmp 46)) (d4 : o4.dst = some 49) (g4 : o4.guard = none) (p5 : o5.op = .extract (.tmp 49) 1) (d5 : o5.dst = some 50) (g5 : o5.guard = none) (p6 : o6.op = .entryStore 84 (.tmp 45) (.tmp 50) (.tmp 48)) (d6 : o6.dst = none) (g6 : o6.guard = none)
    (q2 : 0 ∈ predsOf o2 ∧ 1 ∈ predsOf o2) (q3 : 2 ∈ predsOf o3) (q4 : 0 ∈ predsOf o4 ∧ 1 ∈ predsOf o4) (q5 : 4 ∈ predsOf o5) (q6 : 0 ∈ predsOf o6 ∧ 2 ∈ predsOf o6 ∧ 3 ∈ predsOf o6 ∧ 4 ∈ predsOf o6 ∧ 5 ∈ predsOf o6)
    (w0 : World) (b : Nat) (F : Int × Int → Option Value) (k : Int × Int) (c : Nat) (a0 : Act) (B7 B10 : Nat)
    (hsz : 51 ≤ a0.tmps.size) (tm : a0.eval (.tmp 8) = .pointer (some ⟨B7, 0, none⟩)) (tk : a0.eval (.tmp 10) = .pointer (some ⟨B10, 0, none⟩)) (hF : (F k).getD (.int .i64 0) = .int .i64 (c : Int)) (hc : c ≤ 1000000)
    (c7 : w0.cell? ⟨B7, 0, none⟩ = some (.map (some b))) (k0 : w0.cell? ⟨B10, 0, none⟩ = some (.int .i64 k.1)) (k1 : w0.cell? ⟨B10, 1, none⟩ = some (.int .i64 k.2)) (n7 : B7 ≠ b) (n10 : B10 ≠ b) :
    StepsJIn G n Try.prog ops Q (IncW w0 b F k c a0) 0 [o0, o1, o2, o3, o4, o5, o6] := by
  refine ⟨?_, ?_, ?_, ?_, ?_, ?_, ?_, trivial⟩
  · intro D a w K hD hp h hK
    refine step_wpIn g0 ?_
    have z := grownBy_cell h.gr n7 c7
    have r := (h.fr.eval (j := 8) (by decide)).trans tm
    refine wpIn_val_at (by unfold calm; rw [p0]) (.map (some b)) w (by
      unfold execOp
      rw [p0]
      generalize a.eval = ρ at *
      go_simp) ?_
    rw [d0]
    refine hK _ _ {
      fr := h.fr.put (by decide) _
      gr := h.gr
      s0 := fun _ => h.fr.eval_put (by omega) _
      s1 := by simpa [upD, eval_put_ne, put_none] using h.s1
      s2 := by simpa [upD, eval_put_ne, put_none] using h.s2
      s3 := by simpa [upD, eval_put_ne, put_none] using h.s3
      s4 := by simpa [upD, eval_put_ne, put_none] using h.s4
      o4 := by simpa [upD] using h.o4
      o5 := by simpa [upD] using h.o5
      o6 := fun hd => by rw [upD_ne _ (by decide)] at hd; have q := h.o6 hd; exact ⟨upD_mono q.1, upD_mono q.2.1, upD_mono q.2.2.1, upD_mono q.2.2.2⟩
      s6 := by simpa [upD] using h.s6 }
  · intro D a w K hD hp h hK
    refine step_wpIn g1 ?_
    have r := (h.fr.eval (j := 10) (by decide)).trans tk
    refine wpIn_val_at (by unfold calm; rw [p1]) (kvP k) w (exec_load 92 _ p1 B10 0 r [.int .i64 k.1, .int .i64 k.2] _ (fun j v hj => by
      match j, hj with
      | 0, hj => injection hj with hj; subst hj; exact grownBy_cell h.gr n10 k0
      | 1, hj => injection hj with hj; subst hj; exact grownBy_cell h.gr n10 k1) Try.underlying92 rfl (by kernel_rfl)) ?_
    rw [d1]
    refine hK _ _ {
      fr := h.fr.put (by decide) _
      gr := h.gr
      s1 := fun _ => h.fr.eval_put (by omega) _
      s0 := by simpa [upD, eval_put_ne, put_none] using h.s0
      s2 := by simpa [upD, eval_put_ne, put_none] using h.s2
      s3 := by simpa [upD, eval_put_ne, put_none] using h.s3
      s4 := by simpa [upD, eval_put_ne, put_none] using h.s4
      o4 := by simpa [upD] using h.o4
      o5 := by simpa [upD] using h.o5
      o6 := fun hd => by rw [upD_ne _ (by decide)] at hd; have q := h.o6 hd; exact ⟨upD_mono q.1, upD_mono q.2.1, upD_mono q.2.2.1, upD_mono q.2.2.2⟩
      s6 := by simpa [upD] using h.s6 }
  · intro D a w K hD hp h hK
    refine step_wpIn g2 ?_
    have r0 := h.s0 (hp 0 q2.1)
    have r1 := h.s1 (hp 1 q2.2)
    have h6 : D 6 = false := by
      cases e : D 6 with
      | false => rfl
      | true => have := (h.o6 e).2.2.2; rw [hD] at this; cases this
    have hr : (execOp a.eval o2).run Try.prog w = .ok (.value (.int .i64 (c : Int))) w := by
      cases h4 : D 4 with
      | false => rw [exec_lookup key_p Try.underlying84 p2 (h.o4 h4) k r0 r1 (.int .i64 0) (zero_int w), hF]
      | true =>
        obtain ⟨st, _, _, hat⟩ := h.s4 h4
        rw [exec_lookup key_p Try.underlying84 p2 (hat h6).is k r0 r1 (.int .i64 0) (zero_int w)]
        simp
    refine wpIn_val_at (by unfold calm; rw [p2]) (.int .i64 (c : Int)) w hr ?_
    rw [d2]
    refine hK _ _ {
      fr := h.fr.put (by decide) _
      gr := h.gr
      s2 := fun _ => h.fr.eval_put (by omega) _
      s0 := by simpa [upD, eval_put_ne, put_none] using h.s0
      s1 := by simpa [upD, eval_put_ne, put_none] using h.s1
      s3 := by simpa [upD, eval_put_ne, put_none] using h.s3
      s4 := by simpa [upD, eval_put_ne, put_none] using h.s4
      o4 := by simpa [upD] using h.o4
      o5 := by simpa [upD] using h.o5
      o6 := fun hd => by rw [upD_ne _ (by decide)] at hd; have q := h.o6 hd; exact ⟨upD_mono q.1, upD_mono q.2.1, upD_mono q.2.2.1, upD_mono q.2.2.2⟩
      s6 := by simpa [upD] using h.s6 }
  · intro D a w K hD hp h hK
    refine step_wpIn g3 ?_
    have r0 := h.s2 (hp 2 q3)
    have rc : a.eval (.const (.int .i64 1)) = .int .i64 1 := rfl
    have hwr : IntKind.i64.wrap ((c : Int) + 1) = (c : Int) + 1 := IntWalk.i64_in _ (by omega)
    have c0 : (0 : Int) ≤ c := by omega
    have c1 : (c : Int) ≤ 1000000 := by omega
    refine wpIn_val_at (by unfold calm; rw [p3]) (.int .i64 ((c : Int) + 1)) w (by
      unfold execOp
      rw [p3]
      generalize a.eval = ρ at *
      go_simp) ?_
    rw [d3]
    refine hK _ _ {
      fr := h.fr.put (by decide) _
      gr := h.gr
      s3 := fun _ => h.fr.eval_put (by omega) _
      s0 := by simpa [upD, eval_put_ne, put_none] using h.s0
      s1 := by simpa [upD, eval_put_ne, put_none] using h.s1
      s2 := by simpa [upD, eval_put_ne, put_none] using h.s2
      s4 := by simpa [upD, eval_put_ne, put_none] using h.s4
      o4 := by simpa [upD] using h.o4
      o5 := by simpa [upD] using h.o5
      o6 := fun hd => by rw [upD_ne _ (by decide)] at hd; have q := h.o6 hd; exact ⟨upD_mono q.1, upD_mono q.2.1, upD_mono q.2.2.1, upD_mono q.2.2.2⟩
      s6 := by simpa [upD] using h.s6 }
  · intro D a w K hD hp h hK
    refine step_wpIn g4 ?_
    have r0 := h.s0 (hp 0 q4.1)
    have r1 := h.s1 (hp 1 q4.2)
    have h5 : D 5 = false := by
      cases e : D 5 with
      | false => rfl
      | true => have := h.o5 e; rw [hD] at this; cases this
    have h6 : D 6 = false := by
      cases e : D 6 with
      | false => rfl
      | true => have := (h.o6 e).1; rw [hD] at this; cases this
    obtain ⟨w', st, hr, hat, hg⟩ := map_entry key_p Try.underlying84 (h.o4 hD) k (.int .i64 0) (zero_int w)
    rw [hF] at hr hat
    refine wpIn_val_at (by unfold calm; rw [p4]) (.tuple #[.int .i64 (c : Int), .int .i64 (st : Int)]) w' (by
      unfold execOp
      simp only [p4, r0, r1, hr, Sem.run_bind, Sem.run_pure, Result.andThen_ok]) ?_
    rw [d4]
    refine hK _ _ {
      fr := h.fr.put (by decide) _
      gr := grownBy_trans h.gr hg
      s4 := fun _ => ⟨st, h.fr.eval_put (by omega) _, fun h5' => (by rw [upD_ne _ (by decide), h5] at h5'; cases h5'), fun _ => hat⟩
      o4 := fun hd => by rw [upD_same] at hd; cases hd
      o5 := fun hd => upD_same _ _
      s6 := fun hd => by rw [upD_ne _ (by decide), h6] at hd; cases hd
      s0 := by simpa [upD, eval_put_ne, put_none] using h.s0
      s1 := by simpa [upD, eval_put_ne, put_none] using h.s1
      s2 := by simpa [upD, eval_put_ne, put_none] using h.s2
      s3 := by simpa [upD, eval_put_ne, put_none] using h.s3
      o6 := fun hd => by rw [upD_ne _ (by decide)] at hd; have q := h.o6 hd; exact ⟨upD_mono q.1, upD_mono q.2.1, upD_mono q.2.2.1, upD_mono q.2.2.2⟩ }
  · intro D a w K hD hp h hK
    refine step_wpIn g5 ?_
    obtain ⟨st, r0, -, hat⟩ := h.s4 (hp 4 q5)
    refine wpIn_val_at (by unfold calm; rw [p5]) (.int .i64 (st : Int)) w (by
      unfold execOp
      rw [p5]
      generalize a.eval = ρ at *
      go_simp) ?_
    rw [d5]
    refine hK _ _ {
      fr := h.fr.put (by decide) _
      gr := h.gr
      s4 := fun _ => ⟨st, by rw [eval_put_ne (by decide)]; exact r0, fun _ => h.fr.eval_put (by omega) _, by simpa [upD] using hat⟩
      o5 := fun _ => upD_mono (hp 4 q5)
      s0 := by simpa [upD, eval_put_ne, put_none] using h.s0
      s1 := by simpa [upD, eval_put_ne, put_none] using h.s1
      s2 := by simpa [upD, eval_put_ne, put_none] using h.s2
      s3 := by simpa [upD, eval_put_ne, put_none] using h.s3
      o4 := by simpa [upD] using h.o4
      o6 := fun hd => by rw [upD_ne _ (by decide)] at hd; have q := h.o6 hd; exact ⟨upD_mono q.1, upD_mono q.2.1, upD_mono q.2.2.1, upD_mono q.2.2.2⟩
      s6 := by simpa [upD] using h.s6 }
  · intro D a w K hD hp h hK
    refine step_wpIn g6 ?_
    have r0 := h.s0 (hp 0 q6.1)
    have r3 := h.s3 (hp 3 q6.2.2.1)
    obtain ⟨st, r4, r5, hat⟩ := h.s4 (hp 4 q6.2.2.2.1)
    have r5 := r5 (hp 5 q6.2.2.2.2)
    obtain ⟨w', hr, hm, hg⟩ := entry_store (P := Try.prog) (t := 84) key_p.dk (hat hD) (.int .i64 ((c : Int) + 1))
    refine wpIn_skip_at (by unfold calm; rw [p6]) w' (by
      unfold execOp
      simp only [p6, r0, r3, r5, hr, Sem.run_bind, Sem.run_pure, Result.andThen_ok]) ?_
    rw [d6]
    refine hK _ _ {
      fr := h.fr
      gr := grownBy_trans h.gr hg
      s4 := fun _ => ⟨st, r4, fun _ => r5, fun h6 => (by rw [upD_same] at h6; cases h6)⟩
      o4 := fun hd => by rw [upD_ne _ (by decide)] at hd; rw [hp 4 q6.2.2.2.1] at hd; cases hd
      o6 := fun _ => ⟨upD_mono (hp 4 q6.2.2.2.1), upD_mono (hp 3 q6.2.2.1), upD_mono (hp 5 q6.2.2.2.2), upD_mono (hp 2 q6.2.1)⟩
      s6 := fun _ => by
        have e : (fun k' => if k' = k then some (Value.int .i64 ((c : Int) + 1)) else if k' = k then some (.int .i64 (c : Int)) else F k') = fun k' => if k' = k then some (.int .i64 ((c : Int) + 1)) else F k' := by
          funext k'
          by_cases q : k' = k <;> simp [q]
        rw [← e]
        exact hm
      s0 := by simpa [upD, eval_put_ne, put_none] using h.s0
      s1 := by simpa [upD, eval_put_ne, put_none] using h.s1
      s2 := by simpa [upD, eval_put_ne, put_none] using h.s2
      s3 := by simpa [upD, eval_put_ne, put_none] using h.s3
      o5 := by simpa [upD] using h.o5 }
end Go.Proofs.Ytkkmkjjbffpgnaa
