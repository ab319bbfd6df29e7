import Derived.Test.YtffgnjgphkdodaaGreatDoorP113
import Derived.Test.YtffgnjgphkdodaaGreatDoorP115
import Derived.Test.YtffgnjgphkdodaaGreatDoorP14
import Derived.Laws.StructEq
/- The unit of layer 11's lives: each thread stores to its own variable and loads the other one. What delay tells of it. -/
namespace Go.Proofs.YtffgnjgphkdodaaGreatDoor
open Go Go.RowKit
def dkz : Val := ⟨false, 0, 0⟩
def dkS (o : Int) : Node := ⟨3, 0, 0, o, ⟨false, 0, 1⟩, dkz, 1, 0, 0⟩
def dkL (o : Int) : Node := ⟨2, 0, 0, 1 - o, dkz, dkz, 2, 0, 1⟩
def dkE : Node := ⟨9, 0, 0, 0, dkz, dkz, 0, 0, 2⟩
def dkG (s : ByteArray) (o : Int) : Graph := ⟨s, 0, 1, [dkS o, dkL o, dkE]⟩
def dkU : Unit_ := ⟨[⟨⟨#[120]⟩, 0, 0⟩, ⟨⟨#[121]⟩, 0, 0⟩], [], [dkG ⟨#[97]⟩ 0, dkG ⟨#[98]⟩ 1]⟩
theorem dk_check : checkF dkU = none := by kernel_rfl
theorem dk_i64 : i64 0 ∧ i64 1 ∧ i64 2 := by unfold i64; omega
theorem dk_ok : UOk dkU := by
  intro g hg n hn
  have h0 := dk_i64.1
  have h1 := dk_i64.2.1
  have h2 := dk_i64.2.2
  simp only [dkU, List.mem_cons, List.not_mem_nil, or_false] at hg
  rcases hg with rfl | rfl
  · simp only [dkG, List.mem_cons, List.not_mem_nil, or_false] at hn
    rcases hn with rfl | rfl | rfl
    · exact ⟨by decide, by decide, h0, h0, ⟨h0, h1⟩, ⟨h0, h0⟩, h1, h0, h0⟩
    · exact ⟨by decide, by decide, h0, h1, ⟨h0, h0⟩, ⟨h0, h0⟩, h2, h0, h1⟩
    · exact ⟨by decide, by decide, h0, h0, ⟨h0, h0⟩, ⟨h0, h0⟩, h0, h0, h2⟩
  · simp only [dkG, List.mem_cons, List.not_mem_nil, or_false] at hn
    rcases hn with rfl | rfl | rfl
    · exact ⟨by decide, by decide, h0, h1, ⟨h0, h1⟩, ⟨h0, h0⟩, h1, h0, h0⟩
    · exact ⟨by decide, by decide, h0, h0, ⟨h0, h0⟩, ⟨h0, h0⟩, h2, h0, h1⟩
    · exact ⟨by decide, by decide, h0, h0, ⟨h0, h0⟩, ⟨h0, h0⟩, h0, h0, h2⟩
section
variable (s : ByteArray) (o : Int)
theorem dk_r0 : ReachC (dkG s o) (-1) 0 := .zero
theorem dk_r1 : ReachC (dkG s o) (-1) 1 := .step (dk_r0 s o) (by decide) (n := dkS o) rfl (by simp [fol, dkS])
theorem dk_r2 : ReachC (dkG s o) (-1) 2 := .step (dk_r1 s o) (by decide) (n := dkL o) rfl (by simp [fol, dkL])
theorem dk_hits (t : Nat) (ho : heldL (dkG s o) = [[], [], []]) : hitsOf t (dkG s o) 0 [dkS o, dkL o, dkE] = [⟨t, 0, dkS o, []⟩, ⟨t, 1, dkL o, []⟩, ⟨t, 2, dkE, []⟩] := by
  have h0 : heldAt (dkG s o) 0 = [] := by unfold heldAt; rw [ho]; rfl
  have h1 : heldAt (dkG s o) 1 = [] := by unfold heldAt; rw [ho]; rfl
  have h2 : heldAt (dkG s o) 2 = [] := by unfold heldAt; rw [ho]; rfl
  rw [hitsOf_yes (dk_r0 s o), hitsOf_yes (dk_r1 s o), hitsOf_yes (dk_r2 s o), h0, h1, h2]
  rfl
end
theorem dk_hitsU : hitsU dkU = [⟨0, 0, dkS 0, []⟩, ⟨0, 1, dkL 0, []⟩, ⟨0, 2, dkE, []⟩, ⟨1, 0, dkS 1, []⟩, ⟨1, 1, dkL 1, []⟩, ⟨1, 2, dkE, []⟩] := by
  show hits 0 [dkG ⟨#[97]⟩ 0, dkG ⟨#[98]⟩ 1] = _
  simp only [hits]
  show hitsOf 0 (dkG ⟨#[97]⟩ 0) 0 [dkS 0, dkL 0, dkE] ++ (hitsOf 1 (dkG ⟨#[98]⟩ 1) 0 [dkS 1, dkL 1, dkE] ++ []) = _
  rw [dk_hits _ _ 0 rfl, dk_hits _ _ 1 rfl]
  rfl
theorem dk_class (x : Int) (hx : x = 0 ∨ x = 1) : (classF dkU x).kind = 3 := by
  have h : touchU dkU x = if x = 0 then [⟨0, 0, dkS 0, []⟩, ⟨1, 1, dkL 1, []⟩] else [⟨0, 1, dkL 0, []⟩, ⟨1, 0, dkS 1, []⟩] := by
    unfold touchU
    rw [dk_hitsU]
    rcases hx with rfl | rfl <;> rfl
  have hg : guardsF dkU x = [] := by
    unfold guardsF
    split
    · rfl
    · rfl
  unfold classF
  rw [h, hg]
  rcases hx with rfl | rfl <;> rfl
section
variable {s : ByteArray} {o : Int}
theorem dk_f0 (o : Int) : fol (dkS o) = [1] := rfl
theorem dk_f1 (o : Int) : fol (dkL o) = [2] := rfl
theorem dk_f2 : fol dkE = [] := rfl
theorem dk_m0 (ho : o = 0 ∨ o = 1) (F : List Int) : mkAt dkU (dkG s o) F 0 = ⟨true, false, false, decide ((0 : Int) ∈ F)⟩ := by
  have hs : stB dkU (dkS o) = true := decide_eq_true (.inr ⟨rfl, dk_class o ho⟩)
  have hl : ldB dkU (dkS o) = false := decide_eq_false (fun h => by have := h.1; cases this)
  rw [mkAt_of (n := dkS o) rfl (b := true) (by simp [dk_r0]), hs, hl]
  rfl
theorem dk_m1 (ho : o = 0 ∨ o = 1) (F : List Int) : mkAt dkU (dkG s o) F 1 = ⟨false, true, false, decide ((1 : Int) ∈ F)⟩ := by
  have hs : stB dkU (dkL o) = false := decide_eq_false (fun h => by
    rcases h with h | h
    · cases h
    · have := h.1; cases this)
  have hl : ldB dkU (dkL o) = true := decide_eq_true ⟨rfl, dk_class (1 - o) (by omega)⟩
  rw [mkAt_of (n := dkL o) rfl (b := true) (by simp [dk_r1]), hs, hl]
  rfl
theorem dk_m2 (F : List Int) : mkAt dkU (dkG s o) F 2 = ⟨false, false, false, decide ((2 : Int) ∈ F)⟩ := by
  have hs : stB dkU dkE = false := decide_eq_false (fun h => by
    rcases h with h | h
    · cases h
    · have := h.1; cases this)
  have hl : ldB dkU dkE = false := decide_eq_false (fun h => by have := h.1; cases this)
  rw [mkAt_of (n := dkE) rfl (b := true) (by simp [dk_r2]), hs, hl]
  rfl
theorem dk_st (ho : o = 0 ∨ o = 1) : stL dkU (dkG s o) = [0] := by
  show stK dkU (dkG s o) (0 + 1 + 1 + 1) = _
  rw [stK_succ, stK_succ, stK_succ, dk_m0 ho, dk_m1 ho, dk_m2]
  rfl
theorem dk_open0 : openG (dkG s o) [0] [] = [false, true, true] := by
  have h1 : OpenC (dkG s o) (fun i => (i : Int) ∈ [0]) [] 1 := .first (i := 0) (n := dkS o) (by simp) rfl (by rw [dk_f0]; simp) (by simp)
  have h2 : OpenC (dkG s o) (fun i => (i : Int) ∈ [0]) [] 2 := .step h1 (n := dkL o) rfl rfl (by rw [dk_f1]; simp) (by simp)
  have h0 : ¬ OpenC (dkG s o) (fun i => (i : Int) ∈ [0]) [] 0 := fun h => by
    have key : ∀ (i j : Nat) (n : Node), (dkG s o).nodes[i]? = some n → (j : Int) ∈ fol n → j ≠ 0 := fun i j n hn hj e => by
      subst e
      match i, hn with
      | 0, hn => injection hn with hn; subst hn; rw [dk_f0] at hj; simp at hj
      | 1, hn => injection hn with hn; subst hn; rw [dk_f1] at hj; simp at hj
      | 2, hn => injection hn with hn; subst hn; rw [dk_f2] at hj; cases hj
      | i + 3, hn => simp [dkG] at hn
    cases h with
    | first _ hn hj _ => exact key _ _ _ hn hj rfl
    | step _ hn _ hj _ => exact key _ _ _ hn hj rfl
  refine (openG_of rfl fun i => ?_).symm
  match i with
  | 0 => simpa using h0
  | 1 => simpa using h1
  | 2 => simpa using h2
  | i + 3 =>
    refine ⟨fun h => by simp at h, fun h => ?_⟩
    exfalso
    cases h with
    | @first a _ n _ hn hj _ =>
      match a, hn with
      | 0, hn => injection hn with hn; subst hn; rw [dk_f0] at hj; simp at hj; omega
      | 1, hn => injection hn with hn; subst hn; rw [dk_f1] at hj; simp at hj; omega
      | 2, hn => injection hn with hn; subst hn; rw [dk_f2] at hj; cases hj
      | a + 3, hn => simp [dkG] at hn
    | @step a _ n _ hn _ hj _ =>
      match a, hn with
      | 0, hn => injection hn with hn; subst hn; rw [dk_f0] at hj; simp at hj; omega
      | 1, hn => injection hn with hn; subst hn; rw [dk_f1] at hj; simp at hj; omega
      | 2, hn => injection hn with hn; subst hn; rw [dk_f2] at hj; cases hj
      | a + 3, hn => simp [dkG] at hn
theorem dk_open1 : openG (dkG s o) [0] [1] = [false, false, false] := by
  have h0 : ∀ i, ¬ OpenC (dkG s o) (fun i => (i : Int) ∈ [0]) [1] i := fun i h => by
    induction h with
    | @first a j n hs hn hj hf =>
      have : a = 0 := by simpa using hs
      subst this
      injection hn with hn
      subst hn
      rw [dk_f0] at hj
      simp at hj hf
      omega
    | step _ _ _ _ _ ih => exact ih
  refine (openG_of rfl fun i => ?_).symm
  refine ⟨fun h => ?_, fun h => (h0 i h).elim⟩
  match i, h with
  | 0, h => simp at h
  | 1, h => simp at h
  | 2, h => simp at h
  | i + 3, h => simp at h
end
theorem dk_get (t : Nat) (ht : t < 2) : ∃ s o, dkU.graphs[t]? = some (dkG s o) ∧ (o = 0 ∨ o = 1) := by
  match t, ht with
  | 0, _ => exact ⟨_, 0, rfl, .inl rfl⟩
  | 1, _ => exact ⟨_, 1, rfl, .inr rfl⟩
theorem dk_ask (t : Nat) (ht : t < 2) : askE dkU (t : Int) = 0 := askE_ok dk_check ⟨by omega, by show (t : Int) < (2 : Nat); omega⟩
theorem dk_openR (t : Nat) (ht : t < 2) : openR dkU (t : Int) [] = ([false, true, true], 0) ∧ openR dkU (t : Int) [1] = ([false, false, false], 0) := by
  obtain ⟨s, o, hg, ho⟩ := dk_get t ht
  unfold openR
  rw [if_pos (dk_ask t ht), if_pos (dk_ask t ht), Int.toNat_natCast, hg]
  simp only
  rw [dk_st ho, dk_open0, dk_open1]
  exact ⟨rfl, rfl⟩
theorem dk_pairs : pairsR dkU 0 = ([(0, 1)], 0) := by
  have ho : (0 : Int) = 0 ∨ (0 : Int) = 1 := .inl rfl
  have hl : ldK dkU (dkG ⟨#[97]⟩ 0) [false, true, true] 3 = [1] := by
    rw [ldK_succ, ldK_succ, ldK_succ, dk_m0 ho, dk_m1 ho, dk_m2]
    rfl
  have h : prL dkU (dkG ⟨#[97]⟩ 0) (stL dkU (dkG ⟨#[97]⟩ 0)) = [(0, 1)] := by
    rw [dk_st ho]
    show (ldK dkU (dkG ⟨#[97]⟩ 0) (openG (dkG ⟨#[97]⟩ 0) [0] []) 3).map (fun x => ((0 : Int), x)) ++ [] = _
    rw [dk_open0, hl]
    rfl
  have h0 : askE dkU 0 = 0 := dk_ask 0 (by decide)
  unfold pairsR
  rw [if_pos h0]
  show (if (prL dkU (dkG ⟨#[97]⟩ 0) (stL dkU (dkG ⟨#[97]⟩ 0))).length ≤ 65536 then _ else _) = _
  rw [h]
  rfl
theorem dk_far : farD (dkG ⟨#[98]⟩ 1) 1 = [1, 0, -1] := by
  refine (farD_is _ 1).inj ⟨rfl, fun i x hi => ?_⟩
  match i, hi with
  | 0, hi =>
    injection hi with hi
    subst hi
    refine .inr ⟨1, rfl, .step (n := dkS 1) rfl rfl (j := 1) (by decide) .nil, fun e he => ?_⟩
    cases he with
    | step _ _ _ _ => omega
  | 1, hi =>
    injection hi with hi
    subst hi
    exact .inr ⟨0, rfl, .nil, fun _ _ => Nat.zero_le _⟩
  | 2, hi =>
    injection hi with hi
    subst hi
    refine .inl ⟨rfl, fun d hd => ?_⟩
    cases hd with
    | step hn _ hj _ =>
      injection hn with hn
      subst hn
      rw [dk_f2] at hj
      cases hj
  | i + 3, hi => simp at hi
theorem dk_way : wayR dkU 1 0 1 = ([0, 1], true, 0) := by
  have ho : (1 : Int) = 0 ∨ (1 : Int) = 1 := .inr rfl
  have h0 : askE dkU 1 = 0 := dk_ask 1 (by decide)
  unfold wayR
  rw [if_pos h0]
  show (if (0 : Int) ≤ 0 ∧ (0 : Int) < ((3 : Nat) : Int) ∧ (0 : Int) ≤ 1 ∧ (1 : Int) < ((3 : Nat) : Int) then
        if (mkAt dkU (dkG ⟨#[98]⟩ 1) [] 0).store = true ∧ (mkAt dkU (dkG ⟨#[98]⟩ 1) [] 1).load = true then
          match (farD (dkG ⟨#[98]⟩ 1) 1)[(0 : Nat)]? with
          | some (x : Int) => if x < 0 then ([], false, 0) else (wayF (dkG ⟨#[98]⟩ 1) (farD (dkG ⟨#[98]⟩ 1) 1) x.toNat 0, true, 0)
          | none => ([], false, 0)
        else ([], false, 0)
      else (([], false, 2) : List Int × Bool × Int)) = _
  rw [dk_far, dk_m0 ho, dk_m1 ho]
  rfl
theorem dk_loads (t : Nat) (ht : t < 2) : (loadsR dkU (t : Int) [1]).1 = [] := by
  obtain ⟨s, o, hg, ho⟩ := dk_get t ht
  unfold loadsR
  rw [(dk_openR t ht).2, if_pos rfl, Int.toNat_natCast, hg]
  show ldK dkU (dkG s o) [false, false, false] (0 + 1 + 1 + 1) = []
  rw [ldK_succ, ldK_succ, ldK_succ]
  rfl
theorem dk_safe : safeR dkU [[1], [1]] = (true, 0) := by
  refine safeR_safe dk_check ⟨rfl, fun t g l hg hl => ?_⟩ fun t l hl => ?_
  · have ht : t < 2 := (List.getElem?_eq_some_iff.1 hl).1
    obtain ⟨s, o, hg', _⟩ := dk_get t ht
    rw [hg'] at hg
    injection hg with hg
    subst hg
    have : l = [1] := by
      match t, hl with
      | 0, hl => injection hl with hl; exact hl.symm
      | 1, hl => injection hl with hl; exact hl.symm
    subst this
    rfl
  · have ht : t < 2 := (List.getElem?_eq_some_iff.1 hl).1
    have : l = [1] := by
      match t, hl with
      | 0, hl => injection hl with hl; exact hl.symm
      | 1, hl => injection hl with hl; exact hl.symm
    subst this
    exact dk_loads t ht
end Go.Proofs.YtffgnjgphkdodaaGreatDoor
/- The walk of layer 11's lives. -/
namespace Go.Proofs.YtffgnjgphkdodaaGreatDoor
open Go Go.RowKit
set_option maxHeartbeats 400000 in
theorem dints_calls (v1 v2 : Value) (l : List Int) (w : World) (h1 : Ints (cmap w) v1 l) (h2 : Ints (cmap w) v2 l) :
    Calls Tryz.prog 19 #[v1, v2] w fun e w' => e = .returned (.bool true) ∧ ∃ n, w' = w.drewN n := by
  obtain ⟨A1, c1, rfl, -⟩ := id h1
  obtain ⟨A2, c2, rfl, -⟩ := id h2
  have b1 := h1.len.2.2
  have hb : ((l.length : Int) != (l.length : Int)) = false := by simp
  go_enter Tryz.func19, Tryz.ntmps19
  go_wp2
  go_loopw [13] (fun v wr => ∃ (k n : Nat), v = .int .i64 k ∧ k ≤ l.length ∧ wr = w.drewN n) (fun v _ => l.length - (intOf v).toNat)
  case atStart => exact ⟨0, 0, rfl, by omega, rfl⟩
  case round =>
    obtain ⟨k, n, rfl, hk, rfl⟩ := hrel
    by_cases hlt : k < l.length
    · obtain ⟨x, hx⟩ : ∃ x, l[k]? = some x := ⟨_, List.getElem?_eq_getElem hlt⟩
      obtain ⟨bb1, o1, rfl, g1⟩ := h1.at_ hx
      obtain ⟨bb2, o2, rfl, g2⟩ := h2.at_ hx
      rw [Nat.mul_one] at g1 g2
      have g1' : w.cell? ⟨bb1, o1 + k, none⟩ = some (.int .i64 x) := g1
      have g2' : w.cell? ⟨bb2, o2 + k, none⟩ = some (.int .i64 x) := g2
      have hk0 : (0 : Int) ≤ k := by omega
      have hki : (k : Int) < l.length := by omega
      have hne : (x != x) = false := by simp
      clear g1 g2 hx
      go_wp2
      go_quiet (fail)
      go_wp2
      go_roundw
      case rel => exact ⟨k + 1, _, by go_num, by omega, rfl⟩
      case measure => simp [intOf]; omega
    · go_wp2
      go_ret
      exact ⟨rfl, _, rfl⟩
set_option maxRecDepth 100000 in
set_option maxHeartbeats 1000000 in
theorem eq_delay (a b c d : Int) (w : World) : (Op.equalIn 10000 49 (.agg #[.int .i64 a, .int .i64 b]) (.agg #[.int .i64 c, .int .i64 d])).run Tryz.prog w = .ok (a == c && b == d) w := by
  have hS : Tryz.prog.underlying 49 = some (.struct (Tryz.prog.fieldsOf 49)) := by kernel_rfl
  have hp : Tryz.prog.stoodInHeld 49 = false := by kernel_rfl
  rw [show (10000 : Nat) = 9999 + 1 from rfl, run_equalIn_agg w 9999 49 _ _ hS hp]
  simp only [Program.fieldsOf, Tryz.underlying49]
  go_simp
  by_cases h1 : a = c <;> by_cases h2 : b = d <;> simp [h1, h2]
set_option maxRecDepth 100000 in
set_option maxHeartbeats 1000000 in
theorem graph11_calls (s : ByteArray) (o : Int) (w : World) (h0 : 0 ≤ o) (h1 : o ≤ 1) :
    Calls Tryz.prog 102 #[.string s, .int .i64 o] w fun e w' => ∃ nb, e = .returned (.agg #[.string s, .int .i64 0, .int .i64 1, .slice (some ⟨nb, 0, none⟩) 3 3]) ∧ Blk w' nb 66 ([dkS o, dkL o, dkE].flatMap Node.cells) ∧ Below w.heap.size w w' := by
  go_enter Tryz.func102, Tryz.ntmps102
  go_wp2
  refine bodyPost_ret (v := .agg #[.string s, .int .i64 0, .int .i64 1, .slice (some ⟨w.heap.size + 1, 0, none⟩) 3 3]) (by simp [results, Tryz.results102, go_sem]) rfl ⟨w.heap.size + 1, rfl, ?_, ?_⟩
  · exact Blk.of (heap_new _ _ _ (by simp)) rfl
  · exact (Below_alloc' w _).alloc (by simp) _
theorem decls_blk2 {w : World} {b : Nat} {t : TypeId} {s s' : ByteArray} (h : Blk w b t [.string s, .int .i64 0, .int .i64 0, .string s', .int .i64 0, .int .i64 0]) : Decls (cmap w) (.slice (some ⟨b, 0, none⟩) 2 2) [⟨s, 0, 0⟩, ⟨s', 0, 0⟩] := by
  refine ⟨_, _, rfl, Nat.le_refl _, ⟨by simp [maxLen], fun h => by cases h⟩, .inr ⟨b, 0, rfl, fun i x hx => ?_⟩⟩
  match i, hx with
  | 0, hx =>
    simp at hx
    subst hx
    exact ⟨h.cell 0, h.cell 1, h.cell 2⟩
  | 1, hx =>
    simp at hx
    subst hx
    exact ⟨h.cell 3, h.cell 4, h.cell 5⟩
theorem dk_unit {w : World} {na nb xb gb : Nat} {T1 T2 T3 : TypeId} (ha : Blk w na T1 ([dkS 0, dkL 0, dkE].flatMap Node.cells)) (hb : Blk w nb T1 ([dkS 1, dkL 1, dkE].flatMap Node.cells)) (hx : Blk w xb T2 [.string ⟨#[120]⟩, .int .i64 0, .int .i64 0, .string ⟨#[121]⟩, .int .i64 0, .int .i64 0])
    (hg : Blk w gb T3 [.string ⟨#[97]⟩, .int .i64 0, .int .i64 1, .slice (some ⟨na, 0, none⟩) 3 3, .string ⟨#[98]⟩, .int .i64 0, .int .i64 1, .slice (some ⟨nb, 0, none⟩) 3 3]) :
    UnitV (cmap w) [.slice (some ⟨xb, 0, none⟩) 2 2, .slice none 0 0, .slice (some ⟨gb, 0, none⟩) 2 2] dkU := by
  refine ⟨_, _, _, rfl, decls_blk2 hx, ⟨none, 0, rfl, by simp [dkU], ⟨by simp [maxLen], fun _ => rfl⟩, .inl rfl⟩, ⟨_, _, rfl, Nat.le_refl _, ⟨by simp [maxLen], fun h => by cases h⟩, .inr ⟨gb, 0, rfl, fun i x hx => ?_⟩⟩⟩
  match i, hx with
  | 0, hx =>
    simp [dkU] at hx
    subst hx
    refine ⟨_, ⟨_, rfl, Nodes_blk ha 3 rfl (by decide)⟩, fun j v hv => ?_⟩
    match j, hv with
    | 0, hv => simp at hv; subst hv; exact hg.cell 0
    | 1, hv => simp at hv; subst hv; exact hg.cell 1
    | 2, hv => simp at hv; subst hv; exact hg.cell 2
    | 3, hv => simp at hv; subst hv; exact hg.cell 3
  | 1, hx =>
    simp [dkU] at hx
    subst hx
    refine ⟨_, ⟨_, rfl, Nodes_blk hb 3 rfl (by decide)⟩, fun j v hv => ?_⟩
    match j, hv with
    | 0, hv => simp at hv; subst hv; exact hg.cell 4
    | 1, hv => simp at hv; subst hv; exact hg.cell 5
    | 2, hv => simp at hv; subst hv; exact hg.cell 6
    | 3, hv => simp at hv; subst hv; exact hg.cell 7
set_option maxRecDepth 100000 in
set_option maxHeartbeats 2000000 in
theorem known11_calls (w : World) : Calls Tryz.prog 58 #[] w fun e w' => ∃ s g : Option Addr, e = .returned (.agg #[.slice s 2 2, .slice none 0 0, .slice g 2 2]) ∧ UnitV (cmap w') [.slice s 2 2, .slice none 0 0, .slice g 2 2] dkU ∧ Below w.heap.size w w' := by
  go_enter Tryz.func58, Tryz.ntmps58
  have hb0 : Below w.heap.size w ((w.alloc (.cells #[.slice none 0 0, .slice none 0 0, .slice none 0 0] 25)).alloc (.cells #[.string ⟨#[120]⟩, .int .i64 0, .int .i64 0, .string ⟨#[121]⟩, .int .i64 0, .int .i64 0] 118)) := (Below_alloc' w _).alloc (by simp) _
  have hx0 : Blk ((w.alloc (.cells #[.slice none 0 0, .slice none 0 0, .slice none 0 0] 25)).alloc (.cells #[.string ⟨#[120]⟩, .int .i64 0, .int .i64 0, .string ⟨#[121]⟩, .int .i64 0, .int .i64 0] 118)) (w.heap.size + 1) 118 [.string ⟨#[120]⟩, .int .i64 0, .int .i64 0, .string ⟨#[121]⟩, .int .i64 0, .int .i64 0] := Blk.of (heap_new _ _ _ (by simp)) rfl
  have hu0 : Blk ((w.alloc (.cells #[.slice none 0 0, .slice none 0 0, .slice none 0 0] 25)).alloc (.cells #[.string ⟨#[120]⟩, .int .i64 0, .int .i64 0, .string ⟨#[121]⟩, .int .i64 0, .int .i64 0] 118)) w.heap.size 25 [.slice none 0 0, .slice none 0 0, .slice none 0 0] := (Blk.new w _ _).alloc _
  have H0 := Lib.hid (And.intro hb0 (And.intro hx0 hu0))
  clear hb0 hx0 hu0
  go_wp2_with fail
  refine (graph11_calls ⟨#[97]⟩ 0 _ (by omega) (by omega)).mono ?_
  rintro e w1 ⟨na, rfl, hna, hb1⟩
  have H1 := Lib.hid (And.intro hna (And.intro hb1 (And.intro (H0.out.2.1.below hb1 H0.out.2.1.lt) (And.intro (H0.out.2.2.below hb1 H0.out.2.2.lt) (H0.out.1.trans (hb1.mono H0.out.1.size))))))
  clear hna hb1
  go_wp2_with fail
  refine (graph11_calls ⟨#[98]⟩ 1 _ (by omega) (by omega)).mono ?_
  rintro e w2 ⟨nb, rfl, hnb, hb2⟩
  have hu2 := H1.out.2.2.2.1.below hb2 H1.out.2.2.2.1.lt
  have u0 := hu2.cell 0
  have u1 := hu2.cell 1
  have u2 := hu2.cell 2
  have v0 := hu2.frozen 0
  have v1 := hu2.frozen 1
  have v2 := hu2.frozen 2
  have HU2 := Lib.hid hu2
  have hul := hu2.lt
  have H2 := Lib.hid (And.intro hnb (And.intro (H1.out.1.below hb2 H1.out.1.lt) (And.intro (H1.out.2.2.1.below hb2 H1.out.2.2.1.lt) (H1.out.2.2.2.2.trans (hb2.mono H1.out.2.2.2.2.size)))))
  clear hnb hb2 hu2
  go_wp2_with fail
  have n1 := blk_ne HU2.out H2.out.1 (by decide)
  have n2 := blk_ne HU2.out H2.out.2.1 (by decide)
  have n3 := blk_ne HU2.out H2.out.2.2.1 (by decide)
  have far3 : ∀ {b : Nat} {T : TypeId} {cs : List Value}, Blk w2 b T cs → w.heap.size ≠ b → ∀ (x y z : Value) (o : Obj), Blk ((((w2.setCell ⟨w.heap.size, 0, none⟩ x).setCell ⟨w.heap.size, 1, none⟩ y).setCell ⟨w.heap.size, 2, none⟩ z).alloc o) b T cs := fun h hne x y z o => (((h.far (p := ⟨w.heap.size, 0, none⟩) (Ne.symm hne) x).far (p := ⟨w.heap.size, 1, none⟩) (Ne.symm hne) y).far (p := ⟨w.heap.size, 2, none⟩) (Ne.symm hne) z).alloc o
  refine bodyPost_ret (v := .agg #[.slice (some ⟨w.heap.size + 1, 0, none⟩) 2 2, .slice none 0 0, .slice (some ⟨w2.heap.size, 0, none⟩) 2 2]) (by simp [results, Tryz.results58, go_sem, u0, u1, u2, hul]) rfl ⟨_, _, rfl, ?_, ?_⟩
  · exact dk_unit (far3 H2.out.2.1 n2 _ _ _ _) (far3 H2.out.1 n1 _ _ _ _) (far3 H2.out.2.2.1 n3 _ _ _ _) (Blk.of (heap_new _ _ _ (by simp [World.setCell])) rfl)
  · have hs := H2.out.2.2.2.size
    exact (((H2.out.2.2.2.setCell (p := ⟨w.heap.size, 0, none⟩) (Nat.le_refl w.heap.size) _).setCell (p := ⟨w.heap.size, 1, none⟩) (Nat.le_refl w.heap.size) _).setCell (p := ⟨w.heap.size, 2, none⟩) (Nat.le_refl w.heap.size) _).alloc (by simpa [World.setCell] using hs) _
set_option maxRecDepth 100000 in
set_option maxHeartbeats 4000000 in
theorem lives11_calls (w : World) (hT : Tab w) : Calls Tryz.prog 17 #[] w fun e w' => e = .returned (.bool true) ∧ Below w.heap.size w w' := by
  have HT := Lib.hid hT
  clear hT
  go_enter Tryz.func17, Tryz.ntmps17
  go_wp2_with fail
  refine (known11_calls _).mono ?_
  rintro e w1 ⟨sA, gA, rfl, hu1, hb1⟩
  have hbx := Blk.new w1 25 [.slice sA 2 2, .slice none 0 0, .slice gA 2 2]
  have hbe := hb1.alloc hb1.size (.cells #[.slice sA 2 2, .slice none 0 0, .slice gA 2 2] 25)
  have hu2 := hu1.mono (cmap_alloc w1 (.cells #[.slice sA 2 2, .slice none 0 0, .slice gA 2 2] 25))
  have H1 := Lib.hid (And.intro hu2 (And.intro hbx hbe))
  have hpa := pairs_calls dkU _ 0 _ (HT.out.below hbe) hu2 dk_ok
  have HPA := Lib.hid hpa
  clear hu1 hb1 hbx hbe hu2 hpa
  go_wp2_with (first
    | (go_at_call 20
       refine (HPA.out).mono ?_
       rintro e w2 ⟨r, rfl, hr, hb2⟩
       rw [dk_pairs] at hr ⊢
       obtain ⟨pb, pc, rfl, -, -, -, hpc⟩ := own_form hr (by decide)
       have HP : Hid (w2.cell? ⟨pb, 0, none⟩ = some (.int .i64 0) ∧ w2.cell? ⟨pb, 1, none⟩ = some (.int .i64 1)) := Lib.hid ⟨hpc 0 (by decide), hpc 1 (by decide)⟩
       have hbx := H1.out.2.1.below hb2 H1.out.2.1.lt
       have x0 := hbx.cell 0
       have x1 := hbx.cell 1
       have x2 := hbx.cell 2
       have H2 := Lib.hid (And.intro (H1.out.1.mono (cmap_below hb2)) (And.intro hbx (H1.out.2.2.trans (hb2.mono H1.out.2.2.size))))
       have HWA := Lib.hid (way_calls dkU _ 1 0 1 w2 (HT.out.below H2.out.2.2) H2.out.1 dk_ok)
       clear hr hpc hb2 hbx)
    | (go_at_call 22
       refine (HWA.out).mono ?_
       rintro e w3 ⟨r, rfl, hr, hb3⟩
       rw [dk_way] at hr ⊢
       obtain ⟨wb, wc, rfl, -, -, -, hwc⟩ := own_form hr (by decide)
       have HW : Hid (w3.cell? ⟨wb, 0, none⟩ = some (.int .i64 0) ∧ w3.cell? ⟨wb, 1, none⟩ = some (.int .i64 1)) := Lib.hid ⟨hwc 0 (by decide), hwc 1 (by decide)⟩
       have HWO : Hid (Ints (cmap w3) (.slice (some ⟨wb, 0, none⟩) 2 wc) [0, 1]) := Lib.hid ((Sl_of_own (f := fun x : Int => Value.int .i64 x) (R := IntC) (fun _ _ _ _ h => h) hr (Nat.le_refl _) (Nat.le_refl _)).mono (part_le _ _ _))
       have hbx := H2.out.2.1.below hb3 H2.out.2.1.lt
       have x0 := hbx.cell 0
       have x1 := hbx.cell 1
       have x2 := hbx.cell 2
       have hb3' := H2.out.2.2.trans (hb3.mono H2.out.2.2.size)
       have H3 := Lib.hid (And.intro (H2.out.1.mono (cmap_below hb3)) (And.intro hbx (And.intro hb3' hb3)))
       have hbl : Below w3.heap.size w3 (((w3.alloc (.cells #[.int .i64 1] 3)).alloc (.cells #[.int .i64 1] 3)).alloc (.cells #[.slice (some ⟨w3.heap.size, 0, none⟩) 1 1, .slice (some ⟨w3.heap.size + 1, 0, none⟩) 1 1] 26)) := ((Below_alloc' w3 _).alloc (by simp) _).alloc (by simp; omega) _
       have b1 : Blk (((w3.alloc (.cells #[.int .i64 1] 3)).alloc (.cells #[.int .i64 1] 3)).alloc (.cells #[.slice (some ⟨w3.heap.size, 0, none⟩) 1 1, .slice (some ⟨w3.heap.size + 1, 0, none⟩) 1 1] 26)) w3.heap.size 3 ([1].map fun x : Int => Value.int .i64 x) := ((Blk.new w3 _ _).alloc _).alloc _
       have b2 : Blk (((w3.alloc (.cells #[.int .i64 1] 3)).alloc (.cells #[.int .i64 1] 3)).alloc (.cells #[.slice (some ⟨w3.heap.size, 0, none⟩) 1 1, .slice (some ⟨w3.heap.size + 1, 0, none⟩) 1 1] 26)) (w3.heap.size + 1) 3 ([1].map fun x : Int => Value.int .i64 x) := (Blk.of (heap_new _ _ _ (by simp)) rfl : Blk _ _ _ _).alloc _
       have b3 : Blk (((w3.alloc (.cells #[.int .i64 1] 3)).alloc (.cells #[.int .i64 1] 3)).alloc (.cells #[.slice (some ⟨w3.heap.size, 0, none⟩) 1 1, .slice (some ⟨w3.heap.size + 1, 0, none⟩) 1 1] 26)) (w3.heap.size + 1 + 1) 26 [.slice (some ⟨w3.heap.size, 0, none⟩) 1 1, .slice (some ⟨w3.heap.size + 1, 0, none⟩) 1 1] := Blk.of (heap_new _ _ _ (by simp)) rfl
       have hfl : Ints2 (cmap (((w3.alloc (.cells #[.int .i64 1] 3)).alloc (.cells #[.int .i64 1] 3)).alloc (.cells #[.slice (some ⟨w3.heap.size, 0, none⟩) 1 1, .slice (some ⟨w3.heap.size + 1, 0, none⟩) 1 1] 26))) (.slice (some ⟨w3.heap.size + 1 + 1, 0, none⟩) 2 2) [[1], [1]] :=
         ⟨_, _, rfl, Nat.le_refl _, ⟨by simp [maxLen], fun h => by cases h⟩, .inr ⟨_, 0, rfl, fun i x hx => by
           match i, hx with
           | 0, hx =>
             injection hx with hx
             subst hx
             exact ⟨_, b3.cell 0, (Sl_of_blk (f := fun x : Int => Value.int .i64 x) (R := IntC) (fun _ _ _ _ h => h) b1 (Nat.le_refl _) (Nat.le_refl _) rfl (by decide)).mono (part_le _ _ _)⟩
           | 1, hx =>
             injection hx with hx
             subst hx
             exact ⟨_, b3.cell 1, (Sl_of_blk (f := fun x : Int => Value.int .i64 x) (R := IntC) (fun _ _ _ _ h => h) b2 (Nat.le_refl _) (Nat.le_refl _) rfl (by decide)).mono (part_le _ _ _)⟩⟩⟩
       have HBL := Lib.hid hbl
       have HSA := Lib.hid (safe_calls dkU _ _ [[1], [1]] _ (HT.out.below (hb3'.trans (hbl.mono hb3'.size))) (H3.out.1.mono (cmap_below hbl)) dk_ok hfl)
       clear hr hwc hb3 hbx hb3' hbl b1 b2 b3 hfl)
    | (go_at_call 15
       refine (HSA.out).mono ?_
       rintro e w4 ⟨rfl, hb4⟩
       rw [dk_safe]
       have hb34 := HBL.out.trans (hb4.mono HBL.out.size)
       have hbx := H3.out.2.1.below hb34 H3.out.2.1.lt
       have x0 := hbx.cell 0
       have x1 := hbx.cell 1
       have x2 := hbx.cell 2
       have hb4' := H3.out.2.2.1.trans (hb34.mono H3.out.2.2.1.size)
       have hu4 := H3.out.1.mono (cmap_below hb34)
       have HOP := Lib.hid (open_calls dkU _ 0 (.slice none 0 0) [] w4 (HT.out.below hb4') hu4 dk_ok (Ints_nil _))
       have H4 := Lib.hid (And.intro hb34 hb4')
       clear hb4 hb34 hbx hb4' hu4)
    | (go_at_call 11
       refine (HOP.out).mono ?_
       rintro e w5 ⟨r, rfl, hr, hb5⟩
       have hor : openR dkU 0 [] = ([false, true, true], 0) := (dk_openR 0 (by decide)).1
       rw [hor] at hr ⊢
       obtain ⟨ob, oc, rfl, -, -, -, hoc⟩ := own_form hr (by decide)
       have o0 : w5.cell? ⟨ob, 0, none⟩ = some (.bool false) := hoc 0 (by decide)
       have o1 : w5.cell? ⟨ob, 1, none⟩ = some (.bool true) := hoc 1 (by decide)
       have hb35 := H4.out.1.trans (hb5.mono H4.out.1.size)
       have hb25 := H3.out.2.2.2.trans (hb35.mono H3.out.2.2.2.size)
       have p0 : w5.cell? ⟨pb, 0, none⟩ = some (.int .i64 0) := cmap_below hb25 _ _ _ HP.out.1
       have p1 : w5.cell? ⟨pb, 1, none⟩ = some (.int .i64 1) := cmap_below hb25 _ _ _ HP.out.2
       have eqd := eq_delay 0 1 0 1
       have hm : Tryz.prog.eqGuardType Tryz.prog.depth 49 = false := by kernel_rfl
       have obl := World.block_lt_of_cell? _ _ o0
       simp only at obl
       have H5 := Lib.hid (And.intro (H4.out.2.trans (hb5.mono H4.out.2.size)) hb35)
       have hbl : Below w5.heap.size w5 (w5.alloc (.cells #[.int .i64 0, .int .i64 1] 3)) := Below_alloc' _ _
       have hlit := (Sl_of_blk (f := fun x : Int => Value.int .i64 x) (R := IntC) (l := [0, 1]) (n := 2) (fun _ _ _ _ h => h) (Blk.new w5 3 [.int .i64 0, .int .i64 1]) (Nat.le_refl _) (Nat.le_refl _) rfl (by decide)).mono (part_le _ _ _)
       have HIN := Lib.hid (dints_calls _ _ [0, 1] _ ((HWO.out.mono (cmap_below hb35)).mono (cmap_below hbl)) hlit)
       clear hr hoc hb5 hor hb35 hb25 hbl hlit)
    | (go_at_call 19
       refine (HIN.out).mono ?_
       rintro e w6 ⟨rfl, m, rfl⟩))
  go_ret
  exact ⟨rfl, below_drewN (H5.out.1.alloc H5.out.1.size _) _⟩
end Go.Proofs.YtffgnjgphkdodaaGreatDoor
