import Derived.Test.YtmkpjiahkepigaaDoorP113
import Derived.Test.YtmkpjiahkepigaaDoorP08
import Derived.Test.YtmkpjiahkepigaaDoorP107
import Derived.Test.YtmkpjiahkepigaaDoorP09
/- The plain law of DelayWays: the way that is told is one, and there is one just where Pairs tells it. -/
namespace Go.Proofs.YtmkpjiahkepigaaDoor
open Go
theorem openG_one {g : Graph} {s i : Nat} (hi : i < g.nodes.length) : (openG g [(s : Int)] [])[i]? = some true ↔ OpenC g (· = s) [] i := by
  have hS : (fun i : Nat => (i : Int) ∈ [(s : Int)]) = (· = s) := by
    funext i
    rw [eq_iff_iff, List.mem_singleton]
    omega
  have hl : (openG g [(s : Int)] [])[i]? = some ((openG g [(s : Int)] [])[i]'(by rw [openG_len]; exact hi)) := List.getElem?_eq_getElem _
  have h1 := openG_at [(s : Int)] [] hi hl
  rw [hS] at h1
  rw [hl, ← h1]
  simp
end Go.Proofs.YtmkpjiahkepigaaDoor
/- The plain law of DelayCut: fences cut; what Loads and Pairs tell. -/
namespace Go.Proofs.YtmkpjiahkepigaaDoor
open Go
theorem fenB_of {N : Nat} : ∀ (F : List Int) (q : Int), (∀ x ∈ F, q < x ∧ x < N) → F.Pairwise (· < ·) → fenB N q F = true
  | [], _, _, _ => rfl
  | n :: F, q, h, hp => by
    have hp' := List.pairwise_cons.1 hp
    simp only [fenB, Bool.and_eq_true, decide_eq_true_eq]
    exact ⟨h n (by simp), fenB_of F n (fun x hx => ⟨hp'.1 x hx, (h x (by simp [hx])).2⟩) hp'.2⟩
theorem ldK_fen (u : Unit_) (g : Graph) (l : List Bool) : fenB g.nodes.length (-1) (ldK u g l g.nodes.length) = true := by
  refine fenB_of _ _ (fun x hx => ?_) ?_
  · obtain ⟨i, rfl, h1, _⟩ := ldK_mem.1 hx
    omega
  · unfold ldK
    refine List.Pairwise.map _ (fun a b h => ?_) (List.Pairwise.filter _ List.pairwise_lt_range)
    exact Int.ofNat_lt.2 h
theorem openG_mem {g : Graph} {t F : List Int} {i : Nat} (hi : i < g.nodes.length) : (openG g t F)[i]? = some true ↔ OpenC g (fun i => (i : Int) ∈ t) F i := by
  have hl : (openG g t F)[i]? = some ((openG g t F)[i]'(by rw [openG_len]; exact hi)) := List.getElem?_eq_getElem _
  have h1 := openG_at t F hi hl
  rw [hl, ← h1]
  simp
/-- With further fences no more is open. -/
theorem openG_cut {g : Graph} {t F F' : List Int} (h : ∀ x ∈ F, x ∈ F') {i : Nat} (hi : i < g.nodes.length) (hb : (openG g t F')[i]? = some true) : (openG g t F)[i]? = some true :=
  (openG_mem hi).2 (openC_mono (fun _ h => h) h ((openG_mem hi).1 hb))
theorem openC_notF {g : Graph} {S : Nat → Prop} {F : List Int} {i : Nat} (h : OpenC g S F i) : (i : Int) ∉ F := by
  cases h with
  | first _ _ _ h => exact h
  | step _ _ _ _ h => exact h
/-- With a fence ahead of each racy load that was open none is. -/
theorem ldK_none (u : Unit_) (g : Graph) (t : List Int) : ldK u g (openG g t (ldK u g (openG g t []) g.nodes.length)) g.nodes.length = [] := by
  cases h : ldK u g (openG g t (ldK u g (openG g t []) g.nodes.length)) g.nodes.length with
  | nil => rfl
  | cons x xs =>
    exfalso
    have hx : x ∈ ldK u g (openG g t (ldK u g (openG g t []) g.nodes.length)) g.nodes.length := by rw [h]; simp
    obtain ⟨i, rfl, h1, h2, h3⟩ := ldK_mem.1 hx
    have ho := (openG_mem h1).1 h2
    refine openC_notF ho (ldK_mem.2 ⟨i, rfl, h1, ?_, h3⟩)
    exact openG_cut (F := []) (by simp) h1 h2
/-- What is open is open from one of the stores. -/
theorem openG_from {u : Unit_} {g : Graph} {i : Nat} (hi : i < g.nodes.length) : (openG g (stL u g) [])[i]? = some true ↔ ∃ s ∈ stL u g, (openG g [s] [])[i]? = some true := by
  rw [openG_mem hi]
  constructor
  · intro h
    obtain ⟨s, hs, ho⟩ := openC_one h
    exact ⟨(s : Int), hs, (openG_one hi).2 ho⟩
  · rintro ⟨s, hs, ho⟩
    obtain ⟨sn, rfl, _⟩ := stK_mem.1 hs
    exact openC_mono (fun i (h : i = sn) => by subst h; exact hs) (fun _ h => h) ((openG_one hi).1 ho)
/-- What Loads tells is what Pairs leads to. -/
theorem loads_pairs (u : Unit_) (g : Graph) (x : Int) : x ∈ ldK u g (openG g (stL u g) []) g.nodes.length ↔ ∃ s, (s, x) ∈ prL u g (stL u g) := by
  rw [ldK_mem]
  constructor
  · rintro ⟨i, rfl, h1, h2, h3⟩
    obtain ⟨s, hs, ho⟩ := (openG_from h1).1 h2
    exact ⟨s, List.mem_flatMap.2 ⟨s, hs, List.mem_map.2 ⟨(i : Int), ldK_mem.2 ⟨i, rfl, h1, ho, h3⟩, rfl⟩⟩⟩
  · rintro ⟨s, h⟩
    obtain ⟨s', hs, hx⟩ := List.mem_flatMap.1 h
    obtain ⟨y, hy, he⟩ := List.mem_map.1 hx
    injection he with e1 e2
    subst e1 e2
    obtain ⟨i, rfl, h1, h2, h3⟩ := ldK_mem.1 hy
    exact ⟨i, rfl, h1, (openG_from h1).2 ⟨s', hs, h2⟩, h3⟩
end Go.Proofs.YtmkpjiahkepigaaDoor
/- The reference's Store and Load of layer 11, and the law's has. -/
namespace Go.Proofs.YtmkpjiahkepigaaDoor
open Go Go.RowKit
set_option maxHeartbeats 1000000 in
theorem has11_calls (v : Value) (F : List Int) (n : Int) (w : World) (hF : Ints (cmap w) v F) :
    Calls Tryd.prog 7 #[v, .int .i64 n] w fun e w' => e = .returned (.bool (decide (n ∈ F))) ∧ w = w' := by
  obtain ⟨A, c, rfl, -⟩ := id hF
  have bF := hF.len.2.2
  obtain ⟨r, hr⟩ : ∃ r, decide (n ∈ F) = r := ⟨_, rfl⟩
  rw [hr]
  have HR := Lib.hid hr; clear hr
  go_enter Tryd.func7, Tryd.ntmps7
  go_wp2
  go_loop [9] (fun v9 => ∃ (k : Nat), v9 = .int .i64 k ∧ k ≤ F.length ∧ Hid (n ∉ F.take k)) (fun v9 => F.length - (intOf v9).toNat)
  case atStart => exact ⟨0, rfl, by omega, by simp [Hid]⟩
  case round =>
    obtain ⟨k, rfl, hk, HQ⟩ := hrel
    by_cases hlt : k < F.length
    · obtain ⟨x, hx⟩ : ∃ x, F[k]? = some x := ⟨_, List.getElem?_eq_getElem hlt⟩
      obtain ⟨b, o, rfl, g1⟩ := hF.at_ hx
      rw [Nat.mul_one] at g1
      have g2 : w.cell? ⟨b, o + k, none⟩ = some (.int .i64 x) := g1
      have hk0 : (0 : Int) ≤ k := by omega
      have hkl : (k : Int) < F.length := by omega
      have HX := Lib.hid hx; clear hx g1
      by_cases h1 : x = n
      · have hd : (x == n) = true := by simp [h1]
        have hrr : r = true := by rw [← HR.out]; exact decide_eq_true (h1 ▸ List.mem_of_getElem? HX.out)
        subst hrr
        go_wp2
        go_ret
        exact ⟨rfl, rfl⟩
      · have hd : (x == n) = false := by simp [h1]
        have hnx : n ∉ F.take (k + 1) := by
          have h3 := (List.getElem?_eq_some_iff.1 HX.out).2
          rw [List.take_succ_eq_append_getElem hlt, h3]
          simp only [List.mem_append, List.mem_singleton, not_or]
          exact ⟨HQ.out, fun e => h1 e.symm⟩
        have HNX := Lib.hid hnx; clear hnx
        go_wp2
        go_round
        case rel => exact ⟨k + 1, by go_num, by omega, HNX⟩
        case measure => simp [intOf]; omega
    · have hrr : r = false := by
        rw [← HR.out]
        have h3 := HQ.out
        rw [List.take_of_length_le (by omega)] at h3
        exact decide_eq_false h3
      subst hrr
      go_wp2
      go_ret
      exact ⟨rfl, rfl⟩

end Go.Proofs.YtmkpjiahkepigaaDoor
