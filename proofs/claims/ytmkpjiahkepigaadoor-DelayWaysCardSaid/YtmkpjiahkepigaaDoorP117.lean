import Derived.Test.YtmkpjiahkepigaaDoorP113
import Derived.Test.YtmkpjiahkepigaaDoorP08
import Derived.Test.YtmkpjiahkepigaaDoorP107
import Derived.Test.YtmkpjiahkepigaaDoorP09
/- The plain law of DelayWays: the way that is told is one, and there is one just where Pairs tells it. -/
namespace Go.Proofs.YtmkpjiahkepigaaDoor
open Go
theorem mk_store {u : Unit_} {g : Graph} {F : List Int} {i : Nat} {n : Node} (hn : g.nodes[i]? = some n) (h : (mkAt u g F i).store = true) : stB u n = true ∧ drB n = false := by
  unfold mkAt at h
  rw [hn] at h
  simp only [Bool.and_eq_true] at h
  refine ⟨h.2, ?_⟩
  have h2 := h.2
  unfold stB at h2
  have h3 := of_decide_eq_true h2
  exact decide_eq_false (by omega)
theorem mk_load {u : Unit_} {g : Graph} {F : List Int} {i : Nat} {n : Node} (hn : g.nodes[i]? = some n) (h : (mkAt u g F i).load = true) : ldB u n = true := by
  unfold mkAt at h
  rw [hn] at h
  simp only [Bool.and_eq_true] at h
  exact h.2
theorem st_not_ld {u : Unit_} {n : Node} (h : stB u n = true) (h' : ldB u n = true) : False := by
  have h1 := of_decide_eq_true h
  have h2 := of_decide_eq_true h'
  omega
/-- What wayR tells, if there is a way. -/
structure WayIs (u : Unit_) (t a b : Int) (l : List Int) (tn an bn d : Nat) (g : Graph) (n m : Node) : Prop where
  t : t = tn
  a : a = an
  b : b = bn
  chk : checkF u = none
  gr : u.graphs[tn]? = some g
  na : g.nodes[an]? = some n
  nb : g.nodes[bn]? = some m
  st : stB u n = true
  ld : ldB u m = true
  far : (farD g bn)[an]? = some (d : Int)
  pos : 1 ≤ d
  is_ : l = wayF g (farD g bn) d (an : Int)
theorem wayR_no {u : Unit_} {t a b : Int} (h : (wayR u t a b).2.1 = false) : (wayR u t a b).1 = [] := by
  unfold wayR at h ⊢
  split
  · rename_i h0
    rw [if_pos h0] at h
    split
    · rename_i g hg
      rw [hg] at h
      simp only at h
      split
      · rename_i h1
        rw [if_pos h1] at h
        split
        · rename_i h2
          rw [if_pos h2] at h
          split
          · rename_i x hx
            rw [hx] at h
            simp only at h
            split
            · rfl
            · rename_i h3; rw [if_neg h3] at h; cases h
          · rfl
        · rfl
      · rfl
    · rfl
  · rfl
theorem wayR_yes {u : Unit_} {t a b : Int} (h : (wayR u t a b).2.1 = true) : (wayR u t a b).2.2 = 0 ∧ ∃ tn an bn d g n m, WayIs u t a b (wayR u t a b).1 tn an bn d g n m := by
  unfold wayR at h ⊢
  split at h
  · rename_i h0
    rw [if_pos h0]
    obtain ⟨hc, t0, t1⟩ := askE_zero h0
    obtain ⟨tn, rfl⟩ := Int.eq_ofNat_of_zero_le t0
    rw [Int.toNat_natCast] at h ⊢
    split at h
    · rename_i g hg
      try rw [hg]
      try simp only
      split at h
      · rename_i h1
        rw [if_pos h1]
        obtain ⟨a0, aN, b0, bN⟩ := h1
        obtain ⟨an, rfl⟩ := Int.eq_ofNat_of_zero_le a0
        obtain ⟨bn, rfl⟩ := Int.eq_ofNat_of_zero_le b0
        rw [Int.toNat_natCast, Int.toNat_natCast] at h ⊢
        split at h
        · rename_i h2
          rw [if_pos h2]
          have hna : g.nodes[an]? = some (g.nodes[an]'(by omega)) := List.getElem?_eq_getElem _
          have hnb : g.nodes[bn]? = some (g.nodes[bn]'(by omega)) := List.getElem?_eq_getElem _
          have hs := mk_store hna h2.1
          have hl := mk_load hnb h2.2
          split at h
          · rename_i x hx
            try rw [hx]
            try simp only
            split at h
            · cases h
            · rename_i h3
              rw [if_neg h3]
              obtain ⟨d, rfl⟩ := Int.eq_ofNat_of_zero_le (show 0 ≤ x by omega)
              refine ⟨rfl, tn, an, bn, d, g, _, _, rfl, rfl, rfl, hc, hg, hna, hnb, hs.1, hl, hx, ?_, by rw [Int.toNat_natCast]⟩
              rcases Nat.eq_zero_or_pos d with rfl | hd
              · exfalso
                rcases (farD_is g bn).2 an _ hx with ⟨e, _⟩ | ⟨e, e1, e2⟩
                · omega
                · have : e = 0 := by omega
                  subst this
                  have hw := e2.1
                  cases hw
                  rw [hna] at hnb
                  injection hnb with hnb
                  rw [← hnb] at hl
                  exact st_not_ld hs.1 hl
              · exact hd
          · cases h
        · cases h
      · cases h
    · cases h
  · cases h
theorem wayR_err {u : Unit_} {t a b : Int} (h : (wayR u t a b).2.2 ≠ 0) : (wayR u t a b).2.1 = false ∧ (wayR u t a b).1 = [] := by
  cases hy : (wayR u t a b).2.1 with
  | false => exact ⟨rfl, wayR_no hy⟩
  | true => exact absurd (wayR_yes hy).1 h
theorem wayR_ok {u : Unit_} {t a b : Int} (h : (wayR u t a b).2.2 = 0) : askE u t = 0 := by
  unfold wayR at h
  split at h
  · assumption
  · exact h
theorem openG_one {g : Graph} {s i : Nat} (hi : i < g.nodes.length) : (openG g [(s : Int)] [])[i]? = some true ↔ OpenC g (· = s) [] i := by
  have hS : (fun i : Nat => (i : Int) ∈ [(s : Int)]) = (· = s) := by
    funext i
    rw [eq_iff_iff, List.mem_singleton]
    omega
  have hl : (openG g [(s : Int)] [])[i]? = some ((openG g [(s : Int)] [])[i]'(by rw [openG_len]; exact hi)) := List.getElem?_eq_getElem _
  have h1 := openG_at [(s : Int)] [] hi hl
  rw [hS] at h1
  rw [hl, ← h1]
  simp
/-- Pairs tells a pair just where Way tells a way. -/
theorem told_is {u : Unit_} {t a b : Int} (ha : askE u t = 0) (hp : (pairsR u t).2 = 0) : (a, b) ∈ (pairsR u t).1 ↔ (wayR u t a b).2.1 = true := by
  obtain ⟨hc, t0, t1⟩ := askE_zero ha
  obtain ⟨tn, rfl⟩ := Int.eq_ofNat_of_zero_le t0
  obtain ⟨g, hg⟩ : ∃ g, u.graphs[tn]? = some g := ⟨_, List.getElem?_eq_getElem (by omega)⟩
  unfold pairsR at hp ⊢
  rw [if_pos ha, Int.toNat_natCast, hg] at hp ⊢
  simp only at hp ⊢
  split at hp
  · rename_i hle
    rw [if_pos hle]
    have hmem : (a, b) ∈ prL u g (stL u g) ↔ a ∈ stL u g ∧ b ∈ ldK u g (openG g [a] []) g.nodes.length := by
      unfold prL
      rw [List.mem_flatMap]
      constructor
      · rintro ⟨s, hs, hx⟩
        obtain ⟨x, hx1, hx2⟩ := List.mem_map.1 hx
        injection hx2 with e1 e2
        subst e1 e2
        exact ⟨hs, hx1⟩
      · rintro ⟨hs, hx⟩
        exact ⟨a, hs, List.mem_map.2 ⟨b, hx, rfl⟩⟩
    rw [hmem]
    constructor
    · rintro ⟨hs, hl⟩
      obtain ⟨an, rfl, han, hst⟩ := stK_mem.1 hs
      obtain ⟨bn, rfl, hbn, hop, hld⟩ := ldK_mem.1 hl
      have hna : g.nodes[an]? = some g.nodes[an] := List.getElem?_eq_getElem han
      obtain ⟨hs1, hs2⟩ := mk_store hna hst
      obtain ⟨d, hd⟩ := (openC_way hna hs2).1 ((openG_one hbn).1 hop)
      obtain ⟨e, he, _⟩ := hd.min
      have hfl : an < (farD g bn).length := by rw [(farD_is g bn).1]; exact han
      have hfa : (farD g bn)[an]? = some (farD g bn)[an] := List.getElem?_eq_getElem hfl
      have hfe := ((farD_is g bn).2 an _ hfa).inj (.inr ⟨e, rfl, he⟩)
      unfold wayR
      rw [if_pos ha, Int.toNat_natCast, hg]
      simp only
      rw [if_pos (by omega), Int.toNat_natCast, Int.toNat_natCast, if_pos ⟨hst, hld⟩, hfa, hfe]
      simp only
      rw [if_neg (by omega)]
    · intro h
      obtain ⟨_, tn', an, bn, d, g', n, m, hw⟩ := wayR_yes h
      have e1 : tn' = tn := by have := hw.t; omega
      subst e1
      have hgr := hw.gr
      rw [hg] at hgr
      injection hgr with hgr
      subst hgr
      have hab : (0 ≤ a ∧ a < g.nodes.length ∧ 0 ≤ b ∧ b < g.nodes.length) ∧ ((mkAt u g [] a.toNat).store = true ∧ (mkAt u g [] b.toNat).load = true) := by
        unfold wayR at h
        rw [if_pos ha, Int.toNat_natCast, hg] at h
        simp only at h
        split at h
        · rename_i h1
          split at h
          · rename_i h2; exact ⟨h1, h2⟩
          · cases h
        · cases h
      have ea := hw.a
      have eb := hw.b
      subst ea eb
      rw [Int.toNat_natCast, Int.toNat_natCast] at hab
      refine ⟨stK_mem.2 ⟨an, rfl, by omega, hab.2.1⟩, ldK_mem.2 ⟨bn, rfl, by omega, ?_, hab.2.2⟩⟩
      rw [openG_one (by omega)]
      refine (openC_way hw.na (mk_store hw.na hab.2.1).2).2 ?_
      rcases (farD_is g bn).2 an _ hw.far with ⟨e, _⟩ | ⟨e, e1, e2⟩
      · omega
      · obtain ⟨k, rfl⟩ : ∃ k, e = k + 1 := ⟨e - 1, by have := hw.pos; omega⟩
        exact ⟨k, e2.1⟩
  · simp at hp
/-- The steps of the way. -/
theorem wayF_ok {g : Graph} (hw : WholeG g) {tg : Nat} (ht : tg < g.nodes.length) {D : List Int} (hD : FarL g tg D) : ∀ (d i : Nat), D[i]? = some (d : Int) →
    (∀ (q : Nat) (x : Int), (wayF g D d i)[q]? = some x → ∃ j : Nat, x = j ∧ j < g.nodes.length) ∧
    (∀ (q : Nat) (x y : Int), (wayF g D d i)[q]? = some x → (wayF g D d i)[q + 1]? = some y → ∃ n, g.nodes[x.toNat]? = some n ∧ y ∈ fol n ∧ drB n = false) ∧ (wayF g D d i)[d]? = some (tg : Int)
  | 0, i, hi => by
    have hl : i < g.nodes.length := by have := (List.getElem?_eq_some_iff.1 hi).1; rw [hD.1] at this; exact this
    have htg : i = tg := by
      rcases hD.2 i _ hi with ⟨e, _⟩ | ⟨e, e1, e2⟩
      · omega
      · have : e = 0 := by omega
        subst this
        have hw := e2.1
        cases hw
        rfl
    refine ⟨fun q x hx => ?_, fun q x y hx hy => ?_, ?_⟩
    · have : x = (i : Int) := by
        unfold wayF at hx
        match q, hx with
        | 0, hx => injection hx with hx; exact hx.symm
        | q + 1, hx => simp at hx
      exact ⟨i, this, hl⟩
    · unfold wayF at hy; simp at hy
    · rw [htg]; rfl
  | d + 1, i, hi => by
    have hl : i < g.nodes.length := by have := (List.getElem?_eq_some_iff.1 hi).1; rw [hD.1] at this; exact this
    have hn : g.nodes[i]? = some g.nodes[i] := List.getElem?_eq_getElem hl
    obtain ⟨hdr, j, hj1, hj2, hj3, hj4⟩ := best_ok hw ht hD (d := d) (by rw [hi]; congr 1) hn
    have hfa : folAt g (i : Int) = fol g.nodes[i] := by unfold folAt; rw [Int.toNat_natCast, hn]
    have hw' : wayF g D (d + 1) (i : Int) = (i : Int) :: wayF g D d (j : Int) := by
      show (i : Int) :: wayF g D d (bestK D ((d : Int) + 1) (-1) (folAt g i)) = _
      rw [hfa, hj1]
    obtain ⟨h1, h2, h3⟩ := wayF_ok hw ht hD d j hj3
    rw [hw']
    refine ⟨fun q x hx => ?_, fun q x y hx hy => ?_, h3⟩
    · match q, hx with
      | 0, hx => injection hx with hx; exact ⟨i, hx.symm, hl⟩
      | q + 1, hx => exact h1 q x hx
    · match q, hx, hy with
      | 0, hx, hy =>
        injection hx with hx
        subst hx
        obtain ⟨l, hl'⟩ := wayF_cons g D d (j : Int)
        have hy : (wayF g D d (j : Int))[0]? = some y := hy
        rw [hl'] at hy
        injection hy with hy
        subst hy
        exact ⟨g.nodes[i], by rw [Int.toNat_natCast]; exact hn, hj2, hdr⟩
      | q + 1, hx, hy => exact h2 q x y hx hy
end Go.Proofs.YtmkpjiahkepigaaDoor
/- The reference's Store and Load of layer 11, and the law's has. -/
namespace Go.Proofs.YtmkpjiahkepigaaDoor
open Go Go.RowKit
set_option maxHeartbeats 1000000 in
theorem has11_calls (v : Value) (F : List Int) (n : Int) (w : World) (hF : Ints (cmap w) v F) :
    Calls Tryd.prog 7 #[v, .int .i64 n] w fun e w' => e = .returned (.bool (decide (n ∈ F))) ∧ w = w' := by
  obtain ⟨A, c, rfl, -⟩ := id hF
  have bF := hF.len.2.2
  obtain ⟨r, hr⟩ : ∃ r, decide (n ∈ F) = r := ⟨_, rfl⟩
  rw [hr]
  have HR := Lib.hid hr; clear hr
  go_enter Tryd.func7, Tryd.ntmps7
  go_wp2
  go_loop [9] (fun v9 => ∃ (k : Nat), v9 = .int .i64 k ∧ k ≤ F.length ∧ Hid (n ∉ F.take k)) (fun v9 => F.length - (intOf v9).toNat)
  case atStart => exact ⟨0, rfl, by omega, by simp [Hid]⟩
  case round =>
    obtain ⟨k, rfl, hk, HQ⟩ := hrel
    by_cases hlt : k < F.length
    · obtain ⟨x, hx⟩ : ∃ x, F[k]? = some x := ⟨_, List.getElem?_eq_getElem hlt⟩
      obtain ⟨b, o, rfl, g1⟩ := hF.at_ hx
      rw [Nat.mul_one] at g1
      have g2 : w.cell? ⟨b, o + k, none⟩ = some (.int .i64 x) := g1
      have hk0 : (0 : Int) ≤ k := by omega
      have hkl : (k : Int) < F.length := by omega
      have HX := Lib.hid hx; clear hx g1
      by_cases h1 : x = n
      · have hd : (x == n) = true := by simp [h1]
        have hrr : r = true := by rw [← HR.out]; exact decide_eq_true (h1 ▸ List.mem_of_getElem? HX.out)
        subst hrr
        go_wp2
        go_ret
        exact ⟨rfl, rfl⟩
      · have hd : (x == n) = false := by simp [h1]
        have hnx : n ∉ F.take (k + 1) := by
          have h3 := (List.getElem?_eq_some_iff.1 HX.out).2
          rw [List.take_succ_eq_append_getElem hlt, h3]
          simp only [List.mem_append, List.mem_singleton, not_or]
          exact ⟨HQ.out, fun e => h1 e.symm⟩
        have HNX := Lib.hid hnx; clear hnx
        go_wp2
        go_round
        case rel => exact ⟨k + 1, by go_num, by omega, HNX⟩
        case measure => simp [intOf]; omega
    · have hrr : r = false := by
        rw [← HR.out]
        have h3 := HQ.out
        rw [List.take_of_length_le (by omega)] at h3
        exact decide_eq_false h3
      subst hrr
      go_wp2
      go_ret
      exact ⟨rfl, rfl⟩

theorem cls_kind {u : Unit_} {m : CM} {A : Option Addr} {n c : Nat} (h : Clss m (.slice A n c) ((List.range u.shared.length).map fun x : Nat => classF u (x : Int))) {k : Nat} (hk : k < u.shared.length) : ∃ b o, A = some ⟨b, o, none⟩ ∧ m b (o + k * 3) = some (.int .u8 (classF u (k : Int)).kind) := by
  obtain ⟨b, o, rfl, cs, rfl, hc⟩ := h.at_ (i := k) (x := classF u (k : Int)) (by rw [List.getElem?_map, List.getElem?_range hk]; rfl)
  exact ⟨b, o, rfl, by have := hc 0 _ rfl; simpa using this⟩
set_option maxHeartbeats 1000000 in
theorem rstore_calls (u : Unit_) (n : Node) (cv : Value) (w : World) (hcl : Clss (cmap w) cv ((List.range u.shared.length).map fun x : Nat => classF u (x : Int))) (hth : n.kind = 3 → 0 ≤ n.thing ∧ n.thing < u.shared.length) :
    Calls Tryd.prog 12 #[cv, .agg n.cells.toArray] w fun e w' => e = .returned (.bool (stB u n)) ∧ Below w.heap.size w w' := by
  obtain ⟨A, c, rfl, -⟩ := id hcl
  have hlen := hcl.len
  simp only [List.length_map, List.length_range] at hlen
  obtain ⟨r, hr⟩ : ∃ r, stB u n = r := ⟨_, rfl⟩
  rw [hr]
  unfold stB at hr
  simp only [List.length_map, List.length_range]
  by_cases h6 : n.kind = 6
  · have d6 : (n.kind == 6) = true := by simp [h6]
    obtain rfl : r = true := by rw [← hr]; exact decide_eq_true (.inl h6)
    unfold Node.cells
    clear hr hth hcl h6
    go_enter Tryd.func12, Tryd.ntmps12
    go_wp2
    go_ret
    exact ⟨rfl, Below_alloc _ _⟩
  · have d6 : (n.kind == 6) = false := by simp [h6]
    by_cases h3 : n.kind = 3
    · have d3 : (n.kind == 3) = true := by simp [h3]
      obtain ⟨t0, t1⟩ := hth h3
      obtain ⟨k, hk⟩ := Int.eq_ofNat_of_zero_le t0
      rw [hk] at t1 hr
      obtain ⟨b, o, rfl, hc⟩ := cls_kind hcl (k := k) (by omega)
      have hc' : w.cell? ⟨b, o + k * 3, none⟩ = some (.int .u8 (classF u (k : Int)).kind) := hc
      obtain ⟨kd, hkd⟩ : ∃ kd, (classF u (k : Int)).kind = kd := ⟨_, rfl⟩
      rw [hkd] at hc' hr
      have hr2 : r = (kd == 3) := by
        rw [← hr, Bool.eq_iff_iff]
        simp [h3]
      subst hr2
      unfold Node.cells
      rw [hk]
      have k0 : (0 : Int) ≤ k := by omega
      have hbl := World.block_lt_of_cell? _ _ hc'
      simp only at hbl
      clear hr hth hcl h6 h3 hc hk t0
      cases hd : (kd == 3) with
      | true =>
        go_enter Tryd.func12, Tryd.ntmps12
        go_wp2
        go_ret
        exact ⟨rfl, Below_alloc _ _⟩
      | false =>
        go_enter Tryd.func12, Tryd.ntmps12
        go_wp2
        go_ret
        exact ⟨rfl, Below_alloc _ _⟩
    · have d3 : (n.kind == 3) = false := by simp [h3]
      obtain rfl : r = false := by rw [← hr]; exact decide_eq_false (by omega)
      unfold Node.cells
      clear hr hth hcl h6 h3
      go_enter Tryd.func12, Tryd.ntmps12
      go_wp2
      go_ret
      exact ⟨rfl, Below_alloc _ _⟩
set_option maxHeartbeats 1000000 in
theorem rload_calls (u : Unit_) (n : Node) (cv : Value) (w : World) (hcl : Clss (cmap w) cv ((List.range u.shared.length).map fun x : Nat => classF u (x : Int))) (hth : n.kind = 2 → 0 ≤ n.thing ∧ n.thing < u.shared.length) :
    Calls Tryd.prog 13 #[cv, .agg n.cells.toArray] w fun e w' => e = .returned (.bool (ldB u n)) ∧ Below w.heap.size w w' := by
  obtain ⟨A, c, rfl, -⟩ := id hcl
  have hlen := hcl.len
  simp only [List.length_map, List.length_range] at hlen
  obtain ⟨r, hr⟩ : ∃ r, ldB u n = r := ⟨_, rfl⟩
  rw [hr]
  unfold ldB at hr
  simp only [List.length_map, List.length_range]
  by_cases h3 : n.kind = 2
  · have d3 : (n.kind == 2) = true := by simp [h3]
    obtain ⟨t0, t1⟩ := hth h3
    obtain ⟨k, hk⟩ := Int.eq_ofNat_of_zero_le t0
    rw [hk] at t1 hr
    obtain ⟨b, o, rfl, hc⟩ := cls_kind hcl (k := k) (by omega)
    have hc' : w.cell? ⟨b, o + k * 3, none⟩ = some (.int .u8 (classF u (k : Int)).kind) := hc
    obtain ⟨kd, hkd⟩ : ∃ kd, (classF u (k : Int)).kind = kd := ⟨_, rfl⟩
    rw [hkd] at hc' hr
    have hr2 : r = (kd == 3) := by
      rw [← hr, Bool.eq_iff_iff]
      simp [h3]
    subst hr2
    unfold Node.cells
    rw [hk]
    have k0 : (0 : Int) ≤ k := by omega
    have hbl := World.block_lt_of_cell? _ _ hc'
    simp only at hbl
    clear hr hth hcl h3 hc hk t0
    cases hd : (kd == 3) with
    | true =>
      go_enter Tryd.func13, Tryd.ntmps13
      go_wp2
      go_ret
      exact ⟨rfl, Below_alloc _ _⟩
    | false =>
      go_enter Tryd.func13, Tryd.ntmps13
      go_wp2
      go_ret
      exact ⟨rfl, Below_alloc _ _⟩
  · have d3 : (n.kind == 2) = false := by simp [h3]
    obtain rfl : r = false := by rw [← hr]; exact decide_eq_false (by omega)
    unfold Node.cells
    clear hr hth hcl h3
    go_enter Tryd.func13, Tryd.ntmps13
    go_wp2
    go_ret
    exact ⟨rfl, Below_alloc _ _⟩
end Go.Proofs.YtmkpjiahkepigaaDoor
