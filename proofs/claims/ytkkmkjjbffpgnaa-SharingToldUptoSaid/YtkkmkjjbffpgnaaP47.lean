import Derived.Test.YtkkmkjjbffpgnaaP46
import Derived.Test.YtkkmkjjbffpgnaaP09
import Derived.Test.YtkkmkjjbffpgnaaP40
import Derived.Test.YtkkmkjjbffpgnaaP32
/- The walk of the reference's Races. -/
namespace Go.Proofs.Ytkkmkjjbffpgnaa
open Go Go.RowKit
def heldV (m : CM) (cs : List Value) (L : List (List Int)) : Prop := ∃ v, cs = [v] ∧ Ints2 m v L
instance : MonoV heldV := ⟨fun hm ⟨v, h, k⟩ => ⟨v, h, k.mono hm⟩⟩
def reachV (m : CM) (cs : List Value) (l : List Bool) : Prop := ∃ v, cs = [v] ∧ Bools m v l
instance : MonoV reachV := ⟨fun hm ⟨v, h, k⟩ => ⟨v, h, k.mono hm⟩⟩
abbrev quadV : CM → List Value → Quad → Prop := fun _ cs q => cs = qcells q
theorem sl_heldT : SlT Try.prog 153 141 1 24 (.slice none 0 0) := SlT.mk' Try.underlying153 (by kernel_rfl) rfl (by omega)
theorem sl_reachT : SlT Try.prog 154 145 1 24 (.slice none 0 0) := SlT.mk' Try.underlying154 (by kernel_rfl) rfl (by omega)
/-- What is held, what is reached, in two rows of the call's own. -/
structure TwoA (base : Nat) (S1 S2 : Nat → Prop) (v7 v8 : Value) (L7 : List (List (List Int))) (L8 : List (List Bool)) (wr : World) : Prop where
  a : Acc heldV 1 141 base S1 v7 L7 wr
  b : Acc reachV 1 145 base S2 v8 L8 wr
  ab : ∀ q, S1 q → some q ≠ v8.ownBlock
  ba : ∀ q, S2 q → some q ≠ v7.ownBlock
theorem TwoA.keep {base : Nat} {S1 S2 : Nat → Prop} {v7 v8 : Value} {L7 : List (List (List Int))} {L8 : List (List Bool)} {wr wx : World} (h : TwoA base S1 S2 v7 v8 L7 L8 wr) (hb : Below wr.heap.size wr wx) : TwoA base S1 S2 v7 v8 L7 L8 wx :=
  ⟨h.a.keep hb, h.b.keep hb, h.ab, h.ba⟩
theorem TwoA.pushA {base lo hi : Nat} {S1 S2 : Nat → Prop} {v7 v8 : Value} {L7 : List (List (List Int))} {L8 : List (List Bool)} {wq w3 : World} (h : TwoA base S1 S2 v7 v8 L7 L8 wq) (h7 : ∀ k, v7.ownBlock = some k → k < lo) (h8 : ∀ k, v8.ownBlock = some k → k < lo) (hb : base ≤ lo) (hh : hi ≤ wq.heap.size)
    {x : Value} {L : List (List Int)} (hd : Ints2 (part wq lo hi) x L) {rows : List (List Value)} (hl : rows.length = L7.length) (hr : ∀ r ∈ rows, r.length = 1) (hx : ∀ (i : Nat) r y, rows[i]? = some r → L7[i]? = some y → heldV (on wq S1) r y) {v7' : Value} (ho : w3.ownsRow base 141 1 v7' (L7.length + 1) (rows.flatten ++ [x])) (hg : wq.grownBy w3 v7.ownBlock) (hob : v7'.ownBlock = v7.ownBlock ∨ v7'.ownBlock = some wq.heap.size) :
    TwoA base (fun q => S1 q ∨ (lo ≤ q ∧ q < hi)) S2 v7' v8 (L7 ++ [L]) L8 w3 := by
  have hne : ∀ q, lo ≤ q ∧ q < hi → some q ≠ v7.ownBlock := fun q hq e => by have := h7 q e.symm; omega
  refine ⟨h.a.push hl hr hx (r := [x]) rfl ho hg hob (fun q hq => .inl hq) (fun q hq => ?_) ⟨x, rfl, hd.mono ?_⟩, h.b.grown hg ?_ h.ba, fun q hq => ?_, fun q hq => ?_⟩
  · rcases hq with hq | hq
    · exact h.a.sep q hq
    · exact ⟨by omega, by omega, hne q hq⟩
  · exact (part_on wq (S := fun q => lo ≤ q ∧ q < hi) (fun q h1 h2 => ⟨h1, h2⟩)).trans (on_keep (fun q hq hlt => hg.block q hlt (hne q hq)) (fun q hq => .inr hq))
  · rcases h.b.ne h.a (by decide) with e | e
    · exact .inl e
    · exact .inr e
  · rcases hq with hq | hq
    · exact h.ab q hq
    · intro e; have := h8 q e.symm; omega
  · have h1 := h.b.sep q hq
    rcases hob with e | e
    · rw [e]; exact h.ba q hq
    · rw [e]; intro e2; injection e2 with e2; omega
theorem TwoA.pushB {base lo hi : Nat} {S1 S2 : Nat → Prop} {v7 v8 : Value} {L7 : List (List (List Int))} {L8 : List (List Bool)} {wq w3 : World} (h : TwoA base S1 S2 v7 v8 L7 L8 wq) (h7 : ∀ k, v7.ownBlock = some k → k < lo) (h8 : ∀ k, v8.ownBlock = some k → k < lo) (hb : base ≤ lo) (hh : hi ≤ wq.heap.size)
    {x : Value} {L : List Bool} (hd : Bools (part wq lo hi) x L) {rows : List (List Value)} (hl : rows.length = L8.length) (hr : ∀ r ∈ rows, r.length = 1) (hx : ∀ (i : Nat) r y, rows[i]? = some r → L8[i]? = some y → reachV (on wq S2) r y) {v8' : Value} (ho : w3.ownsRow base 145 1 v8' (L8.length + 1) (rows.flatten ++ [x])) (hg : wq.grownBy w3 v8.ownBlock) (hob : v8'.ownBlock = v8.ownBlock ∨ v8'.ownBlock = some wq.heap.size) :
    TwoA base S1 (fun q => S2 q ∨ (lo ≤ q ∧ q < hi)) v7 v8' L7 (L8 ++ [L]) w3 := by
  have hne : ∀ q, lo ≤ q ∧ q < hi → some q ≠ v8.ownBlock := fun q hq e => by have := h8 q e.symm; omega
  refine ⟨h.a.grown hg ?_ h.ab, h.b.push hl hr hx (r := [x]) rfl ho hg hob (fun q hq => .inl hq) (fun q hq => ?_) ⟨x, rfl, hd.mono ?_⟩, fun q hq => ?_, fun q hq => ?_⟩
  · rcases h.a.ne h.b (by decide) with e | e
    · exact .inl e
    · exact .inr e
  · rcases hq with hq | hq
    · exact h.b.sep q hq
    · exact ⟨by omega, by omega, hne q hq⟩
  · exact (part_on wq (S := fun q => lo ≤ q ∧ q < hi) (fun q h1 h2 => ⟨h1, h2⟩)).trans (on_keep (fun q hq hlt => hg.block q hlt (hne q hq)) (fun q hq => .inr hq))
  · have h1 := h.a.sep q hq
    rcases hob with e | e
    · rw [e]; exact h.ab q hq
    · rw [e]; intro e2; injection e2 with e2; omega
  · rcases hq with hq | hq
    · exact h.ba q hq
    · intro e; have := h7 q e.symm; omega
theorem reach_cell {m : CM} {A : Option Addr} {n c b j : Nat} {gs : List Graph} {g : Graph} (h : Sl (Cells reachV) 1 m (.slice A n c) (gs.map reachL)) (hg : gs[b]? = some g) (hj : j < g.nodes.length) :
    ∃ pb po qb qo qc, A = some ⟨pb, po, none⟩ ∧ m pb (po + b) = some (.slice (some ⟨qb, qo, none⟩) g.nodes.length qc) ∧ ∃ d : Bool, m qb (qo + j) = some (.bool d) ∧ (d = true ↔ ReachC g (-1) j) := by
  have hx : (gs.map reachL)[b]? = some (reachL g) := by rw [List.getElem?_map, hg]; rfl
  obtain ⟨pb, po, rfl, _, ⟨v, rfl, hb⟩, hc⟩ := h.at_ hx
  obtain ⟨qA, qc, rfl, -⟩ := id hb
  obtain ⟨qb, qo, rfl, hq⟩ := hb.at_ (reachL_at hj)
  rw [reachL_len] at hc
  refine ⟨pb, po, qb, qo, qc, rfl, by simpa using hc 0 _ rfl, _, by simpa [BoolC] using hq, by simp⟩
theorem held_cell {u : Unit_} {m : CM} {A : Option Addr} {n c b j : Nat} {gs : List Graph} {g : Graph} (hr : RightG u g) (h : Sl (Cells heldV) 1 m (.slice A n c) (gs.map heldL)) (hg : gs[b]? = some g) (hj : j < g.nodes.length) :
    ∃ pb po qb qo qc v, A = some ⟨pb, po, none⟩ ∧ m pb (po + b) = some (.slice (some ⟨qb, qo, none⟩) g.nodes.length qc) ∧ m qb (qo + j) = some v ∧ Ints m v (heldAt g j) := by
  have hx : (gs.map heldL)[b]? = some (heldL g) := by rw [List.getElem?_map, hg]; rfl
  obtain ⟨pb, po, rfl, _, ⟨v, rfl, hb⟩, hc⟩ := h.at_ hx
  obtain ⟨qA, qc, rfl, -⟩ := id hb
  have hlen := heldL_len hr
  have hl : (heldL g)[j]? = some (heldAt g j) := by unfold heldAt; rw [List.getElem?_eq_getElem (by omega)]; rfl
  obtain ⟨qb, qo, rfl, v, hq, hi⟩ := hb.at_ hl
  rw [hlen] at hc
  exact ⟨pb, po, qb, qo, qc, v, rfl, by simpa using hc 0 _ rfl, by simpa using hq, hi⟩
/-- What has come, what is to come. -/
def Split (total pre rest : List Quad) : Prop := pre ++ rest = total ∧ pre.length ≤ 65536
theorem Split.to {t p r r' : List Quad} (h : Split t p r) (e : r = r') : Split t p r' := e ▸ h
theorem Split.push {t p r : List Quad} {q : Quad} (h : Split t p (q :: r)) (hl : p.length ≠ 65536) : Split t (p ++ [q]) r := ⟨by rw [← h.1]; simp, by have := h.2; simp; omega⟩
theorem Split.full {t p r : List Quad} {q : Quad} (h : Split t p (q :: r)) (hl : p.length = 65536) : 65536 < t.length := by rw [← h.1]; simp; omega
theorem Split.all {t p : List Quad} (h : Split t p []) : p = t ∧ t.length ≤ 65536 := by
  have h1 := h.1
  rw [List.append_nil] at h1
  exact ⟨h1, by rw [← h1]; exact h.2⟩
/-- What holds while a region's operations come up, D being those that have. -/
structure R26J (W0 : World) (r8b r8o qb qo h7b h7o hab hao hbb hbo ai i b j : Nat) (V7 V8 Q3 H14 H21 va vb : Value) (x y : Node) (r : Bool) (a0 : Act) (D : Nat → Bool) (a : Act) (w : World) : Prop where
  fr : Fr [99, 100, 101, 102, 103, 104, 105, 106, 107, 108, 109, 110, 111, 112, 113, 114, 115, 116, 117, 118, 119, 120, 121, 122, 123, 124, 125, 126] a0 a
  below : Below W0.heap.size W0 w
  s0 : D 0 = true → a.eval (.tmp 99) = V8
  s1 : D 1 = true → a.eval (.tmp 100) = .int .i64 (b : Int)
  s2 : D 2 = true → a.eval (.tmp 101) = .pointer (some ⟨r8b, r8o + b, none⟩)
  s3 : D 3 = true → a.eval (.tmp 102) = Q3
  s4 : D 4 = true → a.eval (.tmp 103) = .int .i64 (j : Int)
  s5 : D 5 = true → a.eval (.tmp 104) = .pointer (some ⟨qb, qo + j, none⟩)
  s6 : D 6 = true → a.eval (.tmp 105) = .bool true
  s7 : D 7 = true → a.eval (.tmp 106) = .bool false
  s8 : D 8 = true → a.eval (.tmp 107) = .bool false
  s9 : D 9 = true → a.eval (.tmp 108) = .agg x.cells.toArray
  s10 : D 10 = true → a.eval (.tmp 109) = .agg y.cells.toArray
  s11 : D 11 = true → a.eval (.tmp 110) = V7
  s12 : D 12 = true → a.eval (.tmp 111) = .int .i64 (ai : Int)
  s13 : D 13 = true → a.eval (.tmp 112) = .pointer (some ⟨h7b, h7o + ai, none⟩)
  s14 : D 14 = true → a.eval (.tmp 113) = H14
  s15 : D 15 = true → a.eval (.tmp 114) = .int .i64 (i : Int)
  s16 : D 16 = true → a.eval (.tmp 115) = .pointer (some ⟨hab, hao + i, none⟩)
  s17 : D 17 = true → a.eval (.tmp 116) = va
  s18 : D 18 = true → a.eval (.tmp 117) = V7
  s19 : D 19 = true → a.eval (.tmp 118) = .int .i64 (b : Int)
  s20 : D 20 = true → a.eval (.tmp 119) = .pointer (some ⟨h7b, h7o + b, none⟩)
  s21 : D 21 = true → a.eval (.tmp 120) = H21
  s22 : D 22 = true → a.eval (.tmp 121) = .int .i64 (j : Int)
  s23 : D 23 = true → a.eval (.tmp 122) = .pointer (some ⟨hbb, hbo + j, none⟩)
  s24 : D 24 = true → a.eval (.tmp 123) = vb
  s25 : D 25 = true → a.eval (.tmp 124) = .bool r
  s26 : D 26 = true → a.eval (.tmp 125) = .bool (!r)
  s27 : D 27 = true → a.eval (.tmp 126) = .bool (!r)
theorem R26J.keep {W0 : World} {r8b r8o qb qo h7b h7o hab hao hbb hbo ai i b j : Nat} {V7 V8 Q3 H14 H21 va vb : Value} {x y : Node} {r : Bool} {a0 : Act} {D : Nat → Bool} {a : Act} {w w' : World} (h : R26J W0 r8b r8o qb qo h7b h7o hab hao hbb hbo ai i b j V7 V8 Q3 H14 H21 va vb x y r a0 D a w) (hb : Below w.heap.size w w') : R26J W0 r8b r8o qb qo h7b h7o hab hao hbb hbo ai i b j V7 V8 Q3 H14 H21 va vb x y r a0 D a w' where
  fr := h.fr
  below := h.below.trans (hb.mono h.below.size)
  s0 := h.s0
  s1 := h.s1
  s2 := h.s2
  s3 := h.s3
  s4 := h.s4
  s5 := h.s5
  s6 := h.s6
  s7 := h.s7
  s8 := h.s8
  s9 := h.s9
  s10 := h.s10
  s11 := h.s11
  s12 := h.s12
  s13 := h.s13
  s14 := h.s14
  s15 := h.s15
  s16 := h.s16
  s17 := h.s17
  s18 := h.s18
  s19 := h.s19
  s20 := h.s20
  s21 := h.s21
  s22 := h.s22
  s23 := h.s23
  s24 := h.s24
  s25 := fun hd => by exact h.s25 hd
  s26 := h.s26
  s27 := h.s27
set_option maxRecDepth 100000 in
set_option maxHeartbeats 4000000 in
theorem races2_calls (u : Unit_) (cs : List Value) (w : World) (hu : UnitV (cmap w) cs u) (hok : UOk u) :
    Calls Try.prog 47 #[.agg cs.toArray] w fun e w' => (checkF u = none ∧ (rquads u).length ≤ 65536 ∧ ∃ v, e = .returned (.tuple #[v, .int .i64 0]) ∧ Sl (Cells quadV) 4 (part w' w.heap.size w'.heap.size) v (rquads u) ∧ Below w.heap.size w w') ∨
      (∃ k : Int, ((k = 60 ∧ checkF u ≠ none) ∨ (k = 3 ∧ checkF u = none ∧ 65536 < (rquads u).length)) ∧ e = .returned (.tuple #[.slice none 0 0, .int .i64 k]) ∧ Below w.heap.size w w') := by
  have hu0 := hu
  obtain ⟨sv, lv, gv, rfl, hs, hl, hg⟩ := hu
  obtain ⟨gA, gc, rfl, -⟩ := id hg
  have bg := hg.len.2.2
  have hbx := Blk.new w 25 [sv, lv, .slice gA u.graphs.length gc]
  have HLD : Hid (∀ j v, ([sv, lv, .slice gA u.graphs.length gc] : List Value)[j]? = some v → (w.alloc (.cells #[sv, lv, .slice gA u.graphs.length gc] 25)).cell? ⟨w.heap.size, 0 + j, none⟩ = some v) := cell_newl w _ _ _ rfl
  go_enter Try.func47, Try.ntmps47
  go_wp2_with (first
    | (refine wpList_load_at rfl 25 _ rfl w.heap.size 0 rfl _ _ HLD.out Try.underlying25 rfl (by kernel_rfl) ?_))
  refine (check2_calls u _ _ (hu0.mono (cmap_alloc _ _)) hok).mono ?_
  rintro e w1 ⟨rfl, hb1⟩
  have hw1 : Below w.heap.size w w1 := (Below_alloc' _ _).trans (hb1.mono (by simp))
  have hbx1 := hbx.below hb1 hbx.lt
  obtain ⟨r, hr⟩ : ∃ r, checkF u = r := ⟨_, rfl⟩
  cases r with
  | some ti =>
    obtain ⟨t, i⟩ := ti
    rw [hr]
    unfold checkV
    have HRS := Lib.hid hr; clear hr
    go_wp2
    go_ret2
    exact .inr ⟨60, .inl ⟨rfl, by rw [HRS.out]; simp⟩, rfl, hw1⟩
  | none =>
    have hru := checkF_none hr
    rw [hr]
    unfold checkV
    have HR := Lib.hid hr; clear hr
    have c2 := hbx1.cell 2
    have hth := hru.threads
    have HRU := Lib.hid hru; clear hru
    clear hbx hb1 hs hl
    go_wp2_with fail
    go_loopw [7, 8, 32] (fun v7 v8 v32 wr => ∃ (k : Nat) (S1 S2 : Nat → Prop), v32 = .int .i64 k ∧ k ≤ u.graphs.length ∧ TwoA w.heap.size S1 S2 v7 v8 ((u.graphs.take k).map heldL) ((u.graphs.take k).map reachL) wr ∧ Below w.heap.size w wr ∧ Blk wr w.heap.size 25 [sv, lv, .slice gA u.graphs.length gc]) (fun _ _ v32 _ => u.graphs.length - (intOf v32).toNat)
    case atStart => exact ⟨0, fun _ => False, fun _ => False, rfl, by omega, ⟨Acc.nil _ _ _ _ _, Acc.nil _ _ _ _ _, fun _ h => h.elim, fun _ h => h.elim⟩, hw1, hbx1⟩
    case round =>
      obtain ⟨k, S1, S2, rfl, hk, two, hbr, hbxr⟩ := hrel
      clear c2 hw1 hbx1
      have hbs := hbr.size
      by_cases hlt : k < u.graphs.length
      · obtain ⟨g, hgk⟩ : ∃ g, u.graphs[k]? = some g := ⟨_, List.getElem?_eq_getElem hlt⟩
        obtain ⟨gb, go_, rfl, cg, hgv, hgc⟩ := hg.at_ hgk
        have hgr := HRU.out.graphs g (List.mem_of_getElem? hgk)
        have htk1 : (u.graphs.take (k + 1)).map heldL = (u.graphs.take k).map heldL ++ [heldL g] := by rw [List.take_succ_eq_append_getElem hlt, (List.getElem?_eq_some_iff.1 hgk).2, List.map_append]; rfl
        have htk2 : (u.graphs.take (k + 1)).map reachL = (u.graphs.take k).map reachL ++ [reachL g] := by rw [List.take_succ_eq_append_getElem hlt, (List.getElem?_eq_some_iff.1 hgk).2, List.map_append]; rfl
        have HT1 := Lib.hid htk1; have HT2 := Lib.hid htk2; clear htk1 htk2 hgk
        have hll1 : ((u.graphs.take k).map heldL).length = k := by simp; omega
        have hll2 : ((u.graphs.take k).map reachL).length = k := by simp; omega
        have HL1 := Lib.hid hll1; have HL2 := Lib.hid hll2; clear hll1 hll2
        have hgvr := hgv.mono (cmap_below hbr)
        obtain ⟨nv, rfl, hns⟩ := id hgv
        obtain ⟨nA, nc, rfl, -⟩ := id hns
        have HLG : Hid (∀ j v, ([.string g.name, .int .i64 g.locals, .int .i64 g.slots, .slice nA g.nodes.length nc] : List Value)[j]? = some v → wr.cell? ⟨gb, go_ + k * 4 + j, none⟩ = some v) := Lib.hid fun j v hj => cmap_below hbr _ _ _ (hgc j v hj)
        have bb := Blk.new wr 70 [.string g.name, .int .i64 g.locals, .int .i64 g.slots, .slice nA g.nodes.length nc]
        have HLB : Hid (∀ j v, ([.string g.name, .int .i64 g.locals, .int .i64 g.slots, .slice nA g.nodes.length nc] : List Value)[j]? = some v → (wr.alloc (.cells #[.string g.name, .int .i64 g.locals, .int .i64 g.slots, .slice nA g.nodes.length nc] 70)).cell? ⟨wr.heap.size, 0 + j, none⟩ = some v) := cell_newl wr _ _ _ rfl
        have k0 : (0 : Int) ≤ k := by omega
        have k1 : (k : Int) < u.graphs.length := by omega
        have HGV := Lib.hid hgv
        clear hgc hgv
        go_wp2_with (first
          | (refine wpList_load_at rfl 70 _ rfl gb (go_ + k * 4) rfl _ _ HLG.out Try.underlying70 rfl (by kernel_rfl) ?_)
          | (refine wpList_load_at rfl 70 _ rfl wr.heap.size 0 rfl _ _ HLB.out Try.underlying70 rfl (by kernel_rfl) ?_))
        refine (Held2_calls g _ _ hgr.whole (hgvr.mono (cmap_alloc _ _))).mono ?_
        rintro e w2 (⟨hv, L, rfl, hL, hIv, hb2⟩ | ⟨a, rfl, herr, -⟩)
        rotate_left
        · obtain ⟨L, hL⟩ := hgr.held
          rw [hL] at herr
          cases herr
        have hLe := heldL_ok hL
        subst hLe
        clear hL
        obtain ⟨hvA, hvc, rfl, -⟩ := id hIv
        simp only [World.size_alloc] at hIv
        have hs2 := hb2.size
        simp only [World.size_alloc] at hs2
        have twoq := (two.keep ((Below_alloc' wr (.cells #[.string g.name, .int .i64 g.locals, .int .i64 g.slots, .slice nA g.nodes.length nc] 70)).trans (hb2.mono (by simp)))).keep (Below_alloc' w2 (.cells #[.slice hvA (heldL g).length hvc] 141))
        obtain ⟨rows, ho, hrl, hrs, hrx⟩ := twoq.a.rows
        have bb2 := (bb.below hb2 bb.lt).alloc (.cells #[.slice hvA (heldL g).length hvc] 141)
        have hbr2 : Below w.heap.size w (w2.alloc (.cells #[.slice hvA (heldL g).length hvc] 141)) := ((hbr.alloc hbs _).trans (hb2.mono (by simp; omega))).alloc (by omega) _
        have hbx2 := ((hbxr.alloc (.cells #[.string g.name, .int .i64 g.locals, .int .i64 g.slots, .slice nA g.nodes.length nc] 70)).below hb2 (by simp; have := hbxr.lt; omega)).alloc (.cells #[.slice hvA (heldL g).length hvc] 141)
        go_wp2_with (refine stop_append rfl ?_)
        refine Stop.intro ?_
        refine app_one sl_heldT rfl _ _ rfl w.heap.size u7 _ rows.flatten rfl ho w2.heap.size 0 1 [.slice hvA (heldL g).length hvc] rfl rfl (cell_new1 _ _ _ _ rfl) (by simp [Value.oneCell']) (by have := HL1.out; omega) (by decide) (by simp; omega) ?_
        intro v7' w3 hown3 hg3 hob3
        have two3 := twoq.pushA (lo := wr.heap.size + 1) (hi := w2.heap.size) (fun q e => by have := (two.a.lt q e).2; omega) (fun q e => by have := (two.b.lt q e).2; omega) (by omega) (by simp) (hIv.mono (part_keep fun b _ hb => Below.heap_alloc w2 _ b hb)) hrl hrs hrx hown3 hg3 hob3
        have bb3 := bb2.grown hg3 (twoq.a.blk bb2 (by decide))
        have hbx3 := hbx2.grown hg3 (twoq.a.blk hbx2 (by decide))
        have hbr3 := hbr2.grown hg3 (by simp; omega) (fun q e => (twoq.a.lt q e).1)
        have hs3 := hg3.size
        simp only [World.size_alloc] at hs3
        have HLB3 : Hid (∀ j v, ([.string g.name, .int .i64 g.locals, .int .i64 g.slots, .slice nA g.nodes.length nc] : List Value)[j]? = some v → w3.cell? ⟨wr.heap.size, 0 + j, none⟩ = some v) := Lib.hid fun j v hj => by rw [Nat.zero_add, bb3.cell]; exact hj
        have hgv3 := HGV.out.mono (cmap_below hbr3)
        clear two twoq bb bb2 hbxr hbx2 hbr2 hg3 hown3 ho hIv hb2 hbr hgvr
        go_wp2_with (first
          | (refine wpList_load_at rfl 70 _ rfl wr.heap.size 0 rfl _ _ HLB3.out Try.underlying70 rfl (by kernel_rfl) ?_))
        refine (reached2_calls g _ _ hgr.whole hgv3).mono ?_
        rintro e w4 ⟨rv, l, rfl, hl1, hl2, hl3, hb4⟩
        have hle := reachL_eq hl2 hl3
        subst hle
        clear hl2 hl3
        obtain ⟨rA, rc, rfl, -⟩ := id hl1
        have hs4 := hb4.size
        have two4 := two3.keep hb4
        have two5 := two4.keep (Below_alloc' w4 (.cells #[.slice rA (reachL g).length rc] 145))
        obtain ⟨rows2, ho2, hrl2, hrs2, hrx2⟩ := two5.b.rows
        have hbr5 : Below w.heap.size w (w4.alloc (.cells #[.slice rA (reachL g).length rc] 145)) := (hbr3.trans (hb4.mono hbr3.size)).alloc (by have := hbr3.size; omega) _
        have hbx5 := (hbx3.below hb4 hbx3.lt).alloc (.cells #[.slice rA (reachL g).length rc] 145)
        have hbs3 := hbr3.size
        go_wp2_with (refine stop_append rfl ?_)
        refine Stop.intro ?_
        refine app_one sl_reachT rfl _ _ rfl w.heap.size u8 _ rows2.flatten rfl ho2 w4.heap.size 0 1 [.slice rA (reachL g).length rc] rfl rfl (cell_new1 _ _ _ _ rfl) (by simp [Value.oneCell']) (by have := HL2.out; omega) (by decide) (by simp; omega) ?_
        intro v8' w5 hown5 hg5 hob5
        have two6 := two5.pushB (lo := w3.heap.size) (hi := w4.heap.size) (fun q e => (two3.a.lt q e).2) (fun q e => (two3.b.lt q e).2) (by omega) (by simp) (hl1.mono (part_keep fun b _ hb => Below.heap_alloc w4 _ b hb)) hrl2 hrs2 hrx2 hown5 hg5 hob5
        have hbx6 := hbx5.grown hg5 (two5.b.blk hbx5 (by decide))
        have hbr6 := hbr5.grown hg5 (by simp; omega) (fun q e => (two5.b.lt q e).1)
        have TW := Lib.hid two6
        clear two3 two4 two5 two6 hbx3 hbx5 hbr3 hbr5 hg5 hown5 ho2 hl1 hb4 bb3 HLB3
        go_wp2_with fail
        go_roundw
        case rel => exact ⟨k + 1, _, _, by go_num, hlt, by rw [HT1.out, HT2.out]; exact TW.out, hbr6, hbx6⟩
        case measure => simp [intOf]; omega
      · obtain rfl : k = u.graphs.length := by omega
        rw [List.take_length] at two
        obtain ⟨hA7, hc7, rfl, -⟩ := two.a.form
        obtain ⟨rA8, rc8, rfl, -⟩ := two.b.form
        have hH := (two.a.done (Nat.le_refl _) (Nat.le_refl _)).mono (part_le _ _ _)
        have hRr := (two.b.done (Nat.le_refl _) (Nat.le_refl _)).mono (part_le _ _ _)
        rw [List.length_map] at hH hRr ⊢
        rw [List.length_map]
        obtain ⟨wq, rfl⟩ : ∃ wq : World, wq = wr := ⟨_, rfl⟩
        clear two
        have q2 := hbxr.cell 2
        have hbW : Below w.heap.size w wq := hbr
        have bq := hbr.size
        clear hbr hlt hk
        go_wp2_with fail
        go_loopw [13, 54] (fun v13 v54 wr => ∃ (ai : Nat) (pre : List Quad), v54 = .int .i64 ai ∧ ai ≤ u.graphs.length ∧ Acc quadV 4 46 wq.heap.size (fun _ => False) v13 pre wr ∧ Below wq.heap.size wq wr ∧ Split (rquads u) pre (qrest1 u ai)) (fun _ v54 _ => u.graphs.length - (intOf v54).toNat)
        case atStart => exact ⟨0, [], rfl, by omega, Acc.nil _ _ _ _ _, Below.refl _ _, by rw [qrest1_zero]; exact ⟨rfl, by simp⟩⟩
        case round =>
          clear q2
          obtain ⟨ai, pre, rfl, hai, hacc, hbr, hsp⟩ := hrel
          have hbxa := hbxr.below hbr hbxr.lt
          have q2 := hbxa.cell 2
          by_cases hlta : ai < u.graphs.length
          · obtain ⟨g, hga⟩ : ∃ g, u.graphs[ai]? = some g := ⟨_, List.getElem?_eq_getElem hlta⟩
            have hga0 := hga
            obtain ⟨gb_, go_, rfl, cg, hgv, hgc⟩ := hg.at_ hga
            obtain ⟨nv, rfl, hns⟩ := id hgv
            obtain ⟨nA, nc, rfl, -⟩ := id hns
            have hgr := HRU.out.graphs g (List.mem_of_getElem? hga)
            have HGR := Lib.hid hgr
            have hmost := hgr.whole.most
            have g3 : wr.cell? ⟨gb_, go_ + ai * 4 + 3, none⟩ = some (.slice nA g.nodes.length nc) := cmap_below (hbW.trans (hbr.mono bq)) _ _ _ (hgc 3 _ rfl)
            have HGA := Lib.hid hga; clear hga hgc hgv hgr
            have a0 : (0 : Int) ≤ ai := by omega
            have a1 : (ai : Int) < u.graphs.length := by omega
            have HSP := Lib.hid (hsp.to (qrest1_at HGA.out)); clear hsp
            go_wp2_with fail
            obtain ⟨wa, rfl⟩ : ∃ wa : World, wa = wr := ⟨_, rfl⟩
            go_loopw [13, 64] (fun v13 v64 wr => ∃ (i : Nat) (pre : List Quad), v64 = .int .i64 i ∧ i ≤ g.nodes.length ∧ Acc quadV 4 46 wq.heap.size (fun _ => False) v13 pre wr ∧ Below wq.heap.size wq wr ∧ Split (rquads u) pre (qrest2 u ai g i)) (fun _ v64 _ => g.nodes.length - (intOf v64).toNat)
            case atStart => exact ⟨0, pre, rfl, by omega, hacc, hbr, HSP.out⟩
            case round =>
              clear hacc hbr hbxa q2 g3
              clear HSP pre
              obtain ⟨i, pre, rfl, hi, hacc, hbr, hsp⟩ := hrel
              have hbxa := hbxr.below hbr hbxr.lt
              have q2 := hbxa.cell 2
              have hbs := hbr.size
              by_cases hlti : i < g.nodes.length
              · obtain ⟨x, hx⟩ : ∃ x, g.nodes[i]? = some x := ⟨_, List.getElem?_eq_getElem hlti⟩
                obtain ⟨nb, no, rfl, hnc⟩ := hns.at_ hx
                have HLN : Hid (∀ j v, x.cells[j]? = some v → wr.cell? ⟨nb, no + i * 13 + j, none⟩ = some v) := Lib.hid fun j v hj => cmap_below (hbW.trans (hbr.mono bq)) _ _ _ (hnc j v hj)
                have HX0 := Lib.hid hx; clear hx hnc
                have i0 : (0 : Int) ≤ i := by omega
                have i1 : (i : Int) < g.nodes.length := by omega
                have bX := Blk.new wr 67 x.cells
                have hbrX := hbr.alloc hbs (.cells x.cells.toArray 67)
                have haccX := hacc.alloc (.cells x.cells.toArray 67)
                have hbxX := hbxa.alloc (.cells x.cells.toArray 67)
                have q2X := hbxX.cell 2
                obtain ⟨r8b, r8o, rb, ro, rbc, hA8, hc8, d, hcd, hdi⟩ := reach_cell hRr HGA.out hlti
                subst hA8
                have z8 : (wr.alloc (.cells x.cells.toArray 67)).cell? ⟨r8b, r8o + ai, none⟩ = some (.slice (some ⟨rb, ro, none⟩) g.nodes.length rbc) := cmap_below hbrX _ _ _ hc8
                have zd : (wr.alloc (.cells x.cells.toArray 67)).cell? ⟨rb, ro + i, none⟩ = some (.bool d) := cmap_below hbrX _ _ _ hcd
                have HDI := Lib.hid hdi; clear hdi
                have HC8 := Lib.hid hc8; have HCD := Lib.hid hcd
                have h0 : (0 : Int) ≤ (ai : Int) + 1 := by omega
                clear hc8 hcd hbxa q2
                obtain ⟨wx, hwx⟩ : ∃ wx, wr.alloc (.cells x.cells.toArray 67) = wx := ⟨_, rfl⟩
                have lX0 : wr.heap.size < wx.heap.size := by rw [← hwx]; simp
                rw [hwx] at bX hbrX haccX hbxX q2X z8 zd
                have HWX := Lib.hid hwx; clear hwx
                have hun13 : x.cells.toArray = #[.int .u8 x.kind, .int .u8 x.op, .int .i64 x.slot, .int .i64 x.thing, .bool x.a.isSlot, .int .i64 x.a.slot, .int .i64 x.a.word, .bool x.b.isSlot, .int .i64 x.b.slot, .int .i64 x.b.word, .int .i64 x.next, .int .i64 x.els, .int .i64 x.origin] := rfl
                have HUN := Lib.hid hun13; clear hun13
                unfold Node.cells at HLN
                go_wp2_with (first
                  | (refine wpList_load_at rfl 67 _ rfl nb (no + i * 13) rfl _ _ HLN.out Try.underlying67 rfl (by kernel_rfl) ?_))
                rw [show wr.alloc (.cells #[.int .u8 x.kind, .int .u8 x.op, .int .i64 x.slot, .int .i64 x.thing, .bool x.a.isSlot, .int .i64 x.a.slot, .int .i64 x.a.word, .bool x.b.isSlot, .int .i64 x.b.slot, .int .i64 x.b.word, .int .i64 x.next, .int .i64 x.els, .int .i64 x.origin] 67) = wx from HWX.out]
                obtain ⟨XB, hXB⟩ : ∃ X, X = wr.heap.size := ⟨_, rfl⟩
                rw [← hXB] at bX lX0 ⊢
                have HXB := Lib.hid hXB; clear hXB
                cases d
                · have hnr : ¬ ReachC g (-1) i := fun h => by have := HDI.out.2 h; cases this
                  have HS2 := Lib.hid (hsp.to (qrest2_no HX0.out hnr)); clear hsp hnr
                  go_loopw [13, 17] (fun v13 v17 wr => v13 = u13 ∧ v17 = .int .i64 ((ai : Int) + 1) ∧ wr = wx) (fun _ _ _ => 0)
                  case atStart => exact ⟨rfl, rfl, rfl⟩
                  case round =>
                    obtain ⟨rfl, rfl, rfl⟩ := hrel
                    by_cases hb1 : ai + 1 < u.graphs.length
                    · have e1 : decide ((ai : Int) + 1 < u.graphs.length) = true := by simp; omega
                      go_wp2_with fail
                      go_roundw
                      case rel => exact ⟨i + 1, pre, by go_num, hlti, haccX, hbrX, HS2.out⟩
                      case measure => simp [intOf]; omega
                    · have e1 : decide ((ai : Int) + 1 < u.graphs.length) = false := by simp; omega
                      go_wp2_with fail
                      go_roundw
                      case rel => exact ⟨i + 1, pre, by go_num, hlti, haccX, hbrX, HS2.out⟩
                      case measure => simp [intOf]; omega
                · have hre := HDI.out.1 rfl
                  have HRE := Lib.hid hre
                  have HS3 := Lib.hid (hsp.to (qrest2_yes HX0.out hre)); clear hsp hre
                  go_loopw [13, 17] (fun v13 v17 wr => ∃ (b : Nat) (pre : List Quad), v17 = .int .i64 b ∧ ai + 1 ≤ b ∧ b ≤ u.graphs.length ∧ Acc quadV 4 46 wq.heap.size (fun _ => False) v13 pre wr ∧ Below wq.heap.size wq wr ∧ Blk wr XB 67 x.cells ∧ Split (rquads u) pre (qrest3 u ⟨ai, i, x, heldAt g i⟩ g b)) (fun _ v17 _ => u.graphs.length - (intOf v17).toNat)
                  case atStart => exact ⟨ai + 1, pre, by go_num, by omega, by omega, haccX, hbrX, bX, HS3.out⟩
                  case round =>
                    clear HS3 haccX hbrX hacc pre z8 zd bX
                    obtain ⟨b, pre, rfl, hb1, hbn, hacc, hbr, bX, hsp⟩ := hrel
                    have z8 : wr.cell? ⟨r8b, r8o + ai, none⟩ = some (.slice (some ⟨rb, ro, none⟩) g.nodes.length rbc) := cmap_below hbr _ _ _ HC8.out
                    have zd : wr.cell? ⟨rb, ro + i, none⟩ = some (.bool true) := cmap_below hbr _ _ _ HCD.out
                    have hbxa := hbxr.below hbr hbxr.lt
                    have q2 := hbxa.cell 2
                    have b0 : (0 : Int) ≤ b := by omega
                    have hbs := hbr.size
                    by_cases hlb : b < u.graphs.length
                    · obtain ⟨gb, hgb⟩ : ∃ gb, u.graphs[b]? = some gb := ⟨_, List.getElem?_eq_getElem hlb⟩
                      obtain ⟨gbx, gox, hgE, cgb, hgvb, hgcb⟩ := hg.at_ hgb
                      injection hgE with hgE
                      injection hgE with hgE1 hgE2
                      subst hgE1 hgE2
                      obtain ⟨nvb, rfl, hnsb⟩ := id hgvb
                      obtain ⟨nB, ncb, rfl, -⟩ := id hnsb
                      have hgrb := HRU.out.graphs gb (List.mem_of_getElem? hgb)
                      have HGRB := Lib.hid hgrb
                      have hmostb := hgrb.whole.most
                      have g3b : wr.cell? ⟨gb_, go_ + b * 4 + 3, none⟩ = some (.slice nB gb.nodes.length ncb) := cmap_below (hbW.trans (hbr.mono bq)) _ _ _ (hgcb 3 _ rfl)
                      have HGB := Lib.hid hgb; clear hgb hgcb hgvb hgrb
                      have bb1 : (b : Int) < u.graphs.length := by omega
                      have HS4 := Lib.hid (hsp.to (qrest3_at HGB.out)); clear hsp
                      go_wp2_with fail
                      obtain ⟨wb, rfl⟩ : ∃ wb : World, wb = wr := ⟨_, rfl⟩
                      go_loopw [13, 94] (fun v13 v94 wr => ∃ (j : Nat) (pre : List Quad), v94 = .int .i64 j ∧ j ≤ gb.nodes.length ∧ Acc quadV 4 46 wq.heap.size (fun _ => False) v13 pre wr ∧ Below wq.heap.size wq wr ∧ Blk wr XB 67 x.cells ∧ Split (rquads u) pre (qrest4 u ⟨ai, i, x, heldAt g i⟩ g b gb j)) (fun _ v94 _ => gb.nodes.length - (intOf v94).toNat)
                      case atStart => exact ⟨0, pre, rfl, by omega, hacc, hbr, bX, HS4.out⟩
                      case round =>
                        clear HS4 hacc hbr bX pre z8 zd hbxa q2 g3b hbs
                        obtain ⟨j, pre, rfl, hj, hacc, hbr, bX, hsp⟩ := hrel
                        have hbs := hbr.size
                        by_cases hlj : j < gb.nodes.length
                        · obtain ⟨y, hy⟩ : ∃ y, gb.nodes[j]? = some y := ⟨_, List.getElem?_eq_getElem hlj⟩
                          obtain ⟨nbb, nob, rfl, hncb⟩ := hnsb.at_ hy
                          have HLM : Hid (∀ j' v, y.cells[j']? = some v → wr.cell? ⟨nbb, nob + j * 13 + j', none⟩ = some v) := Lib.hid fun j' v hj' => cmap_below (hbW.trans (hbr.mono bq)) _ _ _ (hncb j' v hj')
                          have HY0 := Lib.hid hy; clear hy hncb
                          have j0 : (0 : Int) ≤ j := by omega
                          have j1 : (j : Int) < gb.nodes.length := by omega
                          have bY := Blk.new wr 67 y.cells
                          have bXy := bX.alloc (.cells y.cells.toArray 67)
                          have haccY := hacc.alloc (.cells y.cells.toArray 67)
                          have hbrY := hbr.alloc hbs (.cells y.cells.toArray 67)
                          have hsy : wr.heap.size < (wr.alloc (.cells y.cells.toArray 67)).heap.size := by simp
                          obtain ⟨wy, hwy⟩ : ∃ wy, wr.alloc (.cells y.cells.toArray 67) = wy := ⟨_, rfl⟩
                          rw [hwy] at bY bXy haccY hbrY hsy
                          have HWY := Lib.hid hwy; clear hwy
                          obtain ⟨r8b', r8o', qb, qo, qc, hE8, hc8, d, hcd, hdi⟩ := reach_cell hRr HGB.out hlj
                          injection hE8 with hE8
                          injection hE8 with hE8a hE8b
                          subst hE8a hE8b
                          obtain ⟨h7b, h7o, hab, hao, hac, va, hE7, h13, h16, hva⟩ := held_cell HGR.out hH HGA.out hlti
                          subst hE7
                          obtain ⟨h7b', h7o', hbb, hbo, hbc, vb, hE7, h20, h23, hvb⟩ := held_cell HGRB.out hH HGB.out hlj
                          injection hE7 with hE7
                          injection hE7 with hE7a hE7b
                          subst hE7a hE7b
                          have up : ∀ p v, wq.cell? p = some v → wy.cell? p = some v ∧ p.block < wy.heap.size := fun p v h => by
                            have hlt := World.block_lt_of_cell? wq p h
                            exact ⟨(hbrY.cell hlt).trans h, Nat.lt_of_lt_of_le hlt hbrY.size⟩
                          have C2 := Lib.hid (up ⟨r8b, r8o + b, none⟩ _ hc8).1
                          have L2 := Lib.hid (up ⟨r8b, r8o + b, none⟩ _ hc8).2
                          have C5 := Lib.hid (up ⟨qb, qo + j, none⟩ _ hcd).1
                          have L5 := Lib.hid (up ⟨qb, qo + j, none⟩ _ hcd).2
                          have C13 := Lib.hid (up ⟨h7b, h7o + ai, none⟩ _ h13).1
                          have L13 := Lib.hid (up ⟨h7b, h7o + ai, none⟩ _ h13).2
                          have C16 := Lib.hid (up ⟨hab, hao + i, none⟩ _ h16).1
                          have L16 := Lib.hid (up ⟨hab, hao + i, none⟩ _ h16).2
                          have C20 := Lib.hid (up ⟨h7b, h7o + b, none⟩ _ h20).1
                          have L20 := Lib.hid (up ⟨h7b, h7o + b, none⟩ _ h20).2
                          have C23 := Lib.hid (up ⟨hbb, hbo + j, none⟩ _ h23).1
                          have L23 := Lib.hid (up ⟨hbb, hbo + j, none⟩ _ h23).2
                          have IVA := Lib.hid (hva.mono (cmap_below hbrY))
                          have IVB := Lib.hid (hvb.mono (cmap_below hbrY))
                          have HDJ := Lib.hid hdi
                          clear up hc8 hcd h13 h16 h20 h23 hva hvb hdi
                          unfold Node.cells at HLM
                          have nwy : wr.alloc (.cells #[.int .u8 y.kind, .int .u8 y.op, .int .i64 y.slot, .int .i64 y.thing, .bool y.a.isSlot, .int .i64 y.a.slot, .int .i64 y.a.word, .bool y.b.isSlot, .int .i64 y.b.slot, .int .i64 y.b.word, .int .i64 y.next, .int .i64 y.els, .int .i64 y.origin] 67) = wy := HWY.out
                          have NWY := Lib.hid nwy; clear nwy
                          go_upto_region 26 with (refine wpList_load_at rfl 67 _ rfl nbb (nob + j * 13) rfl _ _ HLM.out Try.underlying67 rfl (by kernel_rfl) ?_)
                          rw [NWY.out]
                          obtain ⟨YB, hYB⟩ : ∃ Y, Y = wr.heap.size := ⟨_, rfl⟩
                          rw [← hYB] at bY hsy ⊢
                          have HYB := Lib.hid hYB; clear hYB
                          cases d
                          · have hnr : ¬ ReachC gb (-1) j := fun h => by have := HDJ.out.2 h; cases this
                            have HS5 := Lib.hid (hsp.to (qrest4_no HY0.out (.inl hnr))); clear hsp hnr
                            have c2 := C2.out
                            have c5 := C5.out
                            go_quiet (fail)
                            go_wp2_with fail
                            go_roundw
                            case rel => exact ⟨j + 1, pre, by go_num, hlj, haccY.keep (Below_drewN _ _), below_drewN hbrY _, bXy.drewN _, HS5.out⟩
                            case measure => simp [intOf]; omega
                          · have hre := HDJ.out.1 rfl
                            have HREJ := Lib.hid hre; clear hre
                            obtain ⟨r, hrx⟩ : ∃ r, rrN x y (heldAt g i) (heldAt gb j) = r := ⟨_, rfl⟩
                            have HRX := Lib.hid hrx; clear hrx
                            refine wp_act0 fun a0 ha0 => ?_
                            have t7 : a0.eval (.tmp 7) = (.slice (some ⟨h7b, h7o, none⟩) u.graphs.length hc7) := by rw [ha0]; rfl
                            have t8 : a0.eval (.tmp 8) = (.slice (some ⟨r8b, r8o, none⟩) u.graphs.length rc8) := by rw [ha0]; rfl
                            have t14 : a0.eval (.tmp 14) = .int .i64 (ai : Int) := by rw [ha0]; rfl
                            have t15 : a0.eval (.tmp 15) = .int .i64 (i : Int) := by rw [ha0]; rfl
                            have t16 : a0.eval (.tmp 16) = .pointer (some ⟨XB, 0, none⟩) := by rw [ha0]; rfl
                            have t17 : a0.eval (.tmp 17) = .int .i64 (b : Int) := by rw [ha0]; rfl
                            have t18 : a0.eval (.tmp 18) = .int .i64 (j : Int) := by rw [ha0]; rfl
                            have t19 : a0.eval (.tmp 19) = .pointer (some ⟨YB, 0, none⟩) := by rw [ha0]; rfl
                            have hsz : a0.tmps.size = 144 := by rw [ha0]; rfl
                            have HA0 := Lib.hid ha0; clear ha0
                            have HX : Hid (∀ j v, x.cells[j]? = some v → wy.cell? ⟨XB, j, none⟩ = some v) := Lib.hid fun j v hj => (bXy.cell j).trans hj
                            have HY : Hid (∀ j v, y.cells[j]? = some v → wy.cell? ⟨YB, j, none⟩ = some v) := Lib.hid fun j v hj => (bY.cell j).trans hj
                            have lX := bXy.lt
                            have lY := bY.lt
                            refine wp_region_inv (R26J wy r8b r8o qb qo h7b h7o hab hao hbb hbo ai i b j (.slice (some ⟨h7b, h7o, none⟩) u.graphs.length hc7) (.slice (some ⟨r8b, r8o, none⟩) u.graphs.length rc8) (.slice (some ⟨qb, qo, none⟩) gb.nodes.length qc) (.slice (some ⟨hab, hao, none⟩) g.nodes.length hac) (.slice (some ⟨hbb, hbo, none⟩) gb.nodes.length hbc) va vb x y r a0) (by kernel_rfl) (by kernel_rfl) ?start ?steps ?done
                            case start =>
                              refine { fr := Fr.refl _ _, below := (Below.refl _ wy).drew, s0 := ?_, s1 := ?_, s2 := ?_, s3 := ?_, s4 := ?_, s5 := ?_, s6 := ?_, s7 := ?_, s8 := ?_, s9 := ?_, s10 := ?_, s11 := ?_, s12 := ?_, s13 := ?_, s14 := ?_, s15 := ?_, s16 := ?_, s17 := ?_, s18 := ?_, s19 := ?_, s20 := ?_, s21 := ?_, s22 := ?_, s23 := ?_, s24 := ?_, s25 := ?_, s26 := ?_, s27 := ?_ } <;> (intro hd; cases hd)
                            case steps =>
                              refine steps_all ?_
                              refine ⟨?_, ?_, ?_, ?_, ?_, ?_, ?_, ?_, ?_, ?_, ?_, ?_, ?_, ?_, ?_, ?_, ?_, ?_, ?_, ?_, ?_, ?_, ?_, ?_, ?_, ?_, ?_, ?_, trivial⟩
                              · -- 0
                                intro D a wx K hD hp h hK
                                refine step_wp rfl ?_
                                refine wp_move_at rfl ?_
                                rw [h.fr.eval (j := 8) (by decide), t8]
                                refine hK _ _ {
                                  fr := h.fr.put (by decide) _
                                  below := h.below
                                  s0 := fun _ => h.fr.eval_put (by rw [hsz]; decide) _
                                  s1 := by simpa [upD, eval_put_ne, put_none] using h.s1
                                  s2 := by simpa [upD, eval_put_ne, put_none] using h.s2
                                  s3 := by simpa [upD, eval_put_ne, put_none] using h.s3
                                  s4 := by simpa [upD, eval_put_ne, put_none] using h.s4
                                  s5 := by simpa [upD, eval_put_ne, put_none] using h.s5
                                  s6 := by simpa [upD, eval_put_ne, put_none] using h.s6
                                  s7 := by simpa [upD, eval_put_ne, put_none] using h.s7
                                  s8 := by simpa [upD, eval_put_ne, put_none] using h.s8
                                  s9 := by simpa [upD, eval_put_ne, put_none] using h.s9
                                  s10 := by simpa [upD, eval_put_ne, put_none] using h.s10
                                  s11 := by simpa [upD, eval_put_ne, put_none] using h.s11
                                  s12 := by simpa [upD, eval_put_ne, put_none] using h.s12
                                  s13 := by simpa [upD, eval_put_ne, put_none] using h.s13
                                  s14 := by simpa [upD, eval_put_ne, put_none] using h.s14
                                  s15 := by simpa [upD, eval_put_ne, put_none] using h.s15
                                  s16 := by simpa [upD, eval_put_ne, put_none] using h.s16
                                  s17 := by simpa [upD, eval_put_ne, put_none] using h.s17
                                  s18 := by simpa [upD, eval_put_ne, put_none] using h.s18
                                  s19 := by simpa [upD, eval_put_ne, put_none] using h.s19
                                  s20 := by simpa [upD, eval_put_ne, put_none] using h.s20
                                  s21 := by simpa [upD, eval_put_ne, put_none] using h.s21
                                  s22 := by simpa [upD, eval_put_ne, put_none] using h.s22
                                  s23 := by simpa [upD, eval_put_ne, put_none] using h.s23
                                  s24 := by simpa [upD, eval_put_ne, put_none] using h.s24
                                  s25 := by simpa [upD, eval_put_ne, put_none] using h.s25
                                  s26 := by simpa [upD, eval_put_ne, put_none] using h.s26
                                  s27 := by simpa [upD, eval_put_ne, put_none] using h.s27 }
                              · -- 1
                                intro D a wx K hD hp h hK
                                refine step_wp rfl ?_
                                refine wp_move_at rfl ?_
                                rw [h.fr.eval (j := 17) (by decide), t17]
                                refine hK _ _ {
                                  fr := h.fr.put (by decide) _
                                  below := h.below
                                  s1 := fun _ => h.fr.eval_put (by rw [hsz]; decide) _
                                  s0 := by simpa [upD, eval_put_ne, put_none] using h.s0
                                  s2 := by simpa [upD, eval_put_ne, put_none] using h.s2
                                  s3 := by simpa [upD, eval_put_ne, put_none] using h.s3
                                  s4 := by simpa [upD, eval_put_ne, put_none] using h.s4
                                  s5 := by simpa [upD, eval_put_ne, put_none] using h.s5
                                  s6 := by simpa [upD, eval_put_ne, put_none] using h.s6
                                  s7 := by simpa [upD, eval_put_ne, put_none] using h.s7
                                  s8 := by simpa [upD, eval_put_ne, put_none] using h.s8
                                  s9 := by simpa [upD, eval_put_ne, put_none] using h.s9
                                  s10 := by simpa [upD, eval_put_ne, put_none] using h.s10
                                  s11 := by simpa [upD, eval_put_ne, put_none] using h.s11
                                  s12 := by simpa [upD, eval_put_ne, put_none] using h.s12
                                  s13 := by simpa [upD, eval_put_ne, put_none] using h.s13
                                  s14 := by simpa [upD, eval_put_ne, put_none] using h.s14
                                  s15 := by simpa [upD, eval_put_ne, put_none] using h.s15
                                  s16 := by simpa [upD, eval_put_ne, put_none] using h.s16
                                  s17 := by simpa [upD, eval_put_ne, put_none] using h.s17
                                  s18 := by simpa [upD, eval_put_ne, put_none] using h.s18
                                  s19 := by simpa [upD, eval_put_ne, put_none] using h.s19
                                  s20 := by simpa [upD, eval_put_ne, put_none] using h.s20
                                  s21 := by simpa [upD, eval_put_ne, put_none] using h.s21
                                  s22 := by simpa [upD, eval_put_ne, put_none] using h.s22
                                  s23 := by simpa [upD, eval_put_ne, put_none] using h.s23
                                  s24 := by simpa [upD, eval_put_ne, put_none] using h.s24
                                  s25 := by simpa [upD, eval_put_ne, put_none] using h.s25
                                  s26 := by simpa [upD, eval_put_ne, put_none] using h.s26
                                  s27 := by simpa [upD, eval_put_ne, put_none] using h.s27 }
                              · -- 2
                                intro D a wx K hD hp h hK
                                refine step_wp rfl ?_
                                have q0 := h.s0 (hp 0 (by decide))
                                have q1 := h.s1 (hp 1 (by decide))
                                refine wp_val_at (.pointer (some ⟨r8b, r8o + b, none⟩)) (by generalize a.eval = ρ at *; go_simp) ?_
                                refine hK _ _ {
                                  fr := h.fr.put (by decide) _
                                  below := h.below
                                  s2 := fun _ => h.fr.eval_put (by rw [hsz]; decide) _
                                  s0 := by simpa [upD, eval_put_ne, put_none] using h.s0
                                  s1 := by simpa [upD, eval_put_ne, put_none] using h.s1
                                  s3 := by simpa [upD, eval_put_ne, put_none] using h.s3
                                  s4 := by simpa [upD, eval_put_ne, put_none] using h.s4
                                  s5 := by simpa [upD, eval_put_ne, put_none] using h.s5
                                  s6 := by simpa [upD, eval_put_ne, put_none] using h.s6
                                  s7 := by simpa [upD, eval_put_ne, put_none] using h.s7
                                  s8 := by simpa [upD, eval_put_ne, put_none] using h.s8
                                  s9 := by simpa [upD, eval_put_ne, put_none] using h.s9
                                  s10 := by simpa [upD, eval_put_ne, put_none] using h.s10
                                  s11 := by simpa [upD, eval_put_ne, put_none] using h.s11
                                  s12 := by simpa [upD, eval_put_ne, put_none] using h.s12
                                  s13 := by simpa [upD, eval_put_ne, put_none] using h.s13
                                  s14 := by simpa [upD, eval_put_ne, put_none] using h.s14
                                  s15 := by simpa [upD, eval_put_ne, put_none] using h.s15
                                  s16 := by simpa [upD, eval_put_ne, put_none] using h.s16
                                  s17 := by simpa [upD, eval_put_ne, put_none] using h.s17
                                  s18 := by simpa [upD, eval_put_ne, put_none] using h.s18
                                  s19 := by simpa [upD, eval_put_ne, put_none] using h.s19
                                  s20 := by simpa [upD, eval_put_ne, put_none] using h.s20
                                  s21 := by simpa [upD, eval_put_ne, put_none] using h.s21
                                  s22 := by simpa [upD, eval_put_ne, put_none] using h.s22
                                  s23 := by simpa [upD, eval_put_ne, put_none] using h.s23
                                  s24 := by simpa [upD, eval_put_ne, put_none] using h.s24
                                  s25 := by simpa [upD, eval_put_ne, put_none] using h.s25
                                  s26 := by simpa [upD, eval_put_ne, put_none] using h.s26
                                  s27 := by simpa [upD, eval_put_ne, put_none] using h.s27 }
                              · -- 3
                                intro D a wx K hD hp h hK
                                refine step_wp rfl ?_
                                have q0 := h.s2 (hp 2 (by decide))
                                have z0 := (h.below.cell (p := ⟨r8b, r8o + b, none⟩) L2.out).trans C2.out
                                refine wp_val_at (.slice (some ⟨qb, qo, none⟩) gb.nodes.length qc) (by generalize a.eval = ρ at *; go_simp) ?_
                                refine hK _ _ {
                                  fr := h.fr.put (by decide) _
                                  below := h.below
                                  s3 := fun _ => h.fr.eval_put (by rw [hsz]; decide) _
                                  s0 := by simpa [upD, eval_put_ne, put_none] using h.s0
                                  s1 := by simpa [upD, eval_put_ne, put_none] using h.s1
                                  s2 := by simpa [upD, eval_put_ne, put_none] using h.s2
                                  s4 := by simpa [upD, eval_put_ne, put_none] using h.s4
                                  s5 := by simpa [upD, eval_put_ne, put_none] using h.s5
                                  s6 := by simpa [upD, eval_put_ne, put_none] using h.s6
                                  s7 := by simpa [upD, eval_put_ne, put_none] using h.s7
                                  s8 := by simpa [upD, eval_put_ne, put_none] using h.s8
                                  s9 := by simpa [upD, eval_put_ne, put_none] using h.s9
                                  s10 := by simpa [upD, eval_put_ne, put_none] using h.s10
                                  s11 := by simpa [upD, eval_put_ne, put_none] using h.s11
                                  s12 := by simpa [upD, eval_put_ne, put_none] using h.s12
                                  s13 := by simpa [upD, eval_put_ne, put_none] using h.s13
                                  s14 := by simpa [upD, eval_put_ne, put_none] using h.s14
                                  s15 := by simpa [upD, eval_put_ne, put_none] using h.s15
                                  s16 := by simpa [upD, eval_put_ne, put_none] using h.s16
                                  s17 := by simpa [upD, eval_put_ne, put_none] using h.s17
                                  s18 := by simpa [upD, eval_put_ne, put_none] using h.s18
                                  s19 := by simpa [upD, eval_put_ne, put_none] using h.s19
                                  s20 := by simpa [upD, eval_put_ne, put_none] using h.s20
                                  s21 := by simpa [upD, eval_put_ne, put_none] using h.s21
                                  s22 := by simpa [upD, eval_put_ne, put_none] using h.s22
                                  s23 := by simpa [upD, eval_put_ne, put_none] using h.s23
                                  s24 := by simpa [upD, eval_put_ne, put_none] using h.s24
                                  s25 := by simpa [upD, eval_put_ne, put_none] using h.s25
                                  s26 := by simpa [upD, eval_put_ne, put_none] using h.s26
                                  s27 := by simpa [upD, eval_put_ne, put_none] using h.s27 }
                              · -- 4
                                intro D a wx K hD hp h hK
                                refine step_wp rfl ?_
                                refine wp_move_at rfl ?_
                                rw [h.fr.eval (j := 18) (by decide), t18]
                                refine hK _ _ {
                                  fr := h.fr.put (by decide) _
                                  below := h.below
                                  s4 := fun _ => h.fr.eval_put (by rw [hsz]; decide) _
                                  s0 := by simpa [upD, eval_put_ne, put_none] using h.s0
                                  s1 := by simpa [upD, eval_put_ne, put_none] using h.s1
                                  s2 := by simpa [upD, eval_put_ne, put_none] using h.s2
                                  s3 := by simpa [upD, eval_put_ne, put_none] using h.s3
                                  s5 := by simpa [upD, eval_put_ne, put_none] using h.s5
                                  s6 := by simpa [upD, eval_put_ne, put_none] using h.s6
                                  s7 := by simpa [upD, eval_put_ne, put_none] using h.s7
                                  s8 := by simpa [upD, eval_put_ne, put_none] using h.s8
                                  s9 := by simpa [upD, eval_put_ne, put_none] using h.s9
                                  s10 := by simpa [upD, eval_put_ne, put_none] using h.s10
                                  s11 := by simpa [upD, eval_put_ne, put_none] using h.s11
                                  s12 := by simpa [upD, eval_put_ne, put_none] using h.s12
                                  s13 := by simpa [upD, eval_put_ne, put_none] using h.s13
                                  s14 := by simpa [upD, eval_put_ne, put_none] using h.s14
                                  s15 := by simpa [upD, eval_put_ne, put_none] using h.s15
                                  s16 := by simpa [upD, eval_put_ne, put_none] using h.s16
                                  s17 := by simpa [upD, eval_put_ne, put_none] using h.s17
                                  s18 := by simpa [upD, eval_put_ne, put_none] using h.s18
                                  s19 := by simpa [upD, eval_put_ne, put_none] using h.s19
                                  s20 := by simpa [upD, eval_put_ne, put_none] using h.s20
                                  s21 := by simpa [upD, eval_put_ne, put_none] using h.s21
                                  s22 := by simpa [upD, eval_put_ne, put_none] using h.s22
                                  s23 := by simpa [upD, eval_put_ne, put_none] using h.s23
                                  s24 := by simpa [upD, eval_put_ne, put_none] using h.s24
                                  s25 := by simpa [upD, eval_put_ne, put_none] using h.s25
                                  s26 := by simpa [upD, eval_put_ne, put_none] using h.s26
                                  s27 := by simpa [upD, eval_put_ne, put_none] using h.s27 }
                              · -- 5
                                intro D a wx K hD hp h hK
                                refine step_wp rfl ?_
                                have q0 := h.s3 (hp 3 (by decide))
                                have q1 := h.s4 (hp 4 (by decide))
                                refine wp_val_at (.pointer (some ⟨qb, qo + j, none⟩)) (by generalize a.eval = ρ at *; go_simp) ?_
                                refine hK _ _ {
                                  fr := h.fr.put (by decide) _
                                  below := h.below
                                  s5 := fun _ => h.fr.eval_put (by rw [hsz]; decide) _
                                  s0 := by simpa [upD, eval_put_ne, put_none] using h.s0
                                  s1 := by simpa [upD, eval_put_ne, put_none] using h.s1
                                  s2 := by simpa [upD, eval_put_ne, put_none] using h.s2
                                  s3 := by simpa [upD, eval_put_ne, put_none] using h.s3
                                  s4 := by simpa [upD, eval_put_ne, put_none] using h.s4
                                  s6 := by simpa [upD, eval_put_ne, put_none] using h.s6
                                  s7 := by simpa [upD, eval_put_ne, put_none] using h.s7
                                  s8 := by simpa [upD, eval_put_ne, put_none] using h.s8
                                  s9 := by simpa [upD, eval_put_ne, put_none] using h.s9
                                  s10 := by simpa [upD, eval_put_ne, put_none] using h.s10
                                  s11 := by simpa [upD, eval_put_ne, put_none] using h.s11
                                  s12 := by simpa [upD, eval_put_ne, put_none] using h.s12
                                  s13 := by simpa [upD, eval_put_ne, put_none] using h.s13
                                  s14 := by simpa [upD, eval_put_ne, put_none] using h.s14
                                  s15 := by simpa [upD, eval_put_ne, put_none] using h.s15
                                  s16 := by simpa [upD, eval_put_ne, put_none] using h.s16
                                  s17 := by simpa [upD, eval_put_ne, put_none] using h.s17
                                  s18 := by simpa [upD, eval_put_ne, put_none] using h.s18
                                  s19 := by simpa [upD, eval_put_ne, put_none] using h.s19
                                  s20 := by simpa [upD, eval_put_ne, put_none] using h.s20
                                  s21 := by simpa [upD, eval_put_ne, put_none] using h.s21
                                  s22 := by simpa [upD, eval_put_ne, put_none] using h.s22
                                  s23 := by simpa [upD, eval_put_ne, put_none] using h.s23
                                  s24 := by simpa [upD, eval_put_ne, put_none] using h.s24
                                  s25 := by simpa [upD, eval_put_ne, put_none] using h.s25
                                  s26 := by simpa [upD, eval_put_ne, put_none] using h.s26
                                  s27 := by simpa [upD, eval_put_ne, put_none] using h.s27 }
                              · -- 6
                                intro D a wx K hD hp h hK
                                refine step_wp rfl ?_
                                have q0 := h.s5 (hp 5 (by decide))
                                have z0 := (h.below.cell (p := ⟨qb, qo + j, none⟩) L5.out).trans C5.out
                                refine wp_val_at (.bool true) (by generalize a.eval = ρ at *; go_simp) ?_
                                refine hK _ _ {
                                  fr := h.fr.put (by decide) _
                                  below := h.below
                                  s6 := fun _ => h.fr.eval_put (by rw [hsz]; decide) _
                                  s0 := by simpa [upD, eval_put_ne, put_none] using h.s0
                                  s1 := by simpa [upD, eval_put_ne, put_none] using h.s1
                                  s2 := by simpa [upD, eval_put_ne, put_none] using h.s2
                                  s3 := by simpa [upD, eval_put_ne, put_none] using h.s3
                                  s4 := by simpa [upD, eval_put_ne, put_none] using h.s4
                                  s5 := by simpa [upD, eval_put_ne, put_none] using h.s5
                                  s7 := by simpa [upD, eval_put_ne, put_none] using h.s7
                                  s8 := by simpa [upD, eval_put_ne, put_none] using h.s8
                                  s9 := by simpa [upD, eval_put_ne, put_none] using h.s9
                                  s10 := by simpa [upD, eval_put_ne, put_none] using h.s10
                                  s11 := by simpa [upD, eval_put_ne, put_none] using h.s11
                                  s12 := by simpa [upD, eval_put_ne, put_none] using h.s12
                                  s13 := by simpa [upD, eval_put_ne, put_none] using h.s13
                                  s14 := by simpa [upD, eval_put_ne, put_none] using h.s14
                                  s15 := by simpa [upD, eval_put_ne, put_none] using h.s15
                                  s16 := by simpa [upD, eval_put_ne, put_none] using h.s16
                                  s17 := by simpa [upD, eval_put_ne, put_none] using h.s17
                                  s18 := by simpa [upD, eval_put_ne, put_none] using h.s18
                                  s19 := by simpa [upD, eval_put_ne, put_none] using h.s19
                                  s20 := by simpa [upD, eval_put_ne, put_none] using h.s20
                                  s21 := by simpa [upD, eval_put_ne, put_none] using h.s21
                                  s22 := by simpa [upD, eval_put_ne, put_none] using h.s22
                                  s23 := by simpa [upD, eval_put_ne, put_none] using h.s23
                                  s24 := by simpa [upD, eval_put_ne, put_none] using h.s24
                                  s25 := by simpa [upD, eval_put_ne, put_none] using h.s25
                                  s26 := by simpa [upD, eval_put_ne, put_none] using h.s26
                                  s27 := by simpa [upD, eval_put_ne, put_none] using h.s27 }
                              · -- 7
                                intro D a wx K hD hp h hK
                                refine step_wp rfl ?_
                                have q0 := h.s6 (hp 6 (by decide))
                                refine wp_val_at (.bool false) (by generalize a.eval = ρ at *; go_simp) ?_
                                refine hK _ _ {
                                  fr := h.fr.put (by decide) _
                                  below := h.below
                                  s7 := fun _ => h.fr.eval_put (by rw [hsz]; decide) _
                                  s0 := by simpa [upD, eval_put_ne, put_none] using h.s0
                                  s1 := by simpa [upD, eval_put_ne, put_none] using h.s1
                                  s2 := by simpa [upD, eval_put_ne, put_none] using h.s2
                                  s3 := by simpa [upD, eval_put_ne, put_none] using h.s3
                                  s4 := by simpa [upD, eval_put_ne, put_none] using h.s4
                                  s5 := by simpa [upD, eval_put_ne, put_none] using h.s5
                                  s6 := by simpa [upD, eval_put_ne, put_none] using h.s6
                                  s8 := by simpa [upD, eval_put_ne, put_none] using h.s8
                                  s9 := by simpa [upD, eval_put_ne, put_none] using h.s9
                                  s10 := by simpa [upD, eval_put_ne, put_none] using h.s10
                                  s11 := by simpa [upD, eval_put_ne, put_none] using h.s11
                                  s12 := by simpa [upD, eval_put_ne, put_none] using h.s12
                                  s13 := by simpa [upD, eval_put_ne, put_none] using h.s13
                                  s14 := by simpa [upD, eval_put_ne, put_none] using h.s14
                                  s15 := by simpa [upD, eval_put_ne, put_none] using h.s15
                                  s16 := by simpa [upD, eval_put_ne, put_none] using h.s16
                                  s17 := by simpa [upD, eval_put_ne, put_none] using h.s17
                                  s18 := by simpa [upD, eval_put_ne, put_none] using h.s18
                                  s19 := by simpa [upD, eval_put_ne, put_none] using h.s19
                                  s20 := by simpa [upD, eval_put_ne, put_none] using h.s20
                                  s21 := by simpa [upD, eval_put_ne, put_none] using h.s21
                                  s22 := by simpa [upD, eval_put_ne, put_none] using h.s22
                                  s23 := by simpa [upD, eval_put_ne, put_none] using h.s23
                                  s24 := by simpa [upD, eval_put_ne, put_none] using h.s24
                                  s25 := by simpa [upD, eval_put_ne, put_none] using h.s25
                                  s26 := by simpa [upD, eval_put_ne, put_none] using h.s26
                                  s27 := by simpa [upD, eval_put_ne, put_none] using h.s27 }
                              · -- 8
                                intro D a wx K hD hp h hK
                                refine step_wp rfl ?_
                                refine wp_move_at rfl ?_
                                rw [h.s7 (hp 7 (by decide))]
                                refine hK _ _ {
                                  fr := h.fr.put (by decide) _
                                  below := h.below
                                  s8 := fun _ => h.fr.eval_put (by rw [hsz]; decide) _
                                  s0 := by simpa [upD, eval_put_ne, put_none] using h.s0
                                  s1 := by simpa [upD, eval_put_ne, put_none] using h.s1
                                  s2 := by simpa [upD, eval_put_ne, put_none] using h.s2
                                  s3 := by simpa [upD, eval_put_ne, put_none] using h.s3
                                  s4 := by simpa [upD, eval_put_ne, put_none] using h.s4
                                  s5 := by simpa [upD, eval_put_ne, put_none] using h.s5
                                  s6 := by simpa [upD, eval_put_ne, put_none] using h.s6
                                  s7 := by simpa [upD, eval_put_ne, put_none] using h.s7
                                  s9 := by simpa [upD, eval_put_ne, put_none] using h.s9
                                  s10 := by simpa [upD, eval_put_ne, put_none] using h.s10
                                  s11 := by simpa [upD, eval_put_ne, put_none] using h.s11
                                  s12 := by simpa [upD, eval_put_ne, put_none] using h.s12
                                  s13 := by simpa [upD, eval_put_ne, put_none] using h.s13
                                  s14 := by simpa [upD, eval_put_ne, put_none] using h.s14
                                  s15 := by simpa [upD, eval_put_ne, put_none] using h.s15
                                  s16 := by simpa [upD, eval_put_ne, put_none] using h.s16
                                  s17 := by simpa [upD, eval_put_ne, put_none] using h.s17
                                  s18 := by simpa [upD, eval_put_ne, put_none] using h.s18
                                  s19 := by simpa [upD, eval_put_ne, put_none] using h.s19
                                  s20 := by simpa [upD, eval_put_ne, put_none] using h.s20
                                  s21 := by simpa [upD, eval_put_ne, put_none] using h.s21
                                  s22 := by simpa [upD, eval_put_ne, put_none] using h.s22
                                  s23 := by simpa [upD, eval_put_ne, put_none] using h.s23
                                  s24 := by simpa [upD, eval_put_ne, put_none] using h.s24
                                  s25 := by simpa [upD, eval_put_ne, put_none] using h.s25
                                  s26 := by simpa [upD, eval_put_ne, put_none] using h.s26
                                  s27 := by simpa [upD, eval_put_ne, put_none] using h.s27 }
                              · -- 9
                                intro D a wx K hD hp h hK
                                refine step_wp_g rfl rfl (h.s8 (hp 8 (by decide))) ?_
                                refine wp_load_at 67 _ rfl XB 0 ((h.fr.eval (j := 16) (by decide)).trans t16) x.cells _ (fun j' v hj => by rw [Nat.zero_add]; exact (h.below.cell (p := ⟨XB, j', none⟩) lX).trans (HX.out j' v hj)) Try.underlying67 rfl (by kernel_rfl) ?_
                                refine hK _ _ {
                                  fr := h.fr.put (by decide) _
                                  below := h.below
                                  s9 := fun _ => h.fr.eval_put (by rw [hsz]; decide) _
                                  s0 := by simpa [upD, eval_put_ne, put_none] using h.s0
                                  s1 := by simpa [upD, eval_put_ne, put_none] using h.s1
                                  s2 := by simpa [upD, eval_put_ne, put_none] using h.s2
                                  s3 := by simpa [upD, eval_put_ne, put_none] using h.s3
                                  s4 := by simpa [upD, eval_put_ne, put_none] using h.s4
                                  s5 := by simpa [upD, eval_put_ne, put_none] using h.s5
                                  s6 := by simpa [upD, eval_put_ne, put_none] using h.s6
                                  s7 := by simpa [upD, eval_put_ne, put_none] using h.s7
                                  s8 := by simpa [upD, eval_put_ne, put_none] using h.s8
                                  s10 := by simpa [upD, eval_put_ne, put_none] using h.s10
                                  s11 := by simpa [upD, eval_put_ne, put_none] using h.s11
                                  s12 := by simpa [upD, eval_put_ne, put_none] using h.s12
                                  s13 := by simpa [upD, eval_put_ne, put_none] using h.s13
                                  s14 := by simpa [upD, eval_put_ne, put_none] using h.s14
                                  s15 := by simpa [upD, eval_put_ne, put_none] using h.s15
                                  s16 := by simpa [upD, eval_put_ne, put_none] using h.s16
                                  s17 := by simpa [upD, eval_put_ne, put_none] using h.s17
                                  s18 := by simpa [upD, eval_put_ne, put_none] using h.s18
                                  s19 := by simpa [upD, eval_put_ne, put_none] using h.s19
                                  s20 := by simpa [upD, eval_put_ne, put_none] using h.s20
                                  s21 := by simpa [upD, eval_put_ne, put_none] using h.s21
                                  s22 := by simpa [upD, eval_put_ne, put_none] using h.s22
                                  s23 := by simpa [upD, eval_put_ne, put_none] using h.s23
                                  s24 := by simpa [upD, eval_put_ne, put_none] using h.s24
                                  s25 := by simpa [upD, eval_put_ne, put_none] using h.s25
                                  s26 := by simpa [upD, eval_put_ne, put_none] using h.s26
                                  s27 := by simpa [upD, eval_put_ne, put_none] using h.s27 }
                              · -- 10
                                intro D a wx K hD hp h hK
                                refine step_wp_g rfl rfl (h.s8 (hp 8 (by decide))) ?_
                                refine wp_load_at 67 _ rfl YB 0 ((h.fr.eval (j := 19) (by decide)).trans t19) y.cells _ (fun j' v hj => by rw [Nat.zero_add]; exact (h.below.cell (p := ⟨YB, j', none⟩) lY).trans (HY.out j' v hj)) Try.underlying67 rfl (by kernel_rfl) ?_
                                refine hK _ _ {
                                  fr := h.fr.put (by decide) _
                                  below := h.below
                                  s10 := fun _ => h.fr.eval_put (by rw [hsz]; decide) _
                                  s0 := by simpa [upD, eval_put_ne, put_none] using h.s0
                                  s1 := by simpa [upD, eval_put_ne, put_none] using h.s1
                                  s2 := by simpa [upD, eval_put_ne, put_none] using h.s2
                                  s3 := by simpa [upD, eval_put_ne, put_none] using h.s3
                                  s4 := by simpa [upD, eval_put_ne, put_none] using h.s4
                                  s5 := by simpa [upD, eval_put_ne, put_none] using h.s5
                                  s6 := by simpa [upD, eval_put_ne, put_none] using h.s6
                                  s7 := by simpa [upD, eval_put_ne, put_none] using h.s7
                                  s8 := by simpa [upD, eval_put_ne, put_none] using h.s8
                                  s9 := by simpa [upD, eval_put_ne, put_none] using h.s9
                                  s11 := by simpa [upD, eval_put_ne, put_none] using h.s11
                                  s12 := by simpa [upD, eval_put_ne, put_none] using h.s12
                                  s13 := by simpa [upD, eval_put_ne, put_none] using h.s13
                                  s14 := by simpa [upD, eval_put_ne, put_none] using h.s14
                                  s15 := by simpa [upD, eval_put_ne, put_none] using h.s15
                                  s16 := by simpa [upD, eval_put_ne, put_none] using h.s16
                                  s17 := by simpa [upD, eval_put_ne, put_none] using h.s17
                                  s18 := by simpa [upD, eval_put_ne, put_none] using h.s18
                                  s19 := by simpa [upD, eval_put_ne, put_none] using h.s19
                                  s20 := by simpa [upD, eval_put_ne, put_none] using h.s20
                                  s21 := by simpa [upD, eval_put_ne, put_none] using h.s21
                                  s22 := by simpa [upD, eval_put_ne, put_none] using h.s22
                                  s23 := by simpa [upD, eval_put_ne, put_none] using h.s23
                                  s24 := by simpa [upD, eval_put_ne, put_none] using h.s24
                                  s25 := by simpa [upD, eval_put_ne, put_none] using h.s25
                                  s26 := by simpa [upD, eval_put_ne, put_none] using h.s26
                                  s27 := by simpa [upD, eval_put_ne, put_none] using h.s27 }
                              · -- 11
                                intro D a wx K hD hp h hK
                                refine step_wp_g rfl rfl (h.s8 (hp 8 (by decide))) ?_
                                refine wp_move_at rfl ?_
                                rw [h.fr.eval (j := 7) (by decide), t7]
                                refine hK _ _ {
                                  fr := h.fr.put (by decide) _
                                  below := h.below
                                  s11 := fun _ => h.fr.eval_put (by rw [hsz]; decide) _
                                  s0 := by simpa [upD, eval_put_ne, put_none] using h.s0
                                  s1 := by simpa [upD, eval_put_ne, put_none] using h.s1
                                  s2 := by simpa [upD, eval_put_ne, put_none] using h.s2
                                  s3 := by simpa [upD, eval_put_ne, put_none] using h.s3
                                  s4 := by simpa [upD, eval_put_ne, put_none] using h.s4
                                  s5 := by simpa [upD, eval_put_ne, put_none] using h.s5
                                  s6 := by simpa [upD, eval_put_ne, put_none] using h.s6
                                  s7 := by simpa [upD, eval_put_ne, put_none] using h.s7
                                  s8 := by simpa [upD, eval_put_ne, put_none] using h.s8
                                  s9 := by simpa [upD, eval_put_ne, put_none] using h.s9
                                  s10 := by simpa [upD, eval_put_ne, put_none] using h.s10
                                  s12 := by simpa [upD, eval_put_ne, put_none] using h.s12
                                  s13 := by simpa [upD, eval_put_ne, put_none] using h.s13
                                  s14 := by simpa [upD, eval_put_ne, put_none] using h.s14
                                  s15 := by simpa [upD, eval_put_ne, put_none] using h.s15
                                  s16 := by simpa [upD, eval_put_ne, put_none] using h.s16
                                  s17 := by simpa [upD, eval_put_ne, put_none] using h.s17
                                  s18 := by simpa [upD, eval_put_ne, put_none] using h.s18
                                  s19 := by simpa [upD, eval_put_ne, put_none] using h.s19
                                  s20 := by simpa [upD, eval_put_ne, put_none] using h.s20
                                  s21 := by simpa [upD, eval_put_ne, put_none] using h.s21
                                  s22 := by simpa [upD, eval_put_ne, put_none] using h.s22
                                  s23 := by simpa [upD, eval_put_ne, put_none] using h.s23
                                  s24 := by simpa [upD, eval_put_ne, put_none] using h.s24
                                  s25 := by simpa [upD, eval_put_ne, put_none] using h.s25
                                  s26 := by simpa [upD, eval_put_ne, put_none] using h.s26
                                  s27 := by simpa [upD, eval_put_ne, put_none] using h.s27 }
                              · -- 12
                                intro D a wx K hD hp h hK
                                refine step_wp_g rfl rfl (h.s8 (hp 8 (by decide))) ?_
                                refine wp_move_at rfl ?_
                                rw [h.fr.eval (j := 14) (by decide), t14]
                                refine hK _ _ {
                                  fr := h.fr.put (by decide) _
                                  below := h.below
                                  s12 := fun _ => h.fr.eval_put (by rw [hsz]; decide) _
                                  s0 := by simpa [upD, eval_put_ne, put_none] using h.s0
                                  s1 := by simpa [upD, eval_put_ne, put_none] using h.s1
                                  s2 := by simpa [upD, eval_put_ne, put_none] using h.s2
                                  s3 := by simpa [upD, eval_put_ne, put_none] using h.s3
                                  s4 := by simpa [upD, eval_put_ne, put_none] using h.s4
                                  s5 := by simpa [upD, eval_put_ne, put_none] using h.s5
                                  s6 := by simpa [upD, eval_put_ne, put_none] using h.s6
                                  s7 := by simpa [upD, eval_put_ne, put_none] using h.s7
                                  s8 := by simpa [upD, eval_put_ne, put_none] using h.s8
                                  s9 := by simpa [upD, eval_put_ne, put_none] using h.s9
                                  s10 := by simpa [upD, eval_put_ne, put_none] using h.s10
                                  s11 := by simpa [upD, eval_put_ne, put_none] using h.s11
                                  s13 := by simpa [upD, eval_put_ne, put_none] using h.s13
                                  s14 := by simpa [upD, eval_put_ne, put_none] using h.s14
                                  s15 := by simpa [upD, eval_put_ne, put_none] using h.s15
                                  s16 := by simpa [upD, eval_put_ne, put_none] using h.s16
                                  s17 := by simpa [upD, eval_put_ne, put_none] using h.s17
                                  s18 := by simpa [upD, eval_put_ne, put_none] using h.s18
                                  s19 := by simpa [upD, eval_put_ne, put_none] using h.s19
                                  s20 := by simpa [upD, eval_put_ne, put_none] using h.s20
                                  s21 := by simpa [upD, eval_put_ne, put_none] using h.s21
                                  s22 := by simpa [upD, eval_put_ne, put_none] using h.s22
                                  s23 := by simpa [upD, eval_put_ne, put_none] using h.s23
                                  s24 := by simpa [upD, eval_put_ne, put_none] using h.s24
                                  s25 := by simpa [upD, eval_put_ne, put_none] using h.s25
                                  s26 := by simpa [upD, eval_put_ne, put_none] using h.s26
                                  s27 := by simpa [upD, eval_put_ne, put_none] using h.s27 }
                              · -- 13
                                intro D a wx K hD hp h hK
                                refine step_wp_g rfl rfl (h.s8 (hp 8 (by decide))) ?_
                                have q0 := h.s11 (hp 11 (by decide))
                                have q1 := h.s12 (hp 12 (by decide))
                                refine wp_val_at (.pointer (some ⟨h7b, h7o + ai, none⟩)) (by generalize a.eval = ρ at *; go_simp) ?_
                                refine hK _ _ {
                                  fr := h.fr.put (by decide) _
                                  below := h.below
                                  s13 := fun _ => h.fr.eval_put (by rw [hsz]; decide) _
                                  s0 := by simpa [upD, eval_put_ne, put_none] using h.s0
                                  s1 := by simpa [upD, eval_put_ne, put_none] using h.s1
                                  s2 := by simpa [upD, eval_put_ne, put_none] using h.s2
                                  s3 := by simpa [upD, eval_put_ne, put_none] using h.s3
                                  s4 := by simpa [upD, eval_put_ne, put_none] using h.s4
                                  s5 := by simpa [upD, eval_put_ne, put_none] using h.s5
                                  s6 := by simpa [upD, eval_put_ne, put_none] using h.s6
                                  s7 := by simpa [upD, eval_put_ne, put_none] using h.s7
                                  s8 := by simpa [upD, eval_put_ne, put_none] using h.s8
                                  s9 := by simpa [upD, eval_put_ne, put_none] using h.s9
                                  s10 := by simpa [upD, eval_put_ne, put_none] using h.s10
                                  s11 := by simpa [upD, eval_put_ne, put_none] using h.s11
                                  s12 := by simpa [upD, eval_put_ne, put_none] using h.s12
                                  s14 := by simpa [upD, eval_put_ne, put_none] using h.s14
                                  s15 := by simpa [upD, eval_put_ne, put_none] using h.s15
                                  s16 := by simpa [upD, eval_put_ne, put_none] using h.s16
                                  s17 := by simpa [upD, eval_put_ne, put_none] using h.s17
                                  s18 := by simpa [upD, eval_put_ne, put_none] using h.s18
                                  s19 := by simpa [upD, eval_put_ne, put_none] using h.s19
                                  s20 := by simpa [upD, eval_put_ne, put_none] using h.s20
                                  s21 := by simpa [upD, eval_put_ne, put_none] using h.s21
                                  s22 := by simpa [upD, eval_put_ne, put_none] using h.s22
                                  s23 := by simpa [upD, eval_put_ne, put_none] using h.s23
                                  s24 := by simpa [upD, eval_put_ne, put_none] using h.s24
                                  s25 := by simpa [upD, eval_put_ne, put_none] using h.s25
                                  s26 := by simpa [upD, eval_put_ne, put_none] using h.s26
                                  s27 := by simpa [upD, eval_put_ne, put_none] using h.s27 }
                              · -- 14
                                intro D a wx K hD hp h hK
                                refine step_wp_g rfl rfl (h.s8 (hp 8 (by decide))) ?_
                                have q0 := h.s13 (hp 13 (by decide))
                                have z0 := (h.below.cell (p := ⟨h7b, h7o + ai, none⟩) L13.out).trans C13.out
                                refine wp_val_at (.slice (some ⟨hab, hao, none⟩) g.nodes.length hac) (by generalize a.eval = ρ at *; go_simp) ?_
                                refine hK _ _ {
                                  fr := h.fr.put (by decide) _
                                  below := h.below
                                  s14 := fun _ => h.fr.eval_put (by rw [hsz]; decide) _
                                  s0 := by simpa [upD, eval_put_ne, put_none] using h.s0
                                  s1 := by simpa [upD, eval_put_ne, put_none] using h.s1
                                  s2 := by simpa [upD, eval_put_ne, put_none] using h.s2
                                  s3 := by simpa [upD, eval_put_ne, put_none] using h.s3
                                  s4 := by simpa [upD, eval_put_ne, put_none] using h.s4
                                  s5 := by simpa [upD, eval_put_ne, put_none] using h.s5
                                  s6 := by simpa [upD, eval_put_ne, put_none] using h.s6
                                  s7 := by simpa [upD, eval_put_ne, put_none] using h.s7
                                  s8 := by simpa [upD, eval_put_ne, put_none] using h.s8
                                  s9 := by simpa [upD, eval_put_ne, put_none] using h.s9
                                  s10 := by simpa [upD, eval_put_ne, put_none] using h.s10
                                  s11 := by simpa [upD, eval_put_ne, put_none] using h.s11
                                  s12 := by simpa [upD, eval_put_ne, put_none] using h.s12
                                  s13 := by simpa [upD, eval_put_ne, put_none] using h.s13
                                  s15 := by simpa [upD, eval_put_ne, put_none] using h.s15
                                  s16 := by simpa [upD, eval_put_ne, put_none] using h.s16
                                  s17 := by simpa [upD, eval_put_ne, put_none] using h.s17
                                  s18 := by simpa [upD, eval_put_ne, put_none] using h.s18
                                  s19 := by simpa [upD, eval_put_ne, put_none] using h.s19
                                  s20 := by simpa [upD, eval_put_ne, put_none] using h.s20
                                  s21 := by simpa [upD, eval_put_ne, put_none] using h.s21
                                  s22 := by simpa [upD, eval_put_ne, put_none] using h.s22
                                  s23 := by simpa [upD, eval_put_ne, put_none] using h.s23
                                  s24 := by simpa [upD, eval_put_ne, put_none] using h.s24
                                  s25 := by simpa [upD, eval_put_ne, put_none] using h.s25
                                  s26 := by simpa [upD, eval_put_ne, put_none] using h.s26
                                  s27 := by simpa [upD, eval_put_ne, put_none] using h.s27 }
                              · -- 15
                                intro D a wx K hD hp h hK
                                refine step_wp_g rfl rfl (h.s8 (hp 8 (by decide))) ?_
                                refine wp_move_at rfl ?_
                                rw [h.fr.eval (j := 15) (by decide), t15]
                                refine hK _ _ {
                                  fr := h.fr.put (by decide) _
                                  below := h.below
                                  s15 := fun _ => h.fr.eval_put (by rw [hsz]; decide) _
                                  s0 := by simpa [upD, eval_put_ne, put_none] using h.s0
                                  s1 := by simpa [upD, eval_put_ne, put_none] using h.s1
                                  s2 := by simpa [upD, eval_put_ne, put_none] using h.s2
                                  s3 := by simpa [upD, eval_put_ne, put_none] using h.s3
                                  s4 := by simpa [upD, eval_put_ne, put_none] using h.s4
                                  s5 := by simpa [upD, eval_put_ne, put_none] using h.s5
                                  s6 := by simpa [upD, eval_put_ne, put_none] using h.s6
                                  s7 := by simpa [upD, eval_put_ne, put_none] using h.s7
                                  s8 := by simpa [upD, eval_put_ne, put_none] using h.s8
                                  s9 := by simpa [upD, eval_put_ne, put_none] using h.s9
                                  s10 := by simpa [upD, eval_put_ne, put_none] using h.s10
                                  s11 := by simpa [upD, eval_put_ne, put_none] using h.s11
                                  s12 := by simpa [upD, eval_put_ne, put_none] using h.s12
                                  s13 := by simpa [upD, eval_put_ne, put_none] using h.s13
                                  s14 := by simpa [upD, eval_put_ne, put_none] using h.s14
                                  s16 := by simpa [upD, eval_put_ne, put_none] using h.s16
                                  s17 := by simpa [upD, eval_put_ne, put_none] using h.s17
                                  s18 := by simpa [upD, eval_put_ne, put_none] using h.s18
                                  s19 := by simpa [upD, eval_put_ne, put_none] using h.s19
                                  s20 := by simpa [upD, eval_put_ne, put_none] using h.s20
                                  s21 := by simpa [upD, eval_put_ne, put_none] using h.s21
                                  s22 := by simpa [upD, eval_put_ne, put_none] using h.s22
                                  s23 := by simpa [upD, eval_put_ne, put_none] using h.s23
                                  s24 := by simpa [upD, eval_put_ne, put_none] using h.s24
                                  s25 := by simpa [upD, eval_put_ne, put_none] using h.s25
                                  s26 := by simpa [upD, eval_put_ne, put_none] using h.s26
                                  s27 := by simpa [upD, eval_put_ne, put_none] using h.s27 }
                              · -- 16
                                intro D a wx K hD hp h hK
                                refine step_wp_g rfl rfl (h.s8 (hp 8 (by decide))) ?_
                                have q0 := h.s14 (hp 14 (by decide))
                                have q1 := h.s15 (hp 15 (by decide))
                                refine wp_val_at (.pointer (some ⟨hab, hao + i, none⟩)) (by generalize a.eval = ρ at *; go_simp) ?_
                                refine hK _ _ {
                                  fr := h.fr.put (by decide) _
                                  below := h.below
                                  s16 := fun _ => h.fr.eval_put (by rw [hsz]; decide) _
                                  s0 := by simpa [upD, eval_put_ne, put_none] using h.s0
                                  s1 := by simpa [upD, eval_put_ne, put_none] using h.s1
                                  s2 := by simpa [upD, eval_put_ne, put_none] using h.s2
                                  s3 := by simpa [upD, eval_put_ne, put_none] using h.s3
                                  s4 := by simpa [upD, eval_put_ne, put_none] using h.s4
                                  s5 := by simpa [upD, eval_put_ne, put_none] using h.s5
                                  s6 := by simpa [upD, eval_put_ne, put_none] using h.s6
                                  s7 := by simpa [upD, eval_put_ne, put_none] using h.s7
                                  s8 := by simpa [upD, eval_put_ne, put_none] using h.s8
                                  s9 := by simpa [upD, eval_put_ne, put_none] using h.s9
                                  s10 := by simpa [upD, eval_put_ne, put_none] using h.s10
                                  s11 := by simpa [upD, eval_put_ne, put_none] using h.s11
                                  s12 := by simpa [upD, eval_put_ne, put_none] using h.s12
                                  s13 := by simpa [upD, eval_put_ne, put_none] using h.s13
                                  s14 := by simpa [upD, eval_put_ne, put_none] using h.s14
                                  s15 := by simpa [upD, eval_put_ne, put_none] using h.s15
                                  s17 := by simpa [upD, eval_put_ne, put_none] using h.s17
                                  s18 := by simpa [upD, eval_put_ne, put_none] using h.s18
                                  s19 := by simpa [upD, eval_put_ne, put_none] using h.s19
                                  s20 := by simpa [upD, eval_put_ne, put_none] using h.s20
                                  s21 := by simpa [upD, eval_put_ne, put_none] using h.s21
                                  s22 := by simpa [upD, eval_put_ne, put_none] using h.s22
                                  s23 := by simpa [upD, eval_put_ne, put_none] using h.s23
                                  s24 := by simpa [upD, eval_put_ne, put_none] using h.s24
                                  s25 := by simpa [upD, eval_put_ne, put_none] using h.s25
                                  s26 := by simpa [upD, eval_put_ne, put_none] using h.s26
                                  s27 := by simpa [upD, eval_put_ne, put_none] using h.s27 }
                              · -- 17
                                intro D a wx K hD hp h hK
                                refine step_wp_g rfl rfl (h.s8 (hp 8 (by decide))) ?_
                                have q0 := h.s16 (hp 16 (by decide))
                                have z0 := (h.below.cell (p := ⟨hab, hao + i, none⟩) L16.out).trans C16.out
                                refine wp_val_at (va) (by generalize a.eval = ρ at *; go_simp) ?_
                                refine hK _ _ {
                                  fr := h.fr.put (by decide) _
                                  below := h.below
                                  s17 := fun _ => h.fr.eval_put (by rw [hsz]; decide) _
                                  s0 := by simpa [upD, eval_put_ne, put_none] using h.s0
                                  s1 := by simpa [upD, eval_put_ne, put_none] using h.s1
                                  s2 := by simpa [upD, eval_put_ne, put_none] using h.s2
                                  s3 := by simpa [upD, eval_put_ne, put_none] using h.s3
                                  s4 := by simpa [upD, eval_put_ne, put_none] using h.s4
                                  s5 := by simpa [upD, eval_put_ne, put_none] using h.s5
                                  s6 := by simpa [upD, eval_put_ne, put_none] using h.s6
                                  s7 := by simpa [upD, eval_put_ne, put_none] using h.s7
                                  s8 := by simpa [upD, eval_put_ne, put_none] using h.s8
                                  s9 := by simpa [upD, eval_put_ne, put_none] using h.s9
                                  s10 := by simpa [upD, eval_put_ne, put_none] using h.s10
                                  s11 := by simpa [upD, eval_put_ne, put_none] using h.s11
                                  s12 := by simpa [upD, eval_put_ne, put_none] using h.s12
                                  s13 := by simpa [upD, eval_put_ne, put_none] using h.s13
                                  s14 := by simpa [upD, eval_put_ne, put_none] using h.s14
                                  s15 := by simpa [upD, eval_put_ne, put_none] using h.s15
                                  s16 := by simpa [upD, eval_put_ne, put_none] using h.s16
                                  s18 := by simpa [upD, eval_put_ne, put_none] using h.s18
                                  s19 := by simpa [upD, eval_put_ne, put_none] using h.s19
                                  s20 := by simpa [upD, eval_put_ne, put_none] using h.s20
                                  s21 := by simpa [upD, eval_put_ne, put_none] using h.s21
                                  s22 := by simpa [upD, eval_put_ne, put_none] using h.s22
                                  s23 := by simpa [upD, eval_put_ne, put_none] using h.s23
                                  s24 := by simpa [upD, eval_put_ne, put_none] using h.s24
                                  s25 := by simpa [upD, eval_put_ne, put_none] using h.s25
                                  s26 := by simpa [upD, eval_put_ne, put_none] using h.s26
                                  s27 := by simpa [upD, eval_put_ne, put_none] using h.s27 }
                              · -- 18
                                intro D a wx K hD hp h hK
                                refine step_wp_g rfl rfl (h.s8 (hp 8 (by decide))) ?_
                                refine wp_move_at rfl ?_
                                rw [h.fr.eval (j := 7) (by decide), t7]
                                refine hK _ _ {
                                  fr := h.fr.put (by decide) _
                                  below := h.below
                                  s18 := fun _ => h.fr.eval_put (by rw [hsz]; decide) _
                                  s0 := by simpa [upD, eval_put_ne, put_none] using h.s0
                                  s1 := by simpa [upD, eval_put_ne, put_none] using h.s1
                                  s2 := by simpa [upD, eval_put_ne, put_none] using h.s2
                                  s3 := by simpa [upD, eval_put_ne, put_none] using h.s3
                                  s4 := by simpa [upD, eval_put_ne, put_none] using h.s4
                                  s5 := by simpa [upD, eval_put_ne, put_none] using h.s5
                                  s6 := by simpa [upD, eval_put_ne, put_none] using h.s6
                                  s7 := by simpa [upD, eval_put_ne, put_none] using h.s7
                                  s8 := by simpa [upD, eval_put_ne, put_none] using h.s8
                                  s9 := by simpa [upD, eval_put_ne, put_none] using h.s9
                                  s10 := by simpa [upD, eval_put_ne, put_none] using h.s10
                                  s11 := by simpa [upD, eval_put_ne, put_none] using h.s11
                                  s12 := by simpa [upD, eval_put_ne, put_none] using h.s12
                                  s13 := by simpa [upD, eval_put_ne, put_none] using h.s13
                                  s14 := by simpa [upD, eval_put_ne, put_none] using h.s14
                                  s15 := by simpa [upD, eval_put_ne, put_none] using h.s15
                                  s16 := by simpa [upD, eval_put_ne, put_none] using h.s16
                                  s17 := by simpa [upD, eval_put_ne, put_none] using h.s17
                                  s19 := by simpa [upD, eval_put_ne, put_none] using h.s19
                                  s20 := by simpa [upD, eval_put_ne, put_none] using h.s20
                                  s21 := by simpa [upD, eval_put_ne, put_none] using h.s21
                                  s22 := by simpa [upD, eval_put_ne, put_none] using h.s22
                                  s23 := by simpa [upD, eval_put_ne, put_none] using h.s23
                                  s24 := by simpa [upD, eval_put_ne, put_none] using h.s24
                                  s25 := by simpa [upD, eval_put_ne, put_none] using h.s25
                                  s26 := by simpa [upD, eval_put_ne, put_none] using h.s26
                                  s27 := by simpa [upD, eval_put_ne, put_none] using h.s27 }
                              · -- 19
                                intro D a wx K hD hp h hK
                                refine step_wp_g rfl rfl (h.s8 (hp 8 (by decide))) ?_
                                refine wp_move_at rfl ?_
                                rw [h.fr.eval (j := 17) (by decide), t17]
                                refine hK _ _ {
                                  fr := h.fr.put (by decide) _
                                  below := h.below
                                  s19 := fun _ => h.fr.eval_put (by rw [hsz]; decide) _
                                  s0 := by simpa [upD, eval_put_ne, put_none] using h.s0
                                  s1 := by simpa [upD, eval_put_ne, put_none] using h.s1
                                  s2 := by simpa [upD, eval_put_ne, put_none] using h.s2
                                  s3 := by simpa [upD, eval_put_ne, put_none] using h.s3
                                  s4 := by simpa [upD, eval_put_ne, put_none] using h.s4
                                  s5 := by simpa [upD, eval_put_ne, put_none] using h.s5
                                  s6 := by simpa [upD, eval_put_ne, put_none] using h.s6
                                  s7 := by simpa [upD, eval_put_ne, put_none] using h.s7
                                  s8 := by simpa [upD, eval_put_ne, put_none] using h.s8
                                  s9 := by simpa [upD, eval_put_ne, put_none] using h.s9
                                  s10 := by simpa [upD, eval_put_ne, put_none] using h.s10
                                  s11 := by simpa [upD, eval_put_ne, put_none] using h.s11
                                  s12 := by simpa [upD, eval_put_ne, put_none] using h.s12
                                  s13 := by simpa [upD, eval_put_ne, put_none] using h.s13
                                  s14 := by simpa [upD, eval_put_ne, put_none] using h.s14
                                  s15 := by simpa [upD, eval_put_ne, put_none] using h.s15
                                  s16 := by simpa [upD, eval_put_ne, put_none] using h.s16
                                  s17 := by simpa [upD, eval_put_ne, put_none] using h.s17
                                  s18 := by simpa [upD, eval_put_ne, put_none] using h.s18
                                  s20 := by simpa [upD, eval_put_ne, put_none] using h.s20
                                  s21 := by simpa [upD, eval_put_ne, put_none] using h.s21
                                  s22 := by simpa [upD, eval_put_ne, put_none] using h.s22
                                  s23 := by simpa [upD, eval_put_ne, put_none] using h.s23
                                  s24 := by simpa [upD, eval_put_ne, put_none] using h.s24
                                  s25 := by simpa [upD, eval_put_ne, put_none] using h.s25
                                  s26 := by simpa [upD, eval_put_ne, put_none] using h.s26
                                  s27 := by simpa [upD, eval_put_ne, put_none] using h.s27 }
                              · -- 20
                                intro D a wx K hD hp h hK
                                refine step_wp_g rfl rfl (h.s8 (hp 8 (by decide))) ?_
                                have q0 := h.s18 (hp 18 (by decide))
                                have q1 := h.s19 (hp 19 (by decide))
                                refine wp_val_at (.pointer (some ⟨h7b, h7o + b, none⟩)) (by generalize a.eval = ρ at *; go_simp) ?_
                                refine hK _ _ {
                                  fr := h.fr.put (by decide) _
                                  below := h.below
                                  s20 := fun _ => h.fr.eval_put (by rw [hsz]; decide) _
                                  s0 := by simpa [upD, eval_put_ne, put_none] using h.s0
                                  s1 := by simpa [upD, eval_put_ne, put_none] using h.s1
                                  s2 := by simpa [upD, eval_put_ne, put_none] using h.s2
                                  s3 := by simpa [upD, eval_put_ne, put_none] using h.s3
                                  s4 := by simpa [upD, eval_put_ne, put_none] using h.s4
                                  s5 := by simpa [upD, eval_put_ne, put_none] using h.s5
                                  s6 := by simpa [upD, eval_put_ne, put_none] using h.s6
                                  s7 := by simpa [upD, eval_put_ne, put_none] using h.s7
                                  s8 := by simpa [upD, eval_put_ne, put_none] using h.s8
                                  s9 := by simpa [upD, eval_put_ne, put_none] using h.s9
                                  s10 := by simpa [upD, eval_put_ne, put_none] using h.s10
                                  s11 := by simpa [upD, eval_put_ne, put_none] using h.s11
                                  s12 := by simpa [upD, eval_put_ne, put_none] using h.s12
                                  s13 := by simpa [upD, eval_put_ne, put_none] using h.s13
                                  s14 := by simpa [upD, eval_put_ne, put_none] using h.s14
                                  s15 := by simpa [upD, eval_put_ne, put_none] using h.s15
                                  s16 := by simpa [upD, eval_put_ne, put_none] using h.s16
                                  s17 := by simpa [upD, eval_put_ne, put_none] using h.s17
                                  s18 := by simpa [upD, eval_put_ne, put_none] using h.s18
                                  s19 := by simpa [upD, eval_put_ne, put_none] using h.s19
                                  s21 := by simpa [upD, eval_put_ne, put_none] using h.s21
                                  s22 := by simpa [upD, eval_put_ne, put_none] using h.s22
                                  s23 := by simpa [upD, eval_put_ne, put_none] using h.s23
                                  s24 := by simpa [upD, eval_put_ne, put_none] using h.s24
                                  s25 := by simpa [upD, eval_put_ne, put_none] using h.s25
                                  s26 := by simpa [upD, eval_put_ne, put_none] using h.s26
                                  s27 := by simpa [upD, eval_put_ne, put_none] using h.s27 }
                              · -- 21
                                intro D a wx K hD hp h hK
                                refine step_wp_g rfl rfl (h.s8 (hp 8 (by decide))) ?_
                                have q0 := h.s20 (hp 20 (by decide))
                                have z0 := (h.below.cell (p := ⟨h7b, h7o + b, none⟩) L20.out).trans C20.out
                                refine wp_val_at (.slice (some ⟨hbb, hbo, none⟩) gb.nodes.length hbc) (by generalize a.eval = ρ at *; go_simp) ?_
                                refine hK _ _ {
                                  fr := h.fr.put (by decide) _
                                  below := h.below
                                  s21 := fun _ => h.fr.eval_put (by rw [hsz]; decide) _
                                  s0 := by simpa [upD, eval_put_ne, put_none] using h.s0
                                  s1 := by simpa [upD, eval_put_ne, put_none] using h.s1
                                  s2 := by simpa [upD, eval_put_ne, put_none] using h.s2
                                  s3 := by simpa [upD, eval_put_ne, put_none] using h.s3
                                  s4 := by simpa [upD, eval_put_ne, put_none] using h.s4
                                  s5 := by simpa [upD, eval_put_ne, put_none] using h.s5
                                  s6 := by simpa [upD, eval_put_ne, put_none] using h.s6
                                  s7 := by simpa [upD, eval_put_ne, put_none] using h.s7
                                  s8 := by simpa [upD, eval_put_ne, put_none] using h.s8
                                  s9 := by simpa [upD, eval_put_ne, put_none] using h.s9
                                  s10 := by simpa [upD, eval_put_ne, put_none] using h.s10
                                  s11 := by simpa [upD, eval_put_ne, put_none] using h.s11
                                  s12 := by simpa [upD, eval_put_ne, put_none] using h.s12
                                  s13 := by simpa [upD, eval_put_ne, put_none] using h.s13
                                  s14 := by simpa [upD, eval_put_ne, put_none] using h.s14
                                  s15 := by simpa [upD, eval_put_ne, put_none] using h.s15
                                  s16 := by simpa [upD, eval_put_ne, put_none] using h.s16
                                  s17 := by simpa [upD, eval_put_ne, put_none] using h.s17
                                  s18 := by simpa [upD, eval_put_ne, put_none] using h.s18
                                  s19 := by simpa [upD, eval_put_ne, put_none] using h.s19
                                  s20 := by simpa [upD, eval_put_ne, put_none] using h.s20
                                  s22 := by simpa [upD, eval_put_ne, put_none] using h.s22
                                  s23 := by simpa [upD, eval_put_ne, put_none] using h.s23
                                  s24 := by simpa [upD, eval_put_ne, put_none] using h.s24
                                  s25 := by simpa [upD, eval_put_ne, put_none] using h.s25
                                  s26 := by simpa [upD, eval_put_ne, put_none] using h.s26
                                  s27 := by simpa [upD, eval_put_ne, put_none] using h.s27 }
                              · -- 22
                                intro D a wx K hD hp h hK
                                refine step_wp_g rfl rfl (h.s8 (hp 8 (by decide))) ?_
                                refine wp_move_at rfl ?_
                                rw [h.fr.eval (j := 18) (by decide), t18]
                                refine hK _ _ {
                                  fr := h.fr.put (by decide) _
                                  below := h.below
                                  s22 := fun _ => h.fr.eval_put (by rw [hsz]; decide) _
                                  s0 := by simpa [upD, eval_put_ne, put_none] using h.s0
                                  s1 := by simpa [upD, eval_put_ne, put_none] using h.s1
                                  s2 := by simpa [upD, eval_put_ne, put_none] using h.s2
                                  s3 := by simpa [upD, eval_put_ne, put_none] using h.s3
                                  s4 := by simpa [upD, eval_put_ne, put_none] using h.s4
                                  s5 := by simpa [upD, eval_put_ne, put_none] using h.s5
                                  s6 := by simpa [upD, eval_put_ne, put_none] using h.s6
                                  s7 := by simpa [upD, eval_put_ne, put_none] using h.s7
                                  s8 := by simpa [upD, eval_put_ne, put_none] using h.s8
                                  s9 := by simpa [upD, eval_put_ne, put_none] using h.s9
                                  s10 := by simpa [upD, eval_put_ne, put_none] using h.s10
                                  s11 := by simpa [upD, eval_put_ne, put_none] using h.s11
                                  s12 := by simpa [upD, eval_put_ne, put_none] using h.s12
                                  s13 := by simpa [upD, eval_put_ne, put_none] using h.s13
                                  s14 := by simpa [upD, eval_put_ne, put_none] using h.s14
                                  s15 := by simpa [upD, eval_put_ne, put_none] using h.s15
                                  s16 := by simpa [upD, eval_put_ne, put_none] using h.s16
                                  s17 := by simpa [upD, eval_put_ne, put_none] using h.s17
                                  s18 := by simpa [upD, eval_put_ne, put_none] using h.s18
                                  s19 := by simpa [upD, eval_put_ne, put_none] using h.s19
                                  s20 := by simpa [upD, eval_put_ne, put_none] using h.s20
                                  s21 := by simpa [upD, eval_put_ne, put_none] using h.s21
                                  s23 := by simpa [upD, eval_put_ne, put_none] using h.s23
                                  s24 := by simpa [upD, eval_put_ne, put_none] using h.s24
                                  s25 := by simpa [upD, eval_put_ne, put_none] using h.s25
                                  s26 := by simpa [upD, eval_put_ne, put_none] using h.s26
                                  s27 := by simpa [upD, eval_put_ne, put_none] using h.s27 }
                              · -- 23
                                intro D a wx K hD hp h hK
                                refine step_wp_g rfl rfl (h.s8 (hp 8 (by decide))) ?_
                                have q0 := h.s21 (hp 21 (by decide))
                                have q1 := h.s22 (hp 22 (by decide))
                                refine wp_val_at (.pointer (some ⟨hbb, hbo + j, none⟩)) (by generalize a.eval = ρ at *; go_simp) ?_
                                refine hK _ _ {
                                  fr := h.fr.put (by decide) _
                                  below := h.below
                                  s23 := fun _ => h.fr.eval_put (by rw [hsz]; decide) _
                                  s0 := by simpa [upD, eval_put_ne, put_none] using h.s0
                                  s1 := by simpa [upD, eval_put_ne, put_none] using h.s1
                                  s2 := by simpa [upD, eval_put_ne, put_none] using h.s2
                                  s3 := by simpa [upD, eval_put_ne, put_none] using h.s3
                                  s4 := by simpa [upD, eval_put_ne, put_none] using h.s4
                                  s5 := by simpa [upD, eval_put_ne, put_none] using h.s5
                                  s6 := by simpa [upD, eval_put_ne, put_none] using h.s6
                                  s7 := by simpa [upD, eval_put_ne, put_none] using h.s7
                                  s8 := by simpa [upD, eval_put_ne, put_none] using h.s8
                                  s9 := by simpa [upD, eval_put_ne, put_none] using h.s9
                                  s10 := by simpa [upD, eval_put_ne, put_none] using h.s10
                                  s11 := by simpa [upD, eval_put_ne, put_none] using h.s11
                                  s12 := by simpa [upD, eval_put_ne, put_none] using h.s12
                                  s13 := by simpa [upD, eval_put_ne, put_none] using h.s13
                                  s14 := by simpa [upD, eval_put_ne, put_none] using h.s14
                                  s15 := by simpa [upD, eval_put_ne, put_none] using h.s15
                                  s16 := by simpa [upD, eval_put_ne, put_none] using h.s16
                                  s17 := by simpa [upD, eval_put_ne, put_none] using h.s17
                                  s18 := by simpa [upD, eval_put_ne, put_none] using h.s18
                                  s19 := by simpa [upD, eval_put_ne, put_none] using h.s19
                                  s20 := by simpa [upD, eval_put_ne, put_none] using h.s20
                                  s21 := by simpa [upD, eval_put_ne, put_none] using h.s21
                                  s22 := by simpa [upD, eval_put_ne, put_none] using h.s22
                                  s24 := by simpa [upD, eval_put_ne, put_none] using h.s24
                                  s25 := by simpa [upD, eval_put_ne, put_none] using h.s25
                                  s26 := by simpa [upD, eval_put_ne, put_none] using h.s26
                                  s27 := by simpa [upD, eval_put_ne, put_none] using h.s27 }
                              · -- 24
                                intro D a wx K hD hp h hK
                                refine step_wp_g rfl rfl (h.s8 (hp 8 (by decide))) ?_
                                have q0 := h.s23 (hp 23 (by decide))
                                have z0 := (h.below.cell (p := ⟨hbb, hbo + j, none⟩) L23.out).trans C23.out
                                refine wp_val_at (vb) (by generalize a.eval = ρ at *; go_simp) ?_
                                refine hK _ _ {
                                  fr := h.fr.put (by decide) _
                                  below := h.below
                                  s24 := fun _ => h.fr.eval_put (by rw [hsz]; decide) _
                                  s0 := by simpa [upD, eval_put_ne, put_none] using h.s0
                                  s1 := by simpa [upD, eval_put_ne, put_none] using h.s1
                                  s2 := by simpa [upD, eval_put_ne, put_none] using h.s2
                                  s3 := by simpa [upD, eval_put_ne, put_none] using h.s3
                                  s4 := by simpa [upD, eval_put_ne, put_none] using h.s4
                                  s5 := by simpa [upD, eval_put_ne, put_none] using h.s5
                                  s6 := by simpa [upD, eval_put_ne, put_none] using h.s6
                                  s7 := by simpa [upD, eval_put_ne, put_none] using h.s7
                                  s8 := by simpa [upD, eval_put_ne, put_none] using h.s8
                                  s9 := by simpa [upD, eval_put_ne, put_none] using h.s9
                                  s10 := by simpa [upD, eval_put_ne, put_none] using h.s10
                                  s11 := by simpa [upD, eval_put_ne, put_none] using h.s11
                                  s12 := by simpa [upD, eval_put_ne, put_none] using h.s12
                                  s13 := by simpa [upD, eval_put_ne, put_none] using h.s13
                                  s14 := by simpa [upD, eval_put_ne, put_none] using h.s14
                                  s15 := by simpa [upD, eval_put_ne, put_none] using h.s15
                                  s16 := by simpa [upD, eval_put_ne, put_none] using h.s16
                                  s17 := by simpa [upD, eval_put_ne, put_none] using h.s17
                                  s18 := by simpa [upD, eval_put_ne, put_none] using h.s18
                                  s19 := by simpa [upD, eval_put_ne, put_none] using h.s19
                                  s20 := by simpa [upD, eval_put_ne, put_none] using h.s20
                                  s21 := by simpa [upD, eval_put_ne, put_none] using h.s21
                                  s22 := by simpa [upD, eval_put_ne, put_none] using h.s22
                                  s23 := by simpa [upD, eval_put_ne, put_none] using h.s23
                                  s25 := by simpa [upD, eval_put_ne, put_none] using h.s25
                                  s26 := by simpa [upD, eval_put_ne, put_none] using h.s26
                                  s27 := by simpa [upD, eval_put_ne, put_none] using h.s27 }
                              · -- 25
                                intro D a wx K hD hp h hK
                                refine step_wp_g rfl rfl (h.s8 (hp 8 (by decide))) ?_
                                have HK := Lib.hid hK; clear hK
                                have H := Lib.hid h; clear h
                                have q1 := H.out.s9 (hp 9 (by decide))
                                have q2 := H.out.s10 (hp 10 (by decide))
                                have q3 := H.out.s17 (hp 17 (by decide))
                                have q4 := H.out.s24 (hp 24 (by decide))
                                have hva := IVA.out.mono (cmap_below H.out.below)
                                have hvb := IVB.out.mono (cmap_below H.out.below)
                                refine wp_call_at Try.func80 (by kernel_rfl) (by kernel_rfl) rfl #[.agg x.cells.toArray, .agg y.cells.toArray, va, vb] (by simp only [List.map_toArray, List.map_cons, List.map_nil, q1, q2, q3, q4]) ?_
                                refine (race9_calls x y va vb (heldAt g i) (heldAt gb j) _ hva hvb).mono ?_
                                rintro e w1 ⟨rfl, hb1⟩
                                rw [HRX.out]
                                have h := H.out.keep hb1
                                refine ⟨_, rfl, HK.out _ _ ?_⟩
                                exact {
                                  fr := h.fr.put (by decide) _
                                  below := h.below
                                  s25 := fun _ => h.fr.eval_put (by rw [hsz]; decide) _
                                  s0 := by simpa [upD, eval_put_ne, put_none] using h.s0
                                  s1 := by simpa [upD, eval_put_ne, put_none] using h.s1
                                  s2 := by simpa [upD, eval_put_ne, put_none] using h.s2
                                  s3 := by simpa [upD, eval_put_ne, put_none] using h.s3
                                  s4 := by simpa [upD, eval_put_ne, put_none] using h.s4
                                  s5 := by simpa [upD, eval_put_ne, put_none] using h.s5
                                  s6 := by simpa [upD, eval_put_ne, put_none] using h.s6
                                  s7 := by simpa [upD, eval_put_ne, put_none] using h.s7
                                  s8 := by simpa [upD, eval_put_ne, put_none] using h.s8
                                  s9 := by simpa [upD, eval_put_ne, put_none] using h.s9
                                  s10 := by simpa [upD, eval_put_ne, put_none] using h.s10
                                  s11 := by simpa [upD, eval_put_ne, put_none] using h.s11
                                  s12 := by simpa [upD, eval_put_ne, put_none] using h.s12
                                  s13 := by simpa [upD, eval_put_ne, put_none] using h.s13
                                  s14 := by simpa [upD, eval_put_ne, put_none] using h.s14
                                  s15 := by simpa [upD, eval_put_ne, put_none] using h.s15
                                  s16 := by simpa [upD, eval_put_ne, put_none] using h.s16
                                  s17 := by simpa [upD, eval_put_ne, put_none] using h.s17
                                  s18 := by simpa [upD, eval_put_ne, put_none] using h.s18
                                  s19 := by simpa [upD, eval_put_ne, put_none] using h.s19
                                  s20 := by simpa [upD, eval_put_ne, put_none] using h.s20
                                  s21 := by simpa [upD, eval_put_ne, put_none] using h.s21
                                  s22 := by simpa [upD, eval_put_ne, put_none] using h.s22
                                  s23 := by simpa [upD, eval_put_ne, put_none] using h.s23
                                  s24 := by simpa [upD, eval_put_ne, put_none] using h.s24
                                  s26 := by simpa [upD, eval_put_ne, put_none] using h.s26
                                  s27 := by simpa [upD, eval_put_ne, put_none] using h.s27 }
                              · -- 26
                                intro D a wx K hD hp h hK
                                refine step_wp_g rfl rfl (h.s8 (hp 8 (by decide))) ?_
                                have q0 := h.s25 (hp 25 (by decide))
                                refine wp_val_at (.bool (!r)) (by generalize a.eval = ρ at *; go_simp) ?_
                                refine hK _ _ {
                                  fr := h.fr.put (by decide) _
                                  below := h.below
                                  s26 := fun _ => h.fr.eval_put (by rw [hsz]; decide) _
                                  s0 := by simpa [upD, eval_put_ne, put_none] using h.s0
                                  s1 := by simpa [upD, eval_put_ne, put_none] using h.s1
                                  s2 := by simpa [upD, eval_put_ne, put_none] using h.s2
                                  s3 := by simpa [upD, eval_put_ne, put_none] using h.s3
                                  s4 := by simpa [upD, eval_put_ne, put_none] using h.s4
                                  s5 := by simpa [upD, eval_put_ne, put_none] using h.s5
                                  s6 := by simpa [upD, eval_put_ne, put_none] using h.s6
                                  s7 := by simpa [upD, eval_put_ne, put_none] using h.s7
                                  s8 := by simpa [upD, eval_put_ne, put_none] using h.s8
                                  s9 := by simpa [upD, eval_put_ne, put_none] using h.s9
                                  s10 := by simpa [upD, eval_put_ne, put_none] using h.s10
                                  s11 := by simpa [upD, eval_put_ne, put_none] using h.s11
                                  s12 := by simpa [upD, eval_put_ne, put_none] using h.s12
                                  s13 := by simpa [upD, eval_put_ne, put_none] using h.s13
                                  s14 := by simpa [upD, eval_put_ne, put_none] using h.s14
                                  s15 := by simpa [upD, eval_put_ne, put_none] using h.s15
                                  s16 := by simpa [upD, eval_put_ne, put_none] using h.s16
                                  s17 := by simpa [upD, eval_put_ne, put_none] using h.s17
                                  s18 := by simpa [upD, eval_put_ne, put_none] using h.s18
                                  s19 := by simpa [upD, eval_put_ne, put_none] using h.s19
                                  s20 := by simpa [upD, eval_put_ne, put_none] using h.s20
                                  s21 := by simpa [upD, eval_put_ne, put_none] using h.s21
                                  s22 := by simpa [upD, eval_put_ne, put_none] using h.s22
                                  s23 := by simpa [upD, eval_put_ne, put_none] using h.s23
                                  s24 := by simpa [upD, eval_put_ne, put_none] using h.s24
                                  s25 := by simpa [upD, eval_put_ne, put_none] using h.s25
                                  s27 := by simpa [upD, eval_put_ne, put_none] using h.s27 }
                              · -- 27
                                intro D a wx K hD hp h hK
                                refine step_wp rfl ?_
                                have q0 := h.s8 (hp 8 (by decide))
                                have q1 := h.s26 (hp 26 (by decide))
                                refine wp_val_at (.bool (!r)) (by generalize a.eval = ρ at *; go_simp) ?_
                                refine hK _ _ {
                                  fr := h.fr.put (by decide) _
                                  below := h.below
                                  s27 := fun _ => h.fr.eval_put (by rw [hsz]; decide) _
                                  s0 := by simpa [upD, eval_put_ne, put_none] using h.s0
                                  s1 := by simpa [upD, eval_put_ne, put_none] using h.s1
                                  s2 := by simpa [upD, eval_put_ne, put_none] using h.s2
                                  s3 := by simpa [upD, eval_put_ne, put_none] using h.s3
                                  s4 := by simpa [upD, eval_put_ne, put_none] using h.s4
                                  s5 := by simpa [upD, eval_put_ne, put_none] using h.s5
                                  s6 := by simpa [upD, eval_put_ne, put_none] using h.s6
                                  s7 := by simpa [upD, eval_put_ne, put_none] using h.s7
                                  s8 := by simpa [upD, eval_put_ne, put_none] using h.s8
                                  s9 := by simpa [upD, eval_put_ne, put_none] using h.s9
                                  s10 := by simpa [upD, eval_put_ne, put_none] using h.s10
                                  s11 := by simpa [upD, eval_put_ne, put_none] using h.s11
                                  s12 := by simpa [upD, eval_put_ne, put_none] using h.s12
                                  s13 := by simpa [upD, eval_put_ne, put_none] using h.s13
                                  s14 := by simpa [upD, eval_put_ne, put_none] using h.s14
                                  s15 := by simpa [upD, eval_put_ne, put_none] using h.s15
                                  s16 := by simpa [upD, eval_put_ne, put_none] using h.s16
                                  s17 := by simpa [upD, eval_put_ne, put_none] using h.s17
                                  s18 := by simpa [upD, eval_put_ne, put_none] using h.s18
                                  s19 := by simpa [upD, eval_put_ne, put_none] using h.s19
                                  s20 := by simpa [upD, eval_put_ne, put_none] using h.s20
                                  s21 := by simpa [upD, eval_put_ne, put_none] using h.s21
                                  s22 := by simpa [upD, eval_put_ne, put_none] using h.s22
                                  s23 := by simpa [upD, eval_put_ne, put_none] using h.s23
                                  s24 := by simpa [upD, eval_put_ne, put_none] using h.s24
                                  s25 := by simpa [upD, eval_put_ne, put_none] using h.s25
                                  s26 := by simpa [upD, eval_put_ne, put_none] using h.s26 }
                            case done =>
                              intro D a wc hall h
                              have hd : ∀ i, i < 28 → D i = true := hall
                              have hfin := ((((((((((((((((((((((((((((h.fr.shut (by rw [hsz]; decide)).shut (by simp [Act.put, hsz])).shut (by simp [Act.put, hsz])).shut (by simp [Act.put, hsz])).shut (by simp [Act.put, hsz])).shut (by simp [Act.put, hsz])).shut (by simp [Act.put, hsz])).shut (by simp [Act.put, hsz])).shut (by simp [Act.put, hsz])).shut (by simp [Act.put, hsz])).shut (by simp [Act.put, hsz])).shut (by simp [Act.put, hsz])).shut (by simp [Act.put, hsz])).shut (by simp [Act.put, hsz])).shut (by simp [Act.put, hsz])).shut (by simp [Act.put, hsz])).shut (by simp [Act.put, hsz])).shut (by simp [Act.put, hsz])).shut (by simp [Act.put, hsz])).shut (by simp [Act.put, hsz])).shut (by simp [Act.put, hsz])).shut (by simp [Act.put, hsz])).shut (by simp [Act.put, hsz])).shut (by simp [Act.put, hsz])).shut (by simp [Act.put, hsz])).shut (by simp [Act.put, hsz])).shut (by simp [Act.put, hsz])).shut (by simp [Act.put, hsz])).done
                              rw [h.s0 (hd 0 (by decide)), h.s1 (hd 1 (by decide)), h.s2 (hd 2 (by decide)), h.s3 (hd 3 (by decide)), h.s4 (hd 4 (by decide)), h.s5 (hd 5 (by decide)), h.s6 (hd 6 (by decide)), h.s7 (hd 7 (by decide)), h.s8 (hd 8 (by decide)), h.s9 (hd 9 (by decide)), h.s10 (hd 10 (by decide)), h.s11 (hd 11 (by decide)), h.s12 (hd 12 (by decide)), h.s13 (hd 13 (by decide)), h.s14 (hd 14 (by decide)), h.s15 (hd 15 (by decide)), h.s16 (hd 16 (by decide)), h.s17 (hd 17 (by decide)), h.s18 (hd 18 (by decide)), h.s19 (hd 19 (by decide)), h.s20 (hd 20 (by decide)), h.s21 (hd 21 (by decide)), h.s22 (hd 22 (by decide)), h.s23 (hd 23 (by decide)), h.s24 (hd 24 (by decide)), h.s25 (hd 25 (by decide)), h.s26 (hd 26 (by decide)), h.s27 (hd 27 (by decide))] at hfin
                              have hbc := h.below
                              rw [hfin, HA0.out]
                              have haccC := haccY.keep hbc
                              have hbrC := hbrY.trans (hbc.mono hbrY.size)
                              have bXC := bXy.below hbc bXy.lt
                              clear hfin HA0 h hall hd t7 t8 t14 t15 t16 t17 t18 t19 hsz hbc haccY hbrY bXy bY
                              simp only [Act.put, List.setIfInBounds_toArray, List.set_cons_zero, List.set_cons_succ]
                              cases r
                              · have HS5 := Lib.hid (hsp.to (qrest4_no HY0.out (.inr HRX.out))); clear hsp
                                go_wp2_with fail
                                go_roundw
                                case rel => exact ⟨j + 1, pre, by go_num, hlj, haccC, hbrC, bXC, HS5.out⟩
                                case measure => simp [intOf]; omega
                              · have HS5 := Lib.hid (hsp.to (qrest4_yes HY0.out HREJ.out HRX.out)); clear hsp
                                obtain ⟨oA, oc, rfl, hoc⟩ := haccC.form
                                by_cases hful : pre.length = 65536
                                · have e1 : ((pre.length : Int) == 65536) = true := by simp; omega
                                  have HF := Lib.hid hful; clear hful
                                  go_wp2_with fail
                                  go_ret2
                                  exact .inr ⟨3, .inr ⟨rfl, HR.out, HS5.out.full HF.out⟩, rfl, hbW.trans (hbrC.mono bq)⟩
                                · have e1 : ((pre.length : Int) == 65536) = false := by simp; omega
                                  have HF := Lib.hid hful; clear hful
                                  have hle := HS5.out.2
                                  have haccP := haccC.alloc (.cells #[.int .i64 (ai : Int), .int .i64 (i : Int), .int .i64 (b : Int), .int .i64 (j : Int)] 46)
                                  obtain ⟨rows, ho, hrl, hrs, hrx⟩ := haccP.rows
                                  have hbsC := hbrC.size
                                  go_wp2_with (refine stop_append rfl ?_)
                                  refine Stop.intro ?_
                                  refine app_one sl_pairs rfl _ _ rfl wq.heap.size _ pre.length rows.flatten rfl ho wc.heap.size 0 1 (qcells (qd ⟨ai, i, x, heldAt g i⟩ ⟨b, j, y, heldAt gb j⟩)) rfl rfl (cell_newl wc _ _ _ rfl) ?_ (by omega) (by decide) (by simp; omega) ?_
                                  · intro v hv
                                    unfold qcells at hv
                                    simp only [List.mem_cons, List.not_mem_nil, or_false] at hv
                                    rcases hv with rfl | rfl | rfl | rfl <;> rfl
                                  intro v' w' hown hgr' hob
                                  have hacc' : Acc quadV 4 46 wq.heap.size (fun _ => False) v' (pre ++ [qd ⟨ai, i, x, heldAt g i⟩ ⟨b, j, y, heldAt gb j⟩]) w' := haccP.push hrl hrs hrx (r := qcells (qd ⟨ai, i, x, heldAt g i⟩ ⟨b, j, y, heldAt gb j⟩)) rfl hown hgr' hob (fun _ h => h) (fun _ h => h.elim) rfl
                                  have hbr' : Below wq.heap.size wq w' := (hbrC.alloc hbsC _).grown hgr' (by simp; omega) (fun k e => (haccP.lt k e).1)
                                  have bX' := (bXC.alloc (.cells #[.int .i64 (ai : Int), .int .i64 (i : Int), .int .i64 (b : Int), .int .i64 (j : Int)] 46)).grown hgr' (haccP.blk (bXC.alloc _) (by decide))
                                  have HA' := Lib.hid hacc'; clear hacc' ho hown hgr' hob haccP haccC hrx
                                  go_wp2_with fail
                                  go_roundw
                                  case rel => exact ⟨j + 1, _, by go_num, hlj, HA'.out, hbr', bX', HS5.out.push HF.out⟩
                                  case measure => simp [intOf]; omega
                        · have HS5 := Lib.hid (hsp.to (qrest4_end (by omega))); clear hsp
                          go_wp2_with fail
                          go_roundw
                          case rel => exact ⟨b + 1, pre, by go_num, by omega, hlb, hacc, hbr, bX, HS5.out⟩
                          case measure => simp [intOf]; omega
                    · have HS4 := Lib.hid (hsp.to (qrest3_end (by omega))); clear hsp
                      have e1 : decide ((b : Int) < u.graphs.length) = false := by simp; omega
                      go_wp2_with fail
                      go_roundw
                      case rel => exact ⟨i + 1, pre, by go_num, hlti, hacc, hbr, HS4.out⟩
                      case measure => simp [intOf]; omega
              · have HS2 := Lib.hid (hsp.to (qrest2_end (by omega))); clear hsp
                go_wp2_with fail
                go_roundw
                case rel => exact ⟨ai + 1, pre, by go_num, hlta, hacc, hbr, HS2.out⟩
                case measure => simp [intOf]; omega
          · obtain ⟨hpe, hle⟩ := (hsp.to (qrest1_end (by omega))).all
            subst hpe
            have hsl := hacc.done (lo := w.heap.size) (hi := wr.heap.size) bq (Nat.le_refl _)
            have HSL := Lib.hid hsl; clear hsl hsp
            have HLE := Lib.hid hle; clear hle
            go_wp2_with fail
            go_ret2
            exact .inl ⟨HR.out, HLE.out, _, rfl, HSL.out, hbW.trans (hbr.mono bq)⟩
end Go.Proofs.Ytkkmkjjbffpgnaa
