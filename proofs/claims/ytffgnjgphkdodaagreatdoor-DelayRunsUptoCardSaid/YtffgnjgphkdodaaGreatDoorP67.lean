import Derived.Test.YtffgnjgphkdodaaGreatDoorP66
/- The walk of the action that loads. -/
namespace Go.Proofs.YtffgnjgphkdodaaGreatDoor
open Go Go.RowKit
attribute [local go_sem] readAtW readUpon
section
variable {w w' : World} {R : Nat → Prop} {g b : Nat} {L : Lay} {u : Unit_} {m : Mach} {t i : Nat} {gr : Graph} {n : Node} {d : Did}
theorem act_2 {m : Mach} {t : Nat} {n : Node} (hk : n.kind = 2) (d : Did) : actM m t n = m.setSlot t n.slot (m.var n.thing) ∧ actD m t n d = { d with thing := n.thing, word := m.var n.thing } ∧ actN m t n = n.next := by
  unfold actM actD actN
  simp [hk]
/-- Behind gets. -/
theorem ActP.getsS {w0 w1 : World} {x : Int} {j k : Nat} {l : List Int} {m' : Mach} {d' : Did} (h : ActP w0 w1 b R g L u m' (actCells g t n d')) (hR : ¬ R b) (hgl : L.gl[t]? = some k) (hl : m'.slots[t]? = some l) (hj : n.slot = j) (q : Nat) :
    ActP w0 (((w1.setCell ⟨k, j, none⟩ (.int .i64 x)).setCell ⟨b, 19, none⟩ (.int .i64 x)).drewN q) b R g L u (m'.setSlot t n.slot x) (actCells g t n { d' with word := x }) := by
  have hk : k ∈ L.gl := List.mem_of_getElem? hgl
  obtain ⟨pv, hM, -⟩ := h.ex
  have nk : b ≠ k := fun e => row_types h.blk (hM.slot t k l hgl hl) (by decide) e
  have := ActP.gets (x := x) (j := j) h hR hgl hl (.inr (.inr (.inr (.inr (.inr hk))))) nk q
  unfold Mach.setSlot
  rw [hl, hj, Int.toNat_natCast]
  exact this
set_option maxRecDepth 100000 in
set_option maxHeartbeats 4000000 in
theorem load_acts (h : ActH w b R g L u m t gr i n d) (hk : n.kind = 2) :
    Calls Tryz.prog 112 #[.pointer (some ⟨b, 0, none⟩)] w fun e w' => e = .returned (.int .i64 (actN m t n)) ∧ ActP w w' b R g L u (actM m t n) (actCells g t n (actD m t n d)) := by
  obtain ⟨e1, e2, e3⟩ := act_2 (m := m) (t := t) hk d
  rw [e1, e2, e3]
  have hth := h.nd.var (.inl hk)
  obtain ⟨j, hj⟩ := Int.eq_ofNat_of_zero_le hth.1
  have hjl : j < m.mem.length := by rw [h.ok.mem]; omega
  obtain ⟨x, hx⟩ : ∃ x, m.mem[j]? = some x := ⟨_, List.getElem?_eq_getElem hjl⟩
  have hvar : m.var n.thing = x := by unfold Mach.var; rw [hj, Int.toNat_natCast, hx]; rfl
  rw [hvar]
  have HH := Lib.hid (And.intro h (And.intro hj (And.intro hjl hx)))
  obtain ⟨l, k, hl, hgl, hlen⟩ := h.slots
  have hsl := h.nd.slot (.inr (.inl hk))
  obtain ⟨js, hjs⟩ := Int.eq_ofNat_of_zero_le hsl.1
  have hjsl : js < l.length := by omega
  have HS := Lib.hid (And.intro hl (And.intro hgl (And.intro hjs hjsl)))
  have hkm : k ∈ L.gl := List.mem_of_getElem? hgl
  have HK := Lib.hid hkm
  have b5 : w.cell? ⟨b, 5, none⟩ = some (.int .i64 n.thing) := h.blk.cell 5
  have b18 : w.cell? ⟨b, 18, none⟩ = some (.int .i64 d.thing) := h.blk.cell 18
  have f18 : w.frozen? ⟨b, 18, none⟩ = false := h.blk.frozen 18
  have HP0 : Hid (ActP w (w.setCell ⟨b, 18, none⟩ (.int .i64 n.thing)) b R g L u m (actCells g t n { d with thing := n.thing })) := Lib.hid ((ActP.start h.mc h.blk).setB h.rb 18 (.int .i64 n.thing))
  clear h hk e1 e2 e3 hth hj hjl hl hgl hlen hsl hjs hjsl hx hvar hkm
  go_enter Tryz.func112, Tryz.ntmps112
  go_wp2
  obtain ⟨y, hy⟩ : ∃ y, w.setCell ⟨b, 18, none⟩ (.int .i64 n.thing) = y := ⟨_, rfl⟩
  have HP := HP0; clear HP0
  rw [hy] at HP
  rw [hy]
  clear hy b5 b18 f18
  have hP := HP.out
  obtain ⟨pv, hM, -⟩ := id hP.ex
  have hbk := hP.blk
  obtain ⟨mb, mc, hmv, c1, c2, c3, hown⟩ := hM.memAt HH.out.2.2.2
  have b0 : y.cell? ⟨b, 0, none⟩ = some (.pointer (some ⟨g, 0, none⟩)) := hbk.cell 0
  have b5 : y.cell? ⟨b, 5, none⟩ = some (.int .i64 j) := by rw [hbk.cell 5, ← HH.out.2.1]; rfl
  have g5 : y.cell? ⟨g, 5, none⟩ = some (.slice (some ⟨mb, 0, none⟩) m.mem.length mc) := by rw [hM.cell 5, ← hmv]; rfl
  have j0 : (0 : Int) ≤ j := by omega
  have j1 : (j : Int) < m.mem.length := by have := HH.out.2.2.1; omega
  have HN := Lib.hid (And.intro hM hbk)
  clear hM hbk hmv hown hP
  go_still_tail 15, (by kernel_rfl)
  change wpList _ _ _ _ _ (World.drew y)
  have hP1 : ∀ q, ActP w ((((y.drewN 1).setCell ⟨k, js, none⟩ (.int .i64 x)).setCell ⟨b, 19, none⟩ (.int .i64 x)).drewN q) b R g L u (m.setSlot t n.slot x) (actCells g t n { d with thing := n.thing, word := x }) := fun q =>
    (HP.out.drewN 1).getsS HH.out.1.rb HS.out.2.1 HS.out.1 HS.out.2.2.1 q
  have HP1 := Lib.hid hP1; clear hP1
  go_wp2_with fail
  refine (gets_calls x (L := { L with pv := pv }) (HN.out.1.drewN 1) (HN.out.2.drewN 1) HS.out.1 HS.out.2.1 HS.out.2.2.1 HS.out.2.2.2).mono ?_
  rintro e w1 ⟨rfl, q, hw1⟩
  have hP2 : ActP w w1 b R g L u (m.setSlot t n.slot x) (actCells g t n { d with thing := n.thing, word := x }) := by rw [hw1]; exact HP1.out q
  clear hw1
  have b12 : w1.cell? ⟨b, 12, none⟩ = some (.int .i64 n.next) := hP2.blk.cell 12
  have HF := Lib.hid hP2; clear hP2
  go_wp2
  go_ret
  exact ⟨rfl, HF.out⟩
end
end Go.Proofs.YtffgnjgphkdodaaGreatDoor
/- The walk of the action that swaps. -/
namespace Go.Proofs.YtffgnjgphkdodaaGreatDoor
open Go Go.RowKit
attribute [local go_sem] readAtW readUpon
section
variable {w w' : World} {R : Nat → Prop} {g b : Nat} {L : Lay} {u : Unit_} {m : Mach} {t i : Nat} {gr : Graph} {n : Node} {d : Did}
theorem act_4 {m : Mach} {t : Nat} {n : Node} (hk : n.kind = 4) (d : Did) : actM m t n = (m.setSlot t n.slot (m.var n.thing)).setVar n.thing (m.val t n.a) ∧ actD m t n d = { d with thing := n.thing, put := m.val t n.a, word := m.var n.thing } ∧ actN m t n = n.next := by
  unfold actM actD actN
  simp [hk]
def csSwap (g : Nat) (t : Nat) (n : Node) (d : Did) (x : Int) (D : Nat → Bool) : List Value := actCells g t n { d with thing := if D 17 then n.thing else d.thing, put := if D 21 then x else d.put }
set_option maxRecDepth 100000 in
set_option maxHeartbeats 4000000 in
theorem swap_acts (h : ActH w b R g L u m t gr i n d) (hk : n.kind = 4) :
    Calls Tryz.prog 114 #[.pointer (some ⟨b, 0, none⟩)] w fun e w' => e = .returned (.int .i64 (actN m t n)) ∧ ActP w w' b R g L u (actM m t n) (actCells g t n (actD m t n d)) := by
  obtain ⟨e1, e2, e3⟩ := act_4 (m := m) (t := t) hk d
  rw [e1, e2, e3]
  obtain ⟨x, hx⟩ : ∃ x, m.val t n.a = x := ⟨_, rfl⟩
  have hth := h.nd.var (.inr (.inr hk))
  obtain ⟨j, hj⟩ := Int.eq_ofNat_of_zero_le hth.1
  have hjl : j < m.mem.length := by rw [h.ok.mem]; omega
  obtain ⟨x0, hx0⟩ : ∃ x, m.mem[j]? = some x := ⟨_, List.getElem?_eq_getElem hjl⟩
  have hvar : m.var n.thing = x0 := by unfold Mach.var; rw [hj, Int.toNat_natCast, hx0]; rfl
  have hword := fun w1 pv d' (h1 : MachB w1 R g { L with pv := pv } u m) (hb : Blk w1 b 133 (actCells g t n d')) => h.word n.a (h.nd.a (.inr (.inr (.inl hk)))) h1 hb
  rw [hx] at hword ⊢
  rw [hvar]
  have HW := Lib.hid hword
  have HH := Lib.hid (And.intro h (And.intro hx (And.intro hj (And.intro hjl hx0))))
  obtain ⟨l, k, hl, hgl, hlen⟩ := h.slots
  have hsl := h.nd.slot (.inr (.inr hk))
  obtain ⟨js, hjs⟩ := Int.eq_ofNat_of_zero_le hsl.1
  have hjsl : js < l.length := by omega
  have HS := Lib.hid (And.intro hl (And.intro hgl (And.intro hjs hjsl)))
  have c0 : ∀ D, csSwap g t n d x D = actCells g t n { d with thing := if D 17 then n.thing else d.thing, put := if D 21 then x else d.put } := fun _ => rfl
  have C0 := Lib.hid c0
  clear h hk e1 e2 e3 hx hth hj hjl hword c0 hvar hx0 hl hgl hlen hsl hjs hjsl
  go_enter Tryz.func114, Tryz.ntmps114
  go_wp2
  have hB : ∀ y : XC (cAct w b R g L u m (csSwap g t n d x) 13 (.int .i64 x)), ∃ d', Blk y.w b 133 (actCells g t n d') := fun y => ⟨_, by have := y.2.1.1.blk; rw [C0.out] at this; exact this⟩
  have f5 : ∀ y : XC (cAct w b R g L u m (csSwap g t n d x) 13 (.int .i64 x)), y.w.cell? ⟨b, 5, none⟩ = some (.int .i64 n.thing) := fun y => by obtain ⟨d', hb⟩ := hB y; exact hb.cell 5
  have HA : Hid (∀ y : XC (cAct w b R g L u m (csSwap g t n d x) 13 (.int .i64 x)), ∀ j v, n.a.cells[j]? = some v → y.w.cell? ⟨b, 6 + j, none⟩ = some v) := Lib.hid fun y => by obtain ⟨d', hb⟩ := hB y; exact act_a hb
  haveI hne : Nonempty (XC (cAct w b R g L u m (csSwap g t n d x) 13 (.int .i64 x))) := XC.ne (cAct_start HH.out.1.mc HH.out.1.blk rfl)
  clear hB
  refine wp_region_mix (cAct w b R g L u m (csSwap g t n d x) 13 (.int .i64 x)) [13, 17, 21] [0, 1, 2, 3, 4, 5, 6, 7, 8, 9, 10, 11, 12, 13, 14, 15, 16, 17, 18, 19, 20, 21] (by kernel_rfl) (by kernel_rfl) (by kernel_rfl) (cAct_start HH.out.1.mc HH.out.1.blk rfl)
    (cAct_hq rfl (fun D k hk => by unfold csSwap; rw [upD_act hk rfl, upD_act hk rfl])) (cAct_hA rfl (by decide)) (dst_small (by rfl)) ?_
  iterate 12 (refine wpMix_read rfl rfl (fun K hK => ?_); go_simp; refine hK _ ?_; clear hK K)
  refine wpMix_load (some 15) rfl rfl rfl rfl 64 _ rfl b 6 rfl n.a.cells _ HA.out Tryz.underlying64 rfl (by kernel_rfl) ?_
  refine wpMix_act (some 16) rfl rfl rfl rfl (fun D A y hD hp hpre hC => cAct_call Tryz.func162 (by kernel_rfl) (by kernel_rfl) rfl #[.pointer (some ⟨b, 0, none⟩), .agg n.a.cells.toArray] (by simp only [List.map_toArray, List.map_cons, List.map_nil]; rfl) (by unfold csSwap; rw [upD_ne _ (by decide), upD_ne _ (by decide)]) hC (fun pv k1 k2 => HW.out _ pv _ k1 k2)) (fun D A y hD hpre hC => ?_)
  rw [hC.2 hD]
  clear hpre hC hD y A D
  iterate 3 (refine wpMix_read rfl rfl (fun K hK => ?_); go_simp; refine hK _ ?_; clear hK K)
  refine wpMix_act0 rfl rfl rfl rfl (fun D A y hD hp hpre hC => cAct_store (.int .i64 n.thing) rfl rfl rfl rfl rfl (by kernel_rfl) (by unfold csSwap actCells; simp [Node.cells, Did.cells]) (by unfold csSwap; rw [upD_same, hD, upD_ne _ (by decide)]; rfl) (by decide) HH.out.1.rb hC) (fun D A y hD hpre hC => ?_)
  clear hpre hC hD y A D
  iterate 3 (refine wpMix_read rfl rfl (fun K hK => ?_); go_simp; refine hK _ ?_; clear hK K)
  refine wpMix_act0 rfl rfl rfl rfl (fun D A y hD hp hpre hC => cAct_store (.int .i64 x) rfl rfl rfl rfl rfl (by kernel_rfl) (by unfold csSwap actCells; simp [Node.cells, Did.cells]) (by unfold csSwap; rw [upD_same, hD, upD_ne _ (by decide)]; rfl) (by decide) HH.out.1.rb hC) (fun D A y hD hpre hC => ?_)
  clear hpre hC hD y A D
  refine wpMix_nil (fun D A y hD hAA hC => ?_)
  have hP : ActP w y b R g L u m (actCells g t n { d with thing := n.thing, put := x }) := by
    have := hC.1
    unfold csSwap at this
    rw [hD 17 (by decide), hD 21 (by decide)] at this
    exact this
  clear hAA hC hD A D f5 HA hne HW C0
  -- the variable's word goes into the slot
  obtain ⟨pv, hM, -⟩ := id hP.ex
  have hbk := hP.blk
  obtain ⟨mb, mc, hmv, c1, c2, c3, hown⟩ := hM.memAt HH.out.2.2.2.2
  have b0 : y.cell? ⟨b, 0, none⟩ = some (.pointer (some ⟨g, 0, none⟩)) := hbk.cell 0
  have b5 : y.cell? ⟨b, 5, none⟩ = some (.int .i64 j) := by rw [hbk.cell 5, ← HH.out.2.2.1]; rfl
  have g5 : y.cell? ⟨g, 5, none⟩ = some (.slice (some ⟨mb, 0, none⟩) m.mem.length mc) := by rw [hM.cell 5, ← hmv]; rfl
  have j0 : (0 : Int) ≤ j := by omega
  have j1 : (j : Int) < m.mem.length := by have := HH.out.2.2.2.1; omega
  have HN := Lib.hid (And.intro hM hbk)
  have HP := Lib.hid hP
  clear hM hbk hmv hown hP
  go_wp2
  go_still_tail 15, (by kernel_rfl)
  change wpList _ _ _ _ _ (World.drew y)
  have hP1 : ∀ q, ActP w ((((y.drewN 1).setCell ⟨k, js, none⟩ (.int .i64 x0)).setCell ⟨b, 19, none⟩ (.int .i64 x0)).drewN q) b R g L u (m.setSlot t n.slot x0) (actCells g t n { d with thing := n.thing, put := x, word := x0 }) := fun q =>
    (HP.out.drewN 1).getsS HH.out.1.rb HS.out.2.1 HS.out.1 HS.out.2.2.1 q
  have HP1 := Lib.hid hP1; clear hP1
  go_wp2_with fail
  refine (gets_calls x0 (L := { L with pv := pv }) (HN.out.1.drewN 1) (HN.out.2.drewN 1) HS.out.1 HS.out.2.1 HS.out.2.2.1 HS.out.2.2.2).mono ?_
  rintro e z ⟨rfl, q, hw1⟩
  have hP2 : ActP w z b R g L u (m.setSlot t n.slot x0) (actCells g t n { d with thing := n.thing, put := x, word := x0 }) := by rw [hw1]; exact HP1.out q
  clear hw1 HN HP HP1 b0 b5 g5 c1 c2 c3
  -- the variable gets the other word
  obtain ⟨pv2, hM, -⟩ := id hP2.ex
  have hbk := hP2.blk
  have hme : (m.setSlot t n.slot x0).mem = m.mem := rfl
  obtain ⟨mb2, mc2, hmv, c1, c2, c3, hown⟩ := hM.memAt (t := j) (i := x0) HH.out.2.2.2.2
  rw [hme] at hmv
  have nk : b ≠ mb2 := fun e => by
    obtain ⟨cur, hc⟩ := own_in hM.mem hown
    exact row_types hbk hc (by decide) e
  have b0 : z.cell? ⟨b, 0, none⟩ = some (.pointer (some ⟨g, 0, none⟩)) := hbk.cell 0
  have b5 : z.cell? ⟨b, 5, none⟩ = some (.int .i64 j) := by rw [hbk.cell 5, ← HH.out.2.2.1]; rfl
  have b20 : z.cell? ⟨b, 20, none⟩ = some (.int .i64 x) := hbk.cell 20
  have b12 : z.cell? ⟨b, 12, none⟩ = some (.int .i64 n.next) := hbk.cell 12
  have g5 : z.cell? ⟨g, 5, none⟩ = some (.slice (some ⟨mb2, 0, none⟩) m.mem.length mc2) := by rw [hM.cell 5, ← hmv]; rfl
  have e12 : (z.setCell ⟨mb2, j, none⟩ (.int .i64 x)).cell? ⟨b, 12, none⟩ = some (.int .i64 n.next) := (World.cell?_of_block (a := ⟨b, 12, none⟩) (heap_setCell_other z ⟨mb2, j, none⟩ b _ nk)).trans b12
  have HF : Hid (∀ q, ActP w ((z.setCell ⟨mb2, j, none⟩ (.int .i64 x)).drewN q) b R g L u ((m.setSlot t n.slot x0).setVar n.thing x) (actCells g t n { d with thing := n.thing, put := x, word := x0 })) := Lib.hid fun q => by
    refine (hP2.setM (k := mb2) (i := j) (x := .int .i64 x) (m'' := (m.setSlot t n.slot x0).setVar n.thing x) (.inr (.inr (.inl hown))) (fun pv k1 => ?_) nk).drewN q
    unfold Mach.setVar
    rw [HH.out.2.2.1, Int.toNat_natCast]
    exact k1.setVar (L := { L with pv := pv }) hmv x
  clear hM hP2 hbk hmv hown hme
  go_wp2
  go_still_tail 18, (by kernel_rfl)
  go_wp2
  go_ret
  exact ⟨rfl, HF.out _⟩
end
end Go.Proofs.YtffgnjgphkdodaaGreatDoor
/- The walk of the action that branches. -/
namespace Go.Proofs.YtffgnjgphkdodaaGreatDoor
open Go Go.RowKit
attribute [local go_sem] readAtW readUpon
section
variable {w w' : World} {R : Nat → Prop} {g b : Nat} {L : Lay} {u : Unit_} {m : Mach} {t i : Nat} {gr : Graph} {n : Node} {d : Did}
theorem act_8 {m : Mach} {t : Nat} {n : Node} (hk : n.kind = 8) (d : Did) : actM m t n = m ∧ actD m t n d = { d with word := m.val t n.a } ∧ actN m t n = if m.val t n.a = 0 then n.els else n.next := by
  unfold actM actD actN
  simp [hk]
set_option maxRecDepth 100000 in
set_option maxHeartbeats 4000000 in
theorem branch_acts (h : ActH w b R g L u m t gr i n d) (hk : n.kind = 8) :
    Calls Tryz.prog 118 #[.pointer (some ⟨b, 0, none⟩)] w fun e w' => e = .returned (.int .i64 (actN m t n)) ∧ ActP w w' b R g L u (actM m t n) (actCells g t n (actD m t n d)) := by
  obtain ⟨e1, e2, e3⟩ := act_8 (m := m) (t := t) hk d
  rw [e1, e2, e3]
  obtain ⟨x, hx⟩ : ∃ x, m.val t n.a = x := ⟨_, rfl⟩
  have hword := h.word n.a (h.nd.a (.inr (.inr (.inr (.inr hk))))) h.mc h.blk
  rw [hx] at hword ⊢
  have HW := Lib.hid hword
  have HA : Hid (∀ j v, n.a.cells[j]? = some v → w.cell? ⟨b, 6 + j, none⟩ = some v) := Lib.hid (act_a h.blk)
  have HP0 := Lib.hid (ActP.start h.mc h.blk)
  have HH := Lib.hid h
  clear h hk e1 e2 e3 hx hword
  by_cases h0 : x = 0
  · rw [if_pos h0]
    have ex : (x == 0) = true := by simp [h0]
    clear h0
    go_enter Tryz.func118, Tryz.ntmps118
    go_wp2_with (first
      | (refine wpList_load_at rfl 64 _ rfl b 6 rfl _ _ HA.out Tryz.underlying64 rfl (by kernel_rfl) ?_))
    refine HW.out.mono ?_
    rintro e w1 ⟨rfl, hb1⟩
    have hP1 := HP0.out.below hb1
    have b19 : w1.cell? ⟨b, 19, none⟩ = some (.int .i64 d.word) := hP1.blk.cell 19
    have f19 : w1.frozen? ⟨b, 19, none⟩ = false := hP1.blk.frozen 19
    have hP2 := hP1.setB HH.out.rb 19 (.int .i64 x)
    rw [act_word] at hP2
    have hbk := hP2.blk
    have HP := Lib.hid hP2
    clear hP1 hP2 hb1
    have b19' : (w1.setCell ⟨b, 19, none⟩ (.int .i64 x)).cell? ⟨b, 19, none⟩ = some (.int .i64 x) := hbk.cell 19
    have b13' : (w1.setCell ⟨b, 19, none⟩ (.int .i64 x)).cell? ⟨b, 13, none⟩ = some (.int .i64 n.els) := hbk.cell 13
    clear hbk
    go_wp2
    go_ret
    exact ⟨rfl, HP.out⟩
  · rw [if_neg h0]
    have ex : (x == 0) = false := by simp [h0]
    clear h0
    go_enter Tryz.func118, Tryz.ntmps118
    go_wp2_with (first
      | (refine wpList_load_at rfl 64 _ rfl b 6 rfl _ _ HA.out Tryz.underlying64 rfl (by kernel_rfl) ?_))
    refine HW.out.mono ?_
    rintro e w1 ⟨rfl, hb1⟩
    have hP1 := HP0.out.below hb1
    have b19 : w1.cell? ⟨b, 19, none⟩ = some (.int .i64 d.word) := hP1.blk.cell 19
    have f19 : w1.frozen? ⟨b, 19, none⟩ = false := hP1.blk.frozen 19
    have hP2 := hP1.setB HH.out.rb 19 (.int .i64 x)
    rw [act_word] at hP2
    have hbk := hP2.blk
    have HP := Lib.hid hP2
    clear hP1 hP2 hb1
    have b19' : (w1.setCell ⟨b, 19, none⟩ (.int .i64 x)).cell? ⟨b, 19, none⟩ = some (.int .i64 x) := hbk.cell 19
    have b12' : (w1.setCell ⟨b, 19, none⟩ (.int .i64 x)).cell? ⟨b, 12, none⟩ = some (.int .i64 n.next) := hbk.cell 12
    clear hbk
    go_wp2
    go_ret
    exact ⟨rfl, HP.out⟩
end
end Go.Proofs.YtffgnjgphkdodaaGreatDoor
