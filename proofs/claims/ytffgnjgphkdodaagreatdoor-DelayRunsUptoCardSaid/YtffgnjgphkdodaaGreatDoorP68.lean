import Derived.Test.YtffgnjgphkdodaaGreatDoorP66
import Derived.Great.BuildSlice
import Derived.Deep.AppendLies
import Derived.Test.YtffgnjgphkdodaaGreatDoorP67
import Derived.Deep.RegionHeld3
/- The walk of the action that prints. -/
namespace Go.Proofs.YtffgnjgphkdodaaGreatDoor
open Go Go.RowKit
attribute [local go_sem] readAtW readUpon
theorem sl_print : SlT Tryz.prog 113 232 2 16 (.agg #[.int .i64 0, .int .i64 0]) := SlT.mk' Tryz.underlying113 (by kernel_rfl) rfl (by omega)
theorem run_build_print (w : World) (a x : Int) : (Instr.buildSlice 113 1 #[(0, .agg #[.int .i64 a, .int .i64 x])]).run Tryz.prog w = .ok (.slice (some ⟨w.heap.size, 0, none⟩) 1 1) (w.alloc (.cells #[.int .i64 a, .int .i64 x] 232)) := by
  obtain ⟨ie, h1, h2, h3, h4⟩ := sl_print.info
  exact run_buildSlice w _ _ 1 _ _ ie _ sl_print.ht h1 h2 (by rw [h3]; decide) (by rw [h3]; decide) (by rw [h3]; kernel_rfl)
theorem ActP.andThen {w y x : World} {R : Nat → Prop} {g b : Nat} {L : Lay} {u : Unit_} {m m' : Mach} {cs cs' : List Value} {pv : Value} (h : ActP w y b R g L u m cs) (hm : ∀ q, ({ L with pv := pv } : Lay).mut g q → L.mut g q ∨ w.heap.size ≤ q)
    (k : ActP y x b R g { L with pv := pv } u m' cs') : ActP w x b R g L u m' cs' := by
  obtain ⟨pv', k1, k2⟩ := k.ex
  refine ⟨⟨pv', k1, fun q hq => ?_⟩, k.blk, h.fr.andThen k.fr fun q hq e => ?_⟩
  · rcases k2 q hq with e | e
    · exact hm q e
    · exact .inr (Nat.le_trans h.fr.size e)
  · rcases e with e | e
    · exact .inl e
    · rcases hm q e with e2 | e2
      · exact .inr e2
      · omega
/-- Whichever operations have come up of the print's region: y the world ahead. -/
structure PrC (y : World) (R : Nat → Prop) (g b : Nat) (L : Lay) (u : Unit_) (m : Mach) (cs : List Value) (p : Int × Int) (D : Nat → Bool) (A : Nat → Value) (x : World) : Prop where
  o25 : D 25 = true → D 22 = true
  o22 : D 22 = true → D 21 = true
  r21 : D 21 = true → ∃ nb, A 21 = .slice (some ⟨nb, 0, none⟩) 1 1 ∧ (D 22 = false → Blk x nb 232 [.int .i64 p.1, .int .i64 p.2])
  r22 : D 22 = true → ∃ nb cap, A 22 = .slice (some ⟨nb, 0, none⟩) (m.prints.length + 1) cap ∧ (D 25 = false → ∃ x0, Below y.heap.size y x0 ∧ x0.grownBy x L.pv.ownBlock ∧
    x.ownsRow 0 232 2 (.slice (some ⟨nb, 0, none⟩) (m.prints.length + 1) cap) (m.prints.length + 1) (printsV m.prints ++ [.int .i64 p.1, .int .i64 p.2]) ∧ (L.pv.ownBlock = some nb ∨ nb = x0.heap.size))
  bel : D 22 = false → Below y.heap.size y x
  fr : D 25 = false → FrW (fun q => L.pv.ownBlock = some q) y x
  fin : D 25 = true → ActP y x b R g L u { m with prints := m.prints ++ [p] } cs
section
variable {y : World} {R : Nat → Prop} {g b : Nat} {L : Lay} {u : Unit_} {m : Mach} {cs : List Value} {p : Int × Int} {ops : Array Oper}
def cPr (y : World) (R : Nat → Prop) (g b : Nat) (L : Lay) (u : Unit_) (m : Mach) (cs : List Value) (p : Int × Int) : WCls := fun D A x => PrC y R g b L u m cs p D A x
theorem cPr_start (A : Nat → Value) : cPr y R g b L u m cs p (fun _ => false) A y.drew :=
  ⟨fun h => (by cases h), fun h => (by cases h), fun h => (by cases h), fun h => (by cases h), fun _ => (Below.refl _ _).drew, fun _ => FrW.of_below _ (Below.refl _ _).drew, fun h => (by cases h)⟩
theorem cPr_hq : ∀ D A x k, [21, 22, 25].contains k = false → cPr y R g b L u m cs p D A x → cPr y R g b L u m cs p (upD D k) A x := fun D A x k hk h => by
  have e21 : upD D k 21 = D 21 := upD_act hk rfl
  have e22 : upD D k 22 = D 22 := upD_act hk rfl
  have e25 : upD D k 25 = D 25 := upD_act hk rfl
  have h' : PrC y R g b L u m cs p D A x := h
  show PrC y R g b L u m cs p (upD D k) A x
  refine ⟨?_, ?_, ?_, ?_, ?_, ?_, ?_⟩
  · rw [e25, e22]; exact h'.o25
  · rw [e22, e21]; exact h'.o22
  · rw [e22, e21]; exact h'.r21
  · rw [e22, e25]; exact h'.r22
  · rw [e22]; exact h'.bel
  · rw [e25]; exact h'.fr
  · rw [e25]; exact h'.fin
theorem cPr_hA (d1 : dstOf ops 21 ≠ none) (d2 : dstOf ops 22 ≠ none) : ∀ D A A' x, (∀ k, [21, 22, 25].contains k = true → D k = true → dstOf ops k ≠ none → A k = A' k) → cPr y R g b L u m cs p D A x → cPr y R g b L u m cs p D A' x := fun D A A' x hA h => by
  have h' : PrC y R g b L u m cs p D A x := h
  exact ⟨h'.o25, h'.o22, fun hD => by rw [← hA 21 rfl hD d1]; exact h'.r21 hD, fun hD => by rw [← hA 22 rfl hD d2]; exact h'.r22 hD, h'.bel, h'.fr, h'.fin⟩
theorem cPr_build {o : Oper} {a : Act} {e : Operand} (ho : o.op = .buildSlice 113 1 #[(0, e)]) (he : a.eval e = .agg #[.int .i64 p.1, .int .i64 p.2]) {D : Nat → Bool} {A : Nat → Value} {x : World} (hD : D 21 = false) (h : cPr y R g b L u m cs p D A x) :
    actAtW Tryz.prog o a x (fun v w' => cPr y R g b L u m cs p (upD D 21) (upV A 21 v) w') := by
  have h' : PrC y R g b L u m cs p D A x := h
  have h22 : D 22 = false := by
    cases hq : D 22 with
    | false => rfl
    | true => rw [h'.o22 hq] at hD; cases hD
  have h25 : D 25 = false := by
    cases hq : D 25 with
    | false => rfl
    | true => rw [h'.o25 hq] at h22; cases h22
  unfold actAtW execOp
  simp only [ho, List.map_toArray, List.map_cons, List.map_nil, he, run_build_print, Sem.run_bind, Result.andThen_ok, actUpon]
  have hb := (h'.bel h22).alloc (h'.bel h22).size (.cells #[.int .i64 p.1, .int .i64 p.2] 232)
  refine ⟨?_, ?_, fun _ => ⟨x.heap.size, by simp [upV], fun _ => Blk.new x _ _⟩, ?_, fun _ => hb, fun _ => FrW.of_below _ hb, ?_⟩
  · rw [upD_ne _ (by decide), h25]; exact fun h => (by cases h)
  · rw [upD_ne _ (by decide), h22]; exact fun h => (by cases h)
  · rw [upD_ne _ (by decide), h22]; exact fun h => (by cases h)
  · rw [upD_ne _ (by decide), h25]; exact fun h => (by cases h)
theorem cPr_append {o : Oper} {a : Act} {s e : Operand} (hM : MachB y R g L u m) (ho : o.op = .call { callee := .builtin .append, args := #[s, e], argTypes := #[113, 113] }) (hs : a.eval s = L.pv) {nb : Nat} (he : a.eval e = .slice (some ⟨nb, 0, none⟩) 1 1)
    (hpr : (m.prints.length + 1) * 16 ≤ 140737488355328) {D : Nat → Bool} {A : Nat → Value} {x : World} (hD : D 22 = false) (hD1 : D 21 = true) (hA1 : A 21 = .slice (some ⟨nb, 0, none⟩) 1 1) (h : cPr y R g b L u m cs p D A x) :
    actAtW Tryz.prog o a x (fun v w' => cPr y R g b L u m cs p (upD D 22) (upV A 22 v) w') := by
  have h' : PrC y R g b L u m cs p D A x := h
  have h25 : D 25 = false := by
    cases hq : D 25 with
    | false => rfl
    | true => rw [h'.o25 hq] at hD; cases hD
  obtain ⟨nb', e1, e2⟩ := h'.r21 hD1
  obtain rfl : nb = nb' := by rw [hA1] at e1; injection e1 with e1; injection e1 with e1; injection e1
  have hblk := e2 hD
  have hbel := h'.bel hD
  obtain ⟨ie, i1, i2, i3, i4⟩ := sl_print.info
  have hown := (hM.below hbel).prints
  obtain ⟨gb, cap, w1, hr, k1, k2, k3, k4⟩ := run_append_lies (P := Tryz.prog) x 113 o.type 0 _ ie _ 2 16 sl_print.ht i1 i2 i3 i4 sl_print.hzs sl_print.hsz L.pv m.prints.length _ hown ⟨nb, 0, none⟩ 1 1 [.int .i64 p.1, .int .i64 p.2] rfl (fun j v hj => by rw [add_mk, Nat.zero_add, hblk.cell]; exact hj) (by simp [Value.oneCell']) (by omega) (by unfold maxLen; omega) hpr (Nat.zero_le _) _ rfl
  unfold actAtW execOp
  simp only [ho, resolve, invoke, builtin, Sem.run_bind, Sem.run_pure, Result.andThen_ok, List.map_toArray, List.map_cons, List.map_nil, hs, he, hr, actUpon]
  refine ⟨?_, fun _ => by rw [upD_ne _ (by decide)]; exact hD1, fun _ => ⟨nb, by simp [upV, hA1], fun h => (by rw [upD_same] at h; cases h)⟩, fun _ => ⟨gb, cap, by simp [upV], fun _ => ⟨x, hbel, k2, k1, k3⟩⟩, fun h => (by rw [upD_same] at h; cases h), fun _ => (FrW.of_below _ hbel).andThen (FrW.grown (S := fun q => L.pv.ownBlock = some q) k2 fun q e => e) (fun _ _ e => e), ?_⟩
  · rw [upD_ne _ (by decide), h25]; exact fun h => (by cases h)
  · rw [upD_ne _ (by decide), h25]; exact fun h => (by cases h)
theorem cPr_store {o : Oper} {a : Act} {s e : Operand} (hM : MachB y R g L u m) (hblk : Blk y b 133 cs) (hRl : ∀ q, R q → q < y.heap.size) (ho : o.op = .store 113 s e) (hs : a.eval s = .pointer (some ⟨g, 7, none⟩)) {nb cap : Nat} (he : a.eval e = .slice (some ⟨nb, 0, none⟩) (m.prints.length + 1) cap)
    {D : Nat → Bool} {A : Nat → Value} {x : World} (hD : D 25 = false) (hD1 : D 22 = true) (hA1 : A 22 = .slice (some ⟨nb, 0, none⟩) (m.prints.length + 1) cap) (h : cPr y R g b L u m cs p D A x) :
    actAtW Tryz.prog o a x (fun v w' => cPr y R g b L u m cs p (upD D 25) (upV A 25 v) w') := by
  have h' : PrC y R g b L u m cs p D A x := h
  obtain ⟨nb', cap', e1, e2⟩ := h'.r22 hD1
  obtain ⟨rfl, rfl⟩ : nb = nb' ∧ cap = cap' := by
    rw [hA1] at e1
    injection e1 with e1 _ e3
    injection e1 with e1
    injection e1 with e1
    exact ⟨e1, e3⟩
  obtain ⟨x0, k1, k2, k3, k4⟩ := e2 hD
  have hM0 := hM.below k1
  have hfr := h'.fr hD
  have hgb : ¬ L.pv.ownBlock = some g := own_ne hM.prints hM.blk (by decide)
  have hbb : ¬ L.pv.ownBlock = some b := own_ne hM.prints hblk (by decide)
  have hbg : b ≠ g := hM.ne_g hblk (by decide)
  have hgx := hM.blk.fr hfr hgb
  have hst := run_store_one (P := Tryz.prog) x g 7 113 (.slice (some ⟨nb, 0, none⟩) (m.prints.length + 1) cap) (by rw [hgx.cell 7]; rfl) (hgx.frozen 7) (by kernel_rfl) rfl rfl
  unfold actAtW execOp
  simp only [ho, hs, he, Instr.storeAt, Instr.sureAddr, Sem.run_bind, Sem.run_pure, Result.andThen_ok, hst, actUpon]
  have hm2 := hM0.setPrints (pv' := .slice (some ⟨nb, 0, none⟩) (m.prints.length + 1) cap) (p := p) k2 k3 (by
    rcases k4 with e | e
    · exact .inl e.symm
    · exact .inr (congrArg some e)) (fun q hq => Nat.lt_of_lt_of_le (hRl q hq) k1.size)
  refine ⟨fun _ => by rw [upD_ne _ (by decide)]; exact hD1, fun _ => by rw [upD_ne _ (by decide)]; exact h'.o22 hD1, fun _ => ?_, fun _ => ?_, fun h => (by rw [upD_ne _ (by decide), hD1] at h; cases h), fun h => (by rw [upD_same] at h; cases h), fun _ => ⟨⟨_, hm2, fun q hq => ?_⟩, (hblk.fr hfr hbb).far hbg _, ?_⟩⟩
  · obtain ⟨q, h1, h2⟩ := h'.r21 (h'.o22 hD1)
    exact ⟨q, by simpa [upV] using h1, fun h => (by rw [upD_ne _ (by decide), hD1] at h; cases h)⟩
  · exact ⟨nb, cap, by simpa [upV] using hA1, fun h => (by rw [upD_same] at h; cases h)⟩
  · rcases hq with e | e | e | e | e | e
    · exact .inl (.inl e)
    · exact .inl (.inr (.inl e))
    · exact .inl (.inr (.inr (.inl e)))
    · exact .inl (.inr (.inr (.inr (.inl e))))
    · have e : some nb = some q := e
      injection e with e
      subst e
      rcases k4 with k | k
      · exact .inl (.inr (.inr (.inr (.inr (.inl k)))))
      · exact .inr (by rw [k]; exact k1.size)
    · exact .inl (.inr (.inr (.inr (.inr (.inr e)))))
  · exact (hfr.mono (fun q hq => .inr (.inr (.inr (.inr (.inr (.inl hq))))))).trans (FrW.setCell x (.inr (.inl rfl)) _)
end
theorem act_7 {m : Mach} {t : Nat} {n : Node} (hk : n.kind = 7) (d : Did) : actM m t n = { m with prints := m.prints ++ [((t : Int), m.val t n.a)] } ∧ actD m t n d = { d with word := m.val t n.a } ∧ actN m t n = n.next := by
  unfold actM actD actN
  simp [hk]
section
variable {w w' : World} {R : Nat → Prop} {g b : Nat} {L : Lay} {u : Unit_} {m : Mach} {t i : Nat} {gr : Graph} {n : Node} {d : Did}
set_option maxRecDepth 100000 in
set_option maxHeartbeats 4000000 in
theorem print_acts (h : ActH w b R g L u m t gr i n d) (hk : n.kind = 7) (hpr : (m.prints.length + 1) * 16 ≤ 140737488355328) :
    Calls Tryz.prog 117 #[.pointer (some ⟨b, 0, none⟩)] w fun e w' => e = .returned (.int .i64 (actN m t n)) ∧ ActP w w' b R g L u (actM m t n) (actCells g t n (actD m t n d)) := by
  obtain ⟨e1, e2, e3⟩ := act_7 (m := m) (t := t) hk d
  rw [e1, e2, e3]
  obtain ⟨x, hx⟩ : ∃ x, m.val t n.a = x := ⟨_, rfl⟩
  have hword := h.word n.a (h.nd.a (.inr (.inr (.inr (.inl hk))))) h.mc h.blk
  rw [hx] at hword ⊢
  have HW := Lib.hid hword
  have HA : Hid (∀ j v, n.a.cells[j]? = some v → w.cell? ⟨b, 6 + j, none⟩ = some v) := Lib.hid (act_a h.blk)
  have HP0 := Lib.hid (ActP.start h.mc h.blk)
  have HH := Lib.hid (And.intro h hpr)
  clear h hk e1 e2 e3 hx hword hpr
  go_enter Tryz.func117, Tryz.ntmps117
  go_wp2_with (first
    | (refine wpList_load_at rfl 64 _ rfl b 6 rfl _ _ HA.out Tryz.underlying64 rfl (by kernel_rfl) ?_))
  refine HW.out.mono ?_
  rintro e w1 ⟨rfl, hb1⟩
  have hP1 := HP0.out.below hb1
  have b19 : w1.cell? ⟨b, 19, none⟩ = some (.int .i64 d.word) := hP1.blk.cell 19
  have f19 : w1.frozen? ⟨b, 19, none⟩ = false := hP1.blk.frozen 19
  have hP2 := hP1.setB HH.out.1.rb 19 (.int .i64 x)
  rw [act_word] at hP2
  have HP := Lib.hid hP2
  clear hP1 hP2 hb1
  go_wp2
  obtain ⟨y, hy⟩ : ∃ y, w1.setCell ⟨b, 19, none⟩ (.int .i64 x) = y := ⟨_, rfl⟩
  have HY := HP; clear HP
  rw [hy] at HY
  rw [hy]
  clear hy b19 f19
  have hY := HY.out
  obtain ⟨pv, hM, hmu⟩ := id hY.ex
  have hbk := hY.blk
  have hRl : ∀ q, R q → q < y.heap.size := fun q hq => Nat.lt_of_lt_of_le (HH.out.1.rl q hq) hY.fr.size
  obtain ⟨pA, pc, hpv⟩ := hM.pvf
  have hpv : pv = .slice pA m.prints.length pc := hpv
  subst hpv
  have HM := Lib.hid (And.intro hM (And.intro hbk hRl))
  have hne1 : ∀ z : XC (cPr y R g b { L with pv := .slice pA m.prints.length pc } u m (actCells g t n { d with word := x }) (t, x)) [25], FrW (fun q => (Value.slice pA m.prints.length pc).ownBlock = some q) y z.w := fun z => PrC.fr z.2.1 (z.2.2 25 (by simp))
  have hbb : ¬ (Value.slice pA m.prints.length pc).ownBlock = some b := own_ne hM.prints hbk (by decide)
  have hgb : ¬ (Value.slice pA m.prints.length pc).ownBlock = some g := own_ne hM.prints hM.blk (by decide)
  have f0 : ∀ z : XC (cPr y R g b { L with pv := .slice pA m.prints.length pc } u m (actCells g t n { d with word := x }) (t, x)) [25], z.w.cell? ⟨b, 0, none⟩ = some (.pointer (some ⟨g, 0, none⟩)) := fun z => (hne1 z).cell (hbk.cell 0) hbb
  have f1 : ∀ z : XC (cPr y R g b { L with pv := .slice pA m.prints.length pc } u m (actCells g t n { d with word := x }) (t, x)) [25], z.w.cell? ⟨b, 1, none⟩ = some (.int .i64 t) := fun z => (hne1 z).cell (hbk.cell 1) hbb
  have f19 : ∀ z : XC (cPr y R g b { L with pv := .slice pA m.prints.length pc } u m (actCells g t n { d with word := x }) (t, x)) [25], z.w.cell? ⟨b, 19, none⟩ = some (.int .i64 x) := fun z => (hne1 z).cell (hbk.cell 19) hbb
  have f7 : ∀ z : XC (cPr y R g b { L with pv := .slice pA m.prints.length pc } u m (actCells g t n { d with word := x }) (t, x)) [25], z.w.cell? ⟨g, 7, none⟩ = some (.slice pA m.prints.length pc) := fun z => (hne1 z).cell (hM.cell 7) hgb
  haveI hne : Nonempty (XC (cPr y R g b { L with pv := .slice pA m.prints.length pc } u m (actCells g t n { d with word := x }) (t, x)) [25]) := XC.ne (cPr_start (y := y))
  clear hne1 hbb hgb hM hbk hRl hY
  refine wp_region_mixF (cPr y R g b { L with pv := .slice pA m.prints.length pc } u m (actCells g t n { d with word := x }) (t, x)) [21, 22, 25] [0, 1, 2, 3, 4, 5, 6, 7, 8, 9, 10, 11, 12, 13, 14, 15, 16, 17, 18, 19, 20, 21, 22, 23, 24, 25] [25] (by kernel_rfl) (by kernel_rfl) (by kernel_rfl) (by kernel_rfl) cPr_start
    cPr_hq (cPr_hA (by decide) (by decide)) (dst_small (by rfl)) ?_
  iterate 21 (refine wpMix_read rfl rfl (fun K hK => ?_); go_simp; refine hK _ ?_; clear hK K)
  refine wpMix_act (some 35) rfl rfl rfl rfl (fun D A z hD hp hpre hC => cPr_build rfl rfl hD hC) (fun D A z hD hpre hC => ?_)
  obtain ⟨nb, hnb, -⟩ := PrC.r21 hC hD
  rw [hnb]
  clear hpre hC hD hnb z A D
  refine wpMix_act (some 36) rfl rfl rfl rfl (fun D A z hD hp hpre hC => cPr_append HM.out.1 rfl rfl rfl HH.out.2 hD (hpre 21 (by simp)).1 (hpre 21 (by simp)).2 hC) (fun D A z hD hpre hC => ?_)
  obtain ⟨nb2, cap2, hnb, -⟩ := PrC.r22 hC hD
  rw [hnb]
  clear hpre hC hD hnb z A D
  iterate 2 (refine wpMix_read rfl rfl (fun K hK => ?_); go_simp; refine hK _ ?_; clear hK K)
  refine wpMix_act0 rfl rfl rfl rfl (fun D A z hD hp hpre hC => cPr_store HM.out.1 HM.out.2.1 HM.out.2.2 rfl rfl rfl hD (hpre 22 (by simp)).1 (hpre 22 (by simp)).2 hC) (fun D A z hD hpre hC => ?_)
  clear hpre hC hD z A D
  refine wpMix_nil (fun D A z hD hAA hC => ?_)
  have hP : ActP w z b R g L u { m with prints := m.prints ++ [((t : Int), x)] } (actCells g t n { d with word := x }) := HY.out.andThen hmu (PrC.fin hC (hD 25 (by decide)))
  clear hAA hC hD D A f0 f1 f19 f7 hne hmu
  have b12 : z.cell? ⟨b, 12, none⟩ = some (.int .i64 n.next) := hP.blk.cell 12
  have HF := Lib.hid hP; clear hP
  go_wp2
  go_ret
  exact ⟨rfl, HF.out⟩
end
end Go.Proofs.YtffgnjgphkdodaaGreatDoor
/- The walk of the action that sets a slot. -/
namespace Go.Proofs.YtffgnjgphkdodaaGreatDoor
open Go Go.RowKit
attribute [local go_sem] readAtW readUpon
theorem act_1 {m : Mach} {t : Nat} {n : Node} (hk : n.kind = 1) (d : Did) : actM m t n = m.setSlot t n.slot (setV m t n) ∧ actD m t n d = { d with word := setV m t n } ∧ actN m t n = n.next := by
  unfold actM actD actN
  simp [hk]
section
variable {w w' : World} {R : Nat → Prop} {g b : Nat} {L : Lay} {u : Unit_} {m : Mach} {t i : Nat} {gr : Graph} {n : Node} {d : Did}
/-- Behind the word that is set. -/
theorem set_end (h : ActH w b R g L u m t gr i n d) (hk : n.kind = 1) {z : World} (hP : ActP w z b R g L u m (actCells g t n d)) (x : Int) :
    Calls Tryz.prog 166 #[.pointer (some ⟨b, 0, none⟩), .int .i64 x] z fun e w' => e = .returned (.tuple #[]) ∧ ActP w w' b R g L u (m.setSlot t n.slot x) (actCells g t n { d with word := x }) := by
  obtain ⟨l, k, hl, hgl, hlen⟩ := h.slots
  have hsl := h.nd.slot (.inl hk)
  obtain ⟨js, hjs⟩ := Int.eq_ofNat_of_zero_le hsl.1
  have hjsl : js < l.length := by omega
  obtain ⟨pv, hM, -⟩ := id hP.ex
  refine (gets_calls x (L := { L with pv := pv }) hM hP.blk hl hgl hjs hjsl).mono ?_
  rintro e w1 ⟨rfl, q, rfl⟩
  exact ⟨rfl, hP.getsS h.rb hgl hl hjs q⟩
set_option maxRecDepth 100000 in
set_option maxHeartbeats 4000000 in
theorem set_acts (h : ActH w b R g L u m t gr i n d) (hk : n.kind = 1) :
    Calls Tryz.prog 111 #[.pointer (some ⟨b, 0, none⟩)] w fun e w' => e = .returned (.int .i64 (actN m t n)) ∧ ActP w w' b R g L u (actM m t n) (actCells g t n (actD m t n d)) := by
  obtain ⟨e1, e2, e3⟩ := act_1 (m := m) (t := t) hk d
  rw [e1, e2, e3]
  have hop := h.nd.op hk
  obtain ⟨x, hx⟩ : ∃ x, m.val t n.a = x := ⟨_, rfl⟩
  have hxi : i64 x := by rw [← hx]; exact h.mi.val t h.no.a
  have hword := h.word n.a (h.nd.a (.inl hk)) h.mc h.blk
  rw [hx] at hword
  obtain ⟨v, hv⟩ : ∃ v, setV m t n = v := ⟨_, rfl⟩
  rw [hv]
  have HW := Lib.hid hword
  have HA : Hid (∀ j v, n.a.cells[j]? = some v → w.cell? ⟨b, 6 + j, none⟩ = some v) := Lib.hid (act_a h.blk)
  have HP0 := Lib.hid (ActP.start h.mc h.blk)
  have HH := Lib.hid (And.intro h (And.intro hk (And.intro hx hxi)))
  have HT := Lib.hid (w_two n.op hop.1)
  by_cases h2 : twoB n.op = true
  · obtain ⟨z, hz⟩ : ∃ z, m.val t n.b = z := ⟨_, rfl⟩
    have hzi : i64 z := by rw [← hz]; exact h.mi.val t h.no.b
    have hv2 : v = doF n.op x z := by rw [← hv]; unfold setV; rw [if_pos h2, hx, hz]
    have HV := Lib.hid (And.intro hv2 (And.intro h2 (And.intro hz hzi)))
    have hwb : ∀ w1, ActP w w1 b R g L u m (actCells g t n d) → Calls Tryz.prog 162 #[.pointer (some ⟨b, 0, none⟩), .agg n.b.cells.toArray] w1 fun e w' => e = .returned (.int .i64 z) ∧ Below w1.heap.size w1 w' := fun w1 hP => by
      obtain ⟨pv, hM, -⟩ := hP.ex
      have := h.word n.b (h.nd.b hk h2) hM hP.blk
      rwa [hz] at this
    have HB := Lib.hid hwb
    clear h hk e1 e2 e3 hx hword hop hxi hv h2 hz hzi hv2 hwb
    go_enter Tryz.func111, Tryz.ntmps111
    go_wp2_with (first
      | (refine wpList_load_at rfl 64 _ rfl b 6 rfl _ _ HA.out Tryz.underlying64 rfl (by kernel_rfl) ?_))
    refine HW.out.mono ?_
    rintro e w1 ⟨rfl, hb1⟩
    have hP1 := HP0.out.below hb1
    have b3 : w1.cell? ⟨b, 3, none⟩ = some (.int .u8 n.op) := hP1.blk.cell 3
    have hb' := hP1.blk.lt
    have HP1 := Lib.hid hP1; clear hP1
    clear hb1
    go_wp2_with fail
    refine (HT.out _).mono ?_
    rintro e w1 ⟨rfl, rfl⟩
    rw [HV.out.2.1]
    go_wp2_with fail
    have c9 : w1.cell? ⟨b, 9, none⟩ = some (.bool n.b.isSlot) := HP1.out.blk.cell 9
    have c10 : w1.cell? ⟨b, 10, none⟩ = some (.int .i64 n.b.slot) := HP1.out.blk.cell 10
    have c11 : w1.cell? ⟨b, 11, none⟩ = some (.int .i64 n.b.word) := HP1.out.blk.cell 11
    have HQ := Lib.hid (fun wx (hb : Below w1.heap.size w1 wx) => HP1.out.below hb)
    go_region_held3 (fun w' => w'.cell? ⟨b, 3, none⟩ = some (.int .u8 n.op) ∧ w'.cell? ⟨b, 9, none⟩ = some (.bool n.b.isSlot) ∧ w'.cell? ⟨b, 10, none⟩ = some (.int .i64 n.b.slot) ∧ w'.cell? ⟨b, 11, none⟩ = some (.int .i64 n.b.word)) (go_keep)
      (first
        | (go_at_call 162; refine (HB.out _ (HQ.out _ (Below.refl _ _).drew)).mono ?_; rintro e wy ⟨rfl, hbw⟩; have hPy := HQ.out _ ((Below.refl w1.heap.size w1).drew.trans hbw); have k3 : wy.cell? ⟨b, 3, none⟩ = some (.int .u8 n.op) := hPy.blk.cell 3; have k9 : wy.cell? ⟨b, 9, none⟩ = some (.bool n.b.isSlot) := hPy.blk.cell 9; have k10 : wy.cell? ⟨b, 10, none⟩ = some (.int .i64 n.b.slot) := hPy.blk.cell 10; have k11 : wy.cell? ⟨b, 11, none⟩ = some (.int .i64 n.b.word) := hPy.blk.cell 11; have HPy := Lib.hid hPy; clear hPy hbw)
        | (go_at_call 164; refine (w_do n.op x z HV.out.2.1 HH.out.2.2.2 HV.out.2.2.2 _).mono ?_; rintro e wz ⟨rfl, hbz⟩; have hPz := HPy.out.below hbz; have q3 : wz.cell? ⟨b, 3, none⟩ = some (.int .u8 n.op) := hPz.blk.cell 3; have q9 : wz.cell? ⟨b, 9, none⟩ = some (.bool n.b.isSlot) := hPz.blk.cell 9; have q10 : wz.cell? ⟨b, 10, none⟩ = some (.int .i64 n.b.slot) := hPz.blk.cell 10; have q11 : wz.cell? ⟨b, 11, none⟩ = some (.int .i64 n.b.word) := hPz.blk.cell 11; have HPz := Lib.hid hPz; clear hPz hbz; rw [← HV.out.1]))
    have HG := Lib.hid (set_end HH.out.1 HH.out.2.1 HPz.out v)
    go_wp2_with fail
    refine HG.out.mono ?_
    rintro e w3 ⟨rfl, hP3⟩
    have b12 : w3.cell? ⟨b, 12, none⟩ = some (.int .i64 n.next) := hP3.blk.cell 12
    have HF := Lib.hid hP3; clear hP3
    go_wp2
    go_ret
    exact ⟨rfl, HF.out⟩
  · have h2' : twoB n.op = false := by simpa using h2
    by_cases h0 : n.op = 0
    · have hv2 : v = x := by rw [← hv]; unfold setV; rw [if_neg h2, if_pos h0, hx]
      subst hv2
      have e0 : (n.op != 0) = false := by simp [h0]
      have HV := Lib.hid h2'
      clear h hk e1 e2 e3 hx hword hop hxi hv h2 h2' h0
      go_enter Tryz.func111, Tryz.ntmps111
      go_wp2_with (first
        | (refine wpList_load_at rfl 64 _ rfl b 6 rfl _ _ HA.out Tryz.underlying64 rfl (by kernel_rfl) ?_))
      refine HW.out.mono ?_
      rintro e w1 ⟨rfl, hb1⟩
      have hP1 := HP0.out.below hb1
      have b3 : w1.cell? ⟨b, 3, none⟩ = some (.int .u8 n.op) := hP1.blk.cell 3
      have HG := Lib.hid (set_end HH.out.1 HH.out.2.1 hP1 v)
      clear hP1 hb1
      go_wp2_with fail
      refine (HT.out _).mono ?_
      rintro e w2 ⟨rfl, rfl⟩
      rw [HV.out]
      go_wp2_with fail
      refine HG.out.mono ?_
      rintro e w3 ⟨rfl, hP3⟩
      have b12 : w3.cell? ⟨b, 12, none⟩ = some (.int .i64 n.next) := hP3.blk.cell 12
      have HF := Lib.hid hP3; clear hP3
      go_wp2
      go_ret
      exact ⟨rfl, HF.out⟩
    · have h17 : n.op = 17 ∨ n.op = 18 := by
        unfold twoB at h2'
        rw [decide_eq_false_iff_not] at h2'
        omega
      have hv2 : v = oneF n.op x := by rw [← hv]; unfold setV; rw [if_neg h2, if_neg h0, hx]
      have e0 : (n.op != 0) = true := by simp [h0]
      have HO := Lib.hid (And.intro (w_one n.op x h17) hv2)
      have HV := Lib.hid h2'
      clear h hk e1 e2 e3 hx hword hop hxi hv h2 h2' h0 h17 hv2
      go_enter Tryz.func111, Tryz.ntmps111
      go_wp2_with (first
        | (refine wpList_load_at rfl 64 _ rfl b 6 rfl _ _ HA.out Tryz.underlying64 rfl (by kernel_rfl) ?_))
      refine HW.out.mono ?_
      rintro e w1 ⟨rfl, hb1⟩
      have hP1 := HP0.out.below hb1
      have b3 : w1.cell? ⟨b, 3, none⟩ = some (.int .u8 n.op) := hP1.blk.cell 3
      have HP1 := Lib.hid hP1
      clear hP1 hb1
      go_wp2_with fail
      refine (HT.out _).mono ?_
      rintro e w2 ⟨rfl, rfl⟩
      rw [HV.out]
      go_wp2_with fail
      refine (HO.out.1 _).mono ?_
      rintro e w2 ⟨rfl, hb2⟩
      rw [← HO.out.2]
      have hP2 := HP1.out.below hb2
      have HG := Lib.hid (set_end HH.out.1 HH.out.2.1 hP2 v)
      clear hP2 hb2
      go_wp2_with fail
      refine HG.out.mono ?_
      rintro e w3 ⟨rfl, hP3⟩
      have b12 : w3.cell? ⟨b, 12, none⟩ = some (.int .i64 n.next) := hP3.blk.cell 12
      have HF := Lib.hid hP3; clear hP3
      go_wp2
      go_ret
      exact ⟨rfl, HF.out⟩
end
end Go.Proofs.YtffgnjgphkdodaaGreatDoor
