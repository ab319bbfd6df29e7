import Derived.Test.YtffgnjgphkdodaaGreatDoorP63
import Derived.Test.YtffgnjgphkdodaaGreatDoorP61
import Derived.Test.YtffgnjgphkdodaaGreatDoorP62
import Derived.Test.YtffgnjgphkdodaaGreatDoorP09
import Derived.StillTailTactics
/- The walks of the source machine: whether there is such a thread, a value's word. -/
namespace Go.Proofs.YtffgnjgphkdodaaGreatDoor
open Go Go.RowKit
theorem ret_int {a b : Int} (h : a = b) : Ending.returned (.int .i64 a) = .returned (.int .i64 b) := by rw [h]
def actCells (g : Nat) (t : Int) (n : Node) (d : Did) : List Value := .pointer (some ⟨g, 0, none⟩) :: .int .i64 t :: (n.cells ++ d.cells)
section
variable {w w' : World} {R : Nat → Prop} {g : Nat} {L : Lay} {u : Unit_} {m : Mach}
/-- What the machine's own block holds. -/
theorem MachB.cell (h : MachB w R g L u m) (j : Nat) : w.cell? ⟨g, j, none⟩ = L.cells[j]? := h.blk.cell j
theorem MachB.avf (h : MachB w R g L u m) : ∃ A c, L.av = .slice A m.at_.length c := by obtain ⟨A, c, e, _⟩ := own_slice h.at_; exact ⟨A, c, e⟩
theorem MachB.pvf (h : MachB w R g L u m) : ∃ A c, L.pv = .slice A m.prints.length c := by obtain ⟨A, c, e, _⟩ := own_slice h.prints; exact ⟨A, c, e⟩
/-- An element of a row of one-cell elements. -/
theorem own_elem {base n : Nat} {e : TypeId} {v : Value} {xs : List Value} (h : w.ownsRow base e 1 v n xs) {i : Nat} {x : Value} (hx : xs[i]? = some x) :
    ∃ b c, v = .slice (some ⟨b, 0, none⟩) n c ∧ w.cell? ⟨b, i, none⟩ = some x ∧ w.frozen? ⟨b, i, none⟩ = false ∧ b < w.heap.size ∧ v.ownBlock = some b := by
  have hlt := (List.getElem?_eq_some_iff.1 hx).1
  have hl := h.1
  rcases id h.2 with ⟨rfl, rfl⟩ | ⟨b, c, cur, rfl, _, hh, _⟩
  · omega
  · refine ⟨b, c, rfl, ?_, h.frozenAt i, lt_of_block hh, rfl⟩
    rw [h.cellAt i (by omega)]; exact hx
theorem MachB.atAt (h : MachB w R g L u m) {t i : Nat} (hi : m.at_[t]? = some i) : ∃ b c, L.av = .slice (some ⟨b, 0, none⟩) m.at_.length c ∧ w.cell? ⟨b, t, none⟩ = some (.int .i64 i) ∧ w.frozen? ⟨b, t, none⟩ = false ∧ b < w.heap.size ∧ L.av.ownBlock = some b :=
  own_elem h.at_ (by unfold natsV; rw [List.getElem?_map, hi]; rfl)
theorem MachB.memAt (h : MachB w R g L u m) {t : Nat} {i : Int} (hi : m.mem[t]? = some i) : ∃ b c, L.mv = .slice (some ⟨b, 0, none⟩) m.mem.length c ∧ w.cell? ⟨b, t, none⟩ = some (.int .i64 i) ∧ w.frozen? ⟨b, t, none⟩ = false ∧ b < w.heap.size ∧ L.mv.ownBlock = some b :=
  own_elem h.mem (by unfold i64sV; rw [List.getElem?_map, hi]; rfl)
theorem MachB.holdAt (h : MachB w R g L u m) {t : Nat} {i : Int} (hi : m.holders[t]? = some i) : ∃ b c, L.hv = .slice (some ⟨b, 0, none⟩) m.holders.length c ∧ w.cell? ⟨b, t, none⟩ = some (.int .i64 i) ∧ w.frozen? ⟨b, t, none⟩ = false ∧ b < w.heap.size ∧ L.hv.ownBlock = some b :=
  own_elem h.hold (by unfold i64sV; rw [List.getElem?_map, hi]; rfl)
/-- A thread's slots. -/
theorem MachB.slotsAt (h : MachB w R g L u m) {t : Nat} {l : List Int} (hl : m.slots[t]? = some l) : ∃ ob oo c k, L.ov = .slice (some ⟨ob, oo, none⟩) m.slots.length c ∧ w.cell? ⟨ob, oo + t, none⟩ = some (.slice (some ⟨k, 0, none⟩) l.length l.length) ∧ L.gl[t]? = some k ∧ Blk w k 2 (i64sV l) ∧ ob < w.heap.size ∧ R ob := by
  have hlt := (List.getElem?_eq_some_iff.1 hl).1
  have hlg : t < L.gl.length := by rw [h.gl]; exact hlt
  have hk : L.gl[t]? = some L.gl[t] := List.getElem?_eq_getElem hlg
  have hz : (L.gl.zip (m.slots.map List.length))[t]? = some (L.gl[t], l.length) := by
    rw [List.getElem?_zip_eq_some]
    exact ⟨hk, by rw [List.getElem?_map, hl]; rfl⟩
  have hlen : (L.gl.zip (m.slots.map List.length)).length = m.slots.length := by rw [List.length_zip, List.length_map, h.gl, Nat.min_self]
  obtain ⟨A, c, e, -⟩ := id h.outer
  rw [hlen] at e
  have ho := h.outer
  rw [e] at ho
  obtain ⟨ob, oo, rfl, hc⟩ := ho.at_ hz
  rw [Nat.mul_one] at hc
  obtain ⟨h1, h2⟩ := on_at hc
  exact ⟨ob, oo, c, _, e, h1, hk, h.slot t _ l hk hl, World.block_lt_of_cell? w ⟨ob, oo + t, none⟩ h1, h2⟩
end
set_option maxHeartbeats 1000000 in
theorem there_calls (t : Int) {w : World} {R : Nat → Prop} {g : Nat} {L : Lay} {u : Unit_} {m : Mach} (h : MachB w R g L u m) :
    Calls Tryz.prog 72 #[.pointer (some ⟨g, 0, none⟩), .int .i64 t] w fun e w' => e = .returned (.bool (decide (0 ≤ t ∧ t < m.at_.length))) ∧ ∃ n, w' = w.drewN n := by
  obtain ⟨A, c, hA⟩ := h.avf
  have c3 : w.cell? ⟨g, 3, none⟩ = some (.slice A m.at_.length c) := by rw [h.cell 3, ← hA]; rfl
  clear h hA
  obtain ⟨n, hn⟩ : ∃ n, m.at_.length = n := ⟨_, rfl⟩
  rw [hn] at c3 ⊢
  clear hn
  by_cases h1 : 0 ≤ t
  · by_cases h2 : t < n
    · rw [decide_eq_true ⟨h1, h2⟩]
      go_enter Tryz.func72, Tryz.ntmps72
      go_wp2
      go_ret
      exact ⟨rfl, 0, rfl⟩
    · rw [decide_eq_false (fun q => h2 q.2)]
      go_enter Tryz.func72, Tryz.ntmps72
      go_wp2
      go_ret
      exact ⟨rfl, 0, rfl⟩
  · rw [decide_eq_false (fun q => h1 q.1)]
    go_enter Tryz.func72, Tryz.ntmps72
    go_wp2
    go_ret
    exact ⟨rfl, 0, rfl⟩
end Go.Proofs.YtffgnjgphkdodaaGreatDoor
/- The walk of what keeps a thread from stepping. -/
namespace Go.Proofs.YtffgnjgphkdodaaGreatDoor
open Go Go.RowKit
attribute [local go_sem] readAtW readUpon
def nodeZ : List Value := [.int .u8 0, .int .u8 0, .int .i64 0, .int .i64 0, .bool false, .int .i64 0, .int .i64 0, .bool false, .int .i64 0, .int .i64 0, .int .i64 0, .int .i64 0, .int .i64 0]
section
variable {w w' : World} {R : Nat → Prop} {g : Nat} {L : Lay} {u : Unit_} {m : Mach}
/-- Where a thread's node lies. -/
theorem MachB.nodeAt (h : MachB w R g L u m) {t : Nat} {gr : Graph} {i : Nat} {n : Node} (hs : Stands u m t gr i n) : ∃ gb go gc nb no nc, L.gv = .slice (some ⟨gb, go, none⟩) u.graphs.length gc ∧
    w.cell? ⟨gb, go + t * 4 + 3, none⟩ = some (.slice (some ⟨nb, no, none⟩) gr.nodes.length nc) ∧ (∀ j v, n.cells[j]? = some v → w.cell? ⟨nb, no + i * 13 + j, none⟩ = some v) ∧ gb < w.heap.size ∧ nb < w.heap.size := by
  obtain ⟨sv, lv, gv, e, -, -, hg⟩ := h.unit
  injection e with e1 e; injection e with e2 e; injection e with e3 _
  subst e1 e2 e3
  obtain ⟨gA, gc, hgv, -⟩ := id hg
  rw [hgv] at hg
  obtain ⟨gb, go, rfl, cs, ⟨nv, rfl, hn⟩, hcs⟩ := hg.at_ hs.gr
  obtain ⟨nA, nc, rfl, -⟩ := id hn
  obtain ⟨nb, no, rfl, hnc⟩ := hn.at_ hs.nd
  have c3 := (on_at (hcs 3 _ rfl)).1
  have hn0 : ∀ j v, n.cells[j]? = some v → w.cell? ⟨nb, no + i * 13 + j, none⟩ = some v := fun j v hv => (on_at (hnc j v hv)).1
  exact ⟨gb, go, gc, nb, no, nc, hgv, c3, hn0, World.block_lt_of_cell? w _ c3, World.block_lt_of_cell? w _ (hn0 0 _ rfl)⟩
end
theorem drewN_below {w w' : World} (n : Nat) (h : Below w.heap.size w w') : Below w.heap.size w (w'.drewN n) := ⟨h.os, h.tape, h.output, h.size, h.block⟩
set_option maxRecDepth 100000 in
set_option maxHeartbeats 4000000 in
theorem bar_calls (t : Int) {w : World} {R : Nat → Prop} {g : Nat} {L : Lay} {u : Unit_} {m : Mach} (h : MachB w R g L u m) (hok : MachOk u m) (hu : RightU u) :
    Calls Tryz.prog 71 #[.pointer (some ⟨g, 0, none⟩), .int .i64 t] w fun e w' => e = .returned (.int .i64 (barF u m t)) ∧ Below w.heap.size w w' := by
  by_cases hr : 0 ≤ t ∧ t < m.at_.length
  · have hd : decide (0 ≤ t ∧ t < m.at_.length) = true := decide_eq_true hr
    obtain ⟨k, rfl⟩ := Int.eq_ofNat_of_zero_le hr.1
    have hkl : k < u.graphs.length := by rw [← hok.at_]; omega
    obtain ⟨gr, i, n, hs⟩ := stands_at hok hkl
    rw [hs.bar hok]
    obtain ⟨r, hr0⟩ : ∃ r, barN m n = r := ⟨_, rfl⟩
    rw [hr0]
    have HR := Lib.hid hr0; clear hr0
    have hin := hok.node k gr i hs.gr hs.pc
    obtain ⟨ab, ac, hav, a1, a2, a3, -⟩ := h.atAt hs.pc
    obtain ⟨gb, go, gc, nb, no, nc, hgv, c3, hnc, l1, l2⟩ := h.nodeAt hs
    have g2 : w.cell? ⟨g, 2, none⟩ = some (.slice (some ⟨gb, go, none⟩) u.graphs.length gc) := by rw [h.cell 2, ← hgv]; rfl
    have g3 : w.cell? ⟨g, 3, none⟩ = some (.slice (some ⟨ab, 0, none⟩) m.at_.length ac) := by rw [h.cell 3, ← hav]; rfl
    have hgl := h.blk.lt
    have i0 : (0 : Int) ≤ k := by omega
    have i1 : (k : Int) < m.at_.length := hr.2
    have i2 : (k : Int) < u.graphs.length := by omega
    have j0 : (0 : Int) ≤ i := by omega
    have j1 : (i : Int) < gr.nodes.length := by omega
    have hnF := ndF ((hu.graphs gr (List.mem_of_getElem? hs.gr)).nodes n (List.mem_of_getElem? hs.nd))
    have HT := Lib.hid (And.intro (there_calls (k : Int) h) hd)
    have HM := Lib.hid h
    have HO := Lib.hid (And.intro hok (And.intro hs (And.intro hin hnF)))
    have HL := Lib.hid hnc
    clear h hd hok hs hin hnF hnc hav hgv hr hkl
    go_enter Tryz.func71, Tryz.ntmps71
    go_wp2_with (first
      | (go_at_call 72; refine HT.out.1.mono ?_; rintro e w1 ⟨rfl, q1, rfl⟩; rw [HT.out.2]))
    haveI hne : Nonempty (XC (cNew (w.drewN q1) 66 nodeZ n.cells 18 19)) := XC.ne cNew_start
    have hB : ∀ x : XC (cNew (w.drewN q1) 66 nodeZ n.cells 18 19), Below w.heap.size w x.w := fun x => (drewN_below q1 (Below.refl _ w)).trans (cNew_below x)
    have f2 : ∀ x : XC (cNew (w.drewN q1) 66 nodeZ n.cells 18 19), x.w.cell? ⟨g, 2, none⟩ = some (.slice (some ⟨gb, go, none⟩) u.graphs.length gc) := fun x => ((hB x).cell (p := ⟨g, 2, none⟩) hgl).trans g2
    have f3 : ∀ x : XC (cNew (w.drewN q1) 66 nodeZ n.cells 18 19), x.w.cell? ⟨g, 3, none⟩ = some (.slice (some ⟨ab, 0, none⟩) m.at_.length ac) := fun x => ((hB x).cell (p := ⟨g, 3, none⟩) hgl).trans g3
    have f4 : ∀ x : XC (cNew (w.drewN q1) 66 nodeZ n.cells 18 19), x.w.cell? ⟨ab, k, none⟩ = some (.int .i64 i) := fun x => ((hB x).cell (p := ⟨ab, k, none⟩) a3).trans a1
    have f5 : ∀ x : XC (cNew (w.drewN q1) 66 nodeZ n.cells 18 19), x.w.cell? ⟨gb, go + k * 4 + 3, none⟩ = some (.slice (some ⟨nb, no, none⟩) gr.nodes.length nc) := fun x => ((hB x).cell (p := ⟨gb, _, none⟩) l1).trans c3
    have f6 : ∀ x : XC (cNew (w.drewN q1) 66 nodeZ n.cells 18 19), ∀ j v, n.cells[j]? = some v → x.w.cell? ⟨nb, no + i * 13 + j, none⟩ = some v := fun x j v hj => ((hB x).cell (p := ⟨nb, _, none⟩) l2).trans (HL.out j v hj)
    have F6 := Lib.hid f6
    clear f6
    refine wp_region_mix (cNew (w.drewN q1) 66 nodeZ n.cells 18 19) [18, 19] [0, 1, 2, 3, 4, 5, 6, 7, 8, 9, 10, 11, 12, 13, 14, 15, 16, 17, 18, 19] (by kernel_rfl) (by kernel_rfl) (by kernel_rfl) cNew_start (cNew_hq rfl rfl) (cNew_hA rfl (by decide)) (dst_small (by rfl)) ?_
    repeat (refine wpMix_read rfl rfl (fun K hK => ?_); go_simp; refine hK _ ?_; clear hK K)
    refine wpMix_load (some 31) rfl rfl rfl rfl 66 _ rfl nb (no + i * 13) rfl n.cells _ F6.out Tryz.underlying66 rfl (by kernel_rfl) ?_
    refine wpMix_act (some 5) rfl rfl rfl rfl (fun D A x hD _ _ hC => cNew_alloc rfl (.agg nodeZ.toArray) rfl (fun _ => by kernel_rfl) (by decide) hD hC) (fun D A x hD hpre hC => ?_)
    rw [hC.2.1 hD]
    clear hpre hC hD x A D
    refine wpMix_act0 rfl rfl rfl rfl (fun D A x hD hp hpre hC => cNew_store (W := w.drewN q1) (z := nodeZ) (cs := n.cells) rfl rfl rfl (by kernel_rfl) rfl rfl (by decide) (hpre 18 (by simp)).1 hD hC) (fun D A x hD hpre hC => ?_)
    clear hpre hC hD x A D
    refine wpMix_nil (fun D A x hD hAA hC => ?_)
    obtain ⟨q2, rfl⟩ := cNew_end (hD 19 (by decide)) hC
    clear hAA hC hD A D
    simp only [Act.put, List.setIfInBounds_toArray, List.set_cons_zero, List.set_cons_succ]
    clear f2 f3 f4 f5 F6 hB hne g2 g3 a1 a2 a3 c3 HL l1 l2
    have hcell : ∀ j v, n.cells[j]? = some v → (((w.drewN q1).alloc (.cells n.cells.toArray 66)).drewN q2).cell? ⟨w.heap.size, 0 + j, none⟩ = some v := cell_newl (w.drewN q1) n.cells 66 w.heap.size rfl
    obtain ⟨W2, hW2⟩ : ∃ W2, ((w.drewN q1).alloc (.cells n.cells.toArray 66)).drewN q2 = W2 := ⟨_, rfl⟩
    have hb2 : Below w.heap.size w W2 := by rw [← hW2]; exact drewN_below q2 (Below_dalloc w q1 _)
    rw [hW2] at hcell ⊢
    clear hW2
    have k0 : W2.cell? ⟨w.heap.size, 0, none⟩ = some (.int .u8 n.kind) := hcell 0 _ rfl
    have k3 : W2.cell? ⟨w.heap.size, 3, none⟩ = some (.int .i64 n.thing) := hcell 3 _ rfl
    clear hcell
    have HB := Lib.hid hb2; clear hb2
    rw [show (w.drewN q1).heap.size = w.heap.size from rfl]
    by_cases h9 : n.kind = 9
    · have e9 : (n.kind == 9) = true := by rw [h9]; rfl
      have hb0 : barN m n = 70 := by unfold barN; rw [if_pos h9]
      have HV := Lib.hid hb0; clear hb0 h9
      go_wp2
      go_ret
      exact ⟨ret_int (HV.out.symm.trans HR.out), HB.out⟩
    · have e9 : (n.kind == 9) = false := by simpa using h9
      by_cases h5 : n.kind = 5
      · have e5 : (n.kind == 5) = true := by rw [h5]; rfl
        have hth := HO.out.2.2.2.lock (.inl h5)
        obtain ⟨th, hth0⟩ := Int.eq_ofNat_of_zero_le hth.1
        have hthl : th < m.holders.length := by rw [HO.out.1.holders]; omega
        obtain ⟨x, hx⟩ : ∃ x, m.holders[th]? = some x := ⟨_, List.getElem?_eq_getElem hthl⟩
        obtain ⟨hb, hc, hhv, b1, b2, b3, -⟩ := HM.out.holdAt hx
        have g6 : w.cell? ⟨g, 6, none⟩ = some (.slice (some ⟨hb, 0, none⟩) m.holders.length hc) := by rw [HM.out.cell 6, ← hhv]; rfl
        have g6' : W2.cell? ⟨g, 6, none⟩ = some (.slice (some ⟨hb, 0, none⟩) m.holders.length hc) := (HB.out.cell (p := ⟨g, 6, none⟩) hgl).trans g6
        have b1' : W2.cell? ⟨hb, th, none⟩ = some (.int .i64 x) := (HB.out.cell (p := ⟨hb, th, none⟩) b3).trans b1
        have t0 : (0 : Int) ≤ th := by omega
        have t1 : (th : Int) < m.holders.length := by omega
        have hbn : barN m n = if 0 ≤ x then 71 else 0 := by
          unfold barN
          rw [if_neg h9, hth0, Int.toNat_natCast, hx]
          simp [h5]
        rw [hth0] at k3
        have HV := Lib.hid hbn
        clear hbn g6 b1 b2 b3 hhv hx hthl hth hth0 h5 h9
        by_cases hx0 : 0 ≤ x
        · have ex : decide (x ≥ 0) = true := decide_eq_true hx0
          have HV2 := Lib.hid (HV.out.symm.trans HR.out); rw [if_pos hx0] at HV2; clear hx0
          go_wp2
          go_quiet (fail)
          go_wp2
          go_ret
          exact ⟨ret_int HV2.out, drewN_below _ HB.out⟩
        · have ex : decide (x ≥ 0) = false := decide_eq_false hx0
          have HV2 := Lib.hid (HV.out.symm.trans HR.out); rw [if_neg hx0] at HV2; clear hx0
          go_wp2
          go_quiet (fail)
          go_wp2
          go_ret
          exact ⟨ret_int HV2.out, drewN_below _ HB.out⟩
      · have e5 : (n.kind == 5) = false := by simpa using h5
        have hb0 : barN m n = 0 := by unfold barN; rw [if_neg h9, if_neg (fun q => h5 q.1)]
        have HV := Lib.hid hb0; clear hb0 h9 h5
        go_wp2
        go_quiet (fail)
        go_wp2
        go_ret
        exact ⟨ret_int (HV.out.symm.trans HR.out), drewN_below _ HB.out⟩
  · have hd : decide (0 ≤ t ∧ t < m.at_.length) = false := decide_eq_false hr
    have hb : barF u m t = 2 := by unfold barF; rw [if_pos (by omega)]
    rw [hb]
    have HT := Lib.hid (And.intro (there_calls t h) hd)
    clear h hd hb hr hok hu
    go_enter Tryz.func71, Tryz.ntmps71
    go_wp2_with (first
      | (go_at_call 72; refine HT.out.1.mono ?_; rintro e w1 ⟨rfl, q1, rfl⟩; rw [HT.out.2]))
    go_ret
    exact ⟨rfl, drewN_below q1 (Below.refl _ w)⟩
end Go.Proofs.YtffgnjgphkdodaaGreatDoor
/- The walks of what a value is, and of a word put into the node's slot. -/
namespace Go.Proofs.YtffgnjgphkdodaaGreatDoor
open Go Go.RowKit
section
variable {w w' : World} {R : Nat → Prop} {g b : Nat} {L : Lay} {u : Unit_} {m : Mach} {t : Nat} {n : Node} {d : Did}
set_option maxRecDepth 100000 in
set_option maxHeartbeats 1000000 in
theorem wordOf_calls (v : Val) (h : MachB w R g L u m) (hb : Blk w b 133 (actCells g t n d)) (ht : t < m.slots.length) (hv : v.isSlot = true → 0 ≤ v.slot ∧ ∀ l, m.slots[t]? = some l → v.slot < l.length) :
    Calls Tryz.prog 162 #[.pointer (some ⟨b, 0, none⟩), .agg v.cells.toArray] w fun e w' => e = .returned (.int .i64 (m.val t v)) ∧ Below w.heap.size w w' := by
  obtain ⟨is, sl, wd⟩ := v
  cases is with
  | false =>
    have hval : m.val t ⟨false, sl, wd⟩ = wd := rfl
    rw [hval]
    unfold Val.cells
    clear h hb ht hv hval
    go_enter Tryz.func162, Tryz.ntmps162
    go_wp2
    go_ret
    exact ⟨rfl, Below_alloc' _ _⟩
  | true =>
    obtain ⟨l, hl⟩ : ∃ l, m.slots[t]? = some l := ⟨_, List.getElem?_eq_getElem ht⟩
    obtain ⟨s0, s1⟩ := hv rfl
    have s1 := s1 l hl
    dsimp only at s0 s1
    obtain ⟨j, rfl⟩ := Int.eq_ofNat_of_zero_le s0
    obtain ⟨ob, oo, oc, k, hov, c1, hk, hB, l1, -⟩ := h.slotsAt hl
    have hjl : j < l.length := by omega
    have hval : m.val t ⟨true, j, wd⟩ = l[j] := by
      unfold Mach.val Mach.slot
      simp [hl, hjl]
    rw [hval]
    have b0 : w.cell? ⟨b, 0, none⟩ = some (.pointer (some ⟨g, 0, none⟩)) := hb.cell 0
    have b1 : w.cell? ⟨b, 1, none⟩ = some (.int .i64 t) := hb.cell 1
    have g4 : w.cell? ⟨g, 4, none⟩ = some (.slice (some ⟨ob, oo, none⟩) m.slots.length oc) := by rw [h.cell 4, ← hov]; rfl
    have kj : w.cell? ⟨k, j, none⟩ = some (.int .i64 l[j]) := by rw [hB.cell j]; unfold i64sV; rw [List.getElem?_map, List.getElem?_eq_getElem hjl]; rfl
    obtain ⟨x, hx⟩ : ∃ x, l[j] = x := ⟨_, rfl⟩
    rw [hx] at kj ⊢
    have lb := hb.lt
    have lg := h.blk.lt
    have lk := hB.lt
    have t0 : (0 : Int) ≤ t := by omega
    have t1 : (t : Int) < m.slots.length := by omega
    have Hb := Below_alloc' w (.cells #[.bool true, .int .i64 j, .int .i64 wd] 64)
    have b0' := (Hb.cell (p := ⟨b, 0, none⟩) lb).trans b0
    have b1' := (Hb.cell (p := ⟨b, 1, none⟩) lb).trans b1
    have g4' := (Hb.cell (p := ⟨g, 4, none⟩) lg).trans g4
    have c1' := (Hb.cell (p := ⟨ob, oo + t, none⟩) l1).trans c1
    have kj' := (Hb.cell (p := ⟨k, j, none⟩) lk).trans kj
    have HB := Lib.hid Hb
    clear h hb ht hv hval hB hk hov hl hx Hb b0 b1 g4 c1 kj
    unfold Val.cells
    go_enter Tryz.func162, Tryz.ntmps162
    go_wp2
    go_quiet (fail)
    go_wp2
    go_ret
    exact ⟨rfl, drewN_below _ HB.out⟩
set_option maxRecDepth 100000 in
set_option maxHeartbeats 1000000 in
theorem gets_calls (x : Int) (h : MachB w R g L u m) (hb : Blk w b 133 (actCells g t n d)) {l : List Int} {k j : Nat} (hl : m.slots[t]? = some l) (hk : L.gl[t]? = some k) (hj : n.slot = j) (hjl : j < l.length) :
    Calls Tryz.prog 166 #[.pointer (some ⟨b, 0, none⟩), .int .i64 x] w fun e w' => e = .returned (.tuple #[]) ∧ ∃ q, w' = ((w.setCell ⟨k, j, none⟩ (.int .i64 x)).setCell ⟨b, 19, none⟩ (.int .i64 x)).drewN q := by
  have ht := (List.getElem?_eq_some_iff.1 hl).1
  obtain ⟨ob, oo, oc, k', hov, c1, hk', hB, l1, hR⟩ := h.slotsAt hl
  obtain rfl : k = k' := by rw [hk] at hk'; injection hk'
  have b0 : w.cell? ⟨b, 0, none⟩ = some (.pointer (some ⟨g, 0, none⟩)) := hb.cell 0
  have b1 : w.cell? ⟨b, 1, none⟩ = some (.int .i64 t) := hb.cell 1
  have b4 : w.cell? ⟨b, 4, none⟩ = some (.int .i64 j) := by rw [hb.cell 4, ← hj]; rfl
  have b19 : w.cell? ⟨b, 19, none⟩ = some (.int .i64 d.word) := hb.cell 19
  have f19 : w.frozen? ⟨b, 19, none⟩ = false := hb.frozen 19
  have g4 : w.cell? ⟨g, 4, none⟩ = some (.slice (some ⟨ob, oo, none⟩) m.slots.length oc) := by rw [h.cell 4, ← hov]; rfl
  have kj : w.cell? ⟨k, j, none⟩ = some (.int .i64 l[j]) := by rw [hB.cell j]; unfold i64sV; rw [List.getElem?_map, List.getElem?_eq_getElem hjl]; rfl
  have fk : w.frozen? ⟨k, j, none⟩ = false := hB.frozen j
  have nk : b ≠ k := row_types hb hB (by decide)
  have t0 : (0 : Int) ≤ t := by omega
  have t1 : (t : Int) < m.slots.length := by omega
  have j0 : (0 : Int) ≤ j := by omega
  have j1 : (j : Int) < l.length := by omega
  obtain ⟨y, hy⟩ : ∃ y, l[j] = y := ⟨_, rfl⟩
  rw [hy] at kj
  have e19 : (w.setCell ⟨k, j, none⟩ (.int .i64 x)).cell? ⟨b, 19, none⟩ = some (.int .i64 d.word) := (World.cell?_of_block (a := ⟨b, 19, none⟩) (heap_setCell_other w ⟨k, j, none⟩ b _ nk)).trans b19
  have h19 : (w.setCell ⟨k, j, none⟩ (.int .i64 x)).frozen? ⟨b, 19, none⟩ = false := (World.frozen?_of_block (a := ⟨b, 19, none⟩) (heap_setCell_other w ⟨k, j, none⟩ b _ nk)).trans f19
  clear h hb hB hl hk hov hy hj hR ht hjl
  go_enter Tryz.func166, Tryz.ntmps166
  go_wp2
  go_still_tail 20, (by kernel_rfl)
  go_wp2
  refine bodyPost_end (results_none rfl _ _ _) rfl ⟨rfl, _, rfl⟩
end
end Go.Proofs.YtffgnjgphkdodaaGreatDoor
