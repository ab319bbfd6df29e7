import Derived.Test.YtkkmkjjbffpgnaaP28
import Derived.Test.YtkkmkjjbffpgnaaP08
/- The iterator of sharing: touches(u) hands out the touches of a unit, in their order. -/
namespace Go.Proofs.Ytkkmkjjbffpgnaa
open Go Go.RowKit Go.Shelf
attribute [local go_sem] Oper.semAt_some
/-- The block that the caller's slice owns, which lies in a box. -/
def cOf (bx : Option Nat) (W : World) : Option Nat := match bx with
  | none => none
  | some k => ((W.cell? ⟨k, 0, none⟩).getD undef).ownBlock
/-- What a round that goes on keeps: what lay below n0; every row of cells from B on but the caller's own. -/
structure KeepI (n0 B : Nat) (bx : Option Nat) (W W' : World) : Prop where
  low : Below n0 W W'
  size : W.heap.size ≤ W'.heap.size
  own : ∀ b cur t fr, B ≤ b → some b ≠ cOf bx W → W.heap[b]? = some (.cells cur t fr) → W'.heap[b]? = some (.cells cur t fr)
  new : cOf bx W' = cOf bx W ∨ ∃ q, cOf bx W' = some q ∧ W.heap.size ≤ q
  bound : (∀ q, cOf bx W = some q → q < W.heap.size) → ∀ q, cOf bx W' = some q → q < W'.heap.size
theorem KeepI.trans {n0 B : Nat} {bx : Option Nat} {a b c : World} (h : KeepI n0 B bx a b) (k : KeepI n0 B bx b c) : KeepI n0 B bx a c := by
  refine ⟨h.low.trans k.low, Nat.le_trans h.size k.size, fun q cur t fr hB hne hq => k.own q cur t fr hB ?_ (h.own q cur t fr hB hne hq), ?_, fun hb => k.bound (h.bound hb)⟩
  · rcases h.new with e | ⟨x, e, hx⟩
    · rw [e]; exact hne
    · rw [e]
      intro e2
      injection e2 with e2
      have := lt_of_block hq
      omega
  · rcases k.new with e | ⟨x, e, hx⟩
    · rcases h.new with e2 | ⟨y, e2, hy⟩
      · exact .inl (e.trans e2)
      · exact .inr ⟨y, e.trans e2, hy⟩
    · exact .inr ⟨x, e, Nat.le_trans h.size hx⟩
theorem cOf_below {bx : Option Nat} {a b : World} (h : Below a.heap.size a b) (hk : ∀ k, bx = some k → k < a.heap.size) : cOf bx b = cOf bx a := by
  unfold cOf
  cases bx with
  | none => rfl
  | some k =>
    dsimp only
    rw [World.cell?_of_block (h.block k (hk k rfl))]
theorem KeepI.below {n0 B : Nat} {bx : Option Nat} {a b : World} (h : Below a.heap.size a b) (hn : n0 ≤ a.heap.size) (hk : ∀ k, bx = some k → k < a.heap.size) : KeepI n0 B bx a b :=
  ⟨h.mono hn, h.size, fun q _ _ _ _ _ hq => (h.block q (lt_of_block hq)).trans hq, .inl (cOf_below h hk), fun hb q hq => by
    rw [cOf_below h hk] at hq
    exact Nat.lt_of_lt_of_le (hb q hq) h.size⟩
theorem KeepI.putObj {n0 B : Nat} {bx : Option Nat} (W : World) (l : Nat) (o o' : Obj) (hn : n0 ≤ l) (hk : ∀ k, bx = some k → k < l) (hl : W.heap[l]? = some o) (hc : o.isCells = false) : KeepI n0 B bx W (W.putObj l o') := by
  have hlt : l < W.heap.size := (Array.getElem?_eq_some_iff.1 hl).1
  have hoth : ∀ b, b ≠ l → (W.putObj l o').heap[b]? = W.heap[b]? := fun b hb => World.putObj_heap_other hb
  have hs : (W.putObj l o').heap.size = W.heap.size := by simp [World.putObj]
  have hcof : cOf bx (W.putObj l o') = cOf bx W := by
    unfold cOf
    cases bx with
    | none => rfl
    | some k =>
      dsimp only
      rw [World.cell?_of_block (hoth k (by have := hk k rfl; omega))]
  refine ⟨⟨rfl, rfl, rfl, by omega, fun b hb => hoth b (by omega)⟩, by omega, fun b cur t fr _ _ hb => ?_, .inl hcof, fun h q hq => by rw [hcof] at hq; have := h q hq; omega⟩
  by_cases e : b = l
  · subst e
    rw [hl] at hb
    injection hb with hb
    subst hb
    cases hc
  · exact (hoth b e).trans hb
/-- The iterator's own rows stay readable. -/
theorem KeepI.part {n0 B lo : Nat} {bx : Option Nat} {a b : World} (h : KeepI n0 B bx a b) (hB : B ≤ lo) (hc : ∀ q, cOf bx a = some q → q < lo) : (part a lo a.heap.size).le (cmap b) := by
  intro q o v hv
  obtain ⟨h1, h2, h3⟩ := part_at hv
  cases hq : a.heap[q]? with
  | none => simp [World.cell?, hq] at h1
  | some obj =>
    cases obj with
    | cells cur t fr =>
      have := h.own q cur t fr (by omega) (fun e => by have := hc q e.symm; omega) hq
      show b.cell? _ = _
      rw [World.cell?_of_block (this.trans hq.symm)]
      exact h1
    | _ => simp [World.cell?, hq] at h1
theorem part_belowL {W w' : World} {n0 : Nat} (h : Below n0 W w') : (part W 0 n0).le (part w' 0 n0) := part_keep fun b _ hb => h.block b hb
theorem box_set (w : World) (m : Nat) (a0 a1 a2 a3 a4 a5 v : Value) (t : TypeId) (b : Nat) (hb : b = w.heap.size) : ((w.alloc (.cells #[a0, a1, a2, a3, a4, a5] t)).drewN m).setCell ⟨b, 5, none⟩ v = (w.alloc (.cells #[a0, a1, a2, a3, a4, v] t)).drewN m := by
  have h := World.setCell_alloc_at (w := w) #[a0, a1, a2, a3, a4, a5] t b 5 v hb
  exact congrArg (fun x : World => x.drewN m) h
theorem Ints_at' {m : CM} {A : Option Addr} {n c : Nat} {l : List Int} (h : Ints m (.slice A n c) l) {i : Nat} {x : Int} (hx : l[i]? = some x) : ∃ b o, A = some ⟨b, o, none⟩ ∧ m b (o + i) = some (.int .i64 x) := by
  obtain ⟨b, o, e, h2⟩ := h.at_ hx
  exact ⟨b, o, e, by have : m b (o + i * 1) = some (.int .i64 x) := h2; rwa [Nat.mul_one] at this⟩
def tchEnc (u : Unit_) (x : Tch u) : Array Value := #[.agg (tchCells x.1).toArray]
set_option maxRecDepth 100000 in
set_option maxHeartbeats 8000000 in
theorem touches1_in (u : Unit_) (hru : RightU u) (cs : List Value) (n l Bu n0 B : Nat) (bx : Option Nat) (hn : 1 ≤ n) (J Jx : List (Tch u) → World → Prop) (W : World) (hJ : AbidesFrom W.heap.size J) (hn0 : n0 ≤ W.heap.size) (hB : B ≤ W.heap.size) (hk : ∀ k, bx = some k → k < W.heap.size) (hcb : ∀ q, cOf bx W = some q → q < W.heap.size)
    (hY : ∀ pre x W1, J pre W1 → pre.length < (TTa u).length → YieldAt Fence.wide (n - 1) Try.prog l (tchEnc u x) W1 fun e W' =>
      (e = .returned (.bool true) ∧ J (pre ++ [x]) W' ∧ KeepI n0 B bx W1 W') ∨ (e = .returned (.bool false) ∧ Jx (pre ++ [x]) W'))
    (hbu : Blk W Bu 25 cs) (hu : UnitV (part W 0 n0) cs u) (h0 : J [] W) :
    CallsIn Fence.wide n Try.prog 71 #[.func (.yield l) #[] #[], .pointer (some ⟨Bu, 0, none⟩)] W fun e W' => (∃ v, e = .returned v) ∧
      ((∃ xs, xs = TTa u ∧ J xs W') ∨ (∃ pre, pre <+: TTa u ∧ Jx pre W')) := by
  have hu0 := hu
  obtain ⟨sv, lv, gv, rfl, hs, hl, hg⟩ := hu
  obtain ⟨gA, gc, rfl, -⟩ := id hg
  have c2 := hbu.cell 2
  have hg8 := hru.threads
  refine callsIn_of_wp Try.func71 rfl trivial ?_ rfl
  simp only [Try.ntmps71, List.size_toArray, List.length_cons, List.length_nil, Nat.reduceAdd, Nat.reduceSub, Array.replicate_succ, Array.replicate_zero, List.push_toArray, List.append_toArray, List.nil_append, List.cons_append]
  gi_wp2
  gi_loopw [16] (fun v16 wr => ∃ (t : Nat) (pre : List (Tch u)), v16 = .int .i64 t ∧ t ≤ u.graphs.length ∧ J pre wr ∧ Come u pre (trest1 u t) ∧ KeepI n0 B bx W wr ∧ W.heap.size ≤ wr.heap.size) (fun v16 _ => u.graphs.length - (intOf v16).toNat)
  case atStart => exact ⟨0, [], rfl, by omega, h0, by rw [trest1_zero]; exact Come.start u, KeepI.below (Below.refl _ _) hn0 hk, Nat.le_refl _⟩
  case round =>
    obtain ⟨t, pre, rfl, ht, hJr, hC, hK, hws⟩ := hrel
    by_cases hlt : t < u.graphs.length
    · obtain ⟨g, hgt⟩ : ∃ g, u.graphs[t]? = some g := ⟨_, List.getElem?_eq_getElem hlt⟩
      have hrg := hru.graphs g (List.mem_of_getElem? hgt)
      rw [trest1_at hgt] at hC
      obtain ⟨b, o, rfl, cg, hgv, hdc⟩ := hg.at_ hgt
      have HGV := hgv
      obtain ⟨nv, rfl, nA, nc, rfl, -⟩ := hgv
      have hlow := hK.low
      have hgl : (part W 0 n0).le (cmap wr) := (part_belowL hlow).trans (part_le _ _ _)
      have HLDg : Hid (∀ j v, ([.string g.name, .int .i64 g.locals, .int .i64 g.slots, .slice nA g.nodes.length nc] : List Value)[j]? = some v → wr.cell? ⟨b, o + t * 4 + j, none⟩ = some v) := Lib.hid fun j v h => hgl _ _ _ (hdc j v h)
      have HLD2 : Hid (∀ j v, ([.string g.name, .int .i64 g.locals, .int .i64 g.slots, .slice nA g.nodes.length nc] : List Value)[j]? = some v → (wr.alloc (.cells #[.string g.name, .int .i64 g.locals, .int .i64 g.slots, .slice nA g.nodes.length nc] 70)).cell? ⟨wr.heap.size, 0 + j, none⟩ = some v) := cell_newl wr _ _ _ rfl
      have hbx := Blk.new wr 70 [.string g.name, .int .i64 g.locals, .int .i64 g.slots, .slice nA g.nodes.length nc]
      have hg1 : GraphV (cmap (wr.alloc (.cells #[.string g.name, .int .i64 g.locals, .int .i64 g.slots, .slice nA g.nodes.length nc] 70))) [.string g.name, .int .i64 g.locals, .int .i64 g.slots, .slice nA g.nodes.length nc] g := HGV.mono (hgl.trans (cmap_alloc _ _))
      have ht0 : (0 : Int) ≤ t := by omega
      have htl : (t : Int) < u.graphs.length := by omega
      have HGT := Lib.hid hgt; clear hgt hdc
      gi_wp2_with (first
        | (refine wpListIn_load_at rfl 70 _ rfl b (o + t * 4) rfl _ _ HLDg.out Try.underlying70 rfl (by kernel_rfl) ?_)
        | (refine wpListIn_load_at rfl 70 _ rfl wr.heap.size 0 rfl _ _ HLD2.out Try.underlying70 rfl (by kernel_rfl) ?_))
      refine ⟨trivial, ?_⟩
      refine (callsIn_wide.2 (reached_calls g _ _ hrg.whole hg1)).mono ?_
      rintro e w1 ⟨rv, rl, rfl, hrv, hrl, hri, hb1⟩
      have hw1 : Below wr.heap.size wr w1 := (Below_alloc' _ _).trans (hb1.mono (by simp))
      have hbx1 := hbx.below hb1 hbx.lt
      have HLD3 : Hid (∀ j v, ([.string g.name, .int .i64 g.locals, .int .i64 g.slots, .slice nA g.nodes.length nc] : List Value)[j]? = some v → w1.cell? ⟨wr.heap.size, 0 + j, none⟩ = some v) := Lib.hid fun j v hj => by rw [Nat.zero_add, hbx1.cell]; exact hj
      have hg2 : GraphV (cmap w1) [.string g.name, .int .i64 g.locals, .int .i64 g.slots, .slice nA g.nodes.length nc] g := HGV.mono (hgl.trans (cmap_below hw1))
      have hsz1 := hb1.size
      simp only [World.size_alloc] at hsz1 hrv
      obtain ⟨rA, rc, rfl, -⟩ := id hrv
      rw [hrl] at hrv ⊢
      have HRL := Lib.hid hrl; clear hrl
      gi_wp2_with (first
        | (refine wpListIn_load_at rfl 70 _ rfl wr.heap.size 0 rfl _ _ HLD3.out Try.underlying70 rfl (by kernel_rfl) ?_))
      refine ⟨trivial, ?_⟩
      refine (callsIn_wide.2 (Held_calls g _ _ hrg.whole hg2)).mono ?_
      rintro e w2 (⟨v, L, rfl, h1, h2, hb2⟩ | ⟨a, rfl, h1, -⟩)
      rotate_left
      · obtain ⟨L, hL⟩ := hrg.held
        rw [hL] at h1
        cases h1
      have hLe := heldL_ok h1
      have hLN : L.length = g.nodes.length := by rw [← hLe]; exact heldL_len hrg
      obtain ⟨hA, hc, rfl, -⟩ := id h2
      rw [hLN] at h2 ⊢
      have HLE := Lib.hid hLe; clear hLe h1
      have HLN := Lib.hid hLN; clear hLN
      have hw2 : Below wr.heap.size wr w2 := hw1.trans (hb2.mono hw1.size)
      have hbx2 := hbx1.below hb2 hbx1.lt
      have c3 := hbx2.cell 3
      have hsz2 := hb2.size
      have hnm := hrg.whole.most
      have hbr := hK.bound hcb
      have hkr : ∀ k, bx = some k → k < wr.heap.size := fun k e => by have := hk k e; omega
      have hK2 : KeepI n0 B bx wr w2 := KeepI.below hw2 (by omega) hkr
      have hc2 : ∀ q, cOf bx w2 = some q → q < wr.heap.size := fun q e => by rw [cOf_below hw2 hkr] at e; exact hbr q e
      have hJ2 : J pre w2 := hJ pre wr w2 none hJr ⟨hw2.os, hw2.tape, hw2.output, hw2.size, fun k hk _ => hw2.block k hk⟩ (fun r e => by cases e)
      gi_wp2
      obtain ⟨wo, rfl⟩ : ∃ wo : World, wo = wr := ⟨_, rfl⟩
      gi_loopw [31] (fun v31 wr => ∃ (i : Nat) (pre2 : List (Tch u)), v31 = .int .i64 i ∧ i ≤ g.nodes.length ∧ J pre2 wr ∧ Come u pre2 (trest2 u t g i) ∧ KeepI n0 B bx w2 wr) (fun v31 _ => g.nodes.length - (intOf v31).toNat)
      case atStart => exact ⟨0, pre, rfl, by omega, hJ2, hC, KeepI.below (Below.refl _ _) (by omega) (fun k e => by have := hkr k e; omega)⟩
      case round =>
        obtain ⟨i, pre2, rfl, hi, hJi, hCi, hKi⟩ := hrel
        have hsi := hKi.size
        by_cases hlti : i < g.nodes.length
        · obtain ⟨N, hN⟩ : ∃ N, g.nodes[i]? = some N := ⟨_, List.getElem?_eq_getElem hlti⟩
          obtain ⟨lr, hlr⟩ : ∃ lr, L[i]? = some lr := ⟨_, List.getElem?_eq_getElem (by rw [HLN.out]; exact hlti)⟩
          obtain ⟨bv, hbv⟩ : ∃ bv, rl[i]? = some bv := ⟨_, List.getElem?_eq_getElem (by rw [HRL.out]; exact hlti)⟩
          have hlowi : Below n0 W wr := (hlow.trans hK2.low).trans hKi.low
          obtain ⟨nvv, hnve, hns⟩ := HGV
          injection hnve with _ hnve; injection hnve with _ hnve; injection hnve with _ hnve; injection hnve with hnve _
          subst hnve
          obtain ⟨bn, on_, rfl, hnc⟩ := hns.at_ hN
          have HLDn : Hid (∀ j v, N.cells[j]? = some v → wr.cell? ⟨bn, on_ + i * 13 + j, none⟩ = some v) := Lib.hid fun j v h => ((part_belowL hlowi).trans (part_le _ _ _)) _ _ _ (hnc j v h)
          have hpi : (part w2 wo.heap.size w2.heap.size).le (cmap wr) := hKi.part (by omega) hc2
          have hrv2 := (hrv.mono ((part_keep (fun b h1 h2 => hb2.block b h2)).trans (part_mono (by omega) hsz2))).mono hpi
          have hhv2 := (h2.mono (part_mono (w := w2) (lo := w1.heap.size) (lo' := wo.heap.size) (by omega) (Nat.le_refl _))).mono hpi
          obtain ⟨rb, ro, rfl, hrc⟩ := hrv2.at_ hbv
          rw [Nat.mul_one] at hrc
          have hrc' : wr.cell? ⟨rb, ro + i, none⟩ = some (.bool bv) := hrc
          obtain ⟨hb_, ho_, rfl, lv, hlc, hls⟩ := hhv2.at_ hlr
          rw [Nat.mul_one] at hlc
          have hlc' : wr.cell? ⟨hb_, ho_ + i, none⟩ = some lv := hlc
          obtain ⟨lA, lc, rfl, -⟩ := id hls
          have hll : lr.length ≤ 4096 := heldL_long hrg (by rw [HLE.out]; exact List.mem_of_getElem? hlr)
          have hrbl : rb < wr.heap.size := World.block_lt_of_cell? wr ⟨rb, ro + i, none⟩ hrc'
          have hhbl : hb_ < wr.heap.size := World.block_lt_of_cell? wr ⟨hb_, ho_ + i, none⟩ hlc'
          have hrbl2 : rb < wr.heap.size + 1 := Nat.lt_succ_of_lt hrbl
          have hhbl2 : hb_ < wr.heap.size + 1 := Nat.lt_succ_of_lt hhbl
          have hreach : bv = true ↔ ReachC g (-1) i := by rw [← hri i, hbv]; simp
          have hheld : lr = heldAt g i := by unfold heldAt; rw [HLE.out, hlr]; rfl
          have hlm : ∀ x ∈ lr, 0 ≤ x ∧ x < 16 := fun x hx => by have := heldL_mem hrg (by rw [HLE.out]; exact List.mem_of_getElem? hlr) hx; have := hru.locks; omega
          have hi0 : (0 : Int) ≤ i := by omega
          have hil : (i : Int) < g.nodes.length := by omega
          have hkb := fun k e => hkr k e
          have hci : ∀ q, cOf bx wr = some q → q < wr.heap.size := hKi.bound (fun q e => by have := hc2 q e; omega)
          have hkk : ∀ k, bx = some k → k < wr.heap.size := fun k e => by have := hkr k e; omega
          have hJI : Hid (∀ w', Below wr.heap.size wr w' → J pre2 w') := Lib.hid fun w' hb => hJ pre2 wr w' none hJi ⟨hb.os, hb.tape, hb.output, hb.size, fun k hk _ => hb.block k hk⟩ (fun r e => by cases e)
          have hKI : Hid (∀ w', Below wr.heap.size wr w' → KeepI n0 B bx w2 w') := Lib.hid fun w' hb => hKi.trans (KeepI.below hb (by omega) hkk)
          have hgon : Hid ((bv = false ∨ touchB N = false) → Come u pre2 (trest2 u t g (i + 1))) := Lib.hid fun h => by
            rw [← trest2_no hN (h.imp (fun h hr => by rw [hreach.2 hr] at h; cases h) id)]
            exact hCi
          have hyes : Hid (bv = true → touchB N = true → Come u pre2 (⟨t, i, N, lr⟩ :: trest2 u t g (i + 1))) := Lib.hid fun h h' => by
            rw [hheld, ← trest2_yes hN (hreach.1 h) h']
            exact hCi
          have HLM := Lib.hid hlm; clear hlm
          clear hhv2 hrv2 hrc hlc hnc hns hN hlr hbv hreach hheld hCi hJi hri hkb hkk hci hpi
          obtain ⟨nk, nop, nsl, nth, ⟨a1, a2, a3⟩, ⟨b1, b2, b3⟩, nn, ne_, no⟩ := N
          have HLDN : Hid (∀ j v, ([.int .u8 nk, .int .u8 nop, .int .i64 nsl, .int .i64 nth, .bool a1, .int .i64 a2, .int .i64 a3, .bool b1, .int .i64 b2, .int .i64 b3, .int .i64 nn, .int .i64 ne_, .int .i64 no] : List Value)[j]? = some v → wr.cell? ⟨bn, on_ + i * 13 + j, none⟩ = some v) := HLDn
          clear HLDn
          by_cases hkinds : nk = 2 ∨ nk = 3 ∨ nk = 4
          · cases bv with
            | false =>
              have hgo := hgon.out (.inl rfl)
              rcases hkinds with rfl | rfl | rfl
              all_goals (
                gi_wp2_with (first
                  | (refine wpListIn_load_at rfl 67 _ rfl bn (on_ + i * 13) rfl _ _ HLDN.out Try.underlying67 rfl (by kernel_rfl) ?_))
                go_roundw
                case rel => exact ⟨i + 1, pre2, by go_num, by omega, hJI.out _ (((Below.refl _ _).alloc (Nat.le_refl _) _).alloc (by simp) _), hgo, hKI.out _ (((Below.refl _ _).alloc (Nat.le_refl _) _).alloc (by simp) _)⟩
                case measure => simp [intOf]; omega)
            | true =>
              rcases hkinds with rfl | rfl | rfl
              · have hC2 := hyes.out rfl (by unfold touchB; simp)
                obtain ⟨x, hx1, hxl, hCx⟩ := hC2.next
                have hEnc : tchEnc u x = #[.agg #[.int .i64 t, .int .i64 i, .int .i64 nth, .bool true, .bool false, .int .u32 (hMask lr : Nat)]] := by
                  unfold tchEnc tchCells
                  rw [hx1]
                  rfl
                have HENC := Lib.hid hEnc; clear hEnc hx1 hC2
                have HCX := Lib.hid hCx; clear hCx
                have hlr16 : lr.length ≤ 4096 := hll
                gi_wp2_with (first
                  | (refine wpListIn_load_at rfl 67 _ rfl bn (on_ + i * 13) rfl _ _ HLDN.out Try.underlying67 rfl (by kernel_rfl) ?_))
                obtain ⟨wq, rfl⟩ : ∃ wq : World, wq = wr := ⟨_, rfl⟩
                gi_loopw [80] (fun v80 wj => ∃ (j m : Nat), v80 = .int .i64 j ∧ j ≤ lr.length ∧ wj = (((wq.alloc (.cells #[.int .u8 2, .int .u8 nop, .int .i64 nsl, .int .i64 nth, .bool a1, .int .i64 a2, .int .i64 a3, .bool b1, .int .i64 b2, .int .i64 b3, .int .i64 nn, .int .i64 ne_, .int .i64 no] 67)).alloc (.cells #[.int .i64 t, .int .i64 i, .int .i64 nth, .bool true, .bool false, .int .u32 (hMask (lr.take j) : Nat)] 90))).drewN m) (fun v80 _ => lr.length - (intOf v80).toNat)
                case atStart => exact ⟨0, 0, rfl, by omega, rfl⟩
                case round =>
                  obtain ⟨j, m, rfl, hj, rfl⟩ := hrel
                  by_cases hltj : j < lr.length
                  · obtain ⟨y, hy⟩ : ∃ y, lr[j]? = some y := ⟨_, List.getElem?_eq_getElem hltj⟩
                    obtain ⟨b3, o3, rfl, h3⟩ := Ints_at' hls hy
                    have h3' : wq.cell? ⟨b3, o3 + j, none⟩ = some (.int .i64 y) := h3
                    have h3l : b3 < wq.heap.size := World.block_lt_of_cell? wq ⟨b3, o3 + j, none⟩ h3'
                    have h3l2 : b3 < wq.heap.size + 1 := Nat.lt_succ_of_lt h3l
                    have hyb := HLM.out y (List.mem_of_getElem? hy)
                    obtain ⟨yn, rfl⟩ := Int.eq_ofNat_of_zero_le hyb.1
                    have hy16 : yn < 16 := by omega
                    have hy0 : (0 : Int) ≤ yn := by omega
                    have hj0 : (0 : Int) ≤ j := by omega
                    have hjl : (j : Int) < lr.length := by omega
                    have hmk : hMask (lr.take j) < 65536 := hMask_lt _ (fun y hy => HLM.out y (List.mem_of_mem_take hy))
                    have hnx : hMask (lr.take (j + 1)) = hMask (lr.take j) ||| 2 ^ yn := by
                      rw [List.take_succ_eq_append_getElem hltj, (List.getElem?_eq_some_iff.1 hy).2, hMask_snoc, Int.toNat_natCast]
                    have HNX := Lib.hid hnx; clear hnx h3 hy hyb
                    gi_wp2
                    gi_region
                    all_goals gi_wp2
                    all_goals (
                      go_roundw
                      case measure => simp [intOf]; omega
                      case rel => exact ⟨j + 1, m + 1, by go_num, by omega, by rw [HNX.out, ← or_u32 _ _ hmk hy16]; exact box_set _ _ _ _ _ _ _ _ _ _ _ (by simp)⟩)
                  · rw [List.take_of_length_le (by omega)]
                    have hBw : Below wq.heap.size wq ((((wq.alloc (.cells #[.int .u8 2, .int .u8 nop, .int .i64 nsl, .int .i64 nth, .bool a1, .int .i64 a2, .int .i64 a3, .bool b1, .int .i64 b2, .int .i64 b3, .int .i64 nn, .int .i64 ne_, .int .i64 no] 67)).alloc (.cells #[.int .i64 t, .int .i64 i, .int .i64 nth, .bool true, .bool false, .int .u32 (hMask lr : Nat)] 90))).drewN m) := by
                      have h := ((Below.refl wq.heap.size wq).alloc (Nat.le_refl _) (.cells #[.int .u8 2, .int .u8 nop, .int .i64 nsl, .int .i64 nth, .bool a1, .int .i64 a2, .int .i64 a3, .bool b1, .int .i64 b2, .int .i64 b3, .int .i64 nn, .int .i64 ne_, .int .i64 no] 67)).alloc (by simp) (.cells #[.int .i64 t, .int .i64 i, .int .i64 nth, .bool true, .bool false, .int .u32 (hMask lr : Nat)] 90)
                      exact ⟨h.os, h.tape, h.output, h.size, h.block⟩
                    obtain ⟨fn, tmps, assign, body, hy, hR⟩ := hY pre2 x _ (hJI.out _ hBw) hxl
                    rw [HENC.out] at hy
                    gi_wp2
                    refine hR.mono ?_
                    rintro e W3 (⟨rfl, hJ3, hk3⟩ | ⟨rfl, hJx3⟩)
                    · gi_wp2
                      go_roundw
                      case rel => exact ⟨i + 1, _, by go_num, by omega, hJ3, HCX.out, (hKI.out _ hBw).trans hk3⟩
                      case measure => simp [intOf]; omega
                    · gi_wp2
                      refine bodyPost_ret (results_none rfl _ _ _) rfl ?_
                      exact ⟨⟨_, rfl⟩, .inr ⟨_, HCX.out.pre, hJx3⟩⟩
              · have hC2 := hyes.out rfl (by unfold touchB; simp)
                obtain ⟨x, hx1, hxl, hCx⟩ := hC2.next
                have hEnc : tchEnc u x = #[.agg #[.int .i64 t, .int .i64 i, .int .i64 nth, .bool false, .bool true, .int .u32 (hMask lr : Nat)]] := by
                  unfold tchEnc tchCells
                  rw [hx1]
                  rfl
                have HENC := Lib.hid hEnc; clear hEnc hx1 hC2
                have HCX := Lib.hid hCx; clear hCx
                have hlr16 : lr.length ≤ 4096 := hll
                gi_wp2_with (first
                  | (refine wpListIn_load_at rfl 67 _ rfl bn (on_ + i * 13) rfl _ _ HLDN.out Try.underlying67 rfl (by kernel_rfl) ?_))
                obtain ⟨wq, rfl⟩ : ∃ wq : World, wq = wr := ⟨_, rfl⟩
                gi_loopw [80] (fun v80 wj => ∃ (j m : Nat), v80 = .int .i64 j ∧ j ≤ lr.length ∧ wj = (((wq.alloc (.cells #[.int .u8 3, .int .u8 nop, .int .i64 nsl, .int .i64 nth, .bool a1, .int .i64 a2, .int .i64 a3, .bool b1, .int .i64 b2, .int .i64 b3, .int .i64 nn, .int .i64 ne_, .int .i64 no] 67)).alloc (.cells #[.int .i64 t, .int .i64 i, .int .i64 nth, .bool false, .bool true, .int .u32 (hMask (lr.take j) : Nat)] 90))).drewN m) (fun v80 _ => lr.length - (intOf v80).toNat)
                case atStart => exact ⟨0, 0, rfl, by omega, rfl⟩
                case round =>
                  obtain ⟨j, m, rfl, hj, rfl⟩ := hrel
                  by_cases hltj : j < lr.length
                  · obtain ⟨y, hy⟩ : ∃ y, lr[j]? = some y := ⟨_, List.getElem?_eq_getElem hltj⟩
                    obtain ⟨b3, o3, rfl, h3⟩ := Ints_at' hls hy
                    have h3' : wq.cell? ⟨b3, o3 + j, none⟩ = some (.int .i64 y) := h3
                    have h3l : b3 < wq.heap.size := World.block_lt_of_cell? wq ⟨b3, o3 + j, none⟩ h3'
                    have h3l2 : b3 < wq.heap.size + 1 := Nat.lt_succ_of_lt h3l
                    have hyb := HLM.out y (List.mem_of_getElem? hy)
                    obtain ⟨yn, rfl⟩ := Int.eq_ofNat_of_zero_le hyb.1
                    have hy16 : yn < 16 := by omega
                    have hy0 : (0 : Int) ≤ yn := by omega
                    have hj0 : (0 : Int) ≤ j := by omega
                    have hjl : (j : Int) < lr.length := by omega
                    have hmk : hMask (lr.take j) < 65536 := hMask_lt _ (fun y hy => HLM.out y (List.mem_of_mem_take hy))
                    have hnx : hMask (lr.take (j + 1)) = hMask (lr.take j) ||| 2 ^ yn := by
                      rw [List.take_succ_eq_append_getElem hltj, (List.getElem?_eq_some_iff.1 hy).2, hMask_snoc, Int.toNat_natCast]
                    have HNX := Lib.hid hnx; clear hnx h3 hy hyb
                    gi_wp2
                    gi_region
                    all_goals gi_wp2
                    all_goals (
                      go_roundw
                      case measure => simp [intOf]; omega
                      case rel => exact ⟨j + 1, m + 1, by go_num, by omega, by rw [HNX.out, ← or_u32 _ _ hmk hy16]; exact box_set _ _ _ _ _ _ _ _ _ _ _ (by simp)⟩)
                  · rw [List.take_of_length_le (by omega)]
                    have hBw : Below wq.heap.size wq ((((wq.alloc (.cells #[.int .u8 3, .int .u8 nop, .int .i64 nsl, .int .i64 nth, .bool a1, .int .i64 a2, .int .i64 a3, .bool b1, .int .i64 b2, .int .i64 b3, .int .i64 nn, .int .i64 ne_, .int .i64 no] 67)).alloc (.cells #[.int .i64 t, .int .i64 i, .int .i64 nth, .bool false, .bool true, .int .u32 (hMask lr : Nat)] 90))).drewN m) := by
                      have h := ((Below.refl wq.heap.size wq).alloc (Nat.le_refl _) (.cells #[.int .u8 3, .int .u8 nop, .int .i64 nsl, .int .i64 nth, .bool a1, .int .i64 a2, .int .i64 a3, .bool b1, .int .i64 b2, .int .i64 b3, .int .i64 nn, .int .i64 ne_, .int .i64 no] 67)).alloc (by simp) (.cells #[.int .i64 t, .int .i64 i, .int .i64 nth, .bool false, .bool true, .int .u32 (hMask lr : Nat)] 90)
                      exact ⟨h.os, h.tape, h.output, h.size, h.block⟩
                    obtain ⟨fn, tmps, assign, body, hy, hR⟩ := hY pre2 x _ (hJI.out _ hBw) hxl
                    rw [HENC.out] at hy
                    gi_wp2
                    refine hR.mono ?_
                    rintro e W3 (⟨rfl, hJ3, hk3⟩ | ⟨rfl, hJx3⟩)
                    · gi_wp2
                      go_roundw
                      case rel => exact ⟨i + 1, _, by go_num, by omega, hJ3, HCX.out, (hKI.out _ hBw).trans hk3⟩
                      case measure => simp [intOf]; omega
                    · gi_wp2
                      refine bodyPost_ret (results_none rfl _ _ _) rfl ?_
                      exact ⟨⟨_, rfl⟩, .inr ⟨_, HCX.out.pre, hJx3⟩⟩
              · have hC2 := hyes.out rfl (by unfold touchB; simp)
                obtain ⟨x, hx1, hxl, hCx⟩ := hC2.next
                have hEnc : tchEnc u x = #[.agg #[.int .i64 t, .int .i64 i, .int .i64 nth, .bool true, .bool true, .int .u32 (hMask lr : Nat)]] := by
                  unfold tchEnc tchCells
                  rw [hx1]
                  rfl
                have HENC := Lib.hid hEnc; clear hEnc hx1 hC2
                have HCX := Lib.hid hCx; clear hCx
                have hlr16 : lr.length ≤ 4096 := hll
                gi_wp2_with (first
                  | (refine wpListIn_load_at rfl 67 _ rfl bn (on_ + i * 13) rfl _ _ HLDN.out Try.underlying67 rfl (by kernel_rfl) ?_))
                obtain ⟨wq, rfl⟩ : ∃ wq : World, wq = wr := ⟨_, rfl⟩
                gi_loopw [80] (fun v80 wj => ∃ (j m : Nat), v80 = .int .i64 j ∧ j ≤ lr.length ∧ wj = (((wq.alloc (.cells #[.int .u8 4, .int .u8 nop, .int .i64 nsl, .int .i64 nth, .bool a1, .int .i64 a2, .int .i64 a3, .bool b1, .int .i64 b2, .int .i64 b3, .int .i64 nn, .int .i64 ne_, .int .i64 no] 67)).alloc (.cells #[.int .i64 t, .int .i64 i, .int .i64 nth, .bool true, .bool true, .int .u32 (hMask (lr.take j) : Nat)] 90))).drewN m) (fun v80 _ => lr.length - (intOf v80).toNat)
                case atStart => exact ⟨0, 0, rfl, by omega, rfl⟩
                case round =>
                  obtain ⟨j, m, rfl, hj, rfl⟩ := hrel
                  by_cases hltj : j < lr.length
                  · obtain ⟨y, hy⟩ : ∃ y, lr[j]? = some y := ⟨_, List.getElem?_eq_getElem hltj⟩
                    obtain ⟨b3, o3, rfl, h3⟩ := Ints_at' hls hy
                    have h3' : wq.cell? ⟨b3, o3 + j, none⟩ = some (.int .i64 y) := h3
                    have h3l : b3 < wq.heap.size := World.block_lt_of_cell? wq ⟨b3, o3 + j, none⟩ h3'
                    have h3l2 : b3 < wq.heap.size + 1 := Nat.lt_succ_of_lt h3l
                    have hyb := HLM.out y (List.mem_of_getElem? hy)
                    obtain ⟨yn, rfl⟩ := Int.eq_ofNat_of_zero_le hyb.1
                    have hy16 : yn < 16 := by omega
                    have hy0 : (0 : Int) ≤ yn := by omega
                    have hj0 : (0 : Int) ≤ j := by omega
                    have hjl : (j : Int) < lr.length := by omega
                    have hmk : hMask (lr.take j) < 65536 := hMask_lt _ (fun y hy => HLM.out y (List.mem_of_mem_take hy))
                    have hnx : hMask (lr.take (j + 1)) = hMask (lr.take j) ||| 2 ^ yn := by
                      rw [List.take_succ_eq_append_getElem hltj, (List.getElem?_eq_some_iff.1 hy).2, hMask_snoc, Int.toNat_natCast]
                    have HNX := Lib.hid hnx; clear hnx h3 hy hyb
                    gi_wp2
                    gi_region
                    all_goals gi_wp2
                    all_goals (
                      go_roundw
                      case measure => simp [intOf]; omega
                      case rel => exact ⟨j + 1, m + 1, by go_num, by omega, by rw [HNX.out, ← or_u32 _ _ hmk hy16]; exact box_set _ _ _ _ _ _ _ _ _ _ _ (by simp)⟩)
                  · rw [List.take_of_length_le (by omega)]
                    have hBw : Below wq.heap.size wq ((((wq.alloc (.cells #[.int .u8 4, .int .u8 nop, .int .i64 nsl, .int .i64 nth, .bool a1, .int .i64 a2, .int .i64 a3, .bool b1, .int .i64 b2, .int .i64 b3, .int .i64 nn, .int .i64 ne_, .int .i64 no] 67)).alloc (.cells #[.int .i64 t, .int .i64 i, .int .i64 nth, .bool true, .bool true, .int .u32 (hMask lr : Nat)] 90))).drewN m) := by
                      have h := ((Below.refl wq.heap.size wq).alloc (Nat.le_refl _) (.cells #[.int .u8 4, .int .u8 nop, .int .i64 nsl, .int .i64 nth, .bool a1, .int .i64 a2, .int .i64 a3, .bool b1, .int .i64 b2, .int .i64 b3, .int .i64 nn, .int .i64 ne_, .int .i64 no] 67)).alloc (by simp) (.cells #[.int .i64 t, .int .i64 i, .int .i64 nth, .bool true, .bool true, .int .u32 (hMask lr : Nat)] 90)
                      exact ⟨h.os, h.tape, h.output, h.size, h.block⟩
                    obtain ⟨fn, tmps, assign, body, hy, hR⟩ := hY pre2 x _ (hJI.out _ hBw) hxl
                    rw [HENC.out] at hy
                    gi_wp2
                    refine hR.mono ?_
                    rintro e W3 (⟨rfl, hJ3, hk3⟩ | ⟨rfl, hJx3⟩)
                    · gi_wp2
                      go_roundw
                      case rel => exact ⟨i + 1, _, by go_num, by omega, hJ3, HCX.out, (hKI.out _ hBw).trans hk3⟩
                      case measure => simp [intOf]; omega
                    · gi_wp2
                      refine bodyPost_ret (results_none rfl _ _ _) rfl ?_
                      exact ⟨⟨_, rfl⟩, .inr ⟨_, HCX.out.pre, hJx3⟩⟩
          · have hgo := hgon.out (.inr (by unfold touchB; simpa using hkinds))
            have e2 : (nk == 2) = false := by simp; omega
            have e3 : (nk == 3) = false := by simp; omega
            have e4 : (nk == 4) = false := by simp; omega
            clear hkinds
            cases bv
            all_goals (
              gi_wp2_with (first
                | (refine wpListIn_load_at rfl 67 _ rfl bn (on_ + i * 13) rfl _ _ HLDN.out Try.underlying67 rfl (by kernel_rfl) ?_))
              go_roundw
              case rel => exact ⟨i + 1, pre2, by go_num, by omega, hJI.out _ (((Below.refl _ _).alloc (Nat.le_refl _) _).alloc (by simp) _), hgo, hKI.out _ (((Below.refl _ _).alloc (Nat.le_refl _) _).alloc (by simp) _)⟩
              case measure => simp [intOf]; omega)
        · rw [trest2_end (by omega)] at hCi
          gi_wp2
          go_roundw
          case rel => exact ⟨t + 1, pre2, by go_num, by omega, hJi, hCi, (hK.trans hK2).trans hKi, by omega⟩
          case measure => simp [intOf]; omega
    · rw [trest1_end (by omega)] at hC
      gi_wp2
      go_end0
      exact ⟨⟨_, rfl⟩, .inl ⟨pre, hC.end_, hJr⟩⟩
end Go.Proofs.Ytkkmkjjbffpgnaa
/- The iterator of sharing, as the laws of a range over a function ask it. -/
namespace Go.Proofs.Ytkkmkjjbffpgnaa
open Go Go.RowKit Go.Shelf
def vals {u : Unit_} (pre : List (Tch u)) : List Hit := pre.map (·.1)
theorem vals_nil {u : Unit_} : vals ([] : List (Tch u)) = [] := rfl
theorem vals_snoc {u : Unit_} (pre : List (Tch u)) (x : Tch u) : vals (pre ++ [x]) = vals pre ++ [x.1] := by simp [vals]
theorem vals_all (u : Unit_) : vals (TTa u) = TT u := TTa_val u
theorem touches_made (cs : List Value) (h3 : cs.length = 3) (w : World) :
    Calls Try.prog 40 #[.agg cs.toArray] w fun e w' => e = .returned (.func (.func 71) #[] #[.pointer (some ⟨w.heap.size, 0, none⟩)]) ∧ w' = w.alloc (.cells cs.toArray 25) := by
  obtain ⟨a, b, c, rfl⟩ : ∃ a b c, cs = [a, b, c] := by
    match cs, h3 with
    | [a, b, c], _ => exact ⟨a, b, c, rfl⟩
  go_enter Try.func40, Try.ntmps40
  go_wp2
  go_ret
  exact ⟨rfl, rfl⟩
theorem touches_stops (u : Unit_) (hru : RightU u) (cs : List Value) (n Bu n0 B : Nat) (bx : Option Nat) (hn : 1 ≤ n) (w : World) (hn0 : n0 ≤ w.heap.size) (hB : B ≤ w.heap.size) (hk : ∀ k, bx = some k → k < w.heap.size) (hcb : ∀ q, cOf bx w = some q → q < w.heap.size)
    (hbu : Blk w Bu 25 cs) (hu : UnitV (part w 0 n0) cs u) :
    SeqStopsK Fence.wide n Try.prog 71 #[.pointer (some ⟨Bu, 0, none⟩)] (tchEnc u) (KeepI n0 B bx) (fun xs => xs = TTa u) (fun pre => pre <+: TTa u) (TTa u).length w := fun l J Jx W hW hJ _ hY h0 => by
  have hsz := hW.size
  refine touches1_in u hru cs n l Bu n0 B bx hn J Jx W hJ (by omega) (by omega) (fun k e => by have := hk k e; omega) (fun q e => ?_) hY (hbu.below hW hbu.lt) (hu.mono ?_) h0
  · rw [cOf_below hW hk] at e
    have := hcb q e
    omega
  · exact part_belowL (hW.mono hn0)
end Go.Proofs.Ytkkmkjjbffpgnaa
