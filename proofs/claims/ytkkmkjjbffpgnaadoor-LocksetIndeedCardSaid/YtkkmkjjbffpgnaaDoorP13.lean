import Derived.Test.YtkkmkjjbffpgnaaDoorP11
import Derived.Test.YtkkmkjjbffpgnaaDoorP10
import Derived.Test.YtkkmkjjbffpgnaaDoorP09
/- The walk of lockset.each with the closure in chosen (the text of LkJ, turned by program). -/
namespace Go.Proofs.YtkkmkjjbffpgnaaDoor
open Go Go.RowKit
set_option maxRecDepth 100000 in
set_option maxHeartbeats 4000000 in
theorem each_chosen (u : Unit_) (cs : List Value) (lv : Value) (p1 p2 p3 : Addr) (m : CM) (w : World) (hru : RightU u) (hu : UnitV m cs u) (hlk : Looks m lv u.graphs) (I : List Hit → World → Prop) (hI : EachInv m I) (h0 : I [] w)
    (hstep : ∀ pre h rest wr, pre ++ h :: rest = hitsU u → I pre wr → Calls Tryd.prog 45 #[.agg #[.int .i64 h.t, .int .i64 h.i], .agg h.n.cells.toArray, .int .u32 (hMask h.l : Nat), .pointer (some p1), .pointer (some p2), .pointer (some p3)] wr fun e w' => e = .returned (.tuple #[]) ∧ I (pre ++ [h]) w') :
    Calls Tryd.prog 44 #[.agg cs.toArray, lv, .func (.func 45) #[] #[.pointer (some p1), .pointer (some p2), .pointer (some p3)]] w fun e w' => e = .returned (.tuple #[]) ∧ I (hitsU u) w' := by
  obtain ⟨sv, kv, gv, rfl, hs, hl, hg⟩ := hu
  have hg' := hg
  obtain ⟨gA, gc, rfl, -, -, -⟩ := hg'
  have bg := hg.len.2.2
  have hlk' := hlk
  obtain ⟨lA, lc, rfl, -, -, -⟩ := hlk'
  obtain ⟨T, hT⟩ : ∃ T, hitsU u = T := ⟨_, rfl⟩
  rw [hT] at hstep ⊢
  have hT2 : hits 0 u.graphs = T := hT
  have HT := Lib.hid hT2; clear hT2 hT
  have HI := Lib.hid hI; clear hI
  have HST := Lib.hid hstep; clear hstep
  go_enter Tryd.func44, Tryd.ntmps44
  go_wp2
  go_loopw [13] (fun v13 wr => ∃ (k : Nat) (pre : List Hit), v13 = .int .i64 k ∧ k ≤ u.graphs.length ∧ I pre wr ∧ pre ++ hits k (u.graphs.drop k) = T) (fun v13 _ => u.graphs.length - (intOf v13).toNat)
  case atStart => exact ⟨0, [], rfl, by omega, HI.out.alloc _ _ _ h0, HT.out⟩
  case round =>
    obtain ⟨k, pre, rfl, hk, hi, hp⟩ := hrel
    clear h0
    have hle := HI.out.le _ _ hi
    by_cases hlt : k < u.graphs.length
    · obtain ⟨g, hgk⟩ : ∃ g, u.graphs[k]? = some g := ⟨_, List.getElem?_eq_getElem hlt⟩
      obtain ⟨b, o, rfl, cg, hgv, hdc⟩ := hg.at_ hgk
      obtain ⟨bl, ol, rfl, hlv⟩ := hlk.at_ hgk
      obtain ⟨_, ⟨rv, hv, rl, rfl, hrv, hrl, hri, hhv⟩, hlc⟩ := hlv
      have hrg := hru.graphs g (List.mem_of_getElem? hgk)
      rw [drop_at hgk, hits] at hp
      have HP := Lib.hid hp; clear hp
      obtain ⟨nv, rfl, nA, nc, rfl, hnc1, hnc2, hnn⟩ := hgv
      have HLD : Hid (∀ j v, ([.string g.name, .int .i64 g.locals, .int .i64 g.slots, .slice nA g.nodes.length nc] : List Value)[j]? = some v → wr.cell? ⟨b, o + k * 4 + j, none⟩ = some v) := fun j v h => hle _ _ _ (hdc j v h)
      clear hdc
      have r0 : m bl (ol + k * 2) = some rv := hlc 0 _ rfl
      have r1 : m bl (ol + k * 2 + 1) = some hv := hlc 1 _ rfl
      clear hlc hgk
      obtain ⟨rA, rc, rfl, -⟩ := id hrv
      obtain ⟨hA, hc, hve, -⟩ := id hhv
      rw [List.length_map] at hve
      subst hve
      have hk0 : (0 : Int) ≤ k := by omega
      have hkl : (k : Int) < u.graphs.length := by omega
      have hnm := hrg.whole.most
      have HHL := Lib.hid (heldL_len hrg)
      have HRL := Lib.hid hrl; clear hrl
      have hi2 := HI.out.alloc _ _ (.cells #[.string g.name, .int .i64 g.locals, .int .i64 g.slots, .slice nA g.nodes.length nc] 41) hi
      go_wp2_with (first
        | (refine wpList_load_at rfl 41 _ rfl b (o + k * 4) rfl _ _ HLD.out Tryd.underlying41 rfl (by kernel_rfl) ?_))
      clear hi hle HLD
      obtain ⟨wo, rfl⟩ : ∃ wo : World, wo = wr := ⟨_, rfl⟩
      go_loopw [21] (fun v21 wr => ∃ (i : Nat) (pre : List Hit), v21 = .int .i64 i ∧ i ≤ g.nodes.length ∧ I pre wr ∧ pre ++ (hitsOf k g i (g.nodes.drop i) ++ hits (k + 1) (u.graphs.drop (k + 1))) = T) (fun v21 _ => g.nodes.length - (intOf v21).toNat)
      case atStart => exact ⟨0, pre, rfl, by omega, hi2, HP.out⟩
      case round =>
        clear hi2
        obtain ⟨i, pre2, rfl, hil, hi, hp⟩ := hrel
        have hle := HI.out.le _ _ hi
        by_cases hlt2 : i < g.nodes.length
        · obtain ⟨n, hni⟩ : ∃ n, g.nodes[i]? = some n := ⟨_, List.getElem?_eq_getElem hlt2⟩
          obtain ⟨bv, hbv⟩ : ∃ v, rl[i]? = some v := ⟨_, List.getElem?_eq_getElem (by rw [HRL.out]; exact hlt2)⟩
          obtain ⟨br, or_, rfl, hrc⟩ := hrv.at_ hbv
          have hrc2 : wr.cell? ⟨br, or_ + i, none⟩ = some (.bool bv) := by have := hle _ _ _ hrc; rwa [Nat.mul_one] at this
          clear hrc
          rw [drop_at hni] at hp
          obtain ⟨bn, on_, rfl, hnc⟩ := Sl.at_ ⟨nA, nc, rfl, hnc1, hnc2, hnn⟩ hni
          have HLDN : Hid (∀ j v, n.cells[j]? = some v → wr.cell? ⟨bn, on_ + i * 13 + j, none⟩ = some v) := fun j v h => hle _ _ _ (hnc j v h)
          have hi0 : (0 : Int) ≤ i := by omega
          have hii : (i : Int) < g.nodes.length := by omega
          have hiN : (i : Int) < rl.length := by rw [HRL.out]; exact hii
          have q0 : wr.cell? ⟨bl, ol + k * 2, none⟩ = some (.slice (some ⟨br, or_, none⟩) rl.length rc) := hle _ _ _ r0
          have lt1 : bl < wr.heap.size := World.block_lt_of_cell? wr ⟨bl, ol + k * 2, none⟩ q0
          have lt2 : br < wr.heap.size := World.block_lt_of_cell? wr ⟨br, or_ + i, none⟩ hrc2
          unfold Node.cells at HLDN
          have hi3 := HI.out.alloc _ _ (.cells n.cells.toArray 50) hi
          unfold Node.cells at hi3
          cases bv with
          | false =>
            have hno : ¬ ReachC g (-1) i := fun h => by
              have := (hri i).2 h
              rw [hbv] at this; cases this
            rw [hitsOf_no hno] at hp
            have HP2 := Lib.hid hp; clear hp
            have HNI := Lib.hid hni; clear hni
            have HBV := Lib.hid hbv; clear hbv
            go_wp2_with (first | (refine wpList_load_at rfl 50 _ rfl bn (on_ + i * 13) rfl _ _ HLDN.out Tryd.underlying50 rfl (by kernel_rfl) ?_))
            go_roundw
            case rel => exact ⟨i + 1, pre2, by go_num, by omega, hi3, HP2.out⟩
            case measure => simp [intOf]; omega
          | true =>
            rw [hitsOf_yes ((hri i).1 hbv)] at hp
            have hp2 : pre2 ++ ⟨k, i, n, heldAt g i⟩ :: (hitsOf k g (i + 1) (g.nodes.drop (i + 1)) ++ hits (k + 1) (u.graphs.drop (k + 1))) = T := hp
            have hp3 : (pre2 ++ [⟨k, i, n, heldAt g i⟩]) ++ (hitsOf k g (i + 1) (g.nodes.drop (i + 1)) ++ hits (k + 1) (u.graphs.drop (k + 1))) = T := by rw [List.append_assoc]; exact hp2
            have HP2 := Lib.hid hp2; clear hp hp2
            have HP3 := Lib.hid hp3; clear hp3
            obtain ⟨l, hl⟩ : ∃ l, (heldL g)[i]? = some l := ⟨_, List.getElem?_eq_getElem (by rw [HHL.out]; exact hlt2)⟩
            have hla : heldAt g i = l := by unfold heldAt; rw [hl]; rfl
            have hl2 : ((heldL g).map hMask)[i]? = some (hMask l) := by rw [List.getElem?_map, hl]; rfl
            obtain ⟨bh, oh, rfl, hcell⟩ := hhv.at_ hl2
            rw [Nat.mul_one] at hcell
            rw [hla] at HP2 HP3
            have HNI := Lib.hid hni; clear hni
            have HBV := Lib.hid hbv; clear hbv
            have HLA := Lib.hid hla; clear hla hl hl2
            have q1 : wr.cell? ⟨bl, ol + k * 2 + 1, none⟩ = some (.slice (some ⟨bh, oh, none⟩) (heldL g).length hc) := hle _ _ _ r1
            have lt3 : bh < wr.heap.size := World.block_lt_of_cell? wr ⟨bh, oh + i, none⟩ (hle _ _ _ hcell)
            have q2 : wr.cell? ⟨bh, oh + i, none⟩ = some (.int .u32 (hMask l : Nat)) := hle _ _ _ hcell
            have hiH : (i : Int) < (heldL g).length := by rw [HHL.out]; exact hii
            clear hcell
            go_wp2_with (first | (refine wpList_load_at rfl 50 _ rfl bn (on_ + i * 13) rfl _ _ HLDN.out Tryd.underlying50 rfl (by kernel_rfl) ?_))
            have hD := node13 (n := n) (cell_newl wr n.cells 50 wr.heap.size rfl)
            simp only [Nat.zero_add] at hD
            unfold Node.cells at hD
            have q1' : (wr.alloc (.cells ([.int .u8 n.kind, .int .u8 n.op, .int .i64 n.slot, .int .i64 n.thing, .bool n.a.isSlot, .int .i64 n.a.slot, .int .i64 n.a.word, .bool n.b.isSlot, .int .i64 n.b.slot, .int .i64 n.b.word, .int .i64 n.next, .int .i64 n.els, .int .i64 n.origin] : List Value).toArray 50)).cell? ⟨bl, ol + k * 2 + 1, none⟩ = some (.slice (some ⟨bh, oh, none⟩) (heldL g).length hc) := cmap_alloc wr _ _ _ _ q1
            have q2' : (wr.alloc (.cells ([.int .u8 n.kind, .int .u8 n.op, .int .i64 n.slot, .int .i64 n.thing, .bool n.a.isSlot, .int .i64 n.a.slot, .int .i64 n.a.word, .bool n.b.isSlot, .int .i64 n.b.slot, .int .i64 n.b.word, .int .i64 n.next, .int .i64 n.els, .int .i64 n.origin] : List Value).toArray 50)).cell? ⟨bh, oh + i, none⟩ = some (.int .u32 (hMask l : Nat)) := cmap_alloc wr _ _ _ _ q2
            generalize wr.alloc (.cells ([.int .u8 n.kind, .int .u8 n.op, .int .i64 n.slot, .int .i64 n.thing, .bool n.a.isSlot, .int .i64 n.a.slot, .int .i64 n.a.word, .bool n.b.isSlot, .int .i64 n.b.slot, .int .i64 n.b.word, .int .i64 n.next, .int .i64 n.els, .int .i64 n.origin] : List Value).toArray 50) = wn at hD q1' q2' hi3 ⊢
            obtain ⟨d0, d1, d2, d3, d4, d5, d6, d7, d8, d9, d10, d11, d12⟩ := hD
            clear q1 q2 q0 hrc2 hle HLDN
            go_still_tail 13, (by kernel_rfl)
            change wpList _ _ _ _ _ (World.drew wn)
            go_wp2_with (go_at_call 45; refine (HST.out pre2 ⟨k, i, n, l⟩ _ _ HP2.out (HI.out.drew _ _ hi3)).mono ?_; rintro e w3 ⟨rfl, hi4⟩)
            go_roundw
            case rel => exact ⟨i + 1, _, by go_num, by omega, hi4, HP3.out⟩
            case measure => simp [intOf]; omega
        · have hnil : g.nodes.drop i = [] := List.drop_eq_nil_of_le (by omega)
          rw [hnil, hitsOf, List.nil_append] at hp
          have HP2 := Lib.hid hp; clear hp hnil
          go_wp2
          go_roundw
          case rel => exact ⟨k + 1, pre2, by go_num, by omega, hi, HP2.out⟩
          case measure => simp [intOf]; omega
    · have hnil : u.graphs.drop k = [] := List.drop_eq_nil_of_le (by omega)
      rw [hnil, hits, List.append_nil] at hp
      subst hp
      clear hnil
      go_wp2
      go_end0
      exact ⟨rfl, hi⟩
end Go.Proofs.YtkkmkjjbffpgnaaDoor
/- The walks of what chosen calls: has, the closures of Under and of Bare, slices.Clip. -/
namespace Go.Proofs.YtkkmkjjbffpgnaaDoor
open Go Go.RowKit
theorem bit_and (m k : Nat) (hm : m < 65536) : (bits BinOp.and IntKind.u32 ((m : Int) / 2 ^ k) 1 != 0) = m.testBit k := by
  have e : (m : Int) / 2 ^ k = ((m / 2 ^ k : Nat) : Int) := by simp
  have h1 : m / 2 ^ k < 4294967296 := Nat.lt_of_le_of_lt (Nat.div_le_self _ _) (by omega)
  have e2 : bits BinOp.and IntKind.u32 ((m / 2 ^ k : Nat) : Int) 1 = ((m / 2 ^ k &&& 1 : Nat) : Int) := bits_and_u32_nat (m / 2 ^ k) 1 h1 (by decide)
  rw [e, e2, Nat.testBit, Nat.shiftRight_eq_div_pow, Nat.and_comm 1]
  generalize m / 2 ^ k = q
  rw [Bool.eq_iff_iff]
  simp
  omega
set_option maxHeartbeats 400000 in
theorem has_calls (m k : Nat) (hm : m < 65536) (hk : k < 16) (w : World) : Calls Tryd.prog 46 #[.int .u32 m, .int .i64 k] w fun e w' => e = .returned (.bool (m.testBit k)) ∧ w' = w := by
  have hk0 : (0 : Int) ≤ k := by omega
  have hk1 : (k : Int) < 16 := by omega
  have hm1 : (m : Int) < 65536 := by omega
  have hm0 : (0 : Int) ≤ m := by omega
  go_enter Tryd.func46, Tryd.ntmps46
  go_wp2
  go_ret
  exact ⟨ret_bool (bit_and m k hm), rfl⟩
set_option maxHeartbeats 400000 in
theorem bare1_calls (n : Node) (b : Bool) (x : Int) (p : Addr) (w : World) (hp : w.cell? p = some (.int .i64 x)) (hb : p.block < w.heap.size) (hs : p.spot = none) :
    Calls Tryd.prog 28 #[.agg n.cells.toArray, .bool b, .pointer (some p)] w fun e w' => e = .returned (.bool ((touchB n && decide (n.thing = x)) && !b)) ∧ Below w.heap.size w w' := by
  obtain ⟨pb, po, ps⟩ := p
  obtain rfl : ps = none := hs
  have hb2 : pb < w.heap.size := hb
  have HLD : Hid (∀ j v, n.cells[j]? = some v → (w.alloc (.cells n.cells.toArray 50)).cell? ⟨w.heap.size, 0 + j, none⟩ = some v) := cell_newl _ _ _ _ rfl
  have hn3 : (w.alloc (.cells n.cells.toArray 50)).cell? ⟨w.heap.size, 3, none⟩ = some (.int .i64 n.thing) := HLD.out 3 _ rfl
  have hp2 : (w.alloc (.cells n.cells.toArray 50)).cell? ⟨pb, po, none⟩ = some (.int .i64 x) := cmap_alloc _ _ _ _ _ hp
  unfold Node.cells at HLD hn3 hp2
  have HN3 := Lib.hid hn3; clear hn3
  have HP2 := Lib.hid hp2; clear hp2
  clear hp hb
  cases hq : touchB n <;> cases hx : decide (n.thing = x) <;> cases b
  all_goals (
    have hx2 : (n.thing == x) = _ := hx
    unfold Node.cells
    go_enter Tryd.func28, Tryd.ntmps28
    go_wp2_with (first
      | (refine wpList_load_at rfl 50 _ rfl w.heap.size 0 rfl _ _ HLD.out Tryd.underlying50 rfl (by kernel_rfl) ?_)
      | (go_at_call 29; refine (touches_calls n _).mono ?_; rintro e w3 ⟨rfl, hb3⟩; rw [hq]; clear hq; have hp3 := cmap_below hb3 _ _ _ HP2.out; have hn4 := cmap_below hb3 _ _ _ HN3.out; unfold cmap at hp3 hn4))
    go_ret
    exact ⟨rfl, (Below_alloc' _ _).trans (hb3.mono (by simp))⟩)
set_option maxHeartbeats 400000 in
theorem clip_calls (A : Option Addr) (n c : Nat) (hc : n ≤ c) (hm : c ≤ 9223372036854775807) (hn : A = none → c = 0) (w : World) : Calls Tryd.prog 47 #[.slice A n c] w fun e w' => e = .returned (.slice A n n) ∧ w = w' := by
  cases A with
  | none =>
    have := hn rfl
    subst this
    obtain rfl : n = 0 := by omega
    go_enter Tryd.func47, Tryd.ntmps47
    go_wp2
    go_ret
    exact ⟨rfl, rfl⟩
  | some a =>
    clear hn
    go_enter Tryd.func47, Tryd.ntmps47
    go_wp2
    go_ret
    exact ⟨rfl, rfl⟩
end Go.Proofs.YtkkmkjjbffpgnaaDoor
/- The walks of the closure in chosen (for Under, for Bare), of chosen, Under and Bare. -/
namespace Go.Proofs.YtkkmkjjbffpgnaaDoor
open Go Go.RowKit
/-- What holds while the nodes are chosen. -/
def CInv (sel : Hit → Bool) (w1 : World) (pre : List Hit) (wr : World) : Prop :=
  ∃ v, Acc hitV 2 65 w1.heap.size (fun _ => False) v (pre.filter sel) wr ∧ Blk wr w1.heap.size 60 [v] ∧ Below w1.heap.size w1 wr
def selU (lock : Nat) (h : Hit) : Bool := isIn h.l lock
def selB (x : Int) (lock : Nat) (h : Hit) : Bool := (touchB h.n && decide (h.n.thing = x)) && !(isIn h.l lock)
set_option maxRecDepth 100000 in
set_option maxHeartbeats 4000000 in
theorem chosen1_bare (w1 : World) (lock : Nat) (hlk : lock < 16) (wb lb : Nat) (x : Int) (xb : Nat) (pre : List Hit) (h : Hit) (wr : World) (hb : ∀ k ∈ h.l, 0 ≤ k ∧ k < 16) (hpl : pre.length ≤ 32768)
    (hwc : w1.cell? ⟨wb, 0, none⟩ = some (.func (.func 28) #[] #[.pointer (some ⟨xb, 0, none⟩)])) (hlc : w1.cell? ⟨lb, 0, none⟩ = some (.int .i64 lock)) (hxc : w1.cell? ⟨xb, 0, none⟩ = some (.int .i64 x))
    (hi : CInv (selB x lock) w1 pre wr) :
    Calls Tryd.prog 45 #[.agg #[.int .i64 h.t, .int .i64 h.i], .agg h.n.cells.toArray, .int .u32 (hMask h.l : Nat), .pointer (some ⟨wb, 0, none⟩), .pointer (some ⟨lb, 0, none⟩), .pointer (some ⟨w1.heap.size, 0, none⟩)] wr fun e w' => e = .returned (.tuple #[]) ∧ CInv (selB x lock) w1 (pre ++ [h]) w' := by
  obtain ⟨t, i, n, l⟩ := h
  dsimp only at hb ⊢
  obtain ⟨v, hacc, hout, hbl⟩ := hi
  have hml : hMask l < 65536 := hMask_lt l hb
  have hbit : (hMask l).testBit lock = isIn l lock := hMask_bit l (fun k hk => (hb k hk).1) lock
  have hbs := hbl.size
  have hol := hout.lt
  have hwr : wr.cell? ⟨wb, 0, none⟩ = some (.func (.func 28) #[] #[.pointer (some ⟨xb, 0, none⟩)]) := cmap_below hbl _ _ _ hwc
  have hlr : wr.cell? ⟨lb, 0, none⟩ = some (.int .i64 lock) := cmap_below hbl _ _ _ hlc
  have hxl : (pre.filter (selB x lock)).length ≤ 32768 := Nat.le_trans (List.length_filter_le _ _) hpl
  obtain ⟨sel, hsel⟩ : ∃ s, (selB x lock) ⟨t, i, n, l⟩ = s := ⟨_, rfl⟩
  have hfil : (pre ++ [(⟨t, i, n, l⟩ : Hit)]).filter (selB x lock) = if sel = true then pre.filter (selB x lock) ++ [⟨t, i, n, l⟩] else pre.filter (selB x lock) := by
    rw [List.filter_append, List.filter_cons, hsel]
    cases sel <;> simp
  have HF := Lib.hid hfil; clear hfil
  have HSEL := Lib.hid hsel; clear hsel
  have HS2 : Hid (((touchB n && decide (n.thing = x)) && !(isIn l lock)) = sel) := HSEL.out
  have HBIT := Lib.hid hbit; clear hbit
  obtain ⟨vA, vc, rfl, hvc⟩ := hacc.form
  have hv7 := hacc.lt
  have hA := hacc
  have b0 : Blk ((wr.alloc (.cells #[.int .i64 (t : Nat), .int .i64 (i : Nat)] 65)).alloc (.cells n.cells.toArray 50)) wr.heap.size 65 [.int .i64 (t : Nat), .int .i64 (i : Nat)] := (Blk.new wr _ _).alloc _
  have hD := node13 (n := n) (cell_newl (wr.alloc (.cells #[.int .i64 (t : Nat), .int .i64 (i : Nat)] 65)) n.cells 50 (wr.heap.size + 1) (by simp))
  simp only [Nat.zero_add] at hD
  have hac2 := (hacc.alloc (.cells #[.int .i64 (t : Nat), .int .i64 (i : Nat)] 65)).alloc (.cells n.cells.toArray 50)
  have ho2 := (hout.alloc (.cells #[.int .i64 (t : Nat), .int .i64 (i : Nat)] 65)).alloc (.cells n.cells.toArray 50)
  have hw2 : ((wr.alloc (.cells #[.int .i64 (t : Nat), .int .i64 (i : Nat)] 65)).alloc (.cells n.cells.toArray 50)).cell? ⟨wb, 0, none⟩ = _ := cmap_alloc _ _ _ _ _ (cmap_alloc _ _ _ _ _ hwr)
  have hl2 : ((wr.alloc (.cells #[.int .i64 (t : Nat), .int .i64 (i : Nat)] 65)).alloc (.cells n.cells.toArray 50)).cell? ⟨lb, 0, none⟩ = _ := cmap_alloc _ _ _ _ _ (cmap_alloc _ _ _ _ _ hlr)
  have hB2 : Below w1.heap.size w1 ((wr.alloc (.cells #[.int .i64 (t : Nat), .int .i64 (i : Nat)] 65)).alloc (.cells n.cells.toArray 50)) := (hbl.alloc hbs _).alloc (by simp; omega) _
  unfold Node.cells at hD hac2 ho2 hw2 hl2 hB2 b0
  have hx2 : ((wr.alloc (.cells #[.int .i64 (t : Nat), .int .i64 (i : Nat)] 65)).alloc (.cells ([.int .u8 n.kind, .int .u8 n.op, .int .i64 n.slot, .int .i64 n.thing, .bool n.a.isSlot, .int .i64 n.a.slot, .int .i64 n.a.word, .bool n.b.isSlot, .int .i64 n.b.slot, .int .i64 n.b.word, .int .i64 n.next, .int .i64 n.els, .int .i64 n.origin] : List Value).toArray 50)).cell? ⟨xb, 0, none⟩ = some (.int .i64 x) := cmap_alloc _ _ _ _ _ (cmap_alloc _ _ _ _ _ (cmap_below hbl _ _ _ hxc))
  clear hacc hA hout hbl hwr hlr
  unfold Node.cells
  go_enter Tryd.func45, Tryd.ntmps45
  go_wp2_with fail
  generalize (wr.alloc (.cells #[.int .i64 (t : Nat), .int .i64 (i : Nat)] 65)).alloc (.cells ([.int .u8 n.kind, .int .u8 n.op, .int .i64 n.slot, .int .i64 n.thing, .bool n.a.isSlot, .int .i64 n.a.slot, .int .i64 n.a.word, .bool n.b.isSlot, .int .i64 n.b.slot, .int .i64 n.b.word, .int .i64 n.next, .int .i64 n.els, .int .i64 n.origin] : List Value).toArray 50) = wn at hD hac2 ho2 hw2 hl2 hB2 b0 hx2 ⊢
  obtain ⟨d0, d1, d2, d3, d4, d5, d6, d7, d8, d9, d10, d11, d12⟩ := hD
  go_still_tail 5, (by kernel_rfl)
  still_call (has_calls (hMask l) lock hml hlk _)
  repeat still_step
  refine wpStill_nil ?_
  change wpList _ _ _ _ _ wn.drew
  clear d0 d1 d2 d3 d4 d5 d6 d7 d8 d9 d10 d11 d12 hw2 hl2
  have hbz := hB2.size
  cases sel
  all_goals go_wp2_with (first | (refine stop_append rfl ?_) | (go_at_call 28; refine (bare1_calls n ((hMask l).testBit lock) x ⟨xb, 0, none⟩ wn.drew hx2 (World.block_lt_of_cell? wn ⟨xb, 0, none⟩ hx2) rfl).mono ?_; rintro e w3 ⟨rfl, hb3⟩; rw [HBIT.out, HS2.out]; have hb5 : Below wn.heap.size wn w3 := ⟨hb3.os, hb3.tape, hb3.output, hb3.size, hb3.block⟩; have hac3 := hac2.keep hb5; have ho3 := ho2.below hb5 ho2.lt; have bb3 := b0.below hb5 b0.lt; have q0 := ho3.cell 0; have q1 := bb3.cell 0; have q2 := bb3.cell 1))
  · have hf := HF.out.trans (if_neg (by simp))
    refine bodyPost_end (results_none rfl _ _ _) rfl ⟨rfl, .slice vA (pre.filter (selB x lock)).length vc, ?_⟩
    rw [hf]
    exact ⟨hac3, ho3, hB2.trans (hb5.mono hbz)⟩
  · have hf := HF.out.trans (if_pos (by trivial))
    have HF2 := Lib.hid hf; clear hf
    refine Stop.intro ?_
    have hs5 := hb5.size
    have hac4 := hac3.alloc (.cells #[.int .i64 (t : Nat), .int .i64 (i : Nat)] 65)
    obtain ⟨rows, ho, hrl, hrs, hrx⟩ := hac4.rows
    have hv8 := hac3.lt
    refine app_one sl_acc rfl _ _ rfl w1.heap.size _ _ rows.flatten rfl ho w3.heap.size 0 1 [.int .i64 (t : Nat), .int .i64 (i : Nat)] rfl rfl (cell_newl _ _ _ _ rfl) (by simp [Value.oneCell']) (by omega) (by decide) (by simp; omega) ?_
    intro v' w4 hown4 hg4 hob4
    have hac5 := hac4.push (x := (⟨t, i, n, l⟩ : Hit)) hrl hrs hrx rfl hown4 hg4 hob4 (fun b h => h) (fun b h => h.elim) rfl
    have ho5 := (ho3.alloc (.cells #[.int .i64 (t : Nat), .int .i64 (i : Nat)] 65)).grown hg4 (hac3.blk ho3 (by decide))
    have hB5 := ((hB2.trans (hb5.mono hbz)).alloc (by omega) (.cells #[.int .i64 (t : Nat), .int .i64 (i : Nat)] 65)).grown hg4 (by simp; omega) (fun k hk => (hv8 k hk).1)
    have c5 := ho5.cell 0
    have f5 := ho5.frozen 0
    obtain ⟨wA, wc, rfl, -⟩ := hac5.form
    go_wp2_with fail
    refine bodyPost_end (results_none rfl _ _ _) rfl ⟨rfl, .slice wA (pre.filter (selB x lock) ++ [(⟨t, i, n, l⟩ : Hit)]).length wc, ?_⟩
    rw [HF2.out]
    refine ⟨hac5.setCell (p := ⟨w1.heap.size, 0, none⟩) (fun e => hac5.blk ho5 (by decide) e.symm) (fun h => h) _, ?_, hB5.setCell (by simp) _⟩
    rw [List.length_append]
    exact ho5.set_ 0 _
end Go.Proofs.YtkkmkjjbffpgnaaDoor
/- The walks of chosen (for Under, for Bare), of Under and Bare. -/
namespace Go.Proofs.YtkkmkjjbffpgnaaDoor
open Go Go.RowKit
set_option maxRecDepth 100000 in
set_option maxHeartbeats 4000000 in
theorem chosen_bare (u : Unit_) (cs : List Value) (lk : Int) (x : Int) (xb : Nat) (w : World) (hu : UnitV (cmap w) cs u) (hok : UOk u) (hx : w.cell? ⟨xb, 0, none⟩ = some (.int .i64 x)) :
    Calls Tryd.prog 27 #[.agg cs.toArray, .int .i64 lk, .func (.func 28) #[] #[.pointer (some ⟨xb, 0, none⟩)]] w fun e w' =>
      (checkF u = none ∧ 0 ≤ lk ∧ lk < u.locks.length ∧ ∃ v, e = .returned (.tuple #[v, .int .i64 0]) ∧ Hits (part w' w.heap.size w'.heap.size) v ((hitsU u).filter (selB x lk.toNat)) ∧ Below w.heap.size w w') ∨
      (checkF u = none ∧ ¬ (0 ≤ lk ∧ lk < u.locks.length) ∧ e = .returned (.tuple #[.slice none 0 0, .int .i64 2]) ∧ Below w.heap.size w w') ∨
      (checkF u ≠ none ∧ e = .returned (.tuple #[.slice none 0 0, .int .i64 60]) ∧ Below w.heap.size w w') := by
  have hu0 := hu
  obtain ⟨sv, lv, gv, rfl, hs, hl, hg⟩ := hu
  obtain ⟨lA, lc, rfl, -⟩ := id hl
  have bl := hl.len.2.2
  have hbx := Blk.new w 25 [sv, .slice lA u.locks.length lc, gv]
  have b1 : Blk ((w.alloc (.cells #[sv, .slice lA u.locks.length lc, gv] 25)).alloc (.cells #[.int .i64 lk] 3)) (w.heap.size + 1) 3 [.int .i64 lk] := Blk.of (heap_new _ _ _ (by simp)) rfl
  have b2 : Blk (((w.alloc (.cells #[sv, .slice lA u.locks.length lc, gv] 25)).alloc (.cells #[.int .i64 lk] 3)).alloc (.cells #[.func (.func 28) #[] #[.pointer (some ⟨xb, 0, none⟩)]] 101)) (w.heap.size + 2) 101 [.func (.func 28) #[] #[.pointer (some ⟨xb, 0, none⟩)]] := Blk.of (heap_new _ _ _ (by simp)) rfl
  have b0 := (hbx.alloc (.cells #[.int .i64 lk] 3)).alloc (.cells #[.func (.func 28) #[] #[.pointer (some ⟨xb, 0, none⟩)]] 101)
  have b1 := b1.alloc (.cells #[.func (.func 28) #[] #[.pointer (some ⟨xb, 0, none⟩)]] 101)
  have hB : Below w.heap.size w (((w.alloc (.cells #[sv, .slice lA u.locks.length lc, gv] 25)).alloc (.cells #[.int .i64 lk] 3)).alloc (.cells #[.func (.func 28) #[] #[.pointer (some ⟨xb, 0, none⟩)]] 101)) := Below3 _ _ _ _
  have HLD : Hid (∀ j v, ([sv, .slice lA u.locks.length lc, gv] : List Value)[j]? = some v → (((w.alloc (.cells #[sv, .slice lA u.locks.length lc, gv] 25)).alloc (.cells #[.int .i64 lk] 3)).alloc (.cells #[.func (.func 28) #[] #[.pointer (some ⟨xb, 0, none⟩)]] 101)).cell? ⟨w.heap.size, 0 + j, none⟩ = some v) := fun j v hj => by rw [Nat.zero_add, b0.cell]; exact hj
  have HB := Lib.hid hB; clear hB
  have HB0 := Lib.hid b0; clear b0
  have HB1 := Lib.hid b1; clear b1
  have HB2 := Lib.hid b2; clear b2 hbx
  go_enter Tryd.func27, Tryd.ntmps27
  go_wp2_with (first
    | (refine wpList_load_at rfl 25 _ rfl w.heap.size 0 rfl _ _ HLD.out Tryd.underlying25 rfl (by kernel_rfl) ?_))
  refine (asked_calls u [sv, .slice lA u.locks.length lc, gv] _ (hu0.mono (cmap_below HB.out)) hok).mono ?_
  have hs0 : w.heap.size + 3 = (((w.alloc (.cells #[sv, .slice lA u.locks.length lc, gv] 25)).alloc (.cells #[.int .i64 lk] 3)).alloc (.cells #[.func (.func 28) #[] #[.pointer (some ⟨xb, 0, none⟩)]] 101)).heap.size := by simp
  have HS0 := Lib.hid hs0; clear hs0
  rintro e w1 (⟨hc, v, rfl, h1, hb1⟩ | ⟨hc, rfl, hb1⟩)
  · have hru := checkF_none hc
    have HC := Lib.hid hc; clear hc
    have c0 := HB0.out.below hb1 HB0.out.lt
    have c1 := HB1.out.below hb1 HB1.out.lt
    have c2 := HB2.out.below hb1 HB2.out.lt
    have hw1 : Below w.heap.size w w1 := HB.out.trans (hb1.mono (by rw [← HS0.out]; omega))
    have hw1s := hw1.size
    have q1 := c0.cell 1
    have q2 := c1.cell 0
    have q3 := c2.cell 0
    have l0 := c0.lt
    have l1 := c1.lt
    have l2 := c2.lt
    by_cases hrg : 0 ≤ lk ∧ lk < u.locks.length
    · obtain ⟨hr0, hr1⟩ := hrg
      have d1 : decide (lk < 0) = false := by simp; omega
      have d2 : decide ((u.locks.length : Int) ≤ lk) = false := by simp; omega
      obtain ⟨lkn, rfl⟩ := Int.eq_ofNat_of_zero_le hr0
      have h16 := hru.locks
      have hb3 : ∀ o1 j v, ([sv, .slice lA u.locks.length lc, gv] : List Value)[j]? = some v → (w1.alloc o1).cell? ⟨w.heap.size, 0 + j, none⟩ = some v := fun o1 j v hj => by rw [Nat.zero_add, (c0.alloc o1).cell]; exact hj
      have HLD3 := Lib.hid hb3; clear hb3
      go_wp2_with (first
        | (refine wpList_load_at rfl 25 _ rfl w.heap.size 0 rfl [sv, .slice lA u.locks.length lc, gv] _ (HLD3.out _) Tryd.underlying25 rfl (by kernel_rfl) ?_))
      have hinv : EachInv (cmap w1) (CInv (selB x lkn) w1) := {
        le := fun _ _ h => by obtain ⟨v, _, _, hb⟩ := h; exact cmap_below hb
        alloc := fun _ _ o h => by obtain ⟨v, ha, hb, hc⟩ := h; exact ⟨v, ha.alloc o, hb.alloc o, hc.alloc (by have := hb.lt; omega) o⟩
        drew := fun _ _ h => by obtain ⟨v, ha, hb, hc⟩ := h; exact ⟨v, ha.keep ⟨rfl, rfl, rfl, Nat.le_refl _, fun _ _ => rfl⟩, hb, hc.drew⟩ }
      refine (each_chosen u [sv, .slice lA u.locks.length lc, gv] v ⟨w.heap.size + 2, 0, none⟩ ⟨w.heap.size + 1, 0, none⟩ ⟨w1.heap.size, 0, none⟩ (cmap w1) _ hru (hu0.mono (cmap_below hw1)) (h1.mono (part_le _ _ _)) (CInv (selB x lkn) w1) hinv ?_ ?_).mono ?_
      · exact ⟨.slice none 0 0, (Acc.nil _ _ _ _ _), Blk.new w1 _ _, Below_alloc' _ _⟩
      · intro pre h rest wr hp hi
        have hx2 : h ∈ hitsU u := by rw [← hp]; simp
        have hh := hit_held hru hx2
        have hpl : pre.length ≤ 32768 := by
          have := hitsU_length hru
          rw [← hp, List.length_append] at this
          omega
        exact chosen1_bare w1 lkn (by omega) (w.heap.size + 2) (w.heap.size + 1) x xb pre h wr (fun k hk => by have := hh.1 k hk; omega) hpl q3 q2 (cmap_below hw1 _ _ _ hx) hi
      · rintro e w3 ⟨rfl, v3, ha3, ho3, hb3⟩
        have o3 := ho3.cell 0
        obtain ⟨vA, vc, rfl, hvc⟩ := ha3.form
        have hfin := ha3.done (lo := w.heap.size) hw1s (Nat.le_refl _)
        have hcm : vc ≤ 9223372036854775807 ∧ (vA = none → vc = 0) := by
          obtain ⟨A', c', he, _, ⟨z1, z2⟩, _⟩ := hfin
          injection he with e1 _ e3
          subst e1 e3
          exact ⟨by simpa [maxLen] using z1, z2⟩
        have HFIN := Lib.hid hfin; clear hfin
        go_wp2_with (go_at_call 47; refine (clip_calls vA _ vc hvc hcm.1 hcm.2 _).mono ?_; rintro e w4 ⟨rfl, rfl⟩)
        go_ret2
        refine .inl ⟨HC.out, hr0, hr1, .slice vA ((hitsU u).filter (selB x lkn)).length ((hitsU u).filter (selB x lkn)).length, rfl, ?_, hw1.trans (hb3.mono hw1s)⟩
        obtain ⟨A', c', he, z1, ⟨z2, z3⟩, z4⟩ := HFIN.out
        injection he with e1 e2 e3
        subst e1 e3
        refine ⟨vA, _, rfl, Nat.le_refl _, ⟨by omega, fun h => by have := z3 h; omega⟩, z4⟩
    · have HR := Lib.hid hrg; clear hrg
      by_cases hneg : lk < 0
      · go_wp2
        go_ret2
        exact .inr (.inl ⟨HC.out, HR.out, rfl, hw1⟩)
      · have hge : (u.locks.length : Int) ≤ lk := by have := HR.out; omega
        go_wp2
        go_ret2
        exact .inr (.inl ⟨HC.out, HR.out, rfl, hw1⟩)
  · have HC := Lib.hid hc; clear hc
    have hw1 : Below w.heap.size w w1 := HB.out.trans (hb1.mono (by rw [← HS0.out]; omega))
    go_wp2
    go_ret2
    exact .inr (.inr ⟨HC.out, rfl, hw1⟩)
end Go.Proofs.YtkkmkjjbffpgnaaDoor
/- The walks of Under and Bare, and of the reference's. -/
namespace Go.Proofs.YtkkmkjjbffpgnaaDoor
open Go Go.RowKit
/-- What a question for nodes ends in. -/
def AccPost (u : Unit_) (ok : Prop) (T : List Hit) (w : World) (e : Ending) (w' : World) : Prop :=
  (checkF u = none ∧ ok ∧ ∃ v, e = .returned (.tuple #[v, .int .i64 0]) ∧ Hits (part w' w.heap.size w'.heap.size) v T ∧ Below w.heap.size w w') ∨
  (checkF u = none ∧ ¬ ok ∧ e = .returned (.tuple #[.slice none 0 0, .int .i64 2]) ∧ Below w.heap.size w w') ∨
  (checkF u ≠ none ∧ e = .returned (.tuple #[.slice none 0 0, .int .i64 60]) ∧ Below w.heap.size w w')
noncomputable def underF (u : Unit_) (lk : Int) : List Hit := (hitsU u).filter (selU lk.toNat)
noncomputable def bareF (u : Unit_) (x lk : Int) : List Hit := (hitsU u).filter (selB x lk.toNat)
set_option maxRecDepth 100000 in
set_option maxHeartbeats 1000000 in
theorem bare_calls (u : Unit_) (cs : List Value) (x lk : Int) (w : World) (hu : UnitV (cmap w) cs u) (hok : UOk u) :
    Calls Tryd.prog 14 #[.agg cs.toArray, .int .i64 x, .int .i64 lk] w (AccPost u ((0 ≤ x ∧ x < u.shared.length) ∧ (0 ≤ lk ∧ lk < u.locks.length)) (bareF u x lk) w) := by
  have hu0 := hu
  obtain ⟨sv, lv, gv, rfl, hs, -⟩ := hu
  obtain ⟨sA, sc, rfl, -⟩ := id hs
  have bs := hs.len.2.2
  have b0 : Blk ((w.alloc (.cells #[.slice sA u.shared.length sc, lv, gv] 25)).alloc (.cells #[.int .i64 x] 3)) w.heap.size 25 [.slice sA u.shared.length sc, lv, gv] := (Blk.new w _ _).alloc _
  have b1 : Blk ((w.alloc (.cells #[.slice sA u.shared.length sc, lv, gv] 25)).alloc (.cells #[.int .i64 x] 3)) (w.heap.size + 1) 3 [.int .i64 x] := Blk.of (heap_new _ _ _ (by simp)) rfl
  have HLD : Hid (∀ j v, ([.slice sA u.shared.length sc, lv, gv] : List Value)[j]? = some v → ((w.alloc (.cells #[.slice sA u.shared.length sc, lv, gv] 25)).alloc (.cells #[.int .i64 x] 3)).cell? ⟨w.heap.size, 0 + j, none⟩ = some v) := fun j v hj => by rw [Nat.zero_add, b0.cell]; exact hj
  have HB0 := Lib.hid b0; clear b0
  have HB1 := Lib.hid b1; clear b1
  go_enter Tryd.func14, Tryd.ntmps14
  go_wp2_with (first
    | (refine wpList_load_at rfl 25 _ rfl w.heap.size 0 rfl _ _ HLD.out Tryd.underlying25 rfl (by kernel_rfl) ?_))
  have hb0 : Below w.heap.size w ((w.alloc (.cells #[.slice sA u.shared.length sc, lv, gv] 25)).alloc (.cells #[.int .i64 x] 3)) := (Below_alloc' _ _).alloc (by simp) _
  have HBB := Lib.hid hb0; clear hb0
  refine (chosen_bare u [.slice sA u.shared.length sc, lv, gv] lk x (w.heap.size + 1) _ (hu0.mono (cmap_below HBB.out)) hok (HB1.out.cell 0)).mono ?_
  have hsz : w.heap.size ≤ ((w.alloc (.cells #[.slice sA u.shared.length sc, lv, gv] 25)).alloc (.cells #[.int .i64 x] 3)).heap.size := by simp; omega
  have HSZ := Lib.hid hsz; clear hsz
  rintro e w1 (⟨hc, h1, h2, v, rfl, hv, hb1⟩ | ⟨hc, h1, rfl, hb1⟩ | ⟨hc, rfl, hb1⟩)
  all_goals have c0 := HB0.out.below hb1 HB0.out.lt
  all_goals have c1 := HB1.out.below hb1 HB1.out.lt
  all_goals have q1 := c1.cell 0
  all_goals have q0 := c0.cell 0
  all_goals have hw1 : Below w.heap.size w w1 := HBB.out.trans (hb1.mono HSZ.out)
  · have HC := Lib.hid hc; clear hc
    by_cases hx : 0 ≤ x ∧ x < u.shared.length
    · obtain ⟨hx1, hx2⟩ := hx
      have d1 : decide (x < 0) = false := by simp; omega
      have d2 : decide ((u.shared.length : Int) ≤ x) = false := by simp; omega
      go_wp2
      go_ret2
      exact .inl ⟨HC.out, ⟨⟨hx1, hx2⟩, h1, h2⟩, v, rfl, hv.mono (part_mono HSZ.out (Nat.le_refl _)), hw1⟩
    · have HX := Lib.hid hx; clear hx
      by_cases hneg : x < 0
      · go_wp2
        go_ret2
        exact .inr (.inl ⟨HC.out, fun h => HX.out h.1, rfl, hw1⟩)
      · have hge : (u.shared.length : Int) ≤ x := by have := HX.out; omega
        go_wp2
        go_ret2
        exact .inr (.inl ⟨HC.out, fun h => HX.out h.1, rfl, hw1⟩)
  · have HC := Lib.hid hc; clear hc
    have H1 := Lib.hid h1; clear h1
    go_wp2
    go_ret2
    exact .inr (.inl ⟨HC.out, fun h => H1.out h.2, rfl, hw1⟩)
  · have HC := Lib.hid hc; clear hc
    go_wp2
    go_ret2
    exact .inr (.inr ⟨HC.out, rfl, hw1⟩)
end Go.Proofs.YtkkmkjjbffpgnaaDoor
