import Derived.Test.YtffgnjgphkdodaaGreatDoorP113
import Derived.Test.YtffgnjgphkdodaaGreatDoorP107
import Derived.Test.YtffgnjgphkdodaaGreatDoorP122
import Derived.Test.YtffgnjgphkdodaaGreatDoorP115
/- The walk of layer 11's reference: far. -/
namespace Go.Proofs.YtffgnjgphkdodaaGreatDoor
open Go Go.RowKit
/-- Whether one of some nodes is r rounds far. -/
def anyR (out : List Int) (r : Nat) (l : List Int) : Bool := l.any fun j => decide (out[j.toNat]? = some (r : Int))
def rOut (out : List Int) (p r : Nat) (b : Bool) : List Int := if b then out.set p ((r : Int) + 1) else out
theorem rOut_len (out : List Int) (p r : Nat) (b : Bool) : (rOut out p r b).length = out.length := by
  unfold rOut
  cases b <;> simp
theorem rOut_at {out : List Int} {p r : Nat} {b : Bool} {x : Int} (hx : out[p]? = some x) (hx0 : x < 0) (y : Nat) : (rOut out p r b)[y]? = some (r : Int) ↔ out[y]? = some (r : Int) := by
  unfold rOut
  cases b with
  | false => simp
  | true =>
    rw [if_pos rfl, List.getElem?_set]
    by_cases e : p = y
    · subst e
      have hl := (List.getElem?_eq_some_iff.1 hx).1
      rw [if_pos rfl, if_pos hl, hx]
      constructor
      · intro h; injection h with h; omega
      · intro h; injection h with h; omega
    · rw [if_neg e]
theorem rOut_set (out : List Int) (p r : Nat) (b : Bool) : (rOut out p r b).set p ((r : Int) + 1) = rOut out p r true := by
  unfold rOut
  cases b <;> simp
theorem anyR_snoc (out : List Int) (r : Nat) {l : List Int} {q : Nat} {y : Nat} (h : l[q]? = some (y : Int)) : anyR out r (l.take (q + 1)) = (anyR out r (l.take q) || decide (out[y]? = some (r : Int))) := by
  have hl := (List.getElem?_eq_some_iff.1 h).1
  have he : l[q] = (y : Int) := by rw [List.getElem?_eq_getElem hl] at h; injection h
  unfold anyR
  rw [List.take_succ_eq_append_getElem hl, List.any_append, he]
  simp
theorem anyR_iff {out : List Int} {r : Nat} {l : List Int} (h0 : ∀ y ∈ l, 0 ≤ y) : anyR out r l = true ↔ ∃ j : Nat, (j : Int) ∈ l ∧ out[j]? = some (r : Int) := by
  unfold anyR
  rw [List.any_eq_true]
  constructor
  · rintro ⟨x, hx, h⟩
    have := h0 x hx
    exact ⟨x.toNat, by rw [Int.toNat_of_nonneg this]; exact hx, of_decide_eq_true h⟩
  · rintro ⟨j, hj, h⟩
    exact ⟨j, hj, decide_eq_true h⟩
set_option maxRecDepth 100000 in
set_option maxHeartbeats 4000000 in
theorem rfar_calls (g : Graph) (cs : List Value) (tg : Nat) (w : World) (hw : WholeG g) (hg : GraphV (cmap w) cs g) (ht : tg < g.nodes.length) :
    Calls Tryz.prog 62 #[.agg cs.toArray, .int .i64 (tg : Int)] w fun e w' => ∃ v D, e = .returned v ∧ Ints (part w' w.heap.size w'.heap.size) v D ∧ FarL g tg D ∧ Below w.heap.size w w' := by
  obtain ⟨nv, rfl, hn⟩ := hg
  obtain ⟨nA, nc, rfl, -⟩ := id hn
  have bn := hn.len.2.2
  have hpos := hw.pos
  have hmost := hw.most
  obtain ⟨n0, hn0⟩ : ∃ n, g.nodes[0]? = some n := ⟨_, List.getElem?_eq_getElem hpos⟩
  obtain ⟨nb, no, rfl, -⟩ := hn.at_ hn0
  clear hn0
  have HT := Lib.hid ht
  have HW := Lib.hid hw
  have HNV := Lib.hid hn
  obtain ⟨N, HN⟩ : ∃ N, Hid (g.nodes.length = N) := ⟨_, rfl⟩
  rw [HN.out] at bn hpos hmost ht
  have ht0 : (0 : Int) ≤ tg := by omega
  have htN : (tg : Int) < N := by omega
  have hbx := Blk.new w 69 [.string g.name, .int .i64 g.locals, .int .i64 g.slots, .slice (some ⟨nb, no, none⟩) N nc]
  have hb0 := Below_alloc' w (.cells #[.string g.name, .int .i64 g.locals, .int .i64 g.slots, .slice (some ⟨nb, no, none⟩) N nc] 69)
  have HBX := Lib.hid (And.intro hbx hb0)
  clear hbx hb0 hw hn
  rw [HN.out]
  go_enter Tryz.func62, Tryz.ntmps62
  go_wp2_with (refine mk_full sl_int rfl rfl (.tmp 14) (.tmp 14) rfl N rfl rfl (by omega) (by omega) ?_)
  go_loopw [6, 18] (fun _ v18 wr => ∃ k : Nat, v18 = .int .i64 k ∧ k ≤ N ∧ Hid (Blk wr (w.heap.size + 1) 3 (fills N k)) ∧ Hid (Below w.heap.size w wr) ∧ Hid (Blk wr w.heap.size 69 [.string g.name, .int .i64 g.locals, .int .i64 g.slots, .slice (some ⟨nb, no, none⟩) N nc])) (fun _ v18 _ => N - (intOf v18).toNat)
  case atStart => exact ⟨0, rfl, Nat.zero_le _, Lib.hid (Blk.of (heap_new _ _ _ (by simp)) (by simp [fills])), Lib.hid (HBX.out.2.alloc (by simp) _), Lib.hid (HBX.out.1.alloc _)⟩
  case round =>
    obtain ⟨k, rfl, hk, HO, HB, HGX⟩ := hrel
    by_cases hlt : k < N
    · obtain ⟨v, hv⟩ := fills_at hk hlt
      have c0 := (HO.out.cell k).trans hv
      have f0 := HO.out.frozen k
      have hk0 : (0 : Int) ≤ k := by omega
      have hki : (k : Int) < N := by omega
      have hks : (k : Int) ≤ 4096 := by omega
      clear hv
      go_wp2
      have h1 := HO.out.set_ k (.int .i64 (-1))
      rw [fills_step hlt] at h1
      have H1 := Lib.hid h1
      clear h1
      go_roundw
      case rel => exact ⟨k + 1, by go_num, by omega, H1, Lib.hid (HB.out.setCell (p := ⟨w.heap.size + 1, k, none⟩) (by show w.heap.size ≤ w.heap.size + 1; omega) _), Lib.hid (HGX.out.far (p := ⟨w.heap.size + 1, k, none⟩) (by show w.heap.size ≠ w.heap.size + 1; omega) _)⟩
      case measure => simp [intOf]; omega
    · obtain rfl : k = N := by omega
      have hO : Blk wr (w.heap.size + 1) 3 (ints (List.replicate k (-1))) := by
        have := HO.out
        unfold fills at this
        simpa [ints] using this
      have oc : wr.cell? ⟨w.heap.size + 1, tg, none⟩ = some (.int .i64 (-1)) := by rw [hO.cell]; simp [ints, ht]
      have of := hO.frozen tg
      have h1 := hO.set_ tg (.int .i64 0)
      have h1e : (ints (List.replicate k (-1))).set tg (.int .i64 0) = ints ((List.replicate k (-1)).set tg 0) := by simp [ints, List.map_set]
      rw [h1e] at h1
      have HS : Hid (∃ out, Blk (wr.setCell ⟨w.heap.size + 1, tg, none⟩ (.int .i64 0)) (w.heap.size + 1) 3 (ints out) ∧ RFs g tg out 0 0 ∧ Below w.heap.size w (wr.setCell ⟨w.heap.size + 1, tg, none⟩ (.int .i64 0)) ∧ Blk (wr.setCell ⟨w.heap.size + 1, tg, none⟩ (.int .i64 0)) w.heap.size 69 [.string g.name, .int .i64 g.locals, .int .i64 g.slots, .slice (some ⟨nb, no, none⟩) k nc]) :=
        Lib.hid ⟨_, h1, by have := RFs.start (g := g) (tg := tg); rwa [HN.out] at this, HB.out.setCell (p := ⟨w.heap.size + 1, tg, none⟩) (by show w.heap.size ≤ w.heap.size + 1; omega) _, HGX.out.far (p := ⟨w.heap.size + 1, tg, none⟩) (by show w.heap.size ≠ w.heap.size + 1; omega) _⟩
      clear h1 h1e hO HO hlt HB HGX
      go_wp2
      go_loopw [7] (fun v7 wr => ∃ (r : Nat) (out : List Int), v7 = .int .i64 r ∧ r ≤ k ∧ Hid (Blk wr (w.heap.size + 1) 3 (ints out)) ∧ Hid (RFs g tg out r 0) ∧ Hid (Below w.heap.size w wr) ∧ Hid (Blk wr w.heap.size 69 [.string g.name, .int .i64 g.locals, .int .i64 g.slots, .slice (some ⟨nb, no, none⟩) k nc])) (fun v7 _ => k - (intOf v7).toNat)
      case atStart =>
        obtain ⟨out, h1, h2, h3, h4⟩ := HS.out
        exact ⟨0, out, rfl, Nat.zero_le _, Lib.hid h1, Lib.hid h2, Lib.hid h3, Lib.hid h4⟩
      case round =>
        obtain ⟨r, out0, rfl, hr, HO0, HF0, HB0, HGX0⟩ := hrel
        have c3 := HGX0.out.cell 3
        have hr0 : (0 : Int) ≤ r := by omega
        have hrs : (r : Int) ≤ 4096 := by omega
        by_cases hrk : r < k
        · have hrk' : (r : Int) < k := by omega
          obtain ⟨w0, rfl⟩ : ∃ w0 : World, w0 = wr := ⟨_, rfl⟩
          go_wp2
          go_loopw [38] (fun v38 wr => ∃ (p : Nat) (out : List Int), v38 = .int .i64 p ∧ p ≤ k ∧ Hid (Blk wr (w.heap.size + 1) 3 (ints out)) ∧ Hid (RFs g tg out r p) ∧ Hid (Below w.heap.size w wr) ∧ Hid (Blk wr w.heap.size 69 [.string g.name, .int .i64 g.locals, .int .i64 g.slots, .slice (some ⟨nb, no, none⟩) k nc])) (fun v38 _ => k - (intOf v38).toNat)
          case atStart => exact ⟨0, out0, rfl, Nat.zero_le _, HO0, HF0, HB0, HGX0⟩
          case round =>
            obtain ⟨p, out, rfl, hp, HO, HF, HB, HGX⟩ := hrel
            by_cases hpk : p < k
            · have hp0 : (0 : Int) ≤ p := by omega
              have hpk' : (p : Int) < k := by omega
              have hps : (p : Int) ≤ 4096 := by omega
              obtain ⟨nd, hnd⟩ : ∃ nd, g.nodes[p]? = some nd := ⟨g.nodes[p]'(by rw [HN.out]; exact hpk), List.getElem?_eq_getElem _⟩
              obtain ⟨nb', no', e', hnc⟩ := HNV.out.at_ hnd
              injection e' with e'
              injection e' with e1 e2
              subst e1 e2
              have hlen := HF.out.len
              rw [HN.out] at hlen
              obtain ⟨x, hx⟩ : ∃ x, out[p]? = some x := ⟨out[p]'(by omega), List.getElem?_eq_getElem _⟩
              have HLD : Hid (∀ j v, nd.cells[j]? = some v → wr.cell? ⟨nb, no + p * 13 + j, none⟩ = some v) := Lib.hid fun j v h => cmap_below HB.out _ _ _ (hnc j v h)
              have hws := HB.out.size
              have hbn := HB.out.alloc hws (.cells nd.cells.toArray 66)
              have hgx := HGX.out.alloc (.cells nd.cells.toArray 66)
              have hoo := HO.out.alloc (.cells nd.cells.toArray 66)
              have oc : (wr.alloc (.cells nd.cells.toArray 66)).cell? ⟨w.heap.size + 1, p, none⟩ = some (.int .i64 x) := by rw [hoo.cell]; simp [ints, hx]
              have HBN := Lib.hid hbn
              have HGN := Lib.hid hgx
              have HON := Lib.hid hoo
              have HRD := Lib.hid (rdrain_calls nd (wr.alloc (.cells nd.cells.toArray 66)))
              have HRF := Lib.hid fun w1 => rfollows_calls nd w1
              have HND := Lib.hid (And.intro hnd (And.intro hx hlen))
              have hwx := HO.out.lt
              clear hnd hx hlen hnc hbn hgx hoo
              unfold Node.cells at HLD HBN HGN HON HRD HRF oc
              by_cases hx0 : x < 0
              · have d1 : decide ((0 : Int) ≤ x) = false := decide_eq_false (by omega)
                have HX0 := Lib.hid hx0
                clear hx0
                cases hdr : drB nd with
                | true =>
                  rw [hdr] at HRD
                  have HDR := Lib.hid hdr
                  clear hdr
                  go_wp2_with (first
                    | (refine wpList_load_at rfl 66 _ rfl nb (no + p * 13) rfl _ _ HLD.out Tryz.underlying66 rfl (by kernel_rfl) ?_)
                    | (go_at_call 32
                       refine (HRD.out).mono ?_
                       rintro e w5 ⟨rfl, hb5⟩
                       have HB5 := Lib.hid hb5
                       clear hb5))
                  go_roundw
                  case rel => exact ⟨p + 1, out, by go_num, hpk, Lib.hid (HON.out.below HB5.out HON.out.lt), Lib.hid (HF.out.pass HND.out.1 HND.out.2.1 (.inr HDR.out)), Lib.hid (HBN.out.trans (HB5.out.mono HBN.out.size)), Lib.hid (HGN.out.below HB5.out HGN.out.lt)⟩
                  case measure => simp [intOf]; omega
                | false =>
                  rw [hdr] at HRD
                  have HDR := Lib.hid hdr
                  clear hdr
                  have hf2 := fol_length nd
                  go_wp2_with (first
                    | (refine wpList_load_at rfl 66 _ rfl nb (no + p * 13) rfl _ _ HLD.out Tryz.underlying66 rfl (by kernel_rfl) ?_)
                    | (go_at_call 32
                       refine (HRD.out).mono ?_
                       rintro e w5 ⟨rfl, hb5⟩
                       have hnx := (Blk.new wr 66 [.int .u8 nd.kind, .int .u8 nd.op, .int .i64 nd.slot, .int .i64 nd.thing, .bool nd.a.isSlot, .int .i64 nd.a.slot, .int .i64 nd.a.word, .bool nd.b.isSlot, .int .i64 nd.b.slot, .int .i64 nd.b.word, .int .i64 nd.next, .int .i64 nd.els, .int .i64 nd.origin])
                       have HN5 := Lib.hid (hnx.below hb5 hnx.lt)
                       have k0 := HN5.out.cell 0
                       have k1 := HN5.out.cell 1
                       have k2 := HN5.out.cell 2
                       have k3 := HN5.out.cell 3
                       have k4 := HN5.out.cell 4
                       have k5 := HN5.out.cell 5
                       have k6 := HN5.out.cell 6
                       have k7 := HN5.out.cell 7
                       have k8 := HN5.out.cell 8
                       have k9 := HN5.out.cell 9
                       have k10 := HN5.out.cell 10
                       have k11 := HN5.out.cell 11
                       have k12 := HN5.out.cell 12
                       have HB5 := Lib.hid hb5
                       clear hb5 hnx)
                    | (go_at_call 63
                       refine (HRF.out _).mono ?_
                       rintro e w6 ⟨fv, rfl, hf, hb6⟩
                       obtain ⟨fA, fc, rfl, hfr⟩ := id hf
                       have HFV := Lib.hid hf
                       have HB6 := Lib.hid hb6
                       clear hf hb6 hfr))
                  obtain ⟨fs, hfs⟩ : ∃ fs, fol nd = fs := ⟨_, rfl⟩
                  have hff := HW.out.fol nd (List.mem_of_getElem? HND.out.1)
                  rw [HN.out, hfs] at hff
                  rw [hfs] at HFV hf2
                  rw [hfs]
                  have HFF := Lib.hid hff
                  have HFS := Lib.hid hfs
                  have hb56 := HB5.out.trans (HB6.out.mono HB5.out.size)
                  have HO6 := Lib.hid (HON.out.below hb56 HON.out.lt)
                  have HB66 := Lib.hid (HBN.out.trans (hb56.mono HBN.out.size))
                  have HG6 := Lib.hid (HGN.out.below hb56 HGN.out.lt)
                  have hx56 : w.heap.size + 1 < w5.heap.size := by
                    have h1 := HON.out.lt
                    have h2 := HB5.out.size
                    omega
                  clear hff hfs hb56 k0 k1 k2 k3 k4 k5 k6 k7 k8 k9 k10 k11 k12
                  go_loopw [11, 55] (fun _ v55 wr => ∃ q : Nat, v55 = .int .i64 q ∧ q ≤ fs.length ∧ Hid (Blk wr (w.heap.size + 1) 3 (ints (rOut out p r (anyR out r (fs.take q))))) ∧ Hid (Below w.heap.size w wr) ∧ Hid (Blk wr w.heap.size 69 [.string g.name, .int .i64 g.locals, .int .i64 g.slots, .slice (some ⟨nb, no, none⟩) k nc]) ∧ Hid (Ints (part wr w5.heap.size w6.heap.size) (.slice fA fs.length fc) fs)) (fun _ v55 _ => fs.length - (intOf v55).toNat)
                  case atStart => exact ⟨0, rfl, Nat.zero_le _, Lib.hid (by simpa [anyR, rOut] using HO6.out), HB66, HG6, HFV⟩
                  case round =>
                    obtain ⟨q, rfl, hq, HOq, HBq, HGq, HFq⟩ := hrel
                    by_cases hql : q < fs.length
                    · obtain ⟨y, hy⟩ : ∃ y, fs[q]? = some y := ⟨_, List.getElem?_eq_getElem hql⟩
                      obtain ⟨hy0, hyk⟩ := HFF.out y (List.mem_of_getElem? hy)
                      obtain ⟨yn, rfl⟩ := Int.eq_ofNat_of_zero_le hy0
                      obtain ⟨fb, fo, rfl, hfc⟩ := HFq.out.at_ hy
                      rw [Nat.mul_one] at hfc
                      have fc1 := (part_at hfc).1
                      have hq0 : (0 : Int) ≤ q := by omega
                      have hqf : (q : Int) < fs.length := by omega
                      have hq2 : (q : Int) ≤ 2 := by omega
                      have hsn := anyR_snoc out r hy
                      obtain ⟨b, hb⟩ : ∃ b, anyR out r (fs.take q) = b := ⟨_, rfl⟩
                      rw [hb] at hsn HOq
                      have hyo : yn < (rOut out p r b).length := by rw [rOut_len, HND.out.2.2]; omega
                      obtain ⟨z, hz⟩ : ∃ z, (rOut out p r b)[yn]? = some z := ⟨_, List.getElem?_eq_getElem hyo⟩
                      have oc2 : wr.cell? ⟨w.heap.size + 1, yn, none⟩ = some (.int .i64 z) := by rw [HOq.out.cell]; simp [ints, hz]
                      have hpo : p < (rOut out p r b).length := by rw [rOut_len, HND.out.2.2]; omega
                      obtain ⟨zp, hzp⟩ : ∃ zp, (rOut out p r b)[p]? = some zp := ⟨_, List.getElem?_eq_getElem hpo⟩
                      have ocp : wr.cell? ⟨w.heap.size + 1, p, none⟩ = some (.int .i64 zp) := by rw [HOq.out.cell]; simp [ints, hzp]
                      have ofp := HOq.out.frozen p
                      have hro := rOut_at (r := r) (b := b) HND.out.2.1 HX0.out yn
                      rw [hz] at hro
                      have HRO := Lib.hid (And.intro hro hsn)
                      clear hy hfc hsn hb hyo hz hpo hzp hro
                      by_cases hzr : z = (r : Int)
                      · have d2 : (z == (r : Int)) = true := by simp [hzr]
                        have hnx : anyR out r (fs.take (q + 1)) = true := by
                          rw [HRO.out.2, decide_eq_true (HRO.out.1.1 (by rw [hzr]))]
                          simp
                        have h1 := HOq.out.set_ p (.int .i64 ((r : Int) + 1))
                        have h1e : (ints (rOut out p r b)).set p (.int .i64 ((r : Int) + 1)) = ints (rOut out p r true) := by rw [← rOut_set out p r b]; simp [ints, List.map_set]
                        rw [h1e, ← hnx] at h1
                        have H1 := Lib.hid h1
                        clear h1 h1e hnx hzr
                        go_wp2
                        go_roundw
                        case rel => exact ⟨q + 1, by go_num, hql, H1, Lib.hid (HBq.out.setCell (p := ⟨w.heap.size + 1, p, none⟩) (by show w.heap.size ≤ w.heap.size + 1; omega) _), Lib.hid (HGq.out.far (p := ⟨w.heap.size + 1, p, none⟩) (by show w.heap.size ≠ w.heap.size + 1; omega) _), Lib.hid (HFq.out.mono (part_keep fun b hb1 hb => Below.heap_setCell _ _ _ _ (by show b ≠ w.heap.size + 1; omega)))⟩
                        case measure => simp [intOf]; omega
                      · have d2 : (z == (r : Int)) = false := by simp [hzr]
                        have hnx : anyR out r (fs.take (q + 1)) = b := by
                          rw [HRO.out.2, decide_eq_false (fun h => hzr (by have := HRO.out.1.2 h; injection this))]
                          simp
                        have HNX := Lib.hid hnx
                        clear hnx hzr
                        go_wp2
                        go_roundw
                        case rel => exact ⟨q + 1, by go_num, hql, by rw [HNX.out]; exact HOq, HBq, HGq, HFq⟩
                        case measure => simp [intOf]; omega
                    · obtain rfl : q = fs.length := by omega
                      rw [List.take_length] at HOq
                      have hai := anyR_iff (out := out) (r := r) (l := fs) (fun y hy => (HFF.out y hy).1)
                      have hnf := HF.out.take_ HT.out HND.out.1 HND.out.2.1 HX0.out HDR.out (b := anyR out r fs) (by rw [HFS.out]; exact hai)
                      have HNF : Hid (RFs g tg (rOut out p r (anyR out r fs)) r (p + 1)) := Lib.hid hnf
                      clear hai hnf
                      go_wp2
                      go_roundw
                      case rel => exact ⟨p + 1, _, by go_num, hpk, HOq, HNF, HBq, HGq⟩
                      case measure => simp [intOf]; omega
              · have d1 : decide ((0 : Int) ≤ x) = true := decide_eq_true (by omega)
                have HX0 := Lib.hid hx0
                clear hx0
                go_wp2_with (first
                  | (refine wpList_load_at rfl 66 _ rfl nb (no + p * 13) rfl _ _ HLD.out Tryz.underlying66 rfl (by kernel_rfl) ?_))
                go_roundw
                case rel => exact ⟨p + 1, out, by go_num, hpk, HON, Lib.hid (HF.out.pass HND.out.1 HND.out.2.1 (.inl (by have := HX0.out; omega))), HBN, HGN⟩
                case measure => simp [intOf]; omega
            · obtain rfl : p = k := by omega
              have hnf := HF.out
              rw [← HN.out] at hnf
              have HNF := Lib.hid hnf.round
              clear hnf
              go_wp2
              go_roundw
              case rel => exact ⟨r + 1, out, by go_num, hrk, HO, HNF, HB, HGX⟩
              case measure => simp [intOf]; omega
        · obtain rfl : r = k := by omega
          have hfin := HF0.out.done HT.out (by rw [HN.out]; exact Nat.le_refl _)
          have hlen := hfin.1
          rw [HN.out] at hlen
          have HFIN := Lib.hid (And.intro hfin hlen)
          clear hfin hlen
          go_wp2
          go_ret
          refine ⟨_, out0, rfl, ?_, HFIN.out.1, HB0.out⟩
          exact Sl_of_blk (f := fun x : Int => Value.int .i64 x) (fun _ _ _ _ h => h) HO0.out (by omega) (Nat.le_refl _) HFIN.out.2.symm (by omega)
end Go.Proofs.YtffgnjgphkdodaaGreatDoor
/- The walk of layer 11's reference: Way. -/
namespace Go.Proofs.YtffgnjgphkdodaaGreatDoor
open Go Go.RowKit
theorem mk_store {u : Unit_} {g : Graph} {a : Nat} (ha : a < g.nodes.length) : decide ((a : Int) ∈ stL u g) = (mkAt u g [] a).store := by
  rw [Bool.eq_iff_iff, decide_eq_true_iff]
  unfold stL
  rw [stK_mem]
  constructor
  · rintro ⟨i, e, _, h⟩
    obtain rfl : a = i := by omega
    exact h
  · intro h; exact ⟨a, rfl, ha, h⟩
/-- Whether there is a way at all is the same, whether or not the racy load is reached: it is, if there is one. -/
theorem way_reach {u : Unit_} {g : Graph} {a b : Nat} {d : Nat} (hw : WayN g b a d) (hs : (mkAt u g [] a).store = true) {nd : Node} (hn : g.nodes[b]? = some nd) : (mkAt u g [] b).load = ldB u nd := by
  have ha := mk_reach hs
  have key : ∀ i d, WayN g b i d → ReachC g (-1) i → ReachC g (-1) b := by
    intro i d h
    induction h with
    | nil => exact id
    | step h1 _ h3 _ ih => exact fun hr => ih (.step hr (by omega) h1 h3)
  rw [mkAt_of hn (b := true) (by simp [key _ _ hw ha])]
  simp
theorem mk_load_ld {u : Unit_} {g : Graph} {b : Nat} {nd : Node} (h : (mkAt u g [] b).load = true) (hn : g.nodes[b]? = some nd) : ldB u nd = true := by
  unfold mkAt at h
  rw [hn] at h
  simp at h
  exact h.2
set_option maxRecDepth 100000 in
set_option maxHeartbeats 8000000 in
theorem rway_calls (u : Unit_) (cs : List Value) (t a b : Int) (w : World) (hu : UnitV (cmap w) cs u) (hok : UOk u) :
    Calls Tryz.prog 23 #[.agg cs.toArray, .int .i64 t, .int .i64 a, .int .i64 b] w (WayPost u t a b w) := by
  have HAS := Lib.hid fun w1 (h : Below w.heap.size w w1) => rasked_calls u cs t w1 (hu.mono (cmap_below h)) hok
  obtain ⟨sv, lv, gv, rfl, -, -, hgs⟩ := hu
  obtain ⟨gA, gc, rfl, -⟩ := id hgs
  have hgl := hgs.len.2.2
  have hbx := Blk.new w 25 [sv, lv, .slice gA u.graphs.length gc]
  have hb0 := Below_alloc' w (.cells #[sv, lv, .slice gA u.graphs.length gc] 25)
  have HBX := Lib.hid (And.intro hbx hb0)
  have HG := Lib.hid hgs
  clear hbx hb0 hgs
  by_cases hE : askE u t = 0
  · obtain ⟨hc, h0, h1⟩ := askE_zero hE
    obtain ⟨tn, rfl⟩ := Int.eq_ofNat_of_zero_le h0
    obtain ⟨g, hg⟩ : ∃ g, u.graphs[tn]? = some g := ⟨_, List.getElem?_eq_getElem (by omega)⟩
    have hrg := (checkF_none hc).graphs g (List.mem_of_getElem? hg)
    have hwr : wayR u (tn : Int) a b = (if 0 ≤ a ∧ a < g.nodes.length ∧ 0 ≤ b ∧ b < g.nodes.length then
        if (mkAt u g [] a.toNat).store = true ∧ (mkAt u g [] b.toNat).load = true then
          match (farD g b.toNat)[a.toNat]? with
          | some x => if x < 0 then ([], false, 0) else (wayF g (farD g b.toNat) x.toNat a, true, 0)
          | none => ([], false, 0)
        else ([], false, 0)
      else (([], false, 2) : List Int × Bool × Int)) := by
      unfold wayR
      rw [if_pos hE, Int.toNat_natCast, hg]
      first | done | rfl
    rw [hE] at HAS
    obtain ⟨gb, go, rfl, gcs, hgv0, hgc⟩ := HG.out.at_ hg
    have hst := fun (cv : Value) w1 (h : Below w.heap.size w w1) (hcl : Clss (cmap w1) cv (clsL u)) => rstores_calls u g gcs cv w1 hrg (hgv0.mono (cmap_below h)) hcl
    have hfa := fun w1 (tg : Nat) (h : Below w.heap.size w w1) (ht : tg < g.nodes.length) => rfar_calls g gcs tg w1 hrg.whole (hgv0.mono (cmap_below h)) ht
    obtain ⟨nv, rfl, hnv⟩ := hgv0
    obtain ⟨nA, nc, rfl, -⟩ := id hnv
    have hnl := hnv.len.2.2
    have HST := Lib.hid hst
    have HNV := Lib.hid hnv
    have h1' : (tn : Int) < u.graphs.length := h1
    have hpos := hrg.whole.pos
    have hmost := hrg.whole.most
    have HGD := Lib.hid (And.intro hc (And.intro hgc hrg))
    have HWR := Lib.hid hwr
    have hsl := stK_length u g g.nodes.length
    have hsl2 : (stL u g).length ≤ 4096 := by unfold stL; omega
    have HLD0 : Hid (∀ w1, Below w.heap.size w w1 → ∀ j x, ([.string g.name, .int .i64 g.locals, .int .i64 g.slots, .slice nA g.nodes.length nc] : List Value)[j]? = some x → w1.cell? ⟨gb, go + tn * 4 + j, none⟩ = some x) := Lib.hid fun w1 hb j x hj => cmap_below hb _ _ _ (HGD.out.2.1 j x hj)
    obtain ⟨N, HN⟩ : ∃ N, Hid (g.nodes.length = N) := ⟨_, rfl⟩
    rw [HN.out] at hpos hmost hnl HLD0 hfa HWR HST
    have HFA := Lib.hid hfa
    clear hE hc hg hrg hwr h0 h1 hsl hgc hst hnv hfa
    by_cases hR : 0 ≤ a ∧ a < N ∧ 0 ≤ b ∧ b < N
    · rw [if_pos hR] at HWR
      obtain ⟨ha0, haN, hb0, hbN⟩ := hR
      obtain ⟨an, rfl⟩ := Int.eq_ofNat_of_zero_le ha0
      obtain ⟨bn, rfl⟩ := Int.eq_ofNat_of_zero_le hb0
      rw [Int.toNat_natCast, Int.toNat_natCast] at HWR
      have da : decide ((an : Int) < 0) = false := decide_eq_false (by omega)
      have da2 : decide ((N : Int) ≤ an) = false := decide_eq_false (by omega)
      have da3 : decide (N ≤ an) = false := decide_eq_false (by omega)
      have db : decide ((bn : Int) < 0) = false := decide_eq_false (by omega)
      have db2 : decide ((N : Int) ≤ bn) = false := decide_eq_false (by omega)
      have db3 : decide (N ≤ bn) = false := decide_eq_false (by omega)
      have hms := mk_store (u := u) (g := g) (a := an) (by rw [HN.out]; omega)
      obtain ⟨nb_, hnb_⟩ : ∃ nd, g.nodes[bn]? = some nd := ⟨g.nodes[bn]'(by rw [HN.out]; omega), List.getElem?_eq_getElem _⟩
      obtain ⟨nb, no, rfl, hncb⟩ := HNV.out.at_ hnb_
      obtain ⟨ma, hma⟩ : ∃ ma, (mkAt u g [] an).store = ma := ⟨_, rfl⟩
      obtain ⟨mb, hmb⟩ : ∃ mb, (mkAt u g [] bn).load = mb := ⟨_, rfl⟩
      obtain ⟨lb, hlb⟩ : ∃ lb, ldB u nb_ = lb := ⟨_, rfl⟩
      rw [hma, hmb] at HWR
      rw [hma] at hms
      have hlc := fun (cv : Value) w1 (h : Below w.heap.size w w1) (hcl : Clss (cmap w1) cv (clsL u)) => rload_calls u nb_ cv w1 hcl (fun h => dl_var (HGD.out.2.2.nodes nb_ (List.mem_of_getElem? hnb_)) (.inl h))
      rw [hlb] at hlc
      have HMA := Lib.hid (And.intro hma (And.intro hmb (And.intro hlb (And.intro hnb_ hms))))
      have HLB : Hid (∀ w1, Below w.heap.size w w1 → ∀ j v, nb_.cells[j]? = some v → w1.cell? ⟨nb, no + bn * 13 + j, none⟩ = some v) := Lib.hid fun w1 h j v hj => cmap_below h _ _ _ (hncb j v hj)
      have HLC := Lib.hid hlc
      clear hma hmb ha0 hb0 hlb hnb_ hms hlc hncb
      have hs4 := fun w1 (e : Ending) (w2 : World) (h : ∃ v, e = .returned v ∧ w2.ownsRow w1.heap.size 3 1 v (stL u g).length (ints (stL u g)) ∧ Below w1.heap.size w1 w2) => h
      clear hs4
      cases ma with
      | false =>
        rw [if_neg (by simp)] at HWR
        go_enter Tryz.func23, Tryz.ntmps23
        go_wp2_with (first
          | (go_at_call 51
             refine (HAS.out _ HBX.out.2).mono ?_
             rintro e w1 ⟨cv, rfl, hcl, hb1⟩
             have hcl' := (hcl rfl).mono (part_le _ _ _)
             obtain ⟨cA, cc, rfl, -⟩ := id hcl'
             have HU1 := Lib.hid (HBX.out.1.below hb1 HBX.out.1.lt)
             have c2 := HU1.out.cell 2
             have HB1 := Lib.hid (HBX.out.2.trans (hb1.mono HBX.out.2.size))
             have HCL := Lib.hid hcl'
             clear hb1 hcl hcl')
          | (refine wpList_load_at rfl 69 _ rfl gb (go + tn * 4) rfl _ _ (HLD0.out _ HB1.out) Tryz.underlying69 rfl (by kernel_rfl) ?_)
          | (refine stop_store 69 rfl ?_))
        refine Stop.intro ?_
        refine wpList_store_row rfl 69 _ _ rfl w1.heap.size #[.string g.name, .int .i64 g.locals, .int .i64 g.slots, .slice (some ⟨nb, no, none⟩) N nc] rfl rfl 69 _ (heap_alloc_new _ _) (by kernel_rfl) rfl (by simp [Value.oneCell']) ?_
        rw [World.setRow_alloc_new]
        obtain ⟨X, hX⟩ : ∃ X, w1.heap.size = X := ⟨_, rfl⟩
        have hxb0 := Blk.new w1 69 [.string g.name, .int .i64 g.locals, .int .i64 g.slots, .slice (some ⟨nb, no, none⟩) N nc]
        have HA1 := Lib.hid (HB1.out.alloc HB1.out.size (.cells #[.string g.name, .int .i64 g.locals, .int .i64 g.slots, .slice (some ⟨nb, no, none⟩) N nc] 69))
        obtain ⟨wA, hwA⟩ : ∃ wA, w1.alloc (.cells #[.string g.name, .int .i64 g.locals, .int .i64 g.slots, .slice (some ⟨nb, no, none⟩) N nc] 69) = wA := ⟨_, rfl⟩
        have hcA : Below w1.heap.size w1 wA := by rw [← hwA]; exact Below_alloc' _ _
        have HXA : Hid (Blk wA X 69 [.string g.name, .int .i64 g.locals, .int .i64 g.slots, .slice (some ⟨nb, no, none⟩) N nc]) := Lib.hid (by rw [← hwA, ← hX]; exact hxb0)
        rw [hwA] at HA1 ⊢
        have HCA := Lib.hid (HCL.out.mono (cmap_below hcA))
        rw [hX]
        have x0 := HXA.out.cell 0
        have x1 := HXA.out.cell 1
        have x2 := HXA.out.cell 2
        have x3 := HXA.out.cell 3
        clear hxb0 hwA hcA c2 HCL hX
        go_wp2_with (first
          | (go_at_call 54
             refine (HST.out _ _ HA1.out HCA.out).mono ?_
             rintro e w4 ⟨sv4, rfl, ho4, hb4⟩
             have hx4 := HXA.out.below hb4 HXA.out.lt
             have x3 := hx4.cell 3
             have HX4 := Lib.hid hx4
             have hbw4 := HA1.out.trans (hb4.mono HA1.out.size)
             have hcl4 := HCA.out.mono (cmap_below hb4)
             obtain ⟨k0, k1, k2, k3, k4, k5, k6, k7, k8, k9, k10, k11, k12⟩ := node13 (HLB.out w4 hbw4)
             have HH := Lib.hid (rhas_calls sv4 (stL u g) (an : Int) w4 (own_intsq ho4))
             rw [HMA.out.2.2.2.2] at HH
             have HLC4 := Lib.hid (HLC.out _ w4 hbw4 hcl4)
             unfold Node.cells at HLC4
             have HS4 := Lib.hid (And.intro hb4 (And.intro hbw4 hcl4))
             clear hb4 hx4 hbw4 hcl4 ho4)
          | (go_at_call 61
             refine (HH.out).mono ?_
             rintro e wq ⟨rfl, rfl⟩))
        refine bodyPost_ret (v := .tuple #[.slice none 0 0, .bool false, .int .i64 0]) (by simp [results, Tryz.results23, go_sem]) rfl ?_
        exact ⟨.slice none 0 0, by (rw [HWR.out]; try rfl), by rw [HWR.out]; exact World.ownsRow_nil _ _ _ _, HS4.out.2.1⟩
      | true =>
        cases lb with
        | false =>
          have hmb0 : mb = false := by
            cases hmb1 : mb with
            | false => rfl
            | true =>
              exfalso
              obtain ⟨h1, h2, h3, h4, h5⟩ := HMA.out
              have h6 := mk_load_ld (h2.trans hmb1) h4
              rw [h3] at h6
              cases h6
          rw [if_neg (by rw [hmb0]; simp)] at HWR
          clear hmb0
          go_enter Tryz.func23, Tryz.ntmps23
          go_wp2_with (first
            | (go_at_call 51
               refine (HAS.out _ HBX.out.2).mono ?_
               rintro e w1 ⟨cv, rfl, hcl, hb1⟩
               have hcl' := (hcl rfl).mono (part_le _ _ _)
               obtain ⟨cA, cc, rfl, -⟩ := id hcl'
               have HU1 := Lib.hid (HBX.out.1.below hb1 HBX.out.1.lt)
               have c2 := HU1.out.cell 2
               have HB1 := Lib.hid (HBX.out.2.trans (hb1.mono HBX.out.2.size))
               have HCL := Lib.hid hcl'
               clear hb1 hcl hcl')
            | (refine wpList_load_at rfl 69 _ rfl gb (go + tn * 4) rfl _ _ (HLD0.out _ HB1.out) Tryz.underlying69 rfl (by kernel_rfl) ?_)
            | (refine stop_store 69 rfl ?_))
          refine Stop.intro ?_
          refine wpList_store_row rfl 69 _ _ rfl w1.heap.size #[.string g.name, .int .i64 g.locals, .int .i64 g.slots, .slice (some ⟨nb, no, none⟩) N nc] rfl rfl 69 _ (heap_alloc_new _ _) (by kernel_rfl) rfl (by simp [Value.oneCell']) ?_
          rw [World.setRow_alloc_new]
          obtain ⟨X, hX⟩ : ∃ X, w1.heap.size = X := ⟨_, rfl⟩
          have hxb0 := Blk.new w1 69 [.string g.name, .int .i64 g.locals, .int .i64 g.slots, .slice (some ⟨nb, no, none⟩) N nc]
          have HA1 := Lib.hid (HB1.out.alloc HB1.out.size (.cells #[.string g.name, .int .i64 g.locals, .int .i64 g.slots, .slice (some ⟨nb, no, none⟩) N nc] 69))
          obtain ⟨wA, hwA⟩ : ∃ wA, w1.alloc (.cells #[.string g.name, .int .i64 g.locals, .int .i64 g.slots, .slice (some ⟨nb, no, none⟩) N nc] 69) = wA := ⟨_, rfl⟩
          have hcA : Below w1.heap.size w1 wA := by rw [← hwA]; exact Below_alloc' _ _
          have HXA : Hid (Blk wA X 69 [.string g.name, .int .i64 g.locals, .int .i64 g.slots, .slice (some ⟨nb, no, none⟩) N nc]) := Lib.hid (by rw [← hwA, ← hX]; exact hxb0)
          rw [hwA] at HA1 ⊢
          have HCA := Lib.hid (HCL.out.mono (cmap_below hcA))
          rw [hX]
          have x0 := HXA.out.cell 0
          have x1 := HXA.out.cell 1
          have x2 := HXA.out.cell 2
          have x3 := HXA.out.cell 3
          clear hxb0 hwA hcA c2 HCL hX
          go_wp2_with (first
            | (go_at_call 54
               refine (HST.out _ _ HA1.out HCA.out).mono ?_
               rintro e w4 ⟨sv4, rfl, ho4, hb4⟩
               have hx4 := HXA.out.below hb4 HXA.out.lt
               have x3 := hx4.cell 3
               have HX4 := Lib.hid hx4
               have hbw4 := HA1.out.trans (hb4.mono HA1.out.size)
               have hcl4 := HCA.out.mono (cmap_below hb4)
               obtain ⟨k0, k1, k2, k3, k4, k5, k6, k7, k8, k9, k10, k11, k12⟩ := node13 (HLB.out w4 hbw4)
               have HH := Lib.hid (rhas_calls sv4 (stL u g) (an : Int) w4 (own_intsq ho4))
               rw [HMA.out.2.2.2.2] at HH
               have HLC4 := Lib.hid (HLC.out _ w4 hbw4 hcl4)
               unfold Node.cells at HLC4
               have HS4 := Lib.hid (And.intro hb4 (And.intro hbw4 hcl4))
               clear hb4 hx4 hbw4 hcl4 ho4)
            | (go_at_call 61
               refine (HH.out).mono ?_
               rintro e wq ⟨rfl, rfl⟩)
            | (refine wpList_load_at_g (by rfl) 66 _ rfl nb (no + bn * 13) rfl nb_.cells _ (HLB.out _ HS4.out.2.1) Tryz.underlying66 rfl (by kernel_rfl) ?_)
            | (go_at_call 55
               refine (HLC4.out).mono ?_
               rintro e w5 ⟨rfl, hb5⟩
               have hb45 := hb5
               have hx5 := HX4.out.below hb45 HX4.out.lt
               have y0 := hx5.cell 0
               have y1 := hx5.cell 1
               have y2 := hx5.cell 2
               have y3 := hx5.cell 3
               have HX5 := Lib.hid hx5
               have HB5 := Lib.hid (HS4.out.2.1.trans (hb45.mono HS4.out.2.1.size))
               clear hb5 hb45 hx5))
          refine bodyPost_ret (v := .tuple #[.slice none 0 0, .bool false, .int .i64 0]) (by simp [results, Tryz.results23, go_sem]) rfl ?_
          exact ⟨.slice none 0 0, by (rw [HWR.out]; try rfl), by rw [HWR.out]; exact World.ownsRow_nil _ _ _ _, HB5.out⟩
        | true =>
          have hfd := farD_is g bn
          have hmbd : ∀ x : Int, (farD g bn)[an]? = some x → 0 ≤ x → mb = true := by
            intro x hx hx0
            obtain ⟨h1, h2, h3, h4, h5⟩ := HMA.out
            rcases hfd.2 an x hx with ⟨h6, _⟩ | ⟨d, _, h6⟩
            · omega
            · rw [← h2, way_reach h6.1 h1 h4, h3]
          obtain ⟨D, hD⟩ : ∃ D, farD g bn = D := ⟨_, rfl⟩
          rw [hD] at HWR hfd hmbd
          have hal : an < D.length := by rw [hfd.1, HN.out]; omega
          obtain ⟨x, hx⟩ : ∃ x, D[an]? = some x := ⟨_, List.getElem?_eq_getElem hal⟩
          rw [hx] at HWR
          simp only at HWR
          have hmbx := hmbd x hx
          have HFD := Lib.hid (And.intro hfd (And.intro hx hal))
          clear hfd hD hx hal hmbd
          by_cases hx0 : x < 0
          · have d1 : decide (x < 0) = true := decide_eq_true hx0
            have HW0 : Hid (wayR u (tn : Int) (an : Int) (bn : Int) = ([], false, 0)) := Lib.hid (by
              rw [HWR.out]
              by_cases c : True ∧ mb = true
              · rw [if_pos (by simpa using c), if_pos hx0]
              · rw [if_neg (by simpa using c)])
            clear hx0 hmbx
            go_enter Tryz.func23, Tryz.ntmps23
            go_wp2_with (first
              | (go_at_call 51
                 refine (HAS.out _ HBX.out.2).mono ?_
                 rintro e w1 ⟨cv, rfl, hcl, hb1⟩
                 have hcl' := (hcl rfl).mono (part_le _ _ _)
                 obtain ⟨cA, cc, rfl, -⟩ := id hcl'
                 have HU1 := Lib.hid (HBX.out.1.below hb1 HBX.out.1.lt)
                 have c2 := HU1.out.cell 2
                 have HB1 := Lib.hid (HBX.out.2.trans (hb1.mono HBX.out.2.size))
                 have HCL := Lib.hid hcl'
                 clear hb1 hcl hcl')
              | (refine wpList_load_at rfl 69 _ rfl gb (go + tn * 4) rfl _ _ (HLD0.out _ HB1.out) Tryz.underlying69 rfl (by kernel_rfl) ?_)
              | (refine stop_store 69 rfl ?_))
            refine Stop.intro ?_
            refine wpList_store_row rfl 69 _ _ rfl w1.heap.size #[.string g.name, .int .i64 g.locals, .int .i64 g.slots, .slice (some ⟨nb, no, none⟩) N nc] rfl rfl 69 _ (heap_alloc_new _ _) (by kernel_rfl) rfl (by simp [Value.oneCell']) ?_
            rw [World.setRow_alloc_new]
            obtain ⟨X, hX⟩ : ∃ X, w1.heap.size = X := ⟨_, rfl⟩
            have hxb0 := Blk.new w1 69 [.string g.name, .int .i64 g.locals, .int .i64 g.slots, .slice (some ⟨nb, no, none⟩) N nc]
            have HA1 := Lib.hid (HB1.out.alloc HB1.out.size (.cells #[.string g.name, .int .i64 g.locals, .int .i64 g.slots, .slice (some ⟨nb, no, none⟩) N nc] 69))
            obtain ⟨wA, hwA⟩ : ∃ wA, w1.alloc (.cells #[.string g.name, .int .i64 g.locals, .int .i64 g.slots, .slice (some ⟨nb, no, none⟩) N nc] 69) = wA := ⟨_, rfl⟩
            have hcA : Below w1.heap.size w1 wA := by rw [← hwA]; exact Below_alloc' _ _
            have HXA : Hid (Blk wA X 69 [.string g.name, .int .i64 g.locals, .int .i64 g.slots, .slice (some ⟨nb, no, none⟩) N nc]) := Lib.hid (by rw [← hwA, ← hX]; exact hxb0)
            rw [hwA] at HA1 ⊢
            have HCA := Lib.hid (HCL.out.mono (cmap_below hcA))
            rw [hX]
            have x0 := HXA.out.cell 0
            have x1 := HXA.out.cell 1
            have x2 := HXA.out.cell 2
            have x3 := HXA.out.cell 3
            clear hxb0 hwA hcA c2 HCL hX
            go_wp2_with (first
              | (go_at_call 54
                 refine (HST.out _ _ HA1.out HCA.out).mono ?_
                 rintro e w4 ⟨sv4, rfl, ho4, hb4⟩
                 have hx4 := HXA.out.below hb4 HXA.out.lt
                 have x3 := hx4.cell 3
                 have HX4 := Lib.hid hx4
                 have hbw4 := HA1.out.trans (hb4.mono HA1.out.size)
                 have hcl4 := HCA.out.mono (cmap_below hb4)
                 obtain ⟨k0, k1, k2, k3, k4, k5, k6, k7, k8, k9, k10, k11, k12⟩ := node13 (HLB.out w4 hbw4)
                 have HH := Lib.hid (rhas_calls sv4 (stL u g) (an : Int) w4 (own_intsq ho4))
                 rw [HMA.out.2.2.2.2] at HH
                 have HLC4 := Lib.hid (HLC.out _ w4 hbw4 hcl4)
                 unfold Node.cells at HLC4
                 have HS4 := Lib.hid (And.intro hb4 (And.intro hbw4 hcl4))
                 clear hb4 hx4 hbw4 hcl4 ho4)
              | (go_at_call 61
                 refine (HH.out).mono ?_
                 rintro e wq ⟨rfl, rfl⟩)
              | (refine wpList_load_at_g (by rfl) 66 _ rfl nb (no + bn * 13) rfl nb_.cells _ (HLB.out _ HS4.out.2.1) Tryz.underlying66 rfl (by kernel_rfl) ?_)
              | (go_at_call 55
                 refine (HLC4.out).mono ?_
                 rintro e w5 ⟨rfl, hb5⟩
                 have hb45 := hb5
                 have hx5 := HX4.out.below hb45 HX4.out.lt
                 have y0 := hx5.cell 0
                 have y1 := hx5.cell 1
                 have y2 := hx5.cell 2
                 have y3 := hx5.cell 3
                 have HX5 := Lib.hid hx5
                 have HB5 := Lib.hid (HS4.out.2.1.trans (hb45.mono HS4.out.2.1.size))
                 clear hb5 hb45 hx5)
              | (go_at_call 62
                 refine (HFA.out _ bn HB5.out (by omega)).mono ?_
                 rintro e w6 ⟨fv, D', rfl, hfi, hfl, hb6⟩
                 have hDD : D' = D := hfl.inj HFD.out.1
                 subst hDD
                 have hDN : D'.length = N := by rw [HFD.out.1.1, HN.out]
                 obtain ⟨fA, fc, rfl, -⟩ := id hfi
                 rw [hDN] at hfi
                 obtain ⟨fb, fo, rfl, hfc⟩ := hfi.at_ HFD.out.2.1
                 rw [Nat.mul_one] at hfc
                 have hfx := (part_at hfc).1
                 rw [hDN]
                 have HF6 := Lib.hid (And.intro hfi (And.intro hb6 hDN))
                 clear hfi hfl hb6 hfc hDN))
            refine bodyPost_ret (v := .tuple #[.slice none 0 0, .bool false, .int .i64 0]) (by simp [results, Tryz.results23, go_sem]) rfl ?_
            exact ⟨.slice none 0 0, by (rw [HW0.out]; try rfl), by rw [HW0.out]; exact World.ownsRow_nil _ _ _ _, (HB5.out.trans (HF6.out.2.1.mono HB5.out.size))⟩
          · have d1 : decide (x < 0) = false := decide_eq_false hx0
            have hmt := hmbx (by omega)
            subst hmt
            rw [if_pos (by simp), if_neg hx0] at HWR
            obtain ⟨d, rfl⟩ := Int.eq_ofNat_of_zero_le (show 0 ≤ x by omega)
            rw [Int.toNat_natCast] at HWR
            clear hx0 hmbx
            go_enter Tryz.func23, Tryz.ntmps23
            go_wp2_with (first
              | (go_at_call 51
                 refine (HAS.out _ HBX.out.2).mono ?_
                 rintro e w1 ⟨cv, rfl, hcl, hb1⟩
                 have hcl' := (hcl rfl).mono (part_le _ _ _)
                 obtain ⟨cA, cc, rfl, -⟩ := id hcl'
                 have HU1 := Lib.hid (HBX.out.1.below hb1 HBX.out.1.lt)
                 have c2 := HU1.out.cell 2
                 have HB1 := Lib.hid (HBX.out.2.trans (hb1.mono HBX.out.2.size))
                 have HCL := Lib.hid hcl'
                 clear hb1 hcl hcl')
              | (refine wpList_load_at rfl 69 _ rfl gb (go + tn * 4) rfl _ _ (HLD0.out _ HB1.out) Tryz.underlying69 rfl (by kernel_rfl) ?_)
              | (refine stop_store 69 rfl ?_))
            refine Stop.intro ?_
            refine wpList_store_row rfl 69 _ _ rfl w1.heap.size #[.string g.name, .int .i64 g.locals, .int .i64 g.slots, .slice (some ⟨nb, no, none⟩) N nc] rfl rfl 69 _ (heap_alloc_new _ _) (by kernel_rfl) rfl (by simp [Value.oneCell']) ?_
            rw [World.setRow_alloc_new]
            obtain ⟨X, hX⟩ : ∃ X, w1.heap.size = X := ⟨_, rfl⟩
            have hxb0 := Blk.new w1 69 [.string g.name, .int .i64 g.locals, .int .i64 g.slots, .slice (some ⟨nb, no, none⟩) N nc]
            have HA1 := Lib.hid (HB1.out.alloc HB1.out.size (.cells #[.string g.name, .int .i64 g.locals, .int .i64 g.slots, .slice (some ⟨nb, no, none⟩) N nc] 69))
            obtain ⟨wA, hwA⟩ : ∃ wA, w1.alloc (.cells #[.string g.name, .int .i64 g.locals, .int .i64 g.slots, .slice (some ⟨nb, no, none⟩) N nc] 69) = wA := ⟨_, rfl⟩
            have hcA : Below w1.heap.size w1 wA := by rw [← hwA]; exact Below_alloc' _ _
            have HXA : Hid (Blk wA X 69 [.string g.name, .int .i64 g.locals, .int .i64 g.slots, .slice (some ⟨nb, no, none⟩) N nc]) := Lib.hid (by rw [← hwA, ← hX]; exact hxb0)
            rw [hwA] at HA1 ⊢
            have HCA := Lib.hid (HCL.out.mono (cmap_below hcA))
            rw [hX]
            have x0 := HXA.out.cell 0
            have x1 := HXA.out.cell 1
            have x2 := HXA.out.cell 2
            have x3 := HXA.out.cell 3
            clear hxb0 hwA hcA c2 HCL hX
            go_wp2_with (first
              | (go_at_call 54
                 refine (HST.out _ _ HA1.out HCA.out).mono ?_
                 rintro e w4 ⟨sv4, rfl, ho4, hb4⟩
                 have hx4 := HXA.out.below hb4 HXA.out.lt
                 have x3 := hx4.cell 3
                 have HX4 := Lib.hid hx4
                 have hbw4 := HA1.out.trans (hb4.mono HA1.out.size)
                 have hcl4 := HCA.out.mono (cmap_below hb4)
                 obtain ⟨k0, k1, k2, k3, k4, k5, k6, k7, k8, k9, k10, k11, k12⟩ := node13 (HLB.out w4 hbw4)
                 have HH := Lib.hid (rhas_calls sv4 (stL u g) (an : Int) w4 (own_intsq ho4))
                 rw [HMA.out.2.2.2.2] at HH
                 have HLC4 := Lib.hid (HLC.out _ w4 hbw4 hcl4)
                 unfold Node.cells at HLC4
                 have HS4 := Lib.hid (And.intro hb4 (And.intro hbw4 hcl4))
                 clear hb4 hx4 hbw4 hcl4 ho4)
              | (go_at_call 61
                 refine (HH.out).mono ?_
                 rintro e wq ⟨rfl, rfl⟩)
              | (refine wpList_load_at_g (by rfl) 66 _ rfl nb (no + bn * 13) rfl nb_.cells _ (HLB.out _ HS4.out.2.1) Tryz.underlying66 rfl (by kernel_rfl) ?_)
              | (go_at_call 55
                 refine (HLC4.out).mono ?_
                 rintro e w5 ⟨rfl, hb5⟩
                 have hb45 := hb5
                 have hx5 := HX4.out.below hb45 HX4.out.lt
                 have y0 := hx5.cell 0
                 have y1 := hx5.cell 1
                 have y2 := hx5.cell 2
                 have y3 := hx5.cell 3
                 have HX5 := Lib.hid hx5
                 have HB5 := Lib.hid (HS4.out.2.1.trans (hb45.mono HS4.out.2.1.size))
                 clear hb5 hb45 hx5)
              | (go_at_call 62
                 refine (HFA.out _ bn HB5.out (by omega)).mono ?_
                 rintro e w6 ⟨fv, D', rfl, hfi, hfl, hb6⟩
                 have hDD : D' = D := hfl.inj HFD.out.1
                 subst hDD
                 have hDN : D'.length = N := by rw [HFD.out.1.1, HN.out]
                 obtain ⟨fA, fc, rfl, -⟩ := id hfi
                 rw [hDN] at hfi
                 obtain ⟨fb, fo, rfl, hfc⟩ := hfi.at_ HFD.out.2.1
                 rw [Nat.mul_one] at hfc
                 have hfx := (part_at hfc).1
                 rw [hDN]
                 have HF6 := Lib.hid (And.intro hfi (And.intro hb6 hDN))
                 clear hfi hfl hb6 hfc hDN))
            obtain ⟨W, hW⟩ : ∃ W, wayF g D' d (an : Int) = W := ⟨_, rfl⟩
            rw [hW] at HWR
            have hs5 := HB5.out.size
            have hs6 := HF6.out.2.1.size
            have hdN : d < N := by
              rcases HFD.out.1.2 an _ HFD.out.2.1 with ⟨h1, _⟩ | ⟨d', h1, h2⟩
              · omega
              · have := h2.lt (by rw [HN.out]; omega)
                rw [HN.out] at this
                omega
            have HX6 := Lib.hid (HX5.out.below HF6.out.2.1 HX5.out.lt)
            have HB6 := Lib.hid (HB5.out.trans (HF6.out.2.1.mono HB5.out.size))
            have hxl6 : X < w6.heap.size := HX6.out.lt
            have HW := Lib.hid hW
            have hini := own_new (base := w6.heap.size) (e := 3) (size := 1) (n := 1) w6 #[.int .i64 (an : Int)] w6.heap.size rfl (Nat.le_refl _) (by omega) rfl (ints [(an : Int)]) rfl
            have HINI := Lib.hid hini
            clear hW hini
            go_loopw [15] (fun v15 wr => ∃ (i e : Nat) (pre : List Int), pre.length + e = d ∧ Hid (D'[i]? = some (e : Int) ∧ i < N ∧ pre ++ wayF g D' e (i : Int) = W) ∧ Hid (wr.ownsRow w6.heap.size 3 1 v15 (pre.length + 1) (ints (pre ++ [(i : Int)]))) ∧ Hid (Below w6.heap.size w6 wr)) (fun v15 _ => d + 1 - (match v15 with | .slice _ n _ => n | _ => 0))
            case atStart => exact ⟨an, d, [], by simp, Lib.hid ⟨HFD.out.2.1, by omega, HW.out⟩, HINI, Lib.hid (Below_alloc' _ _)⟩
            case round =>
              obtain ⟨i, e, pre, hpe, HI, HO, HB⟩ := hrel
              have hiN := HI.out.2.1
              have hi0 : (0 : Int) ≤ i := by omega
              have hiN' : (i : Int) < N := by omega
              have hfi4 : Ints (cmap wr) (.slice (some ⟨fb, fo, none⟩) N fc) D' := (HF6.out.1.mono (part_le _ _ _)).mono (cmap_below HB.out)
              obtain ⟨fb', fo', e', hfc⟩ := hfi4.at_ HI.out.1
              injection e' with e'
              injection e' with e1 e2
              subst e1 e2
              rw [Nat.mul_one] at hfc
              have fci : wr.cell? ⟨fb, fo + i, none⟩ = some (.int .i64 (e : Int)) := hfc
              have HFI := Lib.hid hfi4
              clear hfc hfi4
              obtain ⟨wb, wc, hev, -, hwbl, -, hwc⟩ := own_form HO.out (by omega)
              subst hev
              obtain ⟨m0, hm0⟩ : ∃ m0, pre.length = m0 := ⟨_, rfl⟩
              have wci : wr.cell? ⟨wb, pre.length, none⟩ = some (.int .i64 (i : Int)) := (hwc pre.length (by omega)).trans (by simp [ints])
              have hpm : (pre.length : Int) ≤ 4096 := by omega
              have hpm0 : (0 : Int) ≤ (pre.length : Int) := by omega
              have hxr := HX6.out.below HB.out hxl6
              have x3r := hxr.cell 3
              have hwbl2 := hwbl
              clear hm0 hwc hwbl
              cases e with
              | zero =>
                have e0 : ((0 : Nat) : Int) = 0 := rfl
                rw [e0] at fci
                have hfin : Hid (W = pre ++ [(i : Int)]) := Lib.hid HI.out.2.2.symm
                go_wp2
                refine bodyPost_ret (v := .tuple #[.slice (some ⟨wb, 0, none⟩) (pre.length + 1) wc, .bool true, .int .i64 0]) (by simp [results, Tryz.results23, go_sem]) rfl ?_
                refine ⟨_, by rw [HWR.out], ?_, HB6.out.trans (HB.out.mono HB6.out.size)⟩
                rw [HWR.out, hfin.out]
                have h1 := own_base (base' := w.heap.size) HO.out (by have := HB6.out.size; omega)
                simpa using h1
              | succ e =>
                have e1 : ((e + 1 : Nat) : Int) = (e : Int) + 1 := by omega
                rw [e1] at fci
                have he0 : (0 : Int) ≤ e := by omega
                have heN : (e : Int) ≤ 4096 := by omega
                have dgt : decide ((0 : Int) < (e : Int) + 1) = true := decide_eq_true (by omega)
                obtain ⟨nd, hnd⟩ : ∃ nd, g.nodes[i]? = some nd := ⟨g.nodes[i]'(by rw [HN.out]; exact hiN), List.getElem?_eq_getElem _⟩
                have hbo := best_ok HGD.out.2.2.whole (tg := bn) (by rw [HN.out]; omega) HFD.out.1 (d := e) (by rw [HI.out.1, e1]) hnd
                have hnvr : Nodes (cmap wr) (.slice (some ⟨nb, no, none⟩) g.nodes.length nc) g.nodes := HNV.out.mono (cmap_below (HB6.out.trans (HB.out.mono HB6.out.size)))
                obtain ⟨nb', no', e', hnc⟩ := hnvr.at_ hnd
                injection e' with e'
                injection e' with e3 e4
                subst e3 e4
                have HLDn : Hid (∀ j v, nd.cells[j]? = some v → wr.cell? ⟨nb, no + i * 13 + j, none⟩ = some v) := Lib.hid hnc
                have hf2 := fol_length nd
                have hff := HGD.out.2.2.whole.fol nd (List.mem_of_getElem? hnd)
                rw [HN.out] at hff
                have hff2 : ∀ (q : Nat) (y : Int), (fol nd)[q]? = some y → 0 ≤ y ∧ y < N := fun q y hq => hff y (List.mem_of_getElem? hq)
                have HFF := Lib.hid hff2
                have HND := Lib.hid (And.intro hnd hbo)
                obtain ⟨wo, rfl⟩ : ∃ wo : World, wo = wr := ⟨_, rfl⟩
                have hws := HB.out.size
                clear hnd hbo hxr hnvr hnc hff hff2
                go_wp2_with (first
                  | (refine wpList_load_at rfl 66 _ rfl nb (no + i * 13) rfl nd.cells _ HLDn.out Tryz.underlying66 rfl (by kernel_rfl) ?_)
                  | (go_at_call 63
                     refine (rfollows_calls nd _).mono ?_
                     rintro e w7 ⟨fv5, rfl, hf5, hb5⟩
                     obtain ⟨f5A, f5c, rfl, -⟩ := id hf5
                     have HFV := Lib.hid hf5
                     have HB7 := Lib.hid hb5
                     clear hb5 hf5))
                obtain ⟨fs, hfs⟩ : ∃ fs, fol nd = fs := ⟨_, rfl⟩
                rw [hfs] at HFV HFF hf2 HND
                rw [hfs]
                have HFS := Lib.hid hfs
                clear hfs
                have fc5 : w7.cell? ⟨fb, fo + i, none⟩ = some (.int .i64 ((e : Int) + 1)) := cmap_below HB7.out _ _ _ fci
                have HFI5 := Lib.hid (HFI.out.mono (cmap_below HB7.out))
                clear fci wci x3r
                go_loopw [17, 103] (fun v17 v103 wr => ∃ q : Nat, v17 = .int .i64 (bestK D' ((e : Int) + 1) (-1) (fs.take q)) ∧ v103 = .int .i64 q ∧ q ≤ fs.length ∧ Hid (∃ m, wr = w7.drewN m)) (fun _ v103 _ => fs.length - (intOf v103).toNat)
                case atStart => exact ⟨0, rfl, rfl, Nat.zero_le _, Lib.hid ⟨0, rfl⟩⟩
                case round =>
                  obtain ⟨q, rfl, rfl, hq, HM⟩ := hrel
                  obtain ⟨m, rfl⟩ := HM.out
                  by_cases hql : q < fs.length
                  · obtain ⟨y, hy⟩ : ∃ y, fs[q]? = some y := ⟨_, List.getElem?_eq_getElem hql⟩
                    obtain ⟨hy0, hyN⟩ := HFF.out q y hy
                    obtain ⟨f5b, f5o, rfl, h5c⟩ := HFV.out.at_ hy
                    rw [Nat.mul_one] at h5c
                    have h5d : w7.cell? ⟨f5b, f5o + q, none⟩ = some (.int .i64 y) := (part_at h5c).1
                    obtain ⟨yn, rfl⟩ := Int.eq_ofNat_of_zero_le hy0
                    have hyl : yn < D'.length := by rw [HF6.out.2.2]; omega
                    obtain ⟨z, hz⟩ : ∃ z, D'[yn]? = some z := ⟨_, List.getElem?_eq_getElem hyl⟩
                    obtain ⟨fb', fo', e', hfc⟩ := HFI5.out.at_ hz
                    injection e' with e'
                    injection e' with e3 e4
                    subst e3 e4
                    rw [Nat.mul_one] at hfc
                    have fcz : w7.cell? ⟨fb, fo + yn, none⟩ = some (.int .i64 z) := hfc
                    have hsn := bestK_snoc D' ((e : Int) + 1) (yn : Int) (fs.take q) (-1)
                    have htk : fs.take q ++ [(yn : Int)] = fs.take (q + 1) := by rw [List.take_succ_eq_append_getElem hql]; congr 2; have := hy; rw [List.getElem?_eq_getElem hql] at this; injection this with this; exact this.symm
                    rw [htk, Int.toNat_natCast, hz] at hsn
                    obtain ⟨bk, hbk⟩ : ∃ bk, bestK D' ((e : Int) + 1) (-1) (fs.take q) = bk := ⟨_, rfl⟩
                    rw [hbk] at hsn
                    rw [hbk]
                    have q0 : (0 : Int) ≤ q := by omega
                    have qf : (q : Int) < fs.length := by omega
                    have qs : (q : Int) ≤ 2 := by omega
                    have HSN := Lib.hid hsn
                    clear hsn htk hbk hy h5c hfc hz hyl
                    by_cases c1 : z = (e : Int)
                    · have g1 : (z == (e : Int)) = true := by simp [c1]
                      have hzz : Hid (some z = some ((e : Int) + 1 - 1)) := Lib.hid (by rw [c1]; congr 1; omega)
                      clear c1
                      by_cases c2 : bk < 0
                      · have g2 : decide (bk < 0) = true := decide_eq_true c2
                        have hnx : Hid (bestK D' ((e : Int) + 1) (-1) (fs.take (q + 1)) = (yn : Int)) := Lib.hid (by rw [HSN.out, if_pos ⟨hzz.out, .inl c2⟩])
                        clear c2
                        go_wp2
                        go_quiet (fail)
                        go_wp2
                        go_roundw
                        case rel => exact ⟨q + 1, by rw [hnx.out], by go_num, hql, Lib.hid ⟨_, rfl⟩⟩
                        case measure => simp [intOf]; omega
                      · have g2 : decide (bk < 0) = false := decide_eq_false c2
                        by_cases c3 : (yn : Int) < bk
                        · have g3 : decide ((yn : Int) < bk) = true := decide_eq_true c3
                          have hnx : Hid (bestK D' ((e : Int) + 1) (-1) (fs.take (q + 1)) = (yn : Int)) := Lib.hid (by rw [HSN.out, if_pos ⟨hzz.out, .inr c3⟩])
                          clear c2 c3
                          go_wp2
                          go_quiet (fail)
                          go_wp2
                          go_roundw
                          case rel => exact ⟨q + 1, by rw [hnx.out], by go_num, hql, Lib.hid ⟨_, rfl⟩⟩
                          case measure => simp [intOf]; omega
                        · have g3 : decide ((yn : Int) < bk) = false := decide_eq_false c3
                          have hnx : Hid (bestK D' ((e : Int) + 1) (-1) (fs.take (q + 1)) = bk) := Lib.hid (by rw [HSN.out, if_neg (by rintro ⟨_, h | h⟩; exact c2 h; exact c3 h)])
                          clear c2 c3
                          go_wp2
                          go_quiet (fail)
                          go_wp2
                          go_roundw
                          case rel => exact ⟨q + 1, by rw [hnx.out], by go_num, hql, Lib.hid ⟨_, rfl⟩⟩
                          case measure => simp [intOf]; omega
                    · have g1 : (z == (e : Int)) = false := by simp [c1]
                      have hnx : Hid (bestK D' ((e : Int) + 1) (-1) (fs.take (q + 1)) = bk) := Lib.hid (by rw [HSN.out, if_neg (by rintro ⟨h, _⟩; injection h with h; omega)])
                      clear c1
                      go_wp2
                      go_quiet (fail)
                      go_wp2
                      go_roundw
                      case rel => exact ⟨q + 1, by rw [hnx.out], by go_num, hql, Lib.hid ⟨_, rfl⟩⟩
                      case measure => simp [intOf]; omega
                  · obtain rfl : q = fs.length := by omega
                    rw [List.take_length]
                    obtain ⟨dr, j, hj1, hj2, hj3, hj4⟩ := HND.out.2
                    have hbe : bestK D' ((e : Int) + 1) (-1) fs = (j : Int) := hj1
                    rw [hbe]
                    have hjl : j < N := by have := (List.getElem?_eq_some_iff.1 hj3).1; rw [HF6.out.2.2] at this; exact this
                    have hwy : pre ++ [(i : Int)] ++ wayF g D' e (j : Int) = W := by
                      rw [← HI.out.2.2]
                      show _ = pre ++ ((i : Int) :: wayF g D' e (bestK D' ((e : Int) + 1) (-1) (folAt g (i : Int))))
                      unfold folAt
                      rw [Int.toNat_natCast, HND.out.1]
                      simp only
                      rw [HFS.out, hj1]
                      simp
                    have HJ := Lib.hid (And.intro hj3 (And.intro hjl hwy))
                    have hbw : Below w6.heap.size w6 (w7.drewN m) := below_drewN (HB.out.trans (HB7.out.mono hws)) m
                    have how5 : (w7.drewN m).ownsRow w6.heap.size 3 1 (.slice (some ⟨wb, 0, none⟩) (pre.length + 1) wc) (pre.length + 1) (ints (pre ++ [(i : Int)])) := HO.out.kept (row := none) ⟨(below_drewN HB7.out m).os, (below_drewN HB7.out m).tape, (below_drewN HB7.out m).output, (below_drewN HB7.out m).size, fun k hk _ => (below_drewN HB7.out m).block k hk⟩ (by simp [Value.ownBlock])
                    obtain ⟨w8, hw8⟩ : ∃ w8, w7.drewN m = w8 := ⟨_, rfl⟩
                    rw [hw8] at hbw how5
                    rw [hw8]
                    have how6 := how5.alloc (.cells #[.int .i64 (j : Int)] 3)
                    have HBW := Lib.hid (And.intro hbw how5)
                    have hbs := hbw.size
                    have hpl : pre.length ≤ 4096 := by omega
                    clear dr hj1 hj2 hj3 hj4 hbe hwy hbw how5 fc5 hw8
                    go_wp2_with (refine stop_append rfl ?_)
                    refine Stop.intro ?_
                    refine app_one sl_int rfl _ _ rfl w6.heap.size (.slice (some ⟨wb, 0, none⟩) (pre.length + 1) wc) (pre.length + 1) (ints (pre ++ [(i : Int)])) rfl how6 _ 0 1 [.int .i64 (j : Int)] rfl rfl (cell_new1 _ _ _ _ rfl) (by simp [Value.oneCell']) (by omega) (by decide) (by simp; omega) ?_
                    intro v' w9 hown5 hgr hobn
                    have hb9 := (HBW.out.1.alloc hbs (.cells #[.int .i64 (j : Int)] 3)).grown hgr (by simp; omega) (fun b hb => (own_lt HBW.out.2 b hb))
                    obtain ⟨vA, vc, rfl, -⟩ := own_slice hown5
                    have HF := Lib.hid (And.intro hown5 hb9)
                    clear hown5 hgr hobn hb9 how6
                    go_wp2
                    go_roundw
                    case rel => exact ⟨j, e, pre ++ [(i : Int)], by simp; omega, Lib.hid HJ.out, Lib.hid (by simpa [ints] using HF.out.1), Lib.hid HF.out.2⟩
                    case measure => simp; omega
    · rw [if_neg hR] at HWR
      by_cases hz : a < 0
      · have d1 : decide (a < 0) = true := decide_eq_true hz
        clear hR hz
        go_enter Tryz.func23, Tryz.ntmps23
        go_wp2_with (first
          | (go_at_call 51
             refine (HAS.out _ HBX.out.2).mono ?_
             rintro e w1 ⟨cv, rfl, hcl, hb1⟩
             have hcl' := (hcl rfl).mono (part_le _ _ _)
             obtain ⟨cA, cc, rfl, -⟩ := id hcl'
             have HU1 := Lib.hid (HBX.out.1.below hb1 HBX.out.1.lt)
             have c2 := HU1.out.cell 2
             have HB1 := Lib.hid (HBX.out.2.trans (hb1.mono HBX.out.2.size))
             have HCL := Lib.hid hcl'
             clear hb1 hcl hcl')
          | (refine wpList_load_at rfl 69 _ rfl gb (go + tn * 4) rfl _ _ (HLD0.out _ HB1.out) Tryz.underlying69 rfl (by kernel_rfl) ?_)
          | (refine stop_store 69 rfl ?_))
        refine Stop.intro ?_
        refine wpList_store_row rfl 69 _ _ rfl w1.heap.size #[.string g.name, .int .i64 g.locals, .int .i64 g.slots, .slice nA N nc] rfl rfl 69 _ (heap_alloc_new _ _) (by kernel_rfl) rfl (by simp [Value.oneCell']) ?_
        rw [World.setRow_alloc_new]
        obtain ⟨X, hX⟩ : ∃ X, w1.heap.size = X := ⟨_, rfl⟩
        have hxb0 := Blk.new w1 69 [.string g.name, .int .i64 g.locals, .int .i64 g.slots, .slice nA N nc]
        have HA1 := Lib.hid (HB1.out.alloc HB1.out.size (.cells #[.string g.name, .int .i64 g.locals, .int .i64 g.slots, .slice nA N nc] 69))
        obtain ⟨wA, hwA⟩ : ∃ wA, w1.alloc (.cells #[.string g.name, .int .i64 g.locals, .int .i64 g.slots, .slice nA N nc] 69) = wA := ⟨_, rfl⟩
        have hcA : Below w1.heap.size w1 wA := by rw [← hwA]; exact Below_alloc' _ _
        have HXA : Hid (Blk wA X 69 [.string g.name, .int .i64 g.locals, .int .i64 g.slots, .slice nA N nc]) := Lib.hid (by rw [← hwA, ← hX]; exact hxb0)
        rw [hwA] at HA1 ⊢
        have HCA := Lib.hid (HCL.out.mono (cmap_below hcA))
        rw [hX]
        have x0 := HXA.out.cell 0
        have x1 := HXA.out.cell 1
        have x2 := HXA.out.cell 2
        have x3 := HXA.out.cell 3
        clear hxb0 hwA hcA c2 HCL hX
        go_wp2
        refine bodyPost_ret (v := .tuple #[.slice none 0 0, .bool false, .int .i64 2]) (by simp [results, Tryz.results23, go_sem]) rfl ?_
        exact ⟨.slice none 0 0, by (rw [HWR.out]; try rfl), by rw [HWR.out]; exact World.ownsRow_nil _ _ _ _, HA1.out⟩
      · by_cases hz2 : (N : Int) ≤ a
        · have d1 : decide (a < 0) = false := decide_eq_false (by omega)
          have d2 : decide ((N : Int) ≤ a) = true := decide_eq_true hz2
          clear hR hz hz2
          go_enter Tryz.func23, Tryz.ntmps23
          go_wp2_with (first
            | (go_at_call 51
               refine (HAS.out _ HBX.out.2).mono ?_
               rintro e w1 ⟨cv, rfl, hcl, hb1⟩
               have hcl' := (hcl rfl).mono (part_le _ _ _)
               obtain ⟨cA, cc, rfl, -⟩ := id hcl'
               have HU1 := Lib.hid (HBX.out.1.below hb1 HBX.out.1.lt)
               have c2 := HU1.out.cell 2
               have HB1 := Lib.hid (HBX.out.2.trans (hb1.mono HBX.out.2.size))
               have HCL := Lib.hid hcl'
               clear hb1 hcl hcl')
            | (refine wpList_load_at rfl 69 _ rfl gb (go + tn * 4) rfl _ _ (HLD0.out _ HB1.out) Tryz.underlying69 rfl (by kernel_rfl) ?_)
            | (refine stop_store 69 rfl ?_))
          refine Stop.intro ?_
          refine wpList_store_row rfl 69 _ _ rfl w1.heap.size #[.string g.name, .int .i64 g.locals, .int .i64 g.slots, .slice nA N nc] rfl rfl 69 _ (heap_alloc_new _ _) (by kernel_rfl) rfl (by simp [Value.oneCell']) ?_
          rw [World.setRow_alloc_new]
          obtain ⟨X, hX⟩ : ∃ X, w1.heap.size = X := ⟨_, rfl⟩
          have hxb0 := Blk.new w1 69 [.string g.name, .int .i64 g.locals, .int .i64 g.slots, .slice nA N nc]
          have HA1 := Lib.hid (HB1.out.alloc HB1.out.size (.cells #[.string g.name, .int .i64 g.locals, .int .i64 g.slots, .slice nA N nc] 69))
          obtain ⟨wA, hwA⟩ : ∃ wA, w1.alloc (.cells #[.string g.name, .int .i64 g.locals, .int .i64 g.slots, .slice nA N nc] 69) = wA := ⟨_, rfl⟩
          have hcA : Below w1.heap.size w1 wA := by rw [← hwA]; exact Below_alloc' _ _
          have HXA : Hid (Blk wA X 69 [.string g.name, .int .i64 g.locals, .int .i64 g.slots, .slice nA N nc]) := Lib.hid (by rw [← hwA, ← hX]; exact hxb0)
          rw [hwA] at HA1 ⊢
          have HCA := Lib.hid (HCL.out.mono (cmap_below hcA))
          rw [hX]
          have x0 := HXA.out.cell 0
          have x1 := HXA.out.cell 1
          have x2 := HXA.out.cell 2
          have x3 := HXA.out.cell 3
          clear hxb0 hwA hcA c2 HCL hX
          go_wp2
          refine bodyPost_ret (v := .tuple #[.slice none 0 0, .bool false, .int .i64 2]) (by simp [results, Tryz.results23, go_sem]) rfl ?_
          exact ⟨.slice none 0 0, by (rw [HWR.out]; try rfl), by rw [HWR.out]; exact World.ownsRow_nil _ _ _ _, HA1.out⟩
        · by_cases hz3 : b < 0
          · have d1 : decide (a < 0) = false := decide_eq_false (by omega)
            have d2 : decide ((N : Int) ≤ a) = false := decide_eq_false (by omega)
            have d3 : decide (b < 0) = true := decide_eq_true hz3
            clear hR hz hz2 hz3
            go_enter Tryz.func23, Tryz.ntmps23
            go_wp2_with (first
              | (go_at_call 51
                 refine (HAS.out _ HBX.out.2).mono ?_
                 rintro e w1 ⟨cv, rfl, hcl, hb1⟩
                 have hcl' := (hcl rfl).mono (part_le _ _ _)
                 obtain ⟨cA, cc, rfl, -⟩ := id hcl'
                 have HU1 := Lib.hid (HBX.out.1.below hb1 HBX.out.1.lt)
                 have c2 := HU1.out.cell 2
                 have HB1 := Lib.hid (HBX.out.2.trans (hb1.mono HBX.out.2.size))
                 have HCL := Lib.hid hcl'
                 clear hb1 hcl hcl')
              | (refine wpList_load_at rfl 69 _ rfl gb (go + tn * 4) rfl _ _ (HLD0.out _ HB1.out) Tryz.underlying69 rfl (by kernel_rfl) ?_)
              | (refine stop_store 69 rfl ?_))
            refine Stop.intro ?_
            refine wpList_store_row rfl 69 _ _ rfl w1.heap.size #[.string g.name, .int .i64 g.locals, .int .i64 g.slots, .slice nA N nc] rfl rfl 69 _ (heap_alloc_new _ _) (by kernel_rfl) rfl (by simp [Value.oneCell']) ?_
            rw [World.setRow_alloc_new]
            obtain ⟨X, hX⟩ : ∃ X, w1.heap.size = X := ⟨_, rfl⟩
            have hxb0 := Blk.new w1 69 [.string g.name, .int .i64 g.locals, .int .i64 g.slots, .slice nA N nc]
            have HA1 := Lib.hid (HB1.out.alloc HB1.out.size (.cells #[.string g.name, .int .i64 g.locals, .int .i64 g.slots, .slice nA N nc] 69))
            obtain ⟨wA, hwA⟩ : ∃ wA, w1.alloc (.cells #[.string g.name, .int .i64 g.locals, .int .i64 g.slots, .slice nA N nc] 69) = wA := ⟨_, rfl⟩
            have hcA : Below w1.heap.size w1 wA := by rw [← hwA]; exact Below_alloc' _ _
            have HXA : Hid (Blk wA X 69 [.string g.name, .int .i64 g.locals, .int .i64 g.slots, .slice nA N nc]) := Lib.hid (by rw [← hwA, ← hX]; exact hxb0)
            rw [hwA] at HA1 ⊢
            have HCA := Lib.hid (HCL.out.mono (cmap_below hcA))
            rw [hX]
            have x0 := HXA.out.cell 0
            have x1 := HXA.out.cell 1
            have x2 := HXA.out.cell 2
            have x3 := HXA.out.cell 3
            clear hxb0 hwA hcA c2 HCL hX
            go_wp2
            refine bodyPost_ret (v := .tuple #[.slice none 0 0, .bool false, .int .i64 2]) (by simp [results, Tryz.results23, go_sem]) rfl ?_
            exact ⟨.slice none 0 0, by (rw [HWR.out]; try rfl), by rw [HWR.out]; exact World.ownsRow_nil _ _ _ _, HA1.out⟩
          · have d1 : decide (a < 0) = false := decide_eq_false (by omega)
            have d2 : decide ((N : Int) ≤ a) = false := decide_eq_false (by omega)
            have d3 : decide (b < 0) = false := decide_eq_false (by omega)
            have d4 : decide ((N : Int) ≤ b) = true := decide_eq_true (by omega)
            clear hR hz hz2 hz3
            go_enter Tryz.func23, Tryz.ntmps23
            go_wp2_with (first
              | (go_at_call 51
                 refine (HAS.out _ HBX.out.2).mono ?_
                 rintro e w1 ⟨cv, rfl, hcl, hb1⟩
                 have hcl' := (hcl rfl).mono (part_le _ _ _)
                 obtain ⟨cA, cc, rfl, -⟩ := id hcl'
                 have HU1 := Lib.hid (HBX.out.1.below hb1 HBX.out.1.lt)
                 have c2 := HU1.out.cell 2
                 have HB1 := Lib.hid (HBX.out.2.trans (hb1.mono HBX.out.2.size))
                 have HCL := Lib.hid hcl'
                 clear hb1 hcl hcl')
              | (refine wpList_load_at rfl 69 _ rfl gb (go + tn * 4) rfl _ _ (HLD0.out _ HB1.out) Tryz.underlying69 rfl (by kernel_rfl) ?_)
              | (refine stop_store 69 rfl ?_))
            refine Stop.intro ?_
            refine wpList_store_row rfl 69 _ _ rfl w1.heap.size #[.string g.name, .int .i64 g.locals, .int .i64 g.slots, .slice nA N nc] rfl rfl 69 _ (heap_alloc_new _ _) (by kernel_rfl) rfl (by simp [Value.oneCell']) ?_
            rw [World.setRow_alloc_new]
            obtain ⟨X, hX⟩ : ∃ X, w1.heap.size = X := ⟨_, rfl⟩
            have hxb0 := Blk.new w1 69 [.string g.name, .int .i64 g.locals, .int .i64 g.slots, .slice nA N nc]
            have HA1 := Lib.hid (HB1.out.alloc HB1.out.size (.cells #[.string g.name, .int .i64 g.locals, .int .i64 g.slots, .slice nA N nc] 69))
            obtain ⟨wA, hwA⟩ : ∃ wA, w1.alloc (.cells #[.string g.name, .int .i64 g.locals, .int .i64 g.slots, .slice nA N nc] 69) = wA := ⟨_, rfl⟩
            have hcA : Below w1.heap.size w1 wA := by rw [← hwA]; exact Below_alloc' _ _
            have HXA : Hid (Blk wA X 69 [.string g.name, .int .i64 g.locals, .int .i64 g.slots, .slice nA N nc]) := Lib.hid (by rw [← hwA, ← hX]; exact hxb0)
            rw [hwA] at HA1 ⊢
            have HCA := Lib.hid (HCL.out.mono (cmap_below hcA))
            rw [hX]
            have x0 := HXA.out.cell 0
            have x1 := HXA.out.cell 1
            have x2 := HXA.out.cell 2
            have x3 := HXA.out.cell 3
            clear hxb0 hwA hcA c2 HCL hX
            go_wp2
            refine bodyPost_ret (v := .tuple #[.slice none 0 0, .bool false, .int .i64 2]) (by simp [results, Tryz.results23, go_sem]) rfl ?_
            exact ⟨.slice none 0 0, by (rw [HWR.out]; try rfl), by rw [HWR.out]; exact World.ownsRow_nil _ _ _ _, HA1.out⟩
  · have hwr : wayR u t a b = ([], false, askE u t) := by unfold wayR; rw [if_neg hE]
    have hd : (askE u t != 0) = true := by simp [hE]
    obtain ⟨er, her⟩ : ∃ er, askE u t = er := ⟨_, rfl⟩
    rw [her] at hwr HAS hd
    have HWR := Lib.hid hwr
    clear hE hwr her
    go_enter Tryz.func23, Tryz.ntmps23
    go_wp2_with (first
      | (go_at_call 51
         refine (HAS.out _ HBX.out.2).mono ?_
         rintro e w1 ⟨cv, rfl, -, hb1⟩
         have HB1 := Lib.hid (HBX.out.2.trans (hb1.mono HBX.out.2.size))
         clear hb1))
    refine bodyPost_ret (v := .tuple #[.slice none 0 0, .bool false, .int .i64 er]) (by simp [results, Tryz.results23, go_sem]) rfl ?_
    exact ⟨.slice none 0 0, by (rw [HWR.out]; try rfl), by rw [HWR.out]; exact World.ownsRow_nil _ _ _ _, HB1.out⟩
end Go.Proofs.YtffgnjgphkdodaaGreatDoor
