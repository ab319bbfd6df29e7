/- answers are new memory -/
import Derived.Test.YtffgnjgphkdodaaGreatDoorP126
import Derived.Test.YtffgnjgphkdodaaGreatDoorP127
import Derived.Test.YtffgnjgphkdodaaGreatDoorP26
import Derived.Test.YtffgnjgphkdodaaGreatDoorP22
import Derived.Test.YtffgnjgphkdodaaGreatDoorP20
import Derived.Test.YtffgnjgphkdodaaGreatDoorP24
/- The walk of DelayOwn. -/
namespace Go.Proofs.YtffgnjgphkdodaaGreatDoor
open Go Go.RowKit
section
variable {P : Program}
theorem dn_store (w : World) (g o : Nat) (t ty : TypeId) (cur cells : Array Value) (hg : w.heap[g]? = some (.cells cur t (0, 0))) (hi : (P.info? ty).map (·.size) = some cells.size) (ho : o + cells.size ≤ cur.size) (h1 : cells.all (·.oneCell') = true) :
    ∃ row : Array Value, row.size = cur.size ∧ (storeVar ty ⟨g, o, none⟩ (.agg cells)).run P w = .ok () (w.setRow g row) := by
  obtain ⟨row, hrow, this⟩ : ∃ row : Array Value, row.size = cur.size ∧ (storeCells ⟨g, o, none⟩ cells.toList 0).run P w = .ok () (w.setRow g row) :=
    ⟨_, by simp; omega, run_storeCells_at P g o t cells.toList 0 cur w hg (by simp; omega) (fun v hv => (Array.all_eq_true_iff_forall_mem.1 h1) v (by simpa using hv))⟩
  refine ⟨row, hrow, ?_⟩
  cases hq : P.info? ty with
  | none => simp [hq] at hi
  | some i =>
    have hs : cells.size = i.size := by simp [hq] at hi; omega
    simp [storeVar, sizeOf, typeInfo, hq, Value.cells, hs, this]
theorem dn_store_part {ops : Array Oper} {rest : List Oper} {o : Oper} {a : Act} {w : World} {Q : Exit → Act → World → Prop} (hgd : o.guard = none) (ty : TypeId) (x y : Operand) (ho : o.op = .store ty x y)
    (g f : Nat) (cells : Array Value) (hx : a.eval x = .pointer (some ⟨g, f, none⟩)) (hy : a.eval y = .agg cells) (t : TypeId) (cur : Array Value) (hg : w.heap[g]? = some (.cells cur t (0, 0))) (hi : (P.info? ty).map (·.size) = some cells.size)
    (hold : f + cells.size ≤ cur.size) (h1 : cells.all (·.oneCell') = true) (h : ∀ row : Array Value, row.size = cur.size → wpList P ops Q rest (a.put o.dst undef) (w.setRow g row)) : wpList P ops Q (o :: rest) a w := by
  obtain ⟨row, hr, hrun⟩ := dn_store (P := P) w g f t ty cur cells hg hi hold h1
  refine wpList_plain hgd fun K hK => ?_
  unfold Oper.wp execOp
  simp only [ho, hx, hy, Instr.storeAt, Instr.sureAddr, Sem.run_bind, Sem.run_pure, Result.andThen_ok, hrun]
  exact hK _ _ (h row hr)
end
theorem dn_nil {α : Type} (R : CM → Nat → Nat → α → Prop) (size : Nat) (m : CM) : Sl R size m (.slice none 0 0) [] := ⟨none, 0, rfl, by simp, ⟨by simp [maxLen], fun _ => rfl⟩, .inl rfl⟩
/-- The cells of a row are bools. -/
def BoolsAt (w : World) (g n : Nat) : Prop := ∀ i, i < n → ∃ b, w.cell? ⟨g, i, none⟩ = some (.bool b)
theorem BoolsAt.set_ {w : World} {base n g c : Nat} (h : BoolsAt w g n) (hr : OkRow w base 4 1 (.slice (some ⟨g, 0, none⟩) n c) n) (k : Nat) (b : Bool) : BoolsAt (w.setCell ⟨g, k, none⟩ (.bool b)) g n := fun i hi => by
  obtain ⟨g', c', x, hv, _, _, _, cur, hc⟩ := hr.at_ hi
  cases hv
  have hb : Blk w g 4 cur.toList := Blk.of hc rfl
  have hb2 := hb.set_ k (.bool b)
  obtain ⟨b0, h0⟩ := h i hi
  rw [hb.cell] at h0
  rw [hb2.cell, List.getElem?_set]
  by_cases e : k = i
  · subst e
    rw [if_pos rfl, if_pos (by obtain ⟨h1, _⟩ := List.getElem?_eq_some_iff.1 h0; exact h1)]
    exact ⟨b, rfl⟩
  · rw [if_neg e]
    exact ⟨b0, h0⟩
theorem dn_row (w : World) (g : Nat) (cur row : Array Value) (t : TypeId) (h : w.heap[g]? = some (.cells cur t (0, 0))) : (w.setRow g row).heap[g]? = some (.cells row t (0, 0)) := by
  exact setRow_heap w g cur row t _ h
/-- What is kept while rows of the call's own are written. -/
structure DnI (W : World) (r6 r8 r10 : Value) (n6 n8 n10 : Nat) (w : World) : Prop where
  a : OkRow w W.heap.size 4 1 r6 n6
  l : OkRow w W.heap.size 3 1 r8 n8
  p : OkRow w W.heap.size 49 2 r10 n10
  low : Below W.heap.size W w
theorem DnI.set_ {W : World} {r6 r8 r10 : Value} {n6 n8 n10 : Nat} {w : World} (h : DnI W r6 r8 r10 n6 n8 n10 w) {g : Nat} (hg : W.heap.size ≤ g) (k : Nat) (v : Value) : DnI W r6 r8 r10 n6 n8 n10 (w.setCell ⟨g, k, none⟩ v) :=
  ⟨h.a.shape (Shape.setCell w g k v), h.l.shape (Shape.setCell w g k v), h.p.shape (Shape.setCell w g k v), h.low.setCell (by simpa using hg) v⟩
theorem ok_bools {w : World} {base n : Nat} {v : Value} {bl : List Bool} (h : w.ownsRow base 4 1 v n (bools bl)) (g c : Nat) (hv : v = .slice (some ⟨g, 0, none⟩) n c) (hl : bl.length = n) : BoolsAt w g n := fun i hi => by
  obtain ⟨g', c', e, _, _, _, hp⟩ := own_form h (by omega)
  rw [hv] at e
  cases e
  obtain ⟨b, hb⟩ : ∃ b, bl[i]? = some b := ⟨_, List.getElem?_eq_getElem (by omega)⟩
  refine ⟨b, ?_⟩
  rw [hp i (by omega)]
  unfold bools
  rw [List.getElem?_map, hb]
  rfl
set_option maxRecDepth 100000 in
set_option maxHeartbeats 8000000 in
theorem delayOwn_calls (u : Unit_) (cs : List Value) (t : Int) (w : World) (hT : Tab w) (hu : UnitV (cmap w) cs u) (hok : UOk u) (hz : USz u) :
    Calls Tryz.prog 5 #[.agg cs.toArray, .int .i64 t] w fun e w' => e = .returned (.bool true) ∧ Below w.heap.size w w' := by
  have hu0 := hu
  obtain ⟨sv, lv, gv, rfl, -, -, -⟩ := hu
  have hbx := Blk.new w 25 [sv, lv, gv]
  have hb0 := Below_alloc' w (.cells #[sv, lv, gv] 25)
  have hun : ∀ wr b (cs : List Value), Blk wr b 25 cs → ∀ j v, cs[j]? = some v → wr.cell? ⟨b, 0 + j, none⟩ = some v := fun wr b cs h j v hj => by rw [Nat.zero_add, h.cell]; exact hj
  have HUN := Lib.hid hun; clear hun
  have HTB := Lib.hid hT; clear hT
  have HOK := Lib.hid hok; clear hok
  go_enter Tryz.func5, Tryz.ntmps5
  go_wp2_with fail
  refine (lives11_calls _ (HTB.out.below hb0)).mono ?_
  rintro e w1 ⟨rfl, hb1⟩
  have hw1 : Below w.heap.size w w1 := hb0.trans (hb1.mono (by simp))
  have hbx1 := hbx.below hb1 hbx.lt
  have HLD1 := Lib.hid (HUN.out _ _ _ hbx1)
  have hws1 : w.heap.size + 1 ≤ w1.heap.size := by have := hb1.size; simp at this; omega
  clear hb1 hbx
  go_wp2_with (first
    | (refine wpList_load_at rfl 25 _ rfl w.heap.size 0 rfl _ _ HLD1.out Tryz.underlying25 rfl (by kernel_rfl) ?_))
  refine (copyUnit_calls _ u _ (hu0.mono (cmap_below hw1)) hz).mono ?_
  rintro e w2 ⟨cs', rfl, hu2, hb2⟩
  have hown := hu2.unit.mono (part_le _ _ _)
  obtain ⟨sv1, lv1, gv1, rfl, q1, q2, q3⟩ := hu2.unit
  obtain ⟨sA1, sc1, rfl, -⟩ := q1
  obtain ⟨lA1, lc1, rfl, -⟩ := q2
  obtain ⟨gA1, gc1, rfl, -⟩ := q3
  have hw2 := hw1.trans (hb2.mono hw1.size)
  have hbx2 := hbx1.below hb2 hbx1.lt
  clear hbx1 HLD1
  have hws2 := hb2.size
  obtain ⟨W, hW⟩ : ∃ W, w2.alloc (.cells #[.slice sA1 u.shared.length sc1, .slice lA1 u.locks.length lc1, .slice gA1 u.graphs.length gc1] 25) = W := ⟨_, rfl⟩
  have hB : Blk W w2.heap.size 25 [.slice sA1 u.shared.length sc1, .slice lA1 u.locks.length lc1, .slice gA1 u.graphs.length gc1] := by rw [← hW]; exact Blk.new _ _ _
  have hbW : Below w2.heap.size w2 W := by rw [← hW]; exact Below_alloc' _ _
  have hszW : w2.heap.size + 1 = W.heap.size := by rw [← hW]; simp
  have hbxW := hbx2.below hbW hbx2.lt
  have hwW := hw2.trans (hbW.mono hw2.size)
  have hownW := hown.mono (cmap_below hbW)
  have HLDW : Hid (∀ j v, ([.slice sA1 u.shared.length sc1, .slice lA1 u.locks.length lc1, .slice gA1 u.graphs.length gc1] : List Value)[j]? = some v → (w2.alloc (.cells #[.slice sA1 u.shared.length sc1, .slice lA1 u.locks.length lc1, .slice gA1 u.graphs.length gc1] 25)).cell? ⟨w2.heap.size, 0 + j, none⟩ = some v) := Lib.hid (by rw [hW]; exact HUN.out _ _ _ hB)
  have HWE := Lib.hid hW
  clear hu2 hown hbx2 hb2 hbW hW
  go_wp2_with (first
    | (refine wpList_load_at rfl 25 _ rfl w2.heap.size 0 rfl _ _ HLDW.out Tryz.underlying25 rfl (by kernel_rfl) ?_))
  rw [HWE.out]
  clear HLDW
  refine (open_calls u _ t (.slice none 0 0) [] W (HTB.out.below hwW) hownW HOK.out (dn_nil _ _ _)).mono ?_
  rintro e w3 ⟨r3, rfl, o3, hb3⟩
  obtain ⟨A3, c3, rfl, -⟩ := own_slice o3
  have HLD3 := Lib.hid (HUN.out _ _ _ (hB.below hb3 hB.lt))
  have hs3 := hb3.size
  go_wp2_with (first
    | (refine wpList_load_at rfl 25 _ rfl w2.heap.size 0 rfl _ _ HLD3.out Tryz.underlying25 rfl (by kernel_rfl) ?_))
  refine (loads_calls u _ t (.slice none 0 0) [] w3 (HTB.out.below (hwW.trans (hb3.mono hwW.size))) (hownW.mono (cmap_below hb3)) HOK.out (dn_nil _ _ _)).mono ?_
  rintro e w4 ⟨r4, rfl, o4, hb4⟩
  obtain ⟨A4, c4, rfl, -⟩ := own_slice o4
  have hbw4 := hb3.trans (hb4.mono hs3)
  have HLD4 := Lib.hid (HUN.out _ _ _ (hB.below hbw4 hB.lt))
  have hs4 := hbw4.size
  clear HLD3
  go_wp2_with (first
    | (refine wpList_load_at rfl 25 _ rfl w2.heap.size 0 rfl _ _ HLD4.out Tryz.underlying25 rfl (by kernel_rfl) ?_))
  refine (pairs_calls u _ t w4 (HTB.out.below (hwW.trans (hbw4.mono hwW.size))) (hownW.mono (cmap_below hbw4)) HOK.out).mono ?_
  rintro e w5 ⟨r5, rfl, o5, hb5⟩
  obtain ⟨A5, c5, rfl, -⟩ := own_slice o5
  have hbw5 := hbw4.trans (hb5.mono hs4)
  have hs5 := hbw5.size
  have hbb : ∀ g c, (.slice A3 (openR u t []).1.length c3 : Value) = .slice (some ⟨g, 0, none⟩) (openR u t []).1.length c → BoolsAt w5 g (openR u t []).1.length := fun g c hv =>
    ok_bools ((own_below o3 hb4) |> fun h => own_below h hb5) g c hv rfl
  have hO : DnI W (.slice A3 (openR u t []).1.length c3) (.slice A4 (loadsR u t []).1.length c4) (.slice A5 (pairsR u t).1.length c5) (openR u t []).1.length (loadsR u t []).1.length (pairsR u t).1.length w5 :=
    ⟨⟨_, own_below (own_below o3 hb4) hb5⟩, OkRow.low ⟨_, own_below o4 hb5⟩ hs3, OkRow.low ⟨_, o5⟩ hs4, hbw5⟩
  have hl3 := (own_boolsq o3).len.2.2
  have hl4 := (own_intsq o4).len.2.2
  have hl5 := pairsR_length u t
  generalize (openR u t []).1.length = n3 at *
  generalize (loadsR u t []).1.length = n4 at *
  generalize (pairsR u t).1.length = n5 at *
  generalize (openR u t []).2 = x3 at *
  generalize (loadsR u t []).2 = x4 at *
  generalize (pairsR u t).2 = x5 at *
  have HO := Lib.hid (And.intro hO hbb)
  clear HLD4 o3 o4 o5 hO hbb hb3 hb4 hb5 hbw4 hbw5
  go_wp2
  go_loopw [39] (fun vI wr => ∃ i : Nat, vI = .int .i64 i ∧ i ≤ n3 ∧ Hid (DnI W (.slice A3 n3 c3) (.slice A4 n4 c4) (.slice A5 n5 c5) n3 n4 n5 wr ∧ ∀ g c, (.slice A3 n3 c3 : Value) = .slice (some ⟨g, 0, none⟩) n3 c → BoolsAt wr g n3)) (fun vI _ => n3 - (intOf vI).toNat)
  case atStart => exact ⟨0, rfl, by omega, HO⟩
  case round =>
    obtain ⟨i, rfl, hi, HR⟩ := hrel
    clear HO
    by_cases hlt : i < n3
    · obtain ⟨g, c, x, hv, hbg, ca, hf, HH⟩ := HR.out.1.a.at_ hlt
      have hbo := HR.out.2 g c hv
      injection hv with hv _ hvc
      subst hv
      subst hvc
      obtain ⟨b, hb⟩ := hbo i hlt
      have HR0 : Hid (DnI W (.slice (some ⟨g, 0, none⟩) n3 c3) (.slice A4 n4 c4) (.slice A5 n5 c5) n3 n4 n5 (wr.setCell ⟨g, i, none⟩ (.bool (!b))) ∧ ∀ g' c', (.slice (some ⟨g, 0, none⟩) n3 c3 : Value) = .slice (some ⟨g', 0, none⟩) n3 c' → BoolsAt (wr.setCell ⟨g, i, none⟩ (.bool (!b))) g' n3) :=
        Lib.hid ⟨HR.out.1.set_ hbg i _, fun g' c' e => by
          injection e with e _ _
          injection e with e
          injection e with e
          subst e
          exact hbo.set_ HR.out.1.a i (!b)⟩
      clear hbo HR HH ca
      have hi0 : (0 : Int) ≤ i := by omega
      have hil : (i : Int) < n3 := by omega
      go_wp2
      go_roundw
      case rel => exact ⟨i + 1, by go_num, by omega, HR0⟩
      case measure => simp [intOf]; omega
    · have hni : ¬ ((i : Int) < n3) := by omega
      have HO := Lib.hid HR.out.1
      clear HR
      go_wp2
      go_loopw [53] (fun vI wr => ∃ i : Nat, vI = .int .i64 i ∧ i ≤ n4 ∧ Hid (DnI W (.slice A3 n3 c3) (.slice A4 n4 c4) (.slice A5 n5 c5) n3 n4 n5 wr)) (fun vI _ => n4 - (intOf vI).toNat)
      case atStart => exact ⟨0, rfl, by omega, HO⟩
      case round =>
        obtain ⟨j, rfl, hj, HR⟩ := hrel
        clear HO
        by_cases hltj : j < n4
        · obtain ⟨g, c, x, hv, hbg, ca, hf, HH⟩ := HR.out.l.at_ hltj
          injection hv with hv _ hvc
          subst hv
          subst hvc
          have HR0 := Lib.hid (HR.out.set_ hbg j (.int .i64 99))
          clear HR HH
          have hj0 : (0 : Int) ≤ j := by omega
          have hjl : (j : Int) < n4 := by omega
          go_wp2
          go_roundw
          case rel => exact ⟨j + 1, by go_num, by omega, HR0⟩
          case measure => simp [intOf]; omega
        · have hnj : ¬ ((j : Int) < n4) := by omega
          have HO := Lib.hid (And.intro HR.out.low HR.out.p)
          clear HR
          go_wp2
          go_loopw [62] (fun vI wr => ∃ i : Nat, vI = .int .i64 i ∧ i ≤ n5 ∧ Hid (Below W.heap.size W wr ∧ ∀ g c, (.slice A5 n5 c5 : Value) = .slice (some ⟨g, 0, none⟩) n5 c → W.heap.size ≤ g ∧ ∃ cur : Array Value, n5 * 2 ≤ cur.size ∧ wr.heap[g]? = some (.cells cur 49 (0, 0)))) (fun vI _ => n5 - (intOf vI).toNat)
          case atStart =>
            refine ⟨0, rfl, by omega, Lib.hid ⟨HO.out.1, fun g c hv => ?_⟩⟩
            obtain ⟨ys, _, h2⟩ := HO.out.2
            rcases h2 with ⟨e, _⟩ | ⟨g', cap', cur', e, hg, hh, hn, _, hc, _⟩
            · rw [hv] at e
              cases e
            · rw [hv] at e
              cases e
              exact ⟨hg, cur', by omega, hh⟩
          case round =>
            obtain ⟨k, rfl, hk, HR⟩ := hrel
            by_cases hltk : k < n5
            · obtain ⟨ga, rfl⟩ : ∃ ga : Nat, A5 = some ⟨ga, 0, none⟩ := by
                obtain ⟨ys, _, h2⟩ := HO.out.2
                rcases h2 with ⟨_, e⟩ | ⟨g', cap', cur', e, _⟩
                · omega
                · cases e
                  exact ⟨g', rfl⟩
              obtain ⟨hga, cur, hcz, hcc⟩ := HR.out.2 ga c5 rfl
              have HC := Lib.hid (And.intro HR.out.1 (And.intro hga (And.intro hcz hcc)))
              have hk0 : (0 : Int) ≤ k := by omega
              have hkl : (k : Int) < n5 := by omega
              have HO3 := HO
              clear hga hcz hcc HR HO
              go_wp2_with (first
                | (refine stop_store 49 rfl ?_))
              refine Stop.intro ?_
              refine dn_store_part rfl 49 _ _ rfl ga (k * 2) #[.int .i64 0, .int .i64 0] (by first | rfl | simp) rfl 49 cur HC.out.2.2.2 (by kernel_rfl) (by have := HC.out.2.2.1; simp; omega) (by simp [Value.oneCell']) (fun row hrow => ?_)
              simp only [put_none]
              have HR2 : Hid (Below W.heap.size W (wr.setRow ga row) ∧ ∀ g c, (.slice (some ⟨ga, 0, none⟩) n5 c5 : Value) = .slice (some ⟨g, 0, none⟩) n5 c → W.heap.size ≤ g ∧ ∃ cur : Array Value, n5 * 2 ≤ cur.size ∧ (wr.setRow ga row).heap[g]? = some (.cells cur 49 (0, 0))) :=
                Lib.hid ⟨below_row HC.out.1 HC.out.2.1 row, fun g c e => by
                  injection e with e _ _
                  injection e with e
                  injection e with e
                  subst e
                  refine ⟨HC.out.2.1, row, by rw [hrow]; exact HC.out.2.2.1, ?_⟩
                  exact dn_row wr ga _ row _ HC.out.2.2.2⟩
              clear HC hrow
              go_wp2
              go_roundw
              case rel => exact ⟨k + 1, by go_num, by omega, HR2⟩
              case measure => simp [intOf]; omega
            · have hnk : ¬ ((k : Int) < n5) := by omega
              have hbr := HR.out.1
              clear HR HO
              have HLR := Lib.hid (HUN.out _ _ _ (hB.below hbr hB.lt))
              have hwr := hwW.trans (hbr.mono hwW.size)
              have hsr := hbr.size
              go_wp2_with (first
                | (refine wpList_load_at rfl 25 _ rfl w2.heap.size 0 rfl _ _ HLR.out Tryz.underlying25 rfl (by kernel_rfl) ?_))
              refine (delayOpens_calls u _ t (.slice none 0 0) [] (.slice none 0 0) [] wr (HTB.out.below hwr) (hownW.mono (cmap_below hbr)) HOK.out (dn_nil _ _ _) (dn_nil _ _ _)).mono ?_
              rintro e w6 ⟨rfl, hb6⟩
              have hbr6 := hbr.trans (hb6.mono hsr)
              have HL6 := Lib.hid (HUN.out _ _ _ (hB.below hbr6 hB.lt))
              have hw6 := hwW.trans (hbr6.mono hwW.size)
              go_wp2_with (first
                | (refine wpList_load_at_g (by rfl) 25 _ rfl w2.heap.size 0 rfl _ _ HL6.out Tryz.underlying25 rfl (by kernel_rfl) ?_))
              refine (delayPairs_calls u _ t 0 1 w6 (HTB.out.below hw6) (hownW.mono (cmap_below hbr6)) HOK.out).mono ?_
              rintro e w7 ⟨rfl, hb7⟩
              have hbr7 := hbr6.trans (hb7.mono hbr6.size)
              have HL7 := Lib.hid (HUN.out _ _ _ (hB.below hbr7 hB.lt))
              have HX7 := Lib.hid (HUN.out _ _ _ (hbxW.below hbr7 hbxW.lt))
              have hw7 := hwW.trans (hbr7.mono hwW.size)
              go_wp2_with (first
                | (refine wpList_load_at_g (by rfl) 25 _ rfl w2.heap.size 0 rfl _ _ HL7.out Tryz.underlying25 rfl (by kernel_rfl) ?_)
                | (refine wpList_load_at_g (by rfl) 25 _ rfl w.heap.size 0 rfl _ _ HX7.out Tryz.underlying25 rfl (by kernel_rfl) ?_))
              refine (sameUnit_calls _ _ u _ (hownW.mono (cmap_below hbr7)) (hu0.mono (cmap_below hw7))).mono ?_
              rintro e w8 ⟨rfl, hb8⟩
              go_wp2
              go_ret
              exact ⟨rfl, hw7.trans (hb8.mono hw7.size)⟩
end Go.Proofs.YtffgnjgphkdodaaGreatDoor
namespace Go.Proofs.YtffgnjgphkdodaaGreatDoor
open Go Go.RowKit Go.ChangeShapes Go.WideShapes Go.ChangeAt
namespace delayOwn
set_option maxRecDepth 100000 in
theorem contract (H : Type) (enc : TypeId × Value → H) (W : World) (base : Nat) (args : Array Value) (ds gs : List (DataW H)) (before : List MemPlace)
    (hval : ∀ (j : Nat) t v, Tryz.f5.params[j]? = some t → args[j]? = some v → Value.okWide Tryz.prog W .any base t v)
    (hW : DataW.Whole enc Tryz.prog Tryz.f5.params.toList Rows.delayOwnSpec.vars false W args.toList ds gs before) (hL : laidMetH Tryz.prog Rows.delayOwnRow.laid W) (hwt : (DataW.weightsEach Tryz.prog (Tryz.f5.params.toList ++ (OpenSpec.ofChange Rows.delayOwnSpec).bare.plain.varTypes Tryz.prog) (ds ++ gs)).all (· ≤ reachBytes) = true) :
    Calls Tryz.prog 5 args W fun e W' => ∃ v, e = .returned v ∧ Rows.delayOwnSpec.post enc Tryz.prog Tryz.f5 false true false false W args v W' := by
  have hW' := hW
  obtain ⟨p, q, hA0, hV, rfl, hfz, hnd⟩ := hW
  have hA : DataW.TrodAll enc Tryz.prog W 0 (fun _ => true) true Tryz.f5.params.toList args.toList ds p := hA0
  have hA2 := hA
  rw [Tryz.params5] at hA hval
  obtain ⟨v0, vs0, d0, ds0, p0, q0, hargs, rfl, hp, h0, r0⟩ := trodAll_cons hA
  obtain ⟨v1, vs1, d1, ds1, p1, q1, rfl, rfl, hp1, h1, r1⟩ := trodAll_cons r0
  obtain ⟨rfl, rfl, hp9⟩ := trodAll_nil r1
  obtain rfl : args = #[v0, v1] := by cases args; simp_all
  obtain ⟨rfl, rfl⟩ := trodVars_none hV
  obtain ⟨cs, u, rfl, hu, hok, hz⟩ := open_unitz (hval 0 25 v0 rfl rfl) h0 (weights_first hwt)
  obtain ⟨n1, rfl⟩ := okWide_int Tryz.underlying3 (hval 1 3 v1 rfl rfl)
  have hlt := fun x hx => hW'.lt x hx
  simp only [List.append_nil] at hW' hlt
  have hT : Tab W := tab_of hL
  refine (delayOwn_calls u cs n1 W hT hu hok hz).mono fun e W' ⟨he, hb⟩ => ?_
  subst he
  exact ⟨_, rfl, post_below (pa := p) (pv := []) hW' (fun _ _ _ => trodAll_cons_mk (shut_bool Tryz.underlying4 _) trodAll_mk0)
    (fun sp hsp => trodAll_stays (by intro t ht; rw [Tryz.params5] at ht; exact all_again _ (by kernel_rfl) t ht) hA2 (fun x hx => hb.same (hlt x hx)) (fun x hx => hsp x hx)) (fun _ _ => rfl) (by simp) hb (ok_one (by kernel_rfl) rfl (okWide_bool_mk Tryz.underlying4 _))⟩
theorem laid_met (os : Os) : laidMet Tryz.prog Rows.delayOwnRow.laid ((laidWorld os).forCall (fun _ _ => 0) ⟨#[], #[.agg #[.slice none 0 0, .slice none 0 0, .slice none 0 0], .int .i64 0], []⟩).memory :=
  laidMet_of_run' 8 (by kernel_rfl) (by kernel_rfl)
theorem reads (os : Os) {H : Type} (enc : TypeId × Value → H) : ∃ places, DataW.whole enc Tryz.prog ((laidWorld os).forCall (fun _ _ => 0) ⟨#[], #[.agg #[.slice none 0 0, .slice none 0 0, .slice none 0 0], .int .i64 0], []⟩).memory Tryz.f5.params.toList Rows.delayOwnSpec.vars false
    (#[.agg #[.slice none 0 0, .slice none 0 0, .slice none 0 0], .int .i64 0] : Array Value).toList 8 = some ([.agg [.nil, .nil, .nil], .lit (.int .i64 0)], [], places) :=
  ⟨[], by kernel_rfl⟩
set_option maxRecDepth 100000 in
theorem lifted (os : Os) (started : os.Started) (H : Type) (enc : TypeId × Value → H) (F : Stop.Interp) :
    ReturnsInHanded {} Tryz.checked os 5 .any ((OpenSpec.ofChange Rows.delayOwnSpec).preRow enc Tryz.prog Tryz.f5 Rows.delayOwnRow.domain false Rows.delayOwnRow.laid) (((OpenSpec.ofChange Rows.delayOwnSpec).at F).post enc Tryz.prog Tryz.f5 false true false false) := by
  obtain ⟨places, hx⟩ := reads os enc
  refine returnsInHanded_of_row (C := Tryz.checked) (s := OpenSpec.ofChange Rows.delayOwnSpec) own_knob started (by kernel_rfl) Tryz.func5
    (witness_row_at (enc := enc) (C := Tryz.checked) false (laidWorld os) #[.agg #[.slice none 0 0, .slice none 0 0, .slice none 0 0], .int .i64 0] rfl (by kernel_rfl) (by kernel_rfl) (by kernel_rfl)
      (OpenSpec.preRow_of_cond 8 hx (by kernel_rfl) (fun k hk => by cases hk) (by kernel_rfl) (laid_met os))) ?_
  intro W base args ds gs before hval hW _ _ hwt hL _ _
  exact contract H enc W base args ds gs before hval hW hL hwt
theorem said : Rows.DelayOwnSaid :=
  OpenClaim.holds_of_cond 5 Tryz.f5 rfl rfl rfl rfl rfl rfl rfl ⟨rfl, rfl, rfl, rfl, rfl⟩ rfl rfl rfl rfl rfl (by kernel_rfl) Tryz.func5 (by kernel_rfl)
    (of_decide_eq_true (by kernel_rfl)) (by unfold Func.isWrapper; first | (rw [if_pos (by decide +kernel)]; kernel_rfl) | (rw [if_neg (by decide +kernel)]; exact ⟨rfl, rfl⟩))
    (fun os started H enc _ F => by rw [OpenClaim.pre_eq_preRow]; exact lifted os started H enc F)
theorem plain (f : FuncId) (fn : Func) (hf : Tryz.pinned.checked.prog.funcNamed "stile/stilelaw11.DelayOwn" = some f) (hfn : Tryz.pinned.checked.prog.funcs[f]? = some fn) :
    true = Tryz.pinned.checked.prog.looks [] ∧ ∀ (j : Nat) t, fn.params[j]? = some t → Tryz.pinned.checked.prog.wantsStandIn t = false := by
  obtain rfl : f = 5 := Option.some.inj ((show Tryz.prog.funcNamed "stile/stilelaw11.DelayOwn" = some 5 by kernel_rfl).symm.trans hf) |>.symm
  obtain rfl : fn = Tryz.f5 := (Option.some.inj (Tryz.func5.symm.trans hfn)).symm
  refine ⟨by kernel_rfl, fun j t ht => ?_⟩
  rw [Tryz.params5] at ht
  have hm := Array.mem_of_getElem? ht
  simp at hm
  rcases hm with rfl | rfl
  · exact (show Tryz.prog.wantsStandIn 25 = false by kernel_rfl)
  · exact (show Tryz.prog.wantsStandIn 3 = false by kernel_rfl)
end delayOwn
/-- THE CARD. -/
theorem delayOwn_card : Rows.DelayOwnCardSaid :=
  Claim7.holds_tied_plain_at .later [] _ _ _ _ delayOwn.said (fun _ h => by cases h) (by kernel_rfl) (fun _ h => by cases h) delayOwn_row_tie rfl ⟨rfl, rfl⟩ (by kernel_rfl) rfl delayOwn.plain (by kernel_rfl)
#print axioms delayOwn_card
end Go.Proofs.YtffgnjgphkdodaaGreatDoor
