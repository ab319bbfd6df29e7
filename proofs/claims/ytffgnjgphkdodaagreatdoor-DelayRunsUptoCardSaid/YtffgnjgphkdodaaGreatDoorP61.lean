import Derived.Test.YtffgnjgphkdodaaGreatDoorP08
import Derived.Laws.Closers25b
/- The source machine in plain Lean: situations, and what an action makes of one. -/
namespace Go.Proofs.YtffgnjgphkdodaaGreatDoor
open Go Go.RowKit
/-- What words make of words. -/
def divF (a b : Int) : Int := if b = 0 then 0 else if b = -1 then wrap64 (-a) else wrap64 (a.tdiv b)
def b2w (b : Bool) : Int := if b then 1 else 0
def shN (b : Int) : Nat := min (bits .and .u64 (IntKind.u64.wrap b) 63).toNat 64
def doF (op a b : Int) : Int :=
  if op = 1 then wrap64 (a + b) else if op = 2 then wrap64 (a - b) else if op = 3 then wrap64 (a * b) else if op = 4 then divF a b
  else if op = 5 then (if b = 0 then a else wrap64 (a - wrap64 (divF a b * b)))
  else if op = 6 then bits .and .i64 a b else if op = 7 then bits .or .i64 a b else if op = 8 then bits .xor .i64 a b
  else if op = 9 then IntKind.i64.wrap (a * 2 ^ shN b) else if op = 10 then a.fdiv (2 ^ shN b)
  else if op = 11 then b2w (a == b) else if op = 12 then b2w (a != b) else if op = 13 then b2w (decide (a < b)) else if op = 14 then b2w (decide (a ≤ b))
  else if op = 15 then b2w (decide (b < a)) else b2w (decide (b ≤ a))
def oneF (op a : Int) : Int := if op = 17 then wrap64 (-a) else b2w (a == 0)
/-- A situation. -/
structure Mach where
  at_ : List Nat
  slots : List (List Int)
  mem : List Int
  holders : List Int
  prints : List (Int × Int)
def startM (u : Unit_) : Mach := ⟨u.graphs.map fun _ => 0, u.graphs.map fun g => List.replicate g.slots.toNat 0, u.shared.map (·.word), u.locks.map fun _ => -1, []⟩
def Mach.slot (m : Mach) (t : Nat) (j : Int) : Int := (((m.slots[t]?).getD [])[j.toNat]?).getD 0
def Mach.val (m : Mach) (t : Nat) (v : Val) : Int := if v.isSlot then m.slot t v.slot else v.word
def Mach.setSlot (m : Mach) (t : Nat) (j x : Int) : Mach := { m with slots := m.slots.set t (((m.slots[t]?).getD []).set j.toNat x) }
def Mach.var (m : Mach) (i : Int) : Int := (m.mem[i.toNat]?).getD 0
def Mach.setVar (m : Mach) (i x : Int) : Mach := { m with mem := m.mem.set i.toNat x }
def Mach.setHolder (m : Mach) (l x : Int) : Mach := { m with holders := m.holders.set l.toNat x }
/-- What was done: Thread, Node, Kind, Thing, Word, Put. -/
structure Did where
  thread : Int
  node : Int
  kind : Int
  thing : Int
  word : Int
  put : Int
deriving DecidableEq
def Did.cells (d : Did) : List Value := [.int .i64 d.thread, .int .i64 d.node, .int .u8 d.kind, .int .i64 d.thing, .int .i64 d.word, .int .i64 d.put]
def setV (m : Mach) (t : Nat) (n : Node) : Int :=
  if twoB n.op then doF n.op (m.val t n.a) (m.val t n.b) else if n.op = 0 then m.val t n.a else oneF n.op (m.val t n.a)
/-- A node's action: what it makes of the situation (but for where the thread stands), what is told, where it goes on. -/
def actM (m : Mach) (t : Nat) (n : Node) : Mach :=
  if n.kind = 1 then m.setSlot t n.slot (setV m t n)
  else if n.kind = 2 then m.setSlot t n.slot (m.var n.thing)
  else if n.kind = 3 then m.setVar n.thing (m.val t n.a)
  else if n.kind = 4 then (m.setSlot t n.slot (m.var n.thing)).setVar n.thing (m.val t n.a)
  else if n.kind = 5 then m.setHolder n.thing t
  else if n.kind = 6 then m.setHolder n.thing (-1)
  else if n.kind = 7 then { m with prints := m.prints ++ [((t : Int), m.val t n.a)] }
  else m
def actD (m : Mach) (t : Nat) (n : Node) (d : Did) : Did :=
  if n.kind = 1 then { d with word := setV m t n }
  else if n.kind = 2 then { d with thing := n.thing, word := m.var n.thing }
  else if n.kind = 3 then { d with thing := n.thing, word := m.val t n.a }
  else if n.kind = 4 then { d with thing := n.thing, put := m.val t n.a, word := m.var n.thing }
  else if n.kind = 5 ∨ n.kind = 6 then { d with thing := n.thing }
  else { d with word := m.val t n.a }
def actN (m : Mach) (t : Nat) (n : Node) : Int := if n.kind = 8 ∧ m.val t n.a = 0 then n.els else n.next
/-- The node at which a thread stands. -/
def nodeAt (u : Unit_) (m : Mach) (t : Nat) : Option Node := (u.graphs[t]?).bind fun g => (m.at_[t]?).bind fun i => g.nodes[i]?
/-- What keeps a thread from stepping. -/
def barF (u : Unit_) (m : Mach) (t : Int) : Int :=
  if t < 0 ∨ (m.at_.length : Int) ≤ t then 2
  else match nodeAt u m t.toNat with
    | none => 0
    | some n => if n.kind = 9 then 70 else if n.kind = 5 ∧ 0 ≤ (m.holders[n.thing.toNat]?).getD 0 then 71 else 0
def stepM (u : Unit_) (m : Mach) (t : Int) : Mach :=
  if barF u m t ≠ 0 then m else match nodeAt u m t.toNat with
    | none => m
    | some n => { actM m t.toNat n with at_ := m.at_.set t.toNat (actN m t.toNat n).toNat }
def stepD (u : Unit_) (m : Mach) (t : Int) : Did :=
  if barF u m t ≠ 0 then ⟨0, 0, 0, 0, 0, 0⟩ else match nodeAt u m t.toNat with
    | none => ⟨0, 0, 0, 0, 0, 0⟩
    | some n => actD m t.toNat n ⟨t, ((m.at_[t.toNat]?).getD 0 : Nat), n.kind, 0, 0, 0⟩
/-- A situation of a unit. -/
structure MachOk (u : Unit_) (m : Mach) : Prop where
  at_ : m.at_.length = u.graphs.length
  node : ∀ (t : Nat) (g : Graph) (i : Nat), u.graphs[t]? = some g → m.at_[t]? = some i → i < g.nodes.length
  slots : m.slots.length = u.graphs.length
  slot : ∀ (t : Nat) (g : Graph) (l : List Int), u.graphs[t]? = some g → m.slots[t]? = some l → (l.length : Int) = g.slots
  mem : m.mem.length = u.shared.length
  holders : m.holders.length = u.locks.length
theorem sizesOk_of {u : Unit_} : ∀ (gs : List Graph) (t : Nat), graphsBad u t gs = none → ∀ g ∈ gs, sizesOk g = true
  | [], _, _, g, hg => by cases hg
  | a :: gs, t, h, g, hg => by
    unfold graphsBad at h
    cases ha : graphBad u a with
    | some i => rw [ha] at h; cases h
    | none =>
      rw [ha] at h
      rcases List.mem_cons.1 hg with e | e
      · subst e
        unfold graphBad at ha
        split at ha
        · assumption
        · cases ha
      · exact sizesOk_of gs (t + 1) h g e
structure SizeU (u : Unit_) : Prop where
  slots : ∀ g ∈ u.graphs, 0 ≤ g.slots ∧ g.slots ≤ 4160
theorem checkF_sizes {u : Unit_} (h : checkF u = none) : SizeU u := by
  unfold checkF at h
  split at h
  · refine ⟨fun g hg => ?_⟩
    have := sizesOk_of _ _ h g hg
    unfold sizesOk at this
    rw [decide_eq_true_eq] at this
    omega
  · cases h
theorem startM_ok {u : Unit_} (hu : RightU u) (hz : SizeU u) : MachOk u (startM u) := by
  refine ⟨by simp [startM], fun t g i hg hi => ?_, by simp [startM], fun t g l hg hl => ?_, by simp [startM], by simp [startM]⟩
  · simp only [startM, List.getElem?_map, hg, Option.map_some, Option.some.injEq] at hi
    subst hi
    exact (hu.graphs g (List.mem_of_getElem? hg)).whole.pos
  · simp only [startM, List.getElem?_map, hg, Option.map_some, Option.some.injEq] at hl
    subst hl
    have h := hz.slots g (List.mem_of_getElem? hg)
    simp
    omega
end Go.Proofs.YtffgnjgphkdodaaGreatDoor
/- What the locks that are reckoned ahead of each node say of a run: the plain law of who holds what. -/
namespace Go.Proofs.YtffgnjgphkdodaaGreatDoor
open Go
theorem hVisit_keeps {g : Graph} {s s' : HS} (h : HOk g.nodes.length s) {now : List Int} {d : Nat} (hd : d < g.nodes.length) (hv : hVisit now s d = .ok s') :
    (∀ i : Nat, s.found[i]? = some true → s'.found[i]? = some true ∧ hCur s' i = hCur s i) ∧ (∀ (p i : Nat), s.todo[p]? = some i → s'.todo[p]? = some i) ∧ s'.found[d]? = some true ∧ hCur s' d = now := by
  unfold hVisit at hv
  split at hv
  · rename_i hf
    split at hv
    · rename_i hl
      injection hv with hv; subst hv
      exact ⟨fun i hi => ⟨hi, rfl⟩, fun _ _ h => h, hf, by unfold hCur; rw [hl]; rfl⟩
    · cases hv
  · rename_i hf
    injection hv with hv
    subst hv
    refine ⟨fun i hi => ?_, fun p i hp => ?_, ?_, ?_⟩
    · have hne : d ≠ i := fun e => hf (e ▸ hi)
      refine ⟨by dsimp only; rw [List.getElem?_set, if_neg hne]; exact hi, by simp only [hCur, List.getElem?_set, if_neg hne]⟩
    · dsimp only
      rw [List.getElem?_append_left (List.getElem?_eq_some_iff.1 hp).1]; exact hp
    · dsimp only
      rw [List.getElem?_set, if_pos rfl, if_pos (by rw [h.found]; exact hd)]
    · simp only [hCur]
      rw [List.getElem?_set, if_pos rfl, if_pos (by rw [h.locks]; exact hd)]; rfl
theorem hVisits_keeps {g : Graph} {now : List Int} (hm : ∀ k ∈ now, ∃ n ∈ g.nodes, n.kind = 5 ∧ n.thing = k) : ∀ (fs : List Int) (s s' : HS), HI g s → now.length ≤ s.todo.length → (∀ x ∈ fs, x.toNat < g.nodes.length ∧ ReachC g (-1) x.toNat) → hVisits now s fs = .ok s' →
    (∀ i : Nat, s.found[i]? = some true → s'.found[i]? = some true ∧ hCur s' i = hCur s i) ∧ (∀ (p i : Nat), s.todo[p]? = some i → s'.todo[p]? = some i) ∧ ∀ x ∈ fs, s'.found[x.toNat]? = some true ∧ hCur s' x.toNat = now
  | [], s, s', h, _, _, hv => by
    unfold hVisits at hv
    injection hv with hv; subst hv
    exact ⟨fun i hi => ⟨hi, rfl⟩, fun _ _ h => h, fun x hx => by cases hx⟩
  | x :: fs, s, s', h, hn, hx, hv => by
    unfold hVisits at hv
    cases h1 : hVisit now s x.toNat with
    | error e => rw [h1] at hv; cases hv
    | ok s1 =>
      rw [h1] at hv
      have hx1 := hx x (by simp)
      obtain ⟨a, b⟩ := h.visit hx1.1 hn hx1.2 hm h1
      obtain ⟨c1, c2, c3, c4⟩ := hVisit_keeps h.ok hx1.1 h1
      obtain ⟨d1, d2, d3⟩ := hVisits_keeps hm fs s1 s' a (by omega) (fun y hy => hx y (by simp [hy])) hv
      refine ⟨fun i hi => ?_, fun p i hp => d2 p i (c2 p i hp), fun y hy => ?_⟩
      · obtain ⟨e1, e2⟩ := c1 i hi
        obtain ⟨e3, e4⟩ := d1 i e1
        exact ⟨e3, e4.trans e2⟩
      · rcases List.mem_cons.1 hy with e | e
        · subst e
          obtain ⟨e3, e4⟩ := d1 _ c3
          exact ⟨e3, e4.trans c4⟩
        · exact d3 y e
structure HC (g : Graph) (k : Nat) (s : HS) : Prop where
  hi : HI g s
  zero : s.found[0]? = some true
  first : hCur s 0 = []
  done : ∀ (p i : Nat) n, p < k → s.todo[p]? = some i → g.nodes[i]? = some n → ∃ now, hNow n (hCur s i) = some now ∧ ∀ j ∈ fol n, s.found[j.toNat]? = some true ∧ hCur s j.toNat = now
theorem hRun_closed {g : Graph} (hw : WholeG g) : ∀ (f k : Nat) (s : HS) (L : List (List Int)), HC g k s → k ≤ s.todo.length → g.nodes.length + 1 ≤ f + k → hRun g f k s = .ok L → ∃ s', HC g s'.todo.length s' ∧ L = s'.locks
  | 0, k, s, L, h, hk, hf, hr => by
    have := h.hi.ok.lt
    omega
  | f + 1, k, s, L, h, hk, hf, hr => by
    cases h1 : s.todo[k]? with
    | none =>
      simp only [hRun, h1] at hr; injection hr with hr
      have : s.todo.length ≤ k := List.getElem?_eq_none_iff.1 h1
      obtain rfl : k = s.todo.length := by omega
      exact ⟨s, h, hr.symm⟩
    | some at_ =>
      have hin := h.hi.ok.todo at_ (List.mem_of_getElem? h1)
      have h2 : g.nodes[at_]? = some g.nodes[at_] := List.getElem?_eq_getElem hin.1
      obtain ⟨n, hnn⟩ : ∃ n, g.nodes[at_] = n := ⟨_, rfl⟩
      rw [hnn] at h2
      cases h3 : hNow n (hCur s at_) with
      | none => simp only [hRun, h1, h2, h3] at hr; cases hr
      | some now =>
        cases h4 : hVisits now s (fol n) with
        | error e => simp only [hRun, h1, h2, h3, h4] at hr; cases hr
        | ok s' =>
          simp only [hRun, h1, h2, h3, h4] at hr
          have hn : n ∈ g.nodes := List.mem_of_getElem? h2
          have hc : ∀ k ∈ hCur s at_, ∃ n ∈ g.nodes, n.kind = 5 ∧ n.thing = k := by
            intro k hk
            unfold hCur at hk
            cases h5 : s.locks[at_]? with
            | none => rw [h5] at hk; cases hk
            | some l => rw [h5] at hk; exact h.hi.mem l (List.mem_of_getElem? h5) k hk
          obtain ⟨q1, q2⟩ := hNow_mem hn hc h3
          have hl := h.hi.ok.len k at_ h1
          have hlt := (List.getElem?_eq_some_iff.1 h1).1
          have hra := h.hi.reach at_ hin.2
          have hfs : ∀ x ∈ fol n, x.toNat < g.nodes.length ∧ ReachC g (-1) x.toNat := fun x hx => by
            have hb := hw.fol n hn x hx
            refine ⟨by omega, .step hra (by omega) h2 ?_⟩
            rw [Int.toNat_of_nonneg hb.1]; exact hx
          obtain ⟨q3, q4⟩ := HI.visits q1 (fol n) s s' h.hi (by omega) hfs h4
          obtain ⟨d1, d2, d3⟩ := hVisits_keeps q1 (fol n) s s' h.hi (by omega) hfs h4
          refine hRun_closed hw f (k + 1) s' L ⟨q3, (d1 0 h.zero).1, (d1 0 h.zero).2.trans h.first, fun p i m hp hi hm => ?_⟩ (by omega) (by omega) hr
          by_cases e : p = k
          · subst e
            rw [d2 p at_ h1] at hi
            injection hi with hi
            subst hi
            rw [h2] at hm
            injection hm with hm
            subst hm
            exact ⟨now, by rw [(d1 at_ hin.2).2]; exact h3, d3⟩
          · have hi0 : s.todo[p]? = some i := by
              have hpl : p < s.todo.length := by omega
              have := d2 p _ (List.getElem?_eq_getElem hpl)
              rw [hi] at this
              rw [List.getElem?_eq_getElem hpl]; exact this.symm
            obtain ⟨now', e1, e2⟩ := h.done p i m (by omega) hi0 hm
            have hfi := (h.hi.ok.todo i (List.mem_of_getElem? hi0)).2
            refine ⟨now', by rw [(d1 i hfi).2]; exact e1, fun j hj => ?_⟩
            obtain ⟨e3, e4⟩ := e2 j hj
            obtain ⟨e5, e6⟩ := d1 _ e3
            exact ⟨e5, e6.trans e4⟩
/-- The locks ahead of a node that is reached, and behind it. -/
theorem held_next {u : Unit_} {g : Graph} (h : RightG u g) {i : Nat} {n : Node} (hr : ReachC g (-1) i) (hn : g.nodes[i]? = some n) :
    ∃ now, hNow n (heldAt g i) = some now ∧ ∀ j ∈ fol n, heldAt g j.toNat = now := by
  obtain ⟨L, hL⟩ := h.held
  have hpos := h.whole.pos
  have hz : (hStart g.nodes.length).found[0]? = some true := by simp only [hStart]; rw [List.getElem?_set, if_pos rfl, if_pos (by simp; omega)]
  obtain ⟨s, h1, h2⟩ := hRun_closed h.whole _ _ _ L ⟨HI.start hpos, hz, by simp [hCur, hStart, List.getElem?_replicate]; split <;> rfl, fun p _ _ hp => by omega⟩ (Nat.zero_le _) (by omega) hL
  have hat : ∀ i : Nat, heldAt g i = hCur s i := fun i => by unfold heldAt hCur; rw [heldL_ok hL, h2]
  have hfound : ∀ i : Nat, ReachC g (-1) i → s.found[i]? = some true := by
    intro i hi
    induction hi with
    | zero => exact h1.zero
    | @step i j n _ _ hn hj ih =>
      obtain ⟨p, hp⟩ := List.getElem?_of_mem (h1.hi.inTodo i ih)
      obtain ⟨now, _, e2⟩ := h1.done p i n (List.getElem?_eq_some_iff.1 hp).1 hp hn
      have := (e2 _ hj).1
      simpa using this
  obtain ⟨p, hp⟩ := List.getElem?_of_mem (h1.hi.inTodo i (hfound i hr))
  obtain ⟨now, e1, e2⟩ := h1.done p i n (List.getElem?_eq_some_iff.1 hp).1 hp hn
  refine ⟨now, by rw [hat]; exact e1, fun j hj => by rw [hat]; exact (e2 j hj).2⟩
theorem held_zero {u : Unit_} {g : Graph} (h : RightG u g) : heldAt g 0 = [] := by
  obtain ⟨L, hL⟩ := h.held
  have hpos := h.whole.pos
  have hz : (hStart g.nodes.length).found[0]? = some true := by simp only [hStart]; rw [List.getElem?_set, if_pos rfl, if_pos (by simp; omega)]
  obtain ⟨s, h1, h2⟩ := hRun_closed h.whole _ _ _ L ⟨HI.start hpos, hz, by simp [hCur, hStart, List.getElem?_replicate]; split <;> rfl, fun p _ _ hp => by omega⟩ (Nat.zero_le _) (by omega) hL
  unfold heldAt
  rw [heldL_ok hL, h2]
  exact h1.first
/-- A situation that the unit comes to. -/
structure Come_ (u : Unit_) (m : Mach) : Prop where
  ok : MachOk u m
  reach : ∀ (t : Nat) (g : Graph) (i : Nat), u.graphs[t]? = some g → m.at_[t]? = some i → ReachC g (-1) i
  held : ∀ (t : Nat) (g : Graph) (i : Nat), u.graphs[t]? = some g → m.at_[t]? = some i → ∀ l : Nat, l < u.locks.length → ((l : Int) ∈ heldAt g i ↔ m.holders[l]? = some (t : Int))
  nodup : ∀ (t : Nat) (g : Graph) (i : Nat), u.graphs[t]? = some g → m.at_[t]? = some i → (heldAt g i).Nodup
  who : ∀ (l : Nat) (h : Int), m.holders[l]? = some h → h = -1 ∨ (0 ≤ h ∧ h < u.graphs.length)
theorem startM_come {u : Unit_} (hu : RightU u) (hz : SizeU u) : Come_ u (startM u) := by
  have h0 : ∀ (t : Nat) (g : Graph) (i : Nat), u.graphs[t]? = some g → (startM u).at_[t]? = some i → i = 0 := fun t g i hg hi => by
    simp only [startM, List.getElem?_map, hg, Option.map_some, Option.some.injEq] at hi
    exact hi.symm
  refine ⟨startM_ok hu hz, fun t g i hg hi => by rw [h0 t g i hg hi]; exact .zero, fun t g i hg hi l hl => ?_, fun t g i hg hi => ?_, fun l h hh => ?_⟩
  · rw [h0 t g i hg hi, held_zero (hu.graphs g (List.mem_of_getElem? hg))]
    refine ⟨fun h => (by cases h), fun h => ?_⟩
    simp only [startM, List.getElem?_map] at h
    cases hq : u.locks[l]? with
    | none => rw [hq] at h; cases h
    | some x => rw [hq] at h; injection h with h; have h : (-1 : Int) = t := h; omega
  · rw [h0 t g i hg hi, held_zero (hu.graphs g (List.mem_of_getElem? hg))]; exact List.nodup_nil
  · left
    simp only [startM, List.getElem?_map] at hh
    cases hq : u.locks[l]? with
    | none => rw [hq] at hh; cases hh
    | some x => rw [hq] at hh; injection hh with hh; exact hh.symm
end Go.Proofs.YtffgnjgphkdodaaGreatDoor
/- A step keeps a situation one that the unit comes to. -/
namespace Go.Proofs.YtffgnjgphkdodaaGreatDoor
open Go
structure NdF (u : Unit_) (g : Graph) (n : Node) : Prop where
  kind : 1 ≤ n.kind ∧ n.kind ≤ 9
  op : n.kind = 1 → 0 ≤ n.op ∧ n.op < 19
  slot : n.kind = 1 ∨ n.kind = 2 ∨ n.kind = 4 → 0 ≤ n.slot ∧ n.slot < g.slots
  var : n.kind = 2 ∨ n.kind = 3 ∨ n.kind = 4 → 0 ≤ n.thing ∧ n.thing < u.shared.length
  lock : n.kind = 5 ∨ n.kind = 6 → 0 ≤ n.thing ∧ n.thing < u.locks.length
  a : n.kind = 1 ∨ n.kind = 3 ∨ n.kind = 4 ∨ n.kind = 7 ∨ n.kind = 8 → n.a.isSlot = true → 0 ≤ n.a.slot ∧ n.a.slot < g.slots
  b : n.kind = 1 → twoB n.op = true → n.b.isSlot = true → 0 ≤ n.b.slot ∧ n.b.slot < g.slots
  next : n.kind ≤ 8 → 0 ≤ n.next ∧ n.next < g.nodes.length
  els : n.kind = 8 → 0 ≤ n.els ∧ n.els < g.nodes.length
  thing0 : n.kind = 1 ∨ 7 ≤ n.kind → n.thing = 0
theorem numOk_in {n most : Int} (h : numOk n true most = true) : 0 ≤ n ∧ n < most := by
  unfold numOk at h; rw [if_pos rfl, decide_eq_true_eq] at h; exact h
theorem valOk_in {v : Val} {slots : Int} (h : valOk v true slots = true) (hs : v.isSlot = true) : 0 ≤ v.slot ∧ v.slot < slots := by
  unfold valOk at h; rw [if_pos rfl, if_pos hs, decide_eq_true_eq] at h; exact ⟨h.1, h.2.1⟩
theorem ndF {u : Unit_} {g : Graph} {n : Node} (h : ndOk u g n = true) : NdF u g n := by
  unfold ndOk nodeOk at h
  simp only [Bool.and_eq_true] at h
  obtain ⟨h1, h2, h3, h4, h5, h6, h7, h8⟩ := h
  unfold nodeHead at h1
  rw [decide_eq_true_eq] at h1
  refine ⟨⟨h1.1, h1.2.1⟩, fun e => ?_, fun e => ?_, fun e => ?_, fun e => ?_, fun e => ?_, fun e e2 => ?_, fun e => ?_, fun e => ?_, fun e => ?_⟩
  · rw [decide_eq_true e] at h2; exact numOk_in h2
  · rw [show uSlot n.kind = true from decide_eq_true e] at h3; exact numOk_in h3
  · rw [show uThing n.kind = true from decide_eq_true (by omega), if_neg (by omega)] at h4; exact numOk_in h4
  · rw [show uThing n.kind = true from decide_eq_true (by omega), if_pos e] at h4; exact numOk_in h4
  · rw [show uA n.kind = true from decide_eq_true e] at h5; exact valOk_in h5
  · rw [decide_eq_true e, e2] at h6; exact valOk_in h6
  · rw [show uNext n.kind = true from decide_eq_true (by omega)] at h7; exact numOk_in h7
  · rw [decide_eq_true e] at h8; exact numOk_in h8
  · rw [show uThing n.kind = false from decide_eq_false (by omega)] at h4
    unfold numOk at h4
    rw [if_neg (by simp), decide_eq_true_eq] at h4
    exact h4
/-- Where a thread stands. -/
structure Stands (u : Unit_) (m : Mach) (t : Nat) (g : Graph) (i : Nat) (n : Node) : Prop where
  gr : u.graphs[t]? = some g
  pc : m.at_[t]? = some i
  nd : g.nodes[i]? = some n
theorem stands_at {u : Unit_} {m : Mach} (h : MachOk u m) {t : Nat} (ht : t < u.graphs.length) : ∃ g i n, Stands u m t g i n := by
  have h1 : u.graphs[t]? = some u.graphs[t] := List.getElem?_eq_getElem ht
  have ht2 : t < m.at_.length := by rw [h.at_]; exact ht
  have h2 : m.at_[t]? = some m.at_[t] := List.getElem?_eq_getElem ht2
  have h3 := h.node t _ _ h1 h2
  exact ⟨_, _, _, h1, h2, List.getElem?_eq_getElem h3⟩
theorem Stands.nodeAt {u : Unit_} {m : Mach} {t : Nat} {g : Graph} {i : Nat} {n : Node} (h : Stands u m t g i n) : nodeAt u m t = some n := by
  unfold Go.Proofs.YtffgnjgphkdodaaGreatDoor.nodeAt
  rw [h.gr, h.pc]; exact h.nd
/-- A thread's bar is that of its node. -/
def barN (m : Mach) (n : Node) : Int := if n.kind = 9 then 70 else if n.kind = 5 ∧ 0 ≤ (m.holders[n.thing.toNat]?).getD 0 then 71 else 0
theorem Stands.bar {u : Unit_} {m : Mach} {t : Nat} {g : Graph} {i : Nat} {n : Node} (h : Stands u m t g i n) (_hok : MachOk u m) : barF u m t = barN m n := by
  have hl := (List.getElem?_eq_some_iff.1 h.pc).1
  unfold barF
  rw [if_neg (by omega), Int.toNat_natCast, h.nodeAt]
  rfl
theorem bar_out {u : Unit_} {m : Mach} {t : Int} (hok : MachOk u m) (h : barF u m t ≠ 2) : ∃ k : Nat, t = k ∧ k < u.graphs.length := by
  unfold barF at h
  by_cases hr : t < 0 ∨ (m.at_.length : Int) ≤ t
  · rw [if_pos hr] at h; exact absurd rfl h
  · rw [hok.at_] at hr
    exact ⟨t.toNat, by omega, by omega⟩
theorem Stands.step {u : Unit_} {m : Mach} {t : Nat} {g : Graph} {i : Nat} {n : Node} (h : Stands u m t g i n) (hok : MachOk u m) (hb : barN m n = 0) :
    stepM u m t = { actM m t n with at_ := m.at_.set t (actN m t n).toNat } := by
  unfold stepM
  rw [if_neg (by rw [h.bar hok]; exact fun e => e hb), Int.toNat_natCast, h.nodeAt]
theorem Stands.did {u : Unit_} {m : Mach} {t : Nat} {g : Graph} {i : Nat} {n : Node} (h : Stands u m t g i n) (hok : MachOk u m) (hb : barN m n = 0) :
    stepD u m t = actD m t n ⟨t, i, n.kind, 0, 0, 0⟩ := by
  unfold stepD
  rw [if_neg (by rw [h.bar hok]; exact fun e => e hb), Int.toNat_natCast, h.nodeAt, h.pc]
  rfl
theorem step_not {u : Unit_} {m : Mach} {t : Int} (h : barF u m t ≠ 0) : stepM u m t = m ∧ stepD u m t = ⟨0, 0, 0, 0, 0, 0⟩ := by
  unfold stepM stepD
  rw [if_pos h, if_pos h]
  exact ⟨rfl, rfl⟩
theorem actN_fol {m : Mach} {t : Nat} {n : Node} (h9 : n.kind ≠ 9) : actN m t n ∈ fol n := by
  unfold actN fol
  rw [if_neg h9]
  by_cases h8 : n.kind = 8
  · by_cases he : n.els = n.next
    · simp [h8, he]
    · by_cases hv : m.val t n.a = 0 <;> simp [h8, he, hv]
  · simp [h8]
/-- The lengths of what an action leaves. -/
theorem actM_sizes {u : Unit_} {m : Mach} (_hok : MachOk u m) (t : Nat) (n : Node) : (actM m t n).at_ = m.at_ ∧ (actM m t n).slots.map List.length = m.slots.map List.length ∧ (actM m t n).mem.length = m.mem.length ∧ (actM m t n).holders.length = m.holders.length := by
  have hs : ∀ (j : Int) (x : Int), (m.slots.set t (((m.slots[t]?).getD []).set j.toNat x)).map List.length = m.slots.map List.length := fun j x => by
    rw [List.map_set, List.length_set]
    refine List.ext_getElem? fun k => ?_
    rw [List.getElem?_set]
    split
    · rename_i e
      subst e
      rw [List.length_map, List.getElem?_map]
      split
      · rename_i hlt
        rw [List.getElem?_eq_getElem hlt]; rfl
      · rename_i hlt
        rw [List.getElem?_eq_none (by omega)]; rfl
    · rfl
  unfold actM
  split
  · exact ⟨rfl, hs _ _, rfl, rfl⟩
  · split
    · exact ⟨rfl, hs _ _, rfl, rfl⟩
    · split
      · exact ⟨rfl, rfl, by simp [Mach.setVar], rfl⟩
      · split
        · exact ⟨rfl, hs _ _, by simp [Mach.setVar, Mach.setSlot], rfl⟩
        · split
          · exact ⟨rfl, rfl, rfl, by simp [Mach.setHolder]⟩
          · split
            · exact ⟨rfl, rfl, rfl, by simp [Mach.setHolder]⟩
            · split
              · exact ⟨rfl, rfl, rfl, rfl⟩
              · exact ⟨rfl, rfl, rfl, rfl⟩
theorem actM_holders (m : Mach) (t : Nat) (n : Node) : (actM m t n).holders = if n.kind = 5 then m.holders.set n.thing.toNat t else if n.kind = 6 then m.holders.set n.thing.toNat (-1) else m.holders := by
  unfold actM
  by_cases h1 : n.kind = 1
  · simp [h1, Mach.setSlot]
  · by_cases h2 : n.kind = 2
    · simp [h2, Mach.setSlot]
    · by_cases h3 : n.kind = 3
      · simp [h3, Mach.setVar]
      · by_cases h4 : n.kind = 4
        · simp [h4, Mach.setVar, Mach.setSlot]
        · by_cases h5 : n.kind = 5
          · simp [h5, Mach.setHolder]
          · by_cases h6 : n.kind = 6
            · simp [h6, Mach.setHolder]
            · by_cases h7 : n.kind = 7 <;> simp [h1, h2, h3, h4, h5, h6, h7]
theorem len_map {m m' : List (List Int)} (h : m'.map List.length = m.map List.length) {t : Nat} {l : List Int} (hl : m'[t]? = some l) : ∃ l0, m[t]? = some l0 ∧ l0.length = l.length := by
  have := congrArg (fun q => q[t]?) h
  simp only [List.getElem?_map, hl, Option.map_some] at this
  cases hq : m[t]? with
  | none => rw [hq] at this; cases this
  | some l0 => rw [hq] at this; injection this with this; exact ⟨l0, rfl, this.symm⟩
theorem step_ok {u : Unit_} (hu : RightU u) {m : Mach} (hok : MachOk u m) {t : Nat} {g : Graph} {i : Nat} {n : Node} (h : Stands u m t g i n) (hb : barN m n = 0) : MachOk u { actM m t n with at_ := m.at_.set t (actN m t n).toNat } := by
  obtain ⟨s1, s2, s3, s4⟩ := actM_sizes hok t n
  have hg := hu.graphs g (List.mem_of_getElem? h.gr)
  have hnF := ndF (hg.nodes n (List.mem_of_getElem? h.nd))
  have h9 : n.kind ≠ 9 := fun e => by unfold barN at hb; rw [if_pos e] at hb; cases hb
  refine ⟨by simpa using hok.at_, fun t' g' i' h1 h2 => ?_, ?_, fun t' g' l h1 h2 => ?_, by rw [← hok.mem]; exact s3, by rw [← hok.holders]; exact s4⟩
  · dsimp only at h2
    rw [List.getElem?_set] at h2
    by_cases e : t = t'
    · subst e
      rw [if_pos rfl, if_pos (List.getElem?_eq_some_iff.1 h.pc).1] at h2
      injection h2 with h2
      subst h2
      rw [h.gr] at h1
      injection h1 with h1
      subst h1
      have := hg.whole.fol n (List.mem_of_getElem? h.nd) _ (actN_fol (m := m) (t := t) h9)
      omega
    · rw [if_neg e] at h2
      exact hok.node t' g' i' h1 h2
  · have := congrArg List.length s2
    simp only [List.length_map] at this
    rw [← hok.slots]; exact this
  · obtain ⟨l0, k1, k2⟩ := len_map s2 h2
    rw [← k2]
    exact hok.slot t' g' l0 h1 k1
theorem dropLast_mem {l : List Int} {x : Int} (hn : l.Nodup) (hx : l.getLast? = some x) (y : Int) : y ∈ l.dropLast ↔ y ∈ l ∧ y ≠ x := by
  obtain ⟨ys, rfl⟩ := List.getLast?_eq_some_iff.1 hx
  rw [List.dropLast_concat]
  rw [List.nodup_append] at hn
  obtain ⟨_, _, h3⟩ := hn
  simp only [List.mem_append, List.mem_singleton]
  refine ⟨fun h => ⟨.inl h, fun e => h3 y h x (by simp) e⟩, fun h => ?_⟩
  rcases h.1 with k | k
  · exact k
  · exact absurd k h.2
theorem Come_.step {u : Unit_} (hu : RightU u) {m : Mach} (hc : Come_ u m) (t : Int) : Come_ u (stepM u m t) := by
  by_cases hb0 : barF u m t = 0
  · obtain ⟨t, rfl, ht⟩ := bar_out hc.ok (by rw [hb0]; decide)
    obtain ⟨g, i, n, hs⟩ := stands_at hc.ok ht
    rw [hs.bar hc.ok] at hb0
    rw [hs.step hc.ok hb0]
    have hok' := step_ok hu hc.ok hs hb0
    have hg := hu.graphs g (List.mem_of_getElem? hs.gr)
    have hnF := ndF (hg.nodes n (List.mem_of_getElem? hs.nd))
    have h9 : n.kind ≠ 9 := fun e => by unfold barN at hb0; rw [if_pos e] at hb0; cases hb0
    have hfol := actN_fol (m := m) (t := t) h9
    have hbf := hg.whole.fol n (List.mem_of_getElem? hs.nd) _ hfol
    have hr := hc.reach t g i hs.gr hs.pc
    obtain ⟨now, hnow, hnext⟩ := held_next hg hr hs.nd
    have hnext' := hnext _ hfol
    have hnd := hc.nodup t g i hs.gr hs.pc
    have hhe := hc.held t g i hs.gr hs.pc
    have hat : ∀ (t' i' : Nat), (m.at_.set t (actN m t n).toNat)[t']? = some i' → (t' = t ∧ i' = (actN m t n).toNat) ∨ (t' ≠ t ∧ m.at_[t']? = some i') := fun t' i' h => by
      rw [List.getElem?_set] at h
      by_cases e : t = t'
      · subst e
        rw [if_pos rfl, if_pos (List.getElem?_eq_some_iff.1 hs.pc).1] at h
        injection h with h
        exact .inl ⟨rfl, h.symm⟩
      · rw [if_neg e] at h
        exact .inr ⟨fun e2 => e e2.symm, h⟩
    have hgr : ∀ g', u.graphs[t]? = some g' → g' = g := fun g' h => by rw [hs.gr] at h; injection h with h; exact h.symm
    -- who holds what, behind the step
    have hH : (∀ l : Nat, l < u.locks.length → ((l : Int) ∈ now ↔ (actM m t n).holders[l]? = some (t : Int))) ∧ now.Nodup ∧
        (∀ (t' : Nat) (hd : List Int), t' ≠ t → (∀ l : Nat, l < u.locks.length → ((l : Int) ∈ hd ↔ m.holders[l]? = some (t' : Int))) → ∀ l : Nat, l < u.locks.length → ((l : Int) ∈ hd ↔ (actM m t n).holders[l]? = some (t' : Int))) ∧
        (∀ (l : Nat) h, (actM m t n).holders[l]? = some h → h = -1 ∨ (0 ≤ h ∧ h < u.graphs.length)) := by
      rw [actM_holders]
      unfold hNow at hnow
      by_cases h5 : n.kind = 5
      · rw [if_pos h5] at hnow ⊢
        injection hnow with hnow
        subst hnow
        have hth := hnF.lock (.inl h5)
        obtain ⟨k, hk⟩ := Int.eq_ofNat_of_zero_le hth.1
        have hkl : k < m.holders.length := by rw [hc.ok.holders]; omega
        have hfree : ∃ h, m.holders[k]? = some h ∧ h < 0 := by
          refine ⟨_, List.getElem?_eq_getElem hkl, ?_⟩
          unfold barN at hb0
          rw [if_neg h9] at hb0
          by_cases hq : n.kind = 5 ∧ 0 ≤ (m.holders[n.thing.toNat]?).getD 0
          · rw [if_pos hq] at hb0; cases hb0
          · have : ¬ 0 ≤ (m.holders[n.thing.toNat]?).getD 0 := fun e => hq ⟨h5, e⟩
            rw [hk, Int.toNat_natCast, List.getElem?_eq_getElem hkl] at this
            simpa using this
        obtain ⟨h0, hf1, hf2⟩ := hfree
        have hnot : ∀ (t' : Nat) (hd : List Int), (∀ l : Nat, l < u.locks.length → ((l : Int) ∈ hd ↔ m.holders[l]? = some (t' : Int))) → (k : Int) ∉ hd := fun t' hd hh hm => by
          have := (hh k (by omega)).1 hm
          rw [hf1] at this
          injection this with this
          omega
        rw [hk, Int.toNat_natCast]
        refine ⟨fun l hl => ?_, ?_, fun t' hd hne hh l hl => ?_, fun l h hlh => ?_⟩
        · rw [List.getElem?_set, List.mem_append, List.mem_singleton]
          by_cases e : k = l
          · subst e; simp [hkl]
          · rw [if_neg e, hhe l hl]
            exact ⟨fun h => h.elim id fun h => absurd h (by omega), .inl⟩
        · rw [List.nodup_append]
          refine ⟨hnd, by simp, fun a ha b hb => ?_⟩
          simp only [List.mem_singleton] at hb
          subst hb
          intro e
          subst e
          exact hnot t _ hhe ha
        · rw [List.getElem?_set]
          by_cases e : k = l
          · subst e
            rw [if_pos rfl, if_pos hkl]
            refine ⟨fun h => absurd h (hnot t' hd hh), fun h => ?_⟩
            injection h with h
            omega
          · rw [if_neg e]; exact hh l hl
        · rw [List.getElem?_set] at hlh
          by_cases e : k = l
          · subst e
            rw [if_pos rfl, if_pos hkl] at hlh
            injection hlh with hlh
            subst hlh
            exact .inr ⟨by omega, by omega⟩
          · rw [if_neg e] at hlh; exact hc.who l h hlh
      · rw [if_neg h5] at hnow ⊢
        by_cases h6 : n.kind = 6
        · rw [if_pos h6] at hnow ⊢
          have hth := hnF.lock (.inr h6)
          obtain ⟨k, hk⟩ := Int.eq_ofNat_of_zero_le hth.1
          have hkl : k < m.holders.length := by rw [hc.ok.holders]; omega
          rw [hk, Int.toNat_natCast]
          rw [hk] at hnow
          by_cases hl : (heldAt g i).getLast? = some (k : Int)
          · rw [if_pos hl] at hnow
            injection hnow with hnow
            subst hnow
            have hmem : (k : Int) ∈ heldAt g i := List.mem_of_getLast? hl
            have hhk := (hhe k (by omega)).1 hmem
            refine ⟨fun l hll => ?_, List.Nodup.sublist (List.dropLast_sublist _) hnd, fun t' hd hne hh l hl => ?_, fun l h hlh => ?_⟩
            · rw [dropLast_mem hnd hl, List.getElem?_set]
              by_cases e : k = l
              · subst e
                rw [if_pos rfl, if_pos hkl]
                refine ⟨fun h => absurd rfl h.2, fun h => ?_⟩
                injection h with h
                omega
              · rw [if_neg e, hhe l hll]
                exact ⟨fun h => h.1, fun h => ⟨h, by omega⟩⟩
            · rw [List.getElem?_set]
              by_cases e : k = l
              · subst e
                rw [if_pos rfl, if_pos hkl, hh k hl, hhk]
                constructor
                · intro h; injection h with h; omega
                · intro h; injection h with h; omega
              · rw [if_neg e]; exact hh l hl
            · rw [List.getElem?_set] at hlh
              by_cases e : k = l
              · subst e
                rw [if_pos rfl, if_pos hkl] at hlh
                injection hlh with hlh
                exact .inl hlh.symm
              · rw [if_neg e] at hlh; exact hc.who l h hlh
          · rw [if_neg hl] at hnow; cases hnow
        · rw [if_neg h6, if_neg h9] at hnow
          rw [if_neg h6]
          injection hnow with hnow
          subst hnow
          exact ⟨hhe, hnd, fun _ _ _ hh => hh, hc.who⟩
    obtain ⟨g1, g2, g3, g4⟩ := hH
    refine ⟨hok', fun t' g' i' k1 k2 => ?_, fun t' g' i' k1 k2 l hl => ?_, fun t' g' i' k1 k2 => ?_, g4⟩
    · rcases hat t' i' k2 with ⟨rfl, rfl⟩ | ⟨e, k3⟩
      · rw [hgr g' k1]
        refine .step hr (by omega) hs.nd ?_
        rw [Int.toNat_of_nonneg hbf.1]; exact hfol
      · exact hc.reach t' g' i' k1 k3
    · rcases hat t' i' k2 with ⟨rfl, rfl⟩ | ⟨e, k3⟩
      · rw [hgr g' k1, hnext']
        exact g1 l hl
      · exact g3 t' _ e (hc.held t' g' i' k1 k3) l hl
    · rcases hat t' i' k2 with ⟨rfl, rfl⟩ | ⟨e, k3⟩
      · rw [hgr g' k1, hnext']; exact g2
      · exact hc.nodup t' g' i' k1 k3
  · rw [(step_not hb0).1]; exact hc
/-- Who gives a lock back holds it. -/
theorem Come_.unlock {u : Unit_} (hu : RightU u) {m : Mach} (hc : Come_ u m) {t : Nat} {g : Graph} {i : Nat} {n : Node} (hs : Stands u m t g i n) (h6 : n.kind = 6) : m.holders[n.thing.toNat]? = some (t : Int) := by
  have hg := hu.graphs g (List.mem_of_getElem? hs.gr)
  have hth := (ndF (hg.nodes n (List.mem_of_getElem? hs.nd))).lock (.inr h6)
  obtain ⟨now, hnow, _⟩ := held_next hg (hc.reach t g i hs.gr hs.pc) hs.nd
  unfold hNow at hnow
  rw [if_neg (by omega), if_pos h6] at hnow
  by_cases hl : (heldAt g i).getLast? = some n.thing
  · have hmem : n.thing ∈ heldAt g i := List.mem_of_getLast? hl
    obtain ⟨k, hk⟩ := Int.eq_ofNat_of_zero_le hth.1
    rw [hk] at hmem ⊢
    exact (hc.held t g i hs.gr hs.pc k (by omega)).1 hmem
  · rw [if_neg hl] at hnow; cases hnow
/-- Who has ended holds nothing. -/
theorem Come_.ended {u : Unit_} (hu : RightU u) {m : Mach} (hc : Come_ u m) (he : ∀ (t : Nat) (g : Graph) (i : Nat) (n : Node), Stands u m t g i n → n.kind = 9) {l : Nat} {h : Int} (hl : m.holders[l]? = some h) : h = -1 := by
  rcases hc.who l h hl with e | ⟨e1, e2⟩
  · exact e
  · obtain ⟨t, rfl⟩ := Int.eq_ofNat_of_zero_le e1
    obtain ⟨g, i, n, hs⟩ := stands_at hc.ok (t := t) (by omega)
    have h9 := he t g i n hs
    have hg := hu.graphs g (List.mem_of_getElem? hs.gr)
    obtain ⟨now, hnow, _⟩ := held_next hg (hc.reach t g i hs.gr hs.pc) hs.nd
    have hll : l < u.locks.length := by rw [← hc.ok.holders]; exact (List.getElem?_eq_some_iff.1 hl).1
    have hm := (hc.held t g i hs.gr hs.pc l hll).2 hl
    unfold hNow at hnow
    rw [if_neg (by omega), if_neg (by omega), if_pos h9] at hnow
    by_cases h0 : heldAt g i = []
    · rw [h0] at hm; cases hm
    · rw [if_neg h0] at hnow; cases hnow
end Go.Proofs.YtffgnjgphkdodaaGreatDoor
