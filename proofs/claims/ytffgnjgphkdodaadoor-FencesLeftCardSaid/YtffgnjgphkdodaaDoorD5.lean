import Derived.Test.YtffgnjgphkdodaaDoorD4
import Derived.Lib.TrailingZeros
import Derived.Test.YtffgnjgphkdodaaDoorD1
import Derived.Test.YtffgnjgphkdodaaDoorD2
import Derived.Test.YtffgnjgphkdodaaDoorD3
import Derived.StillTailTactics
namespace Go.Proofs.YtffgnjgphkdodaaDoor
open Go
def up (p:Nat→Bool) : List Int:=((List.range 16).filter p).map Int.ofNat
def bitsUp (m:Nat) : List Int:=up m.testBit
def isIn (l:List Int) (k:Nat) : Bool:=decide ((k:Int)∈l)
def risingL (l:List Int) : List Int:=up (isIn l)
def Mask (m:Nat) (l:List Int) : Prop:=∀ k:Nat,m.testBit k=isIn l k
theorem ZIa {p q:Nat→Bool} (h:∀ k,k < 16→p k=q k) : up p=up q:=by
 unfold up
 congr 1
 exact List.filter_congr fun k hk=>h k (List.mem_range.1 hk)
theorem Mask.bits {m:Nat} {l:List Int} (h:Mask m l) : bitsUp m=risingL l:=ZIa fun k _=>h k
theorem ZHq {p:Nat→Bool} {x:Int} : x∈up p ↔ ∃ k:Nat,k < 16∧p k=true∧x=k:=by
 unfold up
 simp only[List.mem_map,List.mem_filter,List.mem_range]
 constructor
 ·rintro⟨k,⟨h1,h2⟩,rfl⟩;exact⟨k,h1,h2,rfl⟩
 ·rintro⟨k,h1,h2,rfl⟩;exact⟨k,⟨h1,h2⟩,rfl⟩
theorem ZHP (p:Nat→Bool) : (up p).length≤16:=by
 unfold up
 rw[List.length_map]
 exact Nat.le_trans (List.length_filter_le _ _) (by simp)
theorem ZEC:∀ (L:List Nat) (p:Nat→Bool) (c:Nat),L.Pairwise (· < ·)→c∈L→p c=true→(∀ i,i < c→p i=false)→L.filter p=c :: L.filter (fun i=>p i && decide (i≠c))
 | [],_,_,_,h,_,_=>by cases h
 | a :: L,p,c,hs,hc,hp,hl=>by
  rw[List.pairwise_cons] at hs
  by_cases e:a=c
  ·subst e
   have h1:(a :: L).filter (fun i=>p i && decide (i≠a))=L.filter p:=by
    rw[List.filter_cons_of_neg (by simp)]
    exact List.filter_congr fun i hi=>by have:=hs.1 i hi;simp;omega
   rw[h1,List.filter_cons_of_pos hp]
  ·have hc':c∈L:=by
    rcases List.mem_cons.1 hc with h | h
    ·exact absurd h.symm e
    ·exact h
   have ha:=hl a (hs.1 c hc')
   rw[List.filter_cons_of_neg (by simp[ha]),List.filter_cons_of_neg (by simp[ha])]
   exact ZEC L p c hs.2 hc' hp hl
theorem ZGM (c m i:Nat) : ((2 ^ c * (2 * m+1)) &&& (2 ^ c * (2 * m+1) - 1)).testBit i=((2 ^ c * (2 * m+1)).testBit i && decide (i≠c)):=by
 have hp:0 < 2 ^ c:=Nat.two_pow_pos c
 have e:2 ^ c * (2 * m+1) - 1=2 ^ c * (2 * m)+(2 ^ c - 1):=by
  rw[Nat.mul_add,Nat.mul_one];omega
 have hlt:2 ^ c - 1 < 2 ^ c:=by omega
 rw[e,Nat.testBit_and,Nat.testBit_two_pow_mul_add _ hlt,Nat.testBit_two_pow_mul]
 by_cases h1:i < c
 ·have:¬ i ≥ c:=by omega
  simp[h1,this]
 ·have h2:i ≥ c:=by omega
  simp only[h1,if_false,h2,decide_true,Bool.true_and]
  by_cases h3:i=c
  ·subst h3;simp[Nat.testBit_zero]
  ·obtain⟨j,hj⟩ : ∃ j,i - c=j+1:=⟨i - c - 1,by omega⟩
   rw[hj,Nat.testBit_succ,Nat.testBit_succ]
   have d1:(2 * m+1) / 2=m:=by omega
   have d2:2 * m / 2=m:=by omega
   rw[d1,d2]
   simp[h3]
theorem ZEE (x:Nat) (h0:x≠0) (h:x < 65536) : ∃ c m,Lib.ctz 32 x=c∧x=2 ^ c * (2 * m+1)∧c < 16:=by
 have hp:0 < x:=by omega
 obtain⟨m,h1,_⟩:=Lib.ctzFrom_spec 32 x hp (by omega)
 refine⟨Lib.ctzFrom 32 x,m,by unfold Lib.ctz;rw[if_neg h0],h1,?_⟩
 refine Classical.byContradiction fun hc=>?_
 have h2:2 ^ 16≤2 ^ Lib.ctzFrom 32 x:=Nat.pow_le_pow_right (by decide) (by omega)
 have h3:2 ^ Lib.ctzFrom 32 x * 1≤2 ^ Lib.ctzFrom 32 x * (2 * m+1):=Nat.mul_le_mul_left _ (by omega)
 omega
theorem Z0 (x:Nat) (h0:x≠0) (h:x < 65536) : bitsUp x=(Lib.ctz 32 x:Int) :: bitsUp (x &&& (x - 1))∧(x &&& (x - 1)) < x∧Lib.ctz 32 x < 16:=by
 obtain⟨c,m,h1,h2,h3⟩:=ZEE x h0 h
 rw[h1]
 refine⟨?_,Nat.lt_of_le_of_lt Nat.and_le_right (by omega),h3⟩
 unfold bitsUp up
 have hpw:(List.range 16).Pairwise (· < ·):=List.pairwise_lt_range
 have hb:∀ i,x.testBit i=(decide (i ≥ c) && (2 * m+1).testBit (i - c)):=fun i=>by rw[h2,Nat.testBit_two_pow_mul]
 have hlow:∀ i,i < c→x.testBit i=false:=by
  intro i hi
  rw[hb]
  have:¬ i ≥ c:=by omega
  simp[this]
 rw[ZEC (List.range 16) x.testBit c hpw (List.mem_range.2 h3) (by rw[hb];simp[Nat.testBit_zero]) hlow]
 rw[List.map_cons]
 congr 2
 refine List.filter_congr fun i _=>?_
 have:=ZGM c m i
 rw[← h2] at this
 exact this.symm
theorem ZBv:bitsUp 0=[]:=by decide
theorem ZHH {m:Nat} (h:m < 65536) (hb:bitsUp m=[]) : m=0:=by
 refine Classical.byContradiction fun h0=>?_
 rw[(Z0 m h0 h).1] at hb
 cases hb
def touchB (n:Node) : Bool:=decide (n.kind=2∨n.kind=3∨n.kind=4)
structure Hit where
 t:Nat
 i:Nat
 n:Node
 l:List Int
open Classical in
noncomputable def hitsOf (t:Nat) (g:Graph) : Nat→List Node→List Hit
 | _,[]=>[]
 | i,n :: ns=>if ReachC g (-1) i then ⟨t,i,n,heldAt g i⟩ :: hitsOf t g (i+1) ns else hitsOf t g (i+1) ns
noncomputable def hits:Nat→List Graph→List Hit
 | _,[]=>[]
 | t,g :: gs=>hitsOf t g 0 g.nodes ++ hits (t+1) gs
noncomputable def hitsU (u:Unit_) : List Hit:=hits 0 u.graphs
def Hit.on (h:Hit) (x:Int) : Bool:=touchB h.n && decide (h.n.thing=x)
noncomputable def touchU (u:Unit_) (x:Int) : List Hit:=(hitsU u).filter (·.on x)
theorem ZAs {t:Nat} {g:Graph} {i:Nat} {n:Node} {ns:List Node} (h:ReachC g (-1) i) : hitsOf t g i (n :: ns)=⟨t,i,n,heldAt g i⟩ :: hitsOf t g (i+1) ns:=by
 simp[hitsOf,h]
theorem ZHw {t:Nat} {g:Graph} {i:Nat} {n:Node} {ns:List Node} (h:¬ ReachC g (-1) i) : hitsOf t g i (n :: ns)=hitsOf t g (i+1) ns:=by
 simp[hitsOf,h]
theorem ZCR {t:Nat} {g:Graph} : ∀ (ns:List Node) (i:Nat) (h:Hit),h∈hitsOf t g i ns→∃ j,h.t=t∧h.i=i+j∧ns[j]? = some h.n∧h.l=heldAt g h.i∧ReachC g (-1) h.i
 | [],i,h,hm=>by cases hm
 | n :: ns,i,h,hm=>by
  unfold hitsOf at hm
  split at hm
  ·rename_i hr
   rcases List.mem_cons.1 hm with e | e
   ·subst e;exact⟨0,rfl,rfl,rfl,rfl,hr⟩
   ·obtain⟨j,h1,h2,h3,h4,h5⟩:=ZCR ns (i+1) h e
    exact⟨j+1,h1,by omega,by simpa using h3,h4,h5⟩
  ·obtain⟨j,h1,h2,h3,h4,h5⟩:=ZCR ns (i+1) h hm
   exact⟨j+1,h1,by omega,by simpa using h3,h4,h5⟩
theorem ZGN:∀ (gs:List Graph) (t:Nat) (h:Hit),h∈hits t gs→∃ j g,h.t=t+j∧gs[j]? = some g∧g.nodes[h.i]? = some h.n∧h.l=heldAt g h.i∧ReachC g (-1) h.i
 | [],t,h,hm=>by cases hm
 | g :: gs,t,h,hm=>by
  unfold hits at hm
  rcases List.mem_append.1 hm with e | e
  ·obtain⟨j,h1,h2,h3,h4,h5⟩:=ZCR _ _ h e
   exact⟨0,g,h1,rfl,by rw[h2,Nat.zero_add];exact h3,h4,h5⟩
  ·obtain⟨j,g',h1,h2,h3⟩:=ZGN gs (t+1) h e
   exact⟨j+1,g',by omega,by simpa using h2,h3⟩
theorem ZG5 {u:Unit_} {g:Graph} (h:RightG u g) (i:Nat) {k:Int} (hk:k∈heldAt g i) : 0≤k∧k < u.locks.length:=by
 unfold heldAt at hk
 cases hl:(heldL g)[i]? with
 | none=>rw[hl] at hk;cases hk
 | some l=>rw[hl] at hk;exact ZFG h (List.mem_of_getElem? hl) hk
theorem ZCx {u:Unit_} (hu:RightU u) {h:Hit} (hm:h∈hitsU u) : (∀ k∈h.l,0≤k∧k < u.locks.length)∧h.t < u.graphs.length:=by
 obtain⟨j,g,h1,h2,h3,h4,h5⟩:=ZGN _ _ h hm
 have hg:=hu.graphs g (List.mem_of_getElem? h2)
 refine⟨fun k hk=>?_,?_⟩
 ·rw[h4] at hk;exact ZG5 hg _ hk
 ·have:=(List.getElem?_eq_some_iff.1 h2).1;omega
noncomputable def guardsF (u:Unit_) (x:Int) : List Int :=
 if touchU u x=[] then [] else ((List.range u.locks.length).filter (fun k=>(touchU u x).all fun h=>isIn h.l k)).map Int.ofNat
structure Cls where
 kind:Int
 thread:Int
 lock:Int
deriving DecidableEq
def clsOf (T:List Hit) (G:List Int) : Cls:=match T with
 | []=>⟨0,0,0⟩
 | h :: _=>if T.all (fun k=>decide (k.t=h.t)) then ⟨1,h.t,0⟩ else match G with
  | []=>⟨3,0,0⟩
  | g :: _=>⟨2,0,g⟩
noncomputable def classF (u:Unit_) (x:Int) : Cls:=clsOf (touchU u x) (guardsF u x)
def Cls.cells (c:Cls) : List Value:=[.int .u8 c.kind,.int .i64 c.thread,.int .i64 c.lock]
def hitV (_:CM) (cs:List Value) (h:Hit) : Prop:=cs=[.int .i64 h.t,.int .i64 h.i]
instance:MonoV hitV:=⟨fun _ h=>h⟩
def clsV (_:CM) (cs:List Value) (c:Cls) : Prop:=cs=c.cells
instance:MonoV clsV:=⟨fun _ h=>h⟩
abbrev Clss:=Sl (Cells clsV) 3
def hMask (l:List Int) : Nat:=l.foldl (fun m k=>m ||| 2 ^ k.toNat) 0
def tMask (T:List Hit) : Nat:=T.foldl (fun m h=>m ||| 2 ^ h.t) 0
def gMask (T:List Hit) : Nat:=T.foldl (fun m h=>m &&& hMask h.l) 65535
theorem ZG7 (l:List Int) (k:Int) : hMask (l ++ [k])=hMask l ||| 2 ^ k.toNat:=by simp[hMask]
theorem ZGd (T:List Hit) (h:Hit) : tMask (T ++ [h])=tMask T ||| 2 ^ h.t:=by simp[tMask]
theorem ZG9 (T:List Hit) (h:Hit) : gMask (T ++ [h])=gMask T &&& hMask h.l:=by simp[gMask]
theorem ZEj {α:Type} (f:α→Nat) : ∀ (l:List α) (m k:Nat),(l.foldl (fun m x=>m ||| 2 ^ f x) m).testBit k=(m.testBit k || l.any fun x=>decide (f x=k))
 | [],m,k=>by simp
 | x :: l,m,k=>by
  rw[List.foldl_cons,ZEj f l,Nat.testBit_or,Nat.testBit_two_pow,List.any_cons,Bool.or_assoc]
theorem ZBs {α:Type} (f:α→Nat) (n:Nat) : ∀ (l:List α) (m:Nat),m < 2 ^ n→(∀ x∈l,f x < n)→l.foldl (fun m x=>m ||| 2 ^ f x) m < 2 ^ n
 | [],m,h,_=>h
 | x :: l,m,h,hl=>by
  rw[List.foldl_cons]
  exact ZBs f n l _ (Nat.or_lt_two_pow h (Nat.pow_lt_pow_right (by omega) (hl x (by simp)))) (fun y hy=>hl y (by simp[hy]))
theorem ZH0 (l:List Int) (h:∀ k∈l,0≤k) (k:Nat) : (hMask l).testBit k=isIn l k:=by
 unfold hMask isIn
 rw[ZEj (fun k:Int=>k.toNat)]
 simp only[Nat.zero_testBit,Bool.false_or]
 rw[Bool.eq_iff_iff,List.any_eq_true,decide_eq_true_eq]
 constructor
 ·rintro⟨x,hx,hk⟩
  rw[decide_eq_true_eq] at hk
  have:=h x hx
  have e:x=(k:Int):=by omega
  rw[← e];exact hx
 ·intro hk
  exact⟨_,hk,by simp⟩
theorem ZGO (l:List Int) (h:∀ k∈l,0≤k∧k < 16) : hMask l < 65536 :=
 ZBs (fun k:Int=>k.toNat) 16 l 0 (by decide) (fun x hx=>by have:=h x hx;omega)
theorem ZDA (T:List Hit) (k:Nat) : (tMask T).testBit k=T.any fun h=>decide (h.t=k):=by
 unfold tMask
 rw[ZEj (fun h:Hit=>h.t)]
 simp
theorem ZEN (T:List Hit) (h:∀ x∈T,x.t < 16) : tMask T < 65536:=ZBs (fun h:Hit=>h.t) 16 T 0 (by decide) h
theorem ZH2 (T:List Hit) (h:∀ x∈T,∀ k∈x.l,0≤k) (k:Nat) : (gMask T).testBit k=(decide (k < 16) && T.all fun x=>isIn x.l k):=by
 unfold gMask
 have gen:∀ (T:List Hit) (m:Nat),(∀ x∈T,∀ k∈x.l,0≤k)→(T.foldl (fun m h=>m &&& hMask h.l) m).testBit k=(m.testBit k && T.all fun x=>isIn x.l k):=by
  intro T
  induction T with
  | nil=>intro m _;simp
  | cons x T ih =>
   intro m hm
   rw[List.foldl_cons,ih _ (fun y hy=>hm y (by simp[hy])),Nat.testBit_and,ZH0 _ (hm x (by simp)),List.all_cons,Bool.and_assoc]
 rw[gen T 65535 h]
 congr 1
 have:(65535:Nat)=2 ^ 16 - 1:=by decide
 rw[this,Nat.testBit_two_pow_sub_one]
theorem ZEi (T:List Hit) : gMask T < 65536:=by
 have gen:∀ (T:List Hit) (m:Nat),m < 65536→T.foldl (fun m h=>m &&& hMask h.l) m < 65536:=by
  intro T
  induction T with
  | nil=>intro m h;exact h
  | cons x T ih=>intro m h;exact ih _ (Nat.lt_of_le_of_lt Nat.and_le_left h)
 exact gen T 65535 (by decide)
theorem ZCV (p:Nat→Bool) (n m:Nat) (h:∀ k,n≤k→p k=false) (hn:n≤m) : (List.range m).filter p=(List.range n).filter p:=by
 obtain⟨d,rfl⟩ : ∃ d,m=n+d:=⟨m - n,by omega⟩
 rw[List.range_add,List.filter_append]
 have:(List.map (fun x=>n+x) (List.range d)).filter p=[]:=by
  rw[List.filter_eq_nil_iff]
  intro x hx
  obtain⟨y,_,rfl⟩:=List.mem_map.1 hx
  simp[h (n+y) (by omega)]
 rw[this,List.append_nil]
theorem ZFv {u:Unit_} (hu:RightU u) (x:Int) (hne:touchU u x≠[]) : bitsUp (gMask (touchU u x))=guardsF u x:=by
 have hm:∀ h∈touchU u x,∀ k∈h.l,0≤k∧k < u.locks.length:=fun h hh=>(ZCx hu (List.mem_filter.1 hh).1).1
 unfold guardsF
 rw[if_neg hne]
 unfold bitsUp up
 congr 1
 rw[← ZCV (fun k=>(touchU u x).all fun h=>isIn h.l k) u.locks.length 16 ?_ hu.locks]
 ·refine List.filter_congr fun k hk=>?_
  rw[ZH2 _ (fun h hh k hk=>(hm h hh k hk).1)]
  simp[List.mem_range.1 hk]
 ·intro k hk
  rw[Bool.eq_false_iff]
  intro h
  rw[List.all_eq_true] at h
  cases hT:touchU u x with
  | nil=>exact hne hT
  | cons a T =>
   have ha:a∈touchU u x:=by rw[hT];simp
   have:=h a ha
   unfold isIn at this
   rw[decide_eq_true_eq] at this
   have:=hm a ha _ this
   omega
theorem ZHj (m:Nat) (h0:m≠0) (hm:m < 65536) : (m &&& (m - 1)=0) ↔ bitsUp m=[(Lib.ctz 32 m:Int)]:=by
 obtain⟨h1,h2,h3⟩:=Z0 m h0 hm
 rw[h1]
 constructor
 ·intro h;rw[h,ZBv]
 ·intro h
  injection h with _ h
  exact ZHH (by omega) h
def useV (T:List Hit) : List Value:=[.int .u32 (tMask T),.int .u32 (gMask T)]
def useF (pre:List Hit) (x:Int) : Option Value:=if pre.filter (·.on x)=[] then none else some (.agg (useV (pre.filter (·.on x))).toArray)
def useA (T:List Hit) : Nat:=if T=[] then 0 else tMask T
def useB (T:List Hit) : Nat:=if T=[] then 0 else gMask T
theorem ZJR (pre:List Hit) (x:Int) : (useF pre x).getD (.agg #[.int .u32 0,.int .u32 0])=.agg #[.int .u32 (useA (pre.filter (·.on x))),.int .u32 (useB (pre.filter (·.on x)))]:=by
 unfold useF useA useB useV
 split <;> rfl
theorem ZIb {T:List Hit} (h:T≠[]) : tMask T≠0:=by
 intro h0
 cases T with
 | nil=>exact h rfl
 | cons a T =>
  have:=ZDA (a :: T) a.t
  rw[h0] at this
  simp at this
def clsM (a b:Nat) : Cls:=if a=0 then ⟨0,0,0⟩ else if a &&& (a - 1)=0 then ⟨1,Lib.ctz 32 a,0⟩ else if b≠0 then ⟨2,0,Lib.ctz 32 b⟩ else ⟨3,0,0⟩
theorem ZJB {u:Unit_} (hu:RightU u) (x:Int) : clsM (useA (touchU u x)) (useB (touchU u x))=classF u x:=by
 have hth:∀ h∈touchU u x,h.t < 8:=fun h hh=>by have:=(ZCx hu (List.mem_filter.1 hh).1).2;have:=hu.threads;omega
 have hgb:=fun hne=>ZFv hu x hne
 unfold classF clsM useA useB
 generalize hG:guardsF u x=G at *
 generalize hT:touchU u x=T at *
 cases T with
 | nil=>simp[clsOf]
 | cons a T =>
  have hne:(a :: T)≠[]:=by simp
  have hlt:=ZEN (a :: T) (fun h hh=>by have:=hth h hh;omega)
  have h0:=ZIb hne
  rw[if_neg hne,if_neg hne,if_neg h0]
  have hmem:∀ k:Nat,(k:Int)∈bitsUp (tMask (a :: T)) ↔ ∃ h∈a :: T,h.t=k:=by
   intro k
   unfold bitsUp
   rw[ZHq]
   constructor
   ·rintro⟨j,hj,hb,e⟩
    have:j=k:=by omega
    subst this
    rw[ZDA,List.any_eq_true] at hb
    obtain⟨h,hh,ht⟩:=hb
    exact⟨h,hh,of_decide_eq_true ht⟩
   ·rintro⟨h,hh,rfl⟩
    refine⟨h.t,by have:=hth h hh;omega,?_,rfl⟩
    rw[ZDA,List.any_eq_true]
    exact⟨h,hh,by simp⟩
  obtain⟨h1,h2,h3⟩:=Z0 _ h0 hlt
  by_cases hone:tMask (a :: T) &&& (tMask (a :: T) - 1)=0
  ·rw[if_pos hone]
   have hb:=(ZHj _ h0 hlt).1 hone
   have hall:∀ h∈a :: T,h.t=Lib.ctz 32 (tMask (a :: T)):=by
    intro h hh
    have:=(hmem h.t).2 ⟨h,hh,rfl⟩
    rw[hb,List.mem_singleton] at this
    omega
   unfold clsOf
   dsimp only
   rw[if_pos]
   ·rw[hall a (by simp)]
   ·rw[List.all_eq_true]
    intro k hk
    rw[hall k hk,hall a (by simp)]
    simp
  ·rw[if_neg hone]
   have hall:¬ (a :: T).all (fun k=>decide (k.t=a.t))=true:=by
    intro hall
    rw[List.all_eq_true] at hall
    apply hone
    rw[ZHj _ h0 hlt]
    rw[h1]
    congr 1
    cases hr:bitsUp (tMask (a :: T) &&& (tMask (a :: T) - 1)) with
    | nil=>rfl
    | cons c r =>
     exfalso
     have hc0:((Lib.ctz 32 (tMask (a :: T)) : Nat) : Int)∈bitsUp (tMask (a :: T)):=by rw[h1];simp
     have hc1:c∈bitsUp (tMask (a :: T)):=by rw[h1,hr];simp
     obtain⟨p,hp,hpe⟩:=(hmem _).1 hc0
     have hcu:=hc1
     unfold bitsUp at hcu
     obtain⟨k,hk,hkb,rfl⟩:=ZHq.1 hcu
     obtain⟨q,hq,hqe⟩:=(hmem k).1 hc1
     have e1:=of_decide_eq_true (hall p hp)
     have e2:=of_decide_eq_true (hall q hq)
     have hck:(k:Int)∈bitsUp (tMask (a :: T) &&& (tMask (a :: T) - 1)):=by rw[hr];simp
     unfold bitsUp at hck
     obtain⟨k2,hk2,hkb2,hke⟩:=ZHq.1 hck
     obtain⟨cc,mm,hc,hx,_⟩:=ZEE _ h0 hlt
     have hb2:=ZGM cc mm k2
     rw[← hx,hkb2] at hb2
     have:k2≠cc:=by
      intro e
      subst e
      simp at hb2
     omega
   unfold clsOf
   dsimp only
   rw[if_neg hall]
   have hgl:=ZEi (a :: T)
   have hg:=hgb hne
   by_cases hz:gMask (a :: T)=0
   ·rw[hz,ZBv] at hg
    rw[← hg]
    simp[hz]
   ·rw[if_pos hz]
    rw[(Z0 _ hz hgl).1] at hg
    rw[← hg]
end Go.Proofs.YtffgnjgphkdodaaDoor
namespace Go.Proofs.YtffgnjgphkdodaaDoor
open Go Go.RowKit
def U32C (m:CM) (b o:Nat) (n:Nat) : Prop:=m b o=some (.int .u32 n)
instance:Mono U32C:=⟨fun hm h=>hm _ _ _ h⟩
def u32s (l:List Nat) : List Value:=l.map fun n:Nat=>Value.int .u32 (n:Int)
theorem ZHf (a x:Nat) (ha:a < 65536) (hx:x < 16) : bits BinOp.or IntKind.u32 (a:Int) (2 ^ x % 4294967296)=((a ||| 2 ^ x:Nat) : Int):=by
 have h1:2 ^ x < 65536:=by
  have:2 ^ x < 2 ^ 16:=Nat.pow_lt_pow_right (by omega) hx
  omega
 have e:(2 ^ x % 4294967296:Int)=((2 ^ x:Nat) : Int):=by
  have:((2:Int) ^ x)=((2 ^ x:Nat) : Int):=by simp
  rw[this]
  exact Int.emod_eq_of_lt (Int.natCast_nonneg _) (Int.lt_trans (Int.ofNat_lt.2 h1) (by decide))
 rw[e]
 have n1:(BitVec.ofInt 32 (a:Int)).toNat=a:=by rw[BitVec.ofInt_natCast,BitVec.toNat_ofNat];exact Nat.mod_eq_of_lt (by omega)
 have n2:(BitVec.ofInt 32 ((2 ^ x:Nat) : Int)).toNat=2 ^ x:=by rw[BitVec.ofInt_natCast,BitVec.toNat_ofNat];exact Nat.mod_eq_of_lt (by omega)
 have h2:a ||| 2 ^ x < 2 ^ 16:=Nat.or_lt_two_pow ha h1
 show IntKind.u32.wrap ((BitVec.ofInt 32 (a:Int) ||| BitVec.ofInt 32 ((2 ^ x:Nat) : Int)).toNat:Int)=_
 rw[BitVec.toNat_or,n1,n2]
 simp[IntKind.wrap,IntKind.signed,IntKind.bits]
 omega
theorem ZJW {α:Type} (A:List α) (a b:α) (B:List α) (k:Nat) (h:A.length=k) : (A ++ a :: B).set k b=A ++ b :: B:=by
 subst h
 rw[List.set_append_right _ _ (Nat.le_refl _),Nat.sub_self];rfl
theorem ZJi {α:Type} (A:List α) (a:α) (B:List α) (k:Nat) (h:A.length=k) : (A ++ a :: B)[k]? = some a:=by
 subst h
 rw[List.getElem?_append_right (Nat.le_refl _),Nat.sub_self];rfl
theorem ZET (w:World) (b o:Nat) (u:Value) : w.grownBy (w.setCell ⟨b,o,none⟩ u) (some b) :=
 ⟨rfl,rfl,rfl,by simp[World.setCell],fun k hk hne=>Below.heap_setCell _ _ _ _ (fun e=>hne (by rw[e]))⟩
theorem ZFw {w w1 w2:World} {r:Option Nat} (h:w.grownBy w1 r) (h2:w1.grownBy w2 r) : w.grownBy w2 r :=
 ⟨h2.os.trans h.os,h2.tape.trans h.tape,h2.output.trans h.output,Nat.le_trans h.size h2.size,fun k hk hne=>(h2.block k (Nat.lt_of_lt_of_le hk h.size) hne).trans (h.block k hk hne)⟩
theorem sl_class:SlT Tryd.prog 31 64 3 24 (.agg #[.int .u8 0,.int .i64 0,.int .i64 0]):=SlT.mk' Tryd.underlying31 (by kernel_rfl) rfl (by omega)
theorem sl_look:SlT Tryd.prog 145 164 2 48 (.agg #[.slice none 0 0,.slice none 0 0]):=SlT.mk' Tryd.underlying145 (by kernel_rfl) rfl (by omega)
theorem sl_locks:SlT Tryd.prog 162 78 1 4 (.int .u32 0):=SlT.mk' Tryd.underlying162 (by kernel_rfl) rfl (by omega)
theorem mk_run {P:Program} {t e bytes:Nat} {z:Value} (T:SlT P t e 1 bytes z) (hz1:z.cells=#[z]) (n:Nat) (hn:n < 4294967296) (hb:bytes≤1024) (w:World) :
  (Instr.makeSlice t (.int .i64 (n:Int)) (.int .i64 (n:Int))).run P w=.ok (.slice (some ⟨w.heap.size,0,none⟩) n n) (w.alloc (.cells (List.replicate n z).toArray e)):=by
 obtain⟨i,hi,hz,hsz,hby⟩:=T.info
 have hbn:((i.bytes:Nat) : Int) * (n:Int)≤281474976710656:=by
  have:i.bytes * n≤1024 * 4294967296:=Nat.mul_le_mul (by omega) (by omega)
  have:((i.bytes * n:Nat) : Int)≤281474976710656:=by omega
  rwa [Int.natCast_mul] at this
 have hr:=run_make (P:=P) w t e i z T.ht hi hz .i64 .i64 n n (by omega) (Int.le_refl _) hbn (by omega)
 have hm:madeCells z.cells ((n:Int).toNat * i.size)=(List.replicate n z).toArray:=by
  rw[hz1,hsz,Nat.mul_one,Int.toNat_natCast,← toList_madeCells_one,Array.toArray_toList]
 rw[hm,Int.toNat_natCast] at hr
 exact hr
theorem Acc.ne {α β:Type} {RV:CM→List Value→α→Prop} {RV':CM→List Value→β→Prop} {size size':Nat} {e e':TypeId} {base base':Nat} {S S':Nat→Prop} {v v':Value} {xs:List α} {ys:List β} {wr:World}
  (h:Acc RV size e base S v xs wr) (h':Acc RV' size' e' base' S' v' ys wr) (hne:e≠e') : v.ownBlock=none∨v.ownBlock≠v'.ownBlock:=by
 obtain⟨q,h1⟩:=h.own
 obtain⟨q',h2⟩:=h'.own
 rcases h1.2 with⟨rfl,_⟩ | ⟨g,cap,cur,rfl,_,hh,_⟩
 ·exact .inl rfl
 ·refine .inr ?_
  rcases h2.2 with⟨rfl,_⟩ | ⟨g',cap',cur',rfl,_,hh',_⟩
  ·simp[Value.ownBlock]
  ·intro k
   have:g=g':=by simpa [Value.ownBlock] using k
   subst this
   rw[hh] at hh'
   injection hh' with hh'
   injection hh' with _ q
   exact hne q
theorem Acc.more {α:Type} {RV:CM→List Value→α→Prop} [hM:MonoV RV] {size:Nat} {e:TypeId} {base:Nat} {S S':Nat→Prop} {v:Value} {xs:List α} {wr:World} (h:Acc RV size e base S v xs wr) (hS:∀ b,S b→S' b)
  (hs:∀ b,S' b→base≤b∧b < wr.heap.size∧some b≠v.ownBlock) : Acc RV size e base S' v xs wr:=by
 obtain⟨rows,h1,h2,h3,h4⟩:=h.ex
 exact⟨⟨rows,h1,h2,h3,fun i r x hr hx=>hM.mono (Zf (fun _ _ _=>rfl) hS) (h4 i r x hr hx)⟩,hs⟩
def declV (_:CM) (cs:List Value) (d:Decl) : Prop:=cs=[.string d.name,.int .i64 d.word,.int .i64 d.at_]
instance:MonoV declV:=⟨fun _ h=>h⟩
end Go.Proofs.YtffgnjgphkdodaaDoor
