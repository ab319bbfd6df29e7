import Derived.Test.YtffgnjgphkdodaaGreatDoorV3
import Derived.Lib.TrailingZeros
import Derived.Test.YtffgnjgphkdodaaGreatDoorV1
import Derived.Test.YtffgnjgphkdodaaGreatDoorV2
import Derived.Test.YtffgnjgphkdodaaGreatDoorV24
import Derived.StillTailTactics
namespace Go.Proofs.YtffgnjgphkdodaaGreatDoor
open Go
def up (p:Nat→Bool) : List Int:=((List.range 16).filter p).map Int.ofNat
def bitsUp (m:Nat) : List Int:=up m.testBit
def isIn (l:List Int) (k:Nat) : Bool:=decide ((k:Int)∈l)
def risingL (l:List Int) : List Int:=up (isIn l)
def Mask (m:Nat) (l:List Int) : Prop:=∀ k:Nat,m.testBit k=isIn l k
theorem ZGW {p q:Nat→Bool} (h:∀ k,k < 16→p k=q k) : up p=up q:=by
 unfold up
 congr 1
 exact List.filter_congr fun k hk=>h k (List.mem_range.1 hk)
theorem Mask.bits {m:Nat} {l:List Int} (h:Mask m l) : bitsUp m=risingL l:=ZGW fun k _=>h k
theorem ZGl {p:Nat→Bool} {x:Int} : x∈up p ↔ ∃ k:Nat,k < 16∧p k=true∧x=k:=by
 unfold up
 simp only[List.mem_map,List.mem_filter,List.mem_range]
 constructor
 ·rintro⟨k,⟨h1,h2⟩,rfl⟩;exact⟨k,h1,h2,rfl⟩
 ·rintro⟨k,h1,h2,rfl⟩;exact⟨k,⟨h1,h2⟩,rfl⟩
theorem ZE8 (p:Nat→Bool) : (up p).length≤16:=by
 unfold up
 rw[List.length_map]
 exact Nat.le_trans (List.length_filter_le _ _) (by simp)
theorem ZEL:∀ (L:List Nat) (p:Nat→Bool) (c:Nat),L.Pairwise (· < ·)→c∈L→p c=true→(∀ i,i < c→p i=false)→L.filter p=c :: L.filter (fun i=>p i && decide (i≠c))
 | [],_,_,_,h,_,_=>by cases h
 | a :: L,p,c,hs,hc,hp,hl=>by
  rw[List.pairwise_cons] at hs
  by_cases e:a=c
  ·subst e
   have h1:(a :: L).filter (fun i=>p i && decide (i≠a))=L.filter p:=by
    rw[List.filter_cons_of_neg (by simp)]
    exact List.filter_congr fun i hi=>by have:=hs.1 i hi;simp;omega
   rw[h1,List.filter_cons_of_pos hp]
  ·have hc':c∈L:=by
    rcases List.mem_cons.1 hc with h | h
    ·exact absurd h.symm e
    ·exact h
   have ha:=hl a (hs.1 c hc')
   rw[List.filter_cons_of_neg (by simp[ha]),List.filter_cons_of_neg (by simp[ha])]
   exact ZEL L p c hs.2 hc' hp hl
theorem ZGm (c m i:Nat) : ((2 ^ c * (2 * m+1)) &&& (2 ^ c * (2 * m+1) - 1)).testBit i=((2 ^ c * (2 * m+1)).testBit i && decide (i≠c)):=by
 have hp:0 < 2 ^ c:=Nat.two_pow_pos c
 have e:2 ^ c * (2 * m+1) - 1=2 ^ c * (2 * m)+(2 ^ c - 1):=by
  rw[Nat.mul_add,Nat.mul_one];omega
 have hlt:2 ^ c - 1 < 2 ^ c:=by omega
 rw[e,Nat.testBit_and,Nat.testBit_two_pow_mul_add _ hlt,Nat.testBit_two_pow_mul]
 by_cases h1:i < c
 ·have:¬ i ≥ c:=by omega
  simp[h1,this]
 ·have h2:i ≥ c:=by omega
  simp only[h1,if_false,h2,decide_true,Bool.true_and]
  by_cases h3:i=c
  ·subst h3;simp[Nat.testBit_zero]
  ·obtain⟨j,hj⟩ : ∃ j,i - c=j+1:=⟨i - c - 1,by omega⟩
   rw[hj,Nat.testBit_succ,Nat.testBit_succ]
   have d1:(2 * m+1) / 2=m:=by omega
   have d2:2 * m / 2=m:=by omega
   rw[d1,d2]
   simp[h3]
theorem ZEO (x:Nat) (h0:x≠0) (h:x < 65536) : ∃ c m,Lib.ctz 32 x=c∧x=2 ^ c * (2 * m+1)∧c < 16:=by
 have hp:0 < x:=by omega
 obtain⟨m,h1,_⟩:=Lib.ctzFrom_spec 32 x hp (by omega)
 refine⟨Lib.ctzFrom 32 x,m,by unfold Lib.ctz;rw[if_neg h0],h1,?_⟩
 refine Classical.byContradiction fun hc=>?_
 have h2:2 ^ 16≤2 ^ Lib.ctzFrom 32 x:=Nat.pow_le_pow_right (by decide) (by omega)
 have h3:2 ^ Lib.ctzFrom 32 x * 1≤2 ^ Lib.ctzFrom 32 x * (2 * m+1):=Nat.mul_le_mul_left _ (by omega)
 omega
theorem Zx (x:Nat) (h0:x≠0) (h:x < 65536) : bitsUp x=(Lib.ctz 32 x:Int) :: bitsUp (x &&& (x - 1))∧(x &&& (x - 1)) < x∧Lib.ctz 32 x < 16:=by
 obtain⟨c,m,h1,h2,h3⟩:=ZEO x h0 h
 rw[h1]
 refine⟨?_,Nat.lt_of_le_of_lt Nat.and_le_right (by omega),h3⟩
 unfold bitsUp up
 have hpw:(List.range 16).Pairwise (· < ·):=List.pairwise_lt_range
 have hb:∀ i,x.testBit i=(decide (i ≥ c) && (2 * m+1).testBit (i - c)):=fun i=>by rw[h2,Nat.testBit_two_pow_mul]
 have hlow:∀ i,i < c→x.testBit i=false:=by
  intro i hi
  rw[hb]
  have:¬ i ≥ c:=by omega
  simp[this]
 rw[ZEL (List.range 16) x.testBit c hpw (List.mem_range.2 h3) (by rw[hb];simp[Nat.testBit_zero]) hlow]
 rw[List.map_cons]
 congr 2
 refine List.filter_congr fun i _=>?_
 have:=ZGm c m i
 rw[← h2] at this
 exact this.symm
theorem ZBi:bitsUp 0=[]:=by decide
theorem ZHi {m:Nat} (h:m < 65536) (hb:bitsUp m=[]) : m=0:=by
 refine Classical.byContradiction fun h0=>?_
 rw[(Zx m h0 h).1] at hb
 cases hb
def ins (x:Int) : List Int→List Int
 | []=>[x]
 | a :: l=>if a < x then a :: ins x l else if a=x then a :: l else x :: a :: l
theorem ZEH:∀ (L:List Nat) (p:Nat→Bool) (c:Nat),L.Pairwise (· < ·)→c∈L→ins (c:Int) ((L.filter p).map Int.ofNat)=(L.filter (fun i=>p i || decide (i=c))).map Int.ofNat
 | [],_,_,_,h=>by cases h
 | a :: L,p,c,hs,hc=>by
  rw[List.pairwise_cons] at hs
  by_cases e:a=c
  ·subst e
   have h1:L.filter (fun i=>p i || decide (i=a))=L.filter p:=by
    refine List.filter_congr fun i hi=>?_
    have:=hs.1 i hi
    have h2:i≠a:=by omega
    simp[h2]
   rw[List.filter_cons_of_pos (p:=fun i=>p i || decide (i=a)) (by simp),h1]
   by_cases hp:p a=true
   ·rw[List.filter_cons_of_pos hp,List.map_cons]
    simp[ins]
   ·rw[List.filter_cons_of_neg hp,List.map_cons]
    cases hq:(L.filter p).map Int.ofNat with
    | nil=>rfl
    | cons b l =>
     have hb:b∈(L.filter p).map Int.ofNat:=by rw[hq];simp
     obtain⟨k,hk,rfl⟩:=List.mem_map.1 hb
     have:=hs.1 k (List.mem_filter.1 hk).1
     unfold ins
     rw[if_neg (by simp;omega),if_neg (by simp;omega)]
     rfl
  ·have hc':c∈L:=by
    rcases List.mem_cons.1 hc with h | h
    ·exact absurd h.symm e
    ·exact h
   have hlt:=hs.1 c hc'
   have ih:=ZEH L p c hs.2 hc'
   by_cases hp:p a=true
   ·rw[List.filter_cons_of_pos hp,List.filter_cons_of_pos (p:=fun i=>p i || decide (i=c)) (by simp[hp]),List.map_cons,List.map_cons]
    unfold ins
    rw[if_pos (by simp;omega),ih]
   ·rw[List.filter_cons_of_neg hp,List.filter_cons_of_neg (p:=fun i=>p i || decide (i=c)) (by simp[hp,e])]
    exact ih
theorem ins_up (p:Nat→Bool) {c:Nat} (hc:c < 16) : ins (c:Int) (up p)=up (fun i=>p i || decide (i=c)) :=
 ZEH (List.range 16) p c List.pairwise_lt_range (List.mem_range.2 hc)
theorem ZFJ (l:List Int) {c:Nat} (hc:c < 16) : risingL (l ++ [(c:Int)])=ins (c:Int) (risingL l):=by
 unfold risingL
 rw[ins_up _ hc]
 refine ZGW fun k _=>?_
 unfold isIn
 rw[← Bool.decide_or]
 exact decide_eq_decide.2 (by simp only[List.mem_append,List.mem_singleton];exact or_congr Iff.rfl (by omega))
theorem ZGn {x:Int} : ∀ (l:List Int) (at_:Nat),(∀ (i:Nat) y,i < at_→l[i]? = some y→y < x)→at_≤l.length →
  (l[at_]? = some x→ins x l=l)∧((∀ y,l[at_]? = some y→x < y)→ins x l=l.take at_ ++ (x :: l.drop at_))
 | [],at_,_,hle=>by
  have:at_=0:=by simpa using hle
  subst this
  exact⟨fun h=>(by cases h),fun _=>rfl⟩
 | a :: l,0,_,_=>by
  refine⟨fun h=>?_,fun h=>?_⟩
  ·simp at h;subst h;simp[ins]
  ·have:=h a (by simp)
   unfold ins
   rw[if_neg (by omega),if_neg (by omega)];rfl
 | a :: l,at_+1,h,hle=>by
  have ha:=h 0 a (by omega) (by simp)
  obtain⟨h1,h2⟩:=ZGn (x:=x) l at_ (fun i y hi hy=>h (i+1) y (by omega) (by simpa using hy)) (by simpa using hle)
  refine⟨fun hx=>?_,fun hx=>?_⟩
  ·unfold ins
   rw[if_pos ha,h1 (by simpa using hx)]
  ·unfold ins
   rw[if_pos ha,h2 (fun y hy=>hx y (by simpa using hy))];rfl
def touchB (n:Node) : Bool:=decide (n.kind=2∨n.kind=3∨n.kind=4)
structure Hit where
 t:Nat
 i:Nat
 n:Node
 l:List Int
open Classical in
noncomputable def hitsOf (t:Nat) (g:Graph) : Nat→List Node→List Hit
 | _,[]=>[]
 | i,n :: ns=>if ReachC g (-1) i then ⟨t,i,n,heldAt g i⟩ :: hitsOf t g (i+1) ns else hitsOf t g (i+1) ns
noncomputable def hits:Nat→List Graph→List Hit
 | _,[]=>[]
 | t,g :: gs=>hitsOf t g 0 g.nodes ++ hits (t+1) gs
noncomputable def hitsU (u:Unit_) : List Hit:=hits 0 u.graphs
def Hit.on (h:Hit) (x:Int) : Bool:=touchB h.n && decide (h.n.thing=x)
noncomputable def touchU (u:Unit_) (x:Int) : List Hit:=(hitsU u).filter (·.on x)
theorem ZAQ {t:Nat} {g:Graph} {i:Nat} {n:Node} {ns:List Node} (h:ReachC g (-1) i) : hitsOf t g i (n :: ns)=⟨t,i,n,heldAt g i⟩ :: hitsOf t g (i+1) ns:=by
 simp[hitsOf,h]
theorem ZFU {t:Nat} {g:Graph} {i:Nat} {n:Node} {ns:List Node} (h:¬ ReachC g (-1) i) : hitsOf t g i (n :: ns)=hitsOf t g (i+1) ns:=by
 simp[hitsOf,h]
theorem ZBt (t:Nat) (g:Graph) : ∀ (ns:List Node) (i:Nat),(hitsOf t g i ns).length≤ns.length
 | [],_=>by simp[hitsOf]
 | n :: ns,i=>by
  have:=ZBt t g ns (i+1)
  unfold hitsOf
  split <;> simp <;> omega
theorem ZDP:∀ (gs:List Graph) (t:Nat),(∀ g∈gs,g.nodes.length≤4096)→(hits t gs).length≤gs.length * 4096
 | [],_,_=>by simp[hits]
 | g :: gs,t,h=>by
  have h1:=ZBt t g g.nodes 0
  have h2:=ZDP gs (t+1) (fun x hx=>h x (by simp[hx]))
  have h3:=h g (by simp)
  simp only[hits,List.length_append,List.length_cons]
  omega
theorem ZFT {u:Unit_} (h:RightU u) : (hitsU u).length≤32768:=by
 have h1:=ZDP u.graphs 0 (fun g hg=>(h.graphs g hg).whole.most)
 have h2:=h.threads
 unfold hitsU
 omega
theorem ZAs {u:Unit_} (h:RightU u) (x:Int) : (touchU u x).length≤32768:=Nat.le_trans (List.length_filter_le _ _) (ZFT h)
theorem ZCB {t:Nat} {g:Graph} : ∀ (ns:List Node) (i:Nat) (h:Hit),h∈hitsOf t g i ns→∃ j,h.t=t∧h.i=i+j∧ns[j]? = some h.n∧h.l=heldAt g h.i∧ReachC g (-1) h.i
 | [],i,h,hm=>by cases hm
 | n :: ns,i,h,hm=>by
  unfold hitsOf at hm
  split at hm
  ·rename_i hr
   rcases List.mem_cons.1 hm with e | e
   ·subst e;exact⟨0,rfl,rfl,rfl,rfl,hr⟩
   ·obtain⟨j,h1,h2,h3,h4,h5⟩:=ZCB ns (i+1) h e
    exact⟨j+1,h1,by omega,by simpa using h3,h4,h5⟩
  ·obtain⟨j,h1,h2,h3,h4,h5⟩:=ZCB ns (i+1) h hm
   exact⟨j+1,h1,by omega,by simpa using h3,h4,h5⟩
theorem ZGo:∀ (gs:List Graph) (t:Nat) (h:Hit),h∈hits t gs→∃ j g,h.t=t+j∧gs[j]? = some g∧g.nodes[h.i]? = some h.n∧h.l=heldAt g h.i∧ReachC g (-1) h.i
 | [],t,h,hm=>by cases hm
 | g :: gs,t,h,hm=>by
  unfold hits at hm
  rcases List.mem_append.1 hm with e | e
  ·obtain⟨j,h1,h2,h3,h4,h5⟩:=ZCB _ _ h e
   exact⟨0,g,h1,rfl,by rw[h2,Nat.zero_add];exact h3,h4,h5⟩
  ·obtain⟨j,g',h1,h2,h3⟩:=ZGo gs (t+1) h e
   exact⟨j+1,g',by omega,by simpa using h2,h3⟩
theorem ZHT {u:Unit_} {g:Graph} (h:RightG u g) (i:Nat) {k:Int} (hk:k∈heldAt g i) : 0≤k∧k < u.locks.length:=by
 unfold heldAt at hk
 cases hl:(heldL g)[i]? with
 | none=>rw[hl] at hk;cases hk
 | some l=>rw[hl] at hk;exact ZDQ h (List.mem_of_getElem? hl) hk
theorem ZCm {u:Unit_} (hu:RightU u) {h:Hit} (hm:h∈hitsU u) : (∀ k∈h.l,0≤k∧k < u.locks.length)∧h.t < u.graphs.length:=by
 obtain⟨j,g,h1,h2,h3,h4,h5⟩:=ZGo _ _ h hm
 have hg:=hu.graphs g (List.mem_of_getElem? h2)
 refine⟨fun k hk=>?_,?_⟩
 ·rw[h4] at hk;exact ZHT hg _ hk
 ·have:=(List.getElem?_eq_some_iff.1 h2).1;omega
noncomputable def guardsF (u:Unit_) (x:Int) : List Int :=
 if touchU u x=[] then [] else ((List.range u.locks.length).filter (fun k=>(touchU u x).all fun h=>isIn h.l k)).map Int.ofNat
structure Cls where
 kind:Int
 thread:Int
 lock:Int
deriving DecidableEq
def clsOf (T:List Hit) (G:List Int) : Cls:=match T with
 | []=>⟨0,0,0⟩
 | h :: _=>if T.all (fun k=>decide (k.t=h.t)) then ⟨1,h.t,0⟩ else match G with
  | []=>⟨3,0,0⟩
  | g :: _=>⟨2,0,g⟩
noncomputable def classF (u:Unit_) (x:Int) : Cls:=clsOf (touchU u x) (guardsF u x)
def Cls.cells (c:Cls) : List Value:=[.int .u8 c.kind,.int .i64 c.thread,.int .i64 c.lock]
def hitV (_:CM) (cs:List Value) (h:Hit) : Prop:=cs=[.int .i64 h.t,.int .i64 h.i]
instance:MonoV hitV:=⟨fun _ h=>h⟩
def clsV (_:CM) (cs:List Value) (c:Cls) : Prop:=cs=c.cells
instance:MonoV clsV:=⟨fun _ h=>h⟩
abbrev Hits:=Sl (Cells hitV) 2
abbrev Clss:=Sl (Cells clsV) 3
def hMask (l:List Int) : Nat:=l.foldl (fun m k=>m ||| 2 ^ k.toNat) 0
def tMask (T:List Hit) : Nat:=T.foldl (fun m h=>m ||| 2 ^ h.t) 0
def gMask (T:List Hit) : Nat:=T.foldl (fun m h=>m &&& hMask h.l) 65535
theorem ZHV (l:List Int) (k:Int) : hMask (l ++ [k])=hMask l ||| 2 ^ k.toNat:=by simp[hMask]
theorem ZG7 (T:List Hit) (h:Hit) : tMask (T ++ [h])=tMask T ||| 2 ^ h.t:=by simp[tMask]
theorem ZHX (T:List Hit) (h:Hit) : gMask (T ++ [h])=gMask T &&& hMask h.l:=by simp[gMask]
theorem ZEv {α:Type} (f:α→Nat) : ∀ (l:List α) (m k:Nat),(l.foldl (fun m x=>m ||| 2 ^ f x) m).testBit k=(m.testBit k || l.any fun x=>decide (f x=k))
 | [],m,k=>by simp
 | x :: l,m,k=>by
  rw[List.foldl_cons,ZEv f l,Nat.testBit_or,Nat.testBit_two_pow,List.any_cons,Bool.or_assoc]
theorem ZBh {α:Type} (f:α→Nat) (n:Nat) : ∀ (l:List α) (m:Nat),m < 2 ^ n→(∀ x∈l,f x < n)→l.foldl (fun m x=>m ||| 2 ^ f x) m < 2 ^ n
 | [],m,h,_=>h
 | x :: l,m,h,hl=>by
  rw[List.foldl_cons]
  exact ZBh f n l _ (Nat.or_lt_two_pow h (Nat.pow_lt_pow_right (by omega) (hl x (by simp)))) (fun y hy=>hl y (by simp[hy]))
theorem ZIR (l:List Int) (h:∀ k∈l,0≤k) (k:Nat) : (hMask l).testBit k=isIn l k:=by
 unfold hMask isIn
 rw[ZEv (fun k:Int=>k.toNat)]
 simp only[Nat.zero_testBit,Bool.false_or]
 rw[Bool.eq_iff_iff,List.any_eq_true,decide_eq_true_eq]
 constructor
 ·rintro⟨x,hx,hk⟩
  rw[decide_eq_true_eq] at hk
  have:=h x hx
  have e:x=(k:Int):=by omega
  rw[← e];exact hx
 ·intro hk
  exact⟨_,hk,by simp⟩
theorem ZGq (l:List Int) (h:∀ k∈l,0≤k∧k < 16) : hMask l < 65536 :=
 ZBh (fun k:Int=>k.toNat) 16 l 0 (by decide) (fun x hx=>by have:=h x hx;omega)
theorem ZC4 (T:List Hit) (k:Nat) : (tMask T).testBit k=T.any fun h=>decide (h.t=k):=by
 unfold tMask
 rw[ZEv (fun h:Hit=>h.t)]
 simp
theorem ZEa (T:List Hit) (h:∀ x∈T,x.t < 16) : tMask T < 65536:=ZBh (fun h:Hit=>h.t) 16 T 0 (by decide) h
theorem ZIW (T:List Hit) (h:∀ x∈T,∀ k∈x.l,0≤k) (k:Nat) : (gMask T).testBit k=(decide (k < 16) && T.all fun x=>isIn x.l k):=by
 unfold gMask
 have gen:∀ (T:List Hit) (m:Nat),(∀ x∈T,∀ k∈x.l,0≤k)→(T.foldl (fun m h=>m &&& hMask h.l) m).testBit k=(m.testBit k && T.all fun x=>isIn x.l k):=by
  intro T
  induction T with
  | nil=>intro m _;simp
  | cons x T ih =>
   intro m hm
   rw[List.foldl_cons,ih _ (fun y hy=>hm y (by simp[hy])),Nat.testBit_and,ZIR _ (hm x (by simp)),List.all_cons,Bool.and_assoc]
 rw[gen T 65535 h]
 congr 1
 have:(65535:Nat)=2 ^ 16 - 1:=by decide
 rw[this,Nat.testBit_two_pow_sub_one]
theorem ZEu (T:List Hit) : gMask T < 65536:=by
 have gen:∀ (T:List Hit) (m:Nat),m < 65536→T.foldl (fun m h=>m &&& hMask h.l) m < 65536:=by
  intro T
  induction T with
  | nil=>intro m h;exact h
  | cons x T ih=>intro m h;exact ih _ (Nat.lt_of_le_of_lt Nat.and_le_left h)
 exact gen T 65535 (by decide)
theorem ZCF (p:Nat→Bool) (n m:Nat) (h:∀ k,n≤k→p k=false) (hn:n≤m) : (List.range m).filter p=(List.range n).filter p:=by
 obtain⟨d,rfl⟩ : ∃ d,m=n+d:=⟨m - n,by omega⟩
 rw[List.range_add,List.filter_append]
 have:(List.map (fun x=>n+x) (List.range d)).filter p=[]:=by
  rw[List.filter_eq_nil_iff]
  intro x hx
  obtain⟨y,_,rfl⟩:=List.mem_map.1 hx
  simp[h (n+y) (by omega)]
 rw[this,List.append_nil]
theorem ZGH {u:Unit_} (hu:RightU u) (x:Int) (hne:touchU u x≠[]) : bitsUp (gMask (touchU u x))=guardsF u x:=by
 have hm:∀ h∈touchU u x,∀ k∈h.l,0≤k∧k < u.locks.length:=fun h hh=>(ZCm hu (List.mem_filter.1 hh).1).1
 unfold guardsF
 rw[if_neg hne]
 unfold bitsUp up
 congr 1
 rw[← ZCF (fun k=>(touchU u x).all fun h=>isIn h.l k) u.locks.length 16 ?_ hu.locks]
 ·refine List.filter_congr fun k hk=>?_
  rw[ZIW _ (fun h hh k hk=>(hm h hh k hk).1)]
  simp[List.mem_range.1 hk]
 ·intro k hk
  rw[Bool.eq_false_iff]
  intro h
  rw[List.all_eq_true] at h
  cases hT:touchU u x with
  | nil=>exact hne hT
  | cons a T =>
   have ha:a∈touchU u x:=by rw[hT];simp
   have:=h a ha
   unfold isIn at this
   rw[decide_eq_true_eq] at this
   have:=hm a ha _ this
   omega
theorem ZIF (m:Nat) (h0:m≠0) (hm:m < 65536) : (m &&& (m - 1)=0) ↔ bitsUp m=[(Lib.ctz 32 m:Int)]:=by
 obtain⟨h1,h2,h3⟩:=Zx m h0 hm
 rw[h1]
 constructor
 ·intro h;rw[h,ZBi]
 ·intro h
  injection h with _ h
  exact ZHi (by omega) h
def useV (T:List Hit) : List Value:=[.int .u32 (tMask T),.int .u32 (gMask T)]
def useF (pre:List Hit) (x:Int) : Option Value:=if pre.filter (·.on x)=[] then none else some (.agg (useV (pre.filter (·.on x))).toArray)
def useA (T:List Hit) : Nat:=if T=[] then 0 else tMask T
def useB (T:List Hit) : Nat:=if T=[] then 0 else gMask T
theorem ZJv (pre:List Hit) (x:Int) : (useF pre x).getD (.agg #[.int .u32 0,.int .u32 0])=.agg #[.int .u32 (useA (pre.filter (·.on x))),.int .u32 (useB (pre.filter (·.on x)))]:=by
 unfold useF useA useB useV
 split <;> rfl
theorem ZI3 {T:List Hit} (h:T≠[]) : tMask T≠0:=by
 intro h0
 cases T with
 | nil=>exact h rfl
 | cons a T =>
  have:=ZC4 (a :: T) a.t
  rw[h0] at this
  simp at this
def clsM (a b:Nat) : Cls:=if a=0 then ⟨0,0,0⟩ else if a &&& (a - 1)=0 then ⟨1,Lib.ctz 32 a,0⟩ else if b≠0 then ⟨2,0,Lib.ctz 32 b⟩ else ⟨3,0,0⟩
theorem ZJe {u:Unit_} (hu:RightU u) (x:Int) : clsM (useA (touchU u x)) (useB (touchU u x))=classF u x:=by
 have hth:∀ h∈touchU u x,h.t < 8:=fun h hh=>by have:=(ZCm hu (List.mem_filter.1 hh).1).2;have:=hu.threads;omega
 have hgb:=fun hne=>ZGH hu x hne
 unfold classF clsM useA useB
 generalize hG:guardsF u x=G at *
 generalize hT:touchU u x=T at *
 cases T with
 | nil=>simp[clsOf]
 | cons a T =>
  have hne:(a :: T)≠[]:=by simp
  have hlt:=ZEa (a :: T) (fun h hh=>by have:=hth h hh;omega)
  have h0:=ZI3 hne
  rw[if_neg hne,if_neg hne,if_neg h0]
  have hmem:∀ k:Nat,(k:Int)∈bitsUp (tMask (a :: T)) ↔ ∃ h∈a :: T,h.t=k:=by
   intro k
   unfold bitsUp
   rw[ZGl]
   constructor
   ·rintro⟨j,hj,hb,e⟩
    have:j=k:=by omega
    subst this
    rw[ZC4,List.any_eq_true] at hb
    obtain⟨h,hh,ht⟩:=hb
    exact⟨h,hh,of_decide_eq_true ht⟩
   ·rintro⟨h,hh,rfl⟩
    refine⟨h.t,by have:=hth h hh;omega,?_,rfl⟩
    rw[ZC4,List.any_eq_true]
    exact⟨h,hh,by simp⟩
  obtain⟨h1,h2,h3⟩:=Zx _ h0 hlt
  by_cases hone:tMask (a :: T) &&& (tMask (a :: T) - 1)=0
  ·rw[if_pos hone]
   have hb:=(ZIF _ h0 hlt).1 hone
   have hall:∀ h∈a :: T,h.t=Lib.ctz 32 (tMask (a :: T)):=by
    intro h hh
    have:=(hmem h.t).2 ⟨h,hh,rfl⟩
    rw[hb,List.mem_singleton] at this
    omega
   unfold clsOf
   dsimp only
   rw[if_pos]
   ·rw[hall a (by simp)]
   ·rw[List.all_eq_true]
    intro k hk
    rw[hall k hk,hall a (by simp)]
    simp
  ·rw[if_neg hone]
   have hall:¬ (a :: T).all (fun k=>decide (k.t=a.t))=true:=by
    intro hall
    rw[List.all_eq_true] at hall
    apply hone
    rw[ZIF _ h0 hlt]
    rw[h1]
    congr 1
    cases hr:bitsUp (tMask (a :: T) &&& (tMask (a :: T) - 1)) with
    | nil=>rfl
    | cons c r =>
     exfalso
     have hc0:((Lib.ctz 32 (tMask (a :: T)) : Nat) : Int)∈bitsUp (tMask (a :: T)):=by rw[h1];simp
     have hc1:c∈bitsUp (tMask (a :: T)):=by rw[h1,hr];simp
     obtain⟨p,hp,hpe⟩:=(hmem _).1 hc0
     have hcu:=hc1
     unfold bitsUp at hcu
     obtain⟨k,hk,hkb,rfl⟩:=ZGl.1 hcu
     obtain⟨q,hq,hqe⟩:=(hmem k).1 hc1
     have e1:=of_decide_eq_true (hall p hp)
     have e2:=of_decide_eq_true (hall q hq)
     have hck:(k:Int)∈bitsUp (tMask (a :: T) &&& (tMask (a :: T) - 1)):=by rw[hr];simp
     unfold bitsUp at hck
     obtain⟨k2,hk2,hkb2,hke⟩:=ZGl.1 hck
     obtain⟨cc,mm,hc,hx,_⟩:=ZEO _ h0 hlt
     have hb2:=ZGm cc mm k2
     rw[← hx,hkb2] at hb2
     have:k2≠cc:=by
      intro e
      subst e
      simp at hb2
     omega
   unfold clsOf
   dsimp only
   rw[if_neg hall]
   have hgl:=ZEu (a :: T)
   have hg:=hgb hne
   by_cases hz:gMask (a :: T)=0
   ·rw[hz,ZBi] at hg
    rw[← hg]
    simp[hz]
   ·rw[if_pos hz]
    rw[(Zx _ hz hgl).1] at hg
    rw[← hg]
end Go.Proofs.YtffgnjgphkdodaaGreatDoor
namespace Go.Proofs.YtffgnjgphkdodaaGreatDoor
open Go Go.RowKit
def U32C (m:CM) (b o:Nat) (n:Nat) : Prop:=m b o=some (.int .u32 n)
instance:Mono U32C:=⟨fun hm h=>hm _ _ _ h⟩
def u32s (l:List Nat) : List Value:=l.map fun n:Nat=>Value.int .u32 (n:Int)
theorem ZIB (a x:Nat) (ha:a < 65536) (hx:x < 16) : bits BinOp.or IntKind.u32 (a:Int) (2 ^ x % 4294967296)=((a ||| 2 ^ x:Nat) : Int):=by
 have h1:2 ^ x < 65536:=by
  have:2 ^ x < 2 ^ 16:=Nat.pow_lt_pow_right (by omega) hx
  omega
 have e:(2 ^ x % 4294967296:Int)=((2 ^ x:Nat) : Int):=by
  have:((2:Int) ^ x)=((2 ^ x:Nat) : Int):=by simp
  rw[this]
  exact Int.emod_eq_of_lt (Int.natCast_nonneg _) (Int.lt_trans (Int.ofNat_lt.2 h1) (by decide))
 rw[e]
 have n1:(BitVec.ofInt 32 (a:Int)).toNat=a:=by rw[BitVec.ofInt_natCast,BitVec.toNat_ofNat];exact Nat.mod_eq_of_lt (by omega)
 have n2:(BitVec.ofInt 32 ((2 ^ x:Nat) : Int)).toNat=2 ^ x:=by rw[BitVec.ofInt_natCast,BitVec.toNat_ofNat];exact Nat.mod_eq_of_lt (by omega)
 have h2:a ||| 2 ^ x < 2 ^ 16:=Nat.or_lt_two_pow ha h1
 show IntKind.u32.wrap ((BitVec.ofInt 32 (a:Int) ||| BitVec.ofInt 32 ((2 ^ x:Nat) : Int)).toNat:Int)=_
 rw[BitVec.toNat_or,n1,n2]
 simp[IntKind.wrap,IntKind.signed,IntKind.bits]
 omega
theorem ZJ3 {α:Type} (A:List α) (a b:α) (B:List α) (k:Nat) (h:A.length=k) : (A ++ a :: B).set k b=A ++ b :: B:=by
 subst h
 rw[List.set_append_right _ _ (Nat.le_refl _),Nat.sub_self];rfl
theorem ZKF {α:Type} (A:List α) (a:α) (B:List α) (k:Nat) (h:A.length=k) : (A ++ a :: B)[k]? = some a:=by
 subst h
 rw[List.getElem?_append_right (Nat.le_refl _),Nat.sub_self];rfl
theorem ZEd (w:World) (b o:Nat) (u:Value) : w.grownBy (w.setCell ⟨b,o,none⟩ u) (some b) :=
 ⟨rfl,rfl,rfl,by simp[World.setCell],fun k hk hne=>Below.heap_setCell _ _ _ _ (fun e=>hne (by rw[e]))⟩
theorem ZGI {w w1 w2:World} {r:Option Nat} (h:w.grownBy w1 r) (h2:w1.grownBy w2 r) : w.grownBy w2 r :=
 ⟨h2.os.trans h.os,h2.tape.trans h.tape,h2.output.trans h.output,Nat.le_trans h.size h2.size,fun k hk hne=>(h2.block k (Nat.lt_of_lt_of_le hk h.size) hne).trans (h.block k hk hne)⟩
theorem sl_acc:SlT Tryz.prog 196 200 2 16 (.agg #[.int .i64 0,.int .i64 0]):=SlT.mk' Tryz.underlying196 (by kernel_rfl) rfl (by omega)
theorem ZJ2:SlT Tryz.prog 22 118 3 32 (.agg #[.string ⟨#[]⟩,.int .i64 0,.int .i64 0]):=SlT.mk' Tryz.underlying22 (by kernel_rfl) rfl (by omega)
theorem sl_str:SlT Tryz.prog 166 9 1 16 (.string ⟨#[]⟩):=SlT.mk' Tryz.underlying166 (by kernel_rfl) rfl (by omega)
theorem sl_class:SlT Tryz.prog 55 123 3 24 (.agg #[.int .u8 0,.int .i64 0,.int .i64 0]):=SlT.mk' Tryz.underlying55 (by kernel_rfl) rfl (by omega)
theorem sl_look:SlT Tryz.prog 219 244 2 48 (.agg #[.slice none 0 0,.slice none 0 0]):=SlT.mk' Tryz.underlying219 (by kernel_rfl) rfl (by omega)
theorem sl_locks:SlT Tryz.prog 242 127 1 4 (.int .u32 0):=SlT.mk' Tryz.underlying242 (by kernel_rfl) rfl (by omega)
theorem ZA3 {P:Program} {ops:Array Oper} {rest:List Oper} {o:Oper} {a:Act} {w:World} {Q:Exit→Act→World→Prop} (hgd:Region.wanted o (yielded ops a.tmps)=true) (ty:TypeId) (x:Operand) (ho:o.op=.load ty x)
  (b f:Nat) (hx:a.eval x=.pointer (some ⟨b,f,none⟩)) (cs:List Value) (d:TypeDesc) (hc:∀ j v,cs[j]? = some v→w.cell? ⟨b,f+j,none⟩=some v)
  (hu:P.underlying ty=some d) (hd:isRowType d=true) (hi:(P.info? ty).map (·.size)=some cs.length)
  (h:wpList P ops Q rest (a.put o.dst (.agg cs.toArray)) w) : wpList P ops Q (o :: rest) a w:=by
 refine wpList_step fun K' hK'=>?_
 rw[if_pos hgd]
 exact ZB1 ty x ho b f hx cs d hc hu hd hi (hK' _ _ h)
theorem mk_run {P:Program} {t e bytes:Nat} {z:Value} (T:SlT P t e 1 bytes z) (hz1:z.cells=#[z]) (n:Nat) (hn:n < 4294967296) (hb:bytes≤1024) (w:World) :
  (Instr.makeSlice t (.int .i64 (n:Int)) (.int .i64 (n:Int))).run P w=.ok (.slice (some ⟨w.heap.size,0,none⟩) n n) (w.alloc (.cells (List.replicate n z).toArray e)):=by
 obtain⟨i,hi,hz,hsz,hby⟩:=T.info
 have hbn:((i.bytes:Nat) : Int) * (n:Int)≤281474976710656:=by
  have:i.bytes * n≤1024 * 4294967296:=Nat.mul_le_mul (by omega) (by omega)
  have:((i.bytes * n:Nat) : Int)≤281474976710656:=by omega
  rwa [Int.natCast_mul] at this
 have hr:=run_make (P:=P) w t e i z T.ht hi hz .i64 .i64 n n (by omega) (Int.le_refl _) hbn (by omega)
 have hm:madeCells z.cells ((n:Int).toNat * i.size)=(List.replicate n z).toArray:=by
  rw[hz1,hsz,Nat.mul_one,Int.toNat_natCast,← toList_madeCells_one,Array.toArray_toList]
 rw[hm,Int.toNat_natCast] at hr
 exact hr
theorem Acc.ne {α β:Type} {RV:CM→List Value→α→Prop} {RV':CM→List Value→β→Prop} {size size':Nat} {e e':TypeId} {base base':Nat} {S S':Nat→Prop} {v v':Value} {xs:List α} {ys:List β} {wr:World}
  (h:Acc RV size e base S v xs wr) (h':Acc RV' size' e' base' S' v' ys wr) (hne:e≠e') : v.ownBlock=none∨v.ownBlock≠v'.ownBlock:=by
 obtain⟨q,h1⟩:=h.own
 obtain⟨q',h2⟩:=h'.own
 rcases h1.2 with⟨rfl,_⟩ | ⟨g,cap,cur,rfl,_,hh,_⟩
 ·exact .inl rfl
 ·refine .inr ?_
  rcases h2.2 with⟨rfl,_⟩ | ⟨g',cap',cur',rfl,_,hh',_⟩
  ·simp[Value.ownBlock]
  ·intro k
   have:g=g':=by simpa [Value.ownBlock] using k
   subst this
   rw[hh] at hh'
   injection hh' with hh'
   injection hh' with _ q
   exact hne q
theorem Acc.more {α:Type} {RV:CM→List Value→α→Prop} [hM:MonoV RV] {size:Nat} {e:TypeId} {base:Nat} {S S':Nat→Prop} {v:Value} {xs:List α} {wr:World} (h:Acc RV size e base S v xs wr) (hS:∀ b,S b→S' b)
  (hs:∀ b,S' b→base≤b∧b < wr.heap.size∧some b≠v.ownBlock) : Acc RV size e base S' v xs wr:=by
 obtain⟨rows,h1,h2,h3,h4⟩:=h.ex
 exact⟨⟨rows,h1,h2,h3,fun i r x hr hx=>hM.mono (ZZ (fun _ _ _=>rfl) hS) (h4 i r x hr hx)⟩,hs⟩
def strs (l:List ByteArray) : List Value:=l.map Value.string
theorem ZIA {w:World} {base n:Nat} {e:TypeId} {A:Option Addr} {c:Nat} {α:Type} {f:α→Value} {l:List α} (h:w.ownsRow base e 1 (.slice A n c) n (l.map f)) {i:Nat} {x:α} (hx:l[i]? = some x) :
  ∃ g,A=some ⟨g,0,none⟩∧w.cell? ⟨g,i,none⟩=some (f x):=by
 have hl:n=l.length:=by have:=h.1;simpa using this.symm
 have hi:=(List.getElem?_eq_some_iff.1 hx).1
 obtain⟨g,cap,he,_,_,_,hc⟩:=ZW h (by omega)
 injection he with e1
 refine⟨g,e1,?_⟩
 rw[hc i (by omega),List.getElem?_map,hx];rfl
theorem eq_str {s t:ByteArray} : (s.toList == t.toList)=decide (keyOf s=keyOf t):=by
 rw[ByteArray.toList_eq,ByteArray.toList_eq]
 by_cases h:s.data=t.data <;> simp[keyOf,h]
theorem ZJR {l:List ByteArray} {k:Nat} {a s:ByteArray} (ha:l[k]? = some a) : inB (l.take (k+1)) s=(inB (l.take k) s || decide (keyOf s=keyOf a)):=by
 have hk:=List.getElem?_eq_some_iff.1 ha
 obtain⟨hlt,hx⟩:=hk
 unfold inB
 rw[List.take_succ_eq_append_getElem hlt,hx,← Bool.decide_or]
 exact decide_eq_decide.2 (by simp)
set_option maxRecDepth 100000 in
set_option maxHeartbeats 2000000 in
theorem ZFQ (ds:List Decl) (dv:Value) (l:List ByteArray) (v:Value) (words:Bool) (base:Nat) (w:World) (hd:Decls (part w 0 base) dv ds) (ho:w.ownsRow base 9 1 v l.length (strs l)) (hbase:base≤w.heap.size) (hl:l.length+ds.length≤1000) :
  Calls Tryz.prog 99 #[dv,v,.bool words] w fun e w'=>(nmOk l (nmDecls ds words)=true∧∃ v',e=.returned (.tuple #[v',.bool true])∧w'.ownsRow base 9 1 v' (l ++ ds.map (·.name)).length (strs (l ++ ds.map (·.name)))∧Below base w w') ∨
   (nmOk l (nmDecls ds words)=false∧e=.returned (.tuple #[.slice none 0 0,.bool false])∧Below base w w'):=by
 have hd':=hd
 obtain⟨dA,dc,rfl,-,-,-⟩:=hd'
 have bd:=hd.len.2.2
 obtain⟨r,hr⟩ : ∃ r,nmOk l (nmDecls ds words)=r:=⟨_,rfl⟩
 rw[hr]
 have HR:=Hd_ hr;clear hr
 go_enter Tryz.func99,Tryz.ntmps99
 go_wp2
 go_loopw [1,8] (fun v1 v8 wr=>∃ (k:Nat),v8=.int .i64 k∧k≤ds.length∧wr.ownsRow base 9 1 v1 (l ++ (ds.take k).map (·.name)).length (strs (l ++ (ds.take k).map (·.name)))∧Below base w wr∧base≤wr.heap.size∧nmOk (l ++ (ds.take k).map (·.name)) (nmDecls (ds.drop k) words)=r) (fun _ v8 _=>ds.length - (intOf v8).toNat)
 case atStart=>exact⟨0,rfl,by omega,by simpa using ho,Below.refl _ _,hbase,by simpa using HR.out⟩
 case round =>
  obtain⟨k,rfl,hk,hown,hbel,hbs,hrk⟩:=hrel
  by_cases hlt:k < ds.length
  ·obtain⟨d,hdk⟩ : ∃ d,ds[k]? = some d:=⟨_,List.getElem?_eq_getElem hlt⟩
   obtain⟨b,o,rfl,hdc⟩:=hd.at_ hdk
   have hple:(part w 0 base).le (cmap wr):=(ZV (fun b _ hb=>hbel.block b hb)).trans (ZU wr 0 base)
   obtain⟨q1,q2,q3⟩:=hdc
   have c1:wr.cell? ⟨b,o+k * 3,none⟩=some (.string d.name):=hple _ _ _ q1
   have c2:wr.cell? ⟨b,o+k * 3+1,none⟩=some (.int .i64 d.word):=hple _ _ _ q2
   clear q1 q2 q3 hple
   rw[ZAz hdk] at hrk
   have htk:ds.take (k+1)=ds.take k ++ [d]:=by rw[List.take_succ_eq_append_getElem hlt,(List.getElem?_eq_some_iff.1 hdk).2]
   have HTK:=Hd_ htk;clear htk
   have HDK:=Hd_ hdk;clear hdk
   have hL1:(l ++ (ds.take k).map (·.name)).length≤1000:=by simp;omega
   obtain⟨L,hL⟩ : ∃ L,l ++ (ds.take k).map (·.name)=L:=⟨_,rfl⟩
   rw[hL] at hown hrk hL1
   have HL:=Hd_ hL;clear hL
   simp only[nmDecls,List.map_cons,nmOk] at hrk
   have HRK:=Hd_ hrk;clear hrk
   have hk0:(0:Int)≤k:=by omega
   have hkl:(k:Int) < ds.length:=by omega
   obtain⟨A1,c1v,rfl,hc1v⟩:=ZF hown
   obtain⟨ok,hok⟩ : ∃ ok,(nameB d.name && (words || d.word == 0))=ok:=⟨_,rfl⟩
   have HOK:=Hd_ hok;clear hok
   go_upto_region 4 with fail
   go_cut [9] (fun v9 wc=>v9=.bool ok∧wc=wr)
   case first =>
    have hok:=HOK.out
    cases hn:nameB d.name <;> cases words <;> cases hz:(d.word == 0)
    all_goals (
     rw[hn,hz] at hok
     simp only[Bool.true_and,Bool.false_and,Bool.true_or,Bool.false_or] at hok
     subst hok
     go_wp2_with (go_at_call 149;refine(ZF9 d.name _).mono ?_;rintro e w1 ⟨rfl,rfl⟩;rw[hn];clear hn)
     go_meet
     case rel=>exact⟨rfl,rfl⟩)
   case rest =>
    obtain⟨rfl,rfl⟩:=hcut
    go_wp2_with fail
    obtain⟨wo,rfl⟩ : ∃ wo:World,wo=wc:=⟨_,rfl⟩
    go_loopw [9,10] (fun v9 v10 wi=>∃ (j n:Nat),v10=.int .i64 j∧j≤L.length∧wi=wo.drewN n∧v9=.bool (ok && !(inB (L.take j) d.name))) (fun _ v10 _=>L.length - (intOf v10).toNat)
    case atStart=>exact⟨0,0,rfl,by omega,rfl,by simp[inB]⟩
    case round =>
     obtain⟨j,n,rfl,hj,rfl,rfl⟩:=hrel
     by_cases hjl:j < L.length
     ·obtain⟨a,ha⟩ : ∃ a,L[j]? = some a:=⟨_,List.getElem?_eq_getElem hjl⟩
      obtain⟨g1,rfl,g2⟩:=ZIA hown ha
      have hit:=ZJR (s:=d.name) ha
      have hne:=eq_str (s:=a) (t:=d.name)
      have HIT:=Hd_ hit;clear hit ha
      have HNE:=Hd_ hne;clear hne
      have hj0:(0:Int)≤j:=by omega
      have hjl2:(j:Int) < L.length:=by omega
      cases hq:(ok && !(inB (L.take j) d.name))
      ·go_wp2
       go_quiet (fail)
       go_wp2
       go_roundw
       case rel=>exact⟨j+1,_,by go_num,by omega,rfl,congrArg Value.bool (by rw[HIT.out];revert hq;cases ok <;> cases inB (L.take j) d.name <;> simp)⟩
       case measure=>simp[intOf];omega
      ·cases he:decide (keyOf d.name=keyOf a)
       ·have hn2:(a.toList == d.name.toList)=false:=by
         rw[HNE.out]
         have:decide (keyOf a=keyOf d.name)=false:=by
          rw[decide_eq_false_iff_not] at he ⊢
          exact fun e=>he e.symm
         rw[this]
        go_wp2
        go_quiet (fail)
        go_wp2
        go_roundw
        case rel=>exact⟨j+1,_,by go_num,by omega,rfl,congrArg Value.bool (by rw[HIT.out,he,Bool.or_false,hq])⟩
        case measure=>simp[intOf];omega
       ·have hn2:(a.toList == d.name.toList)=true:=by
         rw[HNE.out]
         have:decide (keyOf a=keyOf d.name)=true:=by
          rw[decide_eq_true_eq] at he ⊢
          exact he.symm
         rw[this]
        go_wp2
        go_quiet (fail)
        go_wp2
        go_roundw
        case rel=>exact⟨j+1,_,by go_num,by omega,rfl,congrArg Value.bool (by rw[HIT.out,he];simp)⟩
        case measure=>simp[intOf];omega
     ·have hjj:L.take j=L:=List.take_of_length_le (by omega)
      rw[hjj]
      clear hjj
      cases hq:(ok && !(inB L d.name))
      ·have hrf:r=false:=by
        rw[← HRK.out,← HOK.out] at *
        revert hq
        cases nameB d.name <;> cases inB L d.name <;> cases (words || d.word == 0) <;> simp
       have HRF:=Hd_ hrf;clear hrf
       go_wp2
       go_ret2
       exact .inr ⟨HRF.out,rfl,⟨hbel.os,hbel.tape,hbel.output,hbel.size,hbel.block⟩⟩
      ·have hrt:nmOk (L ++ [d.name]) (nmDecls (ds.drop (k+1)) words)=r:=by
        rw[← HRK.out]
        have h2:=HOK.out
        revert hq
        rw[← h2]
        unfold nmDecls
        cases nameB d.name <;> cases inB L d.name <;> cases (words || d.word == 0) <;> simp
       have HRT:=Hd_ hrt;clear hrt
       go_wp2_with (refine ZG rfl ?_)
       refine Stop.intro ?_
       refine ZT sl_str rfl _ _ rfl base _ L.length (strs L) rfl (World.ownsRow.alloc (w:=wo.drewN n) hown _) wo.heap.size 0 1 [.string d.name] rfl rfl (ZQ (wo.drewN n) _ _ _ rfl) (by simp[Value.oneCell']) (by omega) (by decide) (by simp;omega) ?_
       intro v' w' hown4 hgr hob
       have hbel4:Below base w w':=hbel.trans (((ZAb wo n (.cells #[.string d.name] 9)).mono hbs).grown hgr (by simp;omega) (fun k hk=>Zg hown k hk))
       go_wp2_with fail
       go_roundw
       case rel=>exact⟨k+1,by go_num,by omega,by
        rw[HTK.out,List.map_append,← List.append_assoc,HL.out]
        simpa [strs] using hown4,hbel4,by have:=hgr.size;simp at this;omega,by
        rw[HTK.out,List.map_append,← List.append_assoc,HL.out];exact HRT.out⟩
       case measure=>simp[intOf];omega
  ·have hnil:ds.drop k=[]:=List.drop_eq_nil_of_le (by omega)
   have htk:ds.take k=ds:=List.take_of_length_le (by omega)
   rw[hnil] at hrk
   rw[htk] at hown
   have hrt:r=true:=by rw[← hrk];rfl
   have HRT:=Hd_ hrt;clear hrt hrk hnil htk
   go_wp2
   go_ret2
   exact .inl ⟨HRT.out,u1,rfl,by simpa using hown,hbel⟩
def thrD (g:Graph) : Decl:=⟨g.name,0,0⟩
def declV (_:CM) (cs:List Value) (d:Decl) : Prop:=cs=[.string d.name,.int .i64 d.word,.int .i64 d.at_]
instance:MonoV declV:=⟨fun _ h=>h⟩
theorem ZJj {m:CM} {v:Value} {ds:List Decl} (h:Sl (Cells declV) 3 m v ds) : Decls m v ds:=by
 refine h.imp' fun m b o x hx=>?_
 obtain⟨cs,rfl,h2⟩:=hx
 exact⟨h2 0 _ rfl,h2 1 _ rfl,h2 2 _ rfl⟩
theorem ZF8 (u:Unit_) : nmOk [] (nmAll u)=(nmOk [] (nmDecls u.shared true) && (nmOk (u.shared.map (·.name)) (nmDecls u.locks false) && nmOk (u.shared.map (·.name) ++ u.locks.map (·.name)) (nmDecls (u.graphs.map thrD) false))):=by
 unfold nmAll
 rw[ZBd,ZBd]
 have e1:(nmDecls u.shared true).map (·.1)=u.shared.map (·.name):=by simp[nmDecls]
 have e2:(nmDecls u.locks false).map (·.1)=u.locks.map (·.name):=by simp[nmDecls]
 have e3:nmGraphs u.graphs=nmDecls (u.graphs.map thrD) false:=by simp[nmDecls,nmGraphs,thrD]
 rw[e1,e2,e3,List.nil_append]
theorem ZB9 (ds:List Decl) (dv:Value) (l:List ByteArray) (v:Value) (words:Bool) (base:Nat) (w:World) (hd:Decls (part w 0 base) dv ds) (ho:w.ownsRow base 9 1 v l.length (strs l)) (hbase:base≤w.heap.size) (hl:l.length+ds.length≤1000) :
  Calls Tryz.prog 99 #[dv,v,.bool words] w fun e w'=>∃ v' l',e=.returned (.tuple #[v',.bool (nmOk l (nmDecls ds words))])∧w'.ownsRow base 9 1 v' l'.length (strs l')∧l'.length≤l.length+ds.length ∧
   (nmOk l (nmDecls ds words)=true→l'=l ++ ds.map (·.name))∧Below base w w':=by
 refine(ZFQ ds dv l v words base w hd ho hbase hl).mono ?_
 rintro e w' (⟨h1,v',rfl,h2,h3⟩ | ⟨h1,rfl,h2⟩)
 ·exact⟨v',_,by rw[h1],h2,by simp,fun _=>rfl,h3⟩
 ·exact⟨.slice none 0 0,[],by rw[h1],World.ownsRow_nil _ _ _ _,by simp,fun h=>by (rw[h1] at h;cases h),h2⟩
set_option maxRecDepth 100000 in
set_option maxHeartbeats 4000000 in
theorem ZBD (u:Unit_) (cs:List Value) (w:World) (hu:UnitV (cmap w) cs u) (hok:UOk u) :
  Calls Tryz.prog 57 #[.agg cs.toArray] w fun e w'=>e=.returned (checkV (checkF u))∧Below w.heap.size w w':=by
 have hu0:=hu
 obtain⟨sv,lv,gv,rfl,hs,hl,hg⟩:=hu
 have hs':=hs
 obtain⟨sA,sc,rfl,-,-,-⟩:=hs'
 have hl':=hl
 obtain⟨lA,lc,rfl,-,-,-⟩:=hl'
 have hg':=hg
 obtain⟨gA,gc,rfl,-,-,-⟩:=hg'
 have bs:=hs.len.2.2
 have bl:=hl.len.2.2
 have bg:=hg.len.2.2
 obtain⟨r,hr⟩ : ∃ r,checkF u=r:=⟨_,rfl⟩
 rw[hr]
 by_cases h1:u.shared.length≤64
 ·by_cases h2:u.locks.length≤16
  ·by_cases h3:u.graphs.length≤8
   ·have HR:=Hd_ hr;clear hr
    have hbx:=Blk.new w 25 [.slice sA u.shared.length sc,.slice lA u.locks.length lc,.slice gA u.graphs.length gc]
    go_enter Tryz.func57,Tryz.ntmps57
    go_wp2_with fail
    go_loopw [5,6] (fun v5 v6 wr=>∃ (k:Nat) (S:Nat→Prop),v6=.int .i64 k∧k≤u.graphs.length∧Acc declV 3 118 w.heap.size S v5 ((u.graphs.take k).map thrD) wr∧Below w.heap.size w wr∧(∀ b,¬ S b) ∧
     Blk wr w.heap.size 25 [.slice sA u.shared.length sc,.slice lA u.locks.length lc,.slice gA u.graphs.length gc]) (fun _ v6 _=>u.graphs.length - (intOf v6).toNat)
    case atStart=>exact⟨0,_,rfl,by omega,Acc.nil _ _ _ _ _,ZC _ _,fun _ h=>h,hbx⟩
    case round =>
     obtain⟨k,S,rfl,hk,hacc,hbel,hS,hbk⟩:=hrel
     have hcx0:=hbk.cell 0
     have hcx1:=hbk.cell 1
     have hcx2:=hbk.cell 2
     have hbs:=hbel.size
     by_cases hlt:k < u.graphs.length
     ·obtain⟨g,hgk⟩ : ∃ g,u.graphs[k]? = some g:=⟨_,List.getElem?_eq_getElem hlt⟩
      obtain⟨b,o,rfl,cg,⟨nv,rfl,-⟩,hdc⟩:=hg.at_ hgk
      have hname:wr.cell? ⟨b,o+k * 4,none⟩=some (.string g.name):=ZA hbel _ _ _ (hdc 0 _ rfl)
      clear hdc
      have htk:(u.graphs.take (k+1)).map thrD=(u.graphs.take k).map thrD ++ [thrD g]:=by rw[List.take_succ_eq_append_getElem hlt,(List.getElem?_eq_some_iff.1 hgk).2,List.map_append];rfl
      have HTK:=Hd_ htk;clear htk hgk
      have hk0:(0:Int)≤k:=by omega
      have hkl:(k:Int) < u.graphs.length:=by omega
      have HS:=Hd_ hS;clear hS
      go_wp2_with (refine ZG rfl ?_)
      refine Stop.intro ?_
      have hacc2:=hacc.alloc (.cells #[.string g.name,.int .i64 0,.int .i64 0] 118)
      obtain⟨rows,ho,hrl,hrs,hrx⟩:=hacc2.rows
      have hlen:((u.graphs.take k).map thrD).length≤8:=by simp;omega
      refine ZT ZJ2 rfl _ _ rfl w.heap.size u5 _ rows.flatten rfl ho wr.heap.size 0 1 [.string g.name,.int .i64 0,.int .i64 0] rfl rfl (ZJ _ _ _ _ rfl) (by simp[Value.oneCell']) (by omega) (by decide) (by simp;omega) ?_
      intro v' w' hown4 hgr hob
      have hv5:=hacc.lt
      have hne:=hacc.blk hbk (by decide)
      have hacc3:Acc declV 3 118 w.heap.size S v' ((u.graphs.take (k+1)).map thrD) w':=by
       rw[HTK.out]
       exact hacc2.push hrl hrs hrx rfl hown4 hgr hob (fun b hb=>hb) (fun b hb=>(HS.out b hb).elim) rfl
      go_wp2_with fail
      go_roundw
      case rel=>exact⟨k+1,S,by go_num,by omega,hacc3,(hbel.alloc hbs _).grown hgr (by simp;omega) (fun j hj=>(hv5 j hj).1),HS.out,(hbk.alloc _).grown hgr hne⟩
      case measure=>simp[intOf];omega
     ·rw[List.take_of_length_le (by omega)] at hacc
      have hthr:=ZJj (hacc.done (Nat.le_refl _) (Nat.le_refl _))
      obtain⟨tA,tc,hv5,htc⟩:=hacc.form
      rw[List.length_map] at hv5 htc
      subst hv5
      obtain⟨B,hB⟩ : ∃ B,wr.heap.size=B:=⟨_,rfl⟩
      have hup:(cmap w).le (part wr 0 B):=by rw[← hB];exact(ZA hbel).trans (ZFk wr)
      have hsB:=hs.mono hup
      have hlB:=hl.mono hup
      have hgB:=hg.mono hup
      have htB:=hthr.mono (Zh (Nat.zero_le _) (show wr.heap.size≤B by omega))
      have hbkl:=hbk.lt
      have hown0:wr.ownsRow B 9 1 (.slice none 0 0) ([] : List ByteArray).length (strs []):=World.ownsRow_nil _ _ _ _
      clear hs hl hthr hup hacc
      obtain⟨wt,rfl⟩ : ∃ wt:World,wt=wr:=⟨_,rfl⟩
      go_wp2_with fail
      refine(ZB9 u.shared (.slice sA u.shared.length sc) [] (.slice none 0 0) true B wt hsB hown0 (by omega) (by simp;omega)).mono ?_
      rintro e w1 ⟨v1,l1,rfl,ho1,hl1,he1,hb1⟩
      have hz1:=hb1.size
      have hbk1:=hbk.below hb1 (by omega)
      have hcy1:=hbk1.cell 1
      go_wp2_with fail
      refine(ZB9 u.locks (.slice lA u.locks.length lc) l1 v1 false B w1 (hlB.mono (ZV fun b _ hb=>hb1.block b hb)) ho1 (by omega) (by simp at hl1;omega)).mono ?_
      rintro e w2 ⟨v2,l2,rfl,ho2,hl2,he2,hb2⟩
      have hz2:=hb2.size
      have hbk2:=hbk1.below hb2 (by omega)
      go_wp2_with fail
      refine(ZB9 (u.graphs.map thrD) (.slice tA u.graphs.length tc) l2 v2 false B w2 (htB.mono (ZV fun b _ hb=>(hb1.trans hb2).block b hb)) ho2 (by omega) (by simp at hl1 ⊢;omega)).mono ?_
      rintro e w3 ⟨v3,l3,rfl,ho3,hl3,he3,hb3⟩
      have hz3:=hb3.size
      have hbk3:=hbk2.below hb3 (by omega)
      have hb123:=(hb1.trans hb2).trans hb3
      have hbelT:Below w.heap.size w w3:=hbel.trans (hb123.mono (by omega))
      have hnm:namedOk u=(nmOk [] (nmDecls u.shared true) && (nmOk l1 (nmDecls u.locks false) && nmOk l2 (nmDecls (u.graphs.map thrD) false))):=by
       have e0:namedOk u=nmOk [] (nmAll u):=by simp[namedOk,h1,h2,h3]
       rw[e0,ZF8]
       cases q1:nmOk [] (nmDecls u.shared true)
       ·rfl
       ·have e1:=he1 q1
        rw[List.nil_append] at e1
        rw[e1] at he2 ⊢
        cases q2:nmOk (u.shared.map (·.name)) (nmDecls u.locks false)
        ·rfl
        ·rw[he2 q2]
      clear he1 he2 he3 hl1 hl2 hl3 ho1 ho2 ho3
      have HNM:=Hd_ hnm;clear hnm
      obtain⟨qa,hqa⟩ : ∃ q,nmOk [] (nmDecls u.shared true)=q:=⟨_,rfl⟩
      obtain⟨qb,hqb⟩ : ∃ q,nmOk l1 (nmDecls u.locks false)=q:=⟨_,rfl⟩
      obtain⟨qc,hqc⟩ : ∃ q,nmOk l2 (nmDecls (u.graphs.map thrD) false)=q:=⟨_,rfl⟩
      rw[hqa,hqb,hqc] at HNM ⊢
      clear hqa hqb hqc
      by_cases hall:qa=true∧qb=true∧qc=true
      ·obtain⟨rfl,rfl,rfl⟩:=hall
       have hr2:graphsBad u 0 u.graphs=r:=by rw[← HR.out];simp[checkF,HNM.out]
       have HR2:=Hd_ hr2;clear hr2 HNM
       have hcz2:=hbk3.cell 2
       have hgc:Graphs (cmap w3) (.slice gA u.graphs.length gc) u.graphs:=hgB.mono ((ZV fun b _ hb=>hb123.block b hb).trans (ZU w3 0 B))
       have huc:UnitV (cmap w3) [.slice sA u.shared.length sc,.slice lA u.locks.length lc,.slice gA u.graphs.length gc] u:=hu0.mono (ZA hbelT)
       clear hsB hlB hgB htB
       go_wp2_with fail
       go_loopw [12] (fun v wr=>∃ k:Nat,v=.int .i64 k∧k≤u.graphs.length∧Blk wr w.heap.size 25 [.slice sA u.shared.length sc,.slice lA u.locks.length lc,.slice gA u.graphs.length gc]∧Below w.heap.size w wr∧graphsBad u k (u.graphs.drop k)=r) (fun v _=>u.graphs.length - (intOf v).toNat)
       case atStart=>exact⟨0,rfl,by omega,hbk3,hbelT,HR2.out⟩
       case round =>
        clear hcz2 hgc huc hbk1 hbk2 hbk3 hb123 hbelT hb1 hb2 hb3 hz1 hz2 hz3 hcx0 hcx1 hcx2 hcy1 hbk hbel hbkl HR2
        obtain⟨k,rfl,hk,hbk,hbel,hrk⟩:=hrel
        have hcw2:=hbk.cell 2
        by_cases hlt:k < u.graphs.length
        ·obtain⟨g,hgk⟩ : ∃ g,u.graphs[k]? = some g:=⟨_,List.getElem?_eq_getElem hlt⟩
         obtain⟨b,o,rfl,cg,hgv,hdc⟩:=hg.at_ hgk
         have hnok:=hok g (List.mem_of_getElem? hgk)
         rw[ZAz hgk] at hrk
         have HRK:=Hd_ hrk;clear hrk
         have HGK:=Hd_ hgk;clear hgk
         have HGV:=hgv
         obtain⟨nv,rfl,nA,nc,rfl,hnc1,hnc2,hnn⟩:=hgv
         have hld:∀ j v,([.string g.name,.int .i64 g.locals,.int .i64 g.slots,.slice nA g.nodes.length nc] : List Value)[j]? = some v→wr.cell? ⟨b,o+k * 4+j,none⟩=some v:=fun j v h=>ZA hbel _ _ _ (hdc j v h)
         have HLD:=Hd_ hld;clear hld
         clear hdc
         have hk0:(0:Int)≤k:=by omega
         have hkl:(k:Int) < u.graphs.length:=by omega
         have hbl:=hbk.lt
         cases hz:sizesOk g
         ·have hrr:r=some (k,0):=by rw[← HRK.out,ZIT hz]
          have HRR:=Hd_ hrr;clear hrr
          have hz2:¬ (0≤g.locals∧g.locals≤64∧g.locals≤g.slots∧g.slots≤4160∧1≤g.nodes.length∧g.nodes.length≤4096):=by
           unfold sizesOk at hz
           exact of_decide_eq_false hz
          have HZ:=Hd_ hz2;clear hz2 hz
          go_wp2_with (first | (refine ZB rfl 69 _ rfl b (o+k * 4) rfl _ _ HLD.out Tryz.underlying69 rfl (by kernel_rfl) ?_))
          all_goals (first | (exfalso;have hz3:=HZ.out;omega) | (go_ret3;exact⟨by rw[HRR.out];rfl,hbel.alloc hbel.size _⟩))
         ·have hz2:0≤g.locals∧g.locals≤64∧g.locals≤g.slots∧g.slots≤4160∧1≤g.nodes.length∧g.nodes.length≤4096:=by
           have hz3:=hz
           unfold sizesOk at hz3
           exact of_decide_eq_true hz3
          obtain⟨z1,z2,z3,z4,z5,z6⟩:=hz2
          have HZ:=Hd_ hz;clear hz
          have d1:decide (g.locals < 0)=false:=by simp;omega
          have d2:decide (64 < g.locals)=false:=by simp;omega
          have d3:decide (g.slots < g.locals)=false:=by simp;omega
          have d4:decide (4160 < g.slots)=false:=by simp;omega
          have d5:decide ((g.nodes.length:Int) < 1)=false:=by simp;omega
          have d6:decide (4096 < (g.nodes.length:Int))=false:=by simp;omega
          have hbk1:=hbk.alloc (.cells #[.string g.name,.int .i64 g.locals,.int .i64 g.slots,.slice nA g.nodes.length nc] 69)
          have hbg1:=Blk.new wr 69 [.string g.name,.int .i64 g.locals,.int .i64 g.slots,.slice nA g.nodes.length nc]
          have hbel1:=hbel.alloc hbel.size (.cells #[.string g.name,.int .i64 g.locals,.int .i64 g.slots,.slice nA g.nodes.length nc] 69)
          obtain⟨r2,hr2⟩ : ∃ r2,ndBad u g 0 g.nodes=r2:=⟨_,rfl⟩
          have HR2:=Hd_ hr2;clear hr2
          go_wp2_with (first | (refine ZB rfl 69 _ rfl b (o+k * 4) rfl _ _ HLD.out Tryz.underlying69 rfl (by kernel_rfl) ?_))
          clear d1 d2 d3 d4 d5 d6
          obtain⟨wo,rfl⟩ : ∃ wo:World,wo=wr:=⟨_,rfl⟩
          go_loopw [14] (fun v wi=>∃ i:Nat,v=.int .i64 i∧i≤g.nodes.length∧Blk wi w.heap.size 25 [.slice sA u.shared.length sc,.slice lA u.locks.length lc,.slice (some ⟨b,o,none⟩) u.graphs.length gc] ∧
           Blk wi wo.heap.size 69 [.string g.name,.int .i64 g.locals,.int .i64 g.slots,.slice nA g.nodes.length nc]∧Below w.heap.size w wi∧ndBad u g i (g.nodes.drop i)=r2) (fun v _=>g.nodes.length - (intOf v).toNat)
          case atStart=>exact⟨0,rfl,by omega,hbk1,hbg1,hbel1,HR2.out⟩
          case round =>
           obtain⟨i,rfl,hi,hbk2,hbg2,hbel2,hri⟩:=hrel
           have hbgl:=hbg2.lt
           by_cases hit:i < g.nodes.length
           ·obtain⟨n,hni⟩ : ∃ n,g.nodes[i]? = some n:=⟨_,List.getElem?_eq_getElem hit⟩
            have hno:=hnok n (List.mem_of_getElem? hni)
            rw[ZAz hni] at hri
            unfold ndBad at hri
            obtain⟨bn,on_,rfl,hnc⟩:=Sl.at_ ⟨nA,nc,rfl,hnc1,hnc2,hnn⟩ hni
            have hld3:∀ j v,n.cells[j]? = some v→wr.cell? ⟨bn,on_+i * 13+j,none⟩=some v:=fun j v h=>ZA hbel2 _ _ _ (hnc j v h)
            obtain⟨d0,d1,d2,d3,d4,d5,d6,d7,d8,d9,d10,d11,d12⟩:=ZBW hld3
            clear hld3
            have HNI:=Hd_ hni;clear hni
            clear hnc
            have hi0:(0:Int)≤i:=by omega
            have hil:(i:Int) < g.nodes.length:=by omega
            have k0:=hbk2.cell 0
            have k1:=hbk2.cell 1
            have k2:=hbk2.cell 2
            have j0:=hbg2.cell 0
            have j1:=hbg2.cell 1
            have j2:=hbg2.cell 2
            have j3:=hbg2.cell 3
            cases hq:ndOk u g n
            ·rw[hq] at hri
             have HRI:=Hd_ hri;clear hri
             go_wp2_with fail
             go_still_tail 7,(by kernel_rfl)
             change wpList _ _ _ _ _ wr.drew
             go_wp2_with (go_at_call 100;refine(ZD9 u g n (cmap w) _ _ hu0 HGV hno.kind.1 hno.op.1 _).mono ?_;rintro e w3 ⟨rfl,hb3⟩;unfold ndOk at hq;rw[hq];clear hq)
             have hrr:r=some (k,i):=by rw[← HRK.out,ZIU HZ.out (by rw[HR2.out,← HRI.out];rfl)]
             go_ret3
             exact⟨by rw[hrr];rfl,hbel2.trans (Below.mono (B:=wr.heap.size) ⟨hb3.os,hb3.tape,hb3.output,hb3.size,hb3.block⟩ hbel2.size)⟩
            ·rw[hq] at hri
             have HRI:=Hd_ hri;clear hri
             go_wp2_with fail
             go_still_tail 7,(by kernel_rfl)
             change wpList _ _ _ _ _ wr.drew
             go_wp2_with (go_at_call 100;refine(ZD9 u g n (cmap w) _ _ hu0 HGV hno.kind.1 hno.op.1 _).mono ?_;rintro e w3 ⟨rfl,hb3⟩;unfold ndOk at hq;rw[hq];clear hq)
             have hb4:Below wr.heap.size wr w3:=⟨hb3.os,hb3.tape,hb3.output,hb3.size,hb3.block⟩
             go_roundw
             case rel=>exact⟨i+1,by go_num,by omega,hbk2.below hb4 hbk2.lt,hbg2.below hb4 hbg2.lt,hbel2.trans (hb4.mono hbel2.size),HRI.out⟩
             case measure=>simp[intOf];omega
           ·have hnil:g.nodes.drop i=[]:=List.drop_eq_nil_of_le (by omega)
            rw[hnil] at hri
            have hr3:r2=none:=by rw[← hri];rfl
            have hbad:ndBad u g 0 g.nodes=none:=by rw[HR2.out,hr3]
            have hwg:=ZCy HZ.out (ZBM _ _ hbad)
            have HB:=Hd_ hbad;clear hri hnil hr3 hbad HR2
            have j3:=hbg2.cell 3
            have HG:Hid (∀ j v,([.string g.name,.int .i64 g.locals,.int .i64 g.slots,.slice nA g.nodes.length nc] : List Value)[j]? = some v→wr.cell? ⟨wo.heap.size,0+j,none⟩=some v) :=
             fun j v hj=>by rw[Nat.zero_add,hbg2.cell];exact hj
            go_wp2_with (first
             | (refine ZB rfl 69 _ rfl wo.heap.size 0 rfl _ _ HG.out Tryz.underlying69 rfl (by kernel_rfl) ?_))
            refine(ZDR g [.string g.name,.int .i64 g.locals,.int .i64 g.slots,.slice nA g.nodes.length nc] _ hwg (HGV.mono (ZA hbel2))).mono ?_
            have hs2:=hbel2.size
            rintro e w4 (⟨v,L,rfl,h1,h2,h3⟩ | ⟨a,rfl,h1,h3⟩)
            ·have hok4:=gb_ok HZ.out HB.out h1 k (u.graphs.drop (k+1))
             have H1:=Hd_ (hok4.symm.trans HRK.out);clear hok4 h1
             clear h2
             go_wp2_with fail
             go_roundw
             case rel=>exact⟨k+1,by go_num,by omega,hbk2.below h3 hbk2.lt,hbel2.trans (h3.mono (by omega)),H1.out⟩
             case measure=>simp[intOf];omega
            ·have hrr:r=some (k,a):=by rw[← HRK.out,ZIV HZ.out HB.out h1]
             have HRR:=Hd_ hrr;clear hrr h1
             have hd:decide (0≤(a:Int))=true:=by simp
             go_wp2_with fail
             go_ret3
             exact⟨by rw[HRR.out];rfl,hbel2.trans (h3.mono (by omega))⟩
        ·have hnil:u.graphs.drop k=[]:=List.drop_eq_nil_of_le (by omega)
         rw[hnil] at hrk
         have hr3:r=none:=by rw[← hrk];rfl
         have HN3:=Hd_ hr3;clear hrk hnil hr3
         go_wp2_with fail
         go_ret3
         exact⟨by rw[HN3.out];rfl,hbel⟩
      ·have hr2:r=some (0,0):=by
        rw[← HR.out]
        have:namedOk u=false:=by
         rw[HNM.out]
         revert hall
         cases qa <;> cases qb <;> cases qc <;> simp
        simp[checkF,this]
       have HR2:=Hd_ hr2;clear hr2
       cases qa <;> cases qb <;> cases qc
       all_goals first | (exfalso;exact hall ⟨rfl,rfl,rfl⟩) | (go_wp2_with fail;go_ret3;exact⟨by rw[HR2.out];rfl,hbelT⟩)
   ·have d3:decide (8 < (u.graphs.length:Int))=true:=by simp;omega
    have hr2:r=some (0,0):=by rw[← hr];simp[checkF,namedOk,h3]
    have HR:=Hd_ hr2;clear hr2 hr
    go_enter Tryz.func57,Tryz.ntmps57
    go_wp2_with fail
    go_ret3
    exact⟨by rw[HR.out];rfl,ZE _ _⟩
  ·have d3:decide (16 < (u.locks.length:Int))=true:=by simp;omega
   have hr2:r=some (0,0):=by rw[← hr];simp[checkF,namedOk,h2]
   have HR:=Hd_ hr2;clear hr2 hr
   go_enter Tryz.func57,Tryz.ntmps57
   go_wp2_with fail
   go_ret3
   exact⟨by rw[HR.out];rfl,ZE _ _⟩
 ·have d3:decide (64 < (u.shared.length:Int))=true:=by simp;omega
  have hr2:r=some (0,0):=by rw[← hr];simp[checkF,namedOk,h1]
  have HR:=Hd_ hr2;clear hr2 hr
  go_enter Tryz.func57,Tryz.ntmps57
  go_wp2_with fail
  go_ret3
  exact⟨by rw[HR.out];rfl,ZE _ _⟩
end Go.Proofs.YtffgnjgphkdodaaGreatDoor
