import Derived.Test.YtffgnjgphkdodaaDoorD6
import Derived.Test.YtffgnjgphkdodaaDoorD5
import Derived.Test.YtffgnjgphkdodaaDoorD9
import Derived.Test.YtffgnjgphkdodaaDoorD4
import Derived.Test.YtffgnjgphkdodaaDoorD15
import Derived.Test.YtffgnjgphkdodaaDoorD20
import Derived.Test.YtffgnjgphkdodaaDoorD3
import Derived.Test.YtffgnjgphkdodaaDoorD10
import Derived.Test.YtffgnjgphkdodaaDoorD21
import Derived.Test.YtffgnjgphkdodaaDoorD8
import Derived.Laws.StructEq
import Derived.Test.YtffgnjgphkdodaaDoorD2
namespace Go.Proofs.YtffgnjgphkdodaaDoor
open Go Go.RowKit
theorem ZT {w w':World} {base:Nat} {e:TypeId} {size n:Nat} {v:Value} {xs:List Value} (h:w.ownsRow base e size v n xs) (hb:Below w.heap.size w w') : w'.ownsRow base e size v n xs :=
 h.kept (row:=none) ⟨hb.os,hb.tape,hb.output,hb.size,fun k hk _=>hb.block k hk⟩ (by
  cases hv:v.ownBlock with
  | none=>exact .inl rfl
  | some b=>exact .inr (by simp))
def srO (base:Nat) (e:TypeId) (n:Nat) (xs:List Value) : SR:=⟨fun w v=>w.ownsRow base e 1 v n xs,fun hb h=>ZT h hb⟩
theorem Zv {w:World} {b n:Nat} {t:TypeId} {v:Value} {l:List Int} (h:w.ownsRow b t 1 v n (ints l)) : Ints (cmap w) v l :=
 (ZA0 (f:=fun x:Int=>Value.int .i64 x) (R:=IntC) (fun _ _ _ _ h=>h) h (Nat.le_refl _) (Nat.le_refl _)).mono (ZV _ _ _)
end Go.Proofs.YtffgnjgphkdodaaDoor
namespace Go.Proofs.YtffgnjgphkdodaaDoor
open Go
theorem ZFC {g:Graph} {s i:Nat} (hi:i < g.nodes.length) : (openG g [(s:Int)] [])[i]? = some true ↔ OpenC g (· = s) [] i:=by
 have hS:(fun i:Nat=>(i:Int)∈[(s:Int)])=(· = s):=by
  funext i
  rw[eq_iff_iff,List.mem_singleton]
  omega
 have hl:(openG g [(s:Int)] [])[i]? = some ((openG g [(s:Int)] [])[i]'(by rw[ZBP];exact hi)):=List.getElem?_eq_getElem _
 have h1:=ZEa [(s:Int)] [] hi hl
 rw[hS] at h1
 rw[hl,← h1]
 simp
theorem ZFz {N:Nat} : ∀ (F:List Int) (q:Int),(∀ x∈F,q < x∧x < N)→F.Pairwise (· < ·)→fenB N q F=true
 | [],_,_,_=>rfl
 | n :: F,q,h,hp=>by
  have hp':=List.pairwise_cons.1 hp
  simp only[fenB,Bool.and_eq_true,decide_eq_true_eq]
  exact⟨h n (by simp),ZFz F n (fun x hx=>⟨hp'.1 x hx,(h x (by simp[hx])).2⟩) hp'.2⟩
theorem ZJe (u:Unit_) (g:Graph) (l:List Bool) : fenB g.nodes.length (-1) (ldK u g l g.nodes.length)=true:=by
 refine ZFz _ _ (fun x hx=>?_) ?_
 ·obtain⟨i,rfl,h1,_⟩:=ZBB.1 hx
  omega
 ·unfold ldK
  refine List.Pairwise.map _ (fun a b h=>?_) (List.Pairwise.filter _ List.pairwise_lt_range)
  exact Int.ofNat_lt.2 h
theorem ZAq {g:Graph} {t F:List Int} {i:Nat} (hi:i < g.nodes.length) : (openG g t F)[i]? = some true ↔ OpenC g (fun i=>(i:Int)∈t) F i:=by
 have hl:(openG g t F)[i]? = some ((openG g t F)[i]'(by rw[ZBP];exact hi)):=List.getElem?_eq_getElem _
 have h1:=ZEa t F hi hl
 rw[hl,← h1]
 simp
theorem ZHh {g:Graph} {t F F':List Int} (h:∀ x∈F,x∈F') {i:Nat} (hi:i < g.nodes.length) (hb:(openG g t F')[i]? = some true) : (openG g t F)[i]? = some true :=
 (ZAq hi).2 (ZCM (fun _ h=>h) h ((ZAq hi).1 hb))
theorem ZGt {g:Graph} {S:Nat→Prop} {F:List Int} {i:Nat} (h:OpenC g S F i) : (i:Int) ∉ F:=by
 cases h with
 | first _ _ _ h=>exact h
 | step _ _ _ _ h=>exact h
theorem ZIv (u:Unit_) (g:Graph) (t:List Int) : ldK u g (openG g t (ldK u g (openG g t []) g.nodes.length)) g.nodes.length=[]:=by
 cases h:ldK u g (openG g t (ldK u g (openG g t []) g.nodes.length)) g.nodes.length with
 | nil=>rfl
 | cons x xs =>
  exfalso
  have hx:x∈ldK u g (openG g t (ldK u g (openG g t []) g.nodes.length)) g.nodes.length:=by rw[h];simp
  obtain⟨i,rfl,h1,h2,h3⟩:=ZBB.1 hx
  have ho:=(ZAq h1).1 h2
  refine ZGt ho (ZBB.2 ⟨i,rfl,h1,?_,h3⟩)
  exact ZHh (F:=[]) (by simp) h1 h2
theorem ZD6 {u:Unit_} {g:Graph} {i:Nat} (hi:i < g.nodes.length) : (openG g (stL u g) [])[i]? = some true ↔ ∃ s∈stL u g,(openG g [s] [])[i]? = some true:=by
 rw[ZAq hi]
 constructor
 ·intro h
  obtain⟨s,hs,ho⟩:=ZHi h
  exact⟨(s:Int),hs,(ZFC hi).2 ho⟩
 ·rintro⟨s,hs,ho⟩
  obtain⟨sn,rfl,_⟩:=ZDC.1 hs
  exact ZCM (fun i (h:i=sn)=>by subst h;exact hs) (fun _ h=>h) ((ZFC hi).1 ho)
theorem ZDP (u:Unit_) (g:Graph) (x:Int) : x∈ldK u g (openG g (stL u g) []) g.nodes.length ↔ ∃ s,(s,x)∈prL u g (stL u g):=by
 rw[ZBB]
 constructor
 ·rintro⟨i,rfl,h1,h2,h3⟩
  obtain⟨s,hs,ho⟩:=(ZD6 h1).1 h2
  exact⟨s,List.mem_flatMap.2 ⟨s,hs,List.mem_map.2 ⟨(i:Int),ZBB.2 ⟨i,rfl,h1,ho,h3⟩,rfl⟩⟩⟩
 ·rintro⟨s,h⟩
  obtain⟨s',hs,hx⟩:=List.mem_flatMap.1 h
  obtain⟨y,hy,he⟩:=List.mem_map.1 hx
  injection he with e1 e2
  subst e1 e2
  obtain⟨i,rfl,h1,h2,h3⟩:=ZBB.1 hy
  exact⟨i,rfl,h1,(ZD6 h1).2 ⟨s',hs,h2⟩,h3⟩
end Go.Proofs.YtffgnjgphkdodaaDoor
namespace Go.Proofs.YtffgnjgphkdodaaDoor
open Go Go.RowKit
def srT (base:Nat) (e:TypeId) (n:Nat) (xs:List Value) (er:Int) : SR:=⟨fun w v=>∃ r,v=.tuple #[r,.int .i64 er]∧w.ownsRow base e 1 r n xs,fun hb ⟨r,e,h⟩=>⟨r,e,ZT h hb⟩⟩
section
variable {κ:Type} [DecidableEq κ] {kv:κ→Value} {dec:Value→Option κ} {P:Program} {w w':World} {b:Nat} {F:κ→Option Value}
def MapAt (kv:κ→Value) (dec:Value→Option κ) (w:World) (b:Nat) (F:κ→Option Value) (k:κ) (st:Nat) : Prop :=
 ∃ es clock i v e,w.heap[b]? = some (.map es clock)∧(∀ e∈es.toList,∃ k',e.key=kv k')∧(∀ k,(seek dec k es.toList 0).map (·.2)=F k)∧MapKept.Stamped es clock∧seek dec k es.toList 0=some (i,v)∧es[i]? = some e∧e.born=st
theorem MapAt.keep {k:κ} {st:Nat} (h:MapAt kv dec w b F k st) (hk:w'.heap[b]? = w.heap[b]?) : MapAt kv dec w' b F k st:=by
 obtain⟨es,c,i,v,e,h,r⟩:=h
 exact⟨es,c,i,v,e,hk.trans h,r⟩
end
end Go.Proofs.YtffgnjgphkdodaaDoor
