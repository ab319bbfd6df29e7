import Derived.Test.YtffgnjgphkdodaaDoorD10
import Derived.Test.YtffgnjgphkdodaaDoorD14
import Derived.Test.YtffgnjgphkdodaaDoorD17
import Derived.Test.YtffgnjgphkdodaaDoorD19
namespace Go.Proofs.YtffgnjgphkdodaaDoor
open Go
noncomputable def stK (u:Unit_) (g:Graph) (k:Nat) : List Int:=((List.range k).filter fun i=>(mkAt u g [] i).store).map fun i:Nat=>(i:Int)
noncomputable def stL (u:Unit_) (g:Graph) : List Int:=stK u g g.nodes.length
theorem ZB0 (u:Unit_) (g:Graph) (k:Nat) : stK u g (k+1)=stK u g k ++ if (mkAt u g [] k).store then [(k:Int)] else []:=by
 unfold stK
 rw[List.range_succ,List.filter_append,List.map_append]
 congr 1
 by_cases h:(mkAt u g [] k).store=true
 ·simp[h]
 ·simp[h]
theorem ZCF (u:Unit_) (g:Graph) (k:Nat) : (stK u g k).length≤k:=by
 unfold stK
 rw[List.length_map]
 refine Nat.le_trans (List.length_filter_le _ _) ?_
 simp
theorem ZDC {u:Unit_} {g:Graph} {k:Nat} {x:Int} : x∈stK u g k ↔ ∃ i:Nat,x=i∧i < k∧(mkAt u g [] i).store=true:=by
 unfold stK
 simp only[List.mem_map,List.mem_filter,List.mem_range]
 constructor
 ·rintro⟨i,⟨h1,h2⟩,rfl⟩;exact⟨i,rfl,h1,h2⟩
 ·rintro⟨i,rfl,h1,h2⟩;exact⟨i,⟨h1,h2⟩,rfl⟩
theorem ZIs (u:Unit_) (g:Graph) (F:List Int) (i:Nat) : (mkAt u g F i).store=(mkAt u g [] i).store∧(mkAt u g F i).load=(mkAt u g [] i).load∧(mkAt u g F i).drain=(mkAt u g [] i).drain:=by
 unfold mkAt
 cases g.nodes[i]? <;> simp
theorem ZE4 {u:Unit_} {g:Graph} {x:Int} (h:x∈stL u g) : 0≤x∧x < g.nodes.length:=by
 obtain⟨i,rfl,h1,_⟩:=ZDC.1 h
 omega
open Classical in
noncomputable def openG (g:Graph) (t F:List Int) : List Bool:=(List.range g.nodes.length).map fun i=>decide (OpenC g (fun i=>(i:Int)∈t) F i)
theorem ZBP (g:Graph) (t F:List Int) : (openG g t F).length=g.nodes.length:=by simp[openG]
theorem ZEa {g:Graph} (t F:List Int) {i:Nat} (h:i < g.nodes.length) {b:Bool} (hb:(openG g t F)[i]? = some b) : b=true ↔ OpenC g (fun i=>(i:Int)∈t) F i:=by
 unfold openG at hb
 rw[List.getElem?_map,List.getElem?_range h] at hb
 injection hb with hb
 rw[← hb]
 simp
theorem ZCw {g:Graph} {t F:List Int} {l:List Bool} (h1:l.length=g.nodes.length) (h2:∀ i:Nat,l[i]? = some true ↔ OpenC g (fun i=>(i:Int)∈t) F i) : l=openG g t F:=by
 apply List.ext_getElem?
 intro i
 by_cases hi:i < g.nodes.length
 ·have e1:l[i]? = some (l[i]'(by omega)):=List.getElem?_eq_getElem _
  have e2:(openG g t F)[i]? = some ((openG g t F)[i]'(by rw[ZBP];exact hi)):=List.getElem?_eq_getElem _
  have h3:=ZEa t F hi e2
  have h4:=h2 i
  rw[e1,e2]
  congr 1
  rw[e1] at h4
  rw[Bool.eq_iff_iff,h3,← h4]
  simp
 ·rw[List.getElem?_eq_none (by omega),List.getElem?_eq_none (by rw[ZBP];omega)]
open Classical in
noncomputable def askE (u:Unit_) (t:Int) : Int:=if checkF u=none then if 0≤t∧t < u.graphs.length then 0 else 2 else 60
theorem ZGY {u:Unit_} {t:Int} (h:checkF u≠none) : askE u t=60:=by unfold askE;rw[if_neg h]
theorem ZBi {u:Unit_} {t:Int} (h:checkF u=none) (ht:¬ (0≤t∧t < u.graphs.length)) : askE u t=2:=by unfold askE;rw[if_pos h,if_neg ht]
theorem ZCZ {u:Unit_} {t:Int} (h:checkF u=none) (ht:0≤t∧t < u.graphs.length) : askE u t=0:=by unfold askE;rw[if_pos h,if_pos ht]
theorem Zw {u:Unit_} {t:Int} (h:askE u t=0) : checkF u=none∧0≤t∧t < u.graphs.length:=by
 unfold askE at h
 split at h
 ·rename_i h1
  split at h
  ·rename_i h2;exact⟨h1,h2⟩
  ·omega
 ·omega
noncomputable def openR (u:Unit_) (t:Int) (F:List Int) : List Bool × Int :=
 if askE u t=0 then match u.graphs[t.toNat]? with
  | some g=>if fenB g.nodes.length (-1) F then (openG g (stL u g) F,0) else ([],110)
  | none=>([],0)
 else ([],askE u t)
noncomputable def ldK (u:Unit_) (g:Graph) (l:List Bool) (k:Nat) : List Int:=((List.range k).filter fun i=>l[i]? == some true && (mkAt u g [] i).load).map fun i:Nat=>(i:Int)
theorem ZAB (u:Unit_) (g:Graph) (l:List Bool) (k:Nat) : ldK u g l (k+1)=ldK u g l k ++ if l[k]? == some true && (mkAt u g [] k).load then [(k:Int)] else []:=by
 unfold ldK
 rw[List.range_succ,List.filter_append,List.map_append]
 congr 1
 by_cases h:(l[k]? == some true && (mkAt u g [] k).load)=true
 ·simp only[List.filter_cons,h,if_true,List.filter_nil,List.map_cons,List.map_nil]
 ·simp only[List.filter_cons,h,if_false,List.filter_nil,List.map_nil,Bool.false_eq_true]
theorem ZG4 (u:Unit_) (g:Graph) (l:List Bool) (k:Nat) : (ldK u g l k).length≤k:=by
 unfold ldK
 rw[List.length_map]
 refine Nat.le_trans (List.length_filter_le _ _) ?_
 simp
theorem ZBB {u:Unit_} {g:Graph} {l:List Bool} {k:Nat} {x:Int} : x∈ldK u g l k ↔ ∃ i:Nat,x=i∧i < k∧l[i]? = some true∧(mkAt u g [] i).load=true:=by
 unfold ldK
 simp only[List.mem_map,List.mem_filter,List.mem_range,Bool.and_eq_true,beq_iff_eq]
 constructor
 ·rintro⟨i,⟨h1,h2,h3⟩,rfl⟩;exact⟨i,rfl,h1,h2,h3⟩
 ·rintro⟨i,rfl,h1,h2,h3⟩;exact⟨i,⟨h1,h2,h3⟩,rfl⟩
noncomputable def loadsR (u:Unit_) (t:Int) (F:List Int) : List Int × Int :=
 if (openR u t F).2=0 then match u.graphs[t.toNat]? with
  | some g=>(ldK u g (openR u t F).1 g.nodes.length,0)
  | none=>([],0)
 else ([],(openR u t F).2)
theorem ZIw (u:Unit_) (g:Graph) (l:List Bool) {k n:Nat} (h:k≤n) : (ldK u g l k).length≤(ldK u g l n).length:=by
 induction h with
 | refl=>exact Nat.le_refl _
 | step _ ih=>rw[ZAB,List.length_append];omega
noncomputable def prL (u:Unit_) (g:Graph) (l:List Int) : List (Int × Int):=l.flatMap fun s=>(ldK u g (openG g [s] []) g.nodes.length).map fun x=>(s,x)
theorem ZGF (u:Unit_) (g:Graph) {l:List Int} {j:Nat} {s:Int} (h:l[j]? = some s) : prL u g (l.take (j+1))=prL u g (l.take j) ++ (ldK u g (openG g [s] []) g.nodes.length).map fun x=>(s,x):=by
 have hj:=(List.getElem?_eq_some_iff.1 h).1
 have he:l[j]=s:=by rw[List.getElem?_eq_getElem hj] at h;injection h
 unfold prL
 rw[List.take_succ_eq_append_getElem hj,List.flatMap_append,he]
 simp
theorem ZIj (u:Unit_) (g:Graph) (l:List Int) (j:Nat) : (prL u g (l.take j)).length≤(prL u g l).length:=by
 have h:prL u g l=prL u g (l.take j) ++ prL u g (l.drop j):=by
  unfold prL
  rw[← List.flatMap_append,List.take_append_drop]
 rw[h,List.length_append]
 omega
open Classical in
noncomputable def pairsR (u:Unit_) (t:Int) : List (Int × Int) × Int :=
 if askE u t=0 then match u.graphs[t.toNat]? with
  | some g=>if (prL u g (stL u g)).length≤65536 then (prL u g (stL u g),0) else ([],3)
  | none=>([],0)
 else ([],askE u t)
def pairV (p:Int × Int) : List Value:=[.int .i64 p.1,.int .i64 p.2]
def pairsV (l:List (Int × Int)) : List Value:=l.flatMap pairV
end Go.Proofs.YtffgnjgphkdodaaDoor
namespace Go.Proofs.YtffgnjgphkdodaaDoor
open Go Go.RowKit
def fills (N k:Nat) : List Value:=List.replicate k (.int .i64 (-1)) ++ List.replicate (N - k) (.int .i64 0)
theorem ZEI {B:Nat} {w wr w':World} {R:Nat→Prop} (h:Below B w wr) (hk:KeepR R wr w') (hR:∀ b,b < B→R b) : Below B w w':=⟨hk.os.trans h.os,hk.tape.trans h.tape,hk.output.trans h.output,Nat.le_trans h.size hk.size,fun b hb=>(hk.block b (hR b hb)).trans (h.block b hb)⟩
end Go.Proofs.YtffgnjgphkdodaaDoor
