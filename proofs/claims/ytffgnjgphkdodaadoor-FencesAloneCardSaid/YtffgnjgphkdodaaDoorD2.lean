import Derived.Test.YtffgnjgphkdodaaDoorD1
import Derived.Test.YtffgnjgphkdodaaDoorProg
namespace Go.Proofs.YtffgnjgphkdodaaDoor
open Go Go.RowKit
theorem Z2:SlT Tryd.prog 39 3 1 8 (.int .i64 0):=SlT.mk' Tryd.underlying39 (by kernel_rfl) rfl (by omega)
theorem ZES:SlT Tryd.prog 34 4 1 1 (.bool false):=SlT.mk' Tryd.underlying34 (by kernel_rfl) rfl (by omega)
theorem ZER:SlT Tryd.prog 27 39 1 24 (.slice none 0 0):=SlT.mk' Tryd.underlying27 (by kernel_rfl) rfl (by omega)
theorem ZBr:KeyT Tryd.prog 3 (fun n:Int=>Value.int .i64 n) decInt:=ZJh Tryd.underlying3
def letterB (c:Int) : Bool:=decide (97≤c∧c≤122∨65≤c∧c≤90∨c=95)
def digitB (c:Int) : Bool:=decide (48≤c∧c≤57)
def twoB (c:Int) : Bool:=decide (1≤c∧c≤16)
set_option maxHeartbeats 400000 in
theorem ZBR (c:Int) (w:World) : Calls Tryd.prog 88 #[.int .u8 c] w fun e w'=>e=.returned (.bool (letterB c))∧w=w':=by
 go_enter Tryd.func88,Tryd.ntmps88
 go_wp2
 all_goals (go_ret;refine⟨ZY (Bool.eq_iff_iff.2 ?_),rfl⟩;simp[letterB];omega)
set_option maxHeartbeats 400000 in
theorem ZAZ (c:Int) (w:World) : Calls Tryd.prog 86 #[.int .u8 c] w fun e w'=>e=.returned (.bool (digitB c))∧w=w':=by
 go_enter Tryd.func86,Tryd.ntmps86
 go_wp2
 all_goals (go_ret;refine⟨ZY (Bool.eq_iff_iff.2 ?_),rfl⟩;simp[digitB];omega)
set_option maxHeartbeats 400000 in
theorem ZFr (c:Int) (w:World) : Calls Tryd.prog 92 #[.int .u8 c] w fun e w'=>e=.returned (.bool (decide (0 < c∧c < 19)))∧w=w':=by
 go_enter Tryd.func92,Tryd.ntmps92
 go_wp2
 all_goals (go_ret;refine⟨ZY (Bool.eq_iff_iff.2 ?_),rfl⟩;simp;omega)
set_option maxHeartbeats 400000 in
theorem ZHS (c:Int) (w:World) : Calls Tryd.prog 89 #[.int .u8 c] w fun e w'=>e=.returned (.bool (twoB c))∧w=w':=by
 go_enter Tryd.func89,Tryd.ntmps89
 go_wp2_with (go_at_call 92;refine(ZFr _ _).mono ?_;rintro e w' ⟨rfl,rfl⟩)
 all_goals (go_ret;refine⟨ZY (Bool.eq_iff_iff.2 ?_),rfl⟩;simp[twoB];omega)
def wordB (s:ByteArray) : Bool:=s.toList == [115,104,97,114,101,100] || s.toList == [108,111,99,107] || s.toList == [116,104,114,101,97,100] || s.toList == [108,111,99,97,108] || s.toList == [105,102] || s.toList == [101,108,115,101] || s.toList == [119,104,105,108,101] || s.toList == [112,114,105,110,116] || s.toList == [115,107,105,112] || s.toList == [115,119,97,112]
def okB (c:UInt8) : Bool:=letterB c.toNat || digitB c.toNat
def nameB (s:ByteArray) : Bool:=decide (1≤s.size∧s.size≤32) && !(digitB (s.data.toList.headD 0).toNat) && !(wordB s) && s.data.toList.all okB
def OkTo (s:ByteArray) (k:Nat) : Prop:=∀ i (h:i < s.size),i < k→okB s[i]=true
theorem OkTo.succ {s:ByteArray} {k:Nat} (h:OkTo s k) (hk:k < s.size) (ho:okB s[k]=true) : OkTo s (k+1):=by
 intro i hi hik
 by_cases e:i=k
 ·subst e;exact ho
 ·exact h i hi (by omega)
theorem OkTo.all {s:ByteArray} {k:Nat} (h:OkTo s k) (hk:s.size≤k) : s.data.toList.all okB=true:=by
 rw[List.all_eq_true]
 intro c hc
 obtain⟨i,hi,rfl⟩:=List.mem_iff_getElem.1 hc
 have hi':i < s.size:=by rw[Array.length_toList,ByteArray.size_data] at hi;exact hi
 have:=h i hi' (by omega)
 rw[Array.getElem_toList]
 exact this
theorem OkTo.bad {s:ByteArray} {k:Nat} (hk:k < s.size) (ho:okB s[k]=false) : s.data.toList.all okB=false:=by
 rw[List.all_eq_false]
 refine⟨s[k],?_,by simp[ho]⟩
 show s.data[k]∈s.data.toList
 rw[Array.mem_toList_iff]
 exact Array.getElem_mem _
set_option maxHeartbeats 400000 in
theorem ZD0 (s:ByteArray) (w:World) : Calls Tryd.prog 87 #[.string s] w fun e w'=>e=.returned (.bool (wordB s))∧w=w':=by
 go_enter Tryd.func87,Tryd.ntmps87
 go_wp2
 all_goals (first | (exfalso;simp_all;done) | (go_ret;refine⟨ZY ?_,rfl⟩;simp_all [wordB]))
set_option maxHeartbeats 400000 in
theorem ZD7 (s:ByteArray) (w:World) : Calls Tryd.prog 66 #[.string s] w fun e w'=>e=.returned (.bool (nameB s))∧w=w':=by
 have fin:nameB s=(decide (1≤s.size∧s.size≤32) && !(digitB (s.data.toList.headD 0).toNat) && !(wordB s) && s.data.toList.all okB):=rfl
 by_cases h1:s.size=0
 ·have hE:s.toList.isEmpty=true:=by rw[ByteArray.toList_eq,List.isEmpty_iff];exact List.eq_nil_of_length_eq_zero (by rw[Array.length_toList,ByteArray.size_data];exact h1)
  have hE1:decide ((s.size:Int) < 1)=true:=by simp;omega
  have hf:nameB s=false:=by rw[fin];simp[h1]
  clear fin
  have HF:=Hd_ hf;clear hf
  have H1:=Hd_ h1;clear h1
  go_enter Tryd.func66,Tryd.ntmps66
  go_wp2
  go_ret
  exact⟨ZY HF.out.symm,rfl⟩
 have hE:s.toList.isEmpty=false:=by
  rw[ByteArray.toList_eq]
  cases hl:s.data.toList with
  | nil=>exfalso;apply h1;rw[← ByteArray.size_data,← Array.length_toList,hl];rfl
  | cons a b=>rfl
 have h0:0 < s.size:=by omega
 have hE1:decide ((s.size:Int) < 1)=false:=by simp;omega
 by_cases h2:32 < s.size
 ·have hL:decide (32 < (s.size:Int))=true:=by simp;omega
  have hf:nameB s=false:=by rw[fin];simp;omega
  clear fin
  have HF:=Hd_ hf;clear hf
  go_enter Tryd.func66,Tryd.ntmps66
  go_wp2
  go_ret
  exact⟨ZY HF.out.symm,rfl⟩
 have hL:decide (32 < (s.size:Int))=false:=by simp;omega
 have hhd:s.data.toList.headD 0=s[0]:=by
  have:s.data.toList=s[0] :: s.data.toList.tail:=by
   have hlen:0 < s.data.toList.length:=by rw[Array.length_toList,ByteArray.size_data];exact h0
   cases hl:s.data.toList with
   | nil=>rw[hl] at hlen;simp at hlen
   | cons a b =>
    have:s[0]=a:=by
     show s.data[0]=a
     rw[← Array.getElem_toList];simp[hl]
    rw[this];rfl
  rw[this];rfl
 rw[hhd] at fin
 clear hhd
 by_cases h3:digitB (s[0].toNat:Int)=true
 ·have hf:nameB s=false:=by rw[fin];simp[h3]
  clear fin
  have HF:=Hd_ hf;clear hf
  go_enter Tryd.func66,Tryd.ntmps66
  go_wp2_with (go_at_call 86;refine(ZAZ _ _).mono ?_;rintro e w' ⟨rfl,rfl⟩)
  go_ret
  exact⟨ZY HF.out.symm,rfl⟩
 rw[Bool.not_eq_true] at h3
 by_cases h4:wordB s=true
 ·have hf:nameB s=false:=by rw[fin];simp[h4]
  clear fin
  have HF:=Hd_ hf;clear hf
  go_enter Tryd.func66,Tryd.ntmps66
  go_wp2_with (first | (go_at_call 86;refine(ZAZ _ _).mono ?_;rintro e w' ⟨rfl,rfl⟩) | (go_at_call 87;refine(ZD0 _ _).mono ?_;rintro e w' ⟨rfl,rfl⟩))
  go_ret
  exact⟨ZY HF.out.symm,rfl⟩
 rw[Bool.not_eq_true] at h4
 have hf:nameB s=s.data.toList.all okB:=by
  rw[fin,h3,h4]
  have:decide (1≤s.size∧s.size≤32)=true:=by simp;omega
  rw[this];rfl
 clear fin
 have HF:=Hd_ hf;clear hf
 go_enter Tryd.func66,Tryd.ntmps66
 go_wp2_with (first | (go_at_call 86;refine(ZAZ _ _).mono ?_;rintro e w' ⟨rfl,rfl⟩) | (go_at_call 87;refine(ZD0 _ _).mono ?_;rintro e w' ⟨rfl,rfl⟩))
 go_loop [22] (fun v=>∃ k:Nat,v=.int .i64 k∧k≤s.size∧OkTo s k) (fun v=>s.size - (intOf v).toNat)
 case atStart=>exact⟨0,rfl,by omega,fun i _ h=>by omega⟩
 case round =>
  obtain⟨k,rfl,hk,hok⟩:=hrel
  by_cases hlt:k < s.size
  ·by_cases hl:letterB (s[k].toNat:Int)=true
   ·have hs:=hok.succ hlt (by simp[okB,hl])
    go_wp2_with (go_at_call 88;refine(ZBR _ _).mono ?_;rintro e w' ⟨rfl,rfl⟩)
    go_round
    case rel=>exact⟨k+1,by go_num,by omega,hs⟩
    case measure=>simp[intOf];omega
   ·rw[Bool.not_eq_true] at hl
    by_cases hd:digitB (s[k].toNat:Int)=true
    ·have hs:=hok.succ hlt (by simp[okB,hd])
     go_wp2_with (first | (go_at_call 88;refine(ZBR _ _).mono ?_;rintro e w' ⟨rfl,rfl⟩) | (go_at_call 86;refine(ZAZ _ _).mono ?_;rintro e w' ⟨rfl,rfl⟩))
     go_round
     case rel=>exact⟨k+1,by go_num,by omega,hs⟩
     case measure=>simp[intOf];omega
    ·rw[Bool.not_eq_true] at hd
     have hbad:=OkTo.bad (s:=s) hlt (by simp[okB,hl,hd])
     have HB:=Hd_ hbad;clear hbad
     go_wp2_with (first | (go_at_call 88;refine(ZBR _ _).mono ?_;rintro e w' ⟨rfl,rfl⟩) | (go_at_call 86;refine(ZAZ _ _).mono ?_;rintro e w' ⟨rfl,rfl⟩))
     go_ret
     exact⟨ZY (by rw[HF.out,HB.out]),rfl⟩
  ·have hall:=hok.all (by omega)
   have HB:=Hd_ hall;clear hall
   go_wp2
   go_ret
   exact⟨ZY (by rw[HF.out,HB.out]),rfl⟩
abbrev Key:=List UInt8
def keyOf (s:ByteArray) : Key:=s.data.toList
def strV (n:Key) : Value:=.string ⟨n.toArray⟩
theorem ZGe (s:ByteArray) : strV (keyOf s)=.string s:=by simp[strV,keyOf]
def seenF (l:List ByteArray) (k:Key) : Option Value:=if k∈l.map keyOf then some (.bool true) else none
theorem ZHX:seenF []=fun _=>none:=by funext k;simp[seenF]
theorem ZD1 (l:List ByteArray) (s:ByteArray) : (fun k=>if k=keyOf s then some (Value.bool true) else seenF l k)=seenF (l ++ [s]):=by
 funext k
 by_cases h:k=keyOf s
 ·simp[seenF,h]
 ·rw[if_neg h]
  unfold seenF
  by_cases h2:k∈List.map keyOf l <;> simp[h,h2]
def inB (l:List ByteArray) (s:ByteArray) : Bool:=decide (keyOf s∈l.map keyOf)
theorem ZHY (l:List ByteArray) (s:ByteArray) : (seenF l (keyOf s)).getD (.bool false)=.bool (inB l s):=by
 unfold seenF inB
 by_cases h:keyOf s∈l.map keyOf <;> simp[h]
def nmOk:List ByteArray→List (ByteArray × Bool)→Bool
 | _,[]=>true
 | l,(s,b) :: r=>nameB s && !(inB l s) && b && nmOk (l ++ [s]) r
def nmDecls (ds:List Decl) (words:Bool) : List (ByteArray × Bool):=ds.map fun d=>(d.name,words || d.word == 0)
def nmGraphs (gs:List Graph) : List (ByteArray × Bool):=gs.map fun g=>(g.name,true)
def nmAll (u:Unit_) : List (ByteArray × Bool):=nmDecls u.shared true ++ (nmDecls u.locks false ++ nmGraphs u.graphs)
def namedOk (u:Unit_) : Bool:=decide (u.shared.length≤64) && (decide (u.locks.length≤16) && (decide (u.graphs.length≤8) && nmOk [] (nmAll u)))
theorem ZFa {P:Program} {w:World} {κ:Type} [DecidableEq κ] {kv:κ→Value} {dec:Value→Option κ} {kt et t:TypeId} (K:KeyT P kt kv dec) (ht:P.underlying t=some (.map kt et)) {ops:Array Oper} {rest:List Oper} {o:Oper} {a:Act} {Q:Exit→Act→World→Prop} (hgd:Region.wanted o (yielded ops a.tmps)=true) (m x:Operand)
  (ho:o.op=.lookup t m x false) (b:Nat) (F:κ→Option Value) (h:MapIs kv dec w b F) (k:κ) (hm:a.eval m=.map (some b)) (hx:a.eval x=kv k) (z:Value) (hz:(zeroValue et).run P w=.ok z w)
  (hn:wpList P ops Q rest (a.put o.dst ((F k).getD z)) w) : wpList P ops Q (o :: rest) a w:=by
 refine wpList_step fun K' hK'=>?_
 rw[if_pos hgd]
 have hr:=ZAr K ht h k z hz false
 unfold Oper.wp
 simp only[Bool.false_eq_true,if_false] at hr
 simp[execOp,ho,hm,hx,hr,Result.andThen]
 exact hK' _ _ hn
theorem ZJg:KeyT Tryd.prog 9 (fun n:List UInt8=>Value.string ⟨n.toArray⟩) decStr:=ZJf Tryd.underlying9
def ints (l:List Int) : List Value:=l.map (Value.int .i64)
theorem ZBI (w:World) (lo:Nat) (hlo:lo≤w.heap.size) (l:List Int) (cs:Array Value) (hcs:cs=(ints l).toArray) (t:TypeId) (n:Nat) (hn:n=l.length) (hl:n≤140737488355328) (hb:Nat) (hbe:hb=w.heap.size):
  Ints (part (w.alloc (.cells cs t)) lo (w.alloc (.cells cs t)).heap.size) (.slice (some ⟨hb,0,none⟩) n n) l:=by
 subst hn hbe
 refine⟨_,_,rfl,Nat.le_refl _,⟨by simp only[maxLen];omega,fun h=>by cases h⟩,.inr ⟨_,_,rfl,fun i x hx=>?_⟩⟩
 unfold IntC part
 rw[if_pos ⟨hlo,by simp⟩,World.cell?_alloc_new,hcs]
 simp[ints,hx]
theorem ZBH (m:CM) : Ints m (.slice none 0 0) []:=⟨none,0,rfl,by simp,⟨by simp[maxLen],fun _=>rfl⟩,.inl rfl⟩
set_option maxHeartbeats 400000 in
theorem ZAD (n:Node) (w:World) :
  Calls Tryd.prog 70 #[.agg n.cells.toArray] w fun e w'=>∃ v,e=.returned v∧Ints (part w' w.heap.size w'.heap.size) v (fol n)∧Below w.heap.size w w':=by
 unfold Node.cells
 by_cases h1:n.kind=9
 ·have hd:(n.kind == 9)=true:=by simp[h1]
  go_enter Tryd.func70,Tryd.ntmps70
  go_wp2
  go_ret
  refine⟨_,rfl,?_,ZI _ _⟩
  simp[fol,h1];exact ZBH _
 ·have hd:(n.kind == 9)=false:=by simp[h1]
  by_cases h2:n.kind=8
  ·have hd:(n.kind == 8)=true:=by simp[h2]
   by_cases h3:n.els=n.next
   ·have hd:(n.els == n.next)=true:=by simp[h3]
    go_enter Tryd.func70,Tryd.ntmps70
    go_wp2
    go_ret
    refine⟨.slice (some ⟨w.heap.size+1,0,none⟩) 1 1,rfl,?_,(ZI _ _).alloc (by simp) _⟩
    rw[show fol n=[n.next] by simp[fol,h2,h3]]
    exact ZBI _ _ (by simp) _ _ (by rfl) _ _ (by rfl) (by simp) _ (by simp)
   ·have hd:(n.els == n.next)=false:=by simp[h3]
    go_enter Tryd.func70,Tryd.ntmps70
    go_wp2
    go_ret
    refine⟨.slice (some ⟨w.heap.size+1,0,none⟩) 2 2,rfl,?_,(ZI _ _).alloc (by simp) _⟩
    rw[show fol n=[n.next,n.els] by simp[fol,h2,h3]]
    exact ZBI _ _ (by simp) _ _ (by rfl) _ _ (by rfl) (by simp) _ (by simp)
  ·have hd:(n.kind == 8)=false:=by simp[h2]
   go_enter Tryd.func70,Tryd.ntmps70
   go_wp2
   go_ret
   refine⟨.slice (some ⟨w.heap.size+1,0,none⟩) 1 1,rfl,?_,(ZI _ _).alloc (by simp) _⟩
   rw[show fol n=[n.next] by simp[fol,h1,h2]]
   exact ZBI _ _ (by simp) _ _ (by rfl) _ _ (by rfl) (by simp) _ (by simp)
set_option maxHeartbeats 400000 in
theorem ZAF (v:Value) (l:List Int) (w:World) (h:Ints (cmap w) v l) (hl:l.length < 4294967296) :
  Calls Tryd.prog 24 #[v] w fun e w'=>∃ v',e=.returned v'∧w'.ownsRow w.heap.size 3 1 v' l.length (ints l)∧Below w.heap.size w w':=by
 have h':=h
 obtain⟨A,c,rfl,h1,⟨h2,h3⟩,h4⟩:=h'
 have hq:=fun (w:World)=>Lib.run_eql_slice_nil w 39 3 A l.length c 0 0 Tryd.underlying39
 cases A with
 | none =>
  have hc:=h3 rfl
  have hl0:l=[]:=List.eq_nil_of_length_eq_zero (by omega)
  subst hl0
  subst hc
  clear h1 h2 h3 h4 h hl
  simp only[List.length_nil,Option.isNone_none] at hq ⊢
  go_enter Tryd.func24,Tryd.ntmps24
  go_wp2
  go_ret
  exact⟨.slice none 0 0,rfl,World.ownsRow_nil _ _ _ _,Below.refl _ _⟩
 | some A =>
  clear h1 h2 h3 h4
  go_enter Tryd.func24,Tryd.ntmps24
  go_wp2_with (refine ZN rfl ?_)
  refine Stop.intro ?_
  refine ZJE (R:=IntC) (fun _ _ _ _ h=>h) Z2 rfl _ _ rfl w.heap.size (.slice (some ⟨w.heap.size,0,none⟩) 0 0) 0 [] rfl (ZA8 w #[] _ rfl (Nat.le_refl _) (by decide) rfl [] rfl) A l.length c l rfl (h.mono (ZA (ZI w _))) (fun _=>rfl) (by omega) (by decide) (by simp) ?_
  intro v' w' hown hg hob
  go_wp2
  go_ret
  refine⟨v',rfl,by simpa [ints] using hown,(ZI w _).grown hg (by simp) (fun k hk=>?_)⟩
  simp[Value.ownBlock] at hk;omega
set_option maxHeartbeats 400000 in
theorem ZDd (v1 v2:Value) (l1 l2:List Int) (w:World) (h1:Ints (cmap w) v1 l1) (h2:Ints (cmap w) v2 l2) :
  Calls Tryd.prog 71 #[v1,v2] w fun e w'=>e=.returned (.bool (decide (l1=l2)))∧∃ n,w'=w.drewN n:=by
 have h1':=h1
 have h2':=h2
 obtain⟨A1,c1,rfl,-,-,-⟩:=h1'
 obtain⟨A2,c2,rfl,-,-,-⟩:=h2'
 have b1:=h1.len.2.2
 have b2:=h2.len.2.2
 by_cases hl:l1.length=l2.length
 ·have hb:((l1.length:Int) != (l2.length:Int))=false:=by simp[hl]
  have HL:=Hd_ hl;clear hl
  go_enter Tryd.func71,Tryd.ntmps71
  go_wp2
  go_loopw [13] (fun v wr=>∃ (k n:Nat),v=.int .i64 k∧k≤l1.length∧wr=w.drewN n∧l1.take k=l2.take k) (fun v _=>l1.length - (intOf v).toNat)
  case atStart=>exact⟨0,0,rfl,by omega,rfl,rfl⟩
  case round =>
   obtain⟨k,n,rfl,hk,rfl,ht⟩:=hrel
   have HT:=Hd_ ht;clear ht
   by_cases hlt:k < l1.length
   ·have hlt2:k < l2.length:=by rw[← HL.out];exact hlt
    obtain⟨x1,hx1⟩ : ∃ x,l1[k]? = some x:=⟨_,List.getElem?_eq_getElem hlt⟩
    obtain⟨x2,hx2⟩ : ∃ x,l2[k]? = some x:=⟨_,List.getElem?_eq_getElem hlt2⟩
    obtain⟨bb1,o1,rfl,g1⟩:=h1.at_ hx1
    obtain⟨bb2,o2,rfl,g2⟩:=h2.at_ hx2
    rw[Nat.mul_one] at g1 g2
    have g1':w.cell? ⟨bb1,o1+k,none⟩=some (.int .i64 x1):=g1
    have g2':w.cell? ⟨bb2,o2+k,none⟩=some (.int .i64 x2):=g2
    have hk0:(0:Int)≤k:=by omega
    have hki:(k:Int) < l1.length:=by omega
    have hki2:(k:Int) < l2.length:=by omega
    clear g1 g2
    have HX1:=Hd_ hx1;clear hx1
    have HX2:=Hd_ hx2;clear hx2
    by_cases he:x1=x2
    ·have hne:(x1 != x2)=false:=by simp[he]
     have HE:=Hd_ he;clear he
     go_wp2
     go_quiet (fail)
     go_wp2
     go_roundw
     case rel=>exact⟨k+1,_,by go_num,by omega,rfl,by rw[List.take_succ_eq_append_getElem hlt,List.take_succ_eq_append_getElem hlt2,HT.out,(List.getElem?_eq_some_iff.1 HX1.out).2,(List.getElem?_eq_some_iff.1 HX2.out).2,HE.out]⟩
     case measure=>simp[intOf];omega
    ·have hne:(x1 != x2)=true:=by simp[he]
     have hd:l1≠l2:=fun h=>he (by have:=HX1.out;rw[h,HX2.out] at this;injection this with this;exact this.symm)
     have HD:Hid (decide (l1=l2)=false):=decide_eq_false hd
     clear hd
     have HE:=Hd_ he;clear he
     go_wp2
     go_quiet (fail)
     go_wp2
     go_ret
     exact⟨by rw[HD.out];rfl,_,World.drewN_drewN _ _ _⟩
   ·have hd:l1=l2:=by
     have:=HT.out
     rwa [List.take_of_length_le (by omega),List.take_of_length_le (by rw[← HL.out];omega)] at this
    have HD:Hid (decide (l1=l2)=true):=decide_eq_true hd
    clear hd
    go_wp2
    go_ret
    exact⟨by rw[HD.out];rfl,_,rfl⟩
 ·have hb:((l1.length:Int) != (l2.length:Int))=true:=by simp;omega
  have hd:l1≠l2:=fun h=>hl (by rw[h])
  have HD:Hid (decide (l1=l2)=false):=decide_eq_false hd
  clear hd
  go_enter Tryd.func71,Tryd.ntmps71
  go_wp2
  go_ret
  exact⟨by rw[HD.out];rfl,0,rfl⟩
def nats (l:List Nat) : List Int:=l.map Int.ofNat
def foundF (s:HS) (x:Int) : Option Value:=if 0≤x∧s.found[x.toNat]? = some true then some (.bool true) else none
structure HMem (gt it:TypeId) (cg:List Value) (w:World) (n:Nat) (s:HS) (S:Nat→Prop) (cs:List Value) (v6:Value) (wr:World) : Prop where
 own:wr.ownsRow w.heap.size 3 1 v6 s.todo.length (ints (nats s.todo))
 box:Blk wr w.heap.size gt cg
 lk:Blk wr (w.heap.size+1) it cs
 len:cs.length=n
 lists:∀ (i:Nat) (v:Value),cs[i]? = some v→∃ l,s.locks[i]? = some l∧Ints (on wr S) v l
 sep:∀ b,S b→w.heap.size+2 < b∧b < wr.heap.size∧some b≠v6.ownBlock
 map:MapIs (fun x:Int=>Value.int .i64 x) decInt wr (w.heap.size+2) (foundF s)
 below:Below w.heap.size w wr
theorem MapIs.congr {κ:Type} [DecidableEq κ] {kv:κ→Value} {dec:Value→Option κ} {w:World} {b:Nat} {F F':κ→Option Value} (h:MapIs kv dec w b F) (e:∀ k,F k=F' k) : MapIs kv dec w b F':=by
 obtain⟨es,c,h1,h2,h3,h4⟩:=h
 exact⟨es,c,h1,h2,fun k=>(h3 k).trans (e k),h4⟩
theorem ZHe {κ:Type} [DecidableEq κ] {kv:κ→Value} {dec:Value→Option κ} {w:World} {b base k size:Nat} {e:TypeId} {v:Value} {xs:List Value} {F:κ→Option Value} (h:w.ownsRow base e size v k xs) (hm:MapIs kv dec w b F) : some b≠v.ownBlock:=by
 obtain⟨es,c,h1,_⟩:=hm
 rcases h.2 with⟨rfl,_⟩ | ⟨g',cap,cur,rfl,_,hh,_⟩
 ·simp[Value.ownBlock]
 ·intro he
  have:b=g':=by simpa [Value.ownBlock] using he
  subst this
  rw[h1] at hh
  cases hh
section
variable {gt it:TypeId} {cg:List Value} {w:World} {n:Nat} {s:HS} {S:Nat→Prop} {cs:List Value} {v6:Value} {wr wx:World}
theorem HMem.on_le (h:HMem gt it cg w n s S cs v6 wr) (hb:Below wr.heap.size wr wx) : (on wr S).le (on wx S) :=
 Zf (fun b hS _=>hb.block b (h.sep b hS).2.1) (fun _ h=>h)
theorem HMem.keep (h:HMem gt it cg w n s S cs v6 wr) (hb:Below wr.heap.size wr wx) : HMem gt it cg w n s S cs v6 wx where
 own:=h.own.kept (row:=none) ⟨hb.os,hb.tape,hb.output,hb.size,fun k hk _=>hb.block k hk⟩ (by
  cases hv:v6.ownBlock with
  | none=>exact .inl rfl
  | some x=>exact .inr (by simp))
 box:=h.box.below hb h.box.lt
 lk:=h.lk.below hb h.lk.lt
 len:=h.len
 lists:=fun i v hv=>by obtain⟨l,h1,h2⟩:=h.lists i v hv;exact⟨l,h1,h2.mono (h.on_le hb)⟩
 sep:=fun b hS=>⟨(h.sep b hS).1,Nat.lt_of_lt_of_le (h.sep b hS).2.1 hb.size,(h.sep b hS).2.2⟩
 map:=h.map.below hb h.map.lt
 below:=h.below.trans (hb.mono h.below.size)
theorem HMem.more (h:HMem gt it cg w n s S cs v6 wr) {S':Nat→Prop} (hS:∀ b,S b→S' b) (hs:∀ b,S' b→w.heap.size+2 < b∧b < wr.heap.size∧some b≠v6.ownBlock) : HMem gt it cg w n s S' cs v6 wr :=
 { h with
  lists:=fun i v hv=>by
   obtain⟨l,h1,h2⟩:=h.lists i v hv
   exact⟨l,h1,h2.mono (Zf (fun _ _ _=>rfl) hS)⟩
  sep:=hs }
theorem ZJH {α:Type} {R:CM→Nat→Nat→α→Prop} {f:α→Value} (hR:∀ m b o x,m b o=some (f x)→R m b o x) {base k:Nat} {e:TypeId} {v:Value} {l:List α} (h:wr.ownsRow base e 1 v k (l.map f)) (hS:∀ b,v.ownBlock=some b→S b) :
  Sl R 1 (on wr S) v l:=by
 have hl:k=l.length:=by have:=h.1;simpa using this.symm
 subst hl
 rcases h.2 with⟨rfl,h0⟩ | ⟨g,cap,cur,rfl,hb,hh,hnc,hcm,_⟩
 ·exact⟨none,0,by rw[h0],by omega,⟨by simp[maxLen],fun _=>rfl⟩,.inl (List.eq_nil_of_length_eq_zero h0)⟩
 ·refine⟨_,cap,rfl,hnc,⟨hcm,fun h=>by cases h⟩,.inr ⟨g,0,rfl,fun i x hx=>hR _ _ _ _ ?_⟩⟩
  have hi:i < l.length:=(List.getElem?_eq_some_iff.1 hx).1
  have:=h.cellAt i (by omega)
  refine ZDL ?_ (hS g rfl)
  rw[Nat.zero_add,Nat.mul_one,this]
  simp[hx]
theorem HMem.push (h:HMem gt it cg w n s S cs v6 wr) (hit : 3≠it) (hgt : 3≠gt) {d:Nat} (hd:d < n) (hlk:s.locks.length=n) (hfd:s.found.length=n) {now:List Int} {w1 w2 w5:World} {v v':Value} {o:Obj}
  (h1:MapIs (fun x:Int=>Value.int .i64 x) decInt w1 (w.heap.size+2) (fun k'=>if k'=(d:Int) then some (.bool true) else foundF s k')) (g1:wr.grownBy w1 (some (w.heap.size+2)))
  (h2:w2.ownsRow w1.heap.size 3 1 v now.length (ints now)) (b2:Below w1.heap.size w1 w2)
  (h5:w5.ownsRow w.heap.size 3 1 v' (s.todo.length+1) (ints (nats s.todo) ++ [.int .i64 (d:Int)])) (g5:((w2.setCell ⟨w.heap.size+1,d,none⟩ v).alloc o).grownBy w5 v6.ownBlock)
  (ob:v'.ownBlock=v6.ownBlock∨v'.ownBlock=some ((w2.setCell ⟨w.heap.size+1,d,none⟩ v).alloc o).heap.size) :
  HMem gt it cg w n ⟨s.locks.set d now,s.found.set d true,s.todo ++ [d]⟩ (fun b=>S b∨v.ownBlock=some b) (cs.set d v) v' w5∧(on wr S).le (on w5 (fun b=>S b∨v.ownBlock=some b)):=by
 have s1:=g1.size
 have s2:=b2.size
 have s5:=g5.size
 have sz4:((w2.setCell ⟨w.heap.size+1,d,none⟩ v).alloc o).heap.size=w2.heap.size+1:=by simp
 rw[sz4] at s5 ob
 have hbx:=h.box.lt
 have hlb:=h.lk.lt
 have hmb:=h.map.lt
 have chain:∀ b,b < wr.heap.size→b≠w.heap.size+1→b≠w.heap.size+2→some b≠v6.ownBlock→w5.heap[b]? = wr.heap[b]?:=by
  intro b hb h1 h2 h3
  rw[g5.block b (by omega) h3,Below.heap_alloc _ _ _ (by simp;omega),Below.heap_setCell _ _ _ _ h1,b2.block b (by omega),g1.block b hb (by simp;exact h2)]
 have hv:∀ b,v.ownBlock=some b→w1.heap.size≤b∧b < w2.heap.size:=fun b hb=>h2.lt b hb
 have h6:∀ b,v6.ownBlock=some b→w.heap.size≤b∧b < wr.heap.size:=fun b hb=>h.own.lt b hb
 have hle:(on wr S).le (on w5 (fun b=>S b∨v.ownBlock=some b)) :=
  Zf (fun b hS hb=>chain b hb (by have:=h.sep b hS;omega) (by have:=h.sep b hS;omega) (h.sep b hS).2.2) (fun b hS=>.inl hS)
 refine⟨{ own:=?_,box:=?_,lk:=?_,len:=by simpa using h.len,lists:=?_,sep:=?_,map:=?_,below:=?_ },hle⟩
 ·simpa [nats,ints] using h5
 ·unfold Blk
  rw[chain _ hbx (by omega) (by omega) (ZQ h.own h.box hgt)]
  exact h.box
 ·have k1:=(h.lk.grown g1 (by simp)).below b2 (by omega)
  exact((k1.set_ d v).alloc o).grown g5 (ZQ h.own h.lk hit)
 ·intro i u hu
  rw[List.getElem?_set] at hu
  split at hu
  ·rename_i e
   subst e
   rw[h.len,if_pos hd] at hu
   injection hu with hu
   subst hu
   refine⟨now,by rw[List.getElem?_set,if_pos rfl,hlk,if_pos hd],?_⟩
   have h3:w5.ownsRow w1.heap.size 3 1 v now.length (ints now):=by
    have hne:v.ownBlock≠some (w.heap.size+1):=fun e=>by have:=hv _ e;omega
    refine((ownsRow_setCell_other (a:=⟨w.heap.size+1,d,none⟩) h2 hne v).alloc o).kept g5 ?_
    cases h7:v.ownBlock with
    | none=>exact .inl rfl
    | some x=>refine .inr (fun e=>?_);have:=hv x h7;have:=h6 x e.symm;omega
   exact ZJH (fun _ _ _ _ h=>h) h3 (fun b hb=>.inr hb)
  ·rename_i e
   obtain⟨l,h3,h4⟩:=h.lists i u hu
   exact⟨l,by rw[List.getElem?_set,if_neg e];exact h3,h4.mono hle⟩
 ·intro b hb
  have key:w.heap.size+2 < b∧b < w5.heap.size∧some b≠v6.ownBlock∧b < w2.heap.size:=by
   rcases hb with hb | hb
   ·have:=h.sep b hb
    exact⟨this.1,by omega,this.2.2,by omega⟩
   ·have:=hv b hb
    refine⟨by omega,by omega,fun e=>?_,this.2⟩
    have:=h6 b e.symm
    omega
  refine⟨key.1,key.2.1,?_⟩
  rcases ob with e | e
  ·rw[e];exact key.2.2.1
  ·rw[e];intro e2;injection e2 with e2;omega
 ·have k1:=(((h1.below b2 h1.lt).setCell (p:=⟨w.heap.size+1,d,none⟩) (by simp) v).alloc o).grown g5 (ZHe h.own h.map)
  refine k1.congr fun k'=>?_
  unfold foundF
  by_cases e:k'=(d:Int)
  ·subst e
   simp only[if_true]
   rw[if_pos]
   refine⟨by omega,?_⟩
   rw[Int.toNat_natCast,List.getElem?_set,if_pos rfl,hfd,if_pos hd]
  ·rw[if_neg e]
   by_cases h0:0≤k'
   ·have:d≠k'.toNat:=by omega
    simp[h0,this]
   ·simp[h0]
 ·exact(((h.below.grown g1 h.below.size (fun k hk=>by injection hk with hk;omega)).trans (b2.mono (by omega))).setCell (by simp) v).alloc (by simp;omega) o |>.grown g5 (by simp;omega) (fun k hk=>(h6 k hk).1)
end
def bools (l:List Bool) : List Value:=l.map Value.bool
def SpreadRel (g:Graph) (cut:Int) (cs:List Value) (w:World) (k:Nat) (v6:Value) (wr:World) : Prop :=
 ∃ l t,wr.ownsRow w.heap.size 3 1 v6 t.length (ints t)∧Blk wr (w.heap.size+1) 4 (bools l)∧Blk wr w.heap.size 38 cs∧SI g cut l t (fun _=>False)∧Below w.heap.size w wr∧left l+t.length≤k∧k≤2 * g.nodes.length+1
def SpreadRel2 (g:Graph) (cut:Int) (cs:List Value) (w:World) (at_:Nat) (nd:Node) (m lo hi:Nat) (fv:Value) (k:Nat) (v6 v41:Value) (wr:World) : Prop :=
 ∃ l t j,v41=.int .i64 (j:Nat)∧j+k=(fol nd).length∧wr.ownsRow w.heap.size 3 1 v6 t.length (ints t)∧Blk wr (w.heap.size+1) 4 (bools l)∧Blk wr w.heap.size 38 cs∧Pend g cut l t at_ nd (fol nd) j ∧
  Below w.heap.size w wr∧left l+t.length≤m∧Ints (part wr lo hi) fv (fol nd)∧(∀ x,v6.ownBlock=some x→x < lo∨hi≤x)∧w.heap.size+1 < lo∧hi≤wr.heap.size
set_option maxRecDepth 100000 in
set_option maxHeartbeats 400000 in
theorem ZCc (g:Graph) (cs:List Value) (cut:Int) (w:World) (hw:WholeG g) (hg:GraphV (cmap w) cs g) :
  Calls Tryd.prog 58 #[.agg cs.toArray,.int .i64 cut] w fun e w'=>∃ v l,e=.returned v∧Bools (part w' w.heap.size w'.heap.size) v l∧l.length=g.nodes.length∧(∀ i,l[i]? = some true ↔ ReachC g cut i)∧Below w.heap.size w w':=by
 obtain⟨nv,rfl,A,c,rfl,hlc,hc,hn⟩:=hg
 have hpos:=hw.pos
 have hmost:=hw.most
 obtain⟨b,o,rfl,hnode⟩ : ∃ b o,A=some ⟨b,o,none⟩∧∀ i x,g.nodes[i]? = some x→NodeC (cmap w) b (o+i * 13) x:=by
  rcases hn with h | h
  ·rw[h] at hpos;simp at hpos
  ·exact h
 clear hn
 have hst:=SI.start cut hpos
 generalize hN:g.nodes.length=N at *
 have HN:=Hd_ hN;clear hN
 have h0:0 < N:=hpos
 go_enter Tryd.func58,Tryd.ntmps58
 go_wp2_with (refine ZAX ZES rfl rfl (.tmp 12) (.tmp 12) rfl N rfl rfl (by omega) (by omega) ?_)
 go_loopg [6] (2 * N+1) (fun k v6 wr=>SpreadRel g cut [.string g.name,.int .i64 g.locals,.int .i64 g.slots,.slice (some ⟨b,o,none⟩) N c] w k v6 wr)
 case atStart =>
  refine⟨_,[0],?_,?_,?_,hst,?_,?_,by rw[HN.out];omega⟩
  ·exact ZA8 _ _ _ (by simp) (by simp;omega) (by decide) (by rfl) _ rfl
  ·refine Blk.alloc (Blk.of (ZP _ _ _ (by simp)) ?_) _
   simp[bools]
  ·exact((Blk.new w _ _).alloc _).alloc _
  ·exact(((Below.refl _ _).alloc (Nat.le_refl _) _).alloc (by simp) _).alloc (by simp;omega) _
  ·have:left ((List.replicate N false).set 0 true)≤N:=by
    unfold left
    refine Nat.le_trans List.count_le_length ?_
    simp
   simp;omega
 case round =>
  obtain⟨l,t,hown,hout,hbox,hsi,hbel,hk,hk2⟩:=hrel
  rw[HN.out] at hk2
  rcases List.eq_nil_or_concat t with rfl | ⟨t',k,rfl⟩
  ·obtain⟨A,c6,rfl,_⟩:=ZE hown
   have hend:=hsi.done hw
   have hlen:l.length=N:=by rw[hsi.len,HN.out]
   have HL:=Hd_ hlen;clear hlen
   go_wp2
   go_ret
   refine⟨.slice (some ⟨w.heap.size+1,0,none⟩) N N,l,rfl,?_,HL.out,hend,hbel⟩
   exact ZA1 (fun _ _ _ _ h=>h) hout (by omega) (Nat.le_refl _) HL.out.symm (by omega)
  ·obtain⟨hk0,hkN,hkl⟩:=hsi.todo k (by simp)
   rw[HN.out] at hkN
   obtain⟨kn,rfl⟩:=Int.eq_ofNat_of_zero_le hk0
   rw[Int.toNat_natCast] at hkl
   have hsi1:SI g cut l t' (· = kn):=by
    have:=SI.pop (k:=(kn:Int)) (t:=t') hsi (fun x=>by simp)
    rwa [Int.toNat_natCast] at this
   clear hsi
   simp only[List.concat_eq_append,List.length_append,List.length_singleton] at hown hk
   obtain⟨g6,c6,rfl,hg6,hg6',hc6,hcell⟩:=ZW hown (by omega)
   have hlast:wr.cell? ⟨g6,t'.length,none⟩=some (.int .i64 (kn:Nat)):=by
    rw[hcell _ (by omega)];simp[ints]
   clear hcell
   have hpop:=ownsRow_pop (size:=1) (n:=t'.length) (xs:=ints t') (last:=[.int .i64 kn]) (by simp[ints]) (by simpa [ints] using hown)
   have hbc:=hbox.cell 3
   simp only[List.getElem?_cons_succ,List.getElem?_cons_zero] at hbc
   by_cases hcut:(kn:Int)=cut
   ·have hcb:((kn:Int) == cut)=true:=by simpa using hcut
    have hsi2:=hsi1.cut (k:=kn) (by omega) hcut
    have HC:=Hd_ hcut;clear hcut
    go_wp2
    go_roundg (left l+t'.length)
    case measure=>omega
    case rel=>exact⟨l,t',hpop,hout,hbox,hsi2,hbel,Nat.le_refl _,by rw[HN.out];omega⟩
   ·have hcb:((kn:Int) == cut)=false:=by simpa using hcut
    obtain⟨nd,hnd⟩ : ∃ nd,g.nodes[kn]? = some nd:=⟨g.nodes[kn]'(by rw[HN.out];omega),List.getElem?_eq_getElem _⟩
    have hnc:=hnode kn nd hnd
    have HND:=Hd_ hnd;clear hnd
    have hf2:=ZAt nd
    have hld:∀ j v,nd.cells[j]? = some v→wr.cell? ⟨b,o+kn * 13+j,none⟩=some v:=fun j v h=>ZA hbel _ _ _ (hnc j v h)
    have HLD:=Hd_ hld;clear hld
    clear hnc
    go_wp2_with (first | (refine ZC rfl 61 _ rfl b (o+kn * 13) rfl nd.cells _ HLD.out Tryd.underlying61 rfl (by kernel_rfl) ?_) | (go_at_call 70;refine(ZAD nd _).mono ?_;rintro e w1 ⟨fv,rfl,hf,hb1⟩;obtain⟨fA,fc,rfl,hfc,hfm,hfe⟩:=hf))
    have hps:=Pend.start (k:=(kn:Int)) (fs:=fol nd) (by omega) (by simpa using hsi1) (by simpa using hkl) hcut (by simpa using HND.out) (fun _=>Iff.rfl)
    rw[Int.toNat_natCast] at hps
    obtain⟨wo,rfl⟩ : ∃ wo:World,wo=wr:=⟨_,rfl⟩
    obtain⟨go,rfl⟩ : ∃ go:Nat,go=gk:=⟨_,rfl⟩
    have hsz:=hout.lt
    have hszz:=hb1.size
    go_loopg [6,41] ((fol nd).length) (fun k v6 v41 wr2=>SpreadRel2 g cut [.string g.name,.int .i64 g.locals,.int .i64 g.slots,.slice (some ⟨b,o,none⟩) N c] w kn nd (left l+t'.length) wo.heap.size w1.heap.size (.slice fA (fol nd).length fc) k v6 v41 wr2)
    case atStart =>
     refine⟨l,t',0,rfl,by omega,hpop.kept (row:=none) ⟨hb1.os,hb1.tape,hb1.output,hb1.size,fun k hk _=>hb1.block k hk⟩ (by simp[Value.ownBlock]),hout.below hb1 hout.lt,hbox.below hb1 hbox.lt,hps,hbel.trans (hb1.mono (by omega)),Nat.le_refl _,⟨fA,fc,rfl,hfc,hfm,hfe⟩,?_,hsz,Nat.le_refl _⟩
     intro x hx
     have:=(hpop.lt x hx).2
     omega
    case round =>
     obtain⟨l2,t2,j,rfl,hjk,hown2,hout2,hbox2,hp,hbel2,hm,hfi,hsep,hlo,hhi⟩:=hrel
     clear hout hbox hlast hpop hown hbc hsi1 hkl hps
     by_cases hlt:j < (fol nd).length
     ·have hx:(fol nd)[j]? = some ((fol nd)[j]):=List.getElem?_eq_getElem hlt
      generalize (fol nd)[j]=x at hx
      have hxb:=hw.fol nd (List.mem_of_getElem? HND.out) x (List.mem_of_getElem? hx)
      rw[HN.out] at hxb
      obtain⟨xn,rfl⟩:=Int.eq_ofNat_of_zero_le hxb.1
      obtain⟨bf,of,rfl,hfc1⟩:=hfi.at_ hx
      obtain⟨hfc2,hbf1,hbf2⟩:=Zl hfc1
      rw[Nat.mul_one] at hfc2
      have hoc:=hout2.cell xn
      have hlx:xn < l2.length:=by rw[hp.1.len,HN.out];omega
      have HJ:=Hd_ hjk;clear hjk
      cases hbv:l2[xn]? with
      | none=>rw[List.getElem?_eq_none_iff] at hbv;omega
      | some bv =>
      have hoc2:wr.cell? ⟨w.heap.size+1,xn,none⟩=some (.bool bv):=by rw[hoc];simp[bools,hbv]
      clear hoc
      have HX:=Hd_ hx;clear hx
      have HBV:=Hd_ hbv;clear hbv
      cases bv with
      | true =>
       go_wp2
       go_roundg (gk - 1)
       case measure=>have:=HJ.out;omega
       case rel=>exact⟨l2,t2,j+1,by go_num,by have:=HJ.out;omega,hown2,hout2,hbox2,hp.seen HX.out (by simpa using HBV.out),hbel2,hm,hfi,hsep,hlo,hhi⟩
      | false =>
       have hfz:=hout2.frozen xn
       clear hfe hfc1
       have hne:=ZQ hown2 hout2 (by decide)
       have hown3:=(ownsRow_setCell_other (a:=⟨w.heap.size+1,xn,none⟩) hown2 (fun e=>hne e.symm) (.bool true)).alloc (.cells #[.int .i64 (xn:Nat)] 3)
       have hbt:(bools l2).set xn (.bool true)=bools (l2.set xn true):=by simp[bools,List.map_set]
       have hout3:=(hout2.set_ xn (.bool true)).alloc (.cells #[.int .i64 (xn:Nat)] 3)
       rw[hbt] at hout3
       have HOUT:=Hd_ hout3;clear hout3 hbt
       have hbox3:=(hbox2.far (p:=⟨w.heap.size+1,xn,none⟩) (by simp) (.bool true)).alloc (.cells #[.int .i64 (xn:Nat)] 3)
       go_wp2_with (refine ZN rfl ?_)
       refine Stop.intro ?_
       refine Zg Z2 rfl _ _ rfl w.heap.size u6 t2.length (ints t2) rfl hown3 wr.heap.size 0 1 [.int .i64 (xn:Nat)] rfl rfl (Za _ _ _ _ (by simp)) (by simp[Value.oneCell']) (by omega) (by decide) (by simp;omega) ?_
       intro v' w' hown4 hgr hob
       have hw':=hgr.size
       go_wp2
       go_roundg (gk - 1)
       case measure=>have:=HJ.out;omega
       case rel =>
        have hls:=ZBA l2 xn HBV.out
        refine⟨l2.set xn true,t2 ++ [(xn:Int)],j+1,by go_num,by have:=HJ.out;omega,by simpa [ints] using hown4,HOUT.out.grown hgr (ZQ hown2 hout2 (by decide)),hbox3.grown hgr (ZQ hown2 hbox2 (by decide)),?_,?_,?_,?_,?_,hsz,?_⟩
        ·have:=hp.fresh hw HX.out (t2 ++ [(xn:Int)]) (fun x=>by simp)
         simpa using this
        ·exact((hbel2.setCell (by simp) _).alloc (by simp;omega) _).grown hgr (by simp;omega) (fun k hk=>Z5 hown2 k hk)
        ·simp;omega
        ·refine hfi.mono (Zc fun b hb1 hb2=>?_)
         rw[hgr.block b (by simp;omega) ?_,Below.heap_alloc _ _ _ (by simp;omega),Below.heap_setCell _ _ _ _ (by simp;omega)]
         intro e
         have:=hsep b e.symm
         omega
        ·intro x hx
         rcases hob with e | e
         ·exact hsep x (by rw[← e];exact hx)
         ·rw[e] at hx;injection hx with hx;subst hx;simp;omega
        ·simp at hw';omega
     ·have hj:j=(fol nd).length:=by omega
      have hdone:=hp.done (by omega)
      clear hjk
      have HJ:=Hd_ hj;clear hj
      have hlt':¬ ((j:Int) < (fol nd).length):=by omega
      go_wp2
      go_roundg (left l2+t2.length)
      case measure=>omega
      case rel=>exact⟨l2,t2,hown2,hout2,hbox2,hdone,hbel2,Nat.le_refl _,by rw[HN.out];omega⟩
set_option maxHeartbeats 400000 in
theorem ZAb (s:ByteArray) (l:List ByteArray) (b:Nat) (a:Addr) (w:World) (hc:w.cell? a=some (.map (some b))) (hm:MapIs (fun n:List UInt8=>Value.string ⟨n.toArray⟩) decStr w b (seenF l)) :
  Calls Tryd.prog 65 #[.string s,.pointer (some a)] w fun e w'=>e=.returned (.bool (nameB s && !(inB l s)))∧MapIs (fun n:List UInt8=>Value.string ⟨n.toArray⟩) decStr w' b (seenF (l ++ [s]))∧w.grownBy w' (some b):=by
 have hs:(Value.string s)=Value.string ⟨(keyOf s).toArray⟩:=(ZGe s).symm
 have HS:=Hd_ hs;clear hs
 cases hn:nameB s
 ·go_enter Tryd.func65,Tryd.ntmps65
  go_wp2_with (first | (go_at_call 66;refine(ZD7 s _).mono ?_;rintro e w1 ⟨rfl,rfl⟩;rw[hn]) | (refine Zn rfl ?_))
  refine Stop.intro ?_
  refine Zu ZJg Tryd.underlying134 rfl _ _ _ (.inl rfl) b (seenF l) hm (keyOf s) (.bool true) rfl HS.out rfl ?_
  intro w3 hm4 hg4
  rw[ZD1] at hm4
  go_wp2_with fail
  go_ret
  exact⟨rfl,hm4,hg4⟩
 ·go_enter Tryd.func65,Tryd.ntmps65
  go_wp2_with (first | (go_at_call 66;refine(ZD7 s _).mono ?_;rintro e w1 ⟨rfl,rfl⟩;rw[hn]) | (refine Zo rfl ?_))
  refine Stop.intro ?_
  refine ZFa ZJg Tryd.underlying134 (by rfl) _ _ rfl b (seenF l) hm (keyOf s) rfl HS.out (.bool false) (by kernel_rfl) ?_
  rw[ZHY]
  go_wp2_with (refine Zn rfl ?_)
  refine Stop.intro ?_
  refine Zu ZJg Tryd.underlying134 rfl _ _ _ (.inl rfl) b (seenF l) hm (keyOf s) (.bool true) rfl HS.out rfl ?_
  intro w3 hm4 hg4
  rw[ZD1] at hm4
  go_wp2_with fail
  go_ret
  exact⟨by simp,hm4,hg4⟩
end Go.Proofs.YtffgnjgphkdodaaDoor
