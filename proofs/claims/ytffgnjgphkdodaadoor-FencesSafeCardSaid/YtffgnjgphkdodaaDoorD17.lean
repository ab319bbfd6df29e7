import Derived.Test.YtffgnjgphkdodaaDoorD16
import Derived.Test.YtffgnjgphkdodaaDoorD7
namespace Go.Proofs.YtffgnjgphkdodaaDoor
open Go Go.RowKit
structure RowsV (w:World) (base X:Nat) (vs:List Value) (ls:List (List Int)) : Prop where
 blk:Blk w X 39 vs
 len:vs.length=ls.length
 own:∀ (i:Nat) (v:Value) (l:List Int),vs[i]? = some v→ls[i]? = some l→w.ownsRow base 3 1 v l.length (ints l)
 sep:∀ (i j:Nat) (v v':Value) (b:Nat),vs[i]? = some v→vs[j]? = some v'→v.ownBlock=some b→v'.ownBlock=some b→i=j
theorem RowsV.below {w w':World} {base X:Nat} {vs:List Value} {ls:List (List Int)} (h:RowsV w base X vs ls) (hb:Below w.heap.size w w') : RowsV w' base X vs ls :=
 ⟨h.blk.below hb h.blk.lt,h.len,fun i v l hv hl=>(h.own i v l hv hl).kept (row:=none) ⟨hb.os,hb.tape,hb.output,hb.size,fun k hk _=>hb.block k hk⟩ (by cases h:v.ownBlock <;> simp),h.sep⟩
theorem RowsV.grow {w w':World} {base X i:Nat} {vs:List Value} {ls:List (List Int)} {v v':Value} {l:List Int} {x:Int} (h:RowsV w base X vs ls) (hv:vs[i]? = some v) (hl:ls[i]? = some l) (hg:w.grownBy w' v.ownBlock) (ho:w'.ownsRow base 3 1 v' (l.length+1) (ints l ++ [.int .i64 x])) (hob:v'.ownBlock=v.ownBlock∨v'.ownBlock=some w.heap.size) :
  RowsV (w'.setCell ⟨X,i,none⟩ v') base X (vs.set i v') (ls.set i (l ++ [x])):=by
 have hX:Blk w' X 39 vs:=h.blk.grown hg (ZQ (h.own i v l hv hl) h.blk (by decide))
 have hil:i < vs.length:=(List.getElem?_eq_some_iff.1 hv).1
 have hlt:∀ (j:Nat) (v:Value) (b:Nat),vs[j]? = some v→v.ownBlock=some b→b < w.heap.size:=fun j v b hj hb=>by
  have hjl:j < ls.length:=by have:=(List.getElem?_eq_some_iff.1 hj).1;have:=h.len;omega
  exact((h.own j v _ hj (List.getElem?_eq_getElem hjl)).lt b hb).2
 have hxl:=h.blk.lt
 refine⟨hX.set_ i v',by simpa using h.len,fun j u m hj hm=>?_,fun a b u u' k ha hb hu hu'=>?_⟩
 ·rw[List.getElem?_set] at hj hm
  by_cases e:i=j
  ·subst e
   rw[if_pos rfl,if_pos hil] at hj
   rw[if_pos rfl,if_pos (by have:=h.len;omega)] at hm
   injection hj with hj
   injection hm with hm
   subst hj hm
   refine ownsRow_setCell_other ?_ ?_ _
   ·simpa [ints] using ho
   ·intro e
    rcases hob with q | q
    ·rw[q] at e
     exact ZQ (h.own i v l hv hl) h.blk (by decide) e.symm
    ·rw[q] at e
     injection e with e
     simp at e
     omega
  ·rw[if_neg e] at hj hm
   have ho2:=h.own j u m hj hm
   refine ownsRow_setCell_other (ho2.kept hg ?_) (fun e2=>ZQ ho2 h.blk (by decide) e2.symm) _
   cases hq:u.ownBlock with
   | none=>exact .inl rfl
   | some b =>
    refine .inr fun e3=>e ?_
    exact h.sep i j v u b hv hj e3.symm hq
 ·rw[List.getElem?_set] at ha hb
  by_cases e:i=a
  ·by_cases e2:i=b
   ·omega
   ·exfalso
    rw[if_pos e,if_pos hil] at ha
    rw[if_neg e2] at hb
    injection ha with ha
    subst ha
    rcases hob with q | q
    ·rw[q] at hu
     exact e2 (h.sep i b v u' k hv hb hu hu')
    ·rw[q] at hu
     injection hu with hu
     have:=hlt b u' k hb hu'
     omega
  ·by_cases e2:i=b
   ·exfalso
    rw[if_neg e] at ha
    rw[if_pos e2,if_pos hil] at hb
    injection hb with hb
    subst hb
    rcases hob with q | q
    ·rw[q] at hu'
     exact e (h.sep i a v u k hv ha hu' hu)
    ·rw[q] at hu'
     injection hu' with hu'
     have:=hlt a u k ha hu
     omega
   ·rw[if_neg e] at ha
    rw[if_neg e2] at hb
    exact h.sep a b u u' k ha hb hu hu'
theorem RowsV.sl {w:World} {base X:Nat} {vs:List Value} {ls:List (List Int)} (h:RowsV w base X vs ls) (hb:base≤X) (hl:ls.length < 4294967296) : Ints2 (part w base w.heap.size) (.slice (some ⟨X,0,none⟩) ls.length ls.length) ls:=by
 have hx:=h.blk.lt
 refine⟨_,ls.length,rfl,Nat.le_refl _,⟨by simp only[maxLen];omega,fun e=>by cases e⟩,.inr ⟨X,0,rfl,fun i l hi=>?_⟩⟩
 have hil:=(List.getElem?_eq_some_iff.1 hi).1
 have hv:vs[i]? = some (vs[i]'(by rw[h.len];exact hil)):=List.getElem?_eq_getElem _
 refine⟨_,?_,ZA0 (f:=fun x:Int=>Value.int .i64 x) (R:=IntC) (fun _ _ _ _ h=>h) (h.own i _ l hv hi) (Nat.le_refl _) (Nat.le_refl _)⟩
 unfold part
 rw[if_pos ⟨hb,hx⟩,Nat.zero_add,Nat.mul_one,h.blk.cell]
 exact hv
def predK (g:Graph) : Nat→Nat→List Int
 | 0,_=>[]
 | k+1,s=>predK g k s ++ (match g.nodes[k]? with
  | some n=>if (s:Int)∈fol n then [(k:Int)] else []
  | none=>[])
theorem ZAo (g:Graph) (s:Nat) : ∀ (k:Nat) (x:Int),x∈predK g k s ↔ ∃ i n,x=((i:Nat) : Int)∧i < k∧g.nodes[i]? = some n∧(s:Int)∈fol n
 | 0,x=>by simp[predK]
 | k+1,x=>by
  unfold predK
  rw[List.mem_append,ZAo g s k x]
  constructor
  ·rintro(⟨i,n,h1,h2,h3,h4⟩ | h)
   ·exact⟨i,n,h1,by omega,h3,h4⟩
   ·cases hn:g.nodes[k]? with
    | none=>rw[hn] at h;cases h
    | some n =>
     rw[hn] at h
     simp only at h
     by_cases c:(s:Int)∈fol n
     ·rw[if_pos c,List.mem_singleton] at h
      exact⟨k,n,h,by omega,hn,c⟩
     ·rw[if_neg c] at h;cases h
  ·rintro⟨i,n,h1,h2,h3,h4⟩
   by_cases e:i=k
   ·subst e
    refine .inr ?_
    rw[h3]
    simp only[if_pos h4,List.mem_singleton]
    exact h1
   ·exact .inl ⟨i,n,h1,by omega,h3,h4⟩
theorem Z3 (g:Graph) (s:Nat) : ∀ k,(predK g k s).length≤k
 | 0=>by simp[predK]
 | k+1=>by
  have:=Z3 g s k
  unfold predK
  rw[List.length_append]
  have h1:(match g.nodes[k]? with | some n=>if (s:Int)∈fol n then [(k:Int)] else [] | none=>[]).length≤1:=by
   split
   ·split <;> simp
   ·simp
  omega
def rowsM (g:Graph) (k:Nat) (l:List Int) : List (List Int):=(List.range g.nodes.length).map fun s=>predK g k s ++ if (s:Int)∈l then [(k:Int)] else []
theorem ZAT (g:Graph) (k:Nat) (l:List Int) : (rowsM g k l).length=g.nodes.length:=by simp[rowsM]
theorem ZEW (g:Graph) (k:Nat) (l:List Int) {s:Nat} (h:s < g.nodes.length) : (rowsM g k l)[s]? = some (predK g k s ++ if (s:Int)∈l then [(k:Int)] else []):=by simp[rowsM,h]
theorem ZGl (g:Graph) : rowsM g 0 []=List.replicate g.nodes.length []:=by
 unfold rowsM
 apply List.ext_getElem?
 intro i
 rw[List.getElem?_map,List.getElem?_replicate]
 by_cases h:i < g.nodes.length
 ·rw[List.getElem?_range h];simp[h,predK]
 ·rw[List.getElem?_eq_none (by simpa using h)];simp[h]
theorem ZGm (g:Graph) {k:Nat} {n:Node} (hn:g.nodes[k]? = some n) : rowsM g k (fol n)=rowsM g (k+1) []:=by
 unfold rowsM
 refine List.map_congr_left fun s _=>?_
 simp only[predK,hn,List.not_mem_nil,if_false,List.append_nil]
theorem ZHa (g:Graph) (k:Nat) (l:List Int) {s:Nat} (hs:s < g.nodes.length) (_hl:(s:Int) ∉ l) : (rowsM g k l).set s (predK g k s ++ [(k:Int)])=rowsM g k (l ++ [(s:Int)]):=by
 apply List.ext_getElem?
 intro i
 rw[List.getElem?_set,ZAT]
 by_cases hi:i < g.nodes.length
 ·rw[ZEW g k _ hi,ZEW g k _ hi]
  by_cases e:s=i
  ·subst e
   rw[if_pos rfl,if_pos hs,if_pos (by simp)]
  ·rw[if_neg e]
   have:((i:Int)∈l ++ [(s:Int)]) ↔ (i:Int)∈l:=by simp;omega
   by_cases c:(i:Int)∈l
   ·rw[if_pos c,if_pos (this.2 c)]
   ·rw[if_neg c,if_neg (fun h=>c (this.1 h))]
 ·rw[if_neg (by omega),List.getElem?_eq_none (by rw[ZAT];omega),List.getElem?_eq_none (by rw[ZAT];omega)]
theorem ZH3 (n:Node) {i j:Nat} {x:Int} (hi:(fol n)[i]? = some x) (hj:(fol n)[j]? = some x) : i=j:=by
 unfold fol at hi hj
 split at hi
 ·simp at hi
 ·rename_i h9
  rw[if_neg h9] at hj
  split at hi
  ·rename_i h8
   rw[if_pos h8] at hj
   have hne:=h8.2
   match i,j with
   | 0,0=>rfl
   | 1,1=>rfl
   | 0,1=>simp at hi hj;omega
   | 1,0=>simp at hi hj;omega
   | i+2,_=>simp at hi
   | _,j+2=>simp at hj
  ·rename_i h8
   rw[if_neg h8] at hj
   match i,j with
   | 0,0=>rfl
   | i+1,_=>simp at hi
   | _,j+1=>simp at hj
theorem ZFJ (n:Node) {j:Nat} {x:Int} (hj:(fol n)[j]? = some x) : x ∉ (fol n).take j:=by
 intro h
 obtain⟨i,hi⟩:=List.mem_iff_getElem?.1 h
 rw[List.getElem?_take] at hi
 split at hi
 ·have:=ZH3 n hi hj;omega
 ·cases hi
def AhPost (g:Graph) (w:World) (e:Ending) (w':World) : Prop:=∃ v,e=.returned v∧Ints2 (part w' w.heap.size w'.heap.size) v ((List.range g.nodes.length).map (predK g g.nodes.length))∧Below w.heap.size w w'
set_option maxRecDepth 100000 in
set_option maxHeartbeats 2000000 in
theorem ZBF (g:Graph) (cs:List Value) (w:World) (hw:WholeG g) (hg:GraphV (cmap w) cs g) :
  Calls Tryd.prog 59 #[.agg cs.toArray] w (AhPost g w):=by
 have HWC:=Hd_ (fun w1 (h:Below w.heap.size w w1)=>ZA3 g cs w1 hw (hg.mono (ZA h)))
 obtain⟨nv,rfl,hn⟩:=hg
 obtain⟨nA,nc,rfl,-⟩:=id hn
 have bn:=hn.len.2.2
 have hpos:=hw.pos
 have hmost:=hw.most
 obtain⟨N,HN⟩ : ∃ N,Hid (g.nodes.length=N):=⟨_,rfl⟩
 rw[HN.out] at bn hpos hmost HWC ⊢
 have HG:=Hd_ hn
 have HW:=Hd_ hw
 clear hn hw
 have h0:0 < N:=hpos
 have hbx:=Blk.new w 38 [.string g.name,.int .i64 g.locals,.int .i64 g.slots,.slice nA N nc]
 have hb0:=ZB w (.cells #[.string g.name,.int .i64 g.locals,.int .i64 g.slots,.slice nA N nc] 38)
 have HBX:=Hd_ hbx
 have HB0:=Hd_ hb0
 clear hbx hb0
 go_enter Tryd.func59,Tryd.ntmps59
 go_wp2_with (first
  | (go_at_call 57
     refine(HWC.out _ HB0.out).mono ?_
     rintro e w1 ⟨rfl,hb1⟩
     have hbx1:=HBX.out.below hb1 HBX.out.lt
     have c3:=hbx1.cell 3
     have hlt1:=hbx1.lt
     have HB1:=Hd_ (And.intro (HB0.out.trans (hb1.mono (HB0.out.size))) hbx1)
     clear hb1 hbx1)
  | (refine ZAX ZER rfl rfl (.tmp 13) (.tmp 13) rfl N rfl rfl (by omega) (by omega) ?_))
 have hinit:RowsV (w1.alloc (.cells (List.replicate N (Value.slice none 0 0)).toArray 39)) w.heap.size w1.heap.size (List.replicate N (.slice none 0 0)) (rowsM g 0 []):=by
  refine⟨Blk.new _ _ _,by rw[ZAT,HN.out];simp,fun i v l hv hl=>?_,fun i j v v' b hi _ hb _=>?_⟩
  ·rw[List.getElem?_replicate] at hv
   split at hv
   ·injection hv with hv
    rw[ZGl,List.getElem?_replicate] at hl
    split at hl
    ·injection hl with hl
     subst hv hl
     exact World.ownsRow_nil _ _ _ _
    ·cases hl
   ·cases hv
  ·rw[List.getElem?_replicate] at hi
   split at hi
   ·injection hi with hi
    subst hi
    cases hb
   ·cases hi
 have HINI:=Hd_ hinit
 have HBW:=Hd_ (HB1.out.1.alloc (Nat.le_of_lt hlt1) (.cells (List.replicate N (Value.slice none 0 0)).toArray 39))
 have HBG:=Hd_ (HB1.out.2.alloc (.cells (List.replicate N (Value.slice none 0 0)).toArray 39))
 clear hinit c3
 go_loopw [18] (fun v18 wr=>∃ (k:Nat) (vs:List Value),v18=.int .i64 k∧k≤N∧Hid (RowsV wr w.heap.size w1.heap.size vs (rowsM g k []))∧Hid (Below w.heap.size w wr)∧Hid (Blk wr w.heap.size 38 [.string g.name,.int .i64 g.locals,.int .i64 g.slots,.slice nA N nc])) (fun v18 _=>N - (intOf v18).toNat)
 case atStart=>exact⟨0,_,rfl,Nat.zero_le _,HINI,HBW,HBG⟩
 case round =>
  obtain⟨k,vs,rfl,hk,HR,HB,HBX⟩:=hrel
  obtain⟨wo,rfl⟩ : ∃ wo:World,wo=wr:=⟨_,rfl⟩
  by_cases hlt:k < N
  ·obtain⟨nd,hnd⟩ : ∃ nd,g.nodes[k]? = some nd:=⟨g.nodes[k]'(by rw[HN.out];exact hlt),List.getElem?_eq_getElem _⟩
   obtain⟨nb,no,e,hnc⟩:=HG.out.at_ hnd
   subst e
   have HND:=Hd_ hnd
   have hf1:=ZAt nd
   have hkc:Hid (∀ (q:Nat) (x:Int),(fol nd)[q]? = some x→0≤x∧x < N):=Hd_ fun q x hq=>by
    have:=HW.out.fol nd (List.mem_of_getElem? HND.out) x (List.mem_of_getElem? hq)
    rwa [HN.out] at this
   have hld:∀ j v,nd.cells[j]? = some v→wo.cell? ⟨nb,no+k * 13+j,none⟩=some v:=fun j v h=>ZA HB.out _ _ _ (hnc j v h)
   have hld2:∀ j v,nd.cells[j]? = some v→(wo.alloc (.cells nd.cells.toArray 61)).cell? ⟨wo.heap.size,0+j,none⟩=some v:=ZL wo nd.cells _ _ rfl
   have HLD:=Hd_ hld
   have HLD2:=Hd_ hld2
   have hk0:(0:Int)≤k:=by omega
   have hki:(k:Int) < N:=by omega
   have hks:(k:Int)≤4096:=by omega
   have HR2:=Hd_ (HR.out.below (ZB wo (.cells nd.cells.toArray 61)))
   have HB2:=Hd_ (HB.out.alloc HB.out.size (.cells nd.cells.toArray 61))
   have HBX2:=Hd_ (HBX.out.alloc (.cells nd.cells.toArray 61))
   have hX0:=HR.out.blk.lt
   clear hld hld2 hnc hnd
   unfold Node.cells at HLD HLD2
   go_wp2_with (first
    | (refine ZC rfl 61 _ rfl nb (no+k * 13) rfl _ _ HLD.out Tryd.underlying61 rfl (by kernel_rfl) ?_)
    | (refine ZC rfl 61 _ rfl wo.heap.size 0 rfl _ _ HLD2.out Tryd.underlying61 rfl (by kernel_rfl) ?_)
    | (go_at_call 70
       refine(ZAD nd _).mono ?_
       rintro e w3 ⟨fv,rfl,hf,hb3⟩
       obtain⟨fA,fc,rfl,hfc,hfm,hfe⟩:=hf
       have HFV:Hid (Ints (part w3 (wo.alloc (.cells nd.cells.toArray 61)).heap.size w3.heap.size) (.slice fA (fol nd).length fc) (fol nd)):=Hd_ ⟨fA,fc,rfl,hfc,hfm,hfe⟩
       have HB3:=Hd_ (And.intro (HR2.out.below hb3) (And.intro (HB2.out.trans (hb3.mono HB2.out.size)) (HBX2.out.below hb3 HBX2.out.lt)))
       have HSZ:Hid ((wo.alloc (.cells nd.cells.toArray 61)).heap.size≤w3.heap.size):=Hd_ hb3.size
       clear hb3 hfe hfc hfm))
   clear HLD HLD2 HBX HB HB2 HBX2
   have hsep:Hid (∀ (i:Nat) (v:Value) (b:Nat),vs[i]? = some v→v.ownBlock=some b→b < (wo.alloc (.cells nd.cells.toArray 61)).heap.size∨w3.heap.size≤b):=Hd_ fun i v b hv hb=>by
    have hil:i < (rowsM g k []).length:=by have:=(List.getElem?_eq_some_iff.1 hv).1;have:=HR2.out.len;omega
    exact .inl ((HR2.out.own i v _ hv (List.getElem?_eq_getElem hil)).lt b hb).2
   have hXl:w1.heap.size < (wo.alloc (.cells nd.cells.toArray 61)).heap.size:=by simp;omega
   obtain⟨lo,hlo⟩ : ∃ lo,(wo.alloc (.cells nd.cells.toArray 61)).heap.size=lo:=⟨_,rfl⟩
   obtain⟨hi,hhi⟩ : ∃ hi,w3.heap.size=hi:=⟨_,rfl⟩
   have hhi':Hid (hi≤w3.heap.size):=Hd_ (by omega)
   rw[hlo] at HFV hsep HSZ hXl
   rw[hhi] at HFV hsep HSZ
   have HLO:=Hd_ hlo
   clear hlo hhi HR HR2
   go_loopw [26] (fun v26 wi=>∃ (q:Nat) (vs2:List Value),v26=.int .i64 q∧q≤(fol nd).length∧Hid (RowsV wi w.heap.size w1.heap.size vs2 (rowsM g k ((fol nd).take q)))∧Hid (Below w.heap.size w wi)∧Hid (Blk wi w.heap.size 38 [.string g.name,.int .i64 g.locals,.int .i64 g.slots,.slice (some ⟨nb,no,none⟩) N nc])∧Hid (Ints (part wi lo hi) (.slice fA (fol nd).length fc) (fol nd))∧Hid (hi≤wi.heap.size)∧Hid (∀ (i:Nat) (v:Value) (b:Nat),vs2[i]? = some v→v.ownBlock=some b→b < lo∨hi≤b)) (fun v26 _=>(fol nd).length - (intOf v26).toNat)
   case atStart=>exact⟨0,vs,rfl,Nat.zero_le _,Hd_ (by simpa using HB3.out.1),Hd_ HB3.out.2.1,Hd_ HB3.out.2.2,HFV,hhi',hsep⟩
   case round =>
    obtain⟨q,vs2,rfl,hq,HR,HB,HBX,HFI,HHI,HSEP⟩:=hrel
    by_cases hql:q < (fol nd).length
    ·obtain⟨x,hx⟩ : ∃ x,(fol nd)[q]? = some x:=⟨_,List.getElem?_eq_getElem hql⟩
     obtain⟨hx0,hxN⟩:=hkc.out q x hx
     obtain⟨xn,rfl⟩:=Int.eq_ofNat_of_zero_le hx0
     have hxn:xn < N:=by omega
     obtain⟨fb,fo,rfl,hfc⟩:=HFI.out.at_ hx
     rw[Nat.mul_one] at hfc
     obtain⟨hfc1,-,-⟩:=Zl hfc
     have hfr:xn < vs2.length:=by rw[HR.out.len,ZAT,HN.out];exact hxn
     obtain⟨rv,hrv⟩ : ∃ rv,vs2[xn]? = some rv:=⟨_,List.getElem?_eq_getElem hfr⟩
     have hrl:=ZEW g k ((fol nd).take q) (s:=xn) (by rw[HN.out];exact hxn)
     rw[if_neg (ZFJ nd hx),List.append_nil] at hrl
     have how:=HR.out.own xn rv _ hrv hrl
     obtain⟨rA,rc,rfl,-⟩:=ZE how
     have hXc:=HR.out.blk.cell xn
     rw[hrv] at hXc
     have hXf:=HR.out.blk.frozen xn
     have hpl:=Z3 g xn k
     have hX1:=HR.out.blk.lt
     have hws:=HB.out.size
     have how2:=how.alloc (.cells #[.int .i64 (k:Int)] 3)
     have HR2:=Hd_ (HR.out.below (ZB wr (.cells #[.int .i64 (k:Int)] 3)))
     have HX:=Hd_ (And.intro hx (And.intro hrv hrl))
     have hq0:(0:Int)≤q:=by omega
     have hqi:(q:Int) < (fol nd).length:=by omega
     have hne:=ZQ how HR.out.blk (by decide)
     have HOW:=Hd_ how
     have hpl2:(predK g k xn).length≤4096:=by omega
     clear hx hrv hrl hfc how hpl
     go_wp2_with (refine ZN rfl ?_)
     refine Stop.intro ?_
     refine Zg Z2 rfl _ _ rfl w.heap.size (.slice rA (predK g k xn).length rc) (predK g k xn).length (ints (predK g k xn)) rfl how2 _ 0 1 [.int .i64 (k:Int)] rfl rfl (Za _ _ _ _ rfl) (by simp[Value.oneCell']) (by omega) (by decide) (by simp;omega) ?_
     intro v' w4 hown5 hgr hobn
     obtain⟨vA,vc,rfl,-⟩:=ZE hown5
     have hXc4:w4.cell? ⟨w1.heap.size,xn,none⟩=some (.slice rA (predK g k xn).length rc):=by
      rw[World.cell?_of_block (w:=wr) (hgr.block w1.heap.size (by simp;omega) hne |>.trans (Below.heap_alloc _ _ _ hX1))];exact hXc
     have hXf4:w4.frozen? ⟨w1.heap.size,xn,none⟩=false:=by
      rw[World.frozen?_of_block (w:=wr) (hgr.block w1.heap.size (by simp;omega) hne |>.trans (Below.heap_alloc _ _ _ hX1))];exact hXf
     have hgrow:=HR2.out.grow HX.out.2.1 HX.out.2.2 hgr hown5 hobn
     rw[ZHa g k _ (by rw[HN.out];exact hxn) (ZFJ nd HX.out.1)] at hgrow
     have htk:(fol nd).take q ++ [(xn:Int)]=(fol nd).take (q+1):=by rw[List.take_succ_eq_append_getElem hql];congr 2;have:=HX.out.1;rw[List.getElem?_eq_getElem hql] at this;injection this with this;exact this.symm
     rw[htk] at hgrow
     have HG2:=Hd_ (And.intro hgrow (And.intro hgr (And.intro hown5 hobn)))
     have hs4:wr.heap.size < w4.heap.size:=by have:=hgr.size;simp at this;omega
     clear hgrow hgr hown5 hobn htk how2 hne
     go_wp2
     go_roundw
     case rel =>
      have hb4:Below w.heap.size w w4:=(HB.out.alloc hws _).grown HG2.out.2.1 (by simp;omega) (fun b hb=>by have:=Z5 HOW.out b hb;omega)
      refine⟨q+1,vs2.set xn (.slice vA ((predK g k xn).length+1) vc),by go_num,by omega,Hd_ HG2.out.1,Hd_ (hb4.setCell (p:=⟨w1.heap.size,xn,none⟩) (by show w.heap.size≤w1.heap.size;omega) _),?_,?_,?_,?_⟩
      ·have h1:=((HBX.out.alloc (.cells #[.int .i64 (k:Int)] 3)).grown HG2.out.2.1 (ZQ HOW.out HBX.out (by decide)))
       exact Hd_ (h1.far (p:=⟨w1.heap.size,xn,none⟩) (by show w.heap.size≠w1.heap.size;omega) _)
      ·refine Hd_ (HFI.out.mono (Zc fun b hb1 hb2=>?_))
       have hbs:b < wr.heap.size:=by have:=HHI.out;omega
       rw[Below.heap_setCell _ _ _ _ (by show b≠w1.heap.size;omega),HG2.out.2.1.block b (by simp;omega) (fun e=>by
        rcases HSEP.out xn _ b HX.out.2.1 e.symm with h | h
        ·omega
        ·omega),Below.heap_alloc _ _ _ hbs]
      ·exact Hd_ (by have:=HHI.out;simp[World.setCell];omega)
      ·refine Hd_ fun i v b hi hb=>?_
       rw[List.getElem?_set] at hi
       by_cases e:xn=i
       ·rw[if_pos e,if_pos hfr] at hi
        injection hi with hi
        subst hi
        rcases HG2.out.2.2.2 with h | h
        ·rw[h] at hb
         exact HSEP.out xn _ b HX.out.2.1 hb
        ·rw[h] at hb
         injection hb with hb
         have:=HHI.out
         simp at hb
         omega
       ·rw[if_neg e] at hi
        exact HSEP.out i v b hi hb
     case measure=>simp[intOf];omega
    ·obtain rfl:q=(fol nd).length:=by omega
     have hfin:=HR.out
     rw[List.take_length,ZGm g HND.out] at hfin
     have HFIN:=Hd_ hfin
     clear hfin
     go_wp2
     go_roundw
     case rel=>exact⟨k+1,vs2,by go_num,by omega,HFIN,HB,HBX⟩
     case measure=>simp[intOf];omega
  ·obtain rfl:k=N:=by omega
   go_wp2
   go_ret
   refine⟨.slice (some ⟨w1.heap.size,0,none⟩) k k,rfl,?_,HB.out⟩
   have h1:=HR.out.sl (by omega) (by rw[ZAT,HN.out];omega)
   rw[ZAT,HN.out] at h1
   have h2:rowsM g k []=(List.range g.nodes.length).map (predK g g.nodes.length):=by
    unfold rowsM
    rw[HN.out]
    refine List.map_congr_left fun s _=>by simp
   rw[h2] at h1
   exact h1
end Go.Proofs.YtffgnjgphkdodaaDoor
