import Derived.Test.YtffgnjgphkdodaaGreatDoorR19
import Derived.Test.YtffgnjgphkdodaaGreatDoorR30
import Derived.Test.YtffgnjgphkdodaaGreatDoorR7
namespace Go.Proofs.YtffgnjgphkdodaaGreatDoor
open Go Go.RowKit
theorem ZKl:SlT Tryz.prog 67 66 13 96 (.agg #[.int .u8 0,.int .u8 0,.int .i64 0,.int .i64 0,.bool false,.int .i64 0,.int .i64 0,.bool false,.int .i64 0,.int .i64 0,.int .i64 0,.int .i64 0,.int .i64 0]):=SlT.mk' Tryz.underlying67 (by kernel_rfl) rfl (by omega)
set_option maxRecDepth 100000 in
set_option maxHeartbeats 1000000 in
theorem ZD4 (cs:List Value) (g:Graph) (w:World) (hg:GraphV (cmap w) cs g) (hz:g.nodes.length * 96≤140737488351232) :
  Calls Tryz.prog 64 #[.agg cs.toArray] w fun e w'=>∃ v,e=.returned (.agg #[.string g.name,.int .i64 g.locals,.int .i64 g.slots,v])∧Nodes (part w' w.heap.size w'.heap.size) v g.nodes∧Below w.heap.size w w':=by
 obtain⟨nv,rfl,hn⟩:=hg
 obtain⟨A,c,rfl,-⟩:=id hn
 go_enter Tryz.func64,Tryz.ntmps64
 go_wp2_with (refine ZD rfl ?_)
 refine Stop.intro ?_
 have hb00:=((ZC w (.cells #[.string g.name,.int .i64 g.locals,.int .i64 g.slots,.slice A g.nodes.length c] 69)).alloc (by simp) (.cells #[.string ⟨#[]⟩,.int .i64 0,.int .i64 0,.slice none 0 0] 69)).alloc (by simp;omega) (.cells #[] 66)
 refine ZHj ZJw ZKl rfl _ _ rfl _ rfl A g.nodes.length c g.nodes rfl (hn.mono (ZA hb00)) (by omega) ?_
 intro A' c' w1 hn' hb
 have b1:Blk w1 w.heap.size 69 [.string g.name,.int .i64 g.locals,.int .i64 g.slots,.slice A g.nodes.length c]:=(((Blk.new w _ _).alloc _).alloc _).below hb (by simp;omega)
 have b2:Blk w1 (w.heap.size+1) 69 [.string ⟨#[]⟩,.int .i64 0,.int .i64 0,.slice none 0 0]:=((Blk.of (ZI (w.alloc _) _ _ (by simp)) rfl).alloc _).below hb (by simp)
 have hbel:Below w.heap.size w w1:=hb00.trans (hb.mono (by simp;omega))
 have hsz:=hb.size
 simp only[World.size_alloc] at hsz hn'
 have e0:=b1.cell 0
 have e1:=b1.cell 1
 have e2:=b1.cell 2
 have e3:=b1.cell 3
 have q3:=b1.frozen 3
 have f0:=b2.cell 0
 have f1:=b2.cell 1
 have f2:=b2.cell 2
 have f3:=b2.cell 3
 have p0:=b2.frozen 0
 have p1:=b2.frozen 1
 have p2:=b2.frozen 2
 have p3:=b2.frozen 3
 have n1:w.heap.size+1≠w.heap.size:=by omega
 clear hb hb00
 go_wp2
 refine bodyPost_ret (v:=.agg #[.string g.name,.int .i64 g.locals,.int .i64 g.slots,.slice A' g.nodes.length c']) (by simp[results,Tryz.results64,go_sem,f0,f1,f2,f3]) rfl ⟨.slice A' g.nodes.length c',rfl,?_,?_⟩
 ·refine hn'.mono (fun b o v hv=>?_)
  obtain⟨h1,h2,h3⟩:=ZX hv
  unfold part
  rw[if_pos ⟨by omega,by simp[World.setCell];omega⟩]
  refine(World.cell?_of_block ?_).trans h1
  repeat (refine(Below.heap_setCell _ _ _ _ (by simp;omega)).trans ?_)
  rfl
 ·exact(((((hbel.setCell (by simp) _).setCell (by simp) _).setCell (by simp) _).setCell (by simp) _).setCell (by simp) _)
theorem Below.al {w w':World} (h:Below w.heap.size w w') (o:Obj) : Below w.heap.size w (w'.alloc o):=h.alloc h.size o
theorem ZAF (w:World) (o:Obj) (t:TypeId) (cs:List Value) : Blk ((w.alloc o).alloc (.cells cs.toArray t)) (w.heap.size+1) t cs:=Blk.of (ZI _ _ _ (by simp)) rfl
theorem ZCQ (w:World) (o o2:Obj) (t:TypeId) (cs:List Value) : Blk (((w.alloc o).alloc o2).alloc (.cells cs.toArray t)) (w.heap.size+1+1) t cs:=Blk.of (ZI _ _ _ (by simp)) rfl
def CopyAt (w wc:World) (u:Unit_) (cs:List Value) (gb:Nat) (sv lv:Value) : Prop :=
 Blk wc gb 25 [sv,lv,.slice none 0 0]∧Blk wc w.heap.size 25 cs∧Blk wc (w.heap.size+1) 25 [.slice none 0 0,.slice none 0 0,.slice none 0 0]∧w.heap.size+2≤gb ∧
  Decls (on wc (fun b=>w.heap.size+2≤b∧b≠gb)) sv u.shared∧Decls (on wc (fun b=>w.heap.size+2≤b∧b≠gb)) lv u.locks∧Below w.heap.size w wc
theorem ZJa {w W0 w1 w2 W:World} {u:Unit_} {cs:List Value} {gb X1 X2:Nat} {sv lv:Value} (HB:Blk W gb 25 [.slice none 0 0,.slice none 0 0,.slice none 0 0]) (b0:Blk W0 w.heap.size 25 cs)
  (br:Blk W0 (w.heap.size+1) 25 [.slice none 0 0,.slice none 0 0,.slice none 0 0]) (hbl:Below w.heap.size w W0) (hsz:w.heap.size+2=W0.heap.size) (B1:Below W0.heap.size W0 w1) (B12:Below w1.heap.size w1 w2) (B3:Below w2.heap.size w2 W)
  (k1:Decls (part w1 X1 w1.heap.size) sv u.shared) (k2:Decls (part w2 X2 w2.heap.size) lv u.locks) (x1:W0.heap.size≤X1) (x2:w1.heap.size≤X2) (g0:W0.heap.size≤gb) (g1:gb < X1∨w1.heap.size≤gb) (g2:gb < X2∨w2.heap.size≤gb) :
  CopyAt w (((W.setCell ⟨gb,0,none⟩ sv).setCell ⟨gb,1,none⟩ lv).setCell ⟨gb,2,none⟩ (.slice none 0 0)) u cs gb sv lv:=by
 have s1:=B1.size
 have s12:=B12.size
 have s3:=B3.size
 have hB:Below W0.heap.size W0 W:=B1.trans ((B12.trans (B3.mono s12)).mono s1)
 have far:∀ b,b≠gb→(((W.setCell ⟨gb,0,none⟩ sv).setCell ⟨gb,1,none⟩ lv).setCell ⟨gb,2,none⟩ (.slice none 0 0)).heap[b]? = W.heap[b]?:=fun b hb =>
  (Below.heap_setCell _ _ _ _ hb).trans ((Below.heap_setCell _ _ _ _ hb).trans (Below.heap_setCell _ _ _ _ hb))
 refine⟨((HB.set_ 0 sv).set_ 1 lv).set_ 2 (.slice none 0 0),(far _ (by omega)).trans (b0.below hB b0.lt),(far _ (by omega)).trans (br.below hB br.lt),by omega,?_,?_,?_⟩
 ·refine k1.mono (fun b o v hv=>?_)
  obtain⟨h1,h2,h3⟩:=ZX hv
  refine ZBk ?_ ⟨by omega,by omega⟩
  refine(World.cell?_of_block ?_).trans h1
  exact(far b (by omega)).trans ((B12.trans (B3.mono s12)).block b h3)
 ·refine k2.mono (fun b o v hv=>?_)
  obtain⟨h1,h2,h3⟩:=ZX hv
  refine ZBk ?_ ⟨by omega,by omega⟩
  refine(World.cell?_of_block ?_).trans h1
  exact(far b (by omega)).trans (B3.block b h3)
 ·have:=hbl.trans (hB.mono hbl.size)
  exact(((this.setCell (by simp;omega) _).setCell (by simp;omega) _).setCell (by simp;omega) _)
theorem ZIN {w W0 w1 w2:World} {u:Unit_} {cs:List Value} {X1 X2:Nat} {sv lv:Value} (b0:Blk W0 w.heap.size 25 cs)
  (br:Blk W0 (w.heap.size+1) 25 [.slice none 0 0,.slice none 0 0,.slice none 0 0]) (hbl:Below w.heap.size w W0) (hsz:w.heap.size+2=W0.heap.size) (B1:Below W0.heap.size W0 w1) (B12:Below w1.heap.size w1 w2)
  (k1:Decls (part w1 X1 w1.heap.size) sv u.shared) (k2:Decls (part w2 X2 w2.heap.size) lv u.locks) (x1:W0.heap.size≤X1) (x2:w1.heap.size≤X2) :
  CopyAt w (w2.alloc (.cells #[sv,lv,.slice none 0 0] 25)) u cs w2.heap.size sv lv:=by
 have s1:=B1.size
 have s12:=B12.size
 have B3:Below w2.heap.size w2 (w2.alloc (.cells #[sv,lv,.slice none 0 0] 25)):=ZC _ _
 have hB:=B1.trans ((B12.trans (B3.mono s12)).mono s1)
 refine⟨Blk.new w2 _ [sv,lv,.slice none 0 0],b0.below hB b0.lt,br.below hB br.lt,by omega,?_,?_,hbl.trans (hB.mono hbl.size)⟩
 ·refine k1.mono (fun b o v hv=>?_)
  obtain⟨h1,h2,h3⟩:=ZX hv
  refine ZBk ?_ ⟨by omega,by omega⟩
  exact(World.cell?_of_block ((B12.trans (B3.mono s12)).block b h3)).trans h1
 ·refine k2.mono (fun b o v hv=>?_)
  obtain⟨h1,h2,h3⟩:=ZX hv
  refine ZBk ?_ ⟨by omega,by omega⟩
  exact(World.cell?_of_block (B3.block b h3)).trans h1
theorem ZCy {P:Program} {t e size bytes:Nat} {z:Value} (T:SlT P t e size bytes z) {ops:Array Oper} {o:Oper} {a:Act} {w:World} {K:Act→World→Prop} {Q:Exit→Act→World→Prop} {E:Prop} (hgd:o.guard=none) (s x:Operand)
  (ho:o.op=.call { callee:=.builtin .append,args:=#[s,x],argTypes:=#[t,t] })
  (base:Nat) (v:Value) (n:Nat) (xs:List Value) (hs:a.eval s=v) (hown:w.ownsRow base e size v n xs)
  (g off c:Nat) (news:List Value) (hx:a.eval x=.slice (some ⟨g,off,none⟩) 1 c) (hl:news.length=size) (hnews:∀ j u,news[j]? = some u→w.cell? ⟨g,off+j,none⟩=some u) (h1:∀ u∈news,u.oneCell'=true)
  (hn:n < 9223372036854775807) (hb:(n+1) * bytes≤140737488355328) (hbase:base≤w.heap.size)
  (h:∀ v' w',w'.ownsRow base e size v' (n+1) (xs ++ news)→w.grownBy w' v.ownBlock→(v'.ownBlock=v.ownBlock∨v'.ownBlock=some w.heap.size)→K (a.put o.dst v') w') :
  if Region.wanted o (yielded ops a.tmps)=true then Oper.wp P o a w K Q else E:=by
 have hw:Region.wanted o (yielded ops a.tmps)=true:=by simp[Region.wanted,hgd]
 rw[if_pos hw]
 obtain⟨i,hi,hz,hsz,hby⟩:=T.info
 obtain⟨v',w',hr,h2,h3,_,h5⟩:=run_append_own_at (P:=P) w base t o.type e i z size bytes T.ht hi hz hsz hby T.hzs T.hsz v n xs hown ⟨g,off,none⟩ 1 c news (by omega) (fun j u hj=>by rw[ZAt];exact hnews j u hj) h1 (by simp only[maxLen];omega) hb hbase
 unfold Oper.wp execOp
 simp only[ho,resolve,invoke,builtin,Sem.run_bind,Sem.run_pure,Result.andThen_ok,List.map_toArray,List.map_cons,List.map_nil,hs,hx,hr]
 exact h v' w' h2 h3 h5
instance:MonoV GraphV:=⟨fun hm h=>h.mono hm⟩
theorem ZBF {wr w2 w':World} {o:Obj} {row:Option Nat} (hB:Below wr.heap.size wr w2) (hg:(w2.alloc o).grownBy w' row) {q:Nat} (hq:q < wr.heap.size) (hne:some q≠row) : w'.heap[q]? = wr.heap[q]?:=by
 have h1:=hB.size
 rw[hg.block q (by simp;omega) hne,Below.heap_alloc _ _ _ (by omega)]
 exact hB.block q hq
theorem ZBj {wr w':World} {q:Nat} (h:w'.heap[q]? = wr.heap[q]?) (o:Nat) : w'.cell? ⟨q,o,none⟩=wr.cell? ⟨q,o,none⟩:=World.cell?_of_block h
theorem ZIG {wr w':World} {q:Nat} (h:w'.heap[q]? = wr.heap[q]?) (o:Nat) : w'.frozen? ⟨q,o,none⟩=wr.frozen? ⟨q,o,none⟩:=World.frozen?_of_block h
theorem ZHw {base:Nat} {S:Nat→Prop} {gvv:Value} {xs:List Graph} {wr w2 w':World} {g:Graph} {nv v':Value} (hacc:Acc GraphV 4 69 base S gvv xs wr) (hbr:base≤wr.heap.size) (hB:Below wr.heap.size wr w2) (hnv:Nodes (part w2 wr.heap.size w2.heap.size) nv g.nodes)
  {rows:List (List Value)} (hl:rows.length=xs.length) (hr:∀ r∈rows,r.length=4)
  (hx:∀ (i:Nat) r x,rows[i]? = some r→xs[i]? = some x→GraphV (on (w2.alloc (.cells #[.string g.name,.int .i64 g.locals,.int .i64 g.slots,nv] 69)) S) r x)
  (ho:w'.ownsRow base 69 4 v' (xs.length+1) (rows.flatten ++ [.string g.name,.int .i64 g.locals,.int .i64 g.slots,nv])) (hg:(w2.alloc (.cells #[.string g.name,.int .i64 g.locals,.int .i64 g.slots,nv] 69)).grownBy w' gvv.ownBlock)
  (hob:v'.ownBlock=gvv.ownBlock∨v'.ownBlock=some (w2.alloc (.cells #[.string g.name,.int .i64 g.locals,.int .i64 g.slots,nv] 69)).heap.size) :
  Acc GraphV 4 69 base (fun b=>S b∨(wr.heap.size≤b∧b < w2.heap.size)) v' (xs ++ [g]) w':=by
 have hs:=hB.size
 have hv:=hacc.lt
 refine((hacc.keep hB).alloc _).push hl hr hx rfl ho hg hob (fun b hb=>.inl hb) (fun b hb=>?_) ⟨nv,rfl,?_⟩
 ·rcases hb with hb | hb
  ·exact((hacc.keep hB).alloc _).sep b hb
  ·exact⟨by omega,by simp;omega,fun e=>by have:=hv b e.symm;omega⟩
 ·refine hnv.mono ((Z5 w2 (S:=fun b=>wr.heap.size≤b∧b < w2.heap.size) fun b h1 h2=>⟨h1,h2⟩).trans (ZY (fun b hb hlt=>?_) (fun b hb=>.inr hb)))
  rw[hg.block b (by simp;omega) (fun e=>by have:=hv b e.symm;omega),Below.heap_alloc _ _ _ hlt]
theorem ZJr:SlT Tryz.prog 23 69 4 56 (.agg #[.string ⟨#[]⟩,.int .i64 0,.int .i64 0,.slice none 0 0]):=SlT.mk' Tryz.underlying23 (by kernel_rfl) rfl (by omega)
def UnitAcc (base:Nat) (w:World) (cs:List Value) (u:Unit_) : Prop :=
 ∃ sv lv gv D S,cs=[sv,lv,gv]∧Decls (on w D) sv u.shared∧Decls (on w D) lv u.locks∧Acc GraphV 4 69 base S gv u.graphs w∧∀ b,D b→base≤b∧b < w.heap.size∧some b≠gv.ownBlock
theorem UnitAcc.unit {base:Nat} {w:World} {cs:List Value} {u:Unit_} (h:UnitAcc base w cs u) : UnitV (part w base w.heap.size) cs u:=by
 obtain⟨sv,lv,gv,D,S,rfl,h1,h2,h3,h4⟩:=h
 exact⟨sv,lv,gv,rfl,h1.mono (ZDa w fun b hb=>⟨(h4 b hb).1,(h4 b hb).2.1⟩),h2.mono (ZDa w fun b hb=>⟨(h4 b hb).1,(h4 b hb).2.1⟩),(h3.done (Nat.le_refl _) (Nat.le_refl _)).imp' fun m b o x hx=>hx⟩
theorem ZJZ {w wc wr w2 w':World} {gb:Nat} {sv lv gvv nv v':Value} {S:Nat→Prop} {xs:List Graph} {g:Graph} {rows:List (List Value)} (hacc:Acc GraphV 4 69 wc.heap.size S gvv xs wr) (hsz:wc.heap.size≤wr.heap.size)
  (hfar:∀ b,b < wc.heap.size→b≠gb→wr.heap[b]? = wc.heap[b]?) (hbel:Below w.heap.size w wr) (hgl:gb < wc.heap.size) (hgb:w.heap.size≤gb) (C1:Blk wr gb 25 [sv,lv,gvv]) (hB:Below wr.heap.size wr w2) (hnv:Nodes (part w2 wr.heap.size w2.heap.size) nv g.nodes)
  (hl:rows.length=xs.length) (hr:∀ r∈rows,r.length=4)
  (hx:∀ (i:Nat) r x,rows[i]? = some r→xs[i]? = some x→GraphV (on (w2.alloc (.cells #[.string g.name,.int .i64 g.locals,.int .i64 g.slots,nv] 69)) S) r x)
  (ho:w'.ownsRow wc.heap.size 69 4 v' (xs.length+1) (rows.flatten ++ [.string g.name,.int .i64 g.locals,.int .i64 g.slots,nv])) (hg:(w2.alloc (.cells #[.string g.name,.int .i64 g.locals,.int .i64 g.slots,nv] 69)).grownBy w' gvv.ownBlock)
  (hob:v'.ownBlock=gvv.ownBlock∨v'.ownBlock=some (w2.alloc (.cells #[.string g.name,.int .i64 g.locals,.int .i64 g.slots,nv] 69)).heap.size) :
  Blk (w'.setCell ⟨gb,2,none⟩ v') gb 25 [sv,lv,v']∧Acc GraphV 4 69 wc.heap.size (fun b=>S b∨(wr.heap.size≤b∧b < w2.heap.size)) v' (xs ++ [g]) (w'.setCell ⟨gb,2,none⟩ v') ∧
   (∀ b,b < wc.heap.size→b≠gb→(w'.setCell ⟨gb,2,none⟩ v').heap[b]? = wc.heap[b]?)∧Below w.heap.size w (w'.setCell ⟨gb,2,none⟩ v')∧wc.heap.size≤(w'.setCell ⟨gb,2,none⟩ v').heap.size:=by
 have hP:=ZHw hacc hsz hB hnv hl hr hx ho hg hob
 have hs:=hB.size
 have hs2:=hg.size
 simp only[World.size_alloc] at hs2
 have hgr:=C1.lt
 have hne1:some gb≠gvv.ownBlock:=hacc.blk C1 (by decide)
 have C1':Blk w' gb 25 [sv,lv,gvv]:=(ZBF hB hg hgr hne1).trans C1
 refine⟨C1'.set_ 2 v',hP.setCell (fun e=>hP.blk C1' (by decide) e.symm) ?_ v',fun b hb hne=>?_,?_,?_⟩
 ·rintro(h | h)
  ·have:=(hacc.sep gb h).1
   omega
  ·have:wr.heap.size≤gb:=h.1
   omega
 ·refine(Below.heap_setCell _ _ _ _ hne).trans ?_
  have hne3:some b≠gvv.ownBlock:=fun e=>by have:=(hacc.lt b e.symm).1;omega
  exact(ZBF hB hg (by omega) hne3).trans (hfar b hb hne)
 ·have h1:=hbel.size
  exact(((hbel.trans (hB.mono h1)).alloc (by omega) _).grown hg (by simp;omega) (fun j hj=>by have:=(hacc.lt j hj).1;omega)).setCell hgb _
 ·simp[World.setCell];omega
theorem Acc.low {α:Type} {RV:CM→List Value→α→Prop} {size:Nat} {e:TypeId} {base base':Nat} {S:Nat→Prop} {v:Value} {xs:List α} {wr:World} (h:Acc RV size e base S v xs wr) (hb:base'≤base) : Acc RV size e base' S v xs wr:=by
 obtain⟨rows,h1,h2,h3,h4⟩:=h.ex
 refine⟨⟨rows,⟨h1.1,?_⟩,h2,h3,h4⟩,fun b hs=>by have:=h.sep b hs;exact⟨by omega,this.2⟩⟩
 rcases h1.2 with k | ⟨g,cap,cur,k1,k2,k3⟩
 ·exact .inl k
 ·exact .inr ⟨g,cap,cur,k1,by omega,k3⟩
theorem ZKO {w wc wr:World} {gb:Nat} {sv lv gvv:Value} {S:Nat→Prop} {u:Unit_} (hacc:Acc GraphV 4 69 wc.heap.size S gvv u.graphs wr) (hfar:∀ b,b < wc.heap.size→b≠gb→wr.heap[b]? = wc.heap[b]?) (hbel:Below w.heap.size w wr)
  (_hgb:w.heap.size+2≤gb) (hsz:wc.heap.size≤wr.heap.size) (hwc:w.heap.size+1 < wc.heap.size) (C3:Blk wr (w.heap.size+1) 25 [.slice none 0 0,.slice none 0 0,.slice none 0 0])
  (k1:Decls (on wc (fun b=>w.heap.size+2≤b∧b≠gb)) sv u.shared) (k2:Decls (on wc (fun b=>w.heap.size+2≤b∧b≠gb)) lv u.locks) :
  UnitAcc w.heap.size (((wr.setCell ⟨w.heap.size+1,0,none⟩ sv).setCell ⟨w.heap.size+1,1,none⟩ lv).setCell ⟨w.heap.size+1,2,none⟩ gvv) [sv,lv,gvv] u ∧
   Below w.heap.size w (((wr.setCell ⟨w.heap.size+1,0,none⟩ sv).setCell ⟨w.heap.size+1,1,none⟩ lv).setCell ⟨w.heap.size+1,2,none⟩ gvv):=by
 have far:∀ b,b≠w.heap.size+1→(((wr.setCell ⟨w.heap.size+1,0,none⟩ sv).setCell ⟨w.heap.size+1,1,none⟩ lv).setCell ⟨w.heap.size+1,2,none⟩ gvv).heap[b]? = wr.heap[b]?:=fun b hb =>
  (Below.heap_setCell _ _ _ _ hb).trans ((Below.heap_setCell _ _ _ _ hb).trans (Below.heap_setCell _ _ _ _ hb))
 have hS:¬ S (w.heap.size+1):=fun h=>by have:=(hacc.sep _ h).1;omega
 have hO:gvv.ownBlock≠some (w.heap.size+1):=fun e=>hacc.blk C3 (by decide) e.symm
 have dec:∀ {v:Value} {ds:List Decl},Decls (on wc (fun b=>w.heap.size+2≤b∧b≠gb)) v ds→Decls (on (((wr.setCell ⟨w.heap.size+1,0,none⟩ sv).setCell ⟨w.heap.size+1,1,none⟩ lv).setCell ⟨w.heap.size+1,2,none⟩ gvv) (fun b=>w.heap.size+2≤b∧b≠gb∧b < wc.heap.size)) v ds:=fun h=>h.mono fun b o v hv=>by
  obtain⟨h1,h2,h3⟩:=ZEI hv
  have h4:b < wc.heap.size:=World.block_lt_of_cell? wc ⟨b,o,none⟩ h1
  refine ZBk ?_ ⟨h2,h3,h4⟩
  exact(World.cell?_of_block ((far b (by omega)).trans (hfar b h4 h3))).trans h1
 refine⟨⟨sv,lv,gvv,fun b=>w.heap.size+2≤b∧b≠gb∧b < wc.heap.size,S,rfl,dec k1,dec k2,?_,?_⟩,?_⟩
 ·exact(((hacc.setCell hO hS _).setCell hO hS _).setCell hO hS _).low (by omega)
 ·rintro b ⟨h1,h2,h3⟩
  refine⟨by omega,by simp[World.setCell];omega,fun e=>by have:=(hacc.lt b e.symm).1;omega⟩
 ·exact((hbel.setCell (by simp) _).setCell (by simp) _).setCell (by simp) _
end Go.Proofs.YtffgnjgphkdodaaGreatDoor
