import Derived.Test.YtffgnjgphkdodaaDoorD5
import Derived.Test.YtffgnjgphkdodaaDoorD7
import Derived.Deep.RegionHeld3
import Derived.StillTailTactics
import Derived.Test.YtffgnjgphkdodaaDoorD4
import Derived.Test.YtffgnjgphkdodaaDoorD9
namespace Go.Proofs.YtffgnjgphkdodaaDoor
open Go Go.RowKit
def lookV (m:CM) (cs:List Value) (g:Graph) : Prop:=∃ v1 v2 l,cs=[v1,v2]∧Bools m v1 l∧l.length=g.nodes.length∧(∀ i:Nat,l[i]? = some true ↔ ReachC g (-1) i)∧Sl U32C 1 m v2 ((heldL g).map hMask)
instance:MonoV lookV:=⟨fun hm ⟨v1,v2,l,h1,h2,h3,h4,h5⟩=>⟨v1,v2,l,h1,h2.mono hm,h3,h4,h5.mono hm⟩⟩
def LookAt (w wc:World) (g:Graph) (cg:List Value) (rv:Value) (rl:List Bool) (hb lb:Nat) (ms:List Nat) : Prop :=
 Blk wc lb 164 [rv,.slice (some ⟨hb,0,none⟩) g.nodes.length g.nodes.length]∧Blk wc hb 78 (u32s ms)∧Bools (on wc (fun b=>w.heap.size+2≤b∧b≠hb∧b≠lb)) rv rl∧rl.length=g.nodes.length ∧
 (∀ i:Nat,rl[i]? = some true ↔ ReachC g (-1) i)∧Below w.heap.size w wc∧Blk wc w.heap.size 38 cg∧hb≠lb∧w.heap.size+2≤hb∧w.heap.size+2≤lb∧∃ a b,Blk wc (w.heap.size+1) 164 [a,b]
set_option maxRecDepth 100000 in
set_option maxHeartbeats 2000000 in
theorem ZFE (u:Unit_) (g:Graph) (cs:List Value) (w:World) (hr:RightG u g) (hu16:u.locks.length≤16) (hg:GraphV (cmap w) cs g) :
  Calls Tryd.prog 90 #[.agg cs.toArray] w fun e w'=>∃ cs',e=.returned (.agg cs'.toArray)∧lookV (part w' w.heap.size w'.heap.size) cs' g∧Below w.heap.size w w':=by
 have hg':=hg
 obtain⟨nv,rfl,nA,nc,rfl,-⟩:=hg'
 have hmost:=hr.whole.most
 have hLen:=ZFH hr
 have hmem:∀ l∈heldL g,∀ x∈l,0≤x∧x < 16:=fun l hl x hx=>by have:=ZFG hr hl hx;omega
 have HMEM:=Hd_ hmem;clear hmem
 have HLEN:=Hd_ hLen;clear hLen
 have hbx:=Blk.new w 38 [.string g.name,.int .i64 g.locals,.int .i64 g.slots,.slice nA g.nodes.length nc]
 go_enter Tryd.func90,Tryd.ntmps90
 go_upto_region 1 with fail
 go_cut [3] (fun v3 wc=>∃ rv rl hb lb,v3=.pointer (some ⟨lb,0,none⟩)∧LookAt w wc g [.string g.name,.int .i64 g.locals,.int .i64 g.slots,.slice nA g.nodes.length nc] rv rl hb lb (List.replicate g.nodes.length 0))
 case first =>
  have hle:∀ o1 o2 o3,(cmap w).le (cmap (((w.alloc o1).alloc o2).drew.alloc o3)):=fun o1 o2 o3=>ZA ((((Below.refl _ w).alloc (Nat.le_refl _) o1).alloc (by simp) o2).drew.alloc (by simp;omega) o3)
  have hle2:∀ o1 o2,(cmap w).le (cmap (((w.alloc o1).alloc o2).drew)):=fun o1 o2=>ZA (((Below.refl _ w).alloc (Nat.le_refl _) o1).alloc (by simp) o2).drew
  have HLE:=Hd_ hle;clear hle
  have HLE2:=Hd_ hle2;clear hle2
  have hle3:∀ o1 o2 o3 o4,(cmap w).le (cmap (((w.alloc o1).alloc o2).drew.alloc o3 |>.alloc o4)):=fun o1 o2 o3 o4=>ZA (((((Below.refl _ w).alloc (Nat.le_refl _) o1).alloc (by simp) o2).drew.alloc (by simp;omega) o3).alloc (by simp;omega) o4)
  have HLE3:=Hd_ hle3;clear hle3
  have HZZ:Hid ((Array.replicate g.nodes.length (Value.int .u32 0)).toList=u32s (List.replicate g.nodes.length 0)):=by
   show _=_
   simp[u32s]
  have n2:w.heap.size+1+1≠w.heap.size:=by omega
  have n3:w.heap.size+1+1+1≠w.heap.size:=by omega
  have hmk:=mk_run sl_locks rfl g.nodes.length (by omega) (by decide)
  go_region_held3 (fun w'=>w'.cell? ⟨w.heap.size,0,none⟩=some (.string g.name)∧w'.cell? ⟨w.heap.size,1,none⟩=some (.int .i64 g.locals)∧w'.cell? ⟨w.heap.size,2,none⟩=some (.int .i64 g.slots)∧w'.cell? ⟨w.heap.size,3,none⟩=some (.slice nA g.nodes.length nc)) (go_keep)
   (first | (go_at_call 31;refine(ZA5 g [.string g.name,.int .i64 g.locals,.int .i64 g.slots,.slice nA g.nodes.length nc] _ hr.whole (hg.mono (by first | exact HLE2.out _ _ | exact HLE.out _ _ _ | exact HLE3.out _ _ _ _))).mono ?_;rintro e w1 ⟨rv,rl,rfl,hrv,hrl,hri,hb1⟩;obtain⟨rA,rc,rfl,-⟩:=id hrv;obtain⟨hcA,hfA⟩:=ZFU hb1;have kA0:w1.cell? ⟨w.heap.size,0,none⟩=some (.string g.name):=(by rw[hcA _ _ (by simp <;> omega)];simp[go_sem]);have kA1:w1.cell? ⟨w.heap.size,1,none⟩=some (.int .i64 g.locals):=(by rw[hcA _ _ (by simp <;> omega)];simp[go_sem]);have kA2:w1.cell? ⟨w.heap.size,2,none⟩=some (.int .i64 g.slots):=(by rw[hcA _ _ (by simp <;> omega)];simp[go_sem]);have kA3:w1.cell? ⟨w.heap.size,3,none⟩=some (.slice nA g.nodes.length nc):=(by rw[hcA _ _ (by simp <;> omega)];simp[go_sem]);have hz:w.heap.size+1 < w1.heap.size:=(by have:=hb1.size;simp at this;omega);have hz0:w.heap.size < w1.heap.size:=(by omega);have m0:w1.heap.size≠w.heap.size:=(by omega);have m1:w1.heap.size+1≠w.heap.size:=(by omega);(try have hz2:w.heap.size+2 < w1.heap.size:=(by have:=hb1.size;simp at this;omega));(try have hz3:w.heap.size+3 < w1.heap.size:=(by have:=hb1.size;simp at this;omega))))
  all_goals go_wp2_with fail
  all_goals go_meet
  ·have hzz:=HZZ.out
   have hs1:=hb1.size
   have hB:Below w.heap.size w w1:=(((Below.refl _ w).alloc (Nat.le_refl _) _).alloc (by simp <;> omega) _).drew.trans (hb1.mono (by simp <;> omega))
   have hG1:Blk w1 w.heap.size 38 [.string g.name,.int .i64 g.locals,.int .i64 g.slots,.slice nA g.nodes.length nc]:=(Blk.alloc (Blk.new w _ _) _).drew.below hb1 (by simp <;> omega)
   have hR1:Blk w1 (w.heap.size+1) 164 [.slice none 0 0,.slice none 0 0]:=(Blk.of (ZP (w.alloc _) _ _ (by simp)) rfl).drew.below hb1 (by simp <;> omega)
   simp only[World.size_alloc,World.size_drew] at hrv hs1
   rw[hrl] at hrv
   refine⟨.slice rA g.nodes.length rc,rl,?_⟩
   apply Exists.intro
   apply Exists.intro
   refine⟨rfl,?_,?_,?_,hrl,hri,?_,?_,?_,?_,?_,.slice none 0 0,.slice none 0 0,?_⟩
   ·exact Blk.of (ZP _ _ _ (by simp)) rfl
   ·exact(Blk.of (ZP w1 _ _ rfl) hzz).alloc _
   ·refine hrv.mono (fun b o v hv=>?_)
    obtain⟨h1,h2,h3⟩:=Zl hv
    refine ZDL ?_ ⟨by omega,by omega,by omega⟩
    refine(World.cell?_of_block ?_).trans h1
    exact(Below.heap_alloc (w1.alloc _) _ _ (by simp <;> omega)).trans (Below.heap_alloc w1 _ _ h3)
   ·exact(hB.alloc hB.size _).alloc (by simp <;> omega) _
   ·exact(hG1.alloc _).alloc _
   ·omega
   ·omega
   ·omega
   ·exact(hR1.alloc _).alloc _
  ·have hzz:=HZZ.out
   have hs1:=hb1.size
   have hB:Below w.heap.size w w1:=(((Below.refl _ w).alloc (Nat.le_refl _) _).alloc (by simp <;> omega) _).drew.trans (hb1.mono (by simp <;> omega))
   have hG1:Blk w1 w.heap.size 38 [.string g.name,.int .i64 g.locals,.int .i64 g.slots,.slice nA g.nodes.length nc]:=(Blk.alloc (Blk.new w _ _) _).drew.below hb1 (by simp <;> omega)
   have hR1:Blk w1 (w.heap.size+1) 164 [.slice none 0 0,.slice none 0 0]:=(Blk.of (ZP (w.alloc _) _ _ (by simp)) rfl).drew.below hb1 (by simp <;> omega)
   simp only[World.size_alloc,World.size_drew] at hrv hs1
   rw[hrl] at hrv
   refine⟨.slice rA g.nodes.length rc,rl,?_⟩
   apply Exists.intro
   apply Exists.intro
   refine⟨rfl,?_,?_,?_,hrl,hri,?_,?_,?_,?_,?_,.slice none 0 0,.slice none 0 0,?_⟩
   ·exact(Blk.of (ZP w1 _ _ rfl) rfl).alloc _
   ·exact Blk.of (ZP _ _ _ (by simp)) hzz
   ·refine hrv.mono (fun b o v hv=>?_)
    obtain⟨h1,h2,h3⟩:=Zl hv
    refine ZDL ?_ ⟨by omega,by omega,by omega⟩
    refine(World.cell?_of_block ?_).trans h1
    exact(Below.heap_alloc (w1.alloc _) _ _ (by simp <;> omega)).trans (Below.heap_alloc w1 _ _ h3)
   ·exact(hB.alloc hB.size _).alloc (by simp <;> omega) _
   ·exact(hG1.alloc _).alloc _
   ·omega
   ·omega
   ·omega
   ·exact(hR1.alloc _).alloc _
  ·have hzz:=HZZ.out
   have hs1:=hb1.size
   have hB:Below w.heap.size w w1:=((((Below.refl _ w).alloc (Nat.le_refl _) _).alloc (by simp <;> omega) _).alloc (by simp <;> omega) _).drew.trans (hb1.mono (by simp <;> omega))
   have hG1:Blk w1 w.heap.size 38 [.string g.name,.int .i64 g.locals,.int .i64 g.slots,.slice nA g.nodes.length nc]:=((Blk.alloc (Blk.new w _ _) _).alloc _).drew.below hb1 (by simp <;> omega)
   have hR1:Blk w1 (w.heap.size+1) 164 [.slice none 0 0,.slice none 0 0]:=((Blk.of (ZP (w.alloc _) _ _ (by simp)) rfl).alloc _).drew.below hb1 (by simp <;> omega)
   simp only[World.size_alloc,World.size_drew] at hrv hs1
   rw[hrl] at hrv
   refine⟨.slice rA g.nodes.length rc,rl,?_⟩
   apply Exists.intro
   apply Exists.intro
   refine⟨rfl,?_,?_,?_,hrl,hri,?_,?_,?_,?_,?_,.slice none 0 0,.slice none 0 0,?_⟩
   ·exact Blk.of (ZP w1 _ _ rfl) rfl
   ·exact((Blk.of (ZP _ _ _ (by simp)) hzz).drew.below hb1 (by simp <;> omega)).alloc _
   ·refine hrv.mono (fun b o v hv=>?_)
    obtain⟨h1,h2,h3⟩:=Zl hv
    refine ZDL ?_ ⟨by omega,by omega,by omega⟩
    refine(World.cell?_of_block ?_).trans h1
    exact Below.heap_alloc w1 _ _ h3
   ·exact hB.alloc hB.size _
   ·exact hG1.alloc _
   ·omega
   ·omega
   ·omega
   ·exact hR1.alloc _
  ·have hzz:=HZZ.out
   have hs1:=hb1.size
   have hB:Below w.heap.size w w1:=(((((Below.refl _ w).alloc (Nat.le_refl _) _).alloc (by simp <;> omega) _).alloc (by simp <;> omega) _).alloc (by simp <;> omega) _).drew.trans (hb1.mono (by simp <;> omega))
   have hG1:Blk w1 w.heap.size 38 [.string g.name,.int .i64 g.locals,.int .i64 g.slots,.slice nA g.nodes.length nc]:=(((Blk.alloc (Blk.new w _ _) _).alloc _).alloc _).drew.below hb1 (by simp <;> omega)
   have hR1:Blk w1 (w.heap.size+1) 164 [.slice none 0 0,.slice none 0 0]:=(((Blk.of (ZP (w.alloc _) _ _ (by simp)) rfl).alloc _).alloc _).drew.below hb1 (by simp <;> omega)
   simp only[World.size_alloc,World.size_drew] at hrv hs1
   rw[hrl] at hrv
   refine⟨.slice rA g.nodes.length rc,rl,?_⟩
   apply Exists.intro
   apply Exists.intro
   refine⟨rfl,?_,?_,?_,hrl,hri,?_,?_,?_,?_,?_,.slice none 0 0,.slice none 0 0,?_⟩
   ·exact(Blk.set_ (cs:=[.slice none 0 0,.slice none 0 0]) ((Blk.of (ZP _ _ _ (by simp)) rfl).drew.below hb1 (by simp <;> omega)) 0 _).set_ 1 _
   ·exact((((Blk.of (ZP _ _ _ (by simp)) hzz).alloc _).drew.below hb1 (by simp <;> omega)).far (by simp <;> omega) _).far (by simp <;> omega) _
   ·refine hrv.mono (fun b o v hv=>?_)
    obtain⟨h1,h2,h3⟩:=Zl hv
    refine ZDL ?_ ⟨by omega,by omega,by omega⟩
    refine(World.cell?_of_block ?_).trans h1
    exact(Below.heap_setCell (w1.setCell _ _) _ _ _ (by simp <;> omega)).trans (Below.heap_setCell w1 _ _ _ (by simp <;> omega))
   ·exact(hB.setCell (by simp <;> omega) _).setCell (by simp <;> omega) _
   ·exact(hG1.far (by simp <;> omega) _).far (by simp <;> omega) _
   ·omega
   ·omega
   ·omega
   ·exact(hR1.far (by simp <;> omega) _).far (by simp <;> omega) _
  ·have hzz:=HZZ.out
   have hs1:=hb1.size
   have hB:Below w.heap.size w w1:=((((Below.refl _ w).alloc (Nat.le_refl _) _).alloc (by simp <;> omega) _).alloc (by simp <;> omega) _).drew.trans (hb1.mono (by simp <;> omega))
   have hG1:Blk w1 w.heap.size 38 [.string g.name,.int .i64 g.locals,.int .i64 g.slots,.slice nA g.nodes.length nc]:=((Blk.alloc (Blk.new w _ _) _).alloc _).drew.below hb1 (by simp <;> omega)
   have hR1:Blk w1 (w.heap.size+1) 164 [.slice none 0 0,.slice none 0 0]:=((Blk.of (ZP (w.alloc _) _ _ (by simp)) rfl).alloc _).drew.below hb1 (by simp <;> omega)
   simp only[World.size_alloc,World.size_drew] at hrv hs1
   rw[hrl] at hrv
   refine⟨.slice rA g.nodes.length rc,rl,?_⟩
   apply Exists.intro
   apply Exists.intro
   refine⟨rfl,?_,?_,?_,hrl,hri,?_,?_,?_,?_,?_,.slice none 0 0,.slice none 0 0,?_⟩
   ·exact((Blk.set_ (cs:=[.slice none 0 0,.slice none 0 0]) ((Blk.of (ZP _ _ _ (by simp)) rfl).drew.below hb1 (by simp <;> omega)) 0 _).set_ 1 _).alloc _
   ·exact Blk.of (ZP _ _ _ (by simp[World.setCell])) hzz
   ·refine hrv.mono (fun b o v hv=>?_)
    obtain⟨h1,h2,h3⟩:=Zl hv
    refine ZDL ?_ ⟨by omega,by omega,by omega⟩
    refine(World.cell?_of_block ?_).trans h1
    exact(Below.heap_alloc ((w1.setCell _ _).setCell _ _) _ _ (by simp[World.setCell] <;> omega)).trans ((Below.heap_setCell (w1.setCell _ _) _ _ _ (by simp <;> omega)).trans (Below.heap_setCell w1 _ _ _ (by simp <;> omega)))
   ·exact((hB.setCell (by simp <;> omega) _).setCell (by simp <;> omega) _).alloc (by simp[World.setCell] <;> omega) _
   ·exact((hG1.far (by simp <;> omega) _).far (by simp <;> omega) _).alloc _
   ·omega
   ·omega
   ·omega
   ·exact((hR1.far (by simp <;> omega) _).far (by simp <;> omega) _).alloc _
  ·have hzz:=HZZ.out
   have hs1:=hb1.size
   have hB:Below w.heap.size w w1:=(((((Below.refl _ w).alloc (Nat.le_refl _) _).alloc (by simp <;> omega) _).alloc (by simp <;> omega) _).alloc (by simp <;> omega) _).drew.trans (hb1.mono (by simp <;> omega))
   have hG1:Blk w1 w.heap.size 38 [.string g.name,.int .i64 g.locals,.int .i64 g.slots,.slice nA g.nodes.length nc]:=(((Blk.alloc (Blk.new w _ _) _).alloc _).alloc _).drew.below hb1 (by simp <;> omega)
   have hR1:Blk w1 (w.heap.size+1) 164 [.slice none 0 0,.slice none 0 0]:=(((Blk.of (ZP (w.alloc _) _ _ (by simp)) rfl).alloc _).alloc _).drew.below hb1 (by simp <;> omega)
   simp only[World.size_alloc,World.size_drew] at hrv hs1
   rw[hrl] at hrv
   refine⟨.slice rA g.nodes.length rc,rl,?_⟩
   apply Exists.intro
   apply Exists.intro
   refine⟨rfl,?_,?_,?_,hrl,hri,?_,?_,?_,?_,?_,.slice none 0 0,.slice none 0 0,?_⟩
   ·exact(Blk.set_ (cs:=[.slice none 0 0,.slice none 0 0]) (((Blk.of (ZP _ _ _ (by simp)) rfl).alloc _).drew.below hb1 (by simp <;> omega)) 0 _).set_ 1 _
   ·exact((((Blk.of (ZP _ _ _ (by simp)) hzz)).drew.below hb1 (by simp <;> omega)).far (by simp <;> omega) _).far (by simp <;> omega) _
   ·refine hrv.mono (fun b o v hv=>?_)
    obtain⟨h1,h2,h3⟩:=Zl hv
    refine ZDL ?_ ⟨by omega,by omega,by omega⟩
    refine(World.cell?_of_block ?_).trans h1
    exact(Below.heap_setCell (w1.setCell _ _) _ _ _ (by simp <;> omega)).trans (Below.heap_setCell w1 _ _ _ (by simp <;> omega))
   ·exact(hB.setCell (by simp <;> omega) _).setCell (by simp <;> omega) _
   ·exact(hG1.far (by simp <;> omega) _).far (by simp <;> omega) _
   ·omega
   ·omega
   ·omega
   ·exact(hR1.far (by simp <;> omega) _).far (by simp <;> omega) _
 case rest =>
  obtain⟨rv,rl,hb,lb,rfl,hlk,hhb,hrv,hrl,hri,hbel,hgb,hne,hb2,lb2,ra,rb,hrb⟩:=hcut
  have HLD:Hid (∀ j v,([.string g.name,.int .i64 g.locals,.int .i64 g.slots,.slice nA g.nodes.length nc] : List Value)[j]? = some v→wc.cell? ⟨w.heap.size,0+j,none⟩=some v):=fun j v hj=>by rw[Nat.zero_add,hgb.cell];exact hj
  go_wp2_with (first | (refine ZC rfl 38 _ rfl w.heap.size 0 rfl _ _ HLD.out Tryd.underlying38 rfl (by kernel_rfl) ?_))
  refine(ZHL g [.string g.name,.int .i64 g.locals,.int .i64 g.slots,.slice nA g.nodes.length nc] _ hr.whole (hg.mono (ZA hbel))).mono ?_
  rintro e w2 (⟨v,L',rfl,h1,h2,hb1⟩ | ⟨a,rfl,h1,-⟩)
  ·have hLe:=ZEg h1
   have HLE:=Hd_ hLe;clear hLe h1
   have h2':=h2
   obtain⟨hA,hc,rfl,-,-,-⟩:=h2'
   have hLN:L'.length=g.nodes.length:=by rw[← HLE.out];exact HLEN.out
   have HLN:=Hd_ hLN;clear hLN
   have hlt1:=hlk.lt
   have hlt2:=hhb.lt
   have hlt3:=hrb.lt
   have hlk2:=hlk.below hb1 hlt1
   have hhb2:=hhb.below hb1 hlt2
   have hrb2:=hrb.below hb1 hlt3
   have hsz:=hb1.size
   have hL4:L'.length≤4096:=by rw[HLN.out];exact hmost
   go_wp2
   go_loopw [24] (fun v24 wr=>∃ k:Nat,v24=.int .i64 k∧k≤L'.length∧Blk wr hb 78 (u32s ((L'.take k).map hMask ++ List.replicate (g.nodes.length - k) 0))∧w2.grownBy wr (some hb)) (fun v24 _=>L'.length - (intOf v24).toNat)
   case atStart=>exact⟨0,rfl,by omega,by simpa using hhb2,World.grownBy.refl _ _⟩
   case round =>
    obtain⟨k,rfl,hk,hhk,hgr⟩:=hrel
    have hlkr:=hlk2.grown hgr (by simpa using hne.symm)
    by_cases hlt:k < L'.length
    ·obtain⟨l,hl⟩ : ∃ l,L'[k]? = some l:=⟨_,List.getElem?_eq_getElem hlt⟩
     obtain⟨b,o,rfl,lv,g1,g2⟩:=h2.at_ hl
     rw[Nat.mul_one] at g1
     have hpl:(part w2 wc.heap.size w2.heap.size).le (cmap wr):=(Zc (fun b hb1 hb2=>hgr.block b hb2 (by simp;omega))).trans (ZV _ _ _)
     have g1':wr.cell? ⟨b,o+k,none⟩=some lv:=hpl _ _ _ g1
     obtain⟨lA,lc,rfl,-,-,-⟩:=id g2
     clear g1
     have hk0:(0:Int)≤k:=by omega
     have hkl:(k:Int) < L'.length:=by omega
     have hrep:List.replicate (g.nodes.length - k) 0=0 :: List.replicate (g.nodes.length - k - 1) 0:=by
      have:k < g.nodes.length:=by rw[← HLN.out];exact hlt
      rw[← List.replicate_succ];congr 1;omega
     rw[hrep] at hhk
     have HREP:=Hd_ hrep;clear hrep
     have hlm:=HMEM.out l (by rw[HLE.out];exact List.mem_of_getElem? hl)
     have HLM:=Hd_ hlm;clear hlm
     have HL:=Hd_ hl;clear hl
     have bl:=g2.len.2.2
     go_wp2
     obtain⟨wo,rfl⟩ : ∃ wo:World,wo=wr:=⟨_,rfl⟩
     go_loopw [31] (fun v31 wi=>∃ j:Nat,v31=.int .i64 j∧j≤l.length∧Blk wi hb 78 (u32s ((L'.take k).map hMask ++ hMask (l.take j) :: List.replicate (g.nodes.length - k - 1) 0))∧w2.grownBy wi (some hb)) (fun v31 _=>l.length - (intOf v31).toNat)
     case atStart=>exact⟨0,rfl,by omega,hhk,hgr⟩
     case round =>
      obtain⟨j,rfl,hj,hhj,hgj⟩:=hrel
      have hlkj:=hlk2.grown hgj (by simpa using hne.symm)
      by_cases hjl:j < l.length
      ·obtain⟨x,hx⟩ : ∃ x,l[j]? = some x:=⟨_,List.getElem?_eq_getElem hjl⟩
       have hpj:(part w2 wc.heap.size w2.heap.size).le (cmap wr):=(Zc (fun b hb1 hb2=>hgj.block b hb2 (by simp;omega))).trans (ZV _ _ _)
       obtain⟨b3,o3,rfl,g3⟩:=(g2.mono hpj).at_ hx
       rw[Nat.mul_one] at g3
       have g3':wr.cell? ⟨b3,o3+j,none⟩=some (.int .i64 x):=g3
       have hxb:=HLM.out x (List.mem_of_getElem? hx)
       obtain⟨xn,rfl⟩:=Int.eq_ofNat_of_zero_le hxb.1
       have hx16:xn < 16:=by omega
       have hc1:wr.cell? ⟨lb,1,none⟩=some (.slice (some ⟨hb,0,none⟩) g.nodes.length g.nodes.length):=hlkj.cell 1
       have hlen:((L'.take k).map hMask).length=k:=by simp;omega
       have hck:wr.cell? ⟨hb,k,none⟩=some (.int .u32 (hMask (l.take j) : Nat)):=by rw[hhj.cell k,u32s,List.map_append,List.map_cons,ZJi _ _ _ _ (by rw[List.length_map];exact hlen)]
       have hfz:=hhj.frozen k
       have hkN:(k:Int) < g.nodes.length:=by have:=HLN.out;omega
       have hj0:(0:Int)≤j:=by omega
       have hjl2:(j:Int) < l.length:=by omega
       have hx0:(0:Int)≤xn:=by omega
       have HX:=Hd_ hx;clear hx
       have HLEN2:=Hd_ hlen;clear hlen
       clear g3 hpj hpl hxb
       go_wp2
       go_still_tail 9,(by kernel_rfl)
       change wpList _ _ _ _ _ wr.drew
       go_wp2
       have hmk:hMask (l.take j) < 65536:=ZGO _ (fun y hy=>HLM.out y (List.mem_of_mem_take hy))
       have hnx:hMask (l.take (j+1))=hMask (l.take j) ||| 2 ^ xn:=by
        rw[List.take_succ_eq_append_getElem hjl,(List.getElem?_eq_some_iff.1 HX.out).2,ZG7,Int.toNat_natCast]
       go_roundw
       case rel=>exact⟨j+1,by go_num,by omega,by
        rw[ZHf _ _ hmk hx16,← hnx]
        have:=hhj.set_ k (.int .u32 (hMask (l.take (j+1)) : Nat))
        rw[u32s,List.map_append,List.map_cons,ZJW _ _ _ _ _ (by rw[List.length_map];exact HLEN2.out)] at this
        rw[u32s,List.map_append,List.map_cons]
        exact this,by
        have h:=ZFw hgj (ZET wr hb k (.int .u32 (bits BinOp.or IntKind.u32 (hMask (l.take j) : Nat) (2 ^ xn % 4294967296))))
        exact⟨h.os,h.tape,h.output,h.size,h.block⟩⟩
       case measure=>simp[intOf];omega
      ·have hjj:l.take j=l:=List.take_of_length_le (by omega)
       rw[hjj] at hhj
       clear hjj
       have hnx:u32s ((L'.take (k+1)).map hMask ++ List.replicate (g.nodes.length - (k+1)) 0)=u32s ((L'.take k).map hMask ++ hMask l :: List.replicate (g.nodes.length - k - 1) 0):=by
        rw[List.take_succ_eq_append_getElem hlt,(List.getElem?_eq_some_iff.1 HL.out).2,List.map_append,List.append_assoc,Nat.sub_sub];rfl
       have HNX:=Hd_ hnx;clear hnx
       go_wp2
       go_roundw
       case rel=>exact⟨k+1,by go_num,by omega,by rw[HNX.out];exact hhj,hgj⟩
       case measure=>simp[intOf];omega
    ·have hkL:k=L'.length:=by omega
     have hkN:k=g.nodes.length:=by rw[← HLN.out];exact hkL
     have hmsk:u32s ((L'.take k).map hMask ++ List.replicate (g.nodes.length - k) 0)=(L'.map hMask).map fun n:Nat=>Value.int .u32 (n:Int):=by
      rw[List.take_of_length_le (by omega),hkN,Nat.sub_self];simp[u32s]
     rw[hmsk] at hhk
     clear hmsk
     have HKN:=Hd_ hkN;clear hkN
     have HKL:=Hd_ hkL;clear hkL
     obtain⟨rA,rc,hrve,-⟩:=id hrv
     rw[hrl] at hrve
     subst hrve
     have hrbr:=hrb2.grown hgr (by simp;omega)
     have e0:wr.cell? ⟨lb,0,none⟩=some (.slice rA g.nodes.length rc):=hlkr.cell 0
     have e1:wr.cell? ⟨lb,1,none⟩=some (.slice (some ⟨hb,0,none⟩) g.nodes.length g.nodes.length):=hlkr.cell 1
     have f0:wr.cell? ⟨w.heap.size+1,0,none⟩=some ra:=hrbr.cell 0
     have f1:wr.cell? ⟨w.heap.size+1,1,none⟩=some rb:=hrbr.cell 1
     have q0:=hrbr.frozen 0
     have q1:=hrbr.frozen 1
     go_wp2
     have hszr:=hgr.size
     refine bodyPost_ret (v:=.agg #[.slice rA g.nodes.length rc,.slice (some ⟨hb,0,none⟩) g.nodes.length g.nodes.length]) (by simp[results,Tryd.results90,go_sem,f0,f1]) rfl
      ⟨[.slice rA g.nodes.length rc,.slice (some ⟨hb,0,none⟩) g.nodes.length g.nodes.length],rfl,⟨_,_,rl,rfl,?_,hrl,hri,?_⟩,?_⟩
     ·refine hrv.mono (fun b o v hv=>?_)
      obtain⟨h1,h2,h3,h4⟩:=ZGu hv
      have hb5:=World.block_lt_of_cell? wc ⟨b,o,none⟩ h1
      have hb6:b < wc.heap.size:=hb5
      unfold part
      rw[if_pos ⟨by omega,by simp[World.setCell];omega⟩]
      refine(World.cell?_of_block ?_).trans h1
      refine(Below.heap_setCell (wr.setCell _ _) _ _ _ (by simp;omega)).trans ((Below.heap_setCell wr _ _ _ (by simp;omega)).trans ((hgr.block b (by omega) (by simp;omega)).trans (hb1.block b hb6)))
     ·rw[HLE.out]
      exact ZA1 (R:=U32C) (f:=fun n:Nat=>Value.int .u32 (n:Int)) (fun _ _ _ _ h=>h) ((hhk.far (by simp;omega) _).far (by simp;omega) _) (by omega) (Nat.le_refl _) (by simp;exact HLN.out.symm) (by omega)
     ·exact((((hbel.trans (hb1.mono hbel.size)).grown hgr (by have:=hbel.size;omega) (fun k hk=>by injection hk with hk;omega)).setCell (by simp) _).setCell (by simp) _)
  ·exfalso
   obtain⟨L,hL⟩:=hr.held
   rw[h1] at hL
   cases hL
abbrev Looks:=Sl (Cells lookV) 2
set_option maxRecDepth 100000 in
set_option maxHeartbeats 2000000 in
theorem ZF7 (u:Unit_) (cs:List Value) (w:World) (hu:UnitV (cmap w) cs u) (hok:UOk u) :
  Calls Tryd.prog 73 #[.agg cs.toArray] w fun e w'=>(checkF u=none∧∃ v,e=.returned (.tuple #[v,.int .i64 0])∧Looks (part w' w.heap.size w'.heap.size) v u.graphs∧Below w.heap.size w w') ∨
   (checkF u≠none∧e=.returned (.tuple #[.slice none 0 0,.int .i64 60])∧Below w.heap.size w w'):=by
 have hu0:=hu
 obtain⟨sv,lv,gv,rfl,hs,hl,hg⟩:=hu
 have hg':=hg
 obtain⟨gA,gc,rfl,-,-,-⟩:=hg'
 have bg:=hg.len.2.2
 have hbx:=Blk.new w 25 [sv,lv,.slice gA u.graphs.length gc]
 have HLD:Hid (∀ j v,([sv,lv,.slice gA u.graphs.length gc] : List Value)[j]? = some v→(w.alloc (.cells #[sv,lv,.slice gA u.graphs.length gc] 25)).cell? ⟨w.heap.size,0+j,none⟩=some v):=ZL w _ _ _ rfl
 obtain⟨r,hr⟩ : ∃ r,checkF u=r:=⟨_,rfl⟩
 rw[hr]
 cases r with
 | some ti =>
  obtain⟨t,i⟩:=ti
  go_enter Tryd.func73,Tryd.ntmps73
  go_wp2_with (first
   | (refine ZC rfl 25 _ rfl w.heap.size 0 rfl _ _ HLD.out Tryd.underlying25 rfl (by kernel_rfl) ?_)
   | (go_at_call 22;refine(Zz u [sv,lv,.slice gA u.graphs.length gc] _ (hu0.mono (ZJ _ _)) hok).mono ?_;rintro e w1 ⟨rfl,hb1⟩;rw[hr];clear hr;unfold checkV))
  go_ret2
  exact .inr ⟨by simp,rfl,(ZI _ _).trans (hb1.mono (by simp))⟩
 | none =>
  have hru:=ZK hr
  go_enter Tryd.func73,Tryd.ntmps73
  go_wp2_with (first
   | (refine ZC rfl 25 _ rfl w.heap.size 0 rfl _ _ HLD.out Tryd.underlying25 rfl (by kernel_rfl) ?_)
   | (go_at_call 22;refine(Zz u [sv,lv,.slice gA u.graphs.length gc] _ (hu0.mono (ZJ _ _)) hok).mono ?_;rintro e w1 ⟨rfl,hb1⟩;rw[hr];clear hr;unfold checkV;have hbx1:=hbx.below hb1 hbx.lt;have hcx1:=hbx1.cell 2))
  have hw1:Below w.heap.size w w1:=(ZI _ _).trans (hb1.mono (by simp))
  have hz8:=hru.threads
  go_loopw [7,22] (fun v7 v22 wr=>∃ (k:Nat) (S:Nat→Prop),v22=.int .i64 k∧k≤u.graphs.length∧Acc lookV 2 164 w.heap.size S v7 (u.graphs.take k) wr∧Below w.heap.size w wr) (fun _ v22 _=>u.graphs.length - (intOf v22).toNat)
  case atStart=>exact⟨0,_,rfl,by omega,Acc.nil _ _ _ _ _,hw1⟩
  case round =>
   obtain⟨k,S,rfl,hk,hacc,hbel⟩:=hrel
   have hbs:=hbel.size
   by_cases hlt:k < u.graphs.length
   ·obtain⟨g,hgk⟩ : ∃ g,u.graphs[k]? = some g:=⟨_,List.getElem?_eq_getElem hlt⟩
    obtain⟨b,o,rfl,cg,hgv,hdc⟩:=hg.at_ hgk
    have hrg:=hru.graphs g (List.mem_of_getElem? hgk)
    have htk:u.graphs.take (k+1)=u.graphs.take k ++ [g]:=by rw[List.take_succ_eq_append_getElem hlt,(List.getElem?_eq_some_iff.1 hgk).2]
    have HTK:=Hd_ htk;clear htk hgk
    have HGV:=hgv
    obtain⟨nv,rfl,nA,nc,rfl,-⟩:=hgv
    have hld:∀ j v,([.string g.name,.int .i64 g.locals,.int .i64 g.slots,.slice nA g.nodes.length nc] : List Value)[j]? = some v→wr.cell? ⟨b,o+k * 4+j,none⟩=some v:=fun j v h=>ZA hbel _ _ _ (hdc j v h)
    have HLDg:=Hd_ hld;clear hld hdc
    have HLD2:Hid (∀ j v,([.string g.name,.int .i64 g.locals,.int .i64 g.slots,.slice nA g.nodes.length nc] : List Value)[j]? = some v→(wr.alloc (.cells #[.string g.name,.int .i64 g.locals,.int .i64 g.slots,.slice nA g.nodes.length nc] 38)).cell? ⟨wr.heap.size,0+j,none⟩=some v):=ZL wr _ _ _ rfl
    have hk0:(0:Int)≤k:=by omega
    have hkl:(k:Int) < u.graphs.length:=by omega
    have hul:=hru.locks
    go_wp2_with (first
     | (refine ZC rfl 38 _ rfl b (o+k * 4) rfl _ _ HLDg.out Tryd.underlying38 rfl (by kernel_rfl) ?_)
     | (refine ZC rfl 38 _ rfl wr.heap.size 0 rfl _ _ HLD2.out Tryd.underlying38 rfl (by kernel_rfl) ?_)
     | (go_at_call 90;refine(ZFE u g [.string g.name,.int .i64 g.locals,.int .i64 g.slots,.slice nA g.nodes.length nc] _ hrg hul (HGV.mono ((ZA hbel).trans (ZJ _ _)))).mono ?_;rintro e w2 ⟨cs',rfl,hlv,hb2⟩;have hlv':=hlv;obtain⟨x1,x2,xl,rfl,⟨xA,xc,rfl,-⟩,-,-,⟨yA,yc,rfl,-⟩⟩:=hlv')
     | (refine ZN rfl ?_))
    refine Stop.intro ?_
    have hb3:Below wr.heap.size wr w2:=(ZB _ _).trans (hb2.mono (by simp))
    have hs2:=hb2.size
    simp only[World.size_alloc] at hs2
    have hacc2:=(hacc.keep hb3).alloc (.cells #[.slice xA xl.length xc,.slice yA (heldL g).length yc] 164)
    obtain⟨rows,ho,hrl,hrs,hrx⟩:=hacc2.rows
    have hlen:(u.graphs.take k).length≤8:=by simp;omega
    refine Zg sl_look rfl _ _ rfl w.heap.size u7 _ rows.flatten rfl (by simpa using ho) w2.heap.size 0 1 [.slice xA xl.length xc,.slice yA (heldL g).length yc] rfl rfl (ZL _ _ _ _ rfl) (by simp[Value.oneCell']) (by simp at hlen;omega) (by decide) (by simp;omega) ?_
    intro v' w' hown4 hgr hob
    have hv7:=hacc.lt
    have hlv3:lookV (part w2 (wr.alloc (.cells #[.string g.name,.int .i64 g.locals,.int .i64 g.slots,.slice nA g.nodes.length nc] 38)).heap.size w2.heap.size) [.slice xA xl.length xc,.slice yA (heldL g).length yc] g:=by
     rw[← List.length_map (f:=hMask)];exact hlv
    have hacc3:Acc lookV 2 164 w.heap.size (fun b=>S b∨(wr.heap.size≤b∧b < w2.heap.size)) v' (u.graphs.take (k+1)) w':=by
     rw[HTK.out]
     refine hacc2.push hrl hrs hrx rfl (by simpa using hown4) hgr hob (fun b hb=>.inl hb) (fun b hb=>?_) ?_
     ·rcases hb with hb | hb
      ·exact hacc2.sep b hb
      ·exact⟨by omega,by simp;omega,fun e=>by have:=hv7 b e.symm;omega⟩
     ·refine MonoV.mono ((ZCL w2 (S:=fun b=>wr.heap.size≤b∧b < w2.heap.size) fun b h1 h2=>⟨by simp at h1;omega,h2⟩).trans (Zf (fun b hb hlt=>?_) (fun b hb=>.inr hb))) hlv3
      rw[hgr.block b (by simp;omega) (fun e=>by have:=hv7 b e.symm;omega),Below.heap_alloc _ _ _ hlt]
    go_wp2_with fail
    go_roundw
    case rel=>exact⟨k+1,_,by go_num,by omega,hacc3,((hbel.trans (hb3.mono hbs)).alloc (by omega) _).grown hgr (by simp;omega) (fun j hj=>(hv7 j hj).1)⟩
    case measure=>simp[intOf];omega
   ·rw[List.take_of_length_le (by omega)] at hacc
    go_wp2
    go_ret2
    exact .inl ⟨trivial,u7,rfl,hacc.done (Nat.le_refl _) (Nat.le_refl _),hbel⟩
structure EachInv (m:CM) (I:List Hit→World→Prop) : Prop where
 le:∀ pre wr,I pre wr→m.le (cmap wr)
 alloc:∀ pre wr o,I pre wr→I pre (wr.alloc o)
 drew:∀ pre wr,I pre wr→I pre wr.drew
set_option maxRecDepth 100000 in
set_option maxHeartbeats 4000000 in
theorem ZIE (u:Unit_) (cs:List Value) (lv:Value) (p:Addr) (m:CM) (w:World) (hru:RightU u) (hu:UnitV m cs u) (hlk:Looks m lv u.graphs) (I:List Hit→World→Prop) (hI:EachInv m I) (h0:I [] w)
  (hstep:∀ pre h rest wr,pre ++ h :: rest=hitsU u→I pre wr→Calls Tryd.prog 75 #[.agg #[.int .i64 h.t,.int .i64 h.i],.agg h.n.cells.toArray,.int .u32 (hMask h.l:Nat),.pointer (some p)] wr fun e w'=>e=.returned (.tuple #[])∧I (pre ++ [h]) w') :
  Calls Tryd.prog 74 #[.agg cs.toArray,lv,.func (.func 75) #[] #[.pointer (some p)]] w fun e w'=>e=.returned (.tuple #[])∧I (hitsU u) w':=by
 obtain⟨sv,kv,gv,rfl,hs,hl,hg⟩:=hu
 have hg':=hg
 obtain⟨gA,gc,rfl,-,-,-⟩:=hg'
 have bg:=hg.len.2.2
 have hlk':=hlk
 obtain⟨lA,lc,rfl,-,-,-⟩:=hlk'
 obtain⟨T,hT⟩ : ∃ T,hitsU u=T:=⟨_,rfl⟩
 rw[hT] at hstep ⊢
 have hT2:hits 0 u.graphs=T:=hT
 have HT:=Hd_ hT2;clear hT2 hT
 have HI:=Hd_ hI;clear hI
 have HST:=Hd_ hstep;clear hstep
 go_enter Tryd.func74,Tryd.ntmps74
 go_wp2
 go_loopw [13] (fun v13 wr=>∃ (k:Nat) (pre:List Hit),v13=.int .i64 k∧k≤u.graphs.length∧I pre wr∧pre ++ hits k (u.graphs.drop k)=T) (fun v13 _=>u.graphs.length - (intOf v13).toNat)
 case atStart=>exact⟨0,[],rfl,by omega,HI.out.alloc _ _ _ h0,HT.out⟩
 case round =>
  obtain⟨k,pre,rfl,hk,hi,hp⟩:=hrel
  clear h0
  have hle:=HI.out.le _ _ hi
  by_cases hlt:k < u.graphs.length
  ·obtain⟨g,hgk⟩ : ∃ g,u.graphs[k]? = some g:=⟨_,List.getElem?_eq_getElem hlt⟩
   obtain⟨b,o,rfl,cg,hgv,hdc⟩:=hg.at_ hgk
   obtain⟨bl,ol,rfl,hlv⟩:=hlk.at_ hgk
   obtain⟨_,⟨rv,hv,rl,rfl,hrv,hrl,hri,hhv⟩,hlc⟩:=hlv
   have hrg:=hru.graphs g (List.mem_of_getElem? hgk)
   rw[ZEo hgk,hits] at hp
   have HP:=Hd_ hp;clear hp
   obtain⟨nv,rfl,nA,nc,rfl,hnc1,hnc2,hnn⟩:=hgv
   have HLD:Hid (∀ j v,([.string g.name,.int .i64 g.locals,.int .i64 g.slots,.slice nA g.nodes.length nc] : List Value)[j]? = some v→wr.cell? ⟨b,o+k * 4+j,none⟩=some v):=fun j v h=>hle _ _ _ (hdc j v h)
   clear hdc
   have r0:m bl (ol+k * 2)=some rv:=hlc 0 _ rfl
   have r1:m bl (ol+k * 2+1)=some hv:=hlc 1 _ rfl
   clear hlc hgk
   obtain⟨rA,rc,rfl,-⟩:=id hrv
   obtain⟨hA,hc,hve,-⟩:=id hhv
   rw[List.length_map] at hve
   subst hve
   have hk0:(0:Int)≤k:=by omega
   have hkl:(k:Int) < u.graphs.length:=by omega
   have hnm:=hrg.whole.most
   have HHL:=Hd_ (ZFH hrg)
   have HRL:=Hd_ hrl;clear hrl
   have hi2:=HI.out.alloc _ _ (.cells #[.string g.name,.int .i64 g.locals,.int .i64 g.slots,.slice nA g.nodes.length nc] 38) hi
   go_wp2_with (first
    | (refine ZC rfl 38 _ rfl b (o+k * 4) rfl _ _ HLD.out Tryd.underlying38 rfl (by kernel_rfl) ?_))
   clear hi hle HLD
   obtain⟨wo,rfl⟩ : ∃ wo:World,wo=wr:=⟨_,rfl⟩
   go_loopw [21] (fun v21 wr=>∃ (i:Nat) (pre:List Hit),v21=.int .i64 i∧i≤g.nodes.length∧I pre wr∧pre ++ (hitsOf k g i (g.nodes.drop i) ++ hits (k+1) (u.graphs.drop (k+1)))=T) (fun v21 _=>g.nodes.length - (intOf v21).toNat)
   case atStart=>exact⟨0,pre,rfl,by omega,hi2,HP.out⟩
   case round =>
    clear hi2
    obtain⟨i,pre2,rfl,hil,hi,hp⟩:=hrel
    have hle:=HI.out.le _ _ hi
    by_cases hlt2:i < g.nodes.length
    ·obtain⟨n,hni⟩ : ∃ n,g.nodes[i]? = some n:=⟨_,List.getElem?_eq_getElem hlt2⟩
     obtain⟨bv,hbv⟩ : ∃ v,rl[i]? = some v:=⟨_,List.getElem?_eq_getElem (by rw[HRL.out];exact hlt2)⟩
     obtain⟨br,or_,rfl,hrc⟩:=hrv.at_ hbv
     have hrc2:wr.cell? ⟨br,or_+i,none⟩=some (.bool bv):=by have:=hle _ _ _ hrc;rwa [Nat.mul_one] at this
     clear hrc
     rw[ZEo hni] at hp
     obtain⟨bn,on_,rfl,hnc⟩:=Sl.at_ ⟨nA,nc,rfl,hnc1,hnc2,hnn⟩ hni
     have HLDN:Hid (∀ j v,n.cells[j]? = some v→wr.cell? ⟨bn,on_+i * 13+j,none⟩=some v):=fun j v h=>hle _ _ _ (hnc j v h)
     have hi0:(0:Int)≤i:=by omega
     have hii:(i:Int) < g.nodes.length:=by omega
     have hiN:(i:Int) < rl.length:=by rw[HRL.out];exact hii
     have q0:wr.cell? ⟨bl,ol+k * 2,none⟩=some (.slice (some ⟨br,or_,none⟩) rl.length rc):=hle _ _ _ r0
     have lt1:bl < wr.heap.size:=World.block_lt_of_cell? wr ⟨bl,ol+k * 2,none⟩ q0
     have lt2:br < wr.heap.size:=World.block_lt_of_cell? wr ⟨br,or_+i,none⟩ hrc2
     unfold Node.cells at HLDN
     have hi3:=HI.out.alloc _ _ (.cells n.cells.toArray 61) hi
     unfold Node.cells at hi3
     cases bv with
     | false =>
      have hno:¬ ReachC g (-1) i:=fun h=>by
       have:=(hri i).2 h
       rw[hbv] at this;cases this
      rw[ZHw hno] at hp
      have HP2:=Hd_ hp;clear hp
      have HNI:=Hd_ hni;clear hni
      have HBV:=Hd_ hbv;clear hbv
      go_wp2_with (first | (refine ZC rfl 61 _ rfl bn (on_+i * 13) rfl _ _ HLDN.out Tryd.underlying61 rfl (by kernel_rfl) ?_))
      go_roundw
      case rel=>exact⟨i+1,pre2,by go_num,by omega,hi3,HP2.out⟩
      case measure=>simp[intOf];omega
     | true =>
      rw[ZAs ((hri i).1 hbv)] at hp
      have hp2:pre2 ++ ⟨k,i,n,heldAt g i⟩ :: (hitsOf k g (i+1) (g.nodes.drop (i+1)) ++ hits (k+1) (u.graphs.drop (k+1)))=T:=hp
      have hp3:(pre2 ++ [⟨k,i,n,heldAt g i⟩]) ++ (hitsOf k g (i+1) (g.nodes.drop (i+1)) ++ hits (k+1) (u.graphs.drop (k+1)))=T:=by rw[List.append_assoc];exact hp2
      have HP2:=Hd_ hp2;clear hp hp2
      have HP3:=Hd_ hp3;clear hp3
      obtain⟨l,hl⟩ : ∃ l,(heldL g)[i]? = some l:=⟨_,List.getElem?_eq_getElem (by rw[HHL.out];exact hlt2)⟩
      have hla:heldAt g i=l:=by unfold heldAt;rw[hl];rfl
      have hl2:((heldL g).map hMask)[i]? = some (hMask l):=by rw[List.getElem?_map,hl];rfl
      obtain⟨bh,oh,rfl,hcell⟩:=hhv.at_ hl2
      rw[Nat.mul_one] at hcell
      rw[hla] at HP2 HP3
      have HNI:=Hd_ hni;clear hni
      have HBV:=Hd_ hbv;clear hbv
      have HLA:=Hd_ hla;clear hla hl hl2
      have q1:wr.cell? ⟨bl,ol+k * 2+1,none⟩=some (.slice (some ⟨bh,oh,none⟩) (heldL g).length hc):=hle _ _ _ r1
      have lt3:bh < wr.heap.size:=World.block_lt_of_cell? wr ⟨bh,oh+i,none⟩ (hle _ _ _ hcell)
      have q2:wr.cell? ⟨bh,oh+i,none⟩=some (.int .u32 (hMask l:Nat)):=hle _ _ _ hcell
      have hiH:(i:Int) < (heldL g).length:=by rw[HHL.out];exact hii
      clear hcell
      go_wp2_with (first | (refine ZC rfl 61 _ rfl bn (on_+i * 13) rfl _ _ HLDN.out Tryd.underlying61 rfl (by kernel_rfl) ?_))
      have hD:=ZDN (n:=n) (ZL wr n.cells 61 wr.heap.size rfl)
      simp only[Nat.zero_add] at hD
      unfold Node.cells at hD
      have q1':(wr.alloc (.cells ([.int .u8 n.kind,.int .u8 n.op,.int .i64 n.slot,.int .i64 n.thing,.bool n.a.isSlot,.int .i64 n.a.slot,.int .i64 n.a.word,.bool n.b.isSlot,.int .i64 n.b.slot,.int .i64 n.b.word,.int .i64 n.next,.int .i64 n.els,.int .i64 n.origin] : List Value).toArray 61)).cell? ⟨bl,ol+k * 2+1,none⟩=some (.slice (some ⟨bh,oh,none⟩) (heldL g).length hc):=ZJ wr _ _ _ _ q1
      have q2':(wr.alloc (.cells ([.int .u8 n.kind,.int .u8 n.op,.int .i64 n.slot,.int .i64 n.thing,.bool n.a.isSlot,.int .i64 n.a.slot,.int .i64 n.a.word,.bool n.b.isSlot,.int .i64 n.b.slot,.int .i64 n.b.word,.int .i64 n.next,.int .i64 n.els,.int .i64 n.origin] : List Value).toArray 61)).cell? ⟨bh,oh+i,none⟩=some (.int .u32 (hMask l:Nat)):=ZJ wr _ _ _ _ q2
      generalize wr.alloc (.cells ([.int .u8 n.kind,.int .u8 n.op,.int .i64 n.slot,.int .i64 n.thing,.bool n.a.isSlot,.int .i64 n.a.slot,.int .i64 n.a.word,.bool n.b.isSlot,.int .i64 n.b.slot,.int .i64 n.b.word,.int .i64 n.next,.int .i64 n.els,.int .i64 n.origin] : List Value).toArray 61)=wn at hD q1' q2' hi3 ⊢
      obtain⟨d0,d1,d2,d3,d4,d5,d6,d7,d8,d9,d10,d11,d12⟩:=hD
      clear q1 q2 q0 hrc2 hle HLDN
      go_still_tail 13,(by kernel_rfl)
      change wpList _ _ _ _ _ (World.drew wn)
      go_wp2_with (go_at_call 75;refine(HST.out pre2 ⟨k,i,n,l⟩ _ _ HP2.out (HI.out.drew _ _ hi3)).mono ?_;rintro e w3 ⟨rfl,hi4⟩)
      go_roundw
      case rel=>exact⟨i+1,_,by go_num,by omega,hi4,HP3.out⟩
      case measure=>simp[intOf];omega
    ·have hnil:g.nodes.drop i=[]:=List.drop_eq_nil_of_le (by omega)
     rw[hnil,hitsOf,List.nil_append] at hp
     have HP2:=Hd_ hp;clear hp hnil
     go_wp2
     go_roundw
     case rel=>exact⟨k+1,pre2,by go_num,by omega,hi,HP2.out⟩
     case measure=>simp[intOf];omega
  ·have hnil:u.graphs.drop k=[]:=List.drop_eq_nil_of_le (by omega)
   rw[hnil,hits,List.append_nil] at hp
   subst hp
   clear hnil
   go_wp2
   go_end0
   exact⟨rfl,hi⟩
abbrev iK:Int→Value:=fun x=>Value.int .i64 x
theorem ZHO {pre:List Hit} {h:Hit} (ht:touchB h.n=false) : useF (pre ++ [h])=useF pre:=by
 funext k
 have:(pre ++ [h]).filter (·.on k)=pre.filter (·.on k):=by
  rw[List.filter_append]
  have:h.on k=false:=by unfold Hit.on;rw[ht];rfl
  simp[this]
 unfold useF
 rw[this]
theorem ZIZ {pre:List Hit} {h:Hit} (ht:touchB h.n=true) : (fun k=>if k=h.n.thing then some (Value.agg (useV (pre.filter (·.on h.n.thing) ++ [h])).toArray) else useF pre k)=useF (pre ++ [h]):=by
 funext k
 by_cases e:k=h.n.thing
 ·rw[if_pos e]
  subst e
  have:(pre ++ [h]).filter (·.on h.n.thing)=pre.filter (·.on h.n.thing) ++ [h]:=by
   rw[List.filter_append]
   have:h.on h.n.thing=true:=by unfold Hit.on;rw[ht];simp
   simp[this]
  unfold useF
  rw[this,if_neg (by simp)]
 ·rw[if_neg e]
  have:(pre ++ [h]).filter (·.on k)=pre.filter (·.on k):=by
   rw[List.filter_append]
   have:h.on k=false:=by
    unfold Hit.on
    have:decide (h.n.thing=k)=false:=decide_eq_false (fun q=>e q.symm)
    rw[this,Bool.and_false]
   simp[this]
  unfold useF
  rw[this]
structure UInv (w1:World) (pre:List Hit) (wr:World) : Prop where
 map:MapIs iK decInt wr w1.heap.size (useF pre)
 ptr:wr.cell? ⟨w1.heap.size+1,0,none⟩=some (.map (some w1.heap.size))
 below:Below w1.heap.size w1 wr
 size:w1.heap.size+1 < wr.heap.size
theorem UInv.each (w1:World) : EachInv (cmap w1) (UInv w1) where
 le:=fun _ _ h=>ZA h.below
 alloc:=fun _ _ o h=>⟨h.map.alloc o,by rw[World.cell?_of_block (Below.heap_alloc _ _ _ h.size)];exact h.ptr,h.below.alloc (by have:=h.size;omega) o,by have:=h.size;simp;omega⟩
 drew:=fun _ _ h=>⟨h.map,h.ptr,h.below.drew,h.size⟩
set_option maxRecDepth 100000 in
set_option maxHeartbeats 4000000 in
theorem ZFc (w1:World) (pre:List Hit) (h:Hit) (wr:World) (hb:∀ x∈pre ++ [h],x.t < 8∧∀ k∈x.l,0≤k∧k < 16) (hi:UInv w1 pre wr) :
  Calls Tryd.prog 75 #[.agg #[.int .i64 h.t,.int .i64 h.i],.agg h.n.cells.toArray,.int .u32 (hMask h.l:Nat),.pointer (some ⟨w1.heap.size+1,0,none⟩)] wr fun e w'=>e=.returned (.tuple #[])∧UInv w1 (pre ++ [h]) w':=by
 obtain⟨t,i,n,l⟩:=h
 dsimp only at hb ⊢
 obtain⟨hm,hp,hbl,hsz⟩:=hi
 have ht8:t < 8:=(hb ⟨t,i,n,l⟩ (by simp)).1
 have hl16:=(hb ⟨t,i,n,l⟩ (by simp)).2
 have hml:hMask l < 65536:=ZGO l hl16
 have HLD:Hid (∀ j v,n.cells[j]? = some v→((wr.alloc (.cells #[.int .i64 (t:Nat),.int .i64 (i:Nat)] 150)).alloc (.cells n.cells.toArray 61)).cell? ⟨wr.heap.size+1,0+j,none⟩=some v):=ZL _ _ _ _ (by simp)
 have hm2:=(hm.alloc (.cells #[.int .i64 (t:Nat),.int .i64 (i:Nat)] 150)).alloc (.cells n.cells.toArray 61)
 have hbl2:=(hbl.alloc (by omega) (.cells #[.int .i64 (t:Nat),.int .i64 (i:Nat)] 150)).alloc (by simp;omega) (.cells n.cells.toArray 61)
 have hp2:((wr.alloc (.cells #[.int .i64 (t:Nat),.int .i64 (i:Nat)] 150)).alloc (.cells n.cells.toArray 61)).cell? ⟨w1.heap.size+1,0,none⟩=some (.map (some w1.heap.size)):=ZJ _ _ _ _ _ (ZJ _ _ _ _ _ hp)
 have hn3:((wr.alloc (.cells #[.int .i64 (t:Nat),.int .i64 (i:Nat)] 150)).alloc (.cells n.cells.toArray 61)).cell? ⟨wr.heap.size+1,3,none⟩=some (.int .i64 n.thing):=HLD.out 3 _ rfl
 have ht3:((wr.alloc (.cells #[.int .i64 (t:Nat),.int .i64 (i:Nat)] 150)).alloc (.cells n.cells.toArray 61)).cell? ⟨wr.heap.size,0,none⟩=some (.int .i64 (t:Nat)):=ZJ _ _ _ _ _ (ZL wr [.int .i64 (t:Nat),.int .i64 (i:Nat)] _ _ rfl 0 _ rfl)
 unfold Node.cells at HLD hm2 hbl2 hp2 hn3 ht3
 cases hq:touchB n
 ·have hF:=ZHO (pre:=pre) (h:=⟨t,i,n,l⟩) hq
  have HF:=Hd_ hF;clear hF
  have HQ:=Hd_ hq
  unfold Node.cells
  go_enter Tryd.func75,Tryd.ntmps75
  go_wp2_with (first
   | (refine ZC rfl 61 _ rfl (wr.heap.size+1) 0 rfl _ _ HLD.out Tryd.underlying61 rfl (by kernel_rfl) ?_)
   | (go_at_call 76;refine(ZA4 n _).mono ?_;rintro e w3 ⟨rfl,hb3⟩;rw[hq];clear hq))
  have hs3:=hb3.size
  simp only[World.size_alloc] at hs3
  exact bodyPost_ret (results_none rfl _ _ _) rfl ⟨rfl,⟨by rw[HF.out];exact hm2.below hb3 hm2.lt,ZA hb3 _ _ _ hp2,hbl2.trans (hb3.mono (by simp;omega)),by omega⟩⟩
 ·have hF:=ZIZ (pre:=pre) (h:=⟨t,i,n,l⟩) hq
  dsimp only at hF
  have hT:∀ x∈pre.filter (·.on n.thing),x.t < 16:=fun x hx=>by have:=(hb x (by simp[(List.mem_filter.1 hx).1])).1;omega
  have htm:tMask (pre.filter (·.on n.thing)) < 65536:=ZEN _ hT
  have hgm:gMask (pre.filter (·.on n.thing)) < 65536:=ZEi _
  unfold useV at hF
  rw[ZGd,ZG9] at hF
  dsimp only at hF
  have hget:∀ T,T=pre.filter (·.on n.thing)→useF pre n.thing=if T=[] then none else some (.agg (useV T).toArray):=fun T h=>by rw[h];rfl
  obtain⟨T,hTT⟩ : ∃ T,pre.filter (·.on n.thing)=T:=⟨_,rfl⟩
  have hget2:=hget T hTT.symm
  rw[hTT] at hF htm hgm
  have HF:=Hd_ hF;clear hF
  clear hget hT hTT hb
  unfold Node.cells
  cases T with
  | nil =>
   rw[if_pos rfl] at hget2
   have HG:=Hd_ hget2;clear hget2
   have hor:bits BinOp.or IntKind.u32 0 (2 ^ t % 4294967296)=((tMask [] ||| 2 ^ t:Nat) : Int):=ZHf 0 t (by omega) (by omega)
   have hand:bits BinOp.and IntKind.u32 65535 (hMask l:Nat)=((gMask [] &&& hMask l:Nat) : Int):=bits_and_u32_nat 65535 (hMask l) (by omega) (by omega)
   have HOR:=Hd_ hor;clear hor
   have HAND:=Hd_ hand;clear hand
   go_enter Tryd.func75,Tryd.ntmps75
   go_wp2_with (first
    | (refine ZC rfl 61 _ rfl (wr.heap.size+1) 0 rfl _ _ HLD.out Tryd.underlying61 rfl (by kernel_rfl) ?_)
    | (go_at_call 76;refine(ZA4 n _).mono ?_;rintro e w3 ⟨rfl,hb3⟩;rw[hq];clear hq;have hp3:=ZA hb3 _ _ _ hp2;have hn4:=ZA hb3 _ _ _ hn3;unfold cmap at hp3 hn4)
    | (refine Zo rfl ?_))
   refine Stop.intro ?_
   have hm3:=hm2.below hb3 hm2.lt
   have ht4:=ZA hb3 _ _ _ ht3
   unfold cmap at ht4
   have hs3:=hb3.size
   simp only[World.size_alloc] at hs3
   have hbl3:=hbl2.trans (hb3.mono (by simp;omega))
   clear hm2 hbl2 hp2 hn3 ht3 hb3 HLD hm hbl
   have ls1:w1.heap.size+1 < w3.heap.size:=by omega
   have ls2:wr.heap.size < w3.heap.size:=by omega
   have ls3:wr.heap.size+1 < w3.heap.size:=by omega
   refine ZDx ZBr Tryd.underlying122 rfl _ _ rfl w1.heap.size (useF pre) hm3 n.thing rfl rfl (.agg #[.int .u32 0,.int .u32 0]) (by kernel_rfl) ?_
   rw[HG.out]
   go_wp2
   have k0:(w3.alloc (.cells #[.int .u32 0,.int .u32 65535] 80)).cell? ⟨w3.heap.size,0,none⟩=some (.int .u32 0):=by simp
   have k1:(w3.alloc (.cells #[.int .u32 0,.int .u32 65535] 80)).cell? ⟨w3.heap.size,1,none⟩=some (.int .u32 65535):=by simp
   have f0:(w3.alloc (.cells #[.int .u32 0,.int .u32 65535] 80)).frozen? ⟨w3.heap.size,0,none⟩=false:=frozen_of_row _ _ _ _ _ (heap_alloc_new w3 _)
   have f1:(w3.alloc (.cells #[.int .u32 0,.int .u32 65535] 80)).frozen? ⟨w3.heap.size,1,none⟩=false:=frozen_of_row _ _ _ _ _ (heap_alloc_new w3 _)
   have ht5:(w3.alloc (.cells #[.int .u32 0,.int .u32 65535] 80)).cell? ⟨wr.heap.size,0,none⟩=some (.int .i64 (t:Nat)):=ZJ _ _ _ _ _ ht4
   have hp5:(w3.alloc (.cells #[.int .u32 0,.int .u32 65535] 80)).cell? ⟨w1.heap.size+1,0,none⟩=some (.map (some w1.heap.size)):=ZJ _ _ _ _ _ hp3
   have hn5:(w3.alloc (.cells #[.int .u32 0,.int .u32 65535] 80)).cell? ⟨wr.heap.size+1,3,none⟩=some (.int .i64 n.thing):=ZJ _ _ _ _ _ hn4
   have hm5:MapIs iK decInt (w3.alloc (.cells #[.int .u32 0,.int .u32 65535] 80)) w1.heap.size (useF pre):=hm3.alloc _
   have hbl5:Below w1.heap.size w1 (w3.alloc (.cells #[.int .u32 0,.int .u32 65535] 80)):=hbl3.alloc (by omega) _
   have hs5:(w3.alloc (.cells #[.int .u32 0,.int .u32 65535] 80)).heap.size=w3.heap.size+1:=by simp
   generalize (w3.alloc (.cells #[.int .u32 0,.int .u32 65535] 80))=wq at k0 k1 f0 f1 ht5 hp5 hn5 hm5 hbl5 hs5 ⊢
   have ne1:w1.heap.size+1≠w3.heap.size:=by omega
   have ne2:wr.heap.size+1≠w3.heap.size:=by omega
   clear hm3 hbl3 ht4 hp3 hn4
   have HS5:=Hd_ hs5;clear hs5
   go_still_tail 7,(by kernel_rfl)
   change wpList _ _ _ _ _ (World.drew wq)
   go_wp2_with (refine Zn rfl ?_)
   refine Stop.intro ?_
   refine Zu ZBr Tryd.underlying122 rfl _ _ _ (.inl rfl) w1.heap.size (useF pre) ((MapIs.setCell (p:=⟨w3.heap.size,0,none⟩) (MapIs.drew hm5) (by simp;omega) _).setCell (p:=⟨w3.heap.size,1,none⟩) (by simp;omega) _) n.thing (.agg #[.int .u32 (bits BinOp.or IntKind.u32 0 (2 ^ t % 4294967296)),.int .u32 (bits BinOp.and IntKind.u32 65535 (hMask l:Nat))]) rfl rfl rfl ?_
   intro w6 hm6 hg6
   have hs6:=hg6.size
   have hq5:=HS5.out
   have hp6:=hg6.cell (a:=⟨w1.heap.size+1,0,none⟩) ((World.cell?_of_block ((Below.heap_setCell _ _ _ _ (by simp;omega)).trans (Below.heap_setCell _ _ _ _ (by simp;omega)))).trans hp5) (by simp)
   have hbl6:=((hbl5.drew.setCell (p:=⟨w3.heap.size,0,none⟩) (by simp;omega) _).setCell (p:=⟨w3.heap.size,1,none⟩) (by simp;omega) _).grown hg6 (by simp[World.setCell];omega) (fun k hk=>by injection hk with hk;omega)
   have hz6:w1.heap.size+1 < w6.heap.size:=by simp[World.setCell] at hs6;omega
   have hm7:MapIs iK decInt w6 w1.heap.size (useF (pre ++ [⟨t,i,n,l⟩])):=by
    refine hm6.congr fun k'=>?_
    rw[← congrFun HF.out k']
    by_cases hk':k'=n.thing
    ·rw[if_pos hk',if_pos hk',HOR.out,HAND.out]
    ·rw[if_neg hk',if_neg hk']
   clear hm6 hm5 hbl5
   go_wp2_with fail
   go_end0
   exact⟨rfl,hm7,hp6,hbl6,hz6⟩
  | cons a T =>
   rw[if_neg (by simp)] at hget2
   unfold useV at hget2
   have HG:=Hd_ hget2;clear hget2
   have HOR:=Hd_ (ZHf (tMask (a :: T)) t htm (by omega))
   have HAND:=Hd_ (bits_and_u32_nat (gMask (a :: T)) (hMask l) (by omega) (by omega))
   go_enter Tryd.func75,Tryd.ntmps75
   go_wp2_with (first
    | (refine ZC rfl 61 _ rfl (wr.heap.size+1) 0 rfl _ _ HLD.out Tryd.underlying61 rfl (by kernel_rfl) ?_)
    | (go_at_call 76;refine(ZA4 n _).mono ?_;rintro e w3 ⟨rfl,hb3⟩;rw[hq];clear hq;have hp3:=ZA hb3 _ _ _ hp2;have hn4:=ZA hb3 _ _ _ hn3;unfold cmap at hp3 hn4)
    | (refine Zo rfl ?_))
   refine Stop.intro ?_
   have hm3:=hm2.below hb3 hm2.lt
   have ht4:=ZA hb3 _ _ _ ht3
   unfold cmap at ht4
   have hs3:=hb3.size
   simp only[World.size_alloc] at hs3
   have hbl3:=hbl2.trans (hb3.mono (by simp;omega))
   clear hm2 hbl2 hp2 hn3 ht3 hb3 HLD hm hbl
   have ls1:w1.heap.size+1 < w3.heap.size:=by omega
   have ls2:wr.heap.size < w3.heap.size:=by omega
   have ls3:wr.heap.size+1 < w3.heap.size:=by omega
   refine ZDx ZBr Tryd.underlying122 rfl _ _ rfl w1.heap.size (useF pre) hm3 n.thing rfl rfl (.agg #[.int .u32 0,.int .u32 0]) (by kernel_rfl) ?_
   rw[HG.out]
   go_wp2
   have k0:(w3.alloc (.cells #[.int .u32 (tMask (a :: T) : Nat),.int .u32 (gMask (a :: T) : Nat)] 80)).cell? ⟨w3.heap.size,0,none⟩=some (.int .u32 (tMask (a :: T) : Nat)):=by simp
   have k1:(w3.alloc (.cells #[.int .u32 (tMask (a :: T) : Nat),.int .u32 (gMask (a :: T) : Nat)] 80)).cell? ⟨w3.heap.size,1,none⟩=some (.int .u32 (gMask (a :: T) : Nat)):=by simp
   have f0:(w3.alloc (.cells #[.int .u32 (tMask (a :: T) : Nat),.int .u32 (gMask (a :: T) : Nat)] 80)).frozen? ⟨w3.heap.size,0,none⟩=false:=frozen_of_row _ _ _ _ _ (heap_alloc_new w3 _)
   have f1:(w3.alloc (.cells #[.int .u32 (tMask (a :: T) : Nat),.int .u32 (gMask (a :: T) : Nat)] 80)).frozen? ⟨w3.heap.size,1,none⟩=false:=frozen_of_row _ _ _ _ _ (heap_alloc_new w3 _)
   have ht5:(w3.alloc (.cells #[.int .u32 (tMask (a :: T) : Nat),.int .u32 (gMask (a :: T) : Nat)] 80)).cell? ⟨wr.heap.size,0,none⟩=some (.int .i64 (t:Nat)):=ZJ _ _ _ _ _ ht4
   have hp5:(w3.alloc (.cells #[.int .u32 (tMask (a :: T) : Nat),.int .u32 (gMask (a :: T) : Nat)] 80)).cell? ⟨w1.heap.size+1,0,none⟩=some (.map (some w1.heap.size)):=ZJ _ _ _ _ _ hp3
   have hn5:(w3.alloc (.cells #[.int .u32 (tMask (a :: T) : Nat),.int .u32 (gMask (a :: T) : Nat)] 80)).cell? ⟨wr.heap.size+1,3,none⟩=some (.int .i64 n.thing):=ZJ _ _ _ _ _ hn4
   have hm5:MapIs iK decInt (w3.alloc (.cells #[.int .u32 (tMask (a :: T) : Nat),.int .u32 (gMask (a :: T) : Nat)] 80)) w1.heap.size (useF pre):=hm3.alloc _
   have hbl5:Below w1.heap.size w1 (w3.alloc (.cells #[.int .u32 (tMask (a :: T) : Nat),.int .u32 (gMask (a :: T) : Nat)] 80)):=hbl3.alloc (by omega) _
   have hs5:(w3.alloc (.cells #[.int .u32 (tMask (a :: T) : Nat),.int .u32 (gMask (a :: T) : Nat)] 80)).heap.size=w3.heap.size+1:=by simp
   generalize (w3.alloc (.cells #[.int .u32 (tMask (a :: T) : Nat),.int .u32 (gMask (a :: T) : Nat)] 80))=wq at k0 k1 f0 f1 ht5 hp5 hn5 hm5 hbl5 hs5 ⊢
   have ne1:w1.heap.size+1≠w3.heap.size:=by omega
   have ne2:wr.heap.size+1≠w3.heap.size:=by omega
   clear hm3 hbl3 ht4 hp3 hn4
   have HS5:=Hd_ hs5;clear hs5
   go_still_tail 7,(by kernel_rfl)
   change wpList _ _ _ _ _ (World.drew wq)
   go_wp2_with (refine Zn rfl ?_)
   refine Stop.intro ?_
   refine Zu ZBr Tryd.underlying122 rfl _ _ _ (.inl rfl) w1.heap.size (useF pre) ((MapIs.setCell (p:=⟨w3.heap.size,0,none⟩) (MapIs.drew hm5) (by simp;omega) _).setCell (p:=⟨w3.heap.size,1,none⟩) (by simp;omega) _) n.thing (.agg #[.int .u32 (bits BinOp.or IntKind.u32 (tMask (a :: T) : Nat) (2 ^ t % 4294967296)),.int .u32 (bits BinOp.and IntKind.u32 (gMask (a :: T) : Nat) (hMask l:Nat))]) rfl rfl rfl ?_
   intro w6 hm6 hg6
   have hs6:=hg6.size
   have hq5:=HS5.out
   have hp6:=hg6.cell (a:=⟨w1.heap.size+1,0,none⟩) ((World.cell?_of_block ((Below.heap_setCell _ _ _ _ (by simp;omega)).trans (Below.heap_setCell _ _ _ _ (by simp;omega)))).trans hp5) (by simp)
   have hbl6:=((hbl5.drew.setCell (p:=⟨w3.heap.size,0,none⟩) (by simp;omega) _).setCell (p:=⟨w3.heap.size,1,none⟩) (by simp;omega) _).grown hg6 (by simp[World.setCell];omega) (fun k hk=>by injection hk with hk;omega)
   have hz6:w1.heap.size+1 < w6.heap.size:=by simp[World.setCell] at hs6;omega
   have hm7:MapIs iK decInt w6 w1.heap.size (useF (pre ++ [⟨t,i,n,l⟩])):=by
    refine hm6.congr fun k'=>?_
    rw[← congrFun HF.out k']
    by_cases hk':k'=n.thing
    ·rw[if_pos hk',if_pos hk',HOR.out,HAND.out]
    ·rw[if_neg hk',if_neg hk']
   clear hm6 hm5 hbl5
   go_wp2_with fail
   go_end0
   exact⟨rfl,hm7,hp6,hbl6,hz6⟩
set_option maxRecDepth 100000 in
set_option maxHeartbeats 2000000 in
theorem ZFI (u:Unit_) (cs:List Value) (w:World) (hu:UnitV (cmap w) cs u) (hok:UOk u) :
  Calls Tryd.prog 52 #[.agg cs.toArray] w fun e w'=>(checkF u=none∧∃ b,e=.returned (.tuple #[.map (some b),.int .i64 0])∧MapIs iK decInt w' b (useF (hitsU u))∧w.heap.size≤b∧Below w.heap.size w w') ∨
   (checkF u≠none∧e=.returned (.tuple #[.map none,.int .i64 60])∧Below w.heap.size w w'):=by
 have hu0:=hu
 obtain⟨sv,lv,gv,rfl,hs,hl,hg⟩:=hu
 have hbx:=Blk.new w 25 [sv,lv,gv]
 have HLD:Hid (∀ j v,([sv,lv,gv] : List Value)[j]? = some v→(w.alloc (.cells #[sv,lv,gv] 25)).cell? ⟨w.heap.size,0+j,none⟩=some v):=ZL w _ _ _ rfl
 go_enter Tryd.func52,Tryd.ntmps52
 go_wp2_with (first
  | (refine ZC rfl 25 _ rfl w.heap.size 0 rfl _ _ HLD.out Tryd.underlying25 rfl (by kernel_rfl) ?_))
 refine(ZF7 u [sv,lv,gv] _ (hu0.mono (ZJ _ _)) hok).mono ?_
 rintro e w1 (⟨hc,v,rfl,h1,hb1⟩ | ⟨hc,rfl,hb1⟩)
 ·have hru:=ZK hc
  have HC:=Hd_ hc;clear hc
  have hbx1:=hbx.below hb1 hbx.lt
  have hw1:Below w.heap.size w w1:=(ZB _ _).trans (hb1.mono (by simp))
  have hw1s:=hw1.size
  go_upto_region 4 with fail
  apply wp_region_lit
  refine ZBW rfl rfl ?_
  have hb3:∀ o1 o2 j v,([sv,lv,gv] : List Value)[j]? = some v→((w1.alloc o1).alloc o2).cell? ⟨w.heap.size,0+j,none⟩=some v:=fun o1 o2 j v hj=>by rw[Nat.zero_add,((hbx1.alloc o1).alloc o2).cell];exact hj
  have HLD3:=Hd_ hb3;clear hb3
  go_wp2_with (first
   | (refine ZC rfl 25 _ rfl w.heap.size 0 rfl [sv,lv,gv] _ (HLD3.out _ _) Tryd.underlying25 rfl (by kernel_rfl) ?_))
  refine(ZIE u [sv,lv,gv] v ⟨w1.heap.size+1,0,none⟩ (cmap w1) _ hru (hu0.mono (ZA hw1)) (h1.mono (ZV _ _ _)) (UInv w1) (UInv.each w1) ?_ ?_).mono ?_
  ·refine⟨?_,?_,((Below.refl _ _).alloc (Nat.le_refl _) _).alloc (by simp) _,by simp⟩
   ·have:useF []=fun _=>none:=by funext k;simp[useF]
    rw[this];exact(MapIs.new w1 _ rfl).alloc _
   ·exact ZL _ [.map (some w1.heap.size)] _ _ (by simp) 0 _ rfl
  ·intro pre h rest wr hp hi
   refine ZFc w1 pre h wr (fun x hx=>?_) hi
   have hx2:x∈hitsU u:=by
    rw[← hp]
    rcases List.mem_append.1 hx with q | q
    ·exact List.mem_append.2 (.inl q)
    ·rw[List.mem_singleton] at q;subst q;simp
   have hh:=ZCx hru hx2
   have h8:=hru.threads
   have h16:=hru.locks
   exact⟨by omega,fun k hk=>by have:=hh.1 k hk;omega⟩
  ·rintro e w3 ⟨rfl,hi⟩
   obtain⟨hm,hp,hbl,hsz⟩:=hi
   go_wp2
   go_ret2
   exact .inl ⟨HC.out,w1.heap.size,rfl,hm,hw1s,hw1.trans (hbl.mono hw1s)⟩
 ·have HC:=Hd_ hc;clear hc
  go_wp2
  go_ret2
  exact .inr ⟨HC.out,rfl,(ZB _ _).trans (hb1.mono (by simp))⟩
theorem ZFA {w:World} {base n:Nat} {e:TypeId} {v:Value} {x:Int} {l:List Int} (h:w.ownsRow base e 1 v n (ints (x :: l))) : ∃ g c,v=.slice (some ⟨g,0,none⟩) (l.length+1) c∧l.length+1≤c∧w.cell? ⟨g,0,none⟩=some (.int .i64 x):=by
 have hl:n=l.length+1:=by have:=h.1;simp[ints] at this;omega
 subst hl
 obtain⟨g,c,rfl,_,_,hc,hcell⟩:=ZW h (by omega)
 exact⟨g,c,rfl,hc,by rw[hcell 0 (by omega)];rfl⟩
set_option maxRecDepth 100000 in
set_option maxHeartbeats 1000000 in
theorem ZF3 (a b:Nat) (ha:a < 65536) (hb:b < 65536) (w:World) (hT:Tab w) :
  Calls Tryd.prog 26 #[.agg #[.int .u32 a,.int .u32 b]] w fun e w'=>e=.returned (.agg (clsM a b).cells.toArray)∧Below w.heap.size w w':=by
 obtain⟨r,hr⟩ : ∃ r,clsM a b=r:=⟨_,rfl⟩
 rw[hr]
 unfold clsM at hr
 have hT2:∀ o1 o2,Tab ((w.alloc o1).alloc o2):=fun o1 o2=>(hT.alloc o1).alloc o2
 have hbb:∀ o1 o2,Below w.heap.size w ((w.alloc o1).alloc o2):=fun o1 o2=>(ZB _ _).alloc (by simp) _
 have HT2:=Hd_ hT2;clear hT2
 have HBB:=Hd_ hbb;clear hbb
 by_cases h0:a=0
 ·rw[if_pos h0] at hr
  subst h0
  subst hr
  go_enter Tryd.func26,Tryd.ntmps26
  go_wp2_with fail
  exact bodyPost_ret (v:=.agg #[.int .u8 0,.int .i64 0,.int .i64 0]) (by simp[results,Tryd.results26,go_sem]) rfl ⟨rfl,HBB.out _ _⟩
 ·rw[if_neg h0] at hr
  have hz:((a:Int) == 0)=false:=by simp;omega
  have h1:1≤a:=by omega
  have hand:bits BinOp.and IntKind.u32 (a:Int) ((a:Int) - 1)=((a &&& (a - 1) : Nat) : Int):=by
   have:(a:Int) - 1=((a - 1:Nat) : Int):=by omega
   rw[this,bits_and_u32_nat _ _ (by omega) (by omega)]
  by_cases h2:a &&& (a - 1)=0
  ·rw[if_pos h2] at hr
   have hz2:(bits BinOp.and IntKind.u32 (a:Int) ((a:Int) - 1) == 0)=true:=by rw[hand,h2];rfl
   obtain⟨q1,_,q3⟩:=Z0 a h0 ha
   clear hand h2
   subst hr
   have H0:Hid (¬ a=0):=h0
   clear h0
   go_enter Tryd.func26,Tryd.ntmps26
   go_wp2_with (go_at_call 53;refine(ZD9 a ha _ (HT2.out _ _)).mono ?_;rintro e w1 ⟨v,rfl,ho,hb1⟩;rw[q1] at ho;obtain⟨g,c,rfl,hc,hcell⟩:=ZFA ho;obtain⟨hcA,hfA⟩:=ZFU hb1;have hz:w.heap.size+1 < w1.heap.size:=(by have:=hb1.size;simp at this;omega))
   exact bodyPost_ret (v:=.agg #[.int .u8 1,.int .i64 (Lib.ctz 32 a:Nat),.int .i64 0]) (by simp[results,Tryd.results26,go_sem,hcA]) rfl
    ⟨rfl,(((((HBB.out _ _).trans (hb1.mono (by simp;omega)))).setCell (by simp) _).setCell (by simp) _).setCell (by simp) _⟩
  ·rw[if_neg h2] at hr
   have hz2:(bits BinOp.and IntKind.u32 (a:Int) ((a:Int) - 1) == 0)=false:=by rw[hand];simpa using h2
   clear hand
   have H2:Hid _:=h2
   clear h2
   by_cases h3:b=0
   ·rw[if_neg (by simpa using h3)] at hr
    subst h3
    subst hr
    have H0:Hid (¬ a=0):=h0
    clear h0
    go_enter Tryd.func26,Tryd.ntmps26
    go_wp2_with fail
    exact bodyPost_ret (v:=.agg #[.int .u8 3,.int .i64 0,.int .i64 0]) (by simp[results,Tryd.results26,go_sem]) rfl ⟨rfl,HBB.out _ _⟩
   ·rw[if_pos h3] at hr
    have hz3:((b:Int) != 0)=true:=by simp;omega
    obtain⟨q1,_,q3⟩:=Z0 b h3 hb
    subst hr
    have H0:Hid (¬ a=0):=h0
    clear h0
    have H3:Hid (¬ b=0):=h3
    clear h3
    go_enter Tryd.func26,Tryd.ntmps26
    go_wp2_with (go_at_call 53;refine(ZD9 b hb _ (HT2.out _ _)).mono ?_;rintro e w1 ⟨v,rfl,ho,hb1⟩;rw[q1] at ho;obtain⟨g,c,rfl,hc,hcell⟩:=ZFA ho;obtain⟨hcA,hfA⟩:=ZFU hb1;have hz:w.heap.size+1 < w1.heap.size:=(by have:=hb1.size;simp at this;omega))
    exact bodyPost_ret (v:=.agg #[.int .u8 2,.int .i64 0,.int .i64 (Lib.ctz 32 b:Nat)]) (by simp[results,Tryd.results26,go_sem,hcA]) rfl
     ⟨rfl,(((((HBB.out _ _).trans (hb1.mono (by simp;omega)))).setCell (by simp) _).setCell (by simp) _).setCell (by simp) _⟩
theorem ZIW (w:World) : (zeroValue 80).run Tryd.prog w=.ok (.agg #[.int .u32 0,.int .u32 0]) w:=by kernel_rfl
theorem ZJT {u:Unit_} (hru:RightU u) (x:Int) : useA (touchU u x) < 65536:=by
 unfold useA
 split
 ·decide
 ·exact ZEN _ (fun h hh=>by have:=(ZCx hru (List.mem_filter.1 hh).1).2;have:=hru.threads;omega)
theorem ZJS {u:Unit_} (x:Int) : useB (touchU u x) < 65536:=by
 unfold useB
 split
 ·decide
 ·exact ZEi _
set_option maxRecDepth 100000 in
set_option maxHeartbeats 4000000 in
theorem ZCn (u:Unit_) (cs:List Value) (w:World) (hT:Tab w) (hu:UnitV (cmap w) cs u) (hok:UOk u) :
  Calls Tryd.prog 25 #[.agg cs.toArray,.func (.func 26) #[] #[]] w fun e w'=>(checkF u=none∧∃ v,e=.returned (.tuple #[v,.int .i64 0])∧Clss (part w' w.heap.size w'.heap.size) v ((List.range u.shared.length).map fun x:Nat=>classF u (x:Int))∧Below w.heap.size w w') ∨
   (checkF u≠none∧e=.returned (.tuple #[.slice none 0 0,.int .i64 60])∧Below w.heap.size w w'):=by
 have hu0:=hu
 obtain⟨sv,lv,gv,rfl,hs,hl,hg⟩:=hu
 obtain⟨sA,sc,rfl,-⟩:=id hs
 have bs:=hs.len.2.2
 have hbx:=Blk.new w 25 [.slice sA u.shared.length sc,lv,gv]
 have HLD:Hid (∀ j v,([.slice sA u.shared.length sc,lv,gv] : List Value)[j]? = some v→(w.alloc (.cells #[.slice sA u.shared.length sc,lv,gv] 25)).cell? ⟨w.heap.size,0+j,none⟩=some v):=ZL w _ _ _ rfl
 have HT:=Hd_ hT;clear hT
 go_enter Tryd.func25,Tryd.ntmps25
 go_wp2_with (first
  | (refine ZC rfl 25 _ rfl w.heap.size 0 rfl _ _ HLD.out Tryd.underlying25 rfl (by kernel_rfl) ?_))
 refine(ZFI u [.slice sA u.shared.length sc,lv,gv] _ (hu0.mono (ZJ _ _)) hok).mono ?_
 rintro e w1 (⟨hc,mb,rfl,hm,hmb,hb1⟩ | ⟨hc,rfl,hb1⟩)
 ·have hru:=ZK hc
  have HC:=Hd_ hc;clear hc
  have hbx1:=hbx.below hb1 hbx.lt
  have hw1:Below w.heap.size w w1:=(ZB _ _).trans (hb1.mono (by simp))
  have hw1s:=hw1.size
  have hcx0:=hbx1.cell 0
  have hz:=hru.shared
  have hmlt:=hm.lt
  go_wp2
  go_loopw [8,21] (fun v8 v21 wr=>∃ (k:Nat),v21=.int .i64 k∧k≤u.shared.length∧Acc clsV 3 64 w1.heap.size (fun _=>False) v8 ((List.range k).map fun x:Nat=>classF u (x:Int)) wr∧Below w1.heap.size w1 wr) (fun _ v21 _=>u.shared.length - (intOf v21).toNat)
  case atStart=>exact⟨0,rfl,by omega,Acc.nil _ _ _ _ _,Below.refl _ _⟩
  case round =>
   obtain⟨k,rfl,hk,hacc,hbel⟩:=hrel
   have hbs:=hbel.size
   by_cases hlt:k < u.shared.length
   ·have hk0:(0:Int)≤k:=by omega
    have hkl:(k:Int) < u.shared.length:=by omega
    have hsuc:(List.range (k+1)).map (fun x:Nat=>classF u (x:Int))=(List.range k).map (fun x:Nat=>classF u (x:Int)) ++ [classF u (k:Int)]:=by rw[List.range_succ,List.map_append];rfl
    have HSUC:=Hd_ hsuc;clear hsuc
    have hmr:=hm.below hbel hmlt
    have hcb:=ZJB hru (k:Int)
    have HA:=Hd_ (ZJT hru (k:Int))
    have HB:=Hd_ (ZJS (u:=u) (k:Int))
    have hget:=ZJR (hitsU u) (k:Int)
    have HGET:Hid ((useF (hitsU u) (k:Int)).getD (.agg #[.int .u32 0,.int .u32 0])=.agg #[.int .u32 (useA (touchU u k)),.int .u32 (useB (touchU u k))]):=hget
    have hTr:Hid (Tab wr):=(HT.out.below hw1).below hbel
    clear hget
    obtain⟨c0,hc0⟩ : ∃ c,classF u (k:Int)=c:=⟨_,rfl⟩
    rw[hc0] at hcb
    have HCB:=Hd_ hcb;clear hcb
    have HC0:=Hd_ hc0;clear hc0
    obtain⟨c1,c2,c3⟩:=c0
    go_wp2_with (refine Zo rfl ?_)
    refine Stop.intro ?_
    refine ZBK ZBr Tryd.underlying122 rfl _ _ rfl mb (useF (hitsU u)) hmr (k:Int) rfl rfl (.agg #[.int .u32 0,.int .u32 0]) (ZIW _) ?_
    rw[HGET.out]
    go_wp2_with (first
     | (go_at_call 26;refine(ZF3 _ _ HA.out HB.out _ hTr.out).mono ?_;rintro e w2 ⟨rfl,hb2⟩;rw[HCB.out];unfold Cls.cells)
     | (refine ZN rfl ?_))
    refine Stop.intro ?_
    have hs2:=hb2.size
    have hacc3:=(hacc.keep hb2).alloc (.cells #[.int .u8 c1,.int .i64 c2,.int .i64 c3] 64)
    obtain⟨rows,ho,hrl,hrs,hrx⟩:=hacc3.rows
    have hlen:((List.range k).map fun x:Nat=>classF u (x:Int)).length≤64:=by simp;omega
    refine Zg sl_class rfl _ _ rfl w1.heap.size u8 _ rows.flatten rfl ho w2.heap.size 0 1 [.int .u8 c1,.int .i64 c2,.int .i64 c3] rfl rfl (ZL _ _ _ _ rfl) (by simp[Value.oneCell']) (by omega) (by decide) (by simp;omega) ?_
    intro v' w' hown4 hgr hob
    have hv7:=hacc.lt
    have hacc4:Acc clsV 3 64 w1.heap.size (fun _=>False) v' ((List.range (k+1)).map fun x:Nat=>classF u (x:Int)) w':=by
     rw[HSUC.out]
     exact hacc3.push hrl hrs hrx rfl hown4 hgr hob (fun b h=>h) (fun b h=>h.elim) (by rw[HC0.out];rfl)
    have hbel5:=((hbel.trans (hb2.mono hbs)).alloc (by omega) (.cells #[.int .u8 c1,.int .i64 c2,.int .i64 c3] 64)).grown hgr (by simp;omega) (fun j hj=>(hv7 j hj).1)
    go_wp2_with fail
    go_roundw
    case rel=>exact⟨k+1,by go_num,by omega,hacc4,hbel5⟩
    case measure=>simp[intOf];omega
   ·have hkk:k=u.shared.length:=by omega
    rw[hkk] at hacc
    have HK:=Hd_ hkk;clear hkk
    go_wp2
    go_ret2
    exact .inl ⟨HC.out,u8,rfl,hacc.done hw1s (Nat.le_refl _),hw1.trans (hbel.mono hw1s)⟩
 ·have HC:=Hd_ hc;clear hc
  go_wp2
  go_ret2
  exact .inr ⟨HC.out,rfl,(ZB _ _).trans (hb1.mono (by simp))⟩
set_option maxHeartbeats 2000000 in
theorem Zt (u:Unit_) (cs:List Value) (w:World) (hT:Tab w) (hu:UnitV (cmap w) cs u) (hok:UOk u) :
  Calls Tryd.prog 9 #[.agg cs.toArray] w fun e w'=>(checkF u=none∧∃ v,e=.returned (.tuple #[v,.int .i64 0])∧Clss (part w' w.heap.size w'.heap.size) v ((List.range u.shared.length).map fun x:Nat=>classF u (x:Int))∧Below w.heap.size w w') ∨
   (checkF u≠none∧e=.returned (.tuple #[.slice none 0 0,.int .i64 60])∧Below w.heap.size w w'):=by
 have hu0:=hu
 obtain⟨sv,lv,gv,rfl,-⟩:=hu
 have HLD:Hid (∀ j v,([sv,lv,gv] : List Value)[j]? = some v→(w.alloc (.cells #[sv,lv,gv] 25)).cell? ⟨w.heap.size,0+j,none⟩=some v):=ZL w _ _ _ rfl
 have HT:=Hd_ (hT.alloc (.cells #[sv,lv,gv] 25));clear hT
 go_enter Tryd.func9,Tryd.ntmps9
 go_wp2_with (first
  | (refine ZC rfl 25 _ rfl w.heap.size 0 rfl _ _ HLD.out Tryd.underlying25 rfl (by kernel_rfl) ?_))
 refine(ZCn u [sv,lv,gv] _ HT.out (hu0.mono (ZJ _ _)) hok).mono ?_
 rintro e w1 (⟨hc,v,rfl,h1,hb1⟩ | ⟨hc,rfl,hb1⟩)
 ·have HC:=Hd_ hc;clear hc
  go_wp2
  go_ret2
  exact .inl ⟨HC.out,v,rfl,h1.mono (ZAL (by simp) (Nat.le_refl _)),(ZB _ _).trans (hb1.mono (by simp))⟩
 ·have HC:=Hd_ hc;clear hc
  go_wp2
  go_ret2
  exact .inr ⟨HC.out,rfl,(ZB _ _).trans (hb1.mono (by simp))⟩
end Go.Proofs.YtffgnjgphkdodaaDoor
