import Derived.Test.YtffgnjgphkdodaaDoorD23
import Derived.Test.YtffgnjgphkdodaaDoorD2
import Derived.Test.YtffgnjgphkdodaaDoorD10
import Derived.Test.YtffgnjgphkdodaaDoorD17
namespace Go.Proofs.YtffgnjgphkdodaaDoor
open Go
section
variable {g:Graph} {pl:Nat→Nat} {M:Nat} {out:List Int} {r i:Nat}
theorem CK.start (hw:WholeG g) (hr:RPO g pl M) : CK g pl ((List.replicate g.nodes.length (-1)).set 0 0) 0 1:=by
 have hp:=hw.pos
 have hat:∀ (n:Nat) (x:Int),((List.replicate g.nodes.length (-1)).set 0 0)[n]? = some x→n≠0→x = -1:=by
  intro n x hx h0
  rw[List.getElem?_set,if_neg (fun e=>h0 e.symm),List.getElem?_replicate] at hx
  split at hx
  ·injection hx with hx;exact hx.symm
  ·cases hx
 have hlv:∀ n,Rch g n→n≠0→lv pl 0 1 n=0:=by
  intro n hn h0
  unfold lv
  rw[if_neg]
  intro h
  exact h0 (hr.inj n 0 hn .zero (by rw[hr.zero];omega))
 refine⟨by simp,by rw[List.getElem?_set,if_pos rfl,if_pos (by simp;omega)],fun n x hx hn=>hat n x hx (fun e=>hn (e ▸ .zero)),fun n x hx h0 _=>hat n x hx h0,fun n x hx h0 hn hp=>?_,fun n m hn hc k hk hav=>?_,fun n m hn hp hd=>?_⟩
 ·rw[hlv n hn h0] at hp;omega
 ·by_cases e:n=0
  ·subst e
   have:=CK.zero_chain hc
   exact hav.ne this.symm
  ·rw[hlv n hn e] at hk;omega
 ·rcases hp with rfl | hp
  ·rcases hd with rfl | hd
   ·exact .refl _
   ·exact absurd .zero hd
  ·by_cases e:n=0
   ·subst e
    rcases hd with rfl | hd
    ·exact .refl _
    ·exact absurd .zero hd
   ·rw[hlv n hn e] at hp;omega
theorem CK.round (hr:RPO g pl M) (h:CK g pl out r M) : CK g pl out (r+1) 1:=by
 have hl:∀ n,Rch g n→lv pl r M n=r+1:=fun n hn=>ZFq (hr.lt n hn)
 have hlv:∀ n,Rch g n→n≠0→lv pl (r+1) 1 n=r+1:=by
  intro n hn h0
  unfold lv
  rw[if_neg]
  intro h
  exact h0 (hr.inj n 0 hn .zero (by rw[hr.zero];omega))
 refine⟨h.len,h.zero,h.un,fun n x hx h0 hz=>?_,fun n x hx h0 hn _=>h.pr n x hx h0 hn (by rw[hl n hn];omega),fun n m hn hc k hk hav=>?_,fun n m hn _ hd=>h.S n m hn (.inr (by rw[hl n hn];omega)) hd⟩
 ·have:=ZG1 pl (r+1) 1 n
  omega
 ·by_cases e:n=0
  ·subst e
   exact hav.ne (CK.zero_chain hc).symm
  ·rw[hlv n hn e] at hk
   exact h.K n m hn hc k (by rw[hl n hn];exact hk) hav
def BI (g:Graph) (pl:Nat→Nat) (out:List Int) (r i:Nat) (P:List Int) (s:Nat) (best:Int) : Prop :=
 (best = -1∧∀ p:Nat,(p:Int)∈P.take s→¬ (Rch g p∧Pro pl r i p))∨∃ c:Nat,best=c∧Mt g pl out r i (fun p=>(p:Int)∈P.take s) c
theorem ZZ {P:List Int} {s:Nat} {p:Int} (h:P[s]? = some p) (x:Int) : x∈P.take (s+1) ↔ x∈P.take s∨x=p:=by
 have hl:=(List.getElem?_eq_some_iff.1 h).1
 have he:P[s]=p:=by rw[List.getElem?_eq_getElem hl] at h;injection h
 rw[List.take_succ_eq_append_getElem hl,he]
 simp
variable {P:List Int} {s p:Nat} {best:Int}
theorem BI.start:BI g pl out r i P 0 (-1):=.inl ⟨rfl,fun p hp=>by simp at hp⟩
theorem BI.skip (h:BI g pl out r i P s best) (hp:P[s]? = some (p:Int)) (hn:¬ (Rch g p∧Pro pl r i p)) : BI g pl out r i P (s+1) best:=by
 rcases h with⟨h1,h2⟩ | ⟨c,h1,h2⟩
 ·refine .inl ⟨h1,fun x hx=>?_⟩
  rcases(ZZ hp _).1 hx with q | q
  ·exact h2 x q
  ·obtain rfl:x=p:=by omega
   exact hn
 ·refine .inr ⟨c,h1,h2.rch,h2.pro,fun x hx hr hpr=>?_,fun m hm=>h2.all m fun x hx hr hpr=>hm x ((ZZ hp _).2 (.inl hx)) hr hpr⟩
  rcases(ZZ hp _).1 hx with q | q
  ·exact h2.on_ x q hr hpr
  ·obtain rfl:x=p:=by omega
   exact absurd ⟨hr,hpr⟩ hn
theorem BI.first (h:BI g pl out r i P s best) (hb:best < 0) (hp:P[s]? = some (p:Int)) (hr:Rch g p) (hpr:Pro pl r i p) : BI g pl out r i P (s+1) p:=by
 rcases h with⟨h1,h2⟩ | ⟨c,h1,h2⟩
 ·refine .inr ⟨p,rfl,hr,hpr,fun x hx hxr hxp=>?_,fun m hm=>hm p ((ZZ hp _).2 (.inr rfl)) hr hpr⟩
  rcases(ZZ hp _).1 hx with q | q
  ·exact absurd ⟨hxr,hxp⟩ (h2 x q)
  ·obtain rfl:x=p:=by omega
   exact .refl _
 ·omega
theorem BI.meet {a c:Nat} (h:BI g pl out r i P s (a:Int)) (hp:P[s]? = some (p:Int)) (hr:Rch g p) (hpr:Pro pl r i p) (hm:Meet g pl out r i a p c c) : BI g pl out r i P (s+1) c:=by
 rcases h with⟨h1,h2⟩ | ⟨a',h1,h2⟩
 ·omega
 ·obtain rfl:a=a':=by omega
  refine .inr ⟨c,rfl,hm.ra,hm.pa,fun x hx hxr hxp=>?_,fun m hall=>(hm.all m (h2.all m fun x hx hxr hxp=>hall x ((ZZ hp _).2 (.inl hx)) hxr hxp) (hall p ((ZZ hp _).2 (.inr rfl)) hr hpr)).1⟩
  rcases(ZZ hp _).1 hx with q | q
  ·exact(h2.on_ x q hxr hxp).trans hm.ca
  ·obtain rfl:x=p:=by omega
   exact hm.cb
theorem BI.form (h:BI g pl out r i P s best) (hb:¬ best < 0) : ∃ c:Nat,best=c∧Rch g c∧Pro pl r i c:=by
 rcases h with⟨h1,_⟩ | ⟨c,h1,h2⟩
 ·omega
 ·exact⟨c,h1,h2.rch,h2.pro⟩
theorem BI.done (hr:RPO g pl M) (h:BI g pl out r i P P.length best) {n:Nat} (hn:Rch g n) (hn0:n≠0) (hpl:pl n=i) (hP:∀ q:Nat,(q:Int)∈P ↔ Edge g q n) : ∃ c:Nat,best=c∧Mt g pl out r i (fun q=>Edge g q n) c:=by
 unfold BI at h
 rw[List.take_length] at h
 rcases h with⟨_,h2⟩ | ⟨c,h1,h2⟩
 ·obtain⟨f,q1,q2,q3⟩:=hr.pred n hn hn0
  exact absurd ⟨q1,.inr (by rw[ZFq (by omega)];omega)⟩ (h2 f ((hP f).2 q2))
 ·exact⟨c,h1,h2.rch,h2.pro,fun q hq=>h2.on_ q ((hP q).2 hq),fun m hm=>h2.all m fun q hq=>hm q ((hP q).1 hq)⟩
def FixB (g:Graph) (pl:Nat→Nat) (out:List Int) (r i:Nat) : Prop:=∀ n,Rch g n→n≠0→pl n < i→1≤r∧∀ (p k:Nat),out[n]? = some (k:Int)→Rch g p→Edge g p n→Ch out p k
theorem FixB.start (hr:RPO g pl M) : FixB g pl out r 1:=fun n hn h0 hp=>absurd (hr.inj n 0 hn .zero (by rw[hr.zero];omega)) h0
theorem FixB.next (hw:WholeG g) (hr:RPO g pl M) (h:FixB g pl out r i) (hk:CK g pl out r i) {n c:Nat} (hn:Rch g n) (hn0:n≠0) (hpl:pl n=i) (hm:Mt g pl out r i (fun q=>Edge g q n) c) (ho:out[n]? = some (c:Int)) : FixB g pl out r (i+1):=by
 intro n' hn' hn0' hp'
 by_cases e:pl n'=i
 ·obtain rfl:n'=n:=hr.inj n' n hn' hn (by omega)
  have h1:1≤r:=by
   apply Classical.byContradiction
   intro c0
   have h2:=hk.no n' _ ho hn0' (by rw[ZHs hpl];omega)
   omega
  refine⟨h1,fun p k hk' hrp he=>?_⟩
  rw[ho] at hk'
  injection hk' with hk'
  obtain rfl:c=k:=by omega
  exact hm.on_ p he hrp (.inr (by have:=ZG1 pl r i p;omega))
 ·exact h n' hn' hn0' (by omega)
theorem CK.less (hw:WholeG g) (hr:RPO g pl M) (hk:CK g pl out r i) {n c:Nat} (hn:Rch g n) (hn0:n≠0) (hpl:pl n=i) (hm:Mt g pl out r i (fun q=>Edge g q n) c) {z:Int} (ho:out[n]? = some z) (hz:z≠c) : r < g.nodes.length:=by
 apply Classical.byContradiction
 intro hc
 have hp:=hw.pos
 have hl:=ZG1 pl r i n
 obtain⟨k,h1,_,_⟩:=hk.pr n z ho hn0 hn (by omega)
 rw[h1] at ho
 have:=hk.still hw hr hn hn0 hpl hm ho (by omega)
 omega
end
structure Doms (g:Graph) (out:List Int) : Prop where
 len:out.length=g.nodes.length
 zero:out[0]? = some 0
 dom:∀ n m,Rch g n→(Ch out n m ↔ DomC g m n)
 next:∃ pl:Nat→Nat,∀ n,Rch g n→pl n < g.nodes.length∧(n≠0→∃ k:Nat,out[n]? = some (k:Int)∧Rch g k∧pl k < pl n)
theorem Doms.of {g:Graph} {pl:Nat→Nat} {M:Nat} {out:List Int} {r:Nat} (hw:WholeG g) (hr:RPO g pl M) (hM:M≤g.nodes.length) (h:CK g pl out r M) (hf:FixB g pl out r M) : Doms g out:=by
 have hp:∀ n,Rch g n→Pro pl r M n:=fun n hn=>.inr (by rw[ZFq (hr.lt n hn)];omega)
 refine⟨h.len,h.zero,fun n m hn=>h.rest hw hp (fun n p k hn h0 hk hrp he=>(hf n hn h0 (hr.lt n hn)).2 p k hk hrp he) hn,pl,fun n hn=>⟨by have:=hr.lt n hn;omega,fun h0=>?_⟩⟩
 obtain⟨k,h1,h2,h3,_⟩:=h.next hw hn h0 (hp n hn)
 exact⟨k,h1,h2,h3⟩
end Go.Proofs.YtffgnjgphkdodaaDoor
namespace Go.Proofs.YtffgnjgphkdodaaDoor
open Go Go.RowKit
def visV (p:Int × Int) : List Value:=[.int .i64 p.1,.int .i64 p.2]
theorem ZCs (p:Int × Int) : (visV p).length=2:=rfl
def visL (l:List (Int × Int)) : List Value:=l.flatMap visV
theorem ZId:SlT Tryd.prog 170 169 2 16 (.agg #[.int .i64 0,.int .i64 0]):=SlT.mk' Tryd.underlying170 (by kernel_rfl) rfl (by omega)
theorem ZFl {w:World} {base base':Nat} {e e':TypeId} {size size' n n':Nat} {v v':Value} {xs xs':List Value} (h:w.ownsRow base e size v n xs) (h':w.ownsRow base' e' size' v' n' xs') (hne:e≠e') : v.ownBlock=none∨v.ownBlock≠v'.ownBlock:=by
 rcases h.2 with⟨rfl,_⟩ | ⟨g,c,cur,rfl,_,hg,_⟩
 ·exact .inl rfl
 ·refine .inr fun e1=>?_
  have hb:Blk w g e cur.toList:=Blk.of hg rfl
  exact ZQ h' hb (Ne.symm hne) e1
theorem ZEZ {w:World} {g base n:Nat} {t:TypeId} {cs:List Value} (h:Blk w g t cs) (hb:base≤g) (hn:cs.length=n) (hl:n < 4294967296) : w.ownsRow base t 1 (.slice (some ⟨g,0,none⟩) n n) n cs :=
 ⟨by omega,.inr ⟨g,n,cs.toArray,rfl,hb,h,Nat.le_refl _,by simp only[maxLen];omega,by simp[hn],by simp[← hn]⟩⟩
def wt (s:List (Int × Int)) : Nat:=(s.map fun p=>3 - p.2.toNat).sum
theorem ZCC (s:List (Int × Int)) (a k:Int) : wt (s ++ [(a,k)])=wt s+(3 - k.toNat):=by simp[wt]
def srIb (W0:World) (l:List Int) : SR:=⟨fun w v=>∃ A c,v=.slice A l.length c∧Ints (part w W0.heap.size w.heap.size) v l,fun hb ⟨A,c,e,h⟩=>⟨A,c,e,h.mono ((Zc fun b _ hlt=>hb.block b hlt).trans (ZAL (Nat.le_refl _) hb.size))⟩⟩
def slBw:List Nat:=[29,30,31,32,33,34,35,36,37,8]
def BwR (w:World) (g:Graph) (N:Nat) (nb no nc:Nat) (kg:Nat) (v5 v6:Value) (wr:World) : Prop :=
 ∃ (seen:List Bool) (ord:List Int) (st:List (Int × Int)),Hid (wr.ownsRow w.heap.size 3 1 v5 ord.length (ints ord))∧Hid (wr.ownsRow w.heap.size 169 2 v6 st.length (visL st))∧Hid (Blk wr (w.heap.size+1) 4 (bools seen))∧Hid (DF g seen ord st)∧Hid (Below w.heap.size w wr) ∧
  Hid (Blk wr w.heap.size 38 [.string g.name,.int .i64 g.locals,.int .i64 g.slots,.slice (some ⟨nb,no,none⟩) N nc])∧4 * (N - (ord.length+st.length))+wt st≤kg∧kg≤20000
def plT (R:List Int) (N k:Nat) : List Int:=(List.range N).map fun n=>if plO R n < k then (plO R n:Int) else 0
theorem ZBO (R:List Int) (N k:Nat) : (plT R N k).length=N:=by simp[plT]
theorem ZGH (R:List Int) (k:Nat) {N n:Nat} (h:n < N) : (plT R N k)[n]? = some (if plO R n < k then (plO R n:Int) else 0):=by simp[plT,h]
theorem ZIk (R:List Int) (N:Nat) : plT R N 0=List.replicate N 0:=by
 apply List.ext_getElem?
 intro n
 by_cases h:n < N
 ·rw[ZGH R 0 h,if_neg (by omega),List.getElem?_replicate,if_pos h]
 ·rw[List.getElem?_eq_none (by rw[ZBO];omega),List.getElem?_eq_none (by simp;omega)]
theorem ZIl {R:List Int} {N k n:Nat} (hx:R[k]? = some (n:Int)) (hp:plO R n=k) : (plT R N k).set n (k:Int)=plT R N (k+1):=by
 apply List.ext_getElem?
 intro m
 by_cases h:m < N
 ·rw[List.getElem?_set,ZGH R k h,ZGH R (k+1) h,ZBO]
  by_cases e:n=m
  ·subst e
   rw[if_pos rfl,if_pos h,if_pos (by omega),hp]
  ·rw[if_neg e]
   have hne:plO R m≠k:=by
    intro hm
    have hl:k < R.length:=(List.getElem?_eq_some_iff.1 hx).1
    have h2:R.idxOf (m:Int) < R.length:=by unfold plO at hm;omega
    have h3:R[R.idxOf (m:Int)]? = some (m:Int):=by rw[List.getElem?_eq_getElem h2,List.getElem_idxOf]
    unfold plO at hm
    rw[hm,hx] at h3
    injection h3 with h3
    omega
   by_cases c:plO R m < k
   ·rw[if_pos c,if_pos (by omega)]
   ·rw[if_neg c,if_neg (by omega)]
 ·rw[List.getElem?_eq_none (by simp only[List.length_set,ZBO];omega),List.getElem?_eq_none (by rw[ZBO];omega)]
def BwPost (g:Graph) (w:World) (e:Ending) (w':World) : Prop:=∃ (R pls:List Int) (v1 v2:Value),e=.returned (.tuple #[v1,v2])∧OrdP g R∧pls.length=g.nodes.length∧(∀ n,Rch g n→pls[n]? = some (plO R n:Int))∧w'.ownsRow w.heap.size 3 1 v1 R.length (ints R)∧w'.ownsRow w.heap.size 3 1 v2 pls.length (ints pls)∧Below w.heap.size w w'
set_option maxRecDepth 100000 in
set_option maxHeartbeats 8000000 in
theorem ZDk (g:Graph) (cs:List Value) (w:World) (hw:WholeG g) (hg:GraphV (cmap w) cs g) :
  Calls Tryd.prog 84 #[.agg cs.toArray] w (BwPost g w):=by
 obtain⟨nv,rfl,hn⟩:=hg
 obtain⟨nA,nc,rfl,-⟩:=id hn
 have bn:=hn.len.2.2
 have hpos:=hw.pos
 have hmost:=hw.most
 obtain⟨n0,hn0⟩ : ∃ n,g.nodes[0]? = some n:=⟨_,List.getElem?_eq_getElem hpos⟩
 obtain⟨nb,no,rfl,-⟩:=hn.at_ hn0
 clear hn0
 have HW:=Hd_ hw
 have HNV:=Hd_ hn
 obtain⟨N,HN⟩ : ∃ N,Hid (g.nodes.length=N):=⟨_,rfl⟩
 rw[HN.out] at bn hpos hmost
 have hst:=DF.start (g:=g) hw
 rw[HN.out] at hst
 have HDS:=Hd_ hst
 have hbx:=Blk.new w 38 [.string g.name,.int .i64 g.locals,.int .i64 g.slots,.slice (some ⟨nb,no,none⟩) N nc]
 have hb0:=ZB w (.cells #[.string g.name,.int .i64 g.locals,.int .i64 g.slots,.slice (some ⟨nb,no,none⟩) N nc] 38)
 have HBX:=Hd_ (And.intro hbx hb0)
 have hz0:Blk (((w.alloc (.cells #[.string g.name,.int .i64 g.locals,.int .i64 g.slots,.slice (some ⟨nb,no,none⟩) N nc] 38)).alloc (.cells (Array.replicate N (Value.bool false)) 4)).alloc (.cells #[.int .i64 0,.int .i64 0] 169)) (w.heap.size+1) 4 (bools (List.replicate N false)):=(Blk.of (ZP _ _ _ (by simp)) (by simp[bools])).alloc _
 have z0:=hz0.cell 0
 rw[show(bools (List.replicate N false))[0]? = some (.bool false) by simp only[bools,List.getElem?_map];rw[List.getElem?_replicate,if_pos (by omega)];rfl] at z0
 have z1:=hz0.frozen 0
 have HZ0:=Hd_ hz0
 clear hbx hb0 hw hn hst hz0
 rw[HN.out]
 go_enter Tryd.func84,Tryd.ntmps84
 go_wp2_with (first
  | (refine ZAX ZES rfl rfl (.tmp 15) (.tmp 15) rfl N rfl rfl (by omega) (by omega) ?_))
 go_loopg [5,6] 20000 (fun kg v5 v6 wr=>BwR w g N nb no nc kg v5 v6 wr)
 case atStart =>
  refine⟨(List.replicate N false).set 0 true,[],[(0,0)],Hd_ (World.ownsRow_nil _ _ _ _),Hd_ ?_,Hd_ ?_,HDS,Hd_ ?_,Hd_ ?_,?_,Nat.le_refl _⟩
  ·exact ZA8 (n:=1) (size:=2) _ #[.int .i64 0,.int .i64 0] _ (by simp) (by simp;omega) (by decide) rfl _ rfl
  ·exact(Blk.of (ZP _ _ _ (by simp)) (by simp[bools,List.map_set])).alloc _
  ·exact(((Below.refl w.heap.size w).alloc (Nat.le_refl _) _).alloc (by simp) _).alloc (by simp;omega) _
  ·exact(HBX.out.1.alloc _).alloc _
  ·simp[wt];omega
 case round =>
  obtain⟨seen,ord,st,HORD,HST,HSEEN,HDF,HB,HGX,hkg,hkg2⟩:=hrel
  have c3:=HGX.out.cell 3
  have gl:=HGX.out.lt
  obtain⟨oA,oc,rfl,-⟩:=ZE HORD.out
  rcases List.eq_nil_or_concat st with rfl | ⟨s,⟨a,kz⟩,hsc⟩
  ·obtain⟨tA,tc,rfl,-⟩:=ZE HST.out
   have hod:=HDF.out.done HW.out
   have hbd:=HDF.out.bound HW.out
   rw[HN.out] at hbd
   have hob:=hod.most
   rw[HN.out] at hob
   have hrv:=ZEX w.heap.size (.slice oA ord.length oc) ord wr HORD.out (by omega)
   have HRV:=Hd_ hrv
   have HOD:=Hd_ hod
   clear hrv hod
   have hnn:([] : List (Int × Int)).length=0:=rfl
   rw[hnn]
   go_wp2_with (first
    | (go_at_call 91
       refine(HRV.out).mono ?_
       rintro e w5 ⟨rfl,ho5,hg5⟩
       have hb5:=HB.out.grown hg5 HB.out.size (fun b hb=>Z5 HORD.out b hb)
       have hgx5:=HGX.out.grown hg5 (ZQ HORD.out HGX.out (by decide))
       have c3:=hgx5.cell 3
       have H5:=Hd_ (And.intro ho5 (And.intro hb5 hgx5))
       clear ho5 hg5 hb5 hgx5)
    | (refine ZAX Z2 rfl rfl (.tmp 88) (.tmp 88) rfl N rfl rfl (by omega) (by omega) ?_))
   obtain⟨R,hR⟩ : ∃ R,ord.reverse=R:=⟨_,rfl⟩
   have hRl:ord.length=R.length:=by rw[← hR];simp
   rw[hR] at H5 HOD hob
   rw[hRl] at H5
   rw[hRl]
   clear hR hRl
   have hs5:=H5.out.2.1.size
   go_loopw [92] (fun v92 wr=>∃ k:Nat,v92=.int .i64 (k:Nat)∧k≤R.length∧Hid (Blk wr w5.heap.size 3 (ints (plT R N k)))∧Hid (wr.ownsRow w.heap.size 3 1 (.slice oA R.length oc) R.length (ints R))∧Hid (Below w.heap.size w wr)) (fun v92 _=>R.length - (intOf v92).toNat)
   case atStart=>exact⟨0,rfl,Nat.zero_le _,Hd_ (Blk.of (ZP _ _ _ rfl) (by rw[ZIk];simp[ints])),Hd_ (H5.out.1.alloc _),Hd_ (H5.out.2.1.alloc hs5 _)⟩
   case round =>
    obtain⟨k,rfl,hk,HP,HO,HBk⟩:=hrel
    by_cases hlt:k < R.length
    ·obtain⟨x,hx⟩ : ∃ x,R[k]? = some x:=⟨_,List.getElem?_eq_getElem hlt⟩
     obtain⟨n,rfl,hnr,hnp⟩:=HOD.out.mem k x hx
     have hnN:=hnr.lt HW.out
     rw[HN.out] at hnN
     obtain⟨rb,rc,e,-,-,-,hc⟩:=ZW HO.out (by omega)
     injection e with e _ e3
     subst e e3
     have q1:wr.cell? ⟨rb,k,none⟩=some (.int .i64 (n:Nat)):=(hc k (by omega)).trans (by simp[ints,hx])
     have hpl:n < (plT R N k).length:=by rw[ZBO];exact hnN
     obtain⟨z,hz⟩ : ∃ z,(plT R N k)[n]? = some z:=⟨_,List.getElem?_eq_getElem hpl⟩
     have q2:wr.cell? ⟨w5.heap.size,n,none⟩=some (.int .i64 z):=by rw[HP.out.cell];simp[ints,hz]
     have f2:=HP.out.frozen n
     have k0:(0:Int)≤k:=by omega
     have kR:(k:Int) < R.length:=by omega
     have k8:(k:Int)≤4096:=by omega
     have n0:(0:Int)≤n:=by omega
     have nN:(n:Int) < N:=by omega
     have h1:=HP.out.set_ n (.int .i64 (k:Nat))
     rw[show(ints (plT R N k)).set n (.int .i64 (k:Nat))=ints (plT R N (k+1)) by rw[← ZIl hx hnp];simp[ints,List.map_set]] at h1
     have hne:(Value.slice (some ⟨rb,0,none⟩) R.length oc).ownBlock≠some w5.heap.size:=fun e=>by
      have e:some rb=some w5.heap.size:=e
      injection e with e
      have:=(World.ownsRow.lt H5.out.1 rb rfl).2
      omega
     have H1:=Hd_ (And.intro h1 (And.intro (ownsRow_setCell_other (a:=⟨w5.heap.size,n,none⟩) HO.out hne (.int .i64 (k:Nat))) (HBk.out.setCell (p:=⟨w5.heap.size,n,none⟩) hs5 (.int .i64 (k:Nat)))))
     clear h1 hne hx hz hc hpl
     go_wp2
     go_roundw
     case rel=>exact⟨k+1,by go_num,hlt,Hd_ H1.out.1,Hd_ H1.out.2.1,Hd_ H1.out.2.2⟩
     case measure=>simp[intOf];omega
    ·obtain rfl:k=R.length:=by omega
     go_wp2
     go_ret2
     refine⟨R,plT R N R.length,_,_,rfl,HOD.out,by rw[ZBO,HN.out],fun n hn=>?_,HO.out,?_,HBk.out⟩
     ·have h1:=hn.lt HW.out
      rw[HN.out] at h1
      rw[ZGH _ _ h1,if_pos (HOD.out.rpo.lt n hn)]
     ·have h1:=ZEZ (base:=w.heap.size) (n:=N) HP.out hs5 (by simp[ints,ZBO]) (by omega)
      rw[ZBO]
      exact h1
  ·rw[List.concat_eq_append] at hsc
   subst hsc
   have hml:=HDF.out.bound HW.out
   rw[List.length_append,List.length_singleton,HN.out] at hml
   obtain⟨an,rfl,har⟩:=HDF.out.top
   have hat:=HDF.out.at_ (an:Int) kz (by simp)
   obtain⟨q,rfl⟩:=Int.eq_ofNat_of_zero_le hat.1
   have hanN:=har.lt HW.out
   obtain⟨nd,hnd⟩ : ∃ nd,g.nodes[an]? = some nd:=⟨g.nodes[an]'hanN,List.getElem?_eq_getElem _⟩
   have hql:=(hat.2 nd (by rw[Int.toNat_natCast];exact hnd)).1
   rw[HN.out] at hanN
   obtain⟨nb',no',e',hnc⟩:=HNV.out.at_ hnd
   injection e' with e'
   injection e' with e1 e2
   subst e1 e2
   have HLD:Hid (∀ w1,Below w.heap.size w w1→∀ j v,nd.cells[j]? = some v→w1.cell? ⟨nb,no+an * 13+j,none⟩=some v):=Hd_ fun w1 h j v hj=>ZA h _ _ _ (hnc j v hj)
   obtain⟨m,hm⟩ : ∃ m,s.length=m:=⟨_,rfl⟩
   have HS:=Hd_ hm
   have HST0:=HST.out
   rw[List.length_append,List.length_singleton,hm] at HST0
   clear HST
   have HST:=Hd_ HST0
   obtain⟨tb,tc,e,-,htbl,htcap,htc⟩:=ZW HST.out (by omega)
   subst e
   have mtc:(m:Int)≤(tc:Int):=by omega
   have HC0:Hid (wr.cell? ⟨tb,m * 2,none⟩=some (.int .i64 (an:Nat))):=Hd_ ((htc (m * 2) (by omega)).trans (by
    have:=ZEl (f:=visV) ZCs (l:=s ++ [((an:Int),(q:Int))]) (i:=m) (x:=((an:Int),(q:Int))) (by rw[List.getElem?_append_right (by omega),hm];simp) (j:=0) rfl
    exact this))
   have HC1:Hid (wr.cell? ⟨tb,m * 2+1,none⟩=some (.int .i64 (q:Nat))):=Hd_ ((htc (m * 2+1) (by omega)).trans (by
    have:=ZEl (f:=visV) ZCs (l:=s ++ [((an:Int),(q:Int))]) (i:=m) (x:=((an:Int),(q:Int))) (by rw[List.getElem?_append_right (by omega),hm];simp) (j:=1) rfl
    exact this))
   have HND:=Hd_ hnd
   have HQ:Hid (q≤(fol nd).length):=Hd_ (by omega)
   have HKG:=Hd_ (And.intro hkg hkg2)
   have hanI:(an:Int) < N:=by omega
   have hm4:(m:Int)≤4096:=by omega
   clear hnd hnc htc hat hql hkg hkg2 HST0 hm har
   go_wp2
   obtain⟨W0,rfl⟩ : ∃ W0:World,W0=wr:=⟨_,rfl⟩
   refine ZAf fun a0 ha0=>?_
   have t1:a0.eval (.tmp 1)=.pointer (some ⟨w.heap.size,0,none⟩):=by rw[ha0];rfl
   have t7:a0.eval (.tmp 7)=.pointer (some ⟨tb,m * 2,none⟩):=by rw[ha0];rfl
   have hsz:a0.tmps.size=104:=by rw[ha0];rfl
   have HA0:=Hd_ ha0;clear ha0
   refine Zh [(29,.is (.pointer (some ⟨w.heap.size,3,none⟩))),(30,.is (.slice (some ⟨nb,no,none⟩) N nc)),(31,.is (.pointer (some ⟨tb,m * 2,none⟩))),(32,.is (.pointer (some ⟨tb,m * 2,none⟩))),(33,.is (.pointer (some ⟨tb,m * 2,none⟩))),(34,.is (.int .i64 (an:Nat))),(35,.is (.pointer (some ⟨nb,no+an * 13,none⟩))),(36,.is (.agg #[.int .u8 nd.kind,.int .u8 nd.op,.int .i64 nd.slot,.int .i64 nd.thing,.bool nd.a.isSlot,.int .i64 nd.a.slot,.int .i64 nd.a.word,.bool nd.b.isSlot,.int .i64 nd.b.slot,.int .i64 nd.b.word,.int .i64 nd.next,.int .i64 nd.els,.int .i64 nd.origin])),(37,srIb W0 (fol nd)),(8,srIb W0 (fol nd))] (by kernel_rfl) (by kernel_rfl) ?steps ?done
   case steps =>
    refine⟨?_,?_,?_,?_,?_,?_,?_,?_,?_,?_,trivial⟩
    ·
     refine JW.step (slots:=slBw) rfl (by decide) (by rw[hsz];decide) (29,.is (.pointer (some ⟨w.heap.size,3,none⟩))) rfl rfl rfl ?_
     intro D a wx K hD hp h hK
     have hfr:Fr slBw a0 a:=h.fr
     refine ZD rfl ?_
     have q1:a.eval (.tmp 1)=.pointer (some ⟨w.heap.size,0,none⟩):=(hfr.eval (j:=1) (by decide)).trans t1
     refine ZG hK (by clear hfr;generalize a.eval=ρ at *;go_simp)
    ·
     refine JW.step (slots:=slBw) rfl (by decide) (by rw[hsz];decide) (30,.is (.slice (some ⟨nb,no,none⟩) N nc)) rfl rfl rfl ?_
     intro D a wx K hD hp h hK
     have hfr:Fr slBw a0 a:=h.fr
     refine ZD rfl ?_
     have q29:a.eval (.tmp 29)=.pointer (some ⟨w.heap.size,3,none⟩):=h.val 0 _ rfl (hp 0 (by decide))
     have z1:wx.cell? ⟨w.heap.size,3,none⟩=some (.slice (some ⟨nb,no,none⟩) N nc):=(HGX.out.below h.below HGX.out.lt).cell 3
     refine ZG hK (by clear hfr;generalize a.eval=ρ at *;go_simp)
    ·
     refine JW.step (slots:=slBw) rfl (by decide) (by rw[hsz];decide) (31,.is (.pointer (some ⟨tb,m * 2,none⟩))) rfl rfl rfl ?_
     intro D a wx K hD hp h hK
     have hfr:Fr slBw a0 a:=h.fr
     refine ZD rfl ?_
     have q7:a.eval (.tmp 7)=.pointer (some ⟨tb,m * 2,none⟩):=(hfr.eval (j:=7) (by decide)).trans t7
     exact ZH hK rfl q7
    ·
     refine JW.step (slots:=slBw) rfl (by decide) (by rw[hsz];decide) (32,.is (.pointer (some ⟨tb,m * 2,none⟩))) rfl rfl rfl ?_
     intro D a wx K hD hp h hK
     have hfr:Fr slBw a0 a:=h.fr
     refine ZD rfl ?_
     have q31:a.eval (.tmp 31)=.pointer (some ⟨tb,m * 2,none⟩):=h.val 2 _ rfl (hp 2 (by decide))
     refine ZG hK (by clear hfr;generalize a.eval=ρ at *;go_simp)
    ·
     refine JW.step (slots:=slBw) rfl (by decide) (by rw[hsz];decide) (33,.is (.pointer (some ⟨tb,m * 2,none⟩))) rfl rfl rfl ?_
     intro D a wx K hD hp h hK
     have hfr:Fr slBw a0 a:=h.fr
     refine ZD rfl ?_
     have q32:a.eval (.tmp 32)=.pointer (some ⟨tb,m * 2,none⟩):=h.val 3 _ rfl (hp 3 (by decide))
     refine ZG hK (by clear hfr;generalize a.eval=ρ at *;go_simp)
    ·
     refine JW.step (slots:=slBw) rfl (by decide) (by rw[hsz];decide) (34,.is (.int .i64 (an:Nat))) rfl rfl rfl ?_
     intro D a wx K hD hp h hK
     have hfr:Fr slBw a0 a:=h.fr
     refine ZD rfl ?_
     have q33:a.eval (.tmp 33)=.pointer (some ⟨tb,m * 2,none⟩):=h.val 4 _ rfl (hp 4 (by decide))
     have z1:wx.cell? ⟨tb,m * 2,none⟩=some (.int .i64 (an:Nat)):=ZA h.below _ _ _ HC0.out
     refine ZG hK (by clear hfr;generalize a.eval=ρ at *;go_simp)
    ·
     refine JW.step (slots:=slBw) rfl (by decide) (by rw[hsz];decide) (35,.is (.pointer (some ⟨nb,no+an * 13,none⟩))) rfl rfl rfl ?_
     intro D a wx K hD hp h hK
     have hfr:Fr slBw a0 a:=h.fr
     refine ZD rfl ?_
     have q30:a.eval (.tmp 30)=.slice (some ⟨nb,no,none⟩) N nc:=h.val 1 _ rfl (hp 1 (by decide))
     have q34:a.eval (.tmp 34)=.int .i64 (an:Nat):=h.val 5 _ rfl (hp 5 (by decide))
     have z2:(0:Int)≤(an:Nat):=by omega
     have z3:((an:Nat) : Int) < (N:Nat):=by omega
     refine ZG hK (by clear hfr;generalize a.eval=ρ at *;go_simp)
    ·
     refine JW.step (slots:=slBw) rfl (by decide) (by rw[hsz];decide) (36,.is (.agg #[.int .u8 nd.kind,.int .u8 nd.op,.int .i64 nd.slot,.int .i64 nd.thing,.bool nd.a.isSlot,.int .i64 nd.a.slot,.int .i64 nd.a.word,.bool nd.b.isSlot,.int .i64 nd.b.slot,.int .i64 nd.b.word,.int .i64 nd.next,.int .i64 nd.els,.int .i64 nd.origin])) rfl rfl rfl ?_
     intro D a wx K hD hp h hK
     have hfr:Fr slBw a0 a:=h.fr
     refine ZD rfl ?_
     have q35:a.eval (.tmp 35)=.pointer (some ⟨nb,no+an * 13,none⟩):=h.val 6 _ rfl (hp 6 (by decide))
     refine ZAG hK 61 _ rfl nb (no+an * 13) q35 _ (by have hb:=h.below;exact fun j v hj=>HLD.out _ (HB.out.trans (hb.mono HB.out.size)) j v hj) Tryd.underlying61 rfl (by kernel_rfl)
    ·
     refine JW.step (slots:=slBw) rfl (by decide) (by rw[hsz];decide) (37,srIb W0 (fol nd)) rfl rfl rfl ?_
     intro D a wx K hD hp h hK
     have hfr:Fr slBw a0 a:=h.fr
     refine ZD rfl ?_
     have q36:a.eval (.tmp 36)=.agg #[.int .u8 nd.kind,.int .u8 nd.op,.int .i64 nd.slot,.int .i64 nd.thing,.bool nd.a.isSlot,.int .i64 nd.a.slot,.int .i64 nd.a.word,.bool nd.b.isSlot,.int .i64 nd.b.slot,.int .i64 nd.b.word,.int .i64 nd.next,.int .i64 nd.els,.int .i64 nd.origin]:=h.val 7 _ rfl (hp 7 (by decide))
     refine ZAH hK Tryd.func70 (by kernel_rfl) (by kernel_rfl) rfl #[.agg nd.cells.toArray] (by simp only[List.map_toArray,List.map_cons,List.map_nil,q36];rfl) ?_
     refine(ZAD nd wx).mono ?_
     rintro e w' ⟨v,rfl,hf,hb⟩
     obtain⟨A,c,rfl,hr⟩:=id hf
     exact⟨_,rfl,hb,A,c,rfl,hf.mono (ZAL h.below.size (Nat.le_refl _))⟩
    ·
     refine JW.step (slots:=slBw) rfl (by decide) (by rw[hsz];decide) (8,srIb W0 (fol nd)) rfl rfl rfl ?_
     intro D a wx K hD hp h hK
     have hfr:Fr slBw a0 a:=h.fr
     refine ZD rfl ?_
     have q37:=h.val 8 _ rfl (hp 8 (by decide))
     exact ZAQ hK rfl q37
   case done =>
    intro D a wz hall h
    have hd:∀ i,i < 10→D i=true:=hall
    have hfin:=Fr.allW (slots:=slBw) h.fr (by rw[hsz];decide)
    obtain⟨A5,c5,v8,hi8⟩:=h.val 9 _ rfl (hd 9 (by decide))
    obtain⟨A6,c6,v37,hi37⟩:=h.val 8 _ rfl (hd 8 (by decide))
    have v8:a.eval (.tmp 8)=_:=v8
    have v37:a.eval (.tmp 37)=_:=v37
    have hi8:Ints (part wz W0.heap.size wz.heap.size) (a.eval (.tmp 8)) (fol nd):=hi8
    rw[v8] at hi8
    clear hi37
    simp only[putW,slBw] at hfin
    rw[(show a.eval (.tmp 29)=.pointer (some ⟨w.heap.size,3,none⟩) from h.val 0 _ rfl (hd 0 (by decide))),(show a.eval (.tmp 30)=.slice (some ⟨nb,no,none⟩) N nc from h.val 1 _ rfl (hd 1 (by decide))),(show a.eval (.tmp 31)=.pointer (some ⟨tb,m * 2,none⟩) from h.val 2 _ rfl (hd 2 (by decide))),(show a.eval (.tmp 32)=.pointer (some ⟨tb,m * 2,none⟩) from h.val 3 _ rfl (hd 3 (by decide))),(show a.eval (.tmp 33)=.pointer (some ⟨tb,m * 2,none⟩) from h.val 4 _ rfl (hd 4 (by decide))),(show a.eval (.tmp 34)=.int .i64 (an:Nat) from h.val 5 _ rfl (hd 5 (by decide))),(show a.eval (.tmp 35)=.pointer (some ⟨nb,no+an * 13,none⟩) from h.val 6 _ rfl (hd 6 (by decide))),(show a.eval (.tmp 36)=.agg #[.int .u8 nd.kind,.int .u8 nd.op,.int .i64 nd.slot,.int .i64 nd.thing,.bool nd.a.isSlot,.int .i64 nd.a.slot,.int .i64 nd.a.word,.bool nd.b.isSlot,.int .i64 nd.b.slot,.int .i64 nd.b.word,.int .i64 nd.next,.int .i64 nd.els,.int .i64 nd.origin] from h.val 7 _ rfl (hd 7 (by decide))),v8,v37] at hfin
    have hbz:=h.below
    rw[hfin,HA0.out]
    clear hfin HA0 h hall hd t1 t7 hsz v8 v37
    simp only[Act.put,List.setIfInBounds_toArray,List.set_cons_zero,List.set_cons_succ]
    have HZ:=Hd_ (And.intro hbz hi8)
    clear hbz hi8
    obtain⟨lo,hlo⟩ : ∃ lo,W0.heap.size=lo:=⟨_,rfl⟩
    obtain⟨hi,hhi⟩ : ∃ hi,wz.heap.size=hi:=⟨_,rfl⟩
    have hbw:=HB.out.trans (HZ.out.1.mono HB.out.size)
    have hgz:W0.grownBy wz none:=⟨HZ.out.1.os,HZ.out.1.tape,HZ.out.1.output,HZ.out.1.size,fun k hk _=>HZ.out.1.block k hk⟩
    have hordz:=HORD.out.kept hgz (by cases oA <;> simp[Value.ownBlock])
    have hstz:=HST.out.kept hgz (by simp[Value.ownBlock])
    have hszz:=HZ.out.1.size
    rw[hlo,hhi] at hszz
    have hwlo:w.heap.size+1 < lo:=by rw[← hlo];exact HSEEN.out.lt
    have HZZ:=Hd_ (And.intro hordz (And.intro hstz (And.intro hbw (And.intro (HSEEN.out.below HZ.out.1 HSEEN.out.lt) (HGX.out.below HZ.out.1 HGX.out.lt)))))
    have HFV:Hid (Ints (part wz lo hi) (.slice A5 (fol nd).length c5) (fol nd)):=Hd_ (by rw[← hlo,← hhi];exact HZ.out.2)
    have hob1:tb < lo:=by rw[← hlo];exact(World.ownsRow.lt HST.out tb rfl).2
    have hk0:wz.cell? ⟨tb,m * 2+1,none⟩=some (.int .i64 (q:Nat)):=ZA HZ.out.1 _ _ _ HC1.out
    have ha0:wz.cell? ⟨tb,m * 2,none⟩=some (.int .i64 (an:Nat)):=ZA HZ.out.1 _ _ _ HC0.out
    have hfl:=ZAt nd
    obtain⟨fs,hfs⟩ : ∃ fs,fol nd=fs:=⟨_,rfl⟩
    rw[hfs] at HFV hfl HQ
    rw[hfs]
    have HFS:=Hd_ hfs
    clear hgz hordz hstz hbw hfs hlo hhi
    by_cases hqe:q=fs.length
    ·have dq:((q:Int) == (fs.length:Int))=true:=by simp[hqe]
     have dq2:(q == fs.length)=true:=by simp[hqe]
     have HDP:Hid (DF g seen (ord ++ [(an:Int)]) s):=Hd_ (HDF.out.pop (by rw[Int.toNat_natCast];exact HND.out) (by rw[hqe,HFS.out]))
     have HME:Hid (∀ k':Nat,4 * (N - (ord.length+(s ++ [((an:Int),(q:Int))]).length))+wt (s ++ [((an:Int),(q:Int))])≤k'∧k'≤20000→4 * (N - (ord.length+1+s.length))+wt s < k'∧4 * (N - (ord.length+1+s.length))+wt s≤20000):=Hd_ (fun k' h1=>by have h2:=ZCC s (an:Int) (q:Int);rw[Int.toNat_natCast] at h2;rw[List.length_append,List.length_singleton] at h1;omega)
     have hap:=HZZ.out.1.alloc (.cells #[.int .i64 (an:Nat)] 3)
     have HST2:=Hd_ (HZZ.out.2.1.alloc (.cells #[.int .i64 (an:Nat)] 3))
     have HAP:=Hd_ hap
     have hbd:=HDF.out.bound HW.out
     rw[List.length_append,List.length_singleton,HN.out] at hbd
     have hws:=HZZ.out.2.2.1.size
     clear hap
     go_wp2_with (refine ZN rfl ?_)
     refine Stop.intro ?_
     refine Zg Z2 rfl _ _ rfl w.heap.size (.slice oA ord.length oc) ord.length (ints ord) rfl HAP.out _ 0 1 [.int .i64 (an:Nat)] rfl rfl (Za _ _ _ _ rfl) (by simp[Value.oneCell']) (by omega) (by decide) (by simp;omega) ?_
     intro v' w5 hown5 hgr hobn
     have hb5:=(HZZ.out.2.2.1.alloc hws (.cells #[.int .i64 (an:Nat)] 3)).grown hgr (by simp;omega) (fun b hb=>Z5 HAP.out b hb)
     have hst5:=HST2.out.kept hgr (ZFl HST2.out HAP.out (by decide))
     have hse5:=(HZZ.out.2.2.2.1.alloc (.cells #[.int .i64 (an:Nat)] 3)).grown hgr (ZQ HAP.out (HZZ.out.2.2.2.1.alloc _) (by decide))
     have hgx5:=(HZZ.out.2.2.2.2.alloc (.cells #[.int .i64 (an:Nat)] 3)).grown hgr (ZQ HAP.out (HZZ.out.2.2.2.2.alloc _) (by decide))
     have hpop:=ownsRow_pop (size:=2) (n:=m) (xs:=visL s) (last:=visV ((an:Int),(q:Int))) (by unfold visL;rw[ZB8 ZCs,HS.out]) (by have:=hst5;simpa [visL] using this)
     obtain⟨oA5,oc5,rfl,-⟩:=ZE hown5
     have HF:=Hd_ (And.intro hown5 (And.intro hb5 (And.intro hpop (And.intro hse5 hgx5))))
     clear hown5 hgr hobn hb5 hst5 hpop hse5 hgx5
     go_wp2
     go_roundg (4 * (N - (ord.length+1+s.length))+wt s)
     case measure=>exact(HME.out _ HKG.out).1
     case rel=>exact⟨seen,ord ++ [(an:Int)],s,Hd_ (by simpa [ints] using HF.out.1),Hd_ (by rw[HS.out];exact HF.out.2.2.1),Hd_ HF.out.2.2.2.1,HDP,Hd_ HF.out.2.1,Hd_ HF.out.2.2.2.2,by simp,(HME.out _ HKG.out).2⟩
    ·have dq:((q:Int) == (fs.length:Int))=false:=by simp;omega
     have dq2:(q == fs.length)=false:=by simp;omega
     have hql:q < fs.length:=by have:=HQ.out;omega
     obtain⟨y,hy⟩ : ∃ y,fs[q]? = some y:=⟨_,List.getElem?_eq_getElem hql⟩
     have hyb:=HW.out.fol nd (List.mem_of_getElem? HND.out) y (by rw[HFS.out];exact List.mem_of_getElem? hy)
     rw[HN.out] at hyb
     obtain⟨yn,rfl⟩:=Int.eq_ofNat_of_zero_le hyb.1
     obtain⟨fb,fo,rfl,hfc⟩:=HFV.out.at_ hy
     rw[Nat.mul_one] at hfc
     obtain⟨hfc1,hfb1,hfb2⟩:=Zl hfc
     have hyN:yn < N:=by omega
     have hlx:yn < seen.length:=by rw[HDF.out.len,HN.out];exact hyN
     obtain⟨b,hb⟩ : ∃ b,seen[yn]? = some b:=⟨_,List.getElem?_eq_getElem hlx⟩
     have hs1:=World.ownsRow.stored HZZ.out.2.1 (m * 2+1) (.int .i64 ((q:Int)+1))
     have hset:(visL (s ++ [((an:Int),(q:Int))])).set (m * 2+1) (.int .i64 ((q:Int)+1))=visL (s ++ [((an:Int),(q:Int)+1)]):=by
      unfold visL
      rw[ZH4 (y:=((an:Int),(q:Int)+1)) ZCs (v:=.int .i64 ((q:Int)+1)) (i:=m) (j:=1) (x:=((an:Int),(q:Int))) (by rw[List.getElem?_append_right (by rw[HS.out];exact Nat.le_refl _),HS.out];simp) rfl (by decide)]
      congr 1
      rw[List.set_append_right _ _ (by rw[HS.out];exact Nat.le_refl _),HS.out]
      simp
     rw[hset] at hs1
     have fz:=World.ownsRow.frozenAt HZZ.out.2.1 (m * 2+1)
     have hnow:tb < lo:=hob1
     obtain⟨wq,hwq⟩ : ∃ wq,wz.setCell ⟨tb,m * 2+1,none⟩ (.int .i64 ((q:Int)+1))=wq:=⟨_,rfl⟩
     have hord1:=ownsRow_setCell_other (a:=⟨tb,m * 2+1,none⟩) HZZ.out.1 (by
      rcases ZFl HZZ.out.1 HZZ.out.2.1 (by decide) with h | h
      ·rw[h];simp
      ·exact h) (.int .i64 ((q:Int)+1))
     have hse1:=HZZ.out.2.2.2.1.far (p:=⟨tb,m * 2+1,none⟩) (by have:=ZQ HZZ.out.2.1 HZZ.out.2.2.2.1 (by decide);intro e;exact this (by rw[e];rfl)) (.int .i64 ((q:Int)+1))
     have hgx1:=HZZ.out.2.2.2.2.far (p:=⟨tb,m * 2+1,none⟩) (by have:=ZQ HZZ.out.2.1 HZZ.out.2.2.2.2 (by decide);intro e;exact this (by rw[e];rfl)) (.int .i64 ((q:Int)+1))
     have hbw1:=HZZ.out.2.2.1.setCell (p:=⟨tb,m * 2+1,none⟩) (Z5 HST.out tb rfl) (.int .i64 ((q:Int)+1))
     have sc0:(wz.setCell ⟨tb,m * 2+1,none⟩ (.int .i64 ((q:Int)+1))).cell? ⟨w.heap.size+1,yn,none⟩=some (.bool b):=by rw[hse1.cell];simp[bools,hb]
     have sf0:=hse1.frozen yn
     have HBS:=Hd_ (And.intro hs1.1 (And.intro hord1 (And.intro hse1 (And.intro hgx1 hbw1))))
     have HY:=Hd_ (And.intro hy hb)
     have y0:(0:Int)≤yn:=by omega
     have yN:(yn:Int) < N:=by omega
     have q0:(0:Int)≤q:=by omega
     have qf:(q:Int) < fs.length:=by omega
     have q2:(q:Int)≤2:=by omega
     clear hs1 hset hord1 hse1 hgx1 hbw1 hy hb hlx hfc hyb hwq
     cases b with
     | true =>
      have HME:Hid (∀ k':Nat,4 * (N - (ord.length+(s ++ [((an:Int),(q:Int))]).length))+wt (s ++ [((an:Int),(q:Int))])≤k'∧k'≤20000→4 * (N - (ord.length+(s.length+1)))+wt (s ++ [((an:Int),(q:Int)+1)]) < k'∧4 * (N - (ord.length+(s.length+1)))+wt (s ++ [((an:Int),(q:Int)+1)])≤20000):=Hd_ (fun k' h1=>by have h2:=ZCC s (an:Int) (q:Int);have h3:=ZCC s (an:Int) ((q:Int)+1);rw[Int.toNat_natCast] at h2;rw[show((q:Int)+1).toNat=q+1 by omega] at h3;rw[List.length_append,List.length_singleton] at h1;omega)
      go_wp2
      go_roundg (4 * (N - (ord.length+(s.length+1)))+wt (s ++ [((an:Int),(q:Int)+1)]))
      case measure=>exact(HME.out _ HKG.out).1
      case rel=>exact⟨seen,ord,s ++ [((an:Int),(q:Int)+1)],Hd_ HBS.out.2.1,Hd_ (by rw[List.length_append,List.length_singleton,HS.out];exact HBS.out.1),Hd_ HBS.out.2.2.1,Hd_ (HDF.out.skip (by rw[Int.toNat_natCast];exact HND.out) rfl (by rw[HFS.out];exact HY.out.1) (by rw[Int.toNat_natCast];exact HY.out.2)),Hd_ HBS.out.2.2.2.2,Hd_ HBS.out.2.2.2.1,by simp,(HME.out _ HKG.out).2⟩
     | false =>
      have HPU:Hid (DF g (seen.set yn true) ord (s ++ [((an:Int),(q:Int)+1)] ++ [((yn:Int),0)])):=Hd_ (HDF.out.push HW.out (by rw[Int.toNat_natCast];exact HND.out) rfl (by rw[HFS.out];exact HY.out.1) HY.out.2)
      have hbd:=HPU.out.bound HW.out
      rw[List.length_append,List.length_append,List.length_singleton,List.length_singleton,HN.out] at hbd
      have HME:Hid (∀ k':Nat,4 * (N - (ord.length+(s ++ [((an:Int),(q:Int))]).length))+wt (s ++ [((an:Int),(q:Int))])≤k'∧k'≤20000→4 * (N - (ord.length+(s.length+2)))+wt (s ++ [((an:Int),(q:Int)+1)] ++ [((yn:Int),0)]) < k'∧4 * (N - (ord.length+(s.length+2)))+wt (s ++ [((an:Int),(q:Int)+1)] ++ [((yn:Int),0)])≤20000):=Hd_ (fun k' h1=>by have h2:=ZCC s (an:Int) (q:Int);have h3:=ZCC s (an:Int) ((q:Int)+1);have h4:=ZCC (s ++ [((an:Int),(q:Int)+1)]) (yn:Int) 0;rw[Int.toNat_natCast] at h2;rw[show((q:Int)+1).toNat=q+1 by omega] at h3;rw[show(0:Int).toNat=0 from rfl] at h4;rw[List.length_append,List.length_singleton] at h1;omega)
      have hbt:(bools seen).set yn (.bool true)=bools (seen.set yn true):=by simp[bools,List.map_set]
      have hse2:=HBS.out.2.2.1.set_ yn (.bool true)
      rw[hbt] at hse2
      have hne:=ZQ HBS.out.1 HBS.out.2.2.1 (by decide)
      have hst2:=ownsRow_setCell_other (a:=⟨w.heap.size+1,yn,none⟩) HBS.out.1 (fun e=>hne e.symm) (.bool true)
      have hne1:=ZQ HBS.out.2.1 HBS.out.2.2.1 (by decide)
      have hor2:=ownsRow_setCell_other (a:=⟨w.heap.size+1,yn,none⟩) HBS.out.2.1 (fun e=>hne1 e.symm) (.bool true)
      have hgx2:=HBS.out.2.2.2.1.far (p:=⟨w.heap.size+1,yn,none⟩) (by show w.heap.size≠w.heap.size+1;omega) (.bool true)
      have hbw2:=HBS.out.2.2.2.2.setCell (p:=⟨w.heap.size+1,yn,none⟩) (by show w.heap.size≤w.heap.size+1;omega) (.bool true)
      obtain⟨wv,hwv⟩ : ∃ wv,(wz.setCell ⟨tb,m * 2+1,none⟩ (.int .i64 ((q:Int)+1))).setCell ⟨w.heap.size+1,yn,none⟩ (.bool true)=wv:=⟨_,rfl⟩
      have HSV:=Hd_ (And.intro (hst2.alloc (.cells #[.int .i64 (yn:Nat),.int .i64 0] 169)) (And.intro (hor2.alloc (.cells #[.int .i64 (yn:Nat),.int .i64 0] 169)) (And.intro hse2 (And.intro hgx2 hbw2))))
      have hws:=hbw2.size
      clear hse2 hst2 hor2 hgx2 hbw2 hne hne1 hbt hwv
      go_wp2_with (refine ZN rfl ?_)
      refine Stop.intro ?_
      refine Zg ZId rfl _ _ rfl w.heap.size (.slice (some ⟨tb,0,none⟩) (m+1) tc) (m+1) (visL (s ++ [((an:Int),(q:Int)+1)])) rfl HSV.out.1 _ 0 1 [.int .i64 (yn:Nat),.int .i64 0] rfl rfl (ZL _ [.int .i64 (yn:Nat),.int .i64 0] _ _ (by simp)) (by simp[Value.oneCell']) (by omega) (by decide) (by simp at hws ⊢;omega) ?_
      intro v' w5 hown5 hgr hobn
      have hb5:=(HSV.out.2.2.2.2.alloc hws (.cells #[.int .i64 (yn:Nat),.int .i64 0] 169)).grown hgr (by simp at hws ⊢;omega) (fun b hb=>Z5 HSV.out.1 b hb)
      have hor5:=HSV.out.2.1.kept hgr (ZFl HSV.out.2.1 HSV.out.1 (by decide))
      have hse5:=(HSV.out.2.2.1.alloc (.cells #[.int .i64 (yn:Nat),.int .i64 0] 169)).grown hgr (ZQ HSV.out.1 (HSV.out.2.2.1.alloc _) (by decide))
      have hgx5:=(HSV.out.2.2.2.1.alloc (.cells #[.int .i64 (yn:Nat),.int .i64 0] 169)).grown hgr (ZQ HSV.out.1 (HSV.out.2.2.2.1.alloc _) (by decide))
      obtain⟨vA,vc,rfl,-⟩:=ZE hown5
      have HF:=Hd_ (And.intro hown5 (And.intro hb5 (And.intro hor5 (And.intro hse5 hgx5))))
      clear hown5 hgr hobn hb5 hor5 hse5 hgx5
      go_wp2
      go_roundg (4 * (N - (ord.length+(s.length+2)))+wt (s ++ [((an:Int),(q:Int)+1)] ++ [((yn:Int),0)]))
      case measure=>exact(HME.out _ HKG.out).1
      case rel=>exact⟨seen.set yn true,ord,s ++ [((an:Int),(q:Int)+1)] ++ [((yn:Int),0)],Hd_ HF.out.2.2.1,Hd_ (by rw[List.length_append,List.length_append,List.length_singleton,List.length_singleton,HS.out];simpa [visL,visV] using HF.out.1),Hd_ HF.out.2.2.2.1,HPU,Hd_ HF.out.2.1,Hd_ HF.out.2.2.2.2,by simp,(HME.out _ HKG.out).2⟩
def fillM (N k:Nat) : List Value:=List.replicate k (.int .i64 (-1)) ++ List.replicate (N - k) (.int .i64 0)
theorem ZCy {N k:Nat} (hk:k≤N) {i:Nat} (hi:i < N) : (fillM N k)[i]? = some (.int .i64 (if i < k then -1 else 0)):=by
 unfold fillM
 by_cases c:i < k
 ·rw[List.getElem?_append_left (by simpa using c),if_pos c];simp[c]
 ·rw[List.getElem?_append_right (by simp;omega),List.getElem?_replicate,if_pos (by simp;omega),if_neg c]
theorem ZDb {N k:Nat} (hk:k≤N) : (fillM N k).length=N:=by simp[fillM];omega
theorem ZHC {N k:Nat} (h:k < N) : (fillM N k).set k (.int .i64 (-1))=fillM N (k+1):=by
 apply List.ext_getElem?
 intro i
 by_cases hi:i < N
 ·rw[List.getElem?_set,ZCy (by omega) hi,ZCy (by omega) hi,ZDb (by omega)]
  by_cases e:k=i
  ·subst e;rw[if_pos rfl,if_pos hi,if_pos (by omega)]
  ·rw[if_neg e]
   by_cases c:i < k
   ·rw[if_pos c,if_pos (by omega)]
   ·rw[if_neg c,if_neg (by omega)]
 ·rw[List.getElem?_eq_none (by rw[List.length_set,ZDb (by omega)];omega),List.getElem?_eq_none (by rw[ZDb (by omega)];omega)]
theorem ZCI {g:Graph} (hw:WholeG g) {n q:Nat} : (q:Int)∈predK g g.nodes.length n ↔ Edge g q n:=by
 rw[ZAo]
 constructor
 ·rintro⟨i,nd,h1,_,h3,h4⟩
  obtain rfl:q=i:=by omega
  exact⟨nd,h3,h4⟩
 ·rintro⟨nd,h1,h2⟩
  exact⟨q,nd,rfl,(List.getElem?_eq_some_iff.1 h1).1,h1,h2⟩
def DoPost (g:Graph) (w:World) (e:Ending) (w':World) : Prop:=∃ (out:List Int) (v:Value),e=.returned v∧w'.ownsRow w.heap.size 3 1 v g.nodes.length (ints (out.set 0 (-1)))∧Doms g out∧Below w.heap.size w w'
def DoR (w w3:World) (g:Graph) (pl:Nat→Nat) (M N:Nat) (kg:Nat) (v9:Value) (wr:World) : Prop :=
 ∃ out,Hid (Blk wr w3.heap.size 3 (ints out))∧Hid (Blk wr (w3.heap.size+1) 39 [.slice (some ⟨w3.heap.size,0,none⟩) N N])∧Hid (Below w3.heap.size w3 wr)∧kg≤8192 ∧
  ((v9=.bool true∧∃ r,r≤N∧N+2 - r≤kg∧Hid (CK g pl out r 1))∨(v9=.bool false∧Hid (Doms g out)))
set_option maxRecDepth 100000 in
set_option maxHeartbeats 8000000 in
theorem ZCq (g:Graph) (cs:List Value) (w:World) (hw:WholeG g) (hg:GraphV (cmap w) cs g) :
  Calls Tryd.prog 62 #[.agg cs.toArray] w (DoPost g w):=by
 have HWC:=Hd_ (fun w1 (h:Below w.heap.size w w1)=>ZA3 g cs w1 hw (hg.mono (ZA h)))
 have HBW:=Hd_ (fun w1 (h:Below w.heap.size w w1)=>ZDk g cs w1 hw (hg.mono (ZA h)))
 have HAH:=Hd_ (fun w1 (h:Below w.heap.size w w1)=>ZBF g cs w1 hw (hg.mono (ZA h)))
 obtain⟨nv,rfl,hn⟩:=hg
 obtain⟨nA,nc,rfl,-⟩:=id hn
 have bn:=hn.len.2.2
 have hpos:=hw.pos
 have hmost:=hw.most
 have HW:=Hd_ hw
 obtain⟨N,HN⟩ : ∃ N,Hid (g.nodes.length=N):=⟨_,rfl⟩
 rw[HN.out] at bn hpos hmost HWC HBW HAH
 have hbx:=Blk.new w 38 [.string g.name,.int .i64 g.locals,.int .i64 g.slots,.slice nA N nc]
 have hb0:=ZB w (.cells #[.string g.name,.int .i64 g.locals,.int .i64 g.slots,.slice nA N nc] 38)
 have HBX:=Hd_ (And.intro hbx hb0)
 clear hbx hb0 hw hn
 rw[HN.out]
 go_enter Tryd.func62,Tryd.ntmps62
 go_wp2_with (first
  | (go_at_call 57
     refine(HWC.out _ HBX.out.2).mono ?_
     rintro e w1 ⟨rfl,hb1⟩
     have hbx1:=HBX.out.1.below hb1 HBX.out.1.lt
     have c0:=hbx1.cell 0
     have c1:=hbx1.cell 1
     have c2:=hbx1.cell 2
     have c3:=hbx1.cell 3
     have H1:=Hd_ (And.intro (HBX.out.2.trans (hb1.mono HBX.out.2.size)) hbx1)
     clear hb1 hbx1)
  | (go_at_call 84
     refine(HBW.out _ H1.out.1).mono ?_
     rintro e w2 ⟨R,pls,v1,v2,rfl,hod,hpll,hpl,hr1,hr2,hb2⟩
     obtain⟨rA,rc0,rfl,-⟩:=ZE hr1
     obtain⟨pA,pc0,rfl,-⟩:=ZE hr2
     obtain⟨v2,hv2⟩ : ∃ v2,Value.slice pA pls.length pc0=v2:=⟨_,rfl⟩
     rw[hv2] at hr2
     have hwa:=hb2.alloc hb2.size (.cells #[v2] 39)
     have hbx2:=(H1.out.2.below hb2 H1.out.2.lt).alloc (.cells #[v2] 39)
     have c0:=hbx2.cell 0
     have c1:=hbx2.cell 1
     have c2:=hbx2.cell 2
     have c3:=hbx2.cell 3
     have H2:=Hd_ (And.intro (H1.out.1.trans (hwa.mono H1.out.1.size)) (And.intro hbx2 (And.intro (hr1.alloc (.cells #[v2] 39)) (And.intro (hr2.alloc (.cells #[v2] 39)) (Blk.new w2 39 [v2])))))
     subst hv2
     have HOD:=Hd_ (And.intro hod (And.intro hpll hpl))
     clear hod hpll hpl hr1 hr2 hb2 hwa hbx2)
  | (go_at_call 59
     refine(HAH.out _ H2.out.1).mono ?_
     rintro e w3 ⟨av,rfl,ha,hb3⟩
     obtain⟨aA,an,ac,rfl,-⟩ : ∃ A n c,av=.slice A n c∧True:=by obtain⟨A,c,rfl,_⟩:=ha;exact⟨_,_,_,rfl,trivial⟩
     have hbx3:=H2.out.2.1.below hb3 H2.out.2.1.lt
     have c3:=hbx3.cell 3
     have H3:=Hd_ (And.intro ha (And.intro hb3 hbx3))
     clear ha hb3 hbx3)
  | (refine ZAX Z2 rfl rfl (.tmp 27) (.tmp 27) rfl N rfl rfl (by omega) (by omega) ?_))
 have hs13:w.heap.size≤w3.heap.size:=by have:=H2.out.1.size;have:=H3.out.2.1.size;omega
 go_loopw [31] (fun v31 wr=>∃ k:Nat,v31=.int .i64 k∧k≤N∧Hid (Blk wr w3.heap.size 3 (fillM N k))∧Hid (Blk wr (w3.heap.size+1) 39 [.slice (some ⟨w3.heap.size,0,none⟩) N N])∧Hid (Below w3.heap.size w3 wr)) (fun v31 _=>N - (intOf v31).toNat)
 case atStart=>exact⟨0,rfl,Nat.zero_le _,Hd_ ((Blk.of (ZP _ _ _ rfl) (by simp[fillM])).alloc _),Hd_ (Blk.of (ZP _ _ _ (by simp)) rfl),Hd_ ((ZB w3 _).alloc (by simp) _)⟩
 case round =>
  obtain⟨k,rfl,hk,HO,HX,HB⟩:=hrel
  have x0:=HX.out.cell 0
  by_cases hlt:k < N
  ·have c0:=(HO.out.cell k).trans (ZCy hk hlt)
   have f0:=HO.out.frozen k
   have k0:(0:Int)≤k:=by omega
   have kN:(k:Int) < N:=by omega
   have k8:(k:Int)≤4096:=by omega
   have h1:=HO.out.set_ k (.int .i64 (-1))
   rw[ZHC hlt] at h1
   have H1':=Hd_ h1
   have HX':=Hd_ (HX.out.far (p:=⟨w3.heap.size,k,none⟩) (by show w3.heap.size+1≠w3.heap.size;omega) (.int .i64 (-1)))
   clear h1
   go_wp2
   go_roundw
   case rel=>exact⟨k+1,by go_num,by omega,H1',HX',Hd_ (HB.out.setCell (p:=⟨w3.heap.size,k,none⟩) (Nat.le_refl _) _)⟩
   case measure=>simp[intOf];omega
  ·obtain rfl:k=N:=by omega
   have c0:=(HO.out.cell 0).trans (ZCy (Nat.le_refl _) hpos)
   have f0:=HO.out.frozen 0
   have h1:=HO.out.set_ 0 (.int .i64 0)
   have h1e:(fillM k k).set 0 (.int .i64 0)=ints ((List.replicate k (-1)).set 0 0):=by simp[fillM,ints,List.map_set]
   rw[h1e] at h1
   have hck:=CK.start (pl:=plO R) HW.out HOD.out.1.rpo
   rw[HN.out] at hck
   have HRM:R.length≤k:=by have:=HOD.out.1.most;rw[HN.out] at this;exact this
   have k0N:(0:Int) < k:=by omega
   have HIN:Hid (DoR w w3 g (plO R) R.length k 8192 (.bool true) (wr.setCell ⟨w3.heap.size,0,none⟩ (.int .i64 0))):=Hd_ ⟨_,Hd_ h1,Hd_ (HX.out.far (p:=⟨w3.heap.size,0,none⟩) (by show w3.heap.size+1≠w3.heap.size;omega) _),Hd_ (HB.out.setCell (p:=⟨w3.heap.size,0,none⟩) (Nat.le_refl _) _),Nat.le_refl _,.inl ⟨rfl,0,Nat.zero_le _,by omega,Hd_ hck⟩⟩
   clear h1 h1e hck hlt
   obtain⟨L,hL⟩ : ∃ L,R.length=L+1:=by
    have h0:=HOD.out.1.rpo.lt 0 .zero
    exact⟨R.length - 1,by omega⟩
   have hr1:=H2.out.2.2.1
   rw[hL] at hr1
   obtain⟨rb,rc,e1,-,hrbl,hrcap,hrc⟩:=ZW hr1 (by omega)
   injection e1 with e1 _ e3
   subst e1 e3
   have hr2:=H2.out.2.2.2.1
   have hpk:pls.length=k:=by rw[HOD.out.2.1,HN.out]
   obtain⟨pb,pc,e2,-,hpbl,-,hpc⟩:=ZW hr2 (by omega)
   injection e2 with e2 e4 e3
   subst e2 e3
   have HRC:=Hd_ (And.intro hrc hrbl)
   have HPC:=Hd_ (And.intro hpc hpbl)
   have HL:=Hd_ hL
   have hcap:(1:Int)≤(rc0:Int):=by omega
   have hcap2:(L:Int)+1≤(rc0:Int):=by omega
   have hL4:L≤4096:=by omega
   rw[hL] at HIN
   rw[hL]
   clear hr1 hr2 hrc hpc hrbl hpbl hL
   go_wp2
   go_loopg [9] 8192 (fun kg v9 wr=>DoR w w3 g (plO R) (L+1) k kg v9 wr)
   case atStart=>exact HIN.out
   case round =>
    obtain⟨out,HO,HX,HB,hkg,hor⟩:=hrel
    rcases hor with⟨rfl,r,hr,hrk,HCK⟩ | ⟨rfl,HDO⟩
    ·have HKG:=Hd_ (And.intro hrk hkg)
     clear hrk hkg
     have HRR:=Hd_ hr
     by_cases hc1:rc0=1
     ·have hL0:L=0:=by omega
      subst hL0
      subst hc1
      have hdm:Doms g out:=Doms.of HW.out HOD.out.1.rpo HOD.out.1.most (r:=r) (by rw[HL.out];exact HCK.out) (by rw[HL.out];exact FixB.start HOD.out.1.rpo)
      have HDM:=Hd_ hdm
      clear hdm
      go_wp2
      go_loopw [9,45] (fun v9 v45 wr'=>v9=.bool false∧v45=.int .i64 0∧wr'=wr) (fun _ _ _=>0)
      case atStart=>exact⟨rfl,rfl,rfl⟩
      case round =>
       obtain⟨rfl,rfl,rfl⟩:=hrel
       go_wp2
       go_roundg 0
       case measure=>have:=HKG.out.1;have:=HRR.out;omega
       case rel=>exact⟨out,HO,HX,HB,by omega,.inr ⟨rfl,HDM⟩⟩
     ·have hc2:¬ (rc0:Int)=1:=by omega
      go_wp2
      go_loopw [9,45] (fun v9 v45 wr=>∃ (ch:Bool) (q:Nat) (out:List Int),v9=.bool ch∧v45=.int .i64 q∧q≤L∧Hid (Blk wr w3.heap.size 3 (ints out))∧Hid (Blk wr (w3.heap.size+1) 39 [.slice (some ⟨w3.heap.size,0,none⟩) k k])∧Hid (Below w3.heap.size w3 wr)∧Hid (CK g (plO R) out r (q+1))∧Hid (ch=true→r < k)∧Hid (ch=false→FixB g (plO R) out r (q+1))) (fun _ v45 _=>L - (intOf v45).toNat)
      case atStart=>exact⟨false,0,out,rfl,rfl,Nat.zero_le _,HO,HX,HB,HCK,Hd_ (fun h=>by cases h),Hd_ (fun _=>FixB.start HOD.out.1.rpo)⟩
      case round =>
       obtain⟨ch,q,out2,rfl,rfl,hq,HO2,HX2,HB2,HCK2,HCH,HFX⟩:=hrel
       have x0:=HX2.out.cell 0
       by_cases hql:q < L
       ·obtain⟨xr,hxr⟩ : ∃ x,R[q+1]? = some x:=⟨R[q+1]'(by rw[HL.out];omega),List.getElem?_eq_getElem _⟩
        obtain⟨n,rfl,hnr,hnp⟩:=HOD.out.1.mem (q+1) xr hxr
        have hn0:n≠0:=by
         rintro rfl
         rw[HOD.out.1.rpo.zero] at hnp
         omega
        have hnN:=hnr.lt HW.out
        rw[HN.out] at hnN
        have rcell:wr.cell? ⟨rb,1+q,none⟩=some (.int .i64 (n:Nat)):=by
         have h1:=(HRC.out.1 (q+1) (by omega)).trans (show(ints R)[q+1]? = some (.int .i64 (n:Nat)) by simp[ints,hxr])
         rw[Nat.add_comm 1 q]
         exact ZA HB2.out _ _ _ (ZA H3.out.2.1 _ _ _ h1)
        have ha1:=H3.out.1
        rw[HN.out] at ha1
        have hark:((List.range k).map (predK g k))[n]? = some (predK g k n):=by simp[hnN]
        have han:k=an:=by have:=ha1.len.1;simpa using this.symm
        subst han
        obtain⟨ab,ao,rfl,rv,hrc1,hri⟩:=ha1.at_ hark
        obtain⟨rvA,rvc,rfl,-⟩:=id hri
        rw[Nat.mul_one] at hrc1
        have acell:wr.cell? ⟨ab,ao+n,none⟩=some (.slice rvA (predK g k n).length rvc):=ZA HB2.out _ _ _ (Zl hrc1).1
        have hri2:Ints (cmap wr) (.slice rvA (predK g k n).length rvc) (predK g k n):=(hri.mono (ZV _ _ _)).mono (ZA HB2.out)
        have hpe:∀ z:Nat,(z:Int)∈predK g k n ↔ Edge g z n:=fun z=>by
         have:=ZCI HW.out (n:=n) (q:=z)
         rwa [HN.out] at this
        have hpb:∀ z∈predK g k n,0≤z∧z < k:=fun z hz=>by
         obtain⟨i,nd,h1,h2,_⟩:=(ZAo g n k z).1 hz
         omega
        have hpl:=Z3 g n k
        obtain⟨P,hP⟩ : ∃ P,predK g k n=P:=⟨_,rfl⟩
        rw[hP] at acell hri2 hpe hpb hpl
        have HNN:=Hd_ (And.intro hnr (And.intro hn0 (And.intro hnp (And.intro hpe hpb))))
        have HRI:=Hd_ hri2
        have n0:(0:Int)≤n:=by omega
        have nN:(n:Int) < k:=by omega
        have q0:(0:Int)≤q:=by omega
        have qL:(q:Int) < L:=by omega
        have q8:(q:Int)≤4096:=by omega
        have hPB:Hid (BoxI wr w2.heap.size pb pc0 pls):=Hd_ ⟨by
          have h1:=H2.out.2.2.2.2.cell 0
          have h2:=ZA HB2.out _ _ _ (ZA H3.out.2.1 _ _ _ h1)
          exact h2,fun z x hz=>by
          have hzl:=(List.getElem?_eq_some_iff.1 hz).1
          rw[HOD.out.2.1,HN.out] at hzl
          have h1:=(HPC.out.1 z (by omega)).trans (show(ints pls)[z]? = some (.int .i64 x) by simp[ints,hz])
          exact ZA HB2.out _ _ _ (ZA H3.out.2.1 _ _ _ h1)⟩
        have hlen2:=HCK2.out.len
        rw[HN.out] at hlen2
        have hOB:Hid (BoxI wr (w3.heap.size+1) w3.heap.size k out2):=Hd_ ⟨by rw[hlen2];exact x0,fun z x hz=>by rw[HO2.out.cell];simp[ints,hz]⟩
        obtain⟨z0,hz0⟩ : ∃ z,out2[n]? = some z:=⟨out2[n]'(by omega),List.getElem?_eq_getElem _⟩
        have ocell:wr.cell? ⟨w3.heap.size,n,none⟩=some (.int .i64 z0):=hOB.out.blk n z0 hz0
        have ofr:=HO2.out.frozen n
        have HZ0:=Hd_ (And.intro hz0 hlen2)
        obtain⟨wo,rfl⟩ : ∃ wo:World,wo=wr:=⟨_,rfl⟩
        clear hxr hnr hn0 hnp ha1 hark hrc1 hri hri2 hpe hpb hP hz0 hlen2
        go_wp2
        go_loopw [12,54] (fun v12 v54 wr=>∃ (best:Int) (s:Nat),v12=.int .i64 best∧v54=.int .i64 s∧s≤P.length∧Hid (∃ m,wr=wo.drewN m)∧Hid (BI g (plO R) out2 r (q+1) P s best)) (fun _ v54 _=>P.length - (intOf v54).toNat)
        case atStart=>exact⟨-1,0,rfl,rfl,Nat.zero_le _,Hd_ ⟨0,rfl⟩,Hd_ BI.start⟩
        case round =>
         obtain⟨best,s,rfl,rfl,hs,HM,HBI⟩:=hrel
         obtain⟨m,rfl⟩:=HM.out
         by_cases hsl:s < P.length
         ·obtain⟨xp,hxp⟩ : ∃ x,P[s]? = some x:=⟨_,List.getElem?_eq_getElem hsl⟩
          obtain⟨xp0,xpk⟩:=HNN.out.2.2.2.2 xp (List.mem_of_getElem? hxp)
          obtain⟨p,rfl⟩:=Int.eq_ofNat_of_zero_le xp0
          obtain⟨pvb,pvo,rfl,hpc2⟩:=HRI.out.at_ hxp
          rw[Nat.mul_one] at hpc2
          have pcell:wo.cell? ⟨pvb,pvo+s,none⟩=some (.int .i64 (p:Nat)):=hpc2
          obtain⟨zp,hzp⟩ : ∃ z,out2[p]? = some z:=⟨out2[p]'(by have:=HZ0.out.2;omega),List.getElem?_eq_getElem _⟩
          have opc:wo.cell? ⟨w3.heap.size,p,none⟩=some (.int .i64 zp):=hOB.out.blk p zp hzp
          have hpi:=HCK2.out.pro_iff hzp
          have s0:(0:Int)≤s:=by omega
          have sP:(s:Int) < P.length:=by omega
          have s8:(s:Int)≤4096:=by omega
          have HXP:=Hd_ (And.intro hxp hpi)
          clear hxp hpc2 hzp hpi
          by_cases hz:zp < 0
          ·have d1:decide (zp < 0)=true:=decide_eq_true hz
           have hb2:=HBI.out.skip HXP.out.1 (fun h=>by have:=HXP.out.2.2 h;omega)
           have HB3:=Hd_ hb2
           clear hz hb2
           go_wp2
           go_roundw
           case rel=>exact⟨best,s+1,rfl,by go_num,hsl,Hd_ ⟨_,rfl⟩,HB3⟩
           case measure=>simp[intOf];omega
          ·have d1:decide (zp < 0)=false:=decide_eq_false hz
           obtain⟨hpr,hpp⟩:=HXP.out.2.1 (by omega)
           by_cases hbz:best < 0
           ·have d2:decide (best < 0)=true:=decide_eq_true hbz
            have HB3:=Hd_ (HBI.out.first hbz HXP.out.1 hpr hpp)
            clear hz hbz hpr hpp
            go_wp2
            go_roundw
            case rel=>exact⟨(p:Int),s+1,rfl,by go_num,hsl,Hd_ ⟨_,rfl⟩,HB3⟩
            case measure=>simp[intOf];omega
           ·have d2:decide (best < 0)=false:=decide_eq_false hbz
            obtain⟨c,rfl,hcr,hcp⟩:=HBI.out.form hbz
            have HME:=Hd_ (ZGz g (plO R) R.length out2 pls r (q+1) c p w2.heap.size pb pc0 (w3.heap.size+1) w3.heap.size k (wo.drewN m) HW.out HOD.out.1.rpo HCK2.out (hPB.out.drewN m) (hOB.out.drewN m) HOD.out.2.2 (HOD.out.2.1) hcr hcp hpr hpp (by omega))
            have HPP:=Hd_ (And.intro hpr hpp)
            clear hz hbz hpr hpp hcr hcp
            go_wp2_with (first
             | (go_at_call 85
                refine(HME.out).mono ?_
                rintro e wy ⟨c',rfl,⟨ny,rfl⟩,hmt⟩
                have HMT:=Hd_ hmt
                clear hmt))
            go_roundw
            case rel=>exact⟨(c':Int),s+1,rfl,by go_num,hsl,Hd_ ⟨_,rfl⟩,Hd_ (HBI.out.meet HXP.out.1 HPP.out.1 HPP.out.2 HMT.out)⟩
            case measure=>simp[intOf];omega
         ·obtain rfl:s=P.length:=by omega
          obtain⟨c,rfl,hmt⟩:=HBI.out.done HOD.out.1.rpo HNN.out.1 HNN.out.2.1 HNN.out.2.2.1 HNN.out.2.2.2.1
          have hset:=HCK2.out.set_ HW.out HOD.out.1.rpo HNN.out.1 HNN.out.2.1 HNN.out.2.2.1 hmt
          have HMT:=Hd_ hmt
          have HSE:=Hd_ hset
          clear hmt hset
          have hbd:Below w3.heap.size w3 (wo.drewN m):=⟨HB2.out.os,HB2.out.tape,HB2.out.output,HB2.out.size,HB2.out.block⟩
          have HBD:=Hd_ hbd
          clear hbd
          by_cases hze:z0=(c:Int)
          ·have d1:(z0 != (c:Int))=false:=by simp[hze]
           have hsame:out2.set n (c:Int)=out2:=by
            apply List.ext_getElem?
            intro j
            rw[List.getElem?_set]
            by_cases e:n=j
            ·subst e
             have h1:=HZ0.out.1
             rw[if_pos rfl,if_pos (List.getElem?_eq_some_iff.1 h1).1,h1,hze]
            ·rw[if_neg e]
           have hfx:ch=false→FixB g (plO R) out2 r (q+1+1):=fun h=>(HFX.out h).next HW.out HOD.out.1.rpo HCK2.out HNN.out.1 HNN.out.2.1 HNN.out.2.2.1 HMT.out (by rw[HZ0.out.1,hze])
           have HSF:=Hd_ (And.intro hsame hfx)
           clear hsame hfx hze
           go_wp2
           go_roundw
           case rel=>exact⟨ch,q+1,out2,rfl,by go_num,hql,Hd_ HO2.out,Hd_ HX2.out,HBD,Hd_ (by have:=HSE.out;rwa [HSF.out.1] at this),HCH,Hd_ HSF.out.2⟩
           case measure=>simp[intOf];omega
          ·have d1:(z0 != (c:Int))=true:=by simp[hze]
           have hls:=HCK2.out.less HW.out HOD.out.1.rpo HNN.out.1 HNN.out.2.1 HNN.out.2.2.1 HMT.out HZ0.out.1 hze
           rw[HN.out] at hls
           have hbs:(ints out2).set n (.int .i64 (c:Int))=ints (out2.set n (c:Int)):=by simp[ints,List.map_set]
           have h1:=(HO2.out.drewN m).set_ n (.int .i64 (c:Int))
           rw[hbs] at h1
           have HS1:=Hd_ (And.intro h1 (And.intro ((HX2.out.drewN m).far (p:=⟨w3.heap.size,n,none⟩) (by show w3.heap.size+1≠w3.heap.size;omega) (.int .i64 (c:Int))) (And.intro (HBD.out.setCell (p:=⟨w3.heap.size,n,none⟩) (Nat.le_refl _) (.int .i64 (c:Int))) hls)))
           clear hls hbs h1 hze
           go_wp2
           go_roundw
           case rel=>exact⟨true,q+1,out2.set n (c:Int),rfl,by go_num,hql,Hd_ HS1.out.1,Hd_ HS1.out.2.1,Hd_ HS1.out.2.2.1,HSE,Hd_ (fun _=>HS1.out.2.2.2),Hd_ (fun h=>by cases h)⟩
           case measure=>simp[intOf];omega
       ·obtain rfl:q=L:=by omega
        have hkr:=HKG.out
        cases ch with
        | true =>
         have hrk:=HCH.out rfl
         have hrd:=(by have:=HCK2.out;rw[← HL.out] at this;exact this.round HOD.out.1.rpo:CK g (plO R) out2 (r+1) 1)
         have HRD:=Hd_ hrd
         clear hrd
         go_wp2
         go_roundg (k+2 - (r+1))
         case measure=>have:=HKG.out.1;omega
         case rel=>exact⟨out2,HO2,HX2,HB2,by omega,.inl ⟨rfl,r+1,by omega,Nat.le_refl _,HRD⟩⟩
        | false =>
         have hdm:Doms g out2:=Doms.of HW.out HOD.out.1.rpo HOD.out.1.most (by have:=HCK2.out;rw[← HL.out] at this;exact this) (by have:=HFX.out rfl;rw[← HL.out] at this;exact this)
         have HDM:=Hd_ hdm
         clear hdm
         go_wp2
         go_roundg 0
         case measure=>have:=HKG.out.1;have:=HRR.out;omega
         case rel=>exact⟨out2,HO2,HX2,HB2,by omega,.inr ⟨rfl,HDM⟩⟩
    ·have x0:=HX.out.cell 0
     have hlen:=HDO.out.len
     rw[HN.out] at hlen
     have c0:wr.cell? ⟨w3.heap.size,0,none⟩=some (.int .i64 0):=by rw[HO.out.cell];have:=HDO.out.zero;simp[ints,this]
     have f0:=HO.out.frozen 0
     have h1:=HO.out.set_ 0 (.int .i64 (-1))
     rw[show(ints out).set 0 (.int .i64 (-1))=ints (out.set 0 (-1)) by simp[ints,List.map_set]] at h1
     have hx1:=HX.out.far (p:=⟨w3.heap.size,0,none⟩) (by show w3.heap.size+1≠w3.heap.size;omega) (.int .i64 (-1))
     have y0:=hx1.cell 0
     have HS1:=Hd_ (And.intro h1 (HB.out.setCell (p:=⟨w3.heap.size,0,none⟩) (Nat.le_refl _) (.int .i64 (-1))))
     have HLN:=Hd_ hlen
     clear h1 hx1 hlen
     go_wp2
     go_ret
     refine⟨out,_,rfl,?_,HDO.out,?_⟩
     ·rw[HN.out]
      exact ZEZ HS1.out.1 hs13 (by simp[ints,HLN.out]) (by omega)
     ·exact(H2.out.1.trans (H3.out.2.1.mono H2.out.1.size)).trans (HS1.out.2.mono hs13)
end Go.Proofs.YtffgnjgphkdodaaDoor
