/- What the reference's New has laid so far. Contract of the reference's New. Contracts of the reference's tat, and of slices.Clone of ints and times. -/
import Derived.Test.YtpgckpafjiojfaaGreatDoorAKA
import Derived.Test.YtpgckpafjiojfaaGreatDoorAJh
namespace Go.Proofs.YtpgckpafjiojfaaGreatDoor.AD
open Go Go.RowKit BW
open BK (Bx RBoxAt Blk only_refl only_drew only_drewN only_setCell only_trans only_of_below only_alloc below_drewN)
def ptC(b:Nat):Value:=.pointer (some ⟨b,0,none⟩)
def rcellsN(c:Cf)(ca:Option Addr)(cc lm:Nat)(rv ov bv:Value):Array Value:=#[.bool true,.int .i64 c.g.cap,.int .i64 c.g.q,.int .i64 c.g.ar,.int .i64 c.g.ag,.int .u64 c.g.sd,.int .i64 c.g.t,.int .i64 c.g.tau,.slice ca c.n cc,rv,ptC lm,ov,bv,.int .i64 0]
structure RnI(w:World)(N:Nat)(c:Cf)(L:JL)(ca:Option Addr)(cc lm G:Nat)(rv ov bv:Value)(rn:Nat)(os bs:List Nat)(W:World):Prop where
 box:Blk W w.heap.size 31 (cfV c)
 gate:Blk W G 150 (rcellsN c ca cc lm rv ov bv)
 lim:RLmAt W lm (lm0 c.g.t c.g.tau)
 runs:W.ownsRow N 3 1 rv rn (List.replicate rn (.int .i64 0))
 ones:W.ownsRow N 146 1 ov os.length (os.map ptC)
 boxs:W.ownsRow N 153 1 bv bs.length (bs.map ptC)
 jo:∀(k q:Nat) (x:Jb × List (Int × Int)),os[k]? = some q→L[k]? = some x→RLmAt W q (lm0 x.1.y.t x.1.y.tau)
 jb:∀(k q:Nat) (x:Jb × List (Int × Int)),bs[k]? = some q→L[k]? = some x→RBoxAt W q (BK.fresh x.1.y.f x.1.y.o x.1.y.r)
 cop:0<L.length→∃g,ca=some ⟨g,0,none⟩∧w.heap.size≤g∧g<N∧∀(k:Nat) (x:Jb × List (Int × Int)),L[k]? = some x→W.cell? ⟨g,k*30+15,none⟩=some (.int .i64 x.1.y.cap)
 lo:w.heap.size≤N∧N≤G∧N≤lm∧(∀q∈os,N≤q)∧∀q∈bs,N≤q
 d1:∀(k q:Nat),os[k]? = some q→q≠lm∧∀(i r:Nat),os[i]? = some r→i≠k→r≠q
 d2:∀(k q:Nat),bs[k]? = some q→∀(i r:Nat),bs[i]? = some r→i≠k→r≠q
 bel:Below w.heap.size w W
 len:os.length≤L.length∧bs.length≤L.length
section
variable{w:World}{N:Nat}{c:Cf}{L:JL}{ca:Option Addr}{cc lm G:Nat}{rv ov bv:Value}{rn:Nat}{os bs:List Nat}{W X Y:World}
theorem RnI.copN(h:RnI w N c L ca cc lm G rv ov bv rn os bs W)(hk:∀i,i<N→i<W.heap.size→w.heap.size≤i→X.heap[i]? = W.heap[i]?):0<L.length→∃g,ca=some ⟨g,0,none⟩∧w.heap.size≤g∧g<N∧∀(k:Nat) (x:Jb × List (Int × Int)),L[k]? = some x→X.cell? ⟨g,k*30+15,none⟩=some (.int .i64 x.1.y.cap):=fun h0=>by
 obtain ⟨g,e,h1,h2,h3⟩:=h.cop h0
 have hl:g<W.heap.size:=World.block_lt_of_cell? W _ (h3 0 _ (List.getElem?_eq_getElem h0))
 exact ⟨g,e,h1,h2,fun k x hx=>(cell_heap (hk g h2 hl h1)).trans (h3 k x hx)⟩
theorem RnI.next(h:RnI w N c L ca cc lm G rv ov bv rn os bs W)(hb:Below W.heap.size W X):RnI w N c L ca cc lm G rv ov bv rn os bs X :=
 ⟨h.box.below hb h.box.lt,h.gate.below hb h.gate.lt,Blk.below h.lim hb (Blk.lt h.lim),own_below h.runs hb,own_below h.ones hb,own_below h.boxs hb,
  fun k q x h1 h2=>Blk.below (h.jo k q x h1 h2) hb (Blk.lt (h.jo k q x h1 h2)),fun k q x h1 h2=>Blk.below (h.jb k q x h1 h2) hb (Blk.lt (h.jb k q x h1 h2)),
  h.copN fun i _ h2 _=>hb.block i h2,h.lo,h.d1,h.d2,h.bel.trans (hb.mono h.bel.size),h.len⟩
theorem own_base{B:Nat}{e:TypeId}{s n:Nat}{v:Value}{xs:List Value}{w:World}(h:w.ownsRow B e s v n xs):∀g,v.ownBlock=some g→B≤g:=fun g hg=>(h.lt g hg).1
theorem RnI.pushO(h:RnI w N c L ca cc lm G rv ov bv rn os bs X){v':Value}{li:Nat}{x:Jb × List (Int × Int)}(hx:L[os.length]? = some x)(h1:RLmAt X li (lm0 x.1.y.t x.1.y.tau))(hlm:lm<li)(hfr:∀q∈os,q<li)(hN:N≤li)(hown:Y.ownsRow N 146 1 v' (os.length+1) (os.map ptC++[ptC li]))(hg:X.grownBy Y ov.ownBlock):RnI w N c L ca cc lm G rv v' bv rn (os++[li]) bs (Y.setCell ⟨G,11,none⟩ v'):=by
 have kp:∀{g:Nat} {t:TypeId} {cs:Array Value},Blk X g t cs→146≠t→Blk Y g t cs:=fun hk hne=>(hg.block _ hk.lt (own_blk_ne h.ones hk hne)).trans hk
 have gy:=kp h.gate (by decide)
 have kq:∀{g:Nat} {t:TypeId} {cs:Array Value},Blk X g t cs→146≠t→t≠150→Blk (Y.setCell ⟨G,11,none⟩ v') g t cs:=fun hk hne hne2=>Blk.far (kp hk hne) (blk_ne (kp hk hne) gy hne2) v'
 have hNw:=h.lo.1
 have hNG:=h.lo.2.1
 refine ⟨kq h.box (by decide) (by decide),Blk.set_ gy 11 v',kq h.lim (by decide) (by decide),own_set (own_other h.runs h.ones (by decide) hg) gy (by decide) 11 v',by rw [List.length_append,List.map_append];exact own_set hown gy (by decide) 11 v',own_set (own_other h.boxs h.ones (by decide) hg) gy (by decide) 11 v',
  fun m q y hq hy=>by
   rcases snoc_get hq with ⟨hk,hq⟩|⟨rfl,rfl⟩
   ·exact kq (h.jo m q y hq hy) (by decide) (by decide)
   ·rw [hx] at hy
    injection hy with hy
    subst hy
    exact kq h1 (by decide) (by decide),
  fun m q y hq hy=>kq (h.jb m q y hq hy) (by decide) (by decide),
  h.copN fun i h1 h2 h3=>?_,
  ⟨h.lo.1,h.lo.2.1,h.lo.2.2.1,fun q hq=>by
   rcases List.mem_append.1 hq with hq|hq
   ·exact h.lo.2.2.2.1 q hq
   ·simp at hq;subst hq;exact hN,h.lo.2.2.2.2⟩,
  fun m q hq=>⟨by
   rcases snoc_get hq with ⟨hk,hq⟩|⟨rfl,rfl⟩
   ·exact (h.d1 m q hq).1
   ·exact Nat.ne_of_gt hlm,fun i r hr hne=>by
   rcases snoc_get hq with ⟨hk,hq⟩|⟨rfl,rfl⟩
   ·rcases snoc_get hr with ⟨hk2,hr⟩|⟨rfl,rfl⟩
    ·exact (h.d1 m q hq).2 i r hr hne
    ·exact Nat.ne_of_gt (hfr q (List.mem_of_getElem? hq))
   ·rcases snoc_get hr with ⟨hk2,hr⟩|⟨e,-⟩
    ·exact Nat.ne_of_lt (hfr r (List.mem_of_getElem? hr))
    ·exact absurd e hne⟩,
  h.d2,?_,⟨by rw [List.length_append];have:=(List.getElem?_eq_some_iff.1 hx).1;simp;omega,h.len.2⟩⟩
 ·refine (Below.heap_setCell Y ⟨G,11,none⟩ v' i (by show i≠G;omega)).trans ?_
  exact hg.block i h2 fun e=>absurd (own_base h.ones i e.symm) (by omega)
 ·exact ((h.bel.grown hg h.bel.size fun k hk=>Nat.le_trans hNw (own_base h.ones k hk)).setCell (Nat.le_trans hNw hNG) v')
theorem RnI.pushB(h:RnI w N c L ca cc lm G rv ov bv rn os bs X){v':Value}{li:Nat}{x:Jb × List (Int × Int)}(hx:L[bs.length]? = some x)(h1:RBoxAt X li (BK.fresh x.1.y.f x.1.y.o x.1.y.r))(hfr:∀q∈bs,q<li)(hN:N≤li)(hown:Y.ownsRow N 153 1 v' (bs.length+1) (bs.map ptC++[ptC li]))(hg:X.grownBy Y bv.ownBlock):RnI w N c L ca cc lm G rv ov v' rn os (bs++[li]) (Y.setCell ⟨G,12,none⟩ v'):=by
 have kp:∀{g:Nat} {t:TypeId} {cs:Array Value},Blk X g t cs→153≠t→Blk Y g t cs:=fun hk hne=>(hg.block _ hk.lt (own_blk_ne h.boxs hk hne)).trans hk
 have gy:=kp h.gate (by decide)
 have kq:∀{g:Nat} {t:TypeId} {cs:Array Value},Blk X g t cs→153≠t→t≠150→Blk (Y.setCell ⟨G,12,none⟩ v') g t cs:=fun hk hne hne2=>Blk.far (kp hk hne) (blk_ne (kp hk hne) gy hne2) v'
 have hNw:=h.lo.1
 have hNG:=h.lo.2.1
 refine ⟨kq h.box (by decide) (by decide),Blk.set_ gy 12 v',kq h.lim (by decide) (by decide),own_set (own_other h.runs h.boxs (by decide) hg) gy (by decide) 12 v',own_set (own_other h.ones h.boxs (by decide) hg) gy (by decide) 12 v',by rw [List.length_append,List.map_append];exact own_set hown gy (by decide) 12 v',
  fun m q y hq hy=>kq (h.jo m q y hq hy) (by decide) (by decide),
  fun m q y hq hy=>by
   rcases snoc_get hq with ⟨hk,hq⟩|⟨rfl,rfl⟩
   ·exact kq (h.jb m q y hq hy) (by decide) (by decide)
   ·rw [hx] at hy
    injection hy with hy
    subst hy
    exact kq h1 (by decide) (by decide),
  h.copN fun i h1 h2 h3=>?_,
  ⟨h.lo.1,h.lo.2.1,h.lo.2.2.1,h.lo.2.2.2.1,fun q hq=>by
   rcases List.mem_append.1 hq with hq|hq
   ·exact h.lo.2.2.2.2 q hq
   ·simp at hq;subst hq;exact hN⟩,
  h.d1,
  fun m q hq i r hr hne=>by
   rcases snoc_get hq with ⟨hk,hq⟩|⟨rfl,rfl⟩
   ·rcases snoc_get hr with ⟨hk2,hr⟩|⟨rfl,rfl⟩
    ·exact h.d2 m q hq i r hr hne
    ·exact Nat.ne_of_gt (hfr q (List.mem_of_getElem? hq))
   ·rcases snoc_get hr with ⟨hk2,hr⟩|⟨e,-⟩
    ·exact Nat.ne_of_lt (hfr r (List.mem_of_getElem? hr))
    ·exact absurd e hne,?_,⟨h.len.1,by rw [List.length_append];have:=(List.getElem?_eq_some_iff.1 hx).1;simp;omega⟩⟩
 ·refine (Below.heap_setCell Y ⟨G,12,none⟩ v' i (by show i≠G;omega)).trans ?_
  exact hg.block i h2 fun e=>absurd (own_base h.boxs i e.symm) (by omega)
 ·exact ((h.bel.grown hg h.bel.size fun k hk=>Nat.le_trans hNw (own_base h.boxs k hk)).setCell (Nat.le_trans hNw hNG) v')
theorem RnI.pushR(h:RnI w N c L ca cc lm G rv ov bv rn os bs X){v':Value}(hown:Y.ownsRow N 3 1 v' (rn+1) (List.replicate rn (.int .i64 0)++[.int .i64 0]))(hg:X.grownBy Y rv.ownBlock):RnI w N c L ca cc lm G v' ov bv (rn+1) os bs (Y.setCell ⟨G,9,none⟩ v'):=by
 have kp:∀{g:Nat} {t:TypeId} {cs:Array Value},Blk X g t cs→3≠t→Blk Y g t cs:=fun hk hne=>(hg.block _ hk.lt (own_blk_ne h.runs hk hne)).trans hk
 have gy:=kp h.gate (by decide)
 have kq:∀{g:Nat} {t:TypeId} {cs:Array Value},Blk X g t cs→3≠t→t≠150→Blk (Y.setCell ⟨G,9,none⟩ v') g t cs:=fun hk hne hne2=>Blk.far (kp hk hne) (blk_ne (kp hk hne) gy hne2) v'
 have hNw:=h.lo.1
 have hNG:=h.lo.2.1
 refine ⟨kq h.box (by decide) (by decide),Blk.set_ gy 9 v',kq h.lim (by decide) (by decide),by rw [show List.replicate (rn+1) (Value.int .i64 0)=List.replicate rn (.int .i64 0)++[.int .i64 0] from List.replicate_succ'];exact own_set hown gy (by decide) 9 v',own_set (own_other h.ones h.runs (by decide) hg) gy (by decide) 9 v',own_set (own_other h.boxs h.runs (by decide) hg) gy (by decide) 9 v',
  fun m q y hq hy=>kq (h.jo m q y hq hy) (by decide) (by decide),
  fun m q y hq hy=>kq (h.jb m q y hq hy) (by decide) (by decide),
  h.copN fun i h1 h2 h3=>?_,
  h.lo,
  h.d1,
  h.d2,?_,h.len⟩
 ·refine (Below.heap_setCell Y ⟨G,9,none⟩ v' i (by show i≠G;omega)).trans ?_
  exact hg.block i h2 fun e=>absurd (own_base h.runs i e.symm) (by omega)
 ·exact ((h.bel.grown hg h.bel.size fun k hk=>Nat.le_trans hNw (own_base h.runs k hk)).setCell (Nat.le_trans hNw hNG) v')
theorem own_shape{w:World}{B:Nat}{e:TypeId}{n:Nat}{v:Value}{xs:List Value}(h:w.ownsRow B e 1 v n xs):∃a cap,v=.slice a n cap∧(0<n→∃b cs,a=some ⟨b,0,none⟩∧B≤b∧Blk w b e cs∧∀(k:Nat) (u:Value),xs[k]? = some u→cs[k]? = some u):=by
 obtain ⟨h0,h⟩:=h
 rcases h with ⟨rfl,hn⟩|⟨g,cap,cur,rfl,hb,hg,hn,hc,hs,ht⟩
 ·exact ⟨none,0,by rw [hn],fun h1=>absurd h1 (by omega)⟩
 ·refine ⟨_,cap,rfl,fun _=>⟨g,cur,rfl,hb,hg,fun k u hu=>?_⟩⟩
  have hk:k<xs.length:=(List.getElem?_eq_some_iff.1 hu).1
  rw [←ht,List.getElem?_take,if_pos (by omega)] at hu
  simpa using hu
def rlyOf(c:Gl)(lm G:Nat)(ca ra oa ba:Option Addr)(cc rc oc bc:Nat)(os bs:List Nat):RLy:=⟨G,lm,c,ca,cc,ra,rc,oa,oc,ba,bc,fun k=>(os[k]?).getD 0,fun k=>(bs[k]?).getD 0⟩
def RLy.jap(Y:RLy):Prop:=∀b o i p,Y.ja=some ⟨b,o,none⟩→(Y.oa=some ⟨i,p,none⟩∨Y.ba=some ⟨i,p,none⟩)→b≠i
theorem RnI.fin(h:RnI w N c L ca cc lm G rv ov bv rn os bs W)(ho:os.length=L.length)(hb:bs.length=L.length)(hr:rn=L.length)(hcn:c.n=L.length)(hc:CfOk c.g L):∃Y:RLy,Y.g=G∧RAt W Y (g0 c.g L)∧(∀i,Y.sup L.length i→w.heap.size≤i)∧(0<L.length→Y.jap):=by
 have hn:(g0 c.g L).js.length=L.length:=by show (L.map jt0).length=_;rw [List.length_map]
 obtain ⟨ra,rc,rfl,hR⟩:=own_shape h.runs
 obtain ⟨oa,oc,rfl,hO⟩:=own_shape h.ones
 obtain ⟨ba,bc,rfl,hB⟩:=own_shape h.boxs
 have hjob:∀(k:Nat) (j:Jt),(g0 c.g L).js[k]? = some j→∃x,L[k]? = some x∧jt0 x=j:=fun k j hj=>by
  have hj:(L.map jt0)[k]? = some j:=hj
  rw [List.getElem?_map] at hj
  cases hx:L[k]? with
  | none=>rw [hx] at hj;cases hj
  | some x =>
   rw [hx] at hj
   exact ⟨x,rfl,by simpa using hj⟩
 have gO:∀k,k<L.length→∃q,os[k]? = some q:=fun k hk=>⟨_,List.getElem?_eq_getElem (by omega)⟩
 have gB:∀k,k<L.length→∃q,bs[k]? = some q:=fun k hk=>⟨_,List.getElem?_eq_getElem (by omega)⟩
 have hlo:=h.lo
 have hown:∀i,(rlyOf c.g lm G ca ra oa ba cc rc oc bc os bs).own L.length i→N≤i:=fun i hi=>by
  rcases hi with rfl|rfl|⟨h0,o,e⟩|⟨k,hk,hi⟩
  ·exact hlo.2.1
  ·exact hlo.2.2.1
  ·obtain ⟨b,cs,e',h1,-⟩:=hR (by omega)
   have e:ra=some ⟨i,o,none⟩:=e
   rw [e] at e'
   injection e' with e'
   injection e' with e'
   omega
  ·obtain ⟨q,hq⟩:=gO k hk
   obtain ⟨r,hr⟩:=gB k hk
   rcases hi with rfl|rfl
   ·show N≤(os[k]?).getD 0
    rw [hq];exact hlo.2.2.2.1 q (List.mem_of_getElem? hq)
   ·show N≤(bs[k]?).getD 0
    rw [hr];exact hlo.2.2.2.2 r (List.mem_of_getElem? hr)
 refine ⟨rlyOf c.g lm G ca ra oa ba cc rc oc bc os bs,rfl,⟨?_,h.lim,fun h0=>?_,fun h0=>?_,fun h0=>?_,fun h0=>?_,fun b o h0 e hf=>?_,fun k j hj=>?_,fun k hk=>⟨?_,fun i hi hne=>?_⟩,g0_inv hc⟩,fun i hi=>?_,fun h0 b o i p e h1=>?_⟩
 ·have hg:=h.gate
  have e:(rlyOf c.g lm G ca ra oa ba cc rc oc bc os bs).cells (g0 c.g L)=rcellsN c ca cc lm (.slice ra rn rc) (.slice oa os.length oc) (.slice ba bs.length bc):=by
   unfold RLy.cells rlyOf rcellsN
   rw [hn,ho,hb,hr,hcn]
   rfl
  rw [e]
  exact hg
 ·rw [hn] at h0
  obtain ⟨b,cs,e,-,h1,h2⟩:=hR (by omega)
  refine ⟨b,cs,e,h1,fun k j hj=>?_⟩
  obtain ⟨x,hx,rfl⟩:=hjob k j hj
  exact h2 k _ (by rw [List.getElem?_replicate,if_pos (by rw [hr];exact (List.getElem?_eq_some_iff.1 hx).1)];rfl)
 ·rw [hn] at h0
  obtain ⟨b,cs,e,-,h1,h2⟩:=hO (by omega)
  refine ⟨b,cs,e,h1,fun k hk=>?_⟩
  rw [hn] at hk
  obtain ⟨q,hq⟩:=gO k hk
  refine h2 k _ ?_
  show (os.map ptC)[k]? = some (.pointer (some ⟨(os[k]?).getD 0,0,none⟩))
  rw [List.getElem?_map,hq];rfl
 ·rw [hn] at h0
  obtain ⟨b,cs,e,-,h1,h2⟩:=hB (by omega)
  refine ⟨b,cs,e,h1,fun k hk=>?_⟩
  rw [hn] at hk
  obtain ⟨q,hq⟩:=gB k hk
  refine h2 k _ ?_
  show (bs.map ptC)[k]? = some (.pointer (some ⟨(bs[k]?).getD 0,0,none⟩))
  rw [List.getElem?_map,hq];rfl
 ·rw [hn] at h0
  obtain ⟨g,e,-,-,h3⟩:=h.cop h0
  refine ⟨g,e,fun k j hj=>?_⟩
  obtain ⟨x,hx,rfl⟩:=hjob k j hj
  exact h3 k x hx
 ·rw [hn] at h0 hf
  obtain ⟨g,e',-,h2,-⟩:=h.cop h0
  have e:ca=some ⟨b,o,none⟩:=e
  rw [e] at e'
  injection e' with e'
  injection e' with e'
  have:=hown b hf
  omega
 ·obtain ⟨x,hx,rfl⟩:=hjob k j hj
  have hk:=(List.getElem?_eq_some_iff.1 hx).1
  obtain ⟨q,hq⟩:=gO k hk
  obtain ⟨r,hr⟩:=gB k hk
  refine ⟨?_,?_⟩
  ·show RLmAt W ((os[k]?).getD 0) _
   rw [hq];exact h.jo k q x hq hx
  ·show RBoxAt W ((bs[k]?).getD 0) _
   rw [hr];exact h.jb k r x hr hx
 ·rw [hn] at hk
  obtain ⟨q,hq⟩:=gO k hk
  show (os[k]?).getD 0≠lm
  rw [hq];exact (h.d1 k q hq).1
 ·rw [hn] at hk hi
  obtain ⟨q,hq⟩:=gO k hk
  obtain ⟨r,hr⟩:=gB k hk
  obtain ⟨q',hq'⟩:=gO i hi
  obtain ⟨r',hr'⟩:=gB i hi
  refine ⟨?_,?_⟩
  ·show (os[i]?).getD 0≠(os[k]?).getD 0
   rw [hq,hq'];exact (h.d1 k q hq).2 i q' hq' hne
  ·show (bs[i]?).getD 0≠(bs[k]?).getD 0
   rw [hr,hr'];exact h.d2 k r hr i r' hr' hne
 ·rcases hi with hi|⟨h0,o,e⟩|⟨h0,o,e⟩|⟨h0,o,e⟩
  ·exact Nat.le_trans hlo.1 (hown i hi)
  ·obtain ⟨b,cs,e',h1,-⟩:=hO (by omega)
   have e:oa=some ⟨i,o,none⟩:=e
   rw [e] at e'
   injection e' with e'
   injection e' with e'
   omega
  ·obtain ⟨b,cs,e',h1,-⟩:=hB (by omega)
   have e:ba=some ⟨i,o,none⟩:=e
   rw [e] at e'
   injection e' with e'
   injection e' with e'
   omega
  ·obtain ⟨b,e',h1,-,-⟩:=h.cop h0
   have e:ca=some ⟨i,o,none⟩:=e
   rw [e] at e'
   injection e' with e'
   injection e' with e'
   omega
 ·obtain ⟨g,e',-,h2,-⟩:=h.cop h0
  have e:ca=some ⟨b,o,none⟩:=e
  rw [e] at e'
  injection e' with e'
  injection e' with e'
  rcases h1 with h1|h1
  ·obtain ⟨q,cs,e2,h3,-⟩:=hO (by omega)
   have h1:oa=some ⟨i,p,none⟩:=h1
   rw [h1] at e2
   injection e2 with e2
   injection e2 with e2
   omega
  ·obtain ⟨q,cs,e2,h3,-⟩:=hB (by omega)
   have h1:ba=some ⟨i,p,none⟩:=h1
   rw [h1] at e2
   injection e2 with e2
   injection e2 with e2
   omega
end
open Go.Lib (hid)
set_option maxRecDepth 16000
set_option maxHeartbeats 40000000
theorem info_pl:(Tryz.prog.info? 146).map (fun i=>(i.zero,i.size,i.bytes))=some (some (.pointer none),1,8):=by kernel_rfl
theorem info_pb:(Tryz.prog.info? 153).map (fun i=>(i.zero,i.size,i.bytes))=some (some (.pointer none),1,8):=by kernel_rfl
theorem info_pi:(Tryz.prog.info? 3).map (fun i=>(i.zero,i.size,i.bytes))=some (some (.int .i64 0),1,8):=by kernel_rfl
theorem one_news{W:World}{b:Nat}{t:TypeId}{p:Value}(h:Blk W b t #[p]):∀(j:Nat) (u:Value),[p][j]? = some u→W.cell? ((⟨b,0,none⟩:Addr).add j)=some u:=fun j u hj=>by
 match j,hj with
 | 0,hj=>simp at hj;subst hj;exact h.cell 0
 | j+1,hj=>simp at hj
theorem brk_load{w:World}{b o:Nat}{f op p:Int}(h0:w.cell? ⟨b,o,none⟩=some (.int .i64 f))(h1:w.cell? ⟨b,o+1,none⟩=some (.int .i64 op))(h2:w.cell? ⟨b,o+2,none⟩=some (.int .i64 p)):(loadVar 51 ⟨b,o,none⟩).run Tryz.prog w=.ok (.agg #[.int .i64 f,.int .i64 op,.int .i64 p]) w :=
 run_loadVar_mid (P:=Tryz.prog) w b o 51 [.int .i64 f,.int .i64 op,.int .i64 p] (.struct (Tryz.prog.fieldsOf 51)) (fun i v hv=>by
  match i,hv with
  | 0,hv=>simp at hv;subst hv;exact h0
  | 1,hv=>simp at hv;subst hv;exact h1
  | 2,hv=>simp at hv;subst hv;exact h2
  | i+3,hv=>simp at hv) (by kernel_rfl) (by kernel_rfl) (by kernel_rfl)
section
variable{w:World}{N:Nat}{c:Cf}{L:JL}{ca:Option Addr}{cc lm G:Nat}{rv ov bv:Value}{rn:Nat}{os bs:List Nat}{X Y:World}
theorem RnI.gateO(h:RnI w N c L ca cc lm G rv ov bv rn os bs X)(hg:X.grownBy Y ov.ownBlock):Blk Y G 150 (rcellsN c ca cc lm rv ov bv):=(hg.block _ h.gate.lt (own_blk_ne h.ones h.gate (by decide))).trans h.gate
theorem RnI.gateB(h:RnI w N c L ca cc lm G rv ov bv rn os bs X)(hg:X.grownBy Y bv.ownBlock):Blk Y G 150 (rcellsN c ca cc lm rv ov bv):=(hg.block _ h.gate.lt (own_blk_ne h.boxs h.gate (by decide))).trans h.gate
theorem RnI.gateR(h:RnI w N c L ca cc lm G rv ov bv rn os bs X)(hg:X.grownBy Y rv.ownBlock):Blk Y G 150 (rcellsN c ca cc lm rv ov bv):=(hg.block _ h.gate.lt (own_blk_ne h.runs h.gate (by decide))).trans h.gate
end
theorem rgnew_no(c:Cf)(L:JL)(w:World)(hA:CArg w c L)(hE:cfE c.g L≠0):Calls Tryz.prog 24 #[.agg (cfV c)] w fun e w'=>e=.returned (.tuple #[.pointer none,.int .i64 (cfE c.g L)])∧Below w.heap.size w w':=by
 have hB:=(Below.refl _ w).alloc (Nat.le_refl _) (.cells (cfV c) 31)
 have C0:=hid (rcchk_ok c L _ (hA.below hB))
 have HB:=hid hB
 generalize cfE c.g L=E at *
 rw [cfV_eq] at HB C0 ⊢
 have q1:(E==0)=false:=by rw [beq_eq_false_iff_ne];exact hE
 have q2:(E != 0)=true:=by rw [bne,q1];rfl
 clear hA hB hE
 obtain ⟨cg,ca,cn,cc⟩:=c
 simp only at *
 go_enter Tryz.func24,Tryz.ntmps24
 go_wp2_with fail
 refine (C0.out).mono ?_
 rintro e_ w2 ⟨rfl,hb⟩
 have HB2:=hid hb
 clear hb
 go_wp2_with fail
 go_ret2
 exact ⟨rfl,HB.out.trans (HB2.out.mono (by simp))⟩
theorem rgnew_yes(c:Cf)(L:JL)(w:World)(hA:CArg w c L)(hC:CfOk c.g L):Calls Tryz.prog 24 #[.agg (cfV c)] w fun e w'=>∃Y:RLy,e=.returned (.tuple #[.pointer (some ⟨Y.g,0,none⟩),.int .i64 0])∧RAt w' Y (g0 c.g L)∧(∀i,Y.sup L.length i→w.heap.size≤i)∧Below w.heap.size w w'∧(0<L.length→Y.jap):=by
 have hE:cfE c.g L=0:=cfE_zero.2 hC
 have hB:=(Below.refl _ w).alloc (Nat.le_refl _) (.cells (cfV c) 31)
 have C0:=rcchk_ok c L _ (hA.below hB)
 rw [hE] at C0
 have CC:=hid C0
 have HC:=hid hC
 have HA:=hid (fun W (hb:Below w.heap.size w W)=>hA.below hb)
 have hg:=glB_parts hC.gl
 have LN:=hid (fun W=>rlnew_ok hg.2 W)
 have CP:=hid (fun W (hb:Below w.heap.size w W)=>rccopy_ok c L W ⟨(hA.below hb).in_.n,(hA.below hb).in_.at_,(hA.below hb).p9⟩ hA.n9)
 have HN:=hid hA.in_.n
 have H9:=hid hA.n9
 have HX:=hid (Blk.new w 31 (cfV c))
 have HB:=hid hB
 have hcv:=cfV_eq c
 rw [hcv] at CC HX HB CP ⊢
 have HCV:=hid hcv
 clear hA hB hC hE C0 hg hcv
 go_enter Tryz.func24,Tryz.ntmps24
 go_wp2_with fail
 refine (CC.out).mono ?_
 rintro e_ w2 ⟨rfl,hb⟩
 have X2:Hid (Blk w2 w.heap.size 31 (cfV c)):=hid (by rw [HCV.out];exact Blk.below HX.out hb HX.out.lt)
 have B2:=hid (HB.out.trans (hb.mono (by simp)))
 have CQ:=hid (CP.out w2 B2.out)
 clear hb CC HX HB CP
 have k0:w2.cell? ⟨w.heap.size,0,none⟩=some (.int .i64 c.g.cap):=X2.out.cell 0
 have k1:w2.cell? ⟨w.heap.size,1,none⟩=some (.int .i64 c.g.q):=X2.out.cell 1
 have k2:w2.cell? ⟨w.heap.size,2,none⟩=some (.int .i64 c.g.ar):=X2.out.cell 2
 have k3:w2.cell? ⟨w.heap.size,3,none⟩=some (.int .i64 c.g.ag):=X2.out.cell 3
 have k4:w2.cell? ⟨w.heap.size,4,none⟩=some (.int .u64 c.g.sd):=X2.out.cell 4
 have k5:w2.cell? ⟨w.heap.size,5,none⟩=some (.int .i64 c.g.t):=X2.out.cell 5
 have k6:w2.cell? ⟨w.heap.size,6,none⟩=some (.int .i64 c.g.tau):=X2.out.cell 6
 have k7:w2.cell? ⟨w.heap.size,7,none⟩=some (.slice c.a c.n c.c):=X2.out.cell 7
 go_wp2_with fail
 refine (CQ.out).mono ?_
 rintro e_ w3 ⟨ca,cc,L',rfl,hcp,hb⟩
 have X3:=hid (X2.out.below hb X2.out.lt)
 have B3:=hid (B2.out.trans (hb.mono B2.out.size))
 have P3:Hid (0<L.length→∃g,ca=some ⟨g,0,none⟩∧w.heap.size≤g∧g<w3.heap.size∧∀(k:Nat) (x:Jb × List (Int × Int)),L[k]? = some x→w3.cell? ⟨g,k*30+15,none⟩=some (.int .i64 x.1.y.cap)):=hid (fun h0=>by
  obtain ⟨g,e,h1,h2,h3⟩:=hcp.at_ h0
  refine ⟨g,e,Nat.le_trans B2.out.size h1,h2.lt (by rw [hcp.len];exact h0),fun k x hx=>?_⟩
  obtain ⟨a',c',h4,-⟩:=h3 k x.1 x.2 hx
  obtain ⟨hk,h5⟩:=List.getElem?_eq_some_iff.1 h4
  have:=(h2 k hk 15 (by decide)).1
  rw [h5] at this
  exact this)
 clear hcp hb CQ X2 B2 k0 k1 k2 k3 k4 k5 k6 k7
 have hcv:=cfV_eq ⟨c.g,ca,c.n,cc⟩
 rw [hcv]
 clear hcv
 go_upto_region 5 with fail
 obtain ⟨W4,hW4⟩:∃W4,W4=w3.alloc (.cells #[.bool true,.int .i64 c.g.cap,.int .i64 c.g.q,.int .i64 c.g.ar,.int .i64 c.g.ag,.int .u64 c.g.sd,.int .i64 c.g.t,.int .i64 c.g.tau,.slice ca c.n cc,.slice none 0 0,.pointer none,.slice none 0 0,.slice none 0 0,.int .i64 0] 150):=⟨_,rfl⟩
 have hb4:Below w3.heap.size w3 W4:=by rw [hW4];exact (Below.refl _ _).alloc (Nat.le_refl _) _
 have G4:=hid (show Blk W4 w3.heap.size 150 #[.bool true,.int .i64 c.g.cap,.int .i64 c.g.q,.int .i64 c.g.ar,.int .i64 c.g.ag,.int .u64 c.g.sd,.int .i64 c.g.t,.int .i64 c.g.tau,.slice ca c.n cc,.slice none 0 0,.pointer none,.slice none 0 0,.slice none 0 0,.int .i64 0] by rw [hW4];exact Blk.new _ _ _)
 have X4:=hid (X3.out.below hb4 X3.out.lt)
 have B4:=hid (B3.out.trans (hb4.mono B3.out.size))
 have HB34:=hid hb4
 have hNw:w.heap.size≤w3.heap.size:=B3.out.size
 rw [←hW4]
 generalize w3.heap.size=N at *
 clear hW4 hb4 X3 B3
 have k5:W4.cell? ⟨w.heap.size,5,none⟩=some (.int .i64 c.g.t):=X4.out.cell 5
 have k6:W4.cell? ⟨w.heap.size,6,none⟩=some (.int .i64 c.g.tau):=X4.out.cell 6
 go_wp2_with fail
 refine (LN.out _).mono ?_
 rintro e_ w5 ⟨lm,rfl,hlm,hb5,hl1,hl2⟩
 have G5:=hid (G4.out.below hb5 G4.out.lt)
 have X5:=hid (X4.out.below hb5 X4.out.lt)
 have B5:=hid (B4.out.trans (hb5.mono B4.out.size))
 have L5:=hid hlm
 have hNlm:N≤lm:=by have:=G4.out.lt;omega
 have HB35:Hid (Below N w3 w5):=hid (HB34.out.trans (hb5.mono (Nat.le_of_lt G4.out.lt)))
 clear hlm hb5 hl1 k5 k6 G4 X4 B4 LN HB34
 have p10:w5.cell? ⟨N,10,none⟩=some (.pointer none):=G5.out.cell 10
 have f10:w5.frozen? ⟨N,10,none⟩=false:=G5.out.frozen 10
 go_upto_region 6 with fail
 obtain ⟨W6,hW6⟩:∃W6,W6=w5.setCell ⟨N,10,none⟩ (.pointer (some ⟨lm,0,none⟩)):=⟨_,rfl⟩
 have I6:Hid (RnI w N c L ca cc lm N (.slice none 0 0) (.slice none 0 0) (.slice none 0 0) 0 [] [] W6):=hid (by
  rw [hW6]
  refine ⟨X5.out.far (blk_ne X5.out G5.out (by decide)) _,G5.out.set_ 10 _,Blk.far L5.out (blk_ne L5.out G5.out (by decide)) _,⟨rfl,.inl ⟨rfl,rfl⟩⟩,⟨rfl,.inl ⟨rfl,rfl⟩⟩,⟨rfl,.inl ⟨rfl,rfl⟩⟩,fun k q x hk=>by simp at hk,fun k q x hk=>by simp at hk,fun h0=>?_,⟨hNw,Nat.le_refl _,hNlm,fun q hq=>by simp at hq,fun q hq=>by simp at hq⟩,fun k q hk=>by simp at hk,fun k q hk=>by simp at hk,B5.out.setCell hNw _,Nat.zero_le _,Nat.zero_le _⟩
  obtain ⟨g,e,h1,h2,h3⟩:=P3.out h0
  refine ⟨g,e,h1,h2,fun k x hx=>?_⟩
  refine (cell_heap ?_).trans (h3 k x hx)
  exact (Below.heap_setCell w5 ⟨N,10,none⟩ _ g (by show g≠N;omega)).trans (HB35.out.block g h2))
 rw [←hW6]
 have k7:W6.cell? ⟨w.heap.size,7,none⟩=some (.slice c.a c.n c.c):=I6.out.box.cell 7
 clear hW6 G5 X5 B5 L5 P3 HB35 p10 f10 hl2
 obtain ⟨G,hG⟩:∃G,G=N:=⟨_,rfl⟩
 rw [show RnI w N c L ca cc lm N=RnI w N c L ca cc lm G by rw [hG]] at I6
 rw [←hG]
 clear hNlm hNw hG
 go_wp2_with fail
 go_loopw [6] (fun s6 wr=>∃k:Nat,k≤c.n∧s6=.int .i64 k∧∃(rv ov bv:Value) (os bs:List Nat),os.length=k∧bs.length=k∧RnI w N c L ca cc lm G rv ov bv k os bs wr) (fun s6 _=>c.n - intA s6)
 case atStart=>exact ⟨0,Nat.zero_le _,rfl,_,_,_,[],[],rfl,rfl,I6.out⟩
 case round =>
  obtain ⟨k,hk,rfl,rv,ov,bv,os,bs,hos,hbs_,hI⟩:=hrel
  have HI:=hid hI
  have HOB:=hid (And.intro hos hbs_)
  clear hI I6 k7 hos hbs_
  rcases Nat.lt_or_ge k c.n with hlt|hge
  ·obtain ⟨⟨j,l⟩,hjl⟩:∃x,L[k]? = some x:=⟨_,List.getElem?_eq_getElem (by have:=HN.out;omega)⟩
   have hav:=HA.out wr HI.out.bel
   obtain ⟨b,off,hca,hcl,-⟩:=hav.in_.at_ k (List.getElem?_eq_some_iff.1 hjl).1
   rw [(List.getElem?_eq_some_iff.1 hjl).2] at hcl
   have HJL:=hid hjl
   have HCL:Hid (∀W,Below wr.heap.size wr W→∀i,i<30→W.cell? ⟨b,off+k*30+i,none⟩=(jbV j)[i]?):=hid (fun W hb i hi=>by
    have h1:=hcl i hi
    have hlt2:b<wr.heap.size:=World.block_lt_of_cell? wr _ ((hcl 0 (by decide)).trans (show (jbV j)[0]? = some (.string j.nm) from rfl))
    rw [hb.cell (p:=⟨b,off+k*30+i,none⟩) hlt2]
    exact h1)
   have hok:=okJ_parts (by have:=HC.out.all k (List.getElem?_eq_some_iff.1 hjl).1;rwa [(List.getElem?_eq_some_iff.1 hjl).2] at this)
   have HOK:=hid hok
   have k7:wr.cell? ⟨w.heap.size,7,none⟩=some (.slice (some ⟨b,off,none⟩) c.n c.c):=by rw [←hca];exact HI.out.box.cell 7
   have hn9:c.n≤200:=H9.out
   have hml:os.length+1≤maxLen:=by have:=HOB.out.1;unfold maxLen;omega
   have hmb:(os.length+1)*8≤140737488355328:=by have:=HOB.out.1;omega
   have hml2:bs.length+1≤maxLen:=by have:=HOB.out.2;unfold maxLen;omega
   have hmb2:(bs.length+1)*8≤140737488355328:=by have:=HOB.out.2;omega
   have hml3:k+1≤maxLen:=by unfold maxLen;omega
   have hmb3:(k+1)*8≤140737488355328:=by omega
   have LL:=hid (limit_load (HCL.out wr (Below.refl _ _) 21 (by decide)) (HCL.out wr (Below.refl _ _) 22 (by decide)))
   clear hcl hav hjl hca hok
   go_wp2_with (first|(refine wpList_load_by rfl 26 _ rfl b _ (.agg #[.int .i64 j.y.t,.int .i64 j.y.tau]) rfl LL.out ?_))
   refine (rlnew_ok HOK.out.2.1 wr).mono ?_
   rintro e_ w2 ⟨li,rfl,hlm,hb2,hl1,hl2⟩
   have I2:=hid (HI.out.next hb2)
   have B2:=hid hb2
   have L2:=hid hlm
   have HLI:Hid (lm<li∧(∀q∈os,q<li)∧N≤li):=hid (by
    refine ⟨Nat.lt_of_lt_of_le (Blk.lt HI.out.lim) hl1,fun q hq=>?_,?_⟩
    ·obtain ⟨m,hm,e⟩:=List.getElem_of_mem hq
     have hmL:m<L.length:=Nat.lt_of_lt_of_le hm HI.out.len.1
     have:=Blk.lt (HI.out.jo m q _ (by rw [List.getElem?_eq_getElem hm,e]) (List.getElem?_eq_getElem hmL))
     omega
    ·have h1:=HI.out.gate.lt
     have h2:=HI.out.lo.2.1
     omega)
   have BL:=hid (brk_load (HCL.out w2 hb2 23 (by decide)) (HCL.out w2 hb2 24 (by decide)) (HCL.out w2 hb2 25 (by decide)))
   have k7:w2.cell? ⟨w.heap.size,7,none⟩=some (.slice (some ⟨b,off,none⟩) c.n c.c):=by
    rw [B2.out.cell (p:=⟨w.heap.size,7,none⟩) HI.out.box.lt];exact k7
   clear hlm hb2 hl1 hl2 LL
   go_wp2_with (first|(refine wpList_load_by rfl 51 _ rfl b _ (.agg #[.int .i64 j.y.f,.int .i64 j.y.o,.int .i64 j.y.r]) rfl BL.out ?_))
   refine (BK.rnew_ok j.y.f j.y.o j.y.r w2 HOK.out.2.2).mono ?_
   rintro e_ w4 ⟨bo,rfl,hbx,hb4,hl1⟩
   have I4:=hid (I2.out.next hb4)
   have L4:=hid (show RLmAt w4 li (lm0 j.y.t j.y.tau) from Blk.below L2.out hb4 (Blk.lt L2.out))
   have X4:=hid hbx
   have HBO:Hid ((∀q∈bs,q<bo)∧N≤bo):=hid (by
    refine ⟨fun q hq=>?_,?_⟩
    ·obtain ⟨m,hm,e⟩:=List.getElem_of_mem hq
     have hmL:m<L.length:=Nat.lt_of_lt_of_le hm I2.out.len.2
     have:=Blk.lt (I2.out.jb m q _ (by rw [List.getElem?_eq_getElem hm,e]) (List.getElem?_eq_getElem hmL))
     omega
    ·have h1:=I2.out.gate.lt
     have h2:=I2.out.lo.2.1
     omega)
   clear hbx hb4 hl1 BL I2 B2 L2 k7 HCL
   have gateOc:w4.cell? ⟨G,11,none⟩=some ov:=I4.out.gate.cell 11
   have hX:Below w4.heap.size w4 (w4.alloc (.cells #[.pointer (some ⟨li,0,none⟩)] 146)):=(Below.refl _ _).alloc (Nat.le_refl _) _
   have IX:=hid (I4.out.next hX)
   have HNW:=hid (one_news (Blk.new w4 146 #[.pointer (some ⟨li,0,none⟩)]))
   have hbs:N≤(w4.alloc (.cells #[.pointer (some ⟨li,0,none⟩)] 146)).heap.size:=by have h1:=I4.out.gate.lt;have h2:=I4.out.lo.2.1;simp;omega
   obtain ⟨i0,hi0,hz0,hz1,hz2⟩:=info_parts info_pl
   clear hX
   go_upto_region 12 with (first|(at_builtin;refine wpList_append_lies _ rfl _ _ 147 rfl N 146 i0 (.pointer none) 1 8 Tryz.underlying147 hi0 hz0 hz1 hz2 rfl (by decide) ov _ _ rfl IX.out.ones ⟨w4.heap.size,0,none⟩ 1 1 [.pointer (some ⟨li,0,none⟩)] rfl rfl HNW.out (by simp [Value.oneCell']) (by decide) hml hmb hbs _ rfl ?_;intro g8 cap8 w8 hown8 hgrow8 _ _;have c8:w8.cell? ⟨G,11,none⟩=some ov:=(IX.out.gateO hgrow8).cell 11;have f8:w8.frozen? ⟨G,11,none⟩=false:=(IX.out.gateO hgrow8).frozen 11;have PP:=hid (IX.out.pushO (x:=(j,l)) (by rw [HOB.out.1];exact HJL.out) (Blk.below L4.out ((Below.refl _ _).alloc (Nat.le_refl _) _) (Blk.lt L4.out)) HLI.out.1 HLI.out.2.1 HLI.out.2.2 hown8 hgrow8);have hgr:=hgrow8;clear hown8 hgrow8))
   obtain ⟨W5,hW5⟩:∃W5,W5=w8.setCell ⟨G,11,none⟩ (.slice (some ⟨g8,0,none⟩) (os.length+1) cap8):=⟨_,rfl⟩
   have B5:Hid (Blk W5 bo 199 (BK.fresh j.y.f j.y.o j.y.r).rcells):=hid (by
    have h1:Blk w8 bo 199 (BK.fresh j.y.f j.y.o j.y.r).rcells:=(hgr.block _ (Nat.lt_trans (Blk.lt X4.out) (by simp)) (own_blk_ne IX.out.ones (X4.out.alloc _) (by decide))).trans (X4.out.alloc _)
    rw [hW5]
    exact Blk.far h1 (blk_ne h1 (IX.out.gateO hgr) (by decide)) _)
   have I5:=PP
   rw [←hW5] at I5 ⊢
   clear hW5 c8 f8 gateOc IX HNW hbs PP I4 L4 X4 hgr
   have gateBc:W5.cell? ⟨G,12,none⟩=some bv:=I5.out.gate.cell 12
   have hX:Below W5.heap.size W5 (W5.alloc (.cells #[.pointer (some ⟨bo,0,none⟩)] 153)):=(Below.refl _ _).alloc (Nat.le_refl _) _
   have IX:=hid (I5.out.next hX)
   have HNW:=hid (one_news (Blk.new W5 153 #[.pointer (some ⟨bo,0,none⟩)]))
   have hbs:N≤(W5.alloc (.cells #[.pointer (some ⟨bo,0,none⟩)] 153)).heap.size:=by have h1:=I5.out.gate.lt;have h2:=I5.out.lo.2.1;simp;omega
   obtain ⟨i0,hi0,hz0,hz1,hz2⟩:=info_parts info_pb
   clear hX
   go_upto_region 13 with (first|(at_builtin;refine wpList_append_lies _ rfl _ _ 148 rfl N 153 i0 (.pointer none) 1 8 Tryz.underlying148 hi0 hz0 hz1 hz2 rfl (by decide) bv _ _ rfl IX.out.boxs ⟨W5.heap.size,0,none⟩ 1 1 [.pointer (some ⟨bo,0,none⟩)] rfl rfl HNW.out (by simp [Value.oneCell']) (by decide) hml2 hmb2 hbs _ rfl ?_;intro g8 cap8 w8 hown8 hgrow8 _ _;have c8:w8.cell? ⟨G,12,none⟩=some bv:=(IX.out.gateB hgrow8).cell 12;have f8:w8.frozen? ⟨G,12,none⟩=false:=(IX.out.gateB hgrow8).frozen 12;have PP:=hid (IX.out.pushB (x:=(j,l)) (by rw [HOB.out.2];exact HJL.out) (Blk.below B5.out ((Below.refl _ _).alloc (Nat.le_refl _) _) B5.out.lt) HBO.out.1 HBO.out.2 hown8 hgrow8);have hgr:=hgrow8;clear hown8 hgrow8))
   obtain ⟨W6,hW6⟩:∃W6,W6=w8.setCell ⟨G,12,none⟩ (.slice (some ⟨g8,0,none⟩) (bs.length+1) cap8):=⟨_,rfl⟩
   have I6:=PP
   rw [←hW6] at I6 ⊢
   clear hW6 c8 f8 gateBc IX HNW hbs PP I5 B5 hgr
   have gateRc:W6.cell? ⟨G,9,none⟩=some rv:=I6.out.gate.cell 9
   have hX:Below W6.heap.size W6 (W6.alloc (.cells #[.int .i64 0] 3)):=(Below.refl _ _).alloc (Nat.le_refl _) _
   have IX:=hid (I6.out.next hX)
   have HNW:=hid (one_news (Blk.new W6 3 #[.int .i64 0]))
   have hbs:N≤(W6.alloc (.cells #[.int .i64 0] 3)).heap.size:=by have h1:=I6.out.gate.lt;have h2:=I6.out.lo.2.1;simp;omega
   obtain ⟨i0,hi0,hz0,hz1,hz2⟩:=info_parts info_pi
   clear hX
   go_upto_region 8 with (first|(at_builtin;refine wpList_append_lies _ rfl _ _ 39 rfl N 3 i0 (.int .i64 0) 1 8 Tryz.underlying39 hi0 hz0 hz1 hz2 rfl (by decide) rv _ _ rfl IX.out.runs ⟨W6.heap.size,0,none⟩ 1 1 [.int .i64 0] rfl rfl HNW.out (by simp [Value.oneCell']) (by decide) hml3 hmb3 hbs _ rfl ?_;intro g8 cap8 w8 hown8 hgrow8 _ _;have c8:w8.cell? ⟨G,9,none⟩=some rv:=(IX.out.gateR hgrow8).cell 9;have f8:w8.frozen? ⟨G,9,none⟩=false:=(IX.out.gateR hgrow8).frozen 9;have PP:=hid (IX.out.pushR  hown8 hgrow8);have hgr:=hgrow8;clear hown8 hgrow8))
   have I7:=PP
   clear c8 f8 gateRc IX HNW hbs PP I6 hgr
   go_wp2_with fail
   refine ⟨⟨k+1,by omega,by go_num,_,_,_,_,_,by rw [List.length_append,HOB.out.1];rfl,by rw [List.length_append,HOB.out.2];rfl,I7.out⟩,?_⟩
   simp [intA];omega
  ·obtain rfl:c.n=k:=by omega
   have k7:wr.cell? ⟨w.heap.size,7,none⟩=some (.slice c.a c.n c.c):=HI.out.box.cell 7
   go_wp2_with fail
   go_ret2
   obtain ⟨Y,hY,hat,hsup,hjap⟩:=HI.out.fin (HOB.out.1.trans HN.out.symm) (HOB.out.2.trans HN.out.symm) HN.out.symm HN.out.symm HC.out
   exact ⟨Y,by rw [hY];rfl,hat,hsup,HI.out.bel,hjap⟩
theorem rgtat_ok{w:World}{b:Nat}{x:Lm}(h:RLmAt w b x):Calls Tryz.prog 88 #[.pointer (some ⟨b,0,none⟩)] w fun e w'=>e=.returned (.int .i64 x.arr)∧w=w':=by
 have T:=hid (rtat_ok h)
 have HA:Hid (x.arr=if x.so=true then x.tat else -1):=hid rfl
 generalize x.arr=R at *
 generalize x.so=so at *
 cases so
 all_goals
  clear h
  go_enter Tryz.func88,Tryz.ntmps88
  go_wp2_with fail
  refine (T.out).mono ?_
  rintro e w' ⟨rfl,rfl⟩
  go_wp2_with fail
  go_ret
  exact ⟨by rw [HA.out];rfl,rfl⟩
theorem info_cint:(Tryz.prog.info? 3).map (fun i=>(i.zero,i.size,i.bytes))=some (some (.int .i64 0),1,8):=by kernel_rfl
theorem clone_int(l:List Int)(a:Option Addr)(n c:Nat)(hn:l.length=n)(hn2:n≤200)(w:World)(h:Row1 w a l):Calls Tryz.prog 33 #[.slice a n c] w fun e w'=>∃v,e=.returned v∧w'.ownsRow w.heap.size 3 1 v n (l.map tcell)∧Below w.heap.size w w':=by
 obtain ⟨i0,hi0,hz0,hz1,hz2⟩:=info_parts info_cint
 have q22:∀(w:World) (a:Option Addr) (n c n' c':Nat),(binOp .eql 39 (.slice a n c) (.slice none n' c')).run Tryz.prog w=.ok (.bool a.isNone) w:=fun w a n c n' c'=>Lib.run_eql_slice_nil w _ _ a n c n' c' Tryz.underlying39
 have HMM:Hid ((l.map tcell).length=n):=hid (by rw [List.length_map,hn])
 cases a with
 | none =>
  obtain rfl:l=[]:=by
   cases l with
   | nil=>rfl
   | cons x l=>obtain ⟨b,off,e,_⟩:=h 0 (by simp);cases e
  obtain rfl:n=0:=by simpa using hn.symm
  have HE:Hid (w.ownsRow w.heap.size 3 1 (.slice none 0 0) 0 []):=hid (World.ownsRow_nil _ _ _ _)
  clear h hn HMM
  go_enter Tryz.func33,Tryz.ntmps33
  go_wp2_with fail
  go_ret
  exact ⟨_,rfl,HE.out,Below.refl _ _⟩
 | some ad =>
  have HN:=hid hn
  have HSP:Hid (∀(j:Nat) (u:Value),(l.map tcell)[j]? = some u→w.cell? (ad.add j)=some u):=hid (fun j u hj=>by
   have hjl:j<l.length:=by have:=(List.getElem?_eq_some_iff.1 hj).1;rwa [List.length_map] at this
   obtain ⟨b,off,e,h1⟩:=h j hjl
   injection e with e
   subst e
   rw [Addr.add_lit,h1]
   rw [List.getElem?_map,List.getElem?_eq_getElem hjl] at hj
   exact hj)
  clear h hn
  have k1:n≤maxLen:=by unfold maxLen;omega
  have k2:n*8≤140737488355328:=by omega
  go_enter Tryz.func33,Tryz.ntmps33
  go_wp2_with (at_builtin;refine wpList_append_own _ rfl _ _ 39 rfl w.heap.size 3 i0 (.int .i64 0) 1 8 Tryz.underlying39 hi0 hz0 hz1 hz2 rfl (by decide) _ _ _ rfl (World.ownsRow_made w #[] 0 (Nat.le_refl _) (Nat.zero_le _) rfl) ad n c (l.map tcell) rfl ?qc1 ?qc2 ?qc3 ?qc4 ?qc5 ?qc6 ?_)
  case qc1=>rw [HMM.out,Nat.mul_one]
  case qc2 =>
   intro j u hj
   have h1:=HSP.out j u hj
   obtain ⟨b,off,sub⟩:=ad
   exact (Below.cell ((Below.refl _ w).alloc (Nat.le_refl _) _) (World.block_lt_of_cell? w _ h1)).trans h1
  case qc3=>simp [tcell,Value.oneCell']
  case qc4=>simpa using k1
  case qc5=>simpa using k2
  case qc6=>simp
  intro v' w1 hown hgrow hnil
  have HO:Hid (w1.ownsRow w.heap.size 3 1 v' n (l.map tcell)):=hid (by simpa using hown)
  have HB:Hid (Below w.heap.size w w1):=hid (((Below.refl _ w).alloc (Nat.le_refl _) _).grown hgrow (by simp) (by intro k hk;simp [Value.ownBlock] at hk;omega))
  clear hown hgrow hnil
  go_wp2_with fail
  go_ret
  exact ⟨v',rfl,HO.out,HB.out⟩
theorem info_cint64:(Tryz.prog.info? 2).map (fun i=>(i.zero,i.size,i.bytes))=some (some (.int .i64 0),1,8):=by kernel_rfl
theorem clone_int64(l:List Int)(a:Option Addr)(n c:Nat)(hn:l.length=n)(hn2:n≤200)(w:World)(h:Row1 w a l):Calls Tryz.prog 34 #[.slice a n c] w fun e w'=>∃v,e=.returned v∧w'.ownsRow w.heap.size 2 1 v n (l.map tcell)∧Below w.heap.size w w':=by
 obtain ⟨i0,hi0,hz0,hz1,hz2⟩:=info_parts info_cint64
 have q22:∀(w:World) (a:Option Addr) (n c n' c':Nat),(binOp .eql 40 (.slice a n c) (.slice none n' c')).run Tryz.prog w=.ok (.bool a.isNone) w:=fun w a n c n' c'=>Lib.run_eql_slice_nil w _ _ a n c n' c' Tryz.underlying40
 have HMM:Hid ((l.map tcell).length=n):=hid (by rw [List.length_map,hn])
 cases a with
 | none =>
  obtain rfl:l=[]:=by
   cases l with
   | nil=>rfl
   | cons x l=>obtain ⟨b,off,e,_⟩:=h 0 (by simp);cases e
  obtain rfl:n=0:=by simpa using hn.symm
  have HE:Hid (w.ownsRow w.heap.size 2 1 (.slice none 0 0) 0 []):=hid (World.ownsRow_nil _ _ _ _)
  clear h hn HMM
  go_enter Tryz.func34,Tryz.ntmps34
  go_wp2_with fail
  go_ret
  exact ⟨_,rfl,HE.out,Below.refl _ _⟩
 | some ad =>
  have HN:=hid hn
  have HSP:Hid (∀(j:Nat) (u:Value),(l.map tcell)[j]? = some u→w.cell? (ad.add j)=some u):=hid (fun j u hj=>by
   have hjl:j<l.length:=by have:=(List.getElem?_eq_some_iff.1 hj).1;rwa [List.length_map] at this
   obtain ⟨b,off,e,h1⟩:=h j hjl
   injection e with e
   subst e
   rw [Addr.add_lit,h1]
   rw [List.getElem?_map,List.getElem?_eq_getElem hjl] at hj
   exact hj)
  clear h hn
  have k1:n≤maxLen:=by unfold maxLen;omega
  have k2:n*8≤140737488355328:=by omega
  go_enter Tryz.func34,Tryz.ntmps34
  go_wp2_with (at_builtin;refine wpList_append_own _ rfl _ _ 40 rfl w.heap.size 2 i0 (.int .i64 0) 1 8 Tryz.underlying40 hi0 hz0 hz1 hz2 rfl (by decide) _ _ _ rfl (World.ownsRow_made w #[] 0 (Nat.le_refl _) (Nat.zero_le _) rfl) ad n c (l.map tcell) rfl ?qc1 ?qc2 ?qc3 ?qc4 ?qc5 ?qc6 ?_)
  case qc1=>rw [HMM.out,Nat.mul_one]
  case qc2 =>
   intro j u hj
   have h1:=HSP.out j u hj
   obtain ⟨b,off,sub⟩:=ad
   exact (Below.cell ((Below.refl _ w).alloc (Nat.le_refl _) _) (World.block_lt_of_cell? w _ h1)).trans h1
  case qc3=>simp [tcell,Value.oneCell']
  case qc4=>simpa using k1
  case qc5=>simpa using k2
  case qc6=>simp
  intro v' w1 hown hgrow hnil
  have HO:Hid (w1.ownsRow w.heap.size 2 1 v' n (l.map tcell)):=hid (by simpa using hown)
  have HB:Hid (Below w.heap.size w w1):=hid (((Below.refl _ w).alloc (Nat.le_refl _) _).grown hgrow (by simp) (by intro k hk;simp [Value.ownBlock] at hk;omega))
  clear hown hgrow hnil
  go_wp2_with fail
  go_ret
  exact ⟨v',rfl,HO.out,HB.out⟩
end Go.Proofs.YtpgckpafjiojfaaGreatDoor.AD
