/- Contract of admit.New. -/
import Derived.Test.YtpgckpafjiojfaaGreatDoorAGk
namespace Go.Proofs.YtpgckpafjiojfaaGreatDoor.AD
open Go Go.RowKit BW
open BK (Bx BoxAt Blk only_refl only_drew only_drewN only_setCell only_trans only_of_below only_alloc below_drewN)
def jt0(x:Jb × List (Int × Int)):Jt:=⟨x.1.y.cap,0,lm0 x.1.y.t x.1.y.tau,BK.fresh x.1.y.f x.1.y.o x.1.y.r⟩
def g0(g:Gl)(L:JL):Gt:=⟨g.cap,lm0 g.t g.tau,L.map jt0,0⟩
theorem sumR_zero(L:JL):sumR (L.map jt0)=0:=by
 induction L with
 | nil=>rfl
 | cons a r ih=>simp only [List.map_cons,sumR,ih];rfl
theorem g0_cp(g:Gl)(L:JL):(g0 g L).cp=cp0 g.cap (capsL L):=by
 unfold Gt.cp cp0 g0 capsL Gt.total
 simp only [List.length_map,Cp.mk.injEq,true_and]
 refine ⟨funext fun k=>?_,funext fun k=>?_,sumR_zero L⟩
 ·rw [List.getD_eq_getElem?_getD,List.getElem?_map,List.getElem?_map]
  cases L[k]?<;>rfl
 ·rw [List.getElem?_map]
  cases L[k]?<;>rfl
theorem okJ_parts{x:Jb × List (Int × Int)}(h:okJ x=true):(1≤x.1.y.cap∧x.1.y.cap≤1000)∧limB x.1.y.t x.1.y.tau=true∧(BK.zero x.1.y.f x.1.y.o x.1.y.r=true∨BK.ruled x.1.y.f x.1.y.o x.1.y.r=true):=by
 unfold okJ at h
 rw [Bool.and_eq_true] at h
 have h:=h.2
 unfold poB flB at h
 simp only [Bool.and_eq_true] at h
 obtain ⟨⟨h1,-⟩,-,h2,h3,-⟩:=h
 unfold inB at h1
 rw [Bool.and_eq_true,decide_eq_true_eq,decide_eq_true_eq] at h1
 refine ⟨h1,h2,?_⟩
 unfold brkB inB at h3
 unfold BK.zero BK.ruled BK.maxSpan
 simp only [Bool.or_eq_true,Bool.and_eq_true,decide_eq_true_eq,beq_iff_eq] at h3 ⊢
 omega
theorem glB_parts{g:Gl}(h:glB g=true):(1≤g.cap∧g.cap≤1000)∧limB g.t g.tau=true:=by
 unfold glB at h
 simp only [Bool.and_eq_true] at h
 obtain ⟨h1,-,-,-,h2⟩:=h
 unfold inB at h1
 rw [Bool.and_eq_true,decide_eq_true_eq,decide_eq_true_eq] at h1
 exact ⟨h1,h2⟩
theorem g0_inv{g:Gl}{L:JL}(h:CfOk g L):(g0 g L).Inv:=by
 have hg:=glB_parts h.gl
 refine ⟨hg.1,by show (L.map jt0).length≤64;rw [List.length_map];exact h.many,lm0_inv hg.2,fun j hj=>?_,(show (0:Int)≤0∧(0:Int)≤253402300799 by decide)⟩
 have hj:j∈L.map jt0:=hj
 obtain ⟨x,hx,rfl⟩:=List.mem_map.1 hj
 obtain ⟨k,hk,e⟩:=List.getElem_of_mem hx
 have:=okJ_parts (e▸h.all k hk)
 exact ⟨this.1,⟨Int.le_refl _,by show (0:Int)≤x.1.y.cap;omega⟩,lm0_inv this.2.1,BK.inv_fresh this.2.2⟩
theorem caps_in{g:Gl}{L:JL}(h:CfOk g L):∀n∈capsL L,0≤n∧n≤1000:=by
 intro n hn
 obtain ⟨x,hx,rfl⟩:=List.mem_map.1 hn
 obtain ⟨k,hk,e⟩:=List.getElem_of_mem hx
 have:=(okJ_parts (e▸h.all k hk)).1
 omega
theorem capsL_get{L:JL}{k:Nat}{x:Jb × List (Int × Int)}(h:L[k]? = some x):(capsL L)[k]? = some x.1.y.cap:=by
 unfold capsL
 rw [List.getElem?_map,h]
 rfl
theorem own_below{B:Nat}{e:TypeId}{s n:Nat}{v:Value}{xs:List Value}{W X:World}(h:W.ownsRow B e s v n xs)(hb:Below W.heap.size W X):X.ownsRow B e s v n xs :=
 ⟨h.1,h.2.imp id fun ⟨g,cap,cur,h1,h2,h3,h4⟩=>⟨g,cap,cur,h1,h2,(hb.block g (Array.getElem?_eq_some_iff.1 h3).1).trans h3,h4⟩⟩
theorem own_blk_ne{w:World}{base:Nat}{e t:TypeId}{size n g:Nat}{v:Value}{xs:List Value}{cs:Array Value}(h:w.ownsRow base e size v n xs)(hg:Blk w g t cs)(hne:e≠t):some g≠v.ownBlock:=by
 rcases h.2 with ⟨rfl,_⟩|⟨g',cap,cur,rfl,_,hh,_⟩
 ·simp [Value.ownBlock]
 ·intro he
  have:g=g':=by simpa [Value.ownBlock] using he
  subst this
  exact blk_ne (t:=e) hh hg hne rfl
theorem own_other{W X:World}{B B':Nat}{e e':TypeId}{s s' n n':Nat}{v u:Value}{xs ys:List Value}(h:W.ownsRow B e s v n xs)(ho:W.ownsRow B' e' s' u n' ys)(hne:e'≠e)(hg:W.grownBy X u.ownBlock):X.ownsRow B e s v n xs :=
 ⟨h.1,h.2.imp id fun ⟨g,cap,cur,h1,h2,h3,h4⟩=>⟨g,cap,cur,h1,h2,(hg.block g (Array.getElem?_eq_some_iff.1 h3).1 (own_blk_ne ho (show Blk W g e cur from h3) hne)).trans h3,h4⟩⟩
theorem own_set{W:World}{B:Nat}{e t:TypeId}{s n g:Nat}{v:Value}{xs:List Value}{cs:Array Value}(h:W.ownsRow B e s v n xs)(hg:Blk W g t cs)(hne:e≠t)(i:Nat)(u:Value):(W.setCell ⟨g,i,none⟩ u).ownsRow B e s v n xs :=
 ⟨h.1,h.2.imp id fun ⟨b,cap,cur,h1,h2,h3,h4⟩=>⟨b,cap,cur,h1,h2,Blk.far (show Blk W b e cur from h3) (blk_ne (show Blk W b e cur from h3) hg hne) u,h4⟩⟩
def doorC(p:Nat × Nat):List Value:=[.pointer (some ⟨p.1,0,none⟩),.pointer (some ⟨p.2,0,none⟩)]
def doorsC(ps:List (Nat × Nat)):List Value:=ps.flatMap doorC
theorem doorsC_snoc(ps:List (Nat × Nat))(q:Nat × Nat):doorsC (ps++[q])=doorsC ps++doorC q:=by unfold doorsC;rw [List.flatMap_append];simp
theorem doorsC_get:∀(ps:List (Nat × Nat)) (k:Nat) (q:Nat × Nat),ps[k]? = some q→(doorsC ps)[k*2]? = some (.pointer (some ⟨q.1,0,none⟩))∧(doorsC ps)[k*2+1]? = some (.pointer (some ⟨q.2,0,none⟩)):=by
 intro ps
 induction ps with
 | nil=>intro k q h;simp at h
 | cons a r ih =>
  intro k q h
  have e:doorsC (a::r)=.pointer (some ⟨a.1,0,none⟩)::.pointer (some ⟨a.2,0,none⟩)::doorsC r:=rfl
  cases k with
  | zero =>
   simp at h
   subst h
   rw [e]
   exact ⟨rfl,rfl⟩
  | succ k =>
   have:=ih k q (by simpa using h)
   rw [e,show (k+1)*2=k*2+1+1 by omega]
   exact this
structure NwI(w:World)(c:Cf)(L:JL)(cp lm G:Nat)(ev dv:Value)(ps:List (Nat × Nat))(W:World):Prop where
 box:Blk W w.heap.size 31 (cfV c)
 gate:Blk W G 118 #[.pointer (some ⟨cp,0,none⟩),.int .i64 c.g.cap,.pointer (some ⟨lm,0,none⟩),dv,ev,.int .i64 0]
 caps:CpAt W cp (cp0 c.g.cap (capsL L))
 lim:LmAt W lm (lm0 c.g.t c.g.tau)
 doors:W.ownsRow w.heap.size 125 2 dv ps.length (doorsC ps)
 each:OwnsJ w.heap.size ev (capsL L) W
 job:∀(k:Nat) (q:Nat × Nat) (x:Jb × List (Int × Int)),ps[k]? = some q→L[k]? = some x→LmAt W q.1 (lm0 x.1.y.t x.1.y.tau)∧BoxAt W q.2 (BK.fresh x.1.y.f x.1.y.o x.1.y.r)
 lo:w.heap.size≤G∧w.heap.size≤cp∧w.heap.size≤lm∧∀q∈ps,w.heap.size≤q.1∧w.heap.size≤q.2
 dist:∀(k:Nat) (q:Nat × Nat),ps[k]? = some q→q.1≠lm∧∀(i:Nat) (r:Nat × Nat),ps[i]? = some r→i≠k→r.1≠q.1∧r.2≠q.2
 below:Below w.heap.size w W
 len:ps.length≤L.length
section
variable{w:World}{c:Cf}{L:JL}{cp lm G:Nat}{ev dv:Value}{ps:List (Nat × Nat)}{W:World}
theorem NwI.next(h:NwI w c L cp lm G ev dv ps W){X:World}(hb:Below W.heap.size W X):NwI w c L cp lm G ev dv ps X :=
 ⟨h.box.below hb h.box.lt,h.gate.below hb h.gate.lt,Blk.below h.caps hb (Blk.lt h.caps),Blk.below h.lim hb (Blk.lt h.lim),own_below h.doors hb,own_below h.each hb,
  fun k q x h1 h2=>⟨Blk.below (h.job k q x h1 h2).1 hb (Blk.lt (h.job k q x h1 h2).1),Blk.below (h.job k q x h1 h2).2 hb (Blk.lt (h.job k q x h1 h2).2)⟩,h.lo,h.dist,h.below.trans (hb.mono h.below.size),h.len⟩
theorem snoc_get{α:Type}{l:List α}{a b:α}{k:Nat}(h:(l++[a])[k]? = some b):(k<l.length∧l[k]? = some b)∨(k=l.length∧a=b):=by
 rcases Nat.lt_trichotomy k l.length with h1|h1|h1
 ·rw [List.getElem?_append_left h1] at h
  exact .inl ⟨h1,h⟩
 ·subst h1
  simp at h
  exact .inr ⟨rfl,h⟩
 ·rw [List.getElem?_append_right (by omega),List.getElem?_eq_none (by simp;omega)] at h
  cases h
theorem NwI.push(h:NwI w c L cp lm G ev dv ps W){X Y:World}(hb:Below W.heap.size W X){li bo:Nat}{x:Jb × List (Int × Int)}(hx:L[ps.length]? = some x)(h1:LmAt X li (lm0 x.1.y.t x.1.y.tau))(h2:BoxAt X bo (BK.fresh x.1.y.f x.1.y.o x.1.y.r))(hli:W.heap.size≤li)(hbo:W.heap.size≤bo)
 {v':Value} (hown:Y.ownsRow w.heap.size 125 2 v' (ps.length+1) (doorsC ps++doorC (li,bo))) (hg:X.grownBy Y dv.ownBlock):NwI w c L cp lm G ev v' (ps++[(li,bo)]) (Y.setCell ⟨G,3,none⟩ v'):=by
 have hX:=h.next hb
 have hlp:∀(k:Nat) (q:Nat × Nat),ps[k]? = some q→q.1<W.heap.size∧q.2<W.heap.size:=fun k q hq=>by
  have hk:k<L.length:=Nat.lt_of_lt_of_le (List.getElem?_eq_some_iff.1 hq).1 h.len
  have:=h.job k q _ hq (List.getElem?_eq_getElem hk)
  exact ⟨Blk.lt this.1,Blk.lt this.2⟩
 have hlm:lm<W.heap.size:=Blk.lt h.lim
 have kp:∀{g:Nat} {t:TypeId} {cs:Array Value},Blk X g t cs→125≠t→Blk Y g t cs:=fun hk hne=>(hg.block _ hk.lt (own_blk_ne hX.doors hk hne)).trans hk
 have gy:=kp hX.gate (by decide)
 have kq:∀{g:Nat} {t:TypeId} {cs:Array Value},Blk X g t cs→125≠t→t≠118→Blk (Y.setCell ⟨G,3,none⟩ v') g t cs:=fun hk hne hne2=>Blk.far (kp hk hne) (blk_ne (kp hk hne) gy hne2) v'
 have hwX:=hX.below.size
 have hYs:=hg.size
 refine ⟨kq hX.box (by decide) (by decide),?_,kq hX.caps (by decide) (by decide),kq hX.lim (by decide) (by decide),?_,?_,fun k q y hq hy=>?_,⟨h.lo.1,h.lo.2.1,h.lo.2.2.1,fun q hq=>?_⟩,fun k q hq=>⟨?_,fun i r hr hne=>?_⟩,?_,?_⟩
 ·exact Blk.set_ gy 3 v'
 ·rw [doorsC_snoc,List.length_append]
  exact own_set hown gy (by decide) 3 v'
 ·exact own_set (own_other hX.each hX.doors (by decide) hg) gy (by decide) 3 v'
 ·rcases snoc_get hq with ⟨hk,hq⟩|⟨rfl,rfl⟩
  ·have:=hX.job k q y hq hy
   exact ⟨kq this.1 (by decide) (by decide),kq this.2 (by decide) (by decide)⟩
  ·rw [hx] at hy
   injection hy with hy
   subst hy
   exact ⟨kq h1 (by decide) (by decide),kq h2 (by decide) (by decide)⟩
 ·rcases List.mem_append.1 hq with hq|hq
  ·exact h.lo.2.2.2 q hq
  ·simp at hq
   subst hq
   have:=h.below.size
   exact ⟨by show w.heap.size≤li;omega,by show w.heap.size≤bo;omega⟩
 ·rcases snoc_get hq with ⟨hk,hq⟩|⟨rfl,rfl⟩
  ·exact (h.dist k q hq).1
  ·show li≠lm
   omega
 ·rcases snoc_get hq with ⟨hk,hq⟩|⟨rfl,rfl⟩
  ·rcases snoc_get hr with ⟨hk2,hr⟩|⟨rfl,rfl⟩
   ·exact (h.dist k q hq).2 i r hr hne
   ·have:=hlp k q hq
    exact ⟨by show li≠q.1;omega,by show bo≠q.2;omega⟩
  ·rcases snoc_get hr with ⟨hk2,hr⟩|⟨rfl,rfl⟩
   ·have:=hlp i r hr
    exact ⟨by show r.1≠li;omega,by show r.2≠bo;omega⟩
   ·exact absurd rfl hne
 ·refine ((hX.below.grown hg hwX fun j ej=>?_)).setCell h.lo.1 v'
  rcases Nat.lt_or_ge j w.heap.size with h'|h'
  ·exact absurd ej.symm (own_ge hX.doors h')
  ·exact h'
 ·rw [List.length_append]
  have:=(List.getElem?_eq_some_iff.1 hx).1
  simp
  omega
def lyOf(cp lm G:Nat)(da ea:Option Addr)(dc ec:Nat)(ps:List (Nat × Nat)):Ly:=⟨G,cp,lm,da,dc,ea,ec,fun k=>((ps[k]?).map (·.1)).getD 0,fun k=>((ps[k]?).map (·.2)).getD 0⟩
theorem NwI.fin(h:NwI w c L cp lm G ev dv ps W)(hl:ps.length=L.length)(hc:CfOk c.g L):∃Y:Ly,Y.g=G∧GAt W Y (g0 c.g L)∧∀i,Y.sup L.length i→w.heap.size≤i:=by
 have hn:(g0 c.g L).js.length=L.length:=by show (L.map jt0).length=_;rw [List.length_map]
 obtain ⟨ea,ec,rfl,hrow⟩:=rowI_of h.each
 have hce:(capsL L).length=L.length:=by unfold capsL;rw [List.length_map]
 obtain ⟨da,dc,hdv,hdr⟩:∃da dc,dv=.slice da ps.length dc∧(0<ps.length→∃b cs,da=some ⟨b,0,none⟩∧w.heap.size≤b∧Blk W b 125 cs∧∀(k:Nat) (q:Nat × Nat),ps[k]? = some q→cs[k*2]? = some (.pointer (some ⟨q.1,0,none⟩))∧cs[k*2+1]? = some (.pointer (some ⟨q.2,0,none⟩))):=by
  obtain ⟨hd0,hd⟩:=h.doors
  rcases hd with ⟨rfl,h0⟩|⟨g,cap,cur,rfl,hb,hg,hn,hc,hs,ht⟩
  ·exact ⟨none,0,by rw [h0],fun h1=>absurd h1 (by omega)⟩
  ·refine ⟨_,cap,rfl,fun _=>⟨g,cur,rfl,hb,hg,fun k q hq=>?_⟩⟩
   have hk:k<ps.length:=(List.getElem?_eq_some_iff.1 hq).1
   obtain ⟨e1,e2⟩:=doorsC_get ps k q hq
   rw [←ht,List.getElem?_take,if_pos (by omega)] at e1 e2
   exact ⟨by simpa using e1,by simpa using e2⟩
 subst hdv
 have hjob:∀(k:Nat) (j:Jt),(g0 c.g L).js[k]? = some j→∃q x,ps[k]? = some q∧L[k]? = some x∧jt0 x=j:=fun k j hj=>by
  have hj:(L.map jt0)[k]? = some j:=hj
  rw [List.getElem?_map] at hj
  cases hx:L[k]? with
  | none=>rw [hx] at hj;cases hj
  | some x =>
   rw [hx] at hj
   have hk:k<ps.length:=by rw [hl];exact (List.getElem?_eq_some_iff.1 hx).1
   exact ⟨ps[k],x,List.getElem?_eq_getElem hk,rfl,by simpa using hj⟩
 refine ⟨lyOf cp lm G da ea dc ec ps,rfl,⟨?_,?_,h.lim,fun h0=>?_,fun h0=>?_,fun k j hj=>?_,fun k hk=>⟨?_,fun i hi hne=>?_⟩,g0_inv hc⟩,fun i hi=>?_⟩
 ·have hg:=h.gate
  have e:(lyOf cp lm G da ea dc ec ps).cells (g0 c.g L)=#[.pointer (some ⟨cp,0,none⟩),.int .i64 c.g.cap,.pointer (some ⟨lm,0,none⟩),.slice da ps.length dc,.slice ea (capsL L).length ec,.int .i64 0]:=by
   unfold Ly.cells lyOf
   rw [hn,hl,hce]
   rfl
  rw [e]
  exact hg
 ·rw [g0_cp];exact h.caps
 ·rw [hn] at h0
  obtain ⟨b,cs,e,-,h1,h2⟩:=hdr (by omega)
  refine ⟨b,cs,e,h1,fun k hk=>?_⟩
  rw [hn,←hl] at hk
  have:=h2 k ps[k] (List.getElem?_eq_getElem hk)
  show cs[k*2]? = some (.pointer (some ⟨((ps[k]?).map (·.1)).getD 0,0,none⟩))∧cs[k*2+1]? = some (.pointer (some ⟨((ps[k]?).map (·.2)).getD 0,0,none⟩))
  rw [List.getElem?_eq_getElem hk]
  exact this
 ·rw [hn] at h0
  obtain ⟨b,cs,e,-,h1,h2⟩:=hrow (by omega)
  refine ⟨b,cs,e,h1,fun k j hj=>?_⟩
  obtain ⟨q,x,hq,hx,rfl⟩:=hjob k j hj
  have hk:k<(capsL L).length:=by rw [hce];exact (List.getElem?_eq_some_iff.1 hx).1
  rw [h2 k hk]
  have e:=capsL_get hx
  rw [List.getElem?_eq_getElem hk] at e
  injection e with e
  rw [e]
  rfl
 ·obtain ⟨q,x,hq,hx,rfl⟩:=hjob k j hj
  have:=h.job k q x hq hx
  show LmAt W (((ps[k]?).map (·.1)).getD 0) _∧BoxAt W (((ps[k]?).map (·.2)).getD 0) _
  rw [hq]
  exact this
 ·rw [hn,←hl] at hk
  have:=(h.dist k ps[k] (List.getElem?_eq_getElem hk)).1
  show ((ps[k]?).map (·.1)).getD 0≠lm
  rw [List.getElem?_eq_getElem hk]
  exact this
 ·rw [hn,←hl] at hk hi
  have:=(h.dist k ps[k] (List.getElem?_eq_getElem hk)).2 i ps[i] (List.getElem?_eq_getElem hi) hne
  show ((ps[i]?).map (·.1)).getD 0≠((ps[k]?).map (·.1)).getD 0∧((ps[i]?).map (·.2)).getD 0≠((ps[k]?).map (·.2)).getD 0
  rw [List.getElem?_eq_getElem hk,List.getElem?_eq_getElem hi]
  exact this
 ·rcases hi with (rfl|rfl|rfl|⟨k,hk,hi⟩)|⟨h0,o,e⟩|⟨h0,o,e⟩
  ·exact h.lo.1
  ·exact h.lo.2.1
  ·exact h.lo.2.2.1
  ·rw [←hl] at hk
   have:=h.lo.2.2.2 ps[k] (List.getElem_mem hk)
   have e1:(lyOf cp lm G da ea dc ec ps).li k=ps[k].1:=by show ((ps[k]?).map (·.1)).getD 0=_;rw [List.getElem?_eq_getElem hk];rfl
   have e2:(lyOf cp lm G da ea dc ec ps).bo k=ps[k].2:=by show ((ps[k]?).map (·.2)).getD 0=_;rw [List.getElem?_eq_getElem hk];rfl
   rw [e1,e2] at hi
   rcases hi with rfl|rfl
   ·exact this.1
   ·exact this.2
  ·obtain ⟨b,cs,e',hlo,_⟩:=hdr (by omega)
   rw [show (lyOf cp lm G da ea dc ec ps).da=da from rfl,e'] at e
   injection e with e
   injection e with e
   omega
  ·obtain ⟨b,cs,e',hlo,_⟩:=hrow (by omega)
   rw [show (lyOf cp lm G da ea dc ec ps).ea=ea from rfl,e'] at e
   injection e with e
   injection e with e
   omega
end
end Go.Proofs.YtpgckpafjiojfaaGreatDoor.AD
