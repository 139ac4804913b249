/- What Restore of a gate keeps while it walks. -/
import Derived.Test.YtpgckpafjiojfaaGreatDoorAJe
import Derived.Test.YtpgckpafjiojfaaGreatDoorAJg
namespace Go.Proofs.YtpgckpafjiojfaaGreatDoor.AD
open Go Go.RowKit BW
open BK (Bx BoxAt Blk only_refl only_drew only_drewN only_setCell only_trans only_of_below only_alloc below_drewN)
def bsT(b:BxQ):Bs:=⟨b.1,b.2.1,b.2.2.1,b.2.2.2⟩
def Row1(W:World)(a:Option Addr)(es:List Int):Prop:=∀k (hk:k<es.length),∃b off,a=some ⟨b,off,none⟩∧W.cell? ⟨b,off+k,none⟩=some (.int .i64 es[k])
def Row4(W:World)(a:Option Addr)(bs:List BxQ):Prop:=∀k (hk:k<bs.length),∃b off,a=some ⟨b,off,none⟩∧∀i,i<4→W.cell? ⟨b,off+k*4+i,none⟩=(bxC bs[k])[i]?
theorem Row1.below{W W':World}{a:Option Addr}{es:List Int}(h:Row1 W a es)(hb:Below W.heap.size W W'):Row1 W' a es:=fun k hk=>by
 obtain ⟨b,off,e,h1⟩:=h k hk
 exact ⟨b,off,e,(hb.cell (p:=⟨b,off+k,none⟩) (World.block_lt_of_cell? W _ h1)).trans h1⟩
theorem Row4.below{W W':World}{a:Option Addr}{bs:List BxQ}(h:Row4 W a bs)(hb:Below W.heap.size W W'):Row4 W' a bs:=fun k hk=>by
 obtain ⟨b,off,e,h1⟩:=h k hk
 refine ⟨b,off,e,fun i hi=>?_⟩
 have h2:=h1 i hi
 obtain ⟨v,hv⟩:∃v,(bxC bs[k])[i]? = some v:=⟨_,List.getElem?_eq_getElem (show i<(bxC bs[k]).length from hi)⟩
 rw [hv] at h2 ⊢
 exact (hb.cell (p:=⟨b,off+k*4+i,none⟩) (World.block_lt_of_cell? W _ h2)).trans h2
theorem Row1.of{W:World}{B:Nat}{a:Option Addr}{es:List Int}(h:RowL W B a es):Row1 W a es:=fun k hk=>by
 obtain ⟨b,cs,e,-,h1,h2⟩:=h (by omega)
 exact ⟨b,0,e,by rw [Nat.zero_add,h1.cell];exact h2 k hk⟩
theorem Row1.ofI{W:World}{B:Nat}{a:Option Addr}{es:List Int}(h:RowI W B a es):Row1 W a es:=fun k hk=>by
 obtain ⟨b,cs,e,-,h1,h2⟩:=h (by omega)
 exact ⟨b,0,e,by rw [Nat.zero_add,h1.cell];exact h2 k hk⟩
theorem Row4.of{W:World}{B:Nat}{a:Option Addr}{bs:List BxQ}(h:RowB W B a bs):Row4 W a bs:=fun k hk=>by
 obtain ⟨b,cs,e,-,h1,h2⟩:=h (by omega)
 refine ⟨b,0,e,fun i hi=>?_⟩
 rw [Nat.zero_add,h1.cell]
 obtain ⟨e0,e1,e2,e3⟩:=h2 k hk
 match i,hi with
 | 0,_=>exact e0
 | 1,_=>exact e1
 | 2,_=>exact e2
 | 3,_=>exact e3
 | i+4,hi=>omega
noncomputable def rsR(g:Gl)(L:JL)(rs ts:List Int)(bs:List BxQ)(now:Int):Option Gt × Int:=if cfE g L≠0 then (none,cfE g L) else if timeB now=false then (none,14) else match rsG g L rs ts (bs.map bsT) now with
 | none=>(none,2)
 | some z=>(some z,0)
def ResGt(w:World)(r:Option Gt × Int)(e:Ending)(w':World):Prop:=Below w.heap.size w w'∧match r.1 with
 | none=>e=.returned (.tuple #[.pointer none,.int .i64 r.2])
 | some z=>∃Y:Ly,e=.returned (.tuple #[.pointer (some ⟨Y.g,0,none⟩),.int .i64 0])∧GAt w' Y z∧∀i,Y.sup z.js.length i→w.heap.size≤i
theorem res_cf{w w':World}{g:Gl}{L:JL}{rs ts:List Int}{bs:List BxQ}{now:Int}(h:cfE g L≠0)(hb:Below w.heap.size w w'):ResGt w (rsR g L rs ts bs now) (.returned (.tuple #[.pointer none,.int .i64 (cfE g L)])) w':=by
 unfold rsR
 rw [if_pos h]
 exact ⟨hb,rfl⟩
theorem res_time{w w':World}{g:Gl}{L:JL}{rs ts:List Int}{bs:List BxQ}{now:Int}(h:cfE g L=0)(ht:timeB now=false)(hb:Below w.heap.size w w'):ResGt w (rsR g L rs ts bs now) (.returned (.tuple #[.pointer none,.int .i64 14])) w':=by
 unfold rsR
 rw [if_neg (by rw [h];simp),if_pos ht]
 exact ⟨hb,rfl⟩
theorem res_no{w w':World}{g:Gl}{L:JL}{rs ts:List Int}{bs:List BxQ}{now:Int}(h:cfE g L=0)(ht:timeB now=true)(hr:rsG g L rs ts (bs.map bsT) now=none)(hb:Below w.heap.size w w'):ResGt w (rsR g L rs ts bs now) (.returned (.tuple #[.pointer none,.int .i64 2])) w':=by
 unfold rsR
 rw [if_neg (by rw [h];simp),if_neg (by rw [ht];simp),hr]
 exact ⟨hb,rfl⟩
theorem res_yes{w w':World}{g:Gl}{L:JL}{rs ts:List Int}{bs:List BxQ}{now:Int}{z:Gt}{Y:Ly}(h:cfE g L=0)(ht:timeB now=true)(hr:rsG g L rs ts (bs.map bsT) now=some z)(hb:Below w.heap.size w w')(hg:GAt w' Y z)(hs:∀i,Y.sup z.js.length i→w.heap.size≤i):ResGt w (rsR g L rs ts bs now) (.returned (.tuple #[.pointer (some ⟨Y.g,0,none⟩),.int .i64 0])) w':=by
 unfold rsR
 rw [if_neg (by rw [h];simp),if_neg (by rw [ht];simp),hr]
 exact ⟨hb,Y,rfl,hg,hs⟩
section
variable{g:Gl}{L:JL}{rs ts:List Int}{bs:List Bs}{now:Int}
theorem rsG_len(h:rs.length≠L.length∨bs.length≠L.length∨ts.length≠L.length+1):rsG g L rs ts bs now=none:=by unfold rsG;rw [if_pos h]
theorem rsG_both(h:(lmR g.t g.tau (ts.getD 0 0) now).1=none):rsG g L rs ts bs now=none:=by
 unfold rsG
 split
 ·rfl
 ·rw [h]
theorem rsG_none{k:Nat}(h:rsL L rs ts bs now k=none)(hk:k≤L.length):rsG g L rs ts bs now=none:=by
 have hn:=rsL_none h hk
 unfold rsG
 split
 ·rfl
 ·split
  ·rfl
  ·rw [hn]
theorem rsG_many(h:∀ks,rsL L rs ts bs now L.length=some ks→g.cap<sumR ks):rsG g L rs ts bs now=none:=by
 unfold rsG
 split
 ·rfl
 ·split
  ·rfl
  ·split
   ·rfl
   ·next ks hks =>
    have:=h ks hks
    rw [if_neg (by omega)]
theorem rsG_yes{b:Lm}{js:List Jt}(h1:rs.length=L.length)(h2:bs.length=L.length)(h3:ts.length=L.length+1)(hb:(lmR g.t g.tau (ts.getD 0 0) now).1=some b)(hj:rsL L rs ts bs now L.length=some js)(hs:sumR js≤g.cap):rsG g L rs ts bs now=some ⟨g.cap,b,js,now⟩:=by
 unfold rsG
 rw [if_neg (by omega),hb]
 simp only
 rw [hj]
 simp only
 rw [if_pos hs]
end
theorem lmR_no{t tau tat now:Int}(h:(lmR t tau tat now).1=none):(lmR t tau tat now).2≠0:=by
 unfold lmR at h ⊢
 split
 ·decide
 ·split
  ·next h1 h2=>rw [if_neg h1,if_pos h2] at h;cases h
  ·split
   ·decide
   ·next h1 h2 h3=>rw [if_neg h1,if_neg h2,if_neg h3] at h;cases h
def ptrO:Value→Option Addr
 | .pointer p=>p
 | _=>none
theorem lmV_ptr{W Z:World}{ol:Option Lm}{v:Value}(h:LmV W Z ol v):v=.pointer (ptrO v):=by
 unfold LmV at h
 cases ol with
 | none=>rw [show v=.pointer none from h];rfl
 | some l=>rw [h.1];rfl
theorem lr_ok{t tau tat now:Int}(hl:limB t tau=true){W Z:World}(hz:Z.heap.size≤W.heap.size):Calls Tryz.prog 91 #[.agg #[.int .i64 t,.int .i64 tau],.int .i64 tat,.int .i64 now] W fun e w'=>∃pv,e=.returned (.tuple #[pv,.int .i64 (lmR t tau tat now).2])∧Below W.heap.size W w'∧LmV w' Z (lmR t tau tat now).1 pv :=
 (lrestore_ok hl W).mono fun e w' ⟨hb,h⟩=>by
  cases hr:(lmR t tau tat now).1 with
  | none=>rw [hr] at h;exact ⟨_,h,hb,rfl⟩
  | some l =>
   rw [hr] at h
   obtain ⟨n,h1,h2,h3,-⟩:=h
   exact ⟨_,h1,hb,⟨rfl,h2,Nat.le_trans hz h3⟩⟩
theorem inv_set{x:Gt}(h:x.Inv){k:Nat}{j':Jt}(hj:(1≤j'.cap∧j'.cap≤1000)∧(0≤j'.runs∧j'.runs≤j'.cap)∧j'.lm.Inv∧BK.Inv j'.bx):(⟨x.cap,x.both,x.js.set k j',x.last⟩:Gt).Inv :=
 ⟨h.cap,by show (x.js.set k j').length≤64;rw [List.length_set];exact h.n,h.both,fun j hm=>by
  rcases List.mem_or_eq_of_mem_set hm with hm|rfl
  ·exact h.js j hm
  ·exact hj,h.last⟩
structure ReI(w:World)(cb sb gp N:Nat)(cc sc:Array Value)(Y:Ly)(x:Gt)(W:World):Prop where
 g:GAt W Y x
 n:x.js.length=N
 gp:Y.g=gp
 sup:∀i,Y.sup N i→w.heap.size≤i
 c:Blk W cb 31 cc
 s:Blk W sb 91 sc
 bel:Below w.heap.size w W
section
variable{w W W':World}{cb sb gp N:Nat}{cc sc:Array Value}{Y:Ly}{x:Gt}
theorem ReI.next(h:ReI w cb sb gp N cc sc Y x W)(hb:Below W.heap.size W W'):ReI w cb sb gp N cc sc Y x W':=⟨h.g.below hb,h.n,h.gp,h.sup,h.c.below hb h.c.lt,h.s.below hb h.s.lt,h.bel.trans (hb.mono h.bel.size)⟩
theorem ReI.turn(h:ReI w cb sb gp N cc sc Y x W){y:Gt}(hg:GAt W' Y y∧Turn (Y.own x.js.length) W W')(hn:y.js.length=x.js.length):ReI w cb sb gp N cc sc Y y W':=by
 have hk:=h.g.keeps hg.2
 exact ⟨hg.1,hn.trans h.n,h.gp,h.sup,hk _ _ _ h.c (by decide) (by decide) (by decide) (by decide),hk _ _ _ h.s (by decide) (by decide) (by decide) (by decide),hg.2.below (fun i hi=>h.sup i (.inl (by rw [←h.n];exact hi))) h.bel (Nat.le_refl _)⟩
theorem ReI.box(h:ReI w cb sb gp N cc sc Y x W){k:Nat}{j:Jt}(hj:x.js[k]? = some j){bx:Bx}(hB:BoxAt W' (Y.bo k) bx)(hg:W.grownBy W' (some (Y.bo k)))(hi:BK.Inv bx):ReI w cb sb gp N cc sc Y ⟨x.cap,x.both,x.js.set k ⟨j.cap,j.runs,j.lm,bx⟩,x.last⟩ W':=by
 have hjb:=h.g.job k j hj
 have kp:∀{g:Nat} {t:TypeId} {cs:Array Value},Blk W g t cs→t≠182→Blk W' g t cs:=fun hb hne=>(hg.block _ hb.lt (fun e=>blk_ne hb hjb.2 hne (by injection e))).trans hb
 have hm:=h.g.inv.js j (List.mem_of_getElem? hj)
 refine h.turn (h.g.upd hj (Turn.of_only hg (.inr (.inr (.inr (.inr rfl))))) rfl rfl (inv_set h.g.inv ⟨hm.1,hm.2.1,hm.2.2.1,hi⟩) ?_ ?_ (kp h.g.lm (by decide)) (kp hjb.1 (by decide)) hB) List.length_set
 ·have:=kp h.g.gate (by decide)
  unfold Ly.cells at this ⊢
  rw [List.length_set]
  exact this
 ·have:=Gt.cp_put (x:=x) (j':=⟨j.cap,j.runs,j.lm,bx⟩) hj rfl x.both x.last
  rw [this,show (⟨j.cap,j.runs,j.lm,bx⟩:Jt).runs - j.runs=0 from Int.sub_self _,put_zero]
  exact kp h.g.caps (by decide)
theorem ReI.run(h:ReI w cb sb gp N cc sc Y x W){k:Nat}{j:Jt}(hj:x.js[k]? = some j)(hC:CpAt W' Y.cp (x.cp.put k 1))(hg:W.grownBy W' (some Y.cp))(hr:j.runs+1≤j.cap):ReI w cb sb gp N cc sc Y ⟨x.cap,x.both,x.js.set k ⟨j.cap,j.runs+1,j.lm,j.bx⟩,x.last⟩ W':=by
 have hjb:=h.g.job k j hj
 have kp:∀{g:Nat} {t:TypeId} {cs:Array Value},Blk W g t cs→t≠174→Blk W' g t cs:=fun hb hne=>(hg.block _ hb.lt (fun e=>blk_ne hb h.g.caps hne (by injection e))).trans hb
 have hm:=h.g.inv.js j (List.mem_of_getElem? hj)
 refine h.turn (h.g.upd hj (Turn.of_only hg (.inr (.inl rfl))) rfl rfl (inv_set h.g.inv ⟨hm.1,⟨by show 0≤j.runs+1;omega,hr⟩,hm.2.2.1,hm.2.2.2⟩) ?_ ?_ (kp h.g.lm (by decide)) (kp hjb.1 (by decide)) (kp hjb.2 (by decide))) List.length_set
 ·have:=kp h.g.gate (by decide)
  unfold Ly.cells at this ⊢
  rw [List.length_set]
  exact this
 ·have:=Gt.cp_put (x:=x) (j':=⟨j.cap,j.runs+1,j.lm,j.bx⟩) hj rfl x.both x.last
  rw [this,show (⟨j.cap,j.runs+1,j.lm,j.bx⟩:Jt).runs - j.runs=1 by show j.runs+1 - j.runs=1;omega]
  exact hC
theorem ReI.both(h:ReI w cb sb gp N cc sc Y x W){l:Lm}{v:Value}(hi:l.Inv)(hl:LmV W' W (some l) v)(hk:∀b,b<W.heap.size→b≠Y.g→W'.heap[b]? = W.heap[b]?)(hg:Blk W' Y.g 118 ((Y.cells x).setIfInBounds 2 v))(hb:Below w.heap.size w W'):ReI w cb sb gp N cc sc ⟨Y.g,Y.cp,blkQ v,Y.da,Y.dc,Y.ea,Y.ec,Y.li,Y.bo⟩ ⟨x.cap,l,x.js,x.last⟩ W':=by
 rw [hl.1] at hg
 have kp:∀{g:Nat} {t:TypeId} {cs:Array Value},Blk W g t cs→t≠118→Blk W' g t cs:=fun hb hne=>(hk _ hb.lt (blk_ne hb h.g.gate hne)).trans hb
 refine ⟨h.g.newBoth hl.2.1 hi hl.2.2 hk hg,h.n,h.gp,fun i hi=>?_,kp h.c (by decide),kp h.s (by decide),hb⟩
 rcases hi with (rfl|rfl|rfl|hi)|hi|hi
 ·exact h.sup _ (.inl (.inl rfl))
 ·exact h.sup _ (.inl (.inr (.inl rfl)))
 ·exact Nat.le_trans h.bel.size hl.2.2
 ·exact h.sup _ (.inl (.inr (.inr (.inr hi))))
 ·exact h.sup _ (.inr (.inl hi))
 ·exact h.sup _ (.inr (.inr hi))
theorem ReI.lim(h:ReI w cb sb gp N cc sc Y x W){k:Nat}{j:Jt}(hj:x.js[k]? = some j){l:Lm}{v:Value}{db:Nat}{ds:Array Value}(hd:Y.da=some ⟨db,0,none⟩)(hds:Blk W db 125 ds)(hi:l.Inv)(hl:LmV W' W (some l) v)(hk:∀b,b<W.heap.size→b≠db→W'.heap[b]? = W.heap[b]?)(hg:Blk W' db 125 (ds.setIfInBounds (k*2) v))(hb:Below w.heap.size w W'):ReI w cb sb gp N cc sc ⟨Y.g,Y.cp,Y.lm,Y.da,Y.dc,Y.ea,Y.ec,fun i=>if i=k then blkQ v else Y.li i,Y.bo⟩ ⟨x.cap,x.both,x.js.set k ⟨j.cap,j.runs,l,j.bx⟩,x.last⟩ W':=by
 rw [hl.1] at hg
 have kp:∀{g:Nat} {t:TypeId} {cs:Array Value},Blk W g t cs→t≠125→Blk W' g t cs:=fun hb hne=>(hk _ hb.lt (blk_ne hb hds hne)).trans hb
 refine ⟨h.g.newLim hj hd hds hl.2.1 hi hl.2.2 hk hg,List.length_set.trans h.n,h.gp,fun i hi=>?_,kp h.c (by decide),kp h.s (by decide),hb⟩
 rcases hi with (rfl|rfl|rfl|⟨q,hq,hi⟩)|hi|hi
 ·exact h.sup _ (.inl (.inl rfl))
 ·exact h.sup _ (.inl (.inr (.inl rfl)))
 ·exact h.sup _ (.inl (.inr (.inr (.inl rfl))))
 ·rcases hi with rfl|rfl
  ·show w.heap.size≤(if q=k then blkQ v else Y.li q)
   split
   ·exact Nat.le_trans h.bel.size hl.2.2
   ·exact h.sup _ (.inl (.inr (.inr (.inr ⟨q,hq,.inl rfl⟩))))
  ·exact h.sup _ (.inl (.inr (.inr (.inr ⟨q,hq,.inr rfl⟩))))
 ·exact h.sup _ (.inr (.inl hi))
 ·exact h.sup _ (.inr (.inr hi))
end
theorem GAt.setLastN{W:World}{L:Ly}{x:Gt}(h:GAt W L x){now:Int}(hn:0≤now∧now≤253402300799):GAt (W.setCell ⟨L.g,5,none⟩ (.int .i64 now)) L ⟨x.cap,x.both,x.js,now⟩:=by
 have kp:∀{g:Nat} {t:TypeId} {cs:Array Value},Blk W g t cs→t≠118→Blk (W.setCell ⟨L.g,5,none⟩ (.int .i64 now)) g t cs:=fun hb hne=>Blk.far hb (blk_ne hb h.gate hne) _
 refine ⟨?_,kp h.caps (by decide),kp h.lm (by decide),fun h0=>?_,fun h0=>?_,fun k j hj=>?_,h.one,⟨h.inv.cap,h.inv.n,h.inv.both,h.inv.js,hn⟩⟩
 ·have:=h.gate.set_ 5 (.int .i64 now)
  unfold Ly.cells at this ⊢
  simpa using this
 ·obtain ⟨b,cs,e,h1,h2⟩:=h.door h0
  exact ⟨b,cs,e,kp h1 (by decide),h2⟩
 ·obtain ⟨b,cs,e,h1,h2⟩:=h.each h0
  exact ⟨b,cs,e,kp h1 (by decide),h2⟩
 ·have:=h.job k j hj
  exact ⟨kp this.1 (by decide),kp this.2 (by decide)⟩
theorem rsJ_yes{y:Po}{r t now:Int}{b:Bs}{l:Lm}(hl:(lmR y.t y.tau t now).1=some l)(h0:0≤r)(h1:r≤y.cap)(hp:possB y.f y.o y.r b now=true):rsJ y r t b now=some ⟨y.cap,r,l,bringB y.f y.o y.r b now⟩:=by
 unfold rsJ
 rw [hl]
 simp only
 rw [if_neg (by
  rintro (h|h|h)
  ·omega
  ·omega
  ·rw [hp] at h;cases h)]
theorem mid_get{js:List Jt}{L:JL}{k:Nat}{y:Jb × List (Int × Int)}(hl:js.length=k)(hy:L[k]? = some y):(js++(L.drop k).map jt0)[k]? = some (jt0 y):=by
 rw [List.getElem?_append_right (by omega),hl,Nat.sub_self,List.getElem?_map,List.getElem?_drop,Nat.add_zero,hy]
 rfl
theorem mid_set{js:List Jt}{L:JL}{k:Nat}{y:Jb × List (Int × Int)}(hl:js.length=k)(hy:L[k]? = some y)(j:Jt):(js++(L.drop k).map jt0).set k j=js++j::(L.drop (k+1)).map jt0:=by
 have hk:k<L.length:=(List.getElem?_eq_some_iff.1 hy).1
 rw [List.drop_eq_getElem_cons hk,List.map_cons,List.set_append,if_neg (by omega),hl,Nat.sub_self,List.set_cons_zero]
theorem mid_set2{js:List Jt}{r:List Jt}{k:Nat}(hl:js.length=k)(i j:Jt):(js++i::r).set k j=js++j::r:=by
 rw [List.set_append,if_neg (by omega),hl,Nat.sub_self,List.set_cons_zero]
theorem mid_get2{js:List Jt}{r:List Jt}{k:Nat}(hl:js.length=k)(i:Jt):(js++i::r)[k]? = some i:=by
 rw [List.getElem?_append_right (by omega),hl,Nat.sub_self]
 rfl
theorem sumR_app(l m:List Jt):sumR (l++m)=sumR l+sumR m:=by
 induction l with
 | nil=>show sumR m=0+sumR m;omega
 | cons a l ih=>show a.runs+sumR (l++m)=a.runs+sumR l+sumR m;rw [ih];omega
theorem mid_sum{js:List Jt}{L:JL}(j:Jt):sumR (js++j::L.map jt0)=sumR js+j.runs:=by
 rw [sumR_app]
 show _+(j.runs+sumR (L.map jt0))=_
 rw [sumR_zero]
 omega
end Go.Proofs.YtpgckpafjiojfaaGreatDoor.AD
