/- Contract of admit's All: the whole state of a gate, as rows of the call's own. -/
import Derived.Test.YtpgckpafjiojfaaGreatDoorAHc
import Derived.Test.YtpgckpafjiojfaaGreatDoorAIw
open Go.Lib (hid)
namespace Go.Proofs.YtpgckpafjiojfaaGreatDoor.AD
open Go Go.RowKit BW
open BK (Bx BoxAt Blk only_refl only_drew only_drewN only_setCell only_trans only_of_below only_alloc below_drewN)
structure Lane(W:World)(B:Nat)(e:TypeId)(s n:Nat)(la ln:Option Bool)(cur new app:Value)(xs news:List Value):Prop where
 cur:la=some false→W.ownsRow B e s cur n xs
 new:la=some false→ln=some true→Blk W (blkS new) e news.toArray
 app:la=some true→W.ownsRow B e s app (n+1) (xs++news)
section
variable{W W':World}{B B':Nat}{e e':TypeId}{s s' n n':Nat}{la ln:Option Bool}{cur new app u:Value}{xs news ys:List Value}
theorem Lane.below(h:Lane W B e s n la ln cur new app xs news)(hb:Below W.heap.size W W'):Lane W' B e s n la ln cur new app xs news :=
 ⟨fun h1=>own_below (h.cur h1) hb,fun h1 h2=>(h.new h1 h2).below hb (h.new h1 h2).lt,fun h1=>own_below (h.app h1) hb⟩
theorem Lane.other(h:Lane W B e s n la ln cur new app xs news)(ho:W.ownsRow B' e' s' u n' ys)(hne:e'≠e)(hg:W.grownBy W' u.ownBlock):Lane W' B e s n la ln cur new app xs news :=
 ⟨fun h1=>own_other (h.cur h1) ho hne hg,fun h1 h2=>(hg.block _ (h.new h1 h2).lt (own_blk_ne ho (h.new h1 h2) hne)).trans (h.new h1 h2),fun h1=>own_other (h.app h1) ho hne hg⟩
end
theorem rowL_of{B:Nat}{v:Value}{es:List Int}{W:World}(h:W.ownsRow B 2 1 v es.length (es.map tcell)):∃a cap,v=.slice a es.length cap∧RowL W B a es:=by
 obtain ⟨hl,h⟩:=h
 rcases h with ⟨rfl,h0⟩|⟨g,cap,cur,rfl,hb,hg,hn,hc,hs,ht⟩
 ·have:es=[]:=List.eq_nil_of_length_eq_zero h0
  subst this
  exact ⟨none,0,rfl,fun hk=>by simp at hk⟩
 ·refine ⟨_,cap,rfl,fun _=>⟨g,cur,rfl,hb,hg,fun k hk=>?_⟩⟩
  have h1:(es.map tcell)[k]? = some (tcell es[k]):=by simp [hk]
  rw [←ht,List.getElem?_take,if_pos (by omega)] at h1
  simpa [tcell] using h1
def bxC(b:BxQ):List Value:=[.int .i64 b.1,.int .i64 b.2.1,.int .i64 b.2.2.1,.int .i64 b.2.2.2]
theorem bxC_get:∀(bs:List BxQ) (k i:Nat) (hk:k<bs.length),i<4→(bs.flatMap bxC)[k*4+i]? = (bxC bs[k])[i]?:=by
 intro bs
 induction bs with
 | nil=>intro k i hk;simp at hk
 | cons b bs ih =>
  intro k i hk hi
  have h4:(bxC b).length=4:=rfl
  rw [List.flatMap_cons]
  cases k with
  | zero=>rw [List.getElem?_append_left (by rw [h4];omega),Nat.zero_mul,Nat.zero_add];rfl
  | succ k =>
   rw [List.getElem?_append_right (by rw [h4];omega),h4,show (k+1)*4+i - 4=k*4+i by omega]
   exact ih k i (by simpa using hk) hi
theorem bxC_len(bs:List BxQ):(bs.flatMap bxC).length=bs.length*4:=by
 induction bs with
 | nil=>rfl
 | cons b bs ih=>rw [List.flatMap_cons,List.length_append,ih,List.length_cons,show (bxC b).length=4 from rfl];omega
theorem rowB_of{B:Nat}{v:Value}{bs:List BxQ}{W:World}(h:W.ownsRow B 101 4 v bs.length (bs.flatMap bxC)):∃a cap,v=.slice a bs.length cap∧RowB W B a bs:=by
 obtain ⟨hl,h⟩:=h
 rcases h with ⟨rfl,h0⟩|⟨g,cap,cur,rfl,hb,hg,hn,hc,hs,ht⟩
 ·have:bs=[]:=List.eq_nil_of_length_eq_zero h0
  subst this
  exact ⟨none,0,rfl,fun hk=>by simp at hk⟩
 ·refine ⟨_,cap,rfl,fun _=>⟨g,cur,rfl,hb,hg,fun k hk=>?_⟩⟩
  have key:∀i,i<4→cur[k*4+i]? = (bxC bs[k])[i]?:=fun i hi=>by
   have h1:=bxC_get bs k i hk hi
   rw [←ht,List.getElem?_take,if_pos (by omega)] at h1
   rw [←h1,Array.getElem?_toList]
  exact ⟨key 0 (by decide),key 1 (by decide),key 2 (by decide),key 3 (by decide)⟩
theorem own_one{W:World}{B g s:Nat}{e:TypeId}{cs:Array Value}(h:Blk W g e cs)(hb:B≤g)(hs:cs.size=s):W.ownsRow B e s (.slice (some ⟨g,0,none⟩) 1 1) 1 cs.toList :=
 ⟨by simp [hs],.inr ⟨g,1,cs,rfl,hb,h,Nat.le_refl _,by decide,by omega,by rw [List.take_of_length_le (by simp [hs])]⟩⟩
def bxT(x:Bx):BxQ:=(BK.untilOf x,x.fails,x.good,x.under)
structure AlI(w:World)(S:Nat)(rv tv bv:Value)(rs ts:List Int)(bs:List BxQ)(W:World):Prop where
 st:Blk W S 91 #[rv,tv,bv]
 r:W.ownsRow w.heap.size 3 1 rv rs.length (rs.map tcell)
 t:W.ownsRow w.heap.size 2 1 tv ts.length (ts.map tcell)
 b:W.ownsRow w.heap.size 101 4 bv bs.length (bs.flatMap bxC)
 z:Blk W w.heap.size 91 #[.slice none 0 0,.slice none 0 0,.slice none 0 0]
 lo:w.heap.size<S
 bel:Below w.heap.size w W
section
variable{w W W':World}{S:Nat}{rv tv bv:Value}{rs ts:List Int}{bs:List BxQ}
theorem AlI.next(h:AlI w S rv tv bv rs ts bs W)(hb:Below W.heap.size W W'):AlI w S rv tv bv rs ts bs W':=⟨h.st.below hb h.st.lt,own_below h.r hb,own_below h.t hb,own_below h.b hb,h.z.below hb h.z.lt,h.lo,h.bel.trans (hb.mono h.bel.size)⟩
end
theorem RowI.set{W:World}{B g:Nat}{a:Option Addr}{es:List Int}{cs:Array Value}(h:RowI W B a es)(hg:Blk W g 91 cs)(i:Nat)(u:Value):RowI (W.setCell ⟨g,i,none⟩ u) B a es:=fun h0=>by
 obtain ⟨b,ds,e,h1,h2,h3⟩:=h h0
 exact ⟨b,ds,e,h1,Blk.far h2 (blk_ne h2 hg (by decide)) u,h3⟩
theorem RowL.set{W:World}{B g:Nat}{a:Option Addr}{es:List Int}{cs:Array Value}(h:RowL W B a es)(hg:Blk W g 91 cs)(i:Nat)(u:Value):RowL (W.setCell ⟨g,i,none⟩ u) B a es:=fun h0=>by
 obtain ⟨b,ds,e,h1,h2,h3⟩:=h h0
 exact ⟨b,ds,e,h1,Blk.far h2 (blk_ne h2 hg (by decide)) u,h3⟩
theorem RowB.set{W:World}{B g:Nat}{a:Option Addr}{es:List BxQ}{cs:Array Value}(h:RowB W B a es)(hg:Blk W g 91 cs)(i:Nat)(u:Value):RowB (W.setCell ⟨g,i,none⟩ u) B a es:=fun h0=>by
 obtain ⟨b,ds,e,h1,h2,h3⟩:=h h0
 exact ⟨b,ds,e,h1,Blk.far h2 (blk_ne h2 hg (by decide)) u,h3⟩
def FT:Value:=.func (.func 84) #[] #[]
theorem ftat_ok{w:World}{b:Nat}{x:Lm}(h:LmAt w b x):Calls Tryz.prog 84 #[.pointer (some ⟨b,0,none⟩)] w fun e w'=>e=.returned (.int .i64 x.arr)∧Below w.heap.size w w':=by
 have C:=hid (tat_ok h)
 clear h
 obtain ⟨t,tau,so,tat,last⟩:=x
 go_enter Tryz.func84,Tryz.ntmps84
 go_wp2_with fail
 refine (C.out).mono ?_
 rintro e_ w1 ⟨rfl,n,rfl⟩
 clear C
 cases so
 ·go_wp2_with fail
  go_ret
  exact ⟨rfl,below_drewN (Below.refl _ _) n⟩
 ·go_wp2_with fail
  go_ret
  exact ⟨rfl,below_drewN (Below.refl _ _) n⟩
def P12(S D li n:Nat)(rv tv bv:Value)(r q:Int)(b:BxQ)(i:Nat)(v:Value):Prop:=match i with
 | 0=>v=.pointer (some ⟨S,0,none⟩)
 | 1=>v=rv
 | 2=>v=.int .i64 r
 | 3=>v=.slice (some ⟨blkS v,0,none⟩) 1 1
 | 4=>v=.slice (some ⟨blkS v,0,none⟩) (n+1) (capS v)
 | 5=>v=.pointer (some ⟨S,1,none⟩)
 | 6=>v=tv
 | 7=>v=FT
 | 8=>v=.pointer (some ⟨D,0,none⟩)
 | 9=>v=.pointer (some ⟨li,0,none⟩)
 | 10=>v=.int .i64 q
 | 11=>v=.slice (some ⟨blkS v,0,none⟩) 1 1
 | 12=>v=.slice (some ⟨blkS v,0,none⟩) (n+2) (capS v)
 | 13=>v=.pointer (some ⟨S,2,none⟩)
 | 14=>v=bv
 | 15=>v=.agg #[.int .i64 b.1,.int .i64 b.2.1,.int .i64 b.2.2.1,.int .i64 b.2.2.2]
 | 16=>v=.slice (some ⟨blkS v,0,none⟩) 1 1
 | 17=>v=.slice (some ⟨blkS v,0,none⟩) (n+1) (capS v)
 | 18=>v=.pointer (some ⟨S,0,none⟩)
 | _=>True
structure R12(w Z:World)(S D li n:Nat)(rv tv bv:Value)(rs ts:List Int)(bs:List BxQ)(r q:Int)(b:BxQ)(listed:Array Bool)(v:Nat→Value)(W:World):Prop where
 all:∀i,listed[i]? = some true→P12 S D li n rv tv bv r q b i (v i)
 bel:Below w.heap.size w W
 st:∀g cs,Blk Z g 91 cs→Blk W g 91 cs
 dr:∀cs,Blk Z D 125 cs→Blk W D 125 cs
 bx:∀X cs,w.heap.size≤X→some X≠bv.ownBlock→Blk Z X 101 cs→Blk W X 101 cs∨listed[17]? = some true
 r:Lane W w.heap.size 3 1 n listed[4]? listed[3]? rv (v 3) (v 4) (rs.map tcell) [.int .i64 r]
 t:Lane W w.heap.size 2 1 (n+1) listed[12]? listed[11]? tv (v 11) (v 12) (ts.map tcell) [.int .i64 q]
 b:Lane W w.heap.size 101 4 n listed[17]? listed[16]? bv (v 16) (v 17) (bs.flatMap bxC) (bxC b)
 sz:Z.heap.size≤W.heap.size
 o:(listed[4]? = some true→listed[3]? = some true)∧(listed[12]? = some true→listed[11]? = some true)∧(listed[17]? = some true→listed[16]? = some true)∧(listed[16]? = some true→listed[15]? = some true)
section
variable{w Z W W':World}{S D li n:Nat}{rv tv bv:Value}{rs ts:List Int}{bs:List BxQ}{r q:Int}{b:BxQ}{listed:Array Bool}{v:Nat→Value}
theorem R12.put(h:R12 w Z S D li n rv tv bv rs ts bs r q b listed v W){i:Nat}{u:Value}(hp:P12 S D li n rv tv bv r q b i u)(m:Nat)(hm:(listed.setIfInBounds i true)[m]? = some true):P12 S D li n rv tv bv r q b m (updC v i u m):=by
 by_cases e:m=i
 ·subst e;rw [updC_eq];exact hp
 ·rw [updC_ne e];exact h.all m ((set_at m hm).resolve_left e)
theorem not_yet{l:Array Bool}{a b:Nat}(h:l[a]? = some true→l[b]? = some true)(hb:l[b]? = some false)(ha:a<l.size):l[a]? = some false:=by
 have e:l[a]? = some l[a]:=Array.getElem?_eq_getElem ha
 cases hv:l[a] with
 | false=>rw [e,hv]
 | true =>
  rw [hv] at e
  have:=h e
  rw [hb] at this
  cases this
theorem R12.step(h:R12 w Z S D li n rv tv bv rs ts bs r q b listed v W){i:Nat}{u:Value}(hi:i≠3∧i≠4∧i≠11∧i≠12∧i≠16∧i≠17)(hb:Below W.heap.size W W')(hp:P12 S D li n rv tv bv r q b i u):R12 w Z S D li n rv tv bv rs ts bs r q b (listed.setIfInBounds i true) (updC v i u) W':=by
 obtain ⟨i3,i4,i11,i12,i16,i17⟩:=hi
 refine ⟨h.put hp,h.bel.trans (hb.mono h.bel.size),fun g cs hc=>(h.st g cs hc).below hb (h.st g cs hc).lt,fun cs hc=>(h.dr cs hc).below hb (h.dr cs hc).lt,fun X cs h1 h2 h3=>?_,?_,?_,?_,Nat.le_trans h.sz hb.size,?_⟩
 ·rcases h.bx X cs h1 h2 h3 with h4|h4
  ·exact .inl (h4.below hb h4.lt)
  ·exact .inr (set_keep h4)
 ·rw [Array.getElem?_setIfInBounds_ne i4,Array.getElem?_setIfInBounds_ne i3,updC_ne (Ne.symm i3),updC_ne (Ne.symm i4)];exact h.r.below hb
 ·rw [Array.getElem?_setIfInBounds_ne i12,Array.getElem?_setIfInBounds_ne i11,updC_ne (Ne.symm i11),updC_ne (Ne.symm i12)];exact h.t.below hb
 ·rw [Array.getElem?_setIfInBounds_ne i17,Array.getElem?_setIfInBounds_ne i16,updC_ne (Ne.symm i16),updC_ne (Ne.symm i17)];exact h.b.below hb
 ·exact ⟨fun hz=>set_keep (h.o.1 ((set_at 4 hz).resolve_left (Ne.symm i4))),fun hz=>set_keep (h.o.2.1 ((set_at 12 hz).resolve_left (Ne.symm i12))),fun hz=>set_keep (h.o.2.2.1 ((set_at 17 hz).resolve_left (Ne.symm i17))),fun hz=>set_keep (h.o.2.2.2 ((set_at 16 hz).resolve_left (Ne.symm i16)))⟩
theorem R12.new_r(h:R12 w Z S D li n rv tv bv rs ts bs r q b listed v W)(hf:listed[4]? = some false)(hl:3<listed.size)(hw:W'=W.alloc (.cells [.int .i64 r].toArray 3)):R12 w Z S D li n rv tv bv rs ts bs r q b (listed.setIfInBounds 3 true) (updC v 3 (.slice (some ⟨W.heap.size,0,none⟩) 1 1)) W':=by
 have hb:Below W.heap.size W W':=by rw [hw];exact (Below.refl _ _).alloc (Nat.le_refl _) _
 refine ⟨h.put rfl,h.bel.trans (hb.mono h.bel.size),fun g cs hc=>(h.st g cs hc).below hb (h.st g cs hc).lt,fun cs hc=>(h.dr cs hc).below hb (h.dr cs hc).lt,fun X cs h1 h2 h3=>?_,?_,?_,?_,Nat.le_trans h.sz hb.size,?_⟩
 ·rcases h.bx X cs h1 h2 h3 with h4|h4
  ·exact .inl (h4.below hb h4.lt)
  ·exact .inr (set_keep h4)
 ·rw [Array.getElem?_setIfInBounds_ne (by decide),Array.getElem?_setIfInBounds_self_of_lt hl,updC_eq,updC_ne (by decide)]
  refine ⟨fun h1=>own_below (h.r.cur h1) hb,fun _ _=>?_,fun h1=>by rw [hf] at h1;cases h1⟩
  rw [hw]
  exact Blk.new _ _ _
 ·rw [Array.getElem?_setIfInBounds_ne (by decide),Array.getElem?_setIfInBounds_ne (by decide),updC_ne (by decide),updC_ne (by decide)];exact h.t.below hb
 ·rw [Array.getElem?_setIfInBounds_ne (by decide),Array.getElem?_setIfInBounds_ne (by decide),updC_ne (by decide),updC_ne (by decide)];exact h.b.below hb
 ·exact ⟨fun _=>Array.getElem?_setIfInBounds_self_of_lt hl,fun hz=>set_keep (h.o.2.1 ((set_at 12 hz).resolve_left (by decide))),fun hz=>set_keep (h.o.2.2.1 ((set_at 17 hz).resolve_left (by decide))),fun hz=>set_keep (h.o.2.2.2 ((set_at 16 hz).resolve_left (by decide)))⟩
theorem R12.app_r(h:R12 w Z S D li n rv tv bv rs ts bs r q b listed v W)(hf:listed[4]? = some false)(hd:listed[3]? = some true){g cap:Nat}(hg:W.grownBy W' rv.ownBlock)(ho:W'.ownsRow w.heap.size 3 1 (.slice (some ⟨g,0,none⟩) (n+1) cap) (n+1) ((rs.map tcell)++[.int .i64 r])):R12 w Z S D li n rv tv bv rs ts bs r q b (listed.setIfInBounds 4 true) (updC v 4 (.slice (some ⟨g,0,none⟩) (n+1) cap)) W':=by
 have hl:4<listed.size:=(Array.getElem?_eq_some_iff.1 hf).1
 have hc:=h.r.cur hf
 refine ⟨h.put rfl,?_,fun q cs hd=>(hg.block _ (h.st q cs hd).lt (own_blk_ne hc (h.st q cs hd) (by decide))).trans (h.st q cs hd),fun cs hd=>(hg.block _ (h.dr cs hd).lt (own_blk_ne hc (h.dr cs hd) (by decide))).trans (h.dr cs hd),fun X cs h1 h2 h3=>?_,?_,?_,?_,Nat.le_trans h.sz hg.size,?_⟩
 ·refine h.bel.grown hg h.bel.size fun j ej=>?_
  rcases Nat.lt_or_ge j w.heap.size with h'|h'
  ·exact absurd ej.symm (own_ge hc h')
  ·exact h'
 ·rcases h.bx X cs h1 h2 h3 with h4|h4
  ·exact .inl ((hg.block _ h4.lt (own_blk_ne hc h4 (by decide))).trans h4)
  ·exact .inr (set_keep h4)
 ·rw [Array.getElem?_setIfInBounds_self_of_lt hl,updC_eq]
  exact ⟨fun h1=>(by cases h1),fun h1=>(by cases h1),fun _=>ho⟩
 ·rw [Array.getElem?_setIfInBounds_ne (by decide),Array.getElem?_setIfInBounds_ne (by decide),updC_ne (by decide),updC_ne (by decide)];exact h.t.other hc (by decide) hg
 ·rw [Array.getElem?_setIfInBounds_ne (by decide),Array.getElem?_setIfInBounds_ne (by decide),updC_ne (by decide),updC_ne (by decide)];exact h.b.other hc (by decide) hg
 ·exact ⟨fun _=>set_keep hd,fun hz=>set_keep (h.o.2.1 ((set_at 12 hz).resolve_left (by decide))),fun hz=>set_keep (h.o.2.2.1 ((set_at 17 hz).resolve_left (by decide))),fun hz=>set_keep (h.o.2.2.2 ((set_at 16 hz).resolve_left (by decide)))⟩
theorem R12.new_t(h:R12 w Z S D li n rv tv bv rs ts bs r q b listed v W)(hf:listed[12]? = some false)(hl:11<listed.size)(hw:W'=W.alloc (.cells [.int .i64 q].toArray 2)):R12 w Z S D li n rv tv bv rs ts bs r q b (listed.setIfInBounds 11 true) (updC v 11 (.slice (some ⟨W.heap.size,0,none⟩) 1 1)) W':=by
 have hb:Below W.heap.size W W':=by rw [hw];exact (Below.refl _ _).alloc (Nat.le_refl _) _
 refine ⟨h.put rfl,h.bel.trans (hb.mono h.bel.size),fun g cs hc=>(h.st g cs hc).below hb (h.st g cs hc).lt,fun cs hc=>(h.dr cs hc).below hb (h.dr cs hc).lt,fun X cs h1 h2 h3=>?_,?_,?_,?_,Nat.le_trans h.sz hb.size,?_⟩
 ·rcases h.bx X cs h1 h2 h3 with h4|h4
  ·exact .inl (h4.below hb h4.lt)
  ·exact .inr (set_keep h4)
 ·rw [Array.getElem?_setIfInBounds_ne (by decide),Array.getElem?_setIfInBounds_ne (by decide),updC_ne (by decide),updC_ne (by decide)];exact h.r.below hb
 ·rw [Array.getElem?_setIfInBounds_ne (by decide),Array.getElem?_setIfInBounds_self_of_lt hl,updC_eq,updC_ne (by decide)]
  refine ⟨fun h1=>own_below (h.t.cur h1) hb,fun _ _=>?_,fun h1=>by rw [hf] at h1;cases h1⟩
  rw [hw]
  exact Blk.new _ _ _
 ·rw [Array.getElem?_setIfInBounds_ne (by decide),Array.getElem?_setIfInBounds_ne (by decide),updC_ne (by decide),updC_ne (by decide)];exact h.b.below hb
 ·exact ⟨fun hz=>set_keep (h.o.1 ((set_at 4 hz).resolve_left (by decide))),fun _=>Array.getElem?_setIfInBounds_self_of_lt hl,fun hz=>set_keep (h.o.2.2.1 ((set_at 17 hz).resolve_left (by decide))),fun hz=>set_keep (h.o.2.2.2 ((set_at 16 hz).resolve_left (by decide)))⟩
theorem R12.app_t(h:R12 w Z S D li n rv tv bv rs ts bs r q b listed v W)(hf:listed[12]? = some false)(hd:listed[11]? = some true){g cap:Nat}(hg:W.grownBy W' tv.ownBlock)(ho:W'.ownsRow w.heap.size 2 1 (.slice (some ⟨g,0,none⟩) ((n+1)+1) cap) ((n+1)+1) ((ts.map tcell)++[.int .i64 q])):R12 w Z S D li n rv tv bv rs ts bs r q b (listed.setIfInBounds 12 true) (updC v 12 (.slice (some ⟨g,0,none⟩) ((n+1)+1) cap)) W':=by
 have hl:12<listed.size:=(Array.getElem?_eq_some_iff.1 hf).1
 have hc:=h.t.cur hf
 refine ⟨h.put rfl,?_,fun q cs hd=>(hg.block _ (h.st q cs hd).lt (own_blk_ne hc (h.st q cs hd) (by decide))).trans (h.st q cs hd),fun cs hd=>(hg.block _ (h.dr cs hd).lt (own_blk_ne hc (h.dr cs hd) (by decide))).trans (h.dr cs hd),fun X cs h1 h2 h3=>?_,?_,?_,?_,Nat.le_trans h.sz hg.size,?_⟩
 ·refine h.bel.grown hg h.bel.size fun j ej=>?_
  rcases Nat.lt_or_ge j w.heap.size with h'|h'
  ·exact absurd ej.symm (own_ge hc h')
  ·exact h'
 ·rcases h.bx X cs h1 h2 h3 with h4|h4
  ·exact .inl ((hg.block _ h4.lt (own_blk_ne hc h4 (by decide))).trans h4)
  ·exact .inr (set_keep h4)
 ·rw [Array.getElem?_setIfInBounds_ne (by decide),Array.getElem?_setIfInBounds_ne (by decide),updC_ne (by decide),updC_ne (by decide)];exact h.r.other hc (by decide) hg
 ·rw [Array.getElem?_setIfInBounds_self_of_lt hl,updC_eq]
  exact ⟨fun h1=>(by cases h1),fun h1=>(by cases h1),fun _=>ho⟩
 ·rw [Array.getElem?_setIfInBounds_ne (by decide),Array.getElem?_setIfInBounds_ne (by decide),updC_ne (by decide),updC_ne (by decide)];exact h.b.other hc (by decide) hg
 ·exact ⟨fun hz=>set_keep (h.o.1 ((set_at 4 hz).resolve_left (by decide))),fun _=>set_keep hd,fun hz=>set_keep (h.o.2.2.1 ((set_at 17 hz).resolve_left (by decide))),fun hz=>set_keep (h.o.2.2.2 ((set_at 16 hz).resolve_left (by decide)))⟩
theorem R12.new_b(h:R12 w Z S D li n rv tv bv rs ts bs r q b listed v W)(hf:listed[17]? = some false)(hl:16<listed.size)(hd:listed[15]? = some true)(hw:W'=W.alloc (.cells (bxC b).toArray 101)):R12 w Z S D li n rv tv bv rs ts bs r q b (listed.setIfInBounds 16 true) (updC v 16 (.slice (some ⟨W.heap.size,0,none⟩) 1 1)) W':=by
 have hb:Below W.heap.size W W':=by rw [hw];exact (Below.refl _ _).alloc (Nat.le_refl _) _
 refine ⟨h.put rfl,h.bel.trans (hb.mono h.bel.size),fun g cs hc=>(h.st g cs hc).below hb (h.st g cs hc).lt,fun cs hc=>(h.dr cs hc).below hb (h.dr cs hc).lt,fun X cs h1 h2 h3=>?_,?_,?_,?_,Nat.le_trans h.sz hb.size,?_⟩
 ·rcases h.bx X cs h1 h2 h3 with h4|h4
  ·exact .inl (h4.below hb h4.lt)
  ·exact .inr (set_keep h4)
 ·rw [Array.getElem?_setIfInBounds_ne (by decide),Array.getElem?_setIfInBounds_ne (by decide),updC_ne (by decide),updC_ne (by decide)];exact h.r.below hb
 ·rw [Array.getElem?_setIfInBounds_ne (by decide),Array.getElem?_setIfInBounds_ne (by decide),updC_ne (by decide),updC_ne (by decide)];exact h.t.below hb
 ·rw [Array.getElem?_setIfInBounds_ne (by decide),Array.getElem?_setIfInBounds_self_of_lt hl,updC_eq,updC_ne (by decide)]
  refine ⟨fun h1=>own_below (h.b.cur h1) hb,fun _ _=>?_,fun h1=>by rw [hf] at h1;cases h1⟩
  rw [hw]
  exact Blk.new _ _ _
 ·exact ⟨fun hz=>set_keep (h.o.1 ((set_at 4 hz).resolve_left (by decide))),fun hz=>set_keep (h.o.2.1 ((set_at 12 hz).resolve_left (by decide))),fun _=>Array.getElem?_setIfInBounds_self_of_lt hl,fun _=>set_keep hd⟩
theorem R12.app_b(h:R12 w Z S D li n rv tv bv rs ts bs r q b listed v W)(hf:listed[17]? = some false)(hd:listed[16]? = some true){g cap:Nat}(hg:W.grownBy W' bv.ownBlock)(ho:W'.ownsRow w.heap.size 101 4 (.slice (some ⟨g,0,none⟩) (n+1) cap) (n+1) ((bs.flatMap bxC)++(bxC b))):R12 w Z S D li n rv tv bv rs ts bs r q b (listed.setIfInBounds 17 true) (updC v 17 (.slice (some ⟨g,0,none⟩) (n+1) cap)) W':=by
 have hl:17<listed.size:=(Array.getElem?_eq_some_iff.1 hf).1
 have hc:=h.b.cur hf
 refine ⟨h.put rfl,?_,fun q cs hd=>(hg.block _ (h.st q cs hd).lt (own_blk_ne hc (h.st q cs hd) (by decide))).trans (h.st q cs hd),fun cs hd=>(hg.block _ (h.dr cs hd).lt (own_blk_ne hc (h.dr cs hd) (by decide))).trans (h.dr cs hd),fun X cs h1 h2 h3=>?_,?_,?_,?_,Nat.le_trans h.sz hg.size,?_⟩
 ·refine h.bel.grown hg h.bel.size fun j ej=>?_
  rcases Nat.lt_or_ge j w.heap.size with h'|h'
  ·exact absurd ej.symm (own_ge hc h')
  ·exact h'
 ·exact .inr (Array.getElem?_setIfInBounds_self_of_lt hl)
 ·rw [Array.getElem?_setIfInBounds_ne (by decide),Array.getElem?_setIfInBounds_ne (by decide),updC_ne (by decide),updC_ne (by decide)];exact h.r.other hc (by decide) hg
 ·rw [Array.getElem?_setIfInBounds_ne (by decide),Array.getElem?_setIfInBounds_ne (by decide),updC_ne (by decide),updC_ne (by decide)];exact h.t.other hc (by decide) hg
 ·rw [Array.getElem?_setIfInBounds_self_of_lt hl,updC_eq]
  exact ⟨fun h1=>(by cases h1),fun h1=>(by cases h1),fun _=>ho⟩
 ·exact ⟨fun hz=>set_keep (h.o.1 ((set_at 4 hz).resolve_left (by decide))),fun hz=>set_keep (h.o.2.1 ((set_at 12 hz).resolve_left (by decide))),fun _=>set_keep hd,fun hz=>set_keep (h.o.2.2.2 ((set_at 16 hz).resolve_left (by decide)))⟩
end
theorem row_news{W:World}{b:Nat}{e:TypeId}{news:List Value}(h:Blk W b e news.toArray):∀(j:Nat) (u:Value),news[j]? = some u→W.cell? ((⟨b,0,none⟩:Addr).add j)=some u:=fun j u hj=>by
 have:=h.cell j
 rw [List.getElem?_toArray,hj] at this
 have e:(⟨b,0,none⟩:Addr).add j=⟨b,j,none⟩:=by
  simp [Addr.add]
  intro h
  omega
 rw [e]
 exact this
theorem info_int:(Tryz.prog.info? 3).map (fun i=>(i.zero,i.size,i.bytes))=some (some (.int .i64 0),1,8):=by kernel_rfl
theorem info_i64:(Tryz.prog.info? 2).map (fun i=>(i.zero,i.size,i.bytes))=some (some (.int .i64 0),1,8):=by kernel_rfl
theorem info_box:(Tryz.prog.info? 101).map (fun i=>(i.zero,i.size,i.bytes))=some (some (.agg #[.int .i64 0,.int .i64 0,.int .i64 0,.int .i64 0]),4,32):=by kernel_rfl
end Go.Proofs.YtpgckpafjiojfaaGreatDoor.AD
