/- The reference's All: an append of a whole row to an empty one, behind a draw. Contract of the reference's All. -/
import Derived.Test.YtpgckpafjiojfaaGreatDoorAKG
import Derived.Deep.AppendSrc
import Derived.Deep.Upon
import Derived.Test.YtpgckpafjiojfaaGreatDoorAJp
namespace Go.Proofs.YtpgckpafjiojfaaGreatDoor.AD
open Go Go.RowKit BW
open BK (Bx RBoxAt Blk only_refl only_drew only_drewN only_setCell only_trans only_of_below only_alloc below_drewN)
theorem wp_append_row{P:Program}{w:World}{o:Oper}{a:Act}{K:Act→World→Prop}{Q:Exit→Act→World→Prop}(s x:Operand)(t:TypeId)
 (ho:o.op=.call { callee:=.builtin .append,args:=#[s,x],argTypes:=#[t,t] })
 (base:Nat) (e:TypeId) (i:TypeInfo) (z:Value) (size bytes:Nat) (ht:P.underlying t=some (.slice e)) (hi:P.info? e=some i) (hz:i.zero=some z)
 (hsize:i.size=size) (hby:i.bytes=bytes) (hzs:z.cells.size=size) (hsz:0<size)
 (v:Value) (hs:a.eval s=v) (hown:w.ownsRow base e size v 0 [])
 (ao:Option Addr) (m c:Nat) (news:List Value) (hx:a.eval x=.slice ao m c) (hl:news.length=m*size) (hnews:∀j u,news[j]? = some u→∃ad,ao=some ad∧w.cell? (ad.add j)=some u) (h1:∀u∈news,u.oneCell'=true)
 (h63:m≤maxLen) (hbytes:m*bytes≤140737488355328) (hbase:base≤w.heap.size)
 (h:∀v' w',w'.ownsRow base e size v' m news→w.grownBy w' v.ownBlock→K (a.put o.dst v') w'):o.wp P a w K Q:=by
 rcases Nat.eq_zero_or_pos m with rfl|hm
 ·obtain rfl:news=[]:=List.eq_nil_of_length_eq_zero (by rw [hl,Nat.zero_mul])
  have hsrc:Go.Src P i.size t (.slice ao 0 c) 0 [] w:=by
   cases ao with
   | none=>exact Go.Src.ofNil w ht c
   | some ad=>exact Go.Src.ofSlice w ht ad 0 c [] (by simp) (fun j u hj=>by simp at hj) (fun u hu=>by cases hu)
  have hv:∃b cap,v=.slice b 0 cap:=by
   rcases hown.2 with ⟨rfl,_⟩|⟨g,cap,cur,rfl,_⟩
   ·exact ⟨_,_,rfl⟩
   ·exact ⟨_,_,rfl⟩
  obtain ⟨b,cap,rfl⟩:=hv
  have hr:=Go.run_append_nothing (P:=P) w t t o.type e i ht hi b 0 cap (Nat.zero_le _) _ hsrc
  unfold Oper.wp execOp
  simp only [ho,resolve,invoke,builtin,Sem.run_bind,Sem.run_pure,Result.andThen_ok,List.map_toArray,List.map_cons,List.map_nil,hs,hx,hr]
  exact h _ _ hown (only_refl w _)
 ·obtain ⟨ad,rfl⟩:∃ad,ao=some ad:=by
   have h0:0<news.length:=by rw [hl];exact Nat.mul_pos hm hsz
   obtain ⟨ad,e,_⟩:=hnews 0 _ (List.getElem?_eq_getElem h0)
   exact ⟨ad,e⟩
  refine wp_append_lies w s x t ho base e i z size bytes ht hi hz hsize hby hzs hsz v 0 [] hs hown ad m c news hx hl (fun j u hj=>?_) h1 hm (by simpa using h63) (by simpa using hbytes) hbase _ rfl ?_
  ·obtain ⟨ad',e,hc⟩:=hnews j u hj
   injection e with e
   subst e
   exact hc
  ·intro g cap w' ho' hg _ _
   rw [List.nil_append] at ho'
   rw [Nat.zero_add] at ho' ⊢
   exact h _ _ ho' hg
def Q3(G lm:Nat)(ra:Option Addr)(n rc:Nat)(q:Int)(i:Nat)(v:Value):Prop:=match i with
 | 1=>v=.pointer (some ⟨G,0,none⟩)
 | 2=>v=.pointer (some ⟨G,0,none⟩)
 | 3=>v=.pointer (some ⟨G,9,none⟩)
 | 4=>v=.slice ra n rc
 | 6=>v=.pointer (some ⟨G,0,none⟩)
 | 7=>v=.pointer (some ⟨G,0,none⟩)
 | 8=>v=.pointer (some ⟨G,10,none⟩)
 | 9=>v=.pointer (some ⟨lm,0,none⟩)
 | 10=>v=.int .i64 q
 | _=>True
structure R3(Z:World)(G lm:Nat)(ra:Option Addr)(n rc:Nat)(rs:List Int)(q:Int)(listed:Array Bool)(v:Nat→Value)(W:World):Prop where
 pl:∀i,listed[i]? = some true→Q3 G lm ra n rc q i (v i)
 bel:Below Z.heap.size Z W
 r0:listed[0]? = some true→listed[5]? = some false→W.ownsRow Z.heap.size 3 1 (v 0) 0 []
 r5:listed[5]? = some true→W.ownsRow Z.heap.size 3 1 (v 5) n (rs.map tcell)
 t11:listed[11]? = some true→W.ownsRow Z.heap.size 2 1 (v 11) 1 [.int .i64 q]
 c12:listed[12]? = some true→v 12=.agg #[v 5,v 11,.slice none 0 0]∧listed[5]? = some true∧listed[11]? = some true
 s13:listed[13]? = some true→∃b,v 13=.pointer (some ⟨b,0,none⟩)∧Z.heap.size≤b∧Blk W b 95 #[.slice none 0 0,.slice none 0 0,.slice none 0 0]
section
variable{Z W W':World}{G lm:Nat}{ra:Option Addr}{n rc:Nat}{rs:List Int}{q:Int}{listed:Array Bool}{v:Nat→Value}
theorem R3.step(h:R3 Z G lm ra n rc rs q listed v W){i:Nat}{u:Value}(hb:Below W.heap.size W W')(hp:Q3 G lm ra n rc q i u)(h5:i≠5)(h0:i=0→W'.ownsRow Z.heap.size 3 1 u 0 [])(h11:i=11→W'.ownsRow Z.heap.size 2 1 u 1 [.int .i64 q])(h12:i=12→u=.agg #[v 5,v 11,.slice none 0 0]∧listed[5]? = some true∧listed[11]? = some true)
 (h13:i=13→∃b,u=.pointer (some ⟨b,0,none⟩)∧Z.heap.size≤b∧Blk W' b 95 #[.slice none 0 0,.slice none 0 0,.slice none 0 0]) (hli:listed[i]? = some false):R3 Z G lm ra n rc rs q (listed.setIfInBounds i true) (updC v i u) W':=by
 have t:∀{j},j≠i→(listed.setIfInBounds i true)[j]? = some true→listed[j]? = some true:=fun hj hz=>(set_at _ hz).resolve_left hj
 refine ⟨fun m hm=>?_,h.bel.trans (hb.mono h.bel.size),fun hz hz5=>?_,fun hz=>?_,fun hz=>?_,fun hz=>?_,fun hz=>?_⟩
 ·by_cases e:m=i
  ·subst e;rw [updC_eq];exact hp
  ·rw [updC_ne e];exact h.pl m (t e hm)
 ·by_cases e:0=i
  ·rw [←e,updC_eq];exact h0 e.symm
  ·rw [updC_ne e]
   rw [Array.getElem?_setIfInBounds_ne h5] at hz5
   exact own_below (h.r0 (t e hz) hz5) hb
 ·rw [updC_ne (Ne.symm h5)]
  exact own_below (h.r5 (t (Ne.symm h5) hz)) hb
 ·by_cases e:11=i
  ·rw [←e,updC_eq];exact h11 e.symm
  ·rw [updC_ne e];exact own_below (h.t11 (t e hz)) hb
 ·by_cases e:12=i
  ·obtain ⟨a1,a2,a3⟩:=h12 e.symm
   rw [←e,updC_eq,updC_ne (by decide),updC_ne (by decide)]
   exact ⟨a1,set_keep a2,set_keep a3⟩
  ·obtain ⟨a1,a2,a3⟩:=h.c12 (t e hz)
   have e11:11≠i:=fun e'=>by rw [e'] at a3;rw [a3] at hli;cases hli
   rw [updC_ne e,updC_ne (Ne.symm h5),updC_ne e11]
   exact ⟨a1,set_keep a2,set_keep a3⟩
 ·by_cases e:13=i
  ·rw [←e,updC_eq];exact h13 e.symm
  ·rw [updC_ne e]
   obtain ⟨b,a1,a2,a3⟩:=h.s13 (t e hz)
   exact ⟨b,a1,a2,a3.below hb a3.lt⟩
theorem R3.app(h:R3 Z G lm ra n rc rs q listed v W){u:Value}(h0:listed[0]? = some true)(hli:listed[5]? = some false)(ho:W'.ownsRow Z.heap.size 3 1 u n (rs.map tcell))(hg:W.grownBy W' (v 0).ownBlock):R3 Z G lm ra n rc rs q (listed.setIfInBounds 5 true) (updC v 5 u) W':=by
 have t:∀{j},j≠5→(listed.setIfInBounds 5 true)[j]? = some true→listed[j]? = some true:=fun hj hz=>(set_at _ hz).resolve_left hj
 have hl:5<listed.size:=(Array.getElem?_eq_some_iff.1 hli).1
 have hr:=h.r0 h0 hli
 refine ⟨fun m hm=>?_,h.bel.grown hg h.bel.size fun k hk=>own_base hr k hk,fun hz hz5=>?_,fun hz=>?_,fun hz=>?_,fun hz=>?_,fun hz=>?_⟩
 ·by_cases e:m=5
  ·subst e;exact trivial
  ·rw [updC_ne e];exact h.pl m (t e hm)
 ·rw [Array.getElem?_setIfInBounds_self_of_lt hl] at hz5;cases hz5
 ·rw [updC_eq];exact ho
 ·rw [updC_ne (by decide)];exact own_other (h.t11 (t (by decide) hz)) hr (by decide) hg
 ·have:=(h.c12 (t (by decide) hz)).2.1
  rw [hli] at this;cases this
 ·rw [updC_ne (by decide)]
  obtain ⟨b,a1,a2,a3⟩:=h.s13 (t (by decide) hz)
  exact ⟨b,a1,a2,(hg.block _ a3.lt (own_blk_ne hr a3 (by decide))).trans a3⟩
end
structure AlR(w:World)(S:Nat)(rv tv bv:Value)(rs ts:List Int)(bs:List BxQ)(W:World):Prop where
 st:Blk W S 95 #[rv,tv,bv]
 r:W.ownsRow w.heap.size 3 1 rv rs.length (rs.map tcell)
 t:W.ownsRow w.heap.size 2 1 tv ts.length (ts.map tcell)
 b:W.ownsRow w.heap.size 102 4 bv bs.length (bs.flatMap bxC)
 z:Blk W w.heap.size 95 #[.slice none 0 0,.slice none 0 0,.slice none 0 0]
 lo:w.heap.size<S
 bel:Below w.heap.size w W
theorem AlR.next{w W W':World}{S:Nat}{rv tv bv:Value}{rs ts:List Int}{bs:List BxQ}(h:AlR w S rv tv bv rs ts bs W)(hb:Below W.heap.size W W'):AlR w S rv tv bv rs ts bs W':=⟨h.st.below hb h.st.lt,own_below h.r hb,own_below h.t hb,own_below h.b hb,h.z.below hb h.z.lt,h.lo,h.bel.trans (hb.mono h.bel.size)⟩
theorem own_lower{B B':Nat}{e:TypeId}{s n:Nat}{v:Value}{xs:List Value}{w:World}(h:w.ownsRow B e s v n xs)(hb:B'≤B):w.ownsRow B' e s v n xs :=
 ⟨h.1,h.2.imp id fun ⟨g,cap,cur,h1,h2,h3⟩=>⟨g,cap,cur,h1,Nat.le_trans hb h2,h3⟩⟩
theorem row1_own{W:World}{B n:Nat}{e:TypeId}{v:Value}{es:List Int}(h:W.ownsRow B e 1 v n (es.map tcell)):∃a cap,v=.slice a n cap∧n=es.length∧Row1 W a es:=by
 have hl:n=es.length:=by have:=h.1;rw [List.length_map] at this;omega
 obtain ⟨a,cap,e1,h1⟩:=own_shape h
 refine ⟨a,cap,e1,hl,fun k hk=>?_⟩
 obtain ⟨b,cs,e2,-,h2,h3⟩:=h1 (by omega)
 refine ⟨b,0,e2,?_⟩
 rw [Nat.zero_add,h2.cell]
 exact h3 k _ (by rw [List.getElem?_map,List.getElem?_eq_getElem hk];rfl)
theorem row4_own{W:World}{B n:Nat}{e:TypeId}{v:Value}{bs:List BxQ}(h:W.ownsRow B e 4 v n (bs.flatMap bxC)):∃a cap,v=.slice a n cap∧n=bs.length∧Row4 W a bs:=by
 have hl:n=bs.length:=by have:=h.1;rw [bxC_len] at this;omega
 obtain ⟨-,h⟩:=h
 rcases h with ⟨rfl,h0⟩|⟨g,cap,cur,rfl,hb,hg,hn,hc,hs,ht⟩
 ·exact ⟨none,0,by rw [h0],hl,fun k hk=>absurd hk (by omega)⟩
 ·refine ⟨_,cap,rfl,hl,fun k hk=>⟨g,0,rfl,fun i hi=>?_⟩⟩
  have h1:=bxC_get bs k i hk hi
  rw [←ht,List.getElem?_take,if_pos (by omega)] at h1
  rw [Nat.zero_add,Blk.cell (show Blk W g e cur from hg),←h1,Array.getElem?_toList]
theorem own_row1{W:World}{B n m c:Nat}{e:TypeId}{a:Option Addr}{es:List Int}(h:W.ownsRow B e 1 (.slice a m c) n (es.map tcell)):Row1 W a es:=by
 obtain ⟨a',c',e1,-,h1⟩:=row1_own h
 injection e1 with e2
 rw [e2];exact h1
theorem own_row4{W:World}{B n m c:Nat}{e:TypeId}{a:Option Addr}{bs:List BxQ}(h:W.ownsRow B e 4 (.slice a m c) n (bs.flatMap bxC)):Row4 W a bs:=by
 obtain ⟨a',c',e1,-,h1⟩:=row4_own h
 injection e1 with e2
 rw [e2];exact h1
def StR(W:World)(v:Value)(rs ts:List Int)(bs:List BxQ):Prop:=∃a1 c1 a2 c2 a3 c3,v=.agg #[.slice a1 rs.length c1,.slice a2 ts.length c2,.slice a3 bs.length c3]∧Row1 W a1 rs∧Row1 W a2 ts∧Row4 W a3 bs
def Q7t(S G k li ob n oc:Nat)(tv:Value)(q:Int)(i:Nat)(v:Value):Prop:=match i with
 | 0=>v=.pointer (some ⟨S,1,none⟩)
 | 1=>v=tv
 | 2=>v=.pointer (some ⟨G,0,none⟩)
 | 3=>v=.pointer (some ⟨G,0,none⟩)
 | 4=>v=.pointer (some ⟨G,11,none⟩)
 | 5=>v=.slice (some ⟨ob,0,none⟩) n oc
 | 6=>v=.int .i64 k
 | 7=>v=.pointer (some ⟨ob,k,none⟩)
 | 8=>v=.pointer (some ⟨li,0,none⟩)
 | 9=>v=.int .i64 q
 | 10=>v=.slice (some ⟨blkS v,0,none⟩) 1 1
 | _=>True
structure R7t(w:World)(S G k li ob n oc:Nat)(rv tv bv:Value)(rs ts:List Int)(bs:List BxQ)(q:Int)(listed:Array Bool)(v:Nat→Value)(W:World):Prop where
 pl:∀i,listed[i]? = some true→Q7t S G k li ob n oc tv q i (v i)
 st:Blk W S 95 #[rv,tv,bv]
 r:W.ownsRow w.heap.size 3 1 rv rs.length (rs.map tcell)
 b:W.ownsRow w.heap.size 102 4 bv bs.length (bs.flatMap bxC)
 z:Blk W w.heap.size 95 #[.slice none 0 0,.slice none 0 0,.slice none 0 0]
 t0:listed[11]? = some false→W.ownsRow w.heap.size 2 1 tv ts.length (ts.map tcell)
 tn:listed[10]? = some true→listed[11]? = some false→Blk W (blkS (v 10)) 2 #[.int .i64 q]
 t1:listed[11]? = some true→W.ownsRow w.heap.size 2 1 (v 11) (ts.length+1) (ts.map tcell++[.int .i64 q])
 bel:Below w.heap.size w W
 o:listed[11]? = some true→listed[10]? = some true
section
variable{w W W':World}{S G k li ob n oc:Nat}{rv tv bv:Value}{rs ts:List Int}{bs:List BxQ}{q:Int}{listed:Array Bool}{v:Nat→Value}
theorem R7t.step(h:R7t w S G k li ob n oc rv tv bv rs ts bs q listed v W){i:Nat}{u:Value}(hb:Below W.heap.size W W')(hp:Q7t S G k li ob n oc tv q i u)(h11:i≠11)(h10:i=10→Blk W' (blkS u) 2 #[.int .i64 q]):R7t w S G k li ob n oc rv tv bv rs ts bs q (listed.setIfInBounds i true) (updC v i u) W':=by
 have t:∀{j},j≠i→(listed.setIfInBounds i true)[j]? = some true→listed[j]? = some true:=fun hj hz=>(set_at _ hz).resolve_left hj
 have n11:∀{y},(listed.setIfInBounds i true)[11]? = y→listed[11]? = y:=fun hz=>by rw [Array.getElem?_setIfInBounds_ne h11] at hz;exact hz
 refine ⟨fun m hm=>?_,h.st.below hb h.st.lt,own_below h.r hb,own_below h.b hb,h.z.below hb h.z.lt,fun hz=>own_below (h.t0 (n11 hz)) hb,fun hz hz2=>?_,fun hz=>?_,h.bel.trans (hb.mono h.bel.size),fun hz=>set_keep (h.o (n11 hz))⟩
 ·by_cases e:m=i
  ·subst e;rw [updC_eq];exact hp
  ·rw [updC_ne e];exact h.pl m (t e hm)
 ·by_cases e:10=i
  ·rw [←e,updC_eq];exact h10 e.symm
  ·rw [updC_ne e]
   have:=h.tn (t e hz) (n11 hz2)
   exact this.below hb this.lt
 ·rw [updC_ne (Ne.symm h11)];exact own_below (h.t1 (n11 hz)) hb
theorem R7t.app(h:R7t w S G k li ob n oc rv tv bv rs ts bs q listed v W){u:Value}(h10:listed[10]? = some true)(hli:listed[11]? = some false)(ho:W'.ownsRow w.heap.size 2 1 u (ts.length+1) (ts.map tcell++[.int .i64 q]))(hg:W.grownBy W' tv.ownBlock):R7t w S G k li ob n oc rv tv bv rs ts bs q (listed.setIfInBounds 11 true) (updC v 11 u) W':=by
 have t:∀{j},j≠11→(listed.setIfInBounds 11 true)[j]? = some true→listed[j]? = some true:=fun hj hz=>(set_at _ hz).resolve_left hj
 have hl:11<listed.size:=(Array.getElem?_eq_some_iff.1 hli).1
 have hr:=h.t0 hli
 have kp:∀{g:Nat} {t:TypeId} {cs:Array Value},Blk W g t cs→2≠t→Blk W' g t cs:=fun hk hne=>(hg.block _ hk.lt (own_blk_ne hr hk hne)).trans hk
 refine ⟨fun m hm=>?_,kp h.st (by decide),own_other h.r hr (by decide) hg,own_other h.b hr (by decide) hg,kp h.z (by decide),fun hz=>?_,fun _ hz2=>?_,fun _=>?_,h.bel.grown hg h.bel.size fun k hk=>own_base hr k hk,fun _=>set_keep h10⟩
 ·by_cases e:m=11
  ·subst e;exact trivial
  ·rw [updC_ne e];exact h.pl m (t e hm)
 ·rw [Array.getElem?_setIfInBounds_self_of_lt hl] at hz;cases hz
 ·rw [Array.getElem?_setIfInBounds_self_of_lt hl] at hz2;cases hz2
 ·rw [updC_eq];exact ho
end
open Go.Lib (hid)
set_option maxRecDepth 16000
set_option maxHeartbeats 40000000
theorem info_rbox:(Tryz.prog.info? 102).map (fun i=>(i.zero,i.size,i.bytes))=some (some (.agg #[.int .i64 0,.int .i64 0,.int .i64 0,.int .i64 0]),4,32):=by kernel_rfl
theorem four_news{W:World}{b:Nat}{t:TypeId}{q:BxQ}(h:Blk W b t #[.int .i64 q.1,.int .i64 q.2.1,.int .i64 q.2.2.1,.int .i64 q.2.2.2]):∀(j:Nat) (u:Value),(bxC q)[j]? = some u→W.cell? ((⟨b,0,none⟩:Addr).add j)=some u:=fun j u hj=>by
 match j,hj with
 | 0,hj=>simp [bxC] at hj;subst hj;exact h.cell 0
 | 1,hj=>simp [bxC] at hj;subst hj;exact h.cell 1
 | 2,hj=>simp [bxC] at hj;subst hj;exact h.cell 2
 | 3,hj=>simp [bxC] at hj;subst hj;exact h.cell 3
 | j+4,hj=>simp [bxC] at hj
theorem AlR.gateB{w X Y:World}{S:Nat}{rv tv bv:Value}{rs ts:List Int}{bs:List BxQ}(h:AlR w S rv tv bv rs ts bs X)(hg:X.grownBy Y bv.ownBlock):Blk Y S 95 #[rv,tv,bv]:=(hg.block _ h.st.lt (own_blk_ne h.b h.st (by decide))).trans h.st
theorem AlR.pushB{w X Y:World}{S:Nat}{rv tv bv v':Value}{rs ts:List Int}{bs:List BxQ}{q:BxQ}(h:AlR w S rv tv bv rs ts bs X)(hown:Y.ownsRow w.heap.size 102 4 v' (bs.length+1) (bs.flatMap bxC++bxC q))(hg:X.grownBy Y bv.ownBlock):AlR w S rv tv v' rs ts (bs++[q]) (Y.setCell ⟨S,2,none⟩ v'):=by
 have hst:=h.gateB hg
 have hn:w.heap.size≠S:=Nat.ne_of_lt h.lo
 refine ⟨by simpa using hst.set_ 2 v',own_set (own_other h.r h.b (by decide) hg) hst (by decide) 2 _,own_set (own_other h.t h.b (by decide) hg) hst (by decide) 2 _,?_,Blk.far ((hg.block _ h.z.lt (own_blk_ne h.b h.z (by decide))).trans h.z) hn _,h.lo,(h.bel.grown hg h.bel.size fun k hk=>own_base h.b k hk).setCell (Nat.le_of_lt h.lo) _⟩
 rw [List.flatMap_append,List.flatMap_singleton,List.length_append]
 exact own_set hown hst (by decide) 2 _
theorem rgall_ok{w:World}{L:RLy}{x:Gt}(h:RAt w L x):Calls Tryz.prog 32 #[.pointer (some ⟨L.g,0,none⟩)] w fun e w'=>(∃v,e=.returned v∧StR w' v x.runsL x.tatsL x.boxesL)∧Below w.heap.size w w':=by
 have H:=hid h
 have HN:=hid h.inv.n
 obtain ⟨W0,hW0⟩:∃W0,W0=w.alloc (.cells #[.slice none 0 0,.slice none 0 0,.slice none 0 0] 95):=⟨_,rfl⟩
 have hb0:Below w.heap.size w W0:=by rw [hW0];exact (Below.refl _ _).alloc (Nat.le_refl _) _
 have Z0:Hid (Blk W0 w.heap.size 95 #[.slice none 0 0,.slice none 0 0,.slice none 0 0]):=hid (by rw [hW0];exact Blk.new _ _ _)
 have HB0:=hid hb0
 have M:=hid (rgvalid_ok (h.below hb0))
 have HG:=hid (fun wx (hb:Below w.heap.size w wx)=>H.out.below hb)
 have HRR:Hid (∀wx,Below w.heap.size w wx→∀(j:Nat) (u:Value),(x.runsL.map tcell)[j]? = some u→∃ad,L.ra=some ad∧wx.cell? (ad.add j)=some u):=hid (fun wx hb j u hj=>by
  have hj':j<x.js.length:=by have:=(List.getElem?_eq_some_iff.1 hj).1;unfold Gt.runsL at this;simpa using this
  obtain ⟨rb,e,-,hc,-⟩:=(H.out.below hb).rr (List.getElem?_eq_getElem hj')
  refine ⟨_,e,?_⟩
  rw [Addr.add_lit,Nat.zero_add,hc]
  unfold Gt.runsL at hj
  rw [List.map_map,List.getElem?_map,List.getElem?_eq_getElem hj'] at hj
  exact hj)
 clear h
 go_enter Tryz.func32,Tryz.ntmps32
 go_upto_region 1 with fail
 rw [←hW0]
 clear hW0 hb0
 go_wp2_with fail
 refine (M.out).mono ?_
 rintro e_ w_ ⟨rfl,rfl⟩
 clear M
 go_upto_region 3 with fail
 obtain ⟨i0,hi0,hz0,hz1,hz2⟩:=info_parts info_cint
 have hn9:=HN.out
 have hml:x.js.length≤maxLen:=by unfold maxLen;omega
 have hmb:x.js.length*8≤140737488355328:=by omega
 refine wp_region_put_tail2 _ 14 _ (R:=R3 W0 L.g L.lm L.ra x.js.length L.rc x.runsL x.both.arr) (by rfl) (by kernel_rfl) (by kernel_rfl) (by kernel_rfl) (by kernel_rfl) (by kernel_rfl) (by kernel_rfl) (by kernel_rfl) (by kernel_rfl) ?_ ?_ ?_
 ·intro v _
  exact ⟨fun i hi=>(rep_not hi).elim,(Below.refl _ _).drew,fun hz=>(rep_not hz).elim,fun hz=>(rep_not hz).elim,fun hz=>(rep_not hz).elim,fun hz=>(rep_not hz).elim,fun hz=>(rep_not hz).elim⟩
 ·intro Q' K_ listed v wx i o hsz ho hli ha hR hK
  have HV:=hid hR
  have dep:=fun d hd=>HV.out.pl d (dep_listed ha d hd)
  have hi:i<14:=(List.getElem?_eq_some_iff.1 ho).1
  clear hR hsz
  obtain rfl|rfl|rfl|rfl|rfl|rfl|rfl|rfl|rfl|rfl|rfl|rfl|rfl|rfl:i=0∨i=1∨i=2∨i=3∨i=4∨i=5∨i=6∨i=7∨i=8∨i=9∨i=10∨i=11∨i=12∨i=13:=by omega
  ·-- operation 0
   cases ho
   simp only [pt] at hK ⊢
   go_simp
   exact hK _ _ (HV.out.step ((Below.refl _ _).alloc (Nat.le_refl _) _) trivial (by decide) (fun _=>by simpa using World.ownsRow_made wx #[] 0 HV.out.bel.size (Nat.zero_le _) rfl) (fun e=>by cases e) (fun e=>by cases e) (fun e=>by cases e) hli)
  ·-- operation 1
   cases ho
   simp only [pt] at hK ⊢
   go_simp
   exact hK _ _ (HV.out.step (Below.refl _ _) rfl (by decide) (fun e=>by cases e) (fun e=>by cases e) (fun e=>by cases e) (fun e=>by cases e) hli)
  ·-- operation 2
   cases ho
   have h1:v 1=_:=dep 1 (by kernel_rfl)
   simp only [pt,h1] at hK ⊢
   go_simp
   exact hK _ _ (HV.out.step (Below.refl _ _) rfl (by decide) (fun e=>by cases e) (fun e=>by cases e) (fun e=>by cases e) (fun e=>by cases e) hli)
  ·-- operation 3
   cases ho
   have h2:v 2=_:=dep 2 (by kernel_rfl)
   simp only [pt,h2] at hK ⊢
   go_simp
   exact hK _ _ (HV.out.step (Below.refl _ _) rfl (by decide) (fun e=>by cases e) (fun e=>by cases e) (fun e=>by cases e) (fun e=>by cases e) hli)
  ·-- operation 4
   cases ho
   have h3:v 3=_:=dep 3 (by kernel_rfl)
   have hG:=HG.out wx (HB0.out.trans (HV.out.bel.mono HB0.out.size))
   have c9:=hG.c9
   clear hG
   simp only [pt,h3] at hK ⊢
   go_simp
   exact hK _ _ (HV.out.step (Below.refl _ _) rfl (by decide) (fun e=>by cases e) (fun e=>by cases e) (fun e=>by cases e) (fun e=>by cases e) hli)
  ·-- operation 5
   cases ho
   have h4:v 4=_:=dep 4 (by kernel_rfl)
   have h0':=dep_listed ha 0 (by kernel_rfl)
   have hown:=HV.out.r0 h0' hli
   have hrun:=HRR.out wx (HB0.out.trans (HV.out.bel.mono HB0.out.size))
   simp only [pt,h4] at hK ⊢
   refine wp_append_row _ _ 39 (by rfl) W0.heap.size 3 i0 (.int .i64 0) 1 8 Tryz.underlying39 hi0 hz0 hz1 hz2 rfl (by decide) (v 0) (by rfl) hown L.ra x.js.length L.rc (x.runsL.map tcell) (by rfl) (by unfold Gt.runsL;simp) hrun (fun u hu=>by obtain ⟨y,-,rfl⟩:=List.mem_map.1 hu;rfl) hml hmb HV.out.bel.size ?_
   intro v8 w8 hown8 hgrow8
   exact hK _ _ (HV.out.app h0' hli hown8 hgrow8)
  ·-- operation 6
   cases ho
   simp only [pt] at hK ⊢
   go_simp
   exact hK _ _ (HV.out.step (Below.refl _ _) rfl (by decide) (fun e=>by cases e) (fun e=>by cases e) (fun e=>by cases e) (fun e=>by cases e) hli)
  ·-- operation 7
   cases ho
   have h6:v 6=_:=dep 6 (by kernel_rfl)
   simp only [pt,h6] at hK ⊢
   go_simp
   exact hK _ _ (HV.out.step (Below.refl _ _) rfl (by decide) (fun e=>by cases e) (fun e=>by cases e) (fun e=>by cases e) (fun e=>by cases e) hli)
  ·-- operation 8
   cases ho
   have h7:v 7=_:=dep 7 (by kernel_rfl)
   simp only [pt,h7] at hK ⊢
   go_simp
   exact hK _ _ (HV.out.step (Below.refl _ _) rfl (by decide) (fun e=>by cases e) (fun e=>by cases e) (fun e=>by cases e) (fun e=>by cases e) hli)
  ·-- operation 9
   cases ho
   have h8:v 8=_:=dep 8 (by kernel_rfl)
   have hG:=HG.out wx (HB0.out.trans (HV.out.bel.mono HB0.out.size))
   have c10:=hG.c10
   clear hG
   simp only [pt,h8] at hK ⊢
   go_simp
   exact hK _ _ (HV.out.step (Below.refl _ _) rfl (by decide) (fun e=>by cases e) (fun e=>by cases e) (fun e=>by cases e) (fun e=>by cases e) hli)
  ·-- operation 10
   cases ho
   have h9:v 9=_:=dep 9 (by kernel_rfl)
   have hT:=hid (rgtat_ok (HG.out wx (HB0.out.trans (HV.out.bel.mono HB0.out.size))).lm)
   simp only [pt,h9] at hK ⊢
   go_simp
   refine (hT.out).mono ?_
   rintro e_ w_ ⟨rfl,rfl⟩
   exact hK _ _ (HV.out.step (Below.refl _ _) rfl (by decide) (fun e=>by cases e) (fun e=>by cases e) (fun e=>by cases e) (fun e=>by cases e) hli)
  ·-- operation 11
   cases ho
   have h10:v 10=_:=dep 10 (by kernel_rfl)
   simp only [pt,h10] at hK ⊢
   go_simp
   exact hK _ _ (HV.out.step ((Below.refl _ _).alloc (Nat.le_refl _) _) trivial (by decide) (fun e=>by cases e) (fun _=>own_one (Blk.new wx _ _) HV.out.bel.size rfl) (fun e=>by cases e) (fun e=>by cases e) hli)
  ·-- operation 12
   cases ho
   obtain ⟨a5,c5,e5,-⟩:=own_shape (HV.out.r5 (dep_listed ha 5 (by kernel_rfl)))
   obtain ⟨a11,c11,e11,-⟩:=own_shape (HV.out.t11 (dep_listed ha 11 (by kernel_rfl)))
   simp only [pt,e5,e11] at hK ⊢
   go_simp
   exact hK _ _ (HV.out.step (Below.refl _ _) trivial (by decide) (fun e=>by cases e) (fun e=>by cases e) (fun _=>⟨by rw [e5,e11],dep_listed ha 5 (by kernel_rfl),dep_listed ha 11 (by kernel_rfl)⟩) (fun e=>by cases e) hli)
  ·-- operation 13
   cases ho
   simp only [pt] at hK ⊢
   go_simp
   exact hK _ _ (HV.out.step ((Below.refl _ _).alloc (Nat.le_refl _) _) trivial (by decide) (fun e=>by cases e) (fun e=>by cases e) (fun e=>by cases e) (fun _=>⟨_,rfl,HV.out.bel.size,Blk.new wx _ _⟩) hli)
 ·intro v listed w9 hall hR
  obtain ⟨e12,-,-⟩:=hR.c12 (hall 12 (by decide))
  obtain ⟨S,e13,hS,hSB⟩:=hR.s13 (hall 13 (by decide))
  have o5:=hR.r5 (hall 5 (by decide))
  have o11:=hR.t11 (hall 11 (by decide))
  obtain ⟨a5,c5,e5,-⟩:=own_shape o5
  obtain ⟨a11,c11,e11,-⟩:=own_shape o11
  rw [e5] at o5 e12
  rw [e11] at o11 e12
  have hZ0:=Z0.out.lt
  have HZ9:=hid (Z0.out.below hR.bel hZ0)
  have HB9:=hid (HB0.out.trans (hR.bel.mono HB0.out.size))
  have HS:=hid (show w.heap.size<S by omega)
  have hne:S≠w.heap.size:=by omega
  have HO5:=hid (own_lower o5 HB0.out.size)
  have HO11:=hid (own_lower o11 HB0.out.size)
  have HSB:=hid hSB
  have s0:w9.cell? ⟨S,0,none⟩=some (.slice none 0 0):=hSB.cell 0
  have s1:w9.cell? ⟨S,1,none⟩=some (.slice none 0 0):=hSB.cell 1
  have s2:w9.cell? ⟨S,2,none⟩=some (.slice none 0 0):=hSB.cell 2
  have f0:w9.frozen? ⟨S,0,none⟩=false:=hSB.frozen 0
  have f1:w9.frozen? ⟨S,1,none⟩=false:=hSB.frozen 1
  have f2:w9.frozen? ⟨S,2,none⟩=false:=hSB.frozen 2
  clear hR hall o5 o11 hSB hS hZ0
  simp only [pt,Nat.zero_add,Nat.reduceAdd,e12,e13,e5,e11]
  clear e12 e13 e5 e11
  go_upto_region 4 with fail
  obtain ⟨W4,hW4⟩:∃W4,W4=((w9.setCell ⟨S,0,none⟩ (.slice a5 x.js.length c5)).setCell ⟨S,1,none⟩ (.slice a11 1 c11)).setCell ⟨S,2,none⟩ (.slice none 0 0):=⟨_,rfl⟩
  have I4:Hid (AlR w S (.slice a5 x.js.length c5) (.slice a11 1 c11) (.slice none 0 0) x.runsL [x.both.arr] [] W4):=hid (by
   have g0:=HSB.out
   have g1:=g0.set_ 0 (.slice a5 x.js.length c5)
   have g2:=g1.set_ 1 (.slice a11 1 c11)
   have g3:=g2.set_ 2 (.slice none 0 0)
   have hlS:=Nat.le_of_lt HS.out
   rw [hW4]
   refine ⟨by simpa using g3,?_,own_set (own_set (own_set HO11.out g0 (by decide) 0 _) g1 (by decide) 1 _) g2 (by decide) 2 _,⟨rfl,.inl ⟨rfl,rfl⟩⟩,?_,HS.out,((HB9.out.setCell hlS _).setCell hlS _).setCell hlS _⟩
   ·have h1:=own_set (own_set (own_set HO5.out g0 (by decide) 0 (.slice a5 x.js.length c5)) g1 (by decide) 1 (.slice a11 1 c11)) g2 (by decide) 2 (.slice none 0 0)
    have hl:x.runsL.length=x.js.length:=by unfold Gt.runsL;simp
    rw [hl]
    exact h1
   ·have hn:w.heap.size≠S:=fun e=>hne e.symm
    exact Blk.far (Blk.far (Blk.far HZ9.out hn _) hn _) hn _)
  rw [←hW4]
  clear hW4 HSB HO5 HO11 HZ9 HB9 HS s0 s1 s2 f0 f1 f2 hne Z0 HB0
  have c9:W4.cell? ⟨L.g,9,none⟩=some (.slice L.ra x.js.length L.rc):=(HG.out W4 I4.out.bel).c9
  go_wp2_with fail
  go_loopw [4] (fun s4 wr=>∃k:Nat,k≤x.js.length∧s4=.int .i64 k∧∃tv bv,AlR w S (.slice a5 x.js.length c5) tv bv x.runsL (x.both.arr::(x.js.take k).map (·.lm.arr)) ((x.js.take k).map (bxT ·.bx)) wr) (fun s4 _=>x.js.length - intA s4)
  case atStart=>exact ⟨0,Nat.zero_le _,rfl,_,_,I4.out⟩
  case round =>
   obtain ⟨k,hk,rfl,tv,bv,hI⟩:=hrel
   have HI:=hid hI
   clear hI I4 c9
   have c9:wr.cell? ⟨L.g,9,none⟩=some (.slice L.ra x.js.length L.rc):=(HG.out wr HI.out.bel).c9
   rcases Nat.lt_or_ge k x.js.length with hlt|hge
   ·obtain ⟨jt,hjt⟩:∃jt,x.js[k]? = some jt:=⟨_,List.getElem?_eq_getElem hlt⟩
    have HJT:=hid hjt
    have HTK:Hid (x.js.take (k+1)=x.js.take k++[jt]):=hid (by rw [List.take_add_one,hjt];rfl)
    obtain ⟨ob,hoa⟩:∃ob,L.oa=some ⟨ob,0,none⟩:=by
     obtain ⟨b,cs,e,-⟩:=(HG.out wr HI.out.bel).ones (by omega)
     exact ⟨b,e⟩
    have HOA:Hid (∀wx,Below w.heap.size w wx→wx.cell? ⟨L.g,11,none⟩=some (.slice (some ⟨ob,0,none⟩) x.js.length L.oc)∧wx.cell? ⟨ob,k,none⟩=some (.pointer (some ⟨L.li k,0,none⟩))∧RLmAt wx (L.li k) jt.lm):=hid (fun wx hb=>by
     have h:=HG.out wx hb
     obtain ⟨b,cs,e,h1,h2⟩:=h.ones (by omega)
     have hbo:b=ob:=by rw [hoa] at e;injection e with e;injection e with e;exact e.symm
     subst hbo
     refine ⟨?_,(h1.cell k).trans (h2 k hlt),(h.job k jt HJT.out).1⟩
     have:=h.c11
     rwa [hoa] at this)
    obtain ⟨ts,hts⟩:∃ts,x.both.arr::(x.js.take k).map (·.lm.arr)=ts:=⟨_,rfl⟩
    obtain ⟨bs,hbs_⟩:∃bs,(x.js.take k).map (bxT ·.bx)=bs:=⟨_,rfl⟩
    have HLS:=hid (And.intro hts hbs_)
    have HRL:Hid (ts.length=k+1∧bs.length=k):=hid (by
     have:(x.js.take k).length=k:=by rw [List.length_take];omega
     rw [←hts,←hbs_]
     simp only [List.length_map,List.length_cons,this,and_self])
    have HII:Hid (AlR w S (.slice a5 x.js.length c5) tv bv x.runsL ts bs wr):=hid (by rw [←hts,←hbs_];exact HI.out)
    clear hts hbs_ HI hoa hjt
    obtain ⟨j1,k1,z1,z2,z3⟩:=info_parts info_cint64
    have hmlt:ts.length+1≤maxLen:=by have:=HRL.out.1;unfold maxLen;omega
    have hmbt:(ts.length+1)*8≤140737488355328:=by have:=HRL.out.1;omega
    go_upto_region 7 with fail
    refine wp_region_put_tail2 _ 12 _ (R:=R7t w S L.g k (L.li k) ob x.js.length L.oc (.slice a5 x.js.length c5) tv bv x.runsL ts bs jt.lm.arr) (by rfl) (by kernel_rfl) (by kernel_rfl) (by kernel_rfl) (by kernel_rfl) (by kernel_rfl) (by kernel_rfl) (by kernel_rfl) (by kernel_rfl) ?_ ?_ ?_
    ·intro v _
     have hI:=HII.out.next (Below.refl _ _).drew
     exact ⟨fun i hi=>(rep_not hi).elim,hI.st,hI.r,hI.b,hI.z,fun _=>hI.t,fun hz=>(rep_not hz).elim,fun hz=>(rep_not hz).elim,hI.bel,fun hz=>(rep_not hz).elim⟩
    ·intro Q' K_ listed v wx i o hsz ho hli ha hR hK
     have HV:=hid hR
     have dep:=fun d hd=>HV.out.pl d (dep_listed ha d hd)
     have hi:i<12:=(List.getElem?_eq_some_iff.1 ho).1
     clear hR hsz
     obtain rfl|rfl|rfl|rfl|rfl|rfl|rfl|rfl|rfl|rfl|rfl|rfl:i=0∨i=1∨i=2∨i=3∨i=4∨i=5∨i=6∨i=7∨i=8∨i=9∨i=10∨i=11:=by omega
     ·-- operation 0
      cases ho
      simp only [pt] at hK ⊢
      go_simp
      exact hK _ _ (HV.out.step (Below.refl _ _) rfl (by decide) (fun e=>by cases e))
     ·-- operation 1
      cases ho
      have h0:v 0=_:=dep 0 (by kernel_rfl)
      have c1:wx.cell? ⟨S,1,none⟩=some tv:=HV.out.st.cell 1
      simp only [pt,h0] at hK ⊢
      go_simp
      exact hK _ _ (HV.out.step (Below.refl _ _) rfl (by decide) (fun e=>by cases e))
     ·-- operation 2
      cases ho
      simp only [pt] at hK ⊢
      go_simp
      exact hK _ _ (HV.out.step (Below.refl _ _) rfl (by decide) (fun e=>by cases e))
     ·-- operation 3
      cases ho
      have h2:v 2=_:=dep 2 (by kernel_rfl)
      simp only [pt,h2] at hK ⊢
      go_simp
      exact hK _ _ (HV.out.step (Below.refl _ _) rfl (by decide) (fun e=>by cases e))
     ·-- operation 4
      cases ho
      have h3:v 3=_:=dep 3 (by kernel_rfl)
      simp only [pt,h3] at hK ⊢
      go_simp
      exact hK _ _ (HV.out.step (Below.refl _ _) rfl (by decide) (fun e=>by cases e))
     ·-- operation 5
      cases ho
      have h4:v 4=_:=dep 4 (by kernel_rfl)
      have hoa:=HOA.out wx HV.out.bel
      have o11:=hoa.1
      have ok:=hoa.2.1
      clear hoa
      simp only [pt,h4] at hK ⊢
      go_simp
      exact hK _ _ (HV.out.step (Below.refl _ _) rfl (by decide) (fun e=>by cases e))
     ·-- operation 6
      cases ho
      simp only [pt] at hK ⊢
      go_simp
      exact hK _ _ (HV.out.step (Below.refl _ _) rfl (by decide) (fun e=>by cases e))
     ·-- operation 7
      cases ho
      have h5:v 5=_:=dep 5 (by kernel_rfl)
      have h6:v 6=_:=dep 6 (by kernel_rfl)
      simp only [pt,h5,h6] at hK ⊢
      go_simp
      exact hK _ _ (HV.out.step (Below.refl _ _) rfl (by decide) (fun e=>by cases e))
     ·-- operation 8
      cases ho
      have h7:v 7=_:=dep 7 (by kernel_rfl)
      have hoa:=HOA.out wx HV.out.bel
      have o11:=hoa.1
      have ok:=hoa.2.1
      clear hoa
      simp only [pt,h7] at hK ⊢
      go_simp
      exact hK _ _ (HV.out.step (Below.refl _ _) rfl (by decide) (fun e=>by cases e))
     ·-- operation 9
      cases ho
      have h8:v 8=_:=dep 8 (by kernel_rfl)
      have hT:=hid (rgtat_ok (HOA.out wx HV.out.bel).2.2)
      simp only [pt,h8] at hK ⊢
      go_simp
      refine (hT.out).mono ?_
      rintro e_ w_ ⟨rfl,rfl⟩
      exact hK _ _ (HV.out.step (Below.refl _ _) rfl (by decide) (fun e=>by cases e))
     ·-- operation 10
      cases ho
      have h9:v 9=_:=dep 9 (by kernel_rfl)
      simp only [pt,h9] at hK ⊢
      go_simp
      exact hK _ _ (HV.out.step ((Below.refl _ _).alloc (Nat.le_refl _) _) rfl (by decide) (fun _=>Blk.new wx _ _))
     ·-- operation 11
      cases ho
      have h1:v 1=_:=dep 1 (by kernel_rfl)
      have d10:=dep_listed ha 10 (by kernel_rfl)
      have h10':=HV.out.pl 10 d10
      have hrow:=HV.out.tn d10 hli
      have hown:=HV.out.t0 hli
      replace h10':v 10=.slice (some ⟨blkS (v 10),0,none⟩) 1 1:=h10'
      generalize blkS (v 10)=r6 at h10' hrow
      have hnew:=one_news hrow
      simp only [pt,h1,h10'] at hK ⊢
      refine wp_append_lies _ _ _ _ rfl w.heap.size 2 j1 (.int .i64 0) 1 8 Tryz.underlying40 k1 z1 z2 z3 rfl (by decide) tv _ _ rfl hown ⟨r6,0,none⟩ 1 1 [.int .i64 jt.lm.arr] rfl rfl hnew (by simp [Value.oneCell']) (by decide) hmlt hmbt HV.out.bel.size _ rfl ?_
      intro g8 cap8 w8 hown8 hgrow8 hgg8 _
      exact hK _ _ (HV.out.app d10 hli hown8 hgrow8)
    ·intro v listed w9 hall hR
     have o11:=hR.t1 (hall 11 (by decide))
     obtain ⟨a11,c11,e11,-⟩:=own_shape o11
     rw [e11] at o11
     have hlo:=HII.out.lo
     have s1:w9.cell? ⟨S,1,none⟩=some tv:=hR.st.cell 1
     have f1:w9.frozen? ⟨S,1,none⟩=false:=hR.st.frozen 1
     have I7:Hid (AlR w S (.slice a5 x.js.length c5) (.slice a11 (ts.length+1) c11) bv x.runsL (ts++[jt.lm.arr]) bs (w9.setCell ⟨S,1,none⟩ (.slice a11 (ts.length+1) c11))):=hid (by
      have hn:w.heap.size≠S:=Nat.ne_of_lt hlo
      refine ⟨by simpa using hR.st.set_ 1 (.slice a11 (ts.length+1) c11),own_set hR.r hR.st (by decide) 1 _,?_,own_set hR.b hR.st (by decide) 1 _,Blk.far hR.z hn _,hlo,hR.bel.setCell (Nat.le_of_lt hlo) _⟩
      rw [List.map_append,List.length_append]
      exact own_set o11 hR.st (by decide) 1 _)
     clear hR hall o11 hlo
     simp only [pt,Nat.zero_add,Nat.reduceAdd,e11]
     clear e11 HII
     go_upto_region 8 with fail
     obtain ⟨W7,hW7⟩:∃W7,W7=w9.setCell ⟨S,1,none⟩ (.slice a11 (ts.length+1) c11):=⟨_,rfl⟩
     rw [←hW7] at I7 ⊢
     clear hW7 s1 f1
     have hg7:=HG.out W7 I7.out.bel
     obtain ⟨bb,c12,cb⟩:=hg7.br HJT.out
     have U:=hid (BK.runtil_ok (hg7.job k jt HJT.out).2)
     have CN:=hid (BK.rcounts_ok (hg7.job k jt HJT.out).2)
     clear hg7
     go_wp2_with fail
     refine (U.out).mono ?_
     rintro e_ w_ ⟨rfl,rfl⟩
     clear U
     go_wp2_with fail
     refine (CN.out).mono ?_
     rintro e_ w_ ⟨rfl,nq,rfl⟩
     clear CN
     have I8:=hid (I7.out.next (below_drewN (Below.refl _ _) nq))
     clear I7 c12 cb
     generalize World.drewN W7 nq=W8 at *
     obtain ⟨ts2,hts2⟩:∃ts2,ts++[jt.lm.arr]=ts2:=⟨_,rfl⟩
     rw [hts2] at I8
     have HTS:=hid hts2
     clear hts2
     have s2:W8.cell? ⟨S,2,none⟩=some bv:=I8.out.st.cell 2
     have hX:Below W8.heap.size W8 (W8.alloc (.cells #[.int .i64 (BK.untilOf jt.bx),.int .i64 jt.bx.fails,.int .i64 jt.bx.good,.int .i64 jt.bx.under] 102)):=(Below.refl _ _).alloc (Nat.le_refl _) _
     have IX:=hid (I8.out.next hX)
     have HNW:=hid (four_news (q:=bxT jt.bx) (Blk.new W8 102 #[.int .i64 (BK.untilOf jt.bx),.int .i64 jt.bx.fails,.int .i64 jt.bx.good,.int .i64 jt.bx.under]))
     have hbs:w.heap.size≤(W8.alloc (.cells #[.int .i64 (BK.untilOf jt.bx),.int .i64 jt.bx.fails,.int .i64 jt.bx.good,.int .i64 jt.bx.under] 102)).heap.size:=by have h1:=I8.out.bel.size;simp;omega
     obtain ⟨j2,k2,y1,y2,y3⟩:=info_parts info_rbox
     have hmlb:bs.length+1≤maxLen:=by have:=HRL.out.2;unfold maxLen;omega
     have hmbb:(bs.length+1)*32≤140737488355328:=by have:=HRL.out.2;omega
     clear hX
     go_upto_region 6 with (first|(at_builtin;refine wpList_append_lies _ rfl _ _ 93 rfl w.heap.size 102 j2 (.agg #[.int .i64 0,.int .i64 0,.int .i64 0,.int .i64 0]) 4 32 Tryz.underlying93 k2 y1 y2 y3 rfl (by decide) bv _ _ rfl IX.out.b ⟨W8.heap.size,0,none⟩ 1 1 (bxC (bxT jt.bx)) rfl rfl HNW.out (by simp [Value.oneCell',bxC]) (by decide) hmlb hmbb hbs _ rfl ?_;intro g8 cap8 w8 hown8 hgrow8 _ _;have c8:w8.cell? ⟨S,2,none⟩=some bv:=(IX.out.gateB hgrow8).cell 2;have f8:w8.frozen? ⟨S,2,none⟩=false:=(IX.out.gateB hgrow8).frozen 2;have PP:=hid (IX.out.pushB hown8 hgrow8);clear hown8 hgrow8))
     have HQ:Hid (∃tv bv,AlR w S (.slice a5 x.js.length c5) tv bv x.runsL (x.both.arr::(x.js.take (k+1)).map (·.lm.arr)) ((x.js.take (k+1)).map (bxT ·.bx)) (w8.setCell ⟨S,2,none⟩ (.slice (some ⟨g8,0,none⟩) (bs.length+1) cap8))):=hid (by
      rw [HTK.out,List.map_append,List.map_append,←List.cons_append,HLS.out.1,HLS.out.2]
      rw [show ts++List.map (·.lm.arr) [jt]=ts2 from HTS.out]
      exact ⟨_,_,PP.out⟩)
     go_wp2_with fail
     refine ⟨⟨k+1,by omega,by go_num,HQ.out⟩,?_⟩
     simp [intA];omega
   ·obtain rfl:x.js.length=k:=by omega
    rw [List.take_length] at HI
    have s0:wr.cell? ⟨S,0,none⟩=some (.slice a5 x.js.length c5):=HI.out.st.cell 0
    have s1:wr.cell? ⟨S,1,none⟩=some tv:=HI.out.st.cell 1
    have s2:wr.cell? ⟨S,2,none⟩=some bv:=HI.out.st.cell 2
    have z0:wr.cell? ⟨w.heap.size,0,none⟩=some (.slice none 0 0):=HI.out.z.cell 0
    have z1:wr.cell? ⟨w.heap.size,1,none⟩=some (.slice none 0 0):=HI.out.z.cell 1
    have z2:wr.cell? ⟨w.heap.size,2,none⟩=some (.slice none 0 0):=HI.out.z.cell 2
    have f0:wr.frozen? ⟨w.heap.size,0,none⟩=false:=HI.out.z.frozen 0
    have f1:wr.frozen? ⟨w.heap.size,1,none⟩=false:=HI.out.z.frozen 1
    have f2:wr.frozen? ⟨w.heap.size,2,none⟩=false:=HI.out.z.frozen 2
    obtain ⟨a2,q2,h2,-,r2⟩:=row1_own HI.out.t
    obtain ⟨a3,q3,h3,-,r3⟩:=row4_own HI.out.b
    obtain ⟨a1,q1,h1,-,r1⟩:=row1_own HI.out.r
    have HRR2:=hid (And.intro r1 (And.intro r2 r3))
    have HZ:=hid HI.out.z
    have HBB:=hid HI.out.bel
    injection h1 with h1a h1b h1c
    subst h1a h1c h2 h3
    have hl1:x.runsL.length=x.js.length:=by unfold Gt.runsL;simp
    have HO1:=hid HI.out.r
    have HO2:=hid HI.out.t
    have HO3:=hid HI.out.b
    clear r1 r2 r3 HI h1b
    go_wp2_with fail
    have hz:=((HZ.out.set_ 0 (.slice a5 x.js.length c5)).set_ 1 (.slice a2 (x.js.length+1) q2)).set_ 2 (.slice a3 x.js.length q3)
    have hle:w.heap.size≤w.heap.size:=Nat.le_refl _
    have hbw:=((HBB.out.setCell (p:=⟨w.heap.size,0,none⟩) hle (.slice a5 x.js.length c5)).setCell (p:=⟨w.heap.size,1,none⟩) hle (.slice a2 (x.js.length+1) q2)).setCell (p:=⟨w.heap.size,2,none⟩) hle (.slice a3 x.js.length q3)
    refine bodyPost_ret (results_cell_row rfl _ _ w.heap.size _ _ (0,0) _ rfl hz Tryz.underlying95 rfl (by kernel_rfl)) rfl ?_
    refine ⟨⟨_,rfl,a5,c5,a2,q2,a3,q3,by simp [Gt.runsL,Gt.tatsL,Gt.boxesL],?_,?_,?_⟩,hbw⟩
    ·exact own_row1 (own_set (own_set (own_set HO1.out HZ.out (by decide) 0 _) (HZ.out.set_ 0 _) (by decide) 1 _) ((HZ.out.set_ 0 _).set_ 1 _) (by decide) 2 _)
    ·exact own_row1 (own_set (own_set (own_set HO2.out HZ.out (by decide) 0 _) (HZ.out.set_ 0 _) (by decide) 1 _) ((HZ.out.set_ 0 _).set_ 1 _) (by decide) 2 _)
    ·exact own_row4 (own_set (own_set (own_set HO3.out HZ.out (by decide) 0 _) (HZ.out.set_ 0 _) (by decide) 1 _) ((HZ.out.set_ 0 _).set_ 1 _) (by decide) 2 _)
end Go.Proofs.YtpgckpafjiojfaaGreatDoor.AD
