/- The reference's gates in memory: a layout, what lies where, and what a call may turn. Contracts of the reference's gate: valid, has, asked, wrong, total. Contracts of the reference's gate: why, Why. Contracts of the reference's gate: Why, Take, Give. Contracts of the reference's gate: Give, Trip, Reset, State, Until. Contract of the reference's gate's Next. -/
import Derived.Test.YtpgckpafjiojfaaGreatDoorAGm
import Derived.Test.YtpgckpafjiojfaaGreatDoorABrkR
import Derived.Deep.CutRange
import Derived.Deep.OwnRows
namespace Go.Proofs.YtpgckpafjiojfaaGreatDoor.AD
open Go Go.RowKit BW
open BK (Bx RBoxAt Blk)
structure RLy where
 g:Nat
 lm:Nat
 c:Gl
 ja:Option Addr
 jc:Nat
 ra:Option Addr
 rc:Nat
 oa:Option Addr
 oc:Nat
 ba:Option Addr
 bc:Nat
 li:Nat→Nat
 bo:Nat→Nat
def RLy.own(L:RLy)(n i:Nat):Prop:=i=L.g∨i=L.lm∨(0<n∧∃o,L.ra=some ⟨i,o,none⟩)∨∃k,k<n∧(i=L.li k∨i=L.bo k)
def RLy.sup(L:RLy)(n i:Nat):Prop:=L.own n i∨(0<n∧∃o,L.oa=some ⟨i,o,none⟩)∨(0<n∧∃o,L.ba=some ⟨i,o,none⟩)∨(0<n∧∃o,L.ja=some ⟨i,o,none⟩)
def RLy.cells(L:RLy)(x:Gt):Array Value:=#[.bool true,.int .i64 x.cap,.int .i64 L.c.q,.int .i64 L.c.ar,.int .i64 L.c.ag,.int .u64 L.c.sd,.int .i64 L.c.t,.int .i64 L.c.tau,.slice L.ja x.js.length L.jc,.slice L.ra x.js.length L.rc,.pointer (some ⟨L.lm,0,none⟩),.slice L.oa x.js.length L.oc,.slice L.ba x.js.length L.bc,.int .i64 x.last]
structure RAt(w:World)(L:RLy)(x:Gt):Prop where
 gate:Blk w L.g 150 (L.cells x)
 lm:RLmAt w L.lm x.both
 runs:0<x.js.length→∃(b:Nat) (cs:Array Value),L.ra=some ⟨b,0,none⟩∧Blk w b 3 cs∧∀(k:Nat) (j:Jt),x.js[k]? = some j→cs[k]? = some (.int .i64 j.runs)
 ones:0<x.js.length→∃(b:Nat) (cs:Array Value),L.oa=some ⟨b,0,none⟩∧Blk w b 146 cs∧∀k,k<x.js.length→cs[k]? = some (.pointer (some ⟨L.li k,0,none⟩))
 boxs:0<x.js.length→∃(b:Nat) (cs:Array Value),L.ba=some ⟨b,0,none⟩∧Blk w b 153 cs∧∀k,k<x.js.length→cs[k]? = some (.pointer (some ⟨L.bo k,0,none⟩))
 jobs:0<x.js.length→∃b:Nat,L.ja=some ⟨b,0,none⟩∧∀(k:Nat) (j:Jt),x.js[k]? = some j→w.cell? ⟨b,k*30+15,none⟩=some (.int .i64 j.cap)
 apart:∀b o,0<x.js.length→L.ja=some ⟨b,o,none⟩→¬L.own x.js.length b
 job:∀(k:Nat) (j:Jt),x.js[k]? = some j→RLmAt w (L.li k) j.lm∧RBoxAt w (L.bo k) j.bx
 one:∀k,k<x.js.length→L.li k≠L.lm∧∀i,i<x.js.length→i≠k→L.li i≠L.li k∧L.bo i≠L.bo k
 inv:x.Inv
theorem cell_heap{w w':World}{b i:Nat}(h:w'.heap[b]? = w.heap[b]?):w'.cell? ⟨b,i,none⟩=w.cell? ⟨b,i,none⟩:=by
 unfold World.cell?
 rw [h]
theorem RAt.jlt{w:World}{L:RLy}{x:Gt}(h:RAt w L x){b o:Nat}(h0:0<x.js.length)(e:L.ja=some ⟨b,o,none⟩):b<w.heap.size:=by
 obtain ⟨g,e',h1⟩:=h.jobs h0
 rw [e] at e'
 injection e' with e'
 injection e' with e'
 subst e'
 exact World.block_lt_of_cell? w _ (h1 0 _ (List.getElem?_eq_getElem h0))
theorem RAt.keep{w w':World}{L:RLy}{x:Gt}(h:RAt w L x)(hk:∀i,L.sup x.js.length i→w'.heap[i]? = w.heap[i]?):RAt w' L x :=
 ⟨(
  hk _ (.inl (.inl rfl))).trans h.gate,(hk _ (.inl (.inr (.inl rfl)))).trans h.lm,
  fun h0=>by
   obtain ⟨b,cs,e,h1,h2⟩:=h.runs h0
   exact ⟨b,cs,e,(hk b (.inl (.inr (.inr (.inl ⟨h0,0,e⟩))))).trans h1,h2⟩,
  fun h0=>by
   obtain ⟨b,cs,e,h1,h2⟩:=h.ones h0
   exact ⟨b,cs,e,(hk b (.inr (.inl ⟨h0,0,e⟩))).trans h1,h2⟩,
  fun h0=>by
   obtain ⟨b,cs,e,h1,h2⟩:=h.boxs h0
   exact ⟨b,cs,e,(hk b (.inr (.inr (.inl ⟨h0,0,e⟩)))).trans h1,h2⟩,
  fun h0=>by
   obtain ⟨b,e,h1⟩:=h.jobs h0
   exact ⟨b,e,fun k j hj=>(cell_heap (hk b (.inr (.inr (.inr ⟨h0,0,e⟩))))).trans (h1 k j hj)⟩,
  h.apart,
  fun k j hj=>by
   have hl:k<x.js.length:=(List.getElem?_eq_some_iff.1 hj).1
   obtain ⟨h1,h2⟩:=h.job k j hj
   exact ⟨(hk _ (.inl (.inr (.inr (.inr ⟨k,hl,.inl rfl⟩))))).trans h1,(hk _ (.inl (.inr (.inr (.inr ⟨k,hl,.inr rfl⟩))))).trans h2⟩,
  h.one,h.inv⟩
theorem RAt.lt{w:World}{L:RLy}{x:Gt}(h:RAt w L x){i:Nat}(hi:L.sup x.js.length i):i<w.heap.size:=by
 rcases hi with (rfl|rfl|⟨h0,o,e⟩|⟨k,hk,hi⟩)|⟨h0,o,e⟩|⟨h0,o,e⟩|⟨h0,o,e⟩
 ·exact Blk.lt h.gate
 ·exact Blk.lt h.lm
 ·obtain ⟨b,cs,e',h1,_⟩:=h.runs h0
  rw [e] at e'
  injection e' with e'
  injection e' with e'
  subst e'
  exact Blk.lt h1
 ·obtain ⟨h1,h2⟩:=h.job k _ (List.getElem?_eq_getElem hk)
  rcases hi with rfl|rfl
  ·exact Blk.lt h1
  ·exact Blk.lt h2
 ·obtain ⟨b,cs,e',h1,_⟩:=h.ones h0
  rw [e] at e'
  injection e' with e'
  injection e' with e'
  subst e'
  exact Blk.lt h1
 ·obtain ⟨b,cs,e',h1,_⟩:=h.boxs h0
  rw [e] at e'
  injection e' with e'
  injection e' with e'
  subst e'
  exact Blk.lt h1
 ·exact h.jlt h0 e
theorem RAt.below{w w':World}{L:RLy}{x:Gt}(h:RAt w L x)(hb:Below w.heap.size w w'):RAt w' L x:=h.keep fun i hi=>hb.block i (h.lt hi)
theorem RAt.turn{w w':World}{L:RLy}{x:Gt}(h:RAt w L x){F:Nat→Prop}(ht:Turn F w w')(hF:∀i,L.sup x.js.length i→¬F i):RAt w' L x:=h.keep fun i hi=>ht.block i (h.lt hi) (hF i hi)
theorem RAt.drewN{w:World}{L:RLy}{x:Gt}(h:RAt w L x)(n:Nat):RAt (w.drewN n) L x:=h.keep fun _ _=>rfl
def RLy.foot(L:RLy)(k i:Nat):Prop:=i=L.g∨i=L.lm∨(∃o,L.ra=some ⟨i,o,none⟩)∨i=L.li k∨i=L.bo k
theorem RLy.foot_own{L:RLy}{n k:Nat}(hk:k<n){i:Nat}(h:L.foot k i):L.own n i:=by
 rcases h with e|e|e|e|e
 ·exact .inl e
 ·exact .inr (.inl e)
 ·exact .inr (.inr (.inl ⟨by omega,e⟩))
 ·exact .inr (.inr (.inr ⟨k,hk,.inl e⟩))
 ·exact .inr (.inr (.inr ⟨k,hk,.inr e⟩))
theorem RAt.rne{w:World}{L:RLy}{x:Gt}(h:RAt w L x)(h0:0<x.js.length){b:Nat}{t:TypeId}{cs:Array Value}(hb:Blk w b t cs)(ht:t≠3):¬∃o,L.ra=some ⟨b,o,none⟩:=by
 rintro ⟨o,e⟩
 obtain ⟨g,ds,e',h1,_⟩:=h.runs h0
 rw [e] at e'
 injection e' with e'
 injection e' with e'
 exact blk_ne hb h1 ht e'
theorem RAt.upd{w w':World}{L:RLy}{x y:Gt}(h:RAt w L x){k:Nat}{j j':Jt}(hk:x.js[k]? = some j)(ht:Turn (L.foot k) w w')
 (hy:y.js=x.js.set k j') (hc:j'.cap=j.cap) (hi:y.Inv) (g1:Blk w' L.g 150 (L.cells y)) (g3:RLmAt w' L.lm y.both) (gr:∃(b:Nat) (cs:Array Value),L.ra=some ⟨b,0,none⟩∧Blk w' b 3 cs∧∀(i:Nat) (m:Jt),y.js[i]? = some m→cs[i]? = some (.int .i64 m.runs))
 (g4:RLmAt w' (L.li k) j'.lm) (g5:RBoxAt w' (L.bo k) j'.bx):RAt w' L y∧Turn (L.own x.js.length) w w':=by
 have hl:k<x.js.length:=(List.getElem?_eq_some_iff.1 hk).1
 have h0:0<x.js.length:=by omega
 obtain ⟨h1,h2⟩:=h.job k j hk
 have hn:y.js.length=x.js.length:=by rw [hy];simp
 refine ⟨⟨g1,g3,fun _=>gr,fun _=>?_,fun _=>?_,fun _=>?_,?_,fun i m hm=>?_,fun i hi=>?_,hi⟩,ht.mono fun i hi=>RLy.foot_own hl hi⟩
 ·rw [hn]
  obtain ⟨b,cs,e,a1,a2⟩:=h.ones h0
  refine ⟨b,cs,e,(ht.block b (Blk.lt a1) ?_).trans a1,a2⟩
  rintro (rfl|rfl|e|rfl|rfl)
  ·exact blk_ne a1 h.gate (by decide) rfl
  ·exact blk_ne a1 h.lm (by decide) rfl
  ·exact h.rne h0 a1 (by decide) e
  ·exact blk_ne a1 h1 (by decide) rfl
  ·exact blk_ne a1 h2 (by decide) rfl
 ·rw [hn]
  obtain ⟨b,cs,e,a1,a2⟩:=h.boxs h0
  refine ⟨b,cs,e,(ht.block b (Blk.lt a1) ?_).trans a1,a2⟩
  rintro (rfl|rfl|e|rfl|rfl)
  ·exact blk_ne a1 h.gate (by decide) rfl
  ·exact blk_ne a1 h.lm (by decide) rfl
  ·exact h.rne h0 a1 (by decide) e
  ·exact blk_ne a1 h1 (by decide) rfl
  ·exact blk_ne a1 h2 (by decide) rfl
 ·obtain ⟨b,e,a1⟩:=h.jobs h0
  refine ⟨b,e,fun i m hm=>?_⟩
  rw [cell_heap (ht.block b (h.jlt h0 e) fun hf=>h.apart b 0 h0 e (RLy.foot_own hl hf))]
  rw [hy,List.getElem?_set] at hm
  by_cases hik:k=i
  ·subst hik
   rw [if_pos rfl,if_pos hl] at hm
   injection hm with hm
   subst hm
   rw [hc]
   exact a1 k j hk
  ·rw [if_neg hik] at hm
   exact a1 i m hm
 ·rw [hn];exact h.apart
 ·rw [hy,List.getElem?_set] at hm
  by_cases hik:k=i
  ·subst hik
   rw [if_pos rfl,if_pos hl] at hm
   injection hm with hm
   subst hm
   exact ⟨g4,g5⟩
  ·rw [if_neg hik] at hm
   have hil:i<x.js.length:=(List.getElem?_eq_some_iff.1 hm).1
   obtain ⟨b1,b2⟩:=h.job i m hm
   obtain ⟨o1,_⟩:=h.one i hil
   obtain ⟨o2,o3⟩:=(h.one k hl).2 i hil (fun e=>hik e.symm)
   refine ⟨(ht.block _ (Blk.lt b1) ?_).trans b1,(ht.block _ (Blk.lt b2) ?_).trans b2⟩
   ·rintro (e|e|e|e|e)
    ·exact blk_ne b1 h.gate (by decide) e
    ·exact o1 e
    ·exact h.rne h0 b1 (by decide) e
    ·exact o2 e
    ·exact blk_ne b1 h2 (by decide) e
   ·rintro (e|e|e|e|e)
    ·exact blk_ne b2 h.gate (by decide) e
    ·exact blk_ne b2 h.lm (by decide) e
    ·exact h.rne h0 b2 (by decide) e
    ·exact blk_ne b2 h1 (by decide) e
    ·exact o3 e
 ·rw [hn] at hi ⊢
  exact h.one i hi
section
variable{w:World}{L:RLy}{x:Gt}
theorem RAt.c0(h:RAt w L x):w.cell? ⟨L.g,0,none⟩=some (.bool true):=Blk.cell h.gate 0
theorem RAt.c1(h:RAt w L x):w.cell? ⟨L.g,1,none⟩=some (.int .i64 x.cap):=Blk.cell h.gate 1
theorem RAt.c8(h:RAt w L x):w.cell? ⟨L.g,8,none⟩=some (.slice L.ja x.js.length L.jc):=Blk.cell h.gate 8
theorem RAt.c9(h:RAt w L x):w.cell? ⟨L.g,9,none⟩=some (.slice L.ra x.js.length L.rc):=Blk.cell h.gate 9
theorem RAt.c10(h:RAt w L x):w.cell? ⟨L.g,10,none⟩=some (.pointer (some ⟨L.lm,0,none⟩)):=Blk.cell h.gate 10
theorem RAt.c11(h:RAt w L x):w.cell? ⟨L.g,11,none⟩=some (.slice L.oa x.js.length L.oc):=Blk.cell h.gate 11
theorem RAt.c12(h:RAt w L x):w.cell? ⟨L.g,12,none⟩=some (.slice L.ba x.js.length L.bc):=Blk.cell h.gate 12
theorem RAt.c13(h:RAt w L x):w.cell? ⟨L.g,13,none⟩=some (.int .i64 x.last):=Blk.cell h.gate 13
theorem RAt.rr(h:RAt w L x){k:Nat}{j:Jt}(hk:x.js[k]? = some j):∃b,L.ra=some ⟨b,0,none⟩∧w.cell? ⟨L.g,9,none⟩=some (.slice (some ⟨b,0,none⟩) x.js.length L.rc)∧w.cell? ⟨b,k,none⟩=some (.int .i64 j.runs)∧w.frozen? ⟨b,k,none⟩=false:=by
 have hl:k<x.js.length:=(List.getElem?_eq_some_iff.1 hk).1
 obtain ⟨b,cs,e,h1,h2⟩:=h.runs (by omega)
 refine ⟨b,e,?_,(Blk.cell h1 _).trans (h2 k j hk),Blk.frozen h1 k⟩
 have:=h.c9
 rwa [e] at this
theorem RAt.or_(h:RAt w L x){k:Nat}{j:Jt}(hk:x.js[k]? = some j):∃b,w.cell? ⟨L.g,11,none⟩=some (.slice (some ⟨b,0,none⟩) x.js.length L.oc)∧w.cell? ⟨b,k,none⟩=some (.pointer (some ⟨L.li k,0,none⟩)):=by
 have hl:k<x.js.length:=(List.getElem?_eq_some_iff.1 hk).1
 obtain ⟨b,cs,e,h1,h2⟩:=h.ones (by omega)
 refine ⟨b,?_,(Blk.cell h1 _).trans (h2 k hl)⟩
 have:=h.c11
 rwa [e] at this
theorem RAt.br(h:RAt w L x){k:Nat}{j:Jt}(hk:x.js[k]? = some j):∃b,w.cell? ⟨L.g,12,none⟩=some (.slice (some ⟨b,0,none⟩) x.js.length L.bc)∧w.cell? ⟨b,k,none⟩=some (.pointer (some ⟨L.bo k,0,none⟩)):=by
 have hl:k<x.js.length:=(List.getElem?_eq_some_iff.1 hk).1
 obtain ⟨b,cs,e,h1,h2⟩:=h.boxs (by omega)
 refine ⟨b,?_,(Blk.cell h1 _).trans (h2 k hl)⟩
 have:=h.c12
 rwa [e] at this
theorem RAt.jr(h:RAt w L x){k:Nat}{j:Jt}(hk:x.js[k]? = some j):∃b,w.cell? ⟨L.g,8,none⟩=some (.slice (some ⟨b,0,none⟩) x.js.length L.jc)∧w.cell? ⟨b,k*30+15,none⟩=some (.int .i64 j.cap):=by
 have hl:k<x.js.length:=(List.getElem?_eq_some_iff.1 hk).1
 obtain ⟨b,e,h1⟩:=h.jobs (by omega)
 refine ⟨b,?_,h1 k j hk⟩
 have:=h.c8
 rwa [e] at this
end
open Go.Lib (hid)
open BK (Bx RBoxAt Blk only_refl only_drew only_drewN only_setCell only_trans only_of_below only_alloc below_drewN)
section
variable{w:World}{L:RLy}{x:Gt}
theorem rgvalid_ok(h:RAt w L x):Calls Tryz.prog 87 #[.pointer (some ⟨L.g,0,none⟩)] w fun e w'=>e=.returned (.bool true)∧w=w':=by
 have c0:=h.c0
 clear h
 go_enter Tryz.func87,Tryz.ntmps87
 go_wp2_with fail
 go_ret
 exact ⟨rfl,rfl⟩
theorem rghas_ok(h:RAt w L x)(job:Int):Calls Tryz.prog 138 #[.pointer (some ⟨L.g,0,none⟩),.int .i64 job] w fun e w'=>e=.returned (.bool (decide (0≤job)&&decide (job<x.js.length)))∧w=w':=by
 have c9:=h.c9
 generalize x.js.length=n at *
 clear h
 by_cases h0:0≤job
 ·go_enter Tryz.func138,Tryz.ntmps138
  go_wp2_with fail
  go_ret
  exact ⟨by simp [h0],rfl⟩
 ·have HQ:Hid (decide (0≤job)=false):=hid (decide_eq_false h0)
  go_enter Tryz.func138,Tryz.ntmps138
  go_wp2_with fail
  go_ret
  exact ⟨by rw [HQ.out];rfl,rfl⟩
theorem rgasked_ok(h:RAt w L x)(job now:Int):Calls Tryz.prog 133 #[.pointer (some ⟨L.g,0,none⟩),.int .i64 job,.int .i64 now] w fun e w'=>e=.returned (.int .i64 (x.asked job now))∧w=w':=by
 have V:=hid (rgvalid_ok h)
 have H:=hid (rghas_ok h job)
 have HV:Hid (x.asked job now=if timeB now=false then 14 else if (decide (0≤job)&&decide (job<x.js.length))=false then 3 else 0):=hid rfl
 generalize x.asked job now=R at *
 generalize (decide (0≤job)&&decide (job<x.js.length))=B at *
 clear h
 by_cases h0:0≤now
 ·by_cases h1:now≤253402300799
  ·have tb:timeB now=true:=timeB_iff.2 ⟨h0,h1⟩
   rw [tb] at HV
   clear tb
   cases B
   ·have HR:Hid (R=3):=hid (by rw [HV.out];simp)
    clear HV
    go_enter Tryz.func133,Tryz.ntmps133
    go_wp2_with fail
    refine (V.out).mono ?_
    rintro e w' ⟨rfl,rfl⟩
    go_wp2_with fail
    refine (H.out).mono ?_
    rintro e w' ⟨rfl,rfl⟩
    go_wp2_with fail
    go_ret
    exact ⟨retI (by rw [HR.out]),rfl⟩
   ·have HR:Hid (R=0):=hid (by rw [HV.out];simp)
    clear HV
    go_enter Tryz.func133,Tryz.ntmps133
    go_wp2_with fail
    refine (V.out).mono ?_
    rintro e w' ⟨rfl,rfl⟩
    go_wp2_with fail
    refine (H.out).mono ?_
    rintro e w' ⟨rfl,rfl⟩
    go_wp2_with fail
    go_ret
    exact ⟨retI (by rw [HR.out]),rfl⟩
  ·have tb:timeB now=false:=by unfold timeB;rw [decide_eq_false h1,Bool.and_false]
   rw [tb] at HV
   clear tb
   have HR:Hid (R=14):=hid (by rw [HV.out];rfl)
   clear HV
   go_enter Tryz.func133,Tryz.ntmps133
   go_wp2_with fail
   refine (V.out).mono ?_
   rintro e w' ⟨rfl,rfl⟩
   go_wp2_with fail
   go_ret
   exact ⟨retI (by rw [HR.out]),rfl⟩
 ·have tb:timeB now=false:=by unfold timeB;rw [decide_eq_false h0,Bool.false_and]
  rw [tb] at HV
  clear tb
  have HR:Hid (R=14):=hid (by rw [HV.out];rfl)
  clear HV
  go_enter Tryz.func133,Tryz.ntmps133
  go_wp2_with fail
  refine (V.out).mono ?_
  rintro e w' ⟨rfl,rfl⟩
  go_wp2_with fail
  go_ret
  exact ⟨retI (by rw [HR.out]),rfl⟩
theorem rgwrong_ok(h:RAt w L x)(job now:Int):Calls Tryz.prog 76 #[.pointer (some ⟨L.g,0,none⟩),.int .i64 job,.int .i64 now] w fun e w'=>e=.returned (.int .i64 (x.call job now))∧w=w':=by
 have M:=hid (rgasked_ok h job now)
 have c13:=h.c13
 have HV:Hid (x.call job now=if x.asked job now≠0 then x.asked job now else if now<x.last then 8 else 0):=hid rfl
 generalize x.call job now=R at *
 generalize x.asked job now=E at *
 generalize x.last=la at *
 clear h
 by_cases hE:E=0
 ·subst hE
  by_cases h2:now<la
  ·have HR:Hid (R=8):=hid (by rw [HV.out];simp [h2])
   clear HV
   go_enter Tryz.func76,Tryz.ntmps76
   go_wp2_with fail
   refine (M.out).mono ?_
   rintro e w' ⟨rfl,rfl⟩
   go_wp2_with fail
   go_ret
   exact ⟨retI (by rw [HR.out]),rfl⟩
  ·have HR:Hid (R=0):=hid (by rw [HV.out];simp [h2])
   clear HV
   go_enter Tryz.func76,Tryz.ntmps76
   go_wp2_with fail
   refine (M.out).mono ?_
   rintro e w' ⟨rfl,rfl⟩
   go_wp2_with fail
   go_ret
   exact ⟨retI (by rw [HR.out]),rfl⟩
 ·have q1:(E==0)=false:=by rw [beq_eq_false_iff_ne];exact hE
  have q2:(E != 0)=true:=by rw [bne,q1];rfl
  have HR:Hid (R=E):=hid (by rw [HV.out];simp [hE])
  clear HV hE
  go_enter Tryz.func76,Tryz.ntmps76
  go_wp2_with fail
  refine (M.out).mono ?_
  rintro e w' ⟨rfl,rfl⟩
  go_wp2_with fail
  go_ret
  exact ⟨retI (by rw [HR.out]),rfl⟩
theorem sumR_take{l:List Jt}{k:Nat}{j:Jt}(h:l[k]? = some j):sumR (l.take (k+1))=sumR (l.take k)+j.runs:=by
 induction l generalizing k with
 | nil=>simp at h
 | cons a r ih =>
  cases k with
  | zero=>simp at h;subst h;simp [sumR]
  | succ k =>
   have:=ih (k:=k) (by simpa using h)
   simp only [List.take_succ_cons,sumR]
   omega
theorem rgtotal_ok(h:RAt w L x):Calls Tryz.prog 96 #[.pointer (some ⟨L.g,0,none⟩)] w fun e w'=>e=.returned (.int .i64 x.total)∧w=w':=by
 have c9:=h.c9
 have hn:=h.inv.n
 have HX:=hid h
 have HB:Hid (∀k,0≤sumR (x.js.take k)∧sumR (x.js.take k)≤64000):=hid (fun k=>by
  have h1:=sumR_bounds (l:=x.js.take k) (fun j hj=>by have:=h.inv.js j (List.mem_of_mem_take hj);omega)
  have:(x.js.take k).length≤64:=Nat.le_trans (by rw [List.length_take];exact Nat.min_le_right _ _) hn
  omega)
 obtain ⟨n,HN⟩:∃n,Hid (x.js.length=n):=⟨_,hid rfl⟩
 rw [HN.out] at c9 hn
 clear h
 go_enter Tryz.func96,Tryz.ntmps96
 go_wp2_with fail
 go_loopw [3,4] (fun s3 s4 wr=>∃k:Nat,k≤n∧s4=.int .i64 k∧s3=.int .i64 (sumR (x.js.take k))∧wr=w) (fun _ s4 _=>n - intA s4)
 case atStart=>exact ⟨0,Nat.zero_le _,rfl,rfl,rfl⟩
 case round =>
  obtain ⟨k,hk,rfl,rfl,rfl⟩:=hrel
  rcases Nat.lt_or_ge k n with hlt|hge
  ·obtain ⟨j,hj⟩:∃j,x.js[k]? = some j:=⟨_,List.getElem?_eq_getElem (by rw [HN.out];exact hlt)⟩
   obtain ⟨b,-,r9,rk,-⟩:=HX.out.rr hj
   rw [HN.out] at r9
   have hs:=sumR_take hj
   have hb1:=HB.out k
   have hb2:=HB.out (k+1)
   have HJ:=hid hs
   rw [hs] at hb2
   generalize sumR (x.js.take k)=sk at *
   generalize j.runs=rj at *
   clear hs hj c9
   have hw:IntKind.i64.wrap (sk+rj)=sk+rj:=IntWalk.i64_in _ (by omega)
   go_wp2_with fail
   refine ⟨⟨k+1,by omega,by go_num,by rw [HJ.out],trivial⟩,?_⟩
   simp [intA];omega
  ·obtain rfl:n=k:=by omega
   have HT:Hid (sumR (x.js.take n)=x.total):=hid (by rw [←HN.out,List.take_length];rfl)
   generalize sumR (x.js.take n)=T at *
   go_wp2_with fail
   go_ret
   exact ⟨retI (by rw [HT.out]),rfl⟩
end
section
variable{w:World}{L:RLy}{x:Gt}
theorem rgwhy_ok(h:RAt w L x){k:Nat}{j:Jt}(hk:x.js[k]? = some j)(now:Int):Calls Tryz.prog 128 #[.pointer (some ⟨L.g,0,none⟩),.int .i64 k,.int .i64 now] w fun e w'=>e=.returned (.int .i64 (x.whyJ j now))∧∃n,w'=w.drewN n:=by
 have TT:=hid (fun n=>rgtotal_ok (h.drewN n))
 have AB:=hid (fun n=>rallows_ok (h.drewN n).lm h.inv.both now)
 have AO:=hid (fun n=>rallows_ok ((h.drewN n).job k j hk).1 (h.inv.of hk).2.2.1 now)
 have AX:=hid (fun n=>BK.rallows_ok ((h.drewN n).job k j hk).2 (h.inv.of hk).2.2.2 now)
 have HV:Hid (x.whyJ j now=bit (decide (x.cap≤x.total)) 1+bit (!x.both.allows now) 2+bit (decide (j.cap≤j.runs)) 4+bit (!j.lm.allows now) 8+bit (!BK.allows j.bx now) 16):=hid rfl
 have hl:k<x.js.length:=(List.getElem?_eq_some_iff.1 hk).1
 have hn:=h.inv.n
 obtain ⟨rb,-,c9,rk,-⟩:=h.rr hk
 obtain ⟨ob,c11,ok⟩:=h.or_ hk
 obtain ⟨bb,c12,bk⟩:=h.br hk
 obtain ⟨jb,c8,jk⟩:=h.jr hk
 have c1:=h.c1
 have c10:=h.c10
 generalize x.js.length=n at *
 generalize x.whyJ j now=V at *
 generalize x.total=tot at *
 generalize x.both.allows now=b1 at *
 generalize j.lm.allows now=b3 at *
 generalize BK.allows j.bx now=b4 at *
 generalize x.cap=cap at *
 generalize j.cap=jc at *
 generalize j.runs=jr at *
 clear h hk
 have HB:∀(b:Bool) (m:Int),(0≤m∧m≤16)→0≤bit b m∧bit b m≤m:=fun b m h=>by unfold bit;cases b<;>simp<;>omega
 obtain ⟨a1,HA1⟩:∃a,Hid (bit (decide (cap≤tot)) 1=a∧0≤a∧a≤1):=⟨_,hid ⟨rfl,HB _ 1 (by omega)⟩⟩
 obtain ⟨a2,HA2⟩:∃a,Hid (bit (!b1) 2=a∧0≤a∧a≤2):=⟨_,hid ⟨rfl,HB _ 2 (by omega)⟩⟩
 obtain ⟨a3,HA3⟩:∃a,Hid (bit (decide (jc≤jr)) 4=a∧0≤a∧a≤4):=⟨_,hid ⟨rfl,HB _ 4 (by omega)⟩⟩
 obtain ⟨a4,HA4⟩:∃a,Hid (bit (!b3) 8=a∧0≤a∧a≤8):=⟨_,hid ⟨rfl,HB _ 8 (by omega)⟩⟩
 obtain ⟨a5,HA5⟩:∃a,Hid (bit (!b4) 16=a∧0≤a∧a≤16):=⟨_,hid ⟨rfl,HB _ 16 (by omega)⟩⟩
 clear HB
 go_enter Tryz.func128,Tryz.ntmps128
 go_wp2_with fail
 go_quiet ((go_at_call 96;exact quietL (TT.out _)))
 go_upto_if 16 with fail
 go_cut [7] from 8 to 72 (fun s7 wx=>s7=.int .i64 (a1)∧∃m,wx=w.drewN m)
 case first =>
  by_cases hc:cap≤tot
  ·have qc:decide (cap≤tot)=true:=decide_eq_true hc
   have HE:a1=1:=by rw [←HA1.out.1,qc];rfl
   go_wp2_with fail
   go_meet
   exact ⟨by rw [HE],_,rfl⟩
  ·have qc:decide (cap≤tot)=false:=decide_eq_false hc
   have HE:a1=0:=by rw [←HA1.out.1,qc];rfl
   go_wp2_with fail
   go_meet
   exact ⟨by rw [HE],_,rfl⟩
 case rest =>
  obtain ⟨rfl,m0,rfl⟩:=hcut
  go_wp2_with fail
  refine (quietN (AB.out _)).mono ?_
  rintro e_ w_ ⟨rfl,m_,rfl⟩
  go_upto_if 25 with fail
  go_cut [7] from 8 to 72 (fun s7 wx=>s7=.int .i64 (a1+a2)∧∃m,wx=w.drewN m)
  case first =>
   cases b1
   ·have HE:a2=2:=by rw [←HA2.out.1];rfl
    have hw:IntKind.i64.wrap (a1+2)=a1+2:=IntWalk.i64_in _ (by have:=HA1.out.2;omega)
    go_wp2_with fail
    go_meet
    exact ⟨by rw [HE],_,rfl⟩
   ·have HE:a2=0:=by rw [←HA2.out.1];rfl
    go_wp2_with fail
    go_meet
    exact ⟨by rw [HE,Int.add_zero],_,rfl⟩
  case rest =>
   obtain ⟨rfl,m1,rfl⟩:=hcut
   go_upto_region 6 with fail
   go_quiet (fail)
   go_upto_if 45 with fail
   go_cut [7] from 8 to 72 (fun s7 wx=>s7=.int .i64 (a1+a2+a3)∧∃m,wx=w.drewN m)
   case first =>
    by_cases hc:jc≤jr
    ·have qc:decide (jc≤jr)=true:=decide_eq_true hc
     have HE:a3=4:=by rw [←HA3.out.1,qc];rfl
     have hw:IntKind.i64.wrap (a1+a2+4)=a1+a2+4:=IntWalk.i64_in _ (by have:=HA1.out.2;have:=HA2.out.2;omega)
     go_wp2_with fail
     go_meet
     exact ⟨by rw [HE],_,rfl⟩
    ·have qc:decide (jc≤jr)=false:=decide_eq_false hc
     have HE:a3=0:=by rw [←HA3.out.1,qc];rfl
     go_wp2_with fail
     go_meet
     exact ⟨by rw [HE,Int.add_zero],_,rfl⟩
   case rest =>
    obtain ⟨rfl,m2,rfl⟩:=hcut
    go_wp2_with fail
    refine (quietN (AO.out _)).mono ?_
    rintro e_ w_ ⟨rfl,m_,rfl⟩
    go_upto_if 57 with fail
    go_cut [7] from 8 to 72 (fun s7 wx=>s7=.int .i64 (a1+a2+a3+a4)∧∃m,wx=w.drewN m)
    case first =>
     cases b3
     ·have HE:a4=8:=by rw [←HA4.out.1];rfl
      have hw:IntKind.i64.wrap (a1+a2+a3+8)=a1+a2+a3+8:=IntWalk.i64_in _ (by have:=HA1.out.2;have:=HA2.out.2;have:=HA3.out.2;omega)
      go_wp2_with fail
      go_meet
      exact ⟨by rw [HE],_,rfl⟩
     ·have HE:a4=0:=by rw [←HA4.out.1];rfl
      go_wp2_with fail
      go_meet
      exact ⟨by rw [HE,Int.add_zero],_,rfl⟩
    case rest =>
     obtain ⟨rfl,m3,rfl⟩:=hcut
     go_wp2_with fail
     refine (quietN (AX.out _)).mono ?_
     rintro e_ w_ ⟨rfl,m_,rfl⟩
     go_upto_if 69 with fail
     go_cut [7] from 8 to 72 (fun s7 wx=>s7=.int .i64 (a1+a2+a3+a4+a5)∧∃m,wx=w.drewN m)
     case first =>
      cases b4
      ·have HE:a5=16:=by rw [←HA5.out.1];rfl
       have hw:IntKind.i64.wrap (a1+a2+a3+a4+16)=a1+a2+a3+a4+16:=IntWalk.i64_in _ (by have:=HA1.out.2;have:=HA2.out.2;have:=HA3.out.2;have:=HA4.out.2;omega)
       go_wp2_with fail
       go_meet
       exact ⟨by rw [HE],_,rfl⟩
      ·have HE:a5=0:=by rw [←HA5.out.1];rfl
       go_wp2_with fail
       go_meet
       exact ⟨by rw [HE,Int.add_zero],_,rfl⟩
     case rest =>
      obtain ⟨rfl,m4,rfl⟩:=hcut
      go_wp2_with fail
      go_ret
      exact ⟨retI (by rw [HV.out,HA1.out.1,HA2.out.1,HA3.out.1,HA4.out.1,HA5.out.1]),_,rfl⟩
end
set_option maxRecDepth 16000
set_option maxHeartbeats 40000000
structure RFive(w:World)(L:RLy)(k:Nat)(gc:Array Value)(rb:Nat)(rs:Array Value)(m l:Lm)(bx:Bx)(ob:Nat)(os:Array Value)(bb:Nat)(bs:Array Value):Prop where
 g:Blk w L.g 150 gc
 r:Blk w rb 3 rs
 m:RLmAt w L.lm m
 l:RLmAt w (L.li k) l
 b:RBoxAt w (L.bo k) bx
 o:Blk w ob 146 os
 q:Blk w bb 153 bs
 ne:L.li k≠L.lm
structure RRow(L:RLy)(x:Gt)(k rb:Nat)(rs:Array Value)(ob:Nat)(os:Array Value)(bb:Nat)(bs:Array Value):Prop where
 ra:L.ra=some ⟨rb,0,none⟩
 oa:L.oa=some ⟨ob,0,none⟩
 ba:L.ba=some ⟨bb,0,none⟩
 rs:∀(i:Nat) (j:Jt),x.js[i]? = some j→rs[i]? = some (.int .i64 j.runs)
 os:os[k]? = some (.pointer (some ⟨L.li k,0,none⟩))
 bs:bs[k]? = some (.pointer (some ⟨L.bo k,0,none⟩))
theorem RAt.five{w:World}{L:RLy}{x:Gt}(h:RAt w L x){k:Nat}{j:Jt}(hk:x.js[k]? = some j):∃(rb:Nat) (rs:Array Value) (ob:Nat) (os:Array Value) (bb:Nat) (bs:Array Value),RRow L x k rb rs ob os bb bs∧RFive w L k (L.cells x) rb rs x.both j.lm j.bx ob os bb bs:=by
 have hl:k<x.js.length:=(List.getElem?_eq_some_iff.1 hk).1
 obtain ⟨rb,rs,e1,h1,h2⟩:=h.runs (by omega)
 obtain ⟨ob,os,e3,h3,h4⟩:=h.ones (by omega)
 obtain ⟨bb,bs,e5,h5,h6⟩:=h.boxs (by omega)
 exact ⟨rb,rs,ob,os,bb,bs,⟨e1,e3,e5,h2,h4 k hl,h6 k hl⟩,⟨h.gate,h1,h.lm,(h.job k j hk).1,(h.job k j hk).2,h3,h5,(h.one k hl).1⟩⟩
section
variable{w w':World}{L:RLy}{k:Nat}{gc:Array Value}{rb:Nat}{rs:Array Value}{m m' l l':Lm}{bx bx':Bx}{ob:Nat}{os:Array Value}{bb:Nat}{bs:Array Value}
theorem RFive.below(h:RFive w L k gc rb rs m l bx ob os bb bs)(hb:Below w.heap.size w w'):RFive w' L k gc rb rs m l bx ob os bb bs :=
 ⟨h.g.below hb h.g.lt,h.r.below hb h.r.lt,Blk.below h.m hb (Blk.lt h.m),Blk.below h.l hb (Blk.lt h.l),Blk.below h.b hb (Blk.lt h.b),h.o.below hb h.o.lt,h.q.below hb h.q.lt,h.ne⟩
theorem RFive.stepM(h:RFive w L k gc rb rs m l bx ob os bb bs)(hc:RLmAt w' L.lm m')(hg:w.grownBy w' (some L.lm)):RFive w' L k gc rb rs m' l bx ob os bb bs :=
 ⟨Blk.grown h.g hg (some_ne (blk_ne h.g h.m (by decide))),Blk.grown h.r hg (some_ne (blk_ne h.r h.m (by decide))),hc,Blk.grown h.l hg (some_ne h.ne),Blk.grown h.b hg (some_ne (blk_ne h.b h.m (by decide))),Blk.grown h.o hg (some_ne (blk_ne h.o h.m (by decide))),Blk.grown h.q hg (some_ne (blk_ne h.q h.m (by decide))),h.ne⟩
theorem RFive.stepL(h:RFive w L k gc rb rs m l bx ob os bb bs)(hc:RLmAt w' (L.li k) l')(hg:w.grownBy w' (some (L.li k))):RFive w' L k gc rb rs m l' bx ob os bb bs :=
 ⟨Blk.grown h.g hg (some_ne (blk_ne h.g h.l (by decide))),Blk.grown h.r hg (some_ne (blk_ne h.r h.l (by decide))),Blk.grown h.m hg (some_ne h.ne.symm),hc,Blk.grown h.b hg (some_ne (blk_ne h.b h.l (by decide))),Blk.grown h.o hg (some_ne (blk_ne h.o h.l (by decide))),Blk.grown h.q hg (some_ne (blk_ne h.q h.l (by decide))),h.ne⟩
theorem RFive.stepB(h:RFive w L k gc rb rs m l bx ob os bb bs)(hc:RBoxAt w' (L.bo k) bx')(hg:w.grownBy w' (some (L.bo k))):RFive w' L k gc rb rs m l bx' ob os bb bs :=
 ⟨Blk.grown h.g hg (some_ne (blk_ne h.g h.b (by decide))),Blk.grown h.r hg (some_ne (blk_ne h.r h.b (by decide))),Blk.grown h.m hg (some_ne (blk_ne h.m h.b (by decide))),Blk.grown h.l hg (some_ne (blk_ne h.l h.b (by decide))),hc,Blk.grown h.o hg (some_ne (blk_ne h.o h.b (by decide))),Blk.grown h.q hg (some_ne (blk_ne h.q h.b (by decide))),h.ne⟩
theorem RFive.last(h:RFive w L k gc rb rs m l bx ob os bb bs)(now:Int):RFive (w.setCell ⟨L.g,13,none⟩ (.int .i64 now)) L k (gc.setIfInBounds 13 (.int .i64 now)) rb rs m l bx ob os bb bs :=
 ⟨Blk.set_ h.g 13 _,Blk.far h.r (blk_ne h.r h.g (by decide)) _,Blk.far h.m (blk_ne h.m h.g (by decide)) _,Blk.far h.l (blk_ne h.l h.g (by decide)) _,Blk.far h.b (blk_ne h.b h.g (by decide)) _,Blk.far h.o (blk_ne h.o h.g (by decide)) _,Blk.far h.q (blk_ne h.q h.g (by decide)) _,h.ne⟩
theorem RFive.stepR(h:RFive w L k gc rb rs m l bx ob os bb bs)(i:Nat)(u:Value):RFive (w.setCell ⟨rb,i,none⟩ u) L k gc rb (rs.setIfInBounds i u) m l bx ob os bb bs :=
 ⟨Blk.far h.g (blk_ne h.g h.r (by decide)) _,Blk.set_ h.r i _,Blk.far h.m (blk_ne h.m h.r (by decide)) _,Blk.far h.l (blk_ne h.l h.r (by decide)) _,Blk.far h.b (blk_ne h.b h.r (by decide)) _,Blk.far h.o (blk_ne h.o h.r (by decide)) _,Blk.far h.q (blk_ne h.q h.r (by decide)) _,h.ne⟩
end
theorem RLy.cells_last(L:RLy)(x:Gt)(now:Int)(b:Lm)(js:List Jt)(hl:js.length=x.js.length):(L.cells x).setIfInBounds 13 (.int .i64 now)=L.cells ⟨x.cap,b,js,now⟩:=by unfold RLy.cells;simp [hl]
theorem turn_at{F:Nat→Prop}(w:World)(g i:Nat)(v:Value)(h:F g):Turn F w (w.setCell ⟨g,i,none⟩ v):=Turn.of_only (only_setCell (only_refl w (some g)) (.inl rfl) v) h
theorem runs_set{js:List Jt}{rs:Array Value}(h:∀(i:Nat) (j:Jt),js[i]? = some j→rs[i]? = some (.int .i64 j.runs)){k:Nat}{j:Jt}(hk:js[k]? = some j)(j':Jt):∀(i:Nat) (m:Jt),(js.set k j')[i]? = some m→(rs.setIfInBounds k (.int .i64 j'.runs))[i]? = some (.int .i64 m.runs):=fun i m hm=>by
 rw [List.getElem?_set] at hm
 have hr:k<rs.size:=(Array.getElem?_eq_some_iff.1 (h k j hk)).1
 have hl:k<js.length:=(List.getElem?_eq_some_iff.1 hk).1
 by_cases e:k=i
 ·subst e
  rw [if_pos rfl,if_pos hl] at hm
  injection hm with hm
  subst hm
  rw [Array.getElem?_setIfInBounds_self_of_lt hr]
 ·rw [if_neg e] at hm
  rw [Array.getElem?_setIfInBounds_ne e]
  exact h i m hm
theorem RAt.done{w w':World}{L:RLy}{x y:Gt}(h:RAt w L x){k:Nat}{j j':Jt}(hk:x.js[k]? = some j)(ht:Turn (L.foot k) w w'){rb:Nat}{rs:Array Value}{ob:Nat}{os:Array Value}{bb:Nat}{bs:Array Value}
 (hy:y.js=x.js.set k j') (hc:j'.cap=j.cap) (hi:y.Inv) (ha:L.ra=some ⟨rb,0,none⟩) (hr:∀(i:Nat) (m:Jt),y.js[i]? = some m→rs[i]? = some (.int .i64 m.runs)) (hf:RFive w' L k (L.cells y) rb rs y.both j'.lm j'.bx ob os bb bs):RAt w' L y∧Turn (L.own x.js.length) w w' :=
 h.upd hk ht hy hc hi hf.g hf.m ⟨rb,rs,ha,hf.r,hr⟩ hf.l hf.b
section
variable{w:World}{L:RLy}{x:Gt}
theorem rgWhy_ok(h:RAt w L x)(job now:Int):Calls Tryz.prog 73 #[.pointer (some ⟨L.g,0,none⟩),.int .i64 job,.int .i64 now] w fun e w'=>e=.returned (.tuple #[.int .i64 (x.Why job now).1,.int .i64 (x.Why job now).2])∧∃n,w'=w.drewN n:=by
 have M:=hid (rgwrong_ok h job now)
 by_cases hE:x.call job now=0
 ·obtain ⟨hA,hlast⟩:=Gt.call_zero hE
  obtain ⟨-,k,rfl,j,hk,hj⟩:=Gt.asked_zero hA
  have HR:Hid (x.Why k now=(x.whyJ j now,0)):=hid (by unfold Gt.Why Gt.why;rw [if_neg (by rw [hE];simp),hj])
  have Y:=hid (rgwhy_ok h hk now)
  rw [hE] at M
  generalize x.Why k now=V at *
  clear hE hA hlast hk hj h
  go_enter Tryz.func73,Tryz.ntmps73
  go_wp2_with fail
  refine (M.out).mono ?_
  rintro e w' ⟨rfl,rfl⟩
  go_wp2_with fail
  refine (Y.out).mono ?_
  rintro e w' ⟨rfl,n,rfl⟩
  go_wp2_with fail
  go_ret2
  exact ⟨retII (by rw [HR.out]) (by rw [HR.out]),_,rfl⟩
 ·have HR:Hid (x.Why job now=(0,x.call job now)):=hid (by unfold Gt.Why;rw [if_pos hE])
  generalize x.Why job now=V at *
  generalize x.call job now=E at *
  have q1:(E==0)=false:=by rw [beq_eq_false_iff_ne];exact hE
  have q2:(E != 0)=true:=by rw [bne,q1];rfl
  clear hE h
  go_enter Tryz.func73,Tryz.ntmps73
  go_wp2_with fail
  refine (M.out).mono ?_
  rintro e w' ⟨rfl,rfl⟩
  go_wp2_with fail
  go_ret2
  exact ⟨retII (by rw [HR.out]) (by rw [HR.out]),0,rfl⟩
theorem rgtake_ok(h:RAt w L x)(job now:Int):Calls Tryz.prog 25 #[.pointer (some ⟨L.g,0,none⟩),.int .i64 job,.int .i64 now] w fun e w'=>e=.returned (.int .i64 (x.take job now).1)∧RAt w' L (x.take job now).2∧Turn (L.own x.js.length) w w':=by
 have M:=hid (rgWhy_ok h job now)
 have HG:=hid h
 have HV:=hid (Gt.take_eq (x:=x) (job:=job) (now:=now))
 by_cases hE:x.call job now=0
 ·obtain ⟨hA,hlast⟩:=Gt.call_zero hE
  obtain ⟨ht,k,rfl,j,hk,hj⟩:=Gt.asked_zero hA
  have hW:x.Why k now=(x.whyJ j now,0):=by unfold Gt.Why Gt.why;rw [if_neg (by rw [hE];simp),hj]
  have hv:=HV.out
  rw [hW] at M hv
  simp only [ne_eq,not_true_eq_false,if_false] at hv
  rw [hj] at hv
  clear HV
  by_cases hn:x.whyJ j now=0
  ·obtain ⟨w1,w2,w3,w4,w5⟩:=whyJ_zero hn
   have HR:Hid (x.take k now=(0,x.took k j now)):=hid (by rw [hv];simp [hn])
   rw [hn] at M
   have HT:=hid (timeB_iff.1 ht)
   have HK:=hid hk
   have HL:Hid (k<x.js.length):=hid (List.getElem?_eq_some_iff.1 hk).1
   have HN64:=hid h.inv.n
   have hi:=h.inv.of hk
   have HI:=hid hi
   have HN:Hid (j.runs<j.cap):=hid w3
   have HC:Hid (x.both.check now=0∧j.lm.check now=0):=hid ⟨of_decide_eq_true w2,of_decide_eq_true w4⟩
   obtain ⟨rb,rs,ob,os,bb,bs,hrw,hf⟩:=h.five hk
   have RW:=hid hrw
   have F:=hid hf
   have LM:=hid (fun W (hc:RLmAt W L.lm x.both)=>(rltake_ok hc h.inv.both now))
   have LI:=hid (fun W (hc:RLmAt W (L.li k) j.lm)=>(rltake_ok hc hi.2.2.1 now))
   rw [Lm.take_ok w2] at LM
   rw [Lm.take_ok w4] at LI
   have BT:=hid (fun W (hc:RBoxAt W (L.bo k) j.bx)=>BK.rtake_ok hc hi.2.2.2 now)
   have HY:Hid (BK.Inv (BK.take j.bx now).2):=hid (BK.inv_take hi.2.2.2)
   have HTK:Hid (x.took k j now=⟨x.cap,x.both.count now,x.js.set k ⟨j.cap,j.runs+1,j.lm.count now,(BK.take j.bx now).2⟩,now⟩):=hid rfl
   generalize x.take k now=R at *
   generalize x.took k j now=Y at *
   generalize BK.take j.bx now=q at *
   clear hE hA hlast ht hk hj h hi hv hn w1 w2 w3 w4 w5 hW hrw hf
   go_enter Tryz.func25,Tryz.ntmps25
   go_wp2_with fail
   refine (M.out).mono ?_
   rintro e w1 ⟨rfl,dn,rfl⟩
   obtain ⟨w1,hw1⟩:∃w1,w1=w.drewN dn:=⟨_,rfl⟩
   rw [←hw1]
   have HB1:Hid (Below w.heap.size w w1):=hid (by rw [hw1];exact below_drewN (Below.refl _ _) dn)
   have F0:=hid (F.out.below HB1.out)
   clear hw1 M F
   have c9:w1.cell? ⟨L.g,9,none⟩=some (.slice (some ⟨rb,0,none⟩) x.js.length L.rc):=by
    have h1:=F0.out.g.cell 9
    rw [h1]
    show some (Value.slice L.ra x.js.length L.rc)=_
    rw [RW.out.ra]
   have cr:w1.cell? ⟨rb,k,none⟩=some (.int .i64 j.runs):=(F0.out.r.cell k).trans (RW.out.rs k j HK.out)
   have k9:=cell_regrown c9
   have kr:=cell_regrown cr
   have hl:=HL.out
   have hn:=HN64.out
   have HNx:=HN.out
   have HIx:=HI.out.2.1
   have hwr:IntKind.i64.wrap (j.runs+1)=j.runs+1:=IntWalk.i64_in _ (by have:=HI.out.1;omega)
   go_upto_region 6 with fail
   refine RK.wp_region_quiet_tail _ 13 _ (by rfl) (by kernel_rfl) (by kernel_rfl) (by kernel_rfl) (by kernel_rfl) (by kernel_rfl) (by kernel_rfl) (by kernel_rfl) ?_
   dsimp only [List.take_succ_cons,List.take_zero]
   repeat (go_big_quiet_step (fail))
   refine wpQuiet_nil ?_
   intro _ hw'
   obtain ⟨⟨dq,osq⟩,hw''⟩:=hw'
   subst hw''
   have hb0:=below_regrown w1 dq osq
   generalize Sort.grow (redrawn w1 dq) osq=W at *
   have HB0:=hid hb0
   have F1:=hid (F0.out.below hb0)
   clear hb0 c9 cr k9 kr
   have c9:W.cell? ⟨L.g,9,none⟩=some (.slice (some ⟨rb,0,none⟩) x.js.length L.rc):=by
    have h1:=F1.out.g.cell 9
    rw [h1]
    show some (Value.slice L.ra x.js.length L.rc)=_
    rw [RW.out.ra]
   have cr:W.cell? ⟨rb,k,none⟩=some (.int .i64 j.runs):=(F1.out.r.cell k).trans (RW.out.rs k j HK.out)
   have fr:W.frozen? ⟨rb,k,none⟩=false:=F1.out.r.frozen k
   have T1:Hid (Turn (L.foot k) w (W.setCell ⟨rb,k,none⟩ (.int .i64 (j.runs+1)))):=hid ((Turn.of_below (HB1.out.trans (HB0.out.mono HB1.out.size))).trans (turn_at W rb k _ (.inr (.inr (.inl ⟨0,RW.out.ra⟩)))))
   have F2:=hid (F1.out.stepR k (.int .i64 (j.runs+1)))
   go_upto_region 7 with fail
   obtain ⟨W2,hW2⟩:∃W2,W2=W.setCell ⟨rb,k,none⟩ (.int .i64 (j.runs+1)):=⟨_,rfl⟩
   rw [←hW2] at F2 T1 ⊢
   clear hW2 c9 cr fr F0 F1 HB0 HB1 hwr
   have d10:W2.cell? ⟨L.g,10,none⟩=some (.pointer (some ⟨L.lm,0,none⟩)):=F2.out.g.cell 10
   have C1:=hid (LM.out _ F2.out.m)
   go_wp2_with fail
   refine (C1.out).mono ?_
   rintro e w3 ⟨rfl,hc,hg⟩
   have F3:=hid (F2.out.stepM hc hg)
   have T3:=hid (T1.out.trans (Turn.of_only hg (show L.foot k _ from .inr (.inl rfl))))
   clear hc hg d10 C1 LM F2 T1
   have c11:w3.cell? ⟨L.g,11,none⟩=some (.slice (some ⟨ob,0,none⟩) x.js.length L.oc):=by
    have h1:=F3.out.g.cell 11
    rw [h1]
    show some (Value.slice L.oa x.js.length L.oc)=_
    rw [RW.out.oa]
   have o3:w3.cell? ⟨ob,k,none⟩=some (.pointer (some ⟨L.li k,0,none⟩)):=(F3.out.o.cell k).trans RW.out.os
   have C2:=hid (LI.out _ F3.out.l)
   go_wp2_with fail
   refine (C2.out).mono ?_
   rintro e w4 ⟨rfl,hc,hg⟩
   have F4:=hid (F3.out.stepL hc hg)
   have T4:=hid (T3.out.trans (Turn.of_only hg (show L.foot k _ from .inr (.inr (.inr (.inl rfl))))))
   clear hc hg c11 o3 C2 LI F3 T3
   have c12:w4.cell? ⟨L.g,12,none⟩=some (.slice (some ⟨bb,0,none⟩) x.js.length L.bc):=by
    have h1:=F4.out.g.cell 12
    rw [h1]
    show some (Value.slice L.ba x.js.length L.bc)=_
    rw [RW.out.ba]
   have b4:w4.cell? ⟨bb,k,none⟩=some (.pointer (some ⟨L.bo k,0,none⟩)):=(F4.out.q.cell k).trans RW.out.bs
   have C3:=hid (BT.out _ F4.out.b)
   go_wp2_with fail
   refine (C3.out).mono ?_
   rintro e w5 ⟨rfl,hc,hg⟩
   have F5:=hid (F4.out.stepB hc hg)
   have T5:=hid (T4.out.trans (Turn.of_only hg (show L.foot k _ from .inr (.inr (.inr (.inr rfl))))))
   clear hc hg c12 b4 C3 BT F4 T4
   have p13:w5.cell? ⟨L.g,13,none⟩=some (.int .i64 x.last):=F5.out.g.cell 13
   have f13:w5.frozen? ⟨L.g,13,none⟩=false:=F5.out.g.frozen 13
   go_wp2_with fail
   go_ret
   rw [HR.out,HTK.out]
   refine ⟨rfl,?_⟩
   have tu:Turn (L.foot k) w (w5.setCell ⟨L.g,13,none⟩ (.int .i64 now)):=T5.out.trans (turn_at w5 L.g 13 _ (.inl rfl))
   have h4:=F5.out.last now
   rw [L.cells_last x now (x.both.count now) (x.js.set k ⟨j.cap,j.runs+1,j.lm.count now,q.2⟩) (by simp)] at h4
   refine HG.out.done HK.out (j':=⟨j.cap,j.runs+1,j.lm.count now,q.2⟩) tu rfl rfl ?_ RW.out.ra (runs_set RW.out.rs HK.out ⟨j.cap,j.runs+1,j.lm.count now,q.2⟩) h4
   exact HG.out.inv.set (j':=⟨j.cap,j.runs+1,j.lm.count now,q.2⟩) ⟨HI.out.1,by show 0≤j.runs+1∧j.runs+1≤j.cap;omega,HI.out.2.2.1.count HC.out.2,HY.out⟩ (HG.out.inv.both.count HC.out.1) HT.out
  ·have HR:Hid (x.take k now=(9,x)):=hid (by rw [hv];simp [hn])
   generalize x.take k now=R at *
   generalize x.whyJ j now=E at *
   have q1:(E==0)=false:=by rw [beq_eq_false_iff_ne];exact hn
   have q2:(E != 0)=true:=by rw [bne,q1];rfl
   clear hE hA hlast ht hk hj h hv hn hW
   go_enter Tryz.func25,Tryz.ntmps25
   go_wp2_with fail
   refine (M.out).mono ?_
   rintro e w1 ⟨rfl,dn,rfl⟩
   go_wp2_with fail
   go_ret
   rw [HR.out]
   exact ⟨rfl,HG.out.drewN dn,Turn.of_below (below_drewN (Below.refl _ _) dn)⟩
 ·have hW:x.Why job now=(0,x.call job now):=by unfold Gt.Why;rw [if_pos hE]
  have HR:Hid (x.take job now=(x.call job now,x)):=hid (by unfold Gt.take;rw [if_pos hE])
  rw [hW] at M
  clear HV hW
  generalize x.take job now=R at *
  generalize x.call job now=E at *
  have q1:(E==0)=false:=by rw [beq_eq_false_iff_ne];exact hE
  have q2:(E != 0)=true:=by rw [bne,q1];rfl
  clear hE h
  go_enter Tryz.func25,Tryz.ntmps25
  go_wp2_with fail
  refine (M.out).mono ?_
  rintro e w1 ⟨rfl,dn,rfl⟩
  go_wp2_with fail
  go_ret
  rw [HR.out]
  exact ⟨rfl,HG.out.drewN dn,Turn.of_below (below_drewN (Below.refl _ _) dn)⟩
end
section
variable{w:World}{L:RLy}{x:Gt}
theorem rggive_ok(h:RAt w L x)(job:Int)(ok:Bool)(now:Int):Calls Tryz.prog 26 #[.pointer (some ⟨L.g,0,none⟩),.int .i64 job,.bool ok,.int .i64 now] w fun e w'=>e=.returned (.tuple #[.int .i64 (x.give job ok now).1,.int .i64 (x.give job ok now).2.1])∧RAt w' L (x.give job ok now).2.2∧Turn (L.own x.js.length) w w':=by
 have M:=hid (rgwrong_ok h job now)
 have HG:=hid h
 by_cases hE:x.call job now=0
 ·obtain ⟨hA,hlast⟩:=Gt.call_zero hE
  obtain ⟨ht,k,rfl,j,hk,hj⟩:=Gt.asked_zero hA
  have HT:=hid (timeB_iff.1 ht)
  have HK:=hid hk
  have HL:Hid (k<x.js.length):=hid (List.getElem?_eq_some_iff.1 hk).1
  have HN64:=hid h.inv.n
  have hi:=h.inv.of hk
  have HI:=hid hi
  rw [hE] at M
  by_cases h0:j.runs=0
  ·have HR:Hid (x.give k ok now=(0,5,x)):=hid (by unfold Gt.give;rw [if_neg (by rw [hE];simp),hj];simp only;rw [if_pos h0])
   obtain ⟨rb,-,c9,cr,-⟩:=h.rr hk
   rw [h0] at cr
   have hl:=HL.out
   have hn:=HN64.out
   generalize x.give k ok now=R at *
   generalize x.js.length=n at c9 hl hn
   clear hE hA hlast ht hk hj h hi h0
   go_enter Tryz.func26,Tryz.ntmps26
   go_wp2_with fail
   refine (M.out).mono ?_
   rintro e w' ⟨rfl,rfl⟩
   go_wp2_with fail
   go_ret2
   rw [HR.out]
   exact ⟨rfl,HG.out,Turn.refl _ _⟩
  ·have HR:Hid (x.give k ok now=((BK.report j.bx ok now).1,(BK.report j.bx ok now).2.1,⟨x.cap,x.both,x.js.set k ⟨j.cap,j.runs - 1,j.lm,(BK.report j.bx ok now).2.2⟩,now⟩)):=hid (by
    unfold Gt.give;rw [if_neg (by rw [hE];simp),hj];simp only [Int.toNat_natCast];rw [if_neg h0])
   have HN:=hid h0
   obtain ⟨rb,rs,ob,os,bb,bs,hrw,hf⟩:=h.five hk
   have RW:=hid hrw
   have F:=hid hf
   have RP:=hid (fun W (hW:RBoxAt W (L.bo k) j.bx)=>BK.rreport_ok hW hi.2.2.2 ok now)
   have HY:Hid (BK.Inv (BK.report j.bx ok now).2.2):=hid (BK.inv_report hi.2.2.2)
   generalize x.give k ok now=R at *
   generalize BK.report j.bx ok now=q at *
   clear hE hA hlast ht hk hj h hi h0 hrw hf
   go_enter Tryz.func26,Tryz.ntmps26
   go_wp2_with fail
   refine (M.out).mono ?_
   rintro e w' ⟨rfl,rfl⟩
   have c9:w.cell? ⟨L.g,9,none⟩=some (.slice (some ⟨rb,0,none⟩) x.js.length L.rc):=by
    have h1:=F.out.g.cell 9
    rw [h1]
    show some (Value.slice L.ra x.js.length L.rc)=_
    rw [RW.out.ra]
   have cr:w.cell? ⟨rb,k,none⟩=some (.int .i64 j.runs):=(F.out.r.cell k).trans (RW.out.rs k j HK.out)
   have k9:=cell_regrown c9
   have kr:=cell_regrown cr
   have hl:=HL.out
   have hn:=HN64.out
   have HIx:=HI.out.2.1
   have qr:(j.runs==0)=false:=by rw [beq_eq_false_iff_ne];exact HN.out
   have hwr:IntKind.i64.wrap (j.runs - 1)=j.runs - 1:=IntWalk.i64_in _ (by have:=HI.out.1;omega)
   go_upto_region 6 with fail
   refine RK.wp_region_quiet_tail _ 13 _ (by rfl) (by kernel_rfl) (by kernel_rfl) (by kernel_rfl) (by kernel_rfl) (by kernel_rfl) (by kernel_rfl) (by kernel_rfl) ?_
   dsimp only [List.take_succ_cons,List.take_zero]
   repeat (go_big_quiet_step (fail))
   refine wpQuiet_nil ?_
   intro _ hw'
   obtain ⟨⟨dq,osq⟩,hw''⟩:=hw'
   subst hw''
   have hb0:=below_regrown w dq osq
   generalize Sort.grow (redrawn w dq) osq=W at *
   have HB0:=hid hb0
   have F1:=hid (F.out.below hb0)
   clear hb0 c9 cr k9 kr
   have c9:W.cell? ⟨L.g,9,none⟩=some (.slice (some ⟨rb,0,none⟩) x.js.length L.rc):=by
    have h1:=F1.out.g.cell 9
    rw [h1]
    show some (Value.slice L.ra x.js.length L.rc)=_
    rw [RW.out.ra]
   have cr:W.cell? ⟨rb,k,none⟩=some (.int .i64 j.runs):=(F1.out.r.cell k).trans (RW.out.rs k j HK.out)
   have fr:W.frozen? ⟨rb,k,none⟩=false:=F1.out.r.frozen k
   have T1:Hid (Turn (L.foot k) w (W.setCell ⟨rb,k,none⟩ (.int .i64 (j.runs - 1)))):=hid ((Turn.of_below HB0.out).trans (turn_at W rb k _ (.inr (.inr (.inl ⟨0,RW.out.ra⟩)))))
   have F2:=hid (F1.out.stepR k (.int .i64 (j.runs - 1)))
   go_upto_region 7 with fail
   obtain ⟨W2,hW2⟩:∃W2,W2=W.setCell ⟨rb,k,none⟩ (.int .i64 (j.runs - 1)):=⟨_,rfl⟩
   rw [←hW2] at F2 T1 ⊢
   clear hW2 c9 cr fr F F1 HB0 hwr M
   have p13:W2.cell? ⟨L.g,13,none⟩=some (.int .i64 x.last):=F2.out.g.cell 13
   have f13:W2.frozen? ⟨L.g,13,none⟩=false:=F2.out.g.frozen 13
   go_upto_region 8 with fail
   have F3:=hid (F2.out.last now)
   have T3:=hid (T1.out.trans (turn_at W2 L.g 13 (.int .i64 now) (show L.foot k _ from .inl rfl)))
   obtain ⟨W3,hW3⟩:∃W3,W3=W2.setCell ⟨L.g,13,none⟩ (.int .i64 now):=⟨_,rfl⟩
   rw [←hW3] at F3 T3 ⊢
   clear hW3 p13 f13 F2 T1
   have c12:W3.cell? ⟨L.g,12,none⟩=some (.slice (some ⟨bb,0,none⟩) x.js.length L.bc):=by
    have h1:=F3.out.g.cell 12
    rw [h1]
    show some (Value.slice L.ba x.js.length L.bc)=_
    rw [RW.out.ba]
   have b4:W3.cell? ⟨bb,k,none⟩=some (.pointer (some ⟨L.bo k,0,none⟩)):=(F3.out.q.cell k).trans RW.out.bs
   have C3:=hid (RP.out _ F3.out.b)
   go_wp2_with fail
   refine (C3.out).mono ?_
   rintro e w5 ⟨rfl,hc,hg⟩
   have F5:=hid (F3.out.stepB hc hg)
   have T5:=hid (T3.out.trans (Turn.of_only hg (show L.foot k _ from .inr (.inr (.inr (.inr rfl))))))
   clear hc hg c12 b4 C3 RP F3 T3
   go_wp2_with fail
   go_ret2
   rw [HR.out]
   refine ⟨rfl,?_⟩
   have h4:=F5.out
   rw [L.cells_last x now x.both (x.js.set k ⟨j.cap,j.runs - 1,j.lm,q.2.2⟩) (by simp)] at h4
   have hn0:=HN.out
   refine HG.out.done HK.out (j':=⟨j.cap,j.runs - 1,j.lm,q.2.2⟩) T5.out rfl rfl ?_ RW.out.ra (runs_set RW.out.rs HK.out ⟨j.cap,j.runs - 1,j.lm,q.2.2⟩) h4
   exact HG.out.inv.set (j':=⟨j.cap,j.runs - 1,j.lm,q.2.2⟩) ⟨HI.out.1,by show 0≤j.runs - 1∧j.runs - 1≤j.cap;omega,HI.out.2.2.1,HY.out⟩ HG.out.inv.both HT.out
 ·have HR:Hid (x.give job ok now=(0,x.call job now,x)):=hid (by unfold Gt.give;rw [if_pos hE])
  generalize x.give job ok now=R at *
  generalize x.call job now=E at *
  have q1:(E==0)=false:=by rw [beq_eq_false_iff_ne];exact hE
  have q2:(E != 0)=true:=by rw [bne,q1];rfl
  clear hE h
  go_enter Tryz.func26,Tryz.ntmps26
  go_wp2_with fail
  refine (M.out).mono ?_
  rintro e w' ⟨rfl,rfl⟩
  go_wp2_with fail
  go_ret2
  rw [HR.out]
  exact ⟨rfl,HG.out,Turn.refl _ _⟩
theorem rgstate_ok(h:RAt w L x)(job now:Int):Calls Tryz.prog 80 #[.pointer (some ⟨L.g,0,none⟩),.int .i64 job,.int .i64 now] w fun e w'=>e=.returned (.tuple #[.int .i64 (x.state job now).1,.int .i64 (x.state job now).2.1,.int .i64 (x.state job now).2.2])∧∃n,w'=w.drewN n:=by
 have M:=hid (rgasked_ok h job now)
 by_cases hE:x.asked job now=0
 ·obtain ⟨-,k,rfl,j,hk,hj⟩:=Gt.asked_zero hE
  have HR:Hid (x.state k now=(j.runs,BK.state j.bx now,0)):=hid (by unfold Gt.state;rw [if_neg (by rw [hE];simp),hj])
  rw [hE] at M
  have hl:k<x.js.length:=(List.getElem?_eq_some_iff.1 hk).1
  have hn:=h.inv.n
  obtain ⟨rb,-,c9,cr,-⟩:=h.rr hk
  obtain ⟨bb,c12,b4⟩:=h.br hk
  have S:=hid (fun n=>BK.rstate_ok ((h.drewN n).job k j hk).2 now)
  generalize x.state k now=R at *
  generalize x.js.length=n at *
  clear hE hk hj h
  go_enter Tryz.func80,Tryz.ntmps80
  go_wp2_with fail
  refine (M.out).mono ?_
  rintro e w' ⟨rfl,rfl⟩
  go_wp2_with fail
  go_quiet ((go_at_call 132;exact quietL (S.out _)))
  go_wp2_with fail
  refine bodyPost_ret (results_tmp3 rfl _ _ _) rfl ?_
  exact ⟨retIII (by rw [HR.out]) (by rw [HR.out]) (by rw [HR.out]),_,rfl⟩
 ·have HR:Hid (x.state job now=(0,0,x.asked job now)):=hid (by unfold Gt.state;rw [if_pos hE])
  generalize x.state job now=R at *
  generalize x.asked job now=E at *
  have q1:(E==0)=false:=by rw [beq_eq_false_iff_ne];exact hE
  have q2:(E != 0)=true:=by rw [bne,q1];rfl
  clear hE h
  go_enter Tryz.func80,Tryz.ntmps80
  go_wp2_with fail
  refine (M.out).mono ?_
  rintro e w' ⟨rfl,rfl⟩
  go_wp2_with fail
  refine bodyPost_ret (results_tmp3 rfl _ _ _) rfl ?_
  exact ⟨retIII (by rw [HR.out]) (by rw [HR.out]) (by rw [HR.out]),0,rfl⟩
theorem rguntil_ok(h:RAt w L x)(job:Int):Calls Tryz.prog 81 #[.pointer (some ⟨L.g,0,none⟩),.int .i64 job] w fun e w'=>e=.returned (.tuple #[.int .i64 (x.until job).1,.bool (x.until job).2])∧w=w':=by
 have V:=hid (rgvalid_ok h)
 have H:=hid (rghas_ok h job)
 have hb:x.asked job 0=if (decide (0≤job)&&decide (job<x.js.length))=false then 3 else 0:=rfl
 by_cases hE:x.asked job 0=0
 ·obtain ⟨-,k,rfl,j,hk,hj⟩:=Gt.asked_zero hE
  have HR:Hid (x.until k=(BK.untilOf j.bx,j.bx.op)):=hid (by unfold Gt.until;rw [if_neg (by rw [hE];simp),hj])
  have hB:(decide (0≤(k:Int))&&decide ((k:Int)<x.js.length))=true:=by
   cases hz:(decide (0≤(k:Int))&&decide ((k:Int)<x.js.length))
   ·rw [hz,hE] at hb;simp at hb
   ·rfl
  rw [hB] at H
  have hl:k<x.js.length:=(List.getElem?_eq_some_iff.1 hk).1
  have hn:=h.inv.n
  obtain ⟨bb,c12,b4⟩:=h.br hk
  have U:=hid (BK.runtil_ok (h.job k j hk).2)
  generalize x.until k=R at *
  generalize x.js.length=n at *
  clear hE hk hj h hB hb
  go_enter Tryz.func81,Tryz.ntmps81
  go_wp2_with fail
  refine (V.out).mono ?_
  rintro e w' ⟨rfl,rfl⟩
  go_wp2_with fail
  refine (H.out).mono ?_
  rintro e w' ⟨rfl,rfl⟩
  go_wp2_with fail
  refine (U.out).mono ?_
  rintro e w' ⟨rfl,rfl⟩
  go_wp2_with fail
  go_ret2
  exact ⟨retIB (by rw [HR.out]) (by rw [HR.out]),rfl⟩
 ·have HR:Hid (x.until job=(0,false)):=hid (by unfold Gt.until;rw [if_pos hE])
  have hB:(decide (0≤job)&&decide (job<x.js.length))=false:=by
   cases hz:(decide (0≤job)&&decide (job<x.js.length))
   ·rfl
   ·rw [hz] at hb;exact absurd hb hE
  rw [hB] at H
  generalize x.until job=R at *
  clear hE h hB hb
  go_enter Tryz.func81,Tryz.ntmps81
  go_wp2_with fail
  refine (V.out).mono ?_
  rintro e w' ⟨rfl,rfl⟩
  go_wp2_with fail
  refine (H.out).mono ?_
  rintro e w' ⟨rfl,rfl⟩
  go_wp2_with fail
  go_ret2
  exact ⟨retIB (by rw [HR.out]) (by rw [HR.out]),rfl⟩
end
section
variable{w:World}{L:RLy}{x:Gt}
theorem why_odd(x:Gt)(j:Jt)(now:Int):(x.whyJ j now).tmod 2=(if x.cap≤x.total then 1 else 0)∧((x.whyJ j now).tdiv 4).tmod 2=(if j.cap≤j.runs then 1 else 0):=by
 rw [whyJ_part]
 by_cases h1:x.cap≤x.total<;>by_cases h2:j.cap≤j.runs<;>simp only [h1,h2,decide_true,decide_false,if_true,if_false]<;>cases x.both.allows now<;>cases j.lm.allows now<;>cases BK.allows j.bx now<;>decide
theorem nextAt_eq(x:Gt)(j:Jt){now:Int}(h0:0≤now):x.nextAt j now=if (j.bx.op&&decide (max now (max (x.both.nextT now) (j.lm.nextT now))<BK.untilOf j.bx))=true then BK.untilOf j.bx else max now (max (x.both.nextT now) (j.lm.nextT now)):=by
 unfold Gt.nextAt
 cases j.bx.op
 ·simp only [Bool.false_and,Bool.false_eq_true,if_false];omega
 ·simp only [Bool.true_and,if_true,decide_eq_true_eq]
  split<;>omega
theorem rgnext_ok(h:RAt w L x)(job now:Int):Calls Tryz.prog 79 #[.pointer (some ⟨L.g,0,none⟩),.int .i64 job,.int .i64 now] w fun e w'=>e=.returned (.tuple #[.int .i64 (x.next job now).1,.bool (x.next job now).2.1,.int .i64 (x.next job now).2.2])∧∃n,w'=w.drewN n:=by
 have M:=hid (rgWhy_ok h job now)
 by_cases hE:x.call job now=0
 ·obtain ⟨hA,hlast⟩:=Gt.call_zero hE
  obtain ⟨ht,k,rfl,j,hk,hj⟩:=Gt.asked_zero hA
  have hW:x.Why k now=(x.whyJ j now,0):=by unfold Gt.Why Gt.why;rw [if_neg (by rw [hE];simp),hj]
  rw [hW] at M
  obtain ⟨o1,o2⟩:=why_odd x j now
  have hE9:0≤x.whyJ j now∧x.whyJ j now≤31:=by rw [whyJ_part];generalize decide (x.cap≤x.total)=a;generalize (!x.both.allows now)=b;generalize decide (j.cap≤j.runs)=c;generalize (!j.lm.allows now)=d;generalize (!BK.allows j.bx now)=e;cases a<;>cases b<;>cases c<;>cases d<;>cases e<;>decide
  have hnx:x.next k now=if x.cap≤x.total∨j.cap≤j.runs then (0,false,0) else if 253402300799<x.nextAt j now∨BK.allows j.bx (x.nextAt j now)=false then (0,false,0) else (x.nextAt j now,true,0):=by
   unfold Gt.next
   rw [if_neg (by rw [hE];simp),hj]
  have HR:=hid hnx
  clear hnx
  by_cases h1:x.cap≤x.total
  ·rw [if_pos h1] at o1
   have HV:Hid (x.next k now=(0,false,0)):=hid (by rw [HR.out,if_pos (.inl h1)])
   generalize x.next k now=V at *
   generalize x.whyJ j now=E at *
   have q1:(Int.tmod E 2==1)=true:=by rw [o1];rfl
   clear hE hA hlast ht hk hj h hW HR
   go_enter Tryz.func79,Tryz.ntmps79
   go_wp2_with fail
   refine (M.out).mono ?_
   rintro e w1 ⟨rfl,dn,rfl⟩
   go_wp2_with fail
   refine bodyPost_ret (results_tmp3 rfl _ _ _) rfl ?_
   exact ⟨retIBI (by rw [HV.out]) (by rw [HV.out]) (by rw [HV.out]),_,rfl⟩
  ·rw [if_neg h1] at o1
   by_cases h2:j.cap≤j.runs
   ·rw [if_pos h2] at o2
    have HV:Hid (x.next k now=(0,false,0)):=hid (by rw [HR.out,if_pos (.inr h2)])
    generalize x.next k now=V at *
    generalize x.whyJ j now=E at *
    have q1:(Int.tmod E 2==1)=false:=by rw [o1];rfl
    have q2:(Int.tmod (Int.tdiv E 4) 2==1)=true:=by rw [o2];rfl
    have hw:IntKind.i64.wrap (Int.tdiv E 4)=Int.tdiv E 4:=IntWalk.i64_in _ (by have:Int.tdiv E 4=E / 4:=Int.tdiv_eq_ediv_of_nonneg hE9.1;omega)
    clear hE hA hlast ht hk hj h hW HR
    go_enter Tryz.func79,Tryz.ntmps79
    go_wp2_with fail
    refine (M.out).mono ?_
    rintro e w1 ⟨rfl,dn,rfl⟩
    go_wp2_with fail
    refine bodyPost_ret (results_tmp3 rfl _ _ _) rfl ?_
    exact ⟨retIBI (by rw [HV.out]) (by rw [HV.out]) (by rw [HV.out]),_,rfl⟩
   ·rw [if_neg h2] at o2
    have hns:¬(x.cap≤x.total∨j.cap≤j.runs):=fun h=>h.elim h1 h2
    have hR:=HR.out
    rw [if_neg hns,nextAt_eq x j (timeB_iff.1 ht).1] at hR
    have HV:=hid hR
    have N1:=hid (fun n=>(show Calls Tryz.prog 137 #[.pointer (some ⟨L.lm,0,none⟩),.int .i64 now] (w.drewN n) fun e w'=>e=.returned (.tuple #[.int .i64 (x.both.nextT now),.int .i64 0])∧∃m,w'=(w.drewN n).drewN m from by
     have:=rnext_ok (h.drewN n).lm h.inv.both now
     rw [next_of ht] at this
     exact this))
    have N2:=hid (fun n=>(show Calls Tryz.prog 137 #[.pointer (some ⟨L.li k,0,none⟩),.int .i64 now] (w.drewN n) fun e w'=>e=.returned (.tuple #[.int .i64 (j.lm.nextT now),.int .i64 0])∧∃m,w'=(w.drewN n).drewN m from by
     have:=rnext_ok ((h.drewN n).job k j hk).1 (h.inv.of hk).2.2.1 now
     rw [next_of ht] at this
     exact this))
    have U:=hid (fun n=>BK.runtil_ok ((h.drewN n).job k j hk).2)
    have AL:=hid (fun t n=>BK.rallows_ok ((h.drewN n).job k j hk).2 (h.inv.of hk).2.2.2 t)
    have hl:k<x.js.length:=(List.getElem?_eq_some_iff.1 hk).1
    have hn:=h.inv.n
    obtain ⟨ob,c11,ok⟩:=h.or_ hk
    obtain ⟨bb,c12,bk⟩:=h.br hk
    have c10:=h.c10
    obtain ⟨gb,HGB⟩:∃gb,Hid (BK.allows j.bx=gb):=⟨_,hid rfl⟩
    rw [HGB.out] at AL HV
    generalize x.js.length=n at *
    generalize x.next k now=V at *
    generalize x.whyJ j now=E at *
    generalize x.both.nextT now=ta at *
    generalize j.lm.nextT now=tb at *
    generalize BK.untilOf j.bx=un at *
    generalize j.bx.op=op at *
    have q1:(Int.tmod E 2==1)=false:=by rw [o1];rfl
    have q2:(Int.tmod (Int.tdiv E 4) 2==1)=false:=by rw [o2];rfl
    have hw:IntKind.i64.wrap (Int.tdiv E 4)=Int.tdiv E 4:=IntWalk.i64_in _ (by have:Int.tdiv E 4=E / 4:=Int.tdiv_eq_ediv_of_nonneg hE9.1;omega)
    clear hE hA hlast ht hk hj h hW HR hR hns h1 h2 HGB
    go_enter Tryz.func79,Tryz.ntmps79
    go_wp2_with fail
    refine (M.out).mono ?_
    rintro e w1 ⟨rfl,dn,rfl⟩
    go_wp2_with fail
    refine (quietN (N1.out _)).mono ?_
    rintro e w1 ⟨rfl,dn1,rfl⟩
    go_wp2_with fail
    refine (quietN (N2.out _)).mono ?_
    rintro e w1 ⟨rfl,dn2,rfl⟩
    go_upto_region 9 with fail
    obtain ⟨t1,HT1⟩:∃t1,Hid (max now (max ta tb)=t1):=⟨_,hid rfl⟩
    rw [HT1.out]
    rw [HT1.out] at HV
    go_wp2_with fail
    refine (U.out _).mono ?_
    rintro e w1 ⟨rfl,rfl⟩
    cases op
    ·have HV1:Hid (V=if 253402300799<t1∨gb t1=false then (0,false,0) else (t1,true,0)):=hid HV.out
     clear HV
     by_cases hm:253402300799<t1
     ·have qm:decide (253402300799<t1)=true:=decide_eq_true hm
      have HV2:Hid (V=(0,false,0)):=hid (by rw [HV1.out,if_pos (.inl hm)])
      go_wp2_with fail
      refine bodyPost_ret (results_tmp3 rfl _ _ _) rfl ?_
      exact ⟨retIBI (by rw [HV2.out]) (by rw [HV2.out]) (by rw [HV2.out]),_,rfl⟩
     ·have qm:decide (253402300799<t1)=false:=decide_eq_false hm
      have A:=hid (AL.out t1)
      have HVV:Hid (V=if gb t1=false then (0,false,0) else (t1,true,0)):=hid (by rw [HV1.out];simp only [hm,false_or])
      clear HV1
      generalize gb t1=g at *
      cases g
      all_goals
       go_wp2_with fail
       refine (quietN (A.out _)).mono ?_
       rintro e w1 ⟨rfl,dn3,rfl⟩
       go_wp2_with fail
       refine bodyPost_ret (results_tmp3 rfl _ _ _) rfl ?_
       exact ⟨retIBI (by rw [HVV.out];rfl) (by rw [HVV.out];rfl) (by rw [HVV.out];rfl),_,rfl⟩
    ·by_cases hu:t1<un
     ·have qu:decide (t1<un)=true:=decide_eq_true hu
      have HV1:Hid (V=if 253402300799<un∨gb un=false then (0,false,0) else (un,true,0)):=hid (by have h:=HV.out;rw [qu] at h;exact h)
      clear HV
      by_cases hm:253402300799<un
      ·have qm:decide (253402300799<un)=true:=decide_eq_true hm
       have HV2:Hid (V=(0,false,0)):=hid (by rw [HV1.out,if_pos (.inl hm)])
       go_wp2_with fail
       refine bodyPost_ret (results_tmp3 rfl _ _ _) rfl ?_
       exact ⟨retIBI (by rw [HV2.out]) (by rw [HV2.out]) (by rw [HV2.out]),_,rfl⟩
      ·have qm:decide (253402300799<un)=false:=decide_eq_false hm
       have A:=hid (AL.out un)
       have HVV:Hid (V=if gb un=false then (0,false,0) else (un,true,0)):=hid (by rw [HV1.out];simp only [hm,false_or])
       clear HV1
       generalize gb un=g at *
       cases g
       all_goals
        go_wp2_with fail
        refine (quietN (A.out _)).mono ?_
        rintro e w1 ⟨rfl,dn3,rfl⟩
        go_wp2_with fail
        refine bodyPost_ret (results_tmp3 rfl _ _ _) rfl ?_
        exact ⟨retIBI (by rw [HVV.out];rfl) (by rw [HVV.out];rfl) (by rw [HVV.out];rfl),_,rfl⟩
     ·have qu:decide (t1<un)=false:=decide_eq_false hu
      have HV1:Hid (V=if 253402300799<t1∨gb t1=false then (0,false,0) else (t1,true,0)):=hid (by have h:=HV.out;rw [qu] at h;exact h)
      clear HV
      by_cases hm:253402300799<t1
      ·have qm:decide (253402300799<t1)=true:=decide_eq_true hm
       have HV2:Hid (V=(0,false,0)):=hid (by rw [HV1.out,if_pos (.inl hm)])
       go_wp2_with fail
       refine bodyPost_ret (results_tmp3 rfl _ _ _) rfl ?_
       exact ⟨retIBI (by rw [HV2.out]) (by rw [HV2.out]) (by rw [HV2.out]),_,rfl⟩
      ·have qm:decide (253402300799<t1)=false:=decide_eq_false hm
       have A:=hid (AL.out t1)
       have HVV:Hid (V=if gb t1=false then (0,false,0) else (t1,true,0)):=hid (by rw [HV1.out];simp only [hm,false_or])
       clear HV1
       generalize gb t1=g at *
       cases g
       all_goals
        go_wp2_with fail
        refine (quietN (A.out _)).mono ?_
        rintro e w1 ⟨rfl,dn3,rfl⟩
        go_wp2_with fail
        refine bodyPost_ret (results_tmp3 rfl _ _ _) rfl ?_
        exact ⟨retIBI (by rw [HVV.out];rfl) (by rw [HVV.out];rfl) (by rw [HVV.out];rfl),_,rfl⟩
 ·have hW:x.Why job now=(0,x.call job now):=by unfold Gt.Why;rw [if_pos hE]
  have HR:Hid (x.next job now=(0,false,x.call job now)):=hid (by unfold Gt.next;rw [if_pos hE])
  rw [hW] at M
  clear hW
  generalize x.next job now=R at *
  generalize x.call job now=E at *
  have q1:(E==0)=false:=by rw [beq_eq_false_iff_ne];exact hE
  have q2:(E != 0)=true:=by rw [bne,q1];rfl
  clear hE h
  go_enter Tryz.func79,Tryz.ntmps79
  go_wp2_with fail
  refine (M.out).mono ?_
  rintro e w1 ⟨rfl,dn,rfl⟩
  go_wp2_with fail
  refine bodyPost_ret (results_tmp3 rfl _ _ _) rfl ?_
  exact ⟨retIBI (by rw [HR.out]) (by rw [HR.out]) (by rw [HR.out]),_,rfl⟩
end
end Go.Proofs.YtpgckpafjiojfaaGreatDoor.AD
