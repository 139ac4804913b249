/- Gates in memory: a layout, what lies where, and what a call may turn. -/
import Derived.Test.YtpgckpafjiojfaaGreatDoorACA
namespace Go.Proofs.YtpgckpafjiojfaaGreatDoor.AD
open Go Go.RowKit
open BK (Bx BoxAt Blk only_refl only_drew only_drewN only_setCell only_trans only_of_below only_alloc below_drewN)
structure Ly where
 g:Nat
 cp:Nat
 lm:Nat
 da:Option Addr
 dc:Nat
 ea:Option Addr
 ec:Nat
 li:Nat→Nat
 bo:Nat→Nat
def Ly.own(L:Ly)(n i:Nat):Prop:=i=L.g∨i=L.cp∨i=L.lm∨∃k,k<n∧(i=L.li k∨i=L.bo k)
def Ly.sup(L:Ly)(n i:Nat):Prop:=L.own n i∨(0<n∧∃o,L.da=some ⟨i,o,none⟩)∨(0<n∧∃o,L.ea=some ⟨i,o,none⟩)
def Gt.cp(x:Gt):Cp:=⟨x.cap,x.js.length,fun k=>((x.js[k]?).map (·.cap)).getD 0,fun k=>((x.js[k]?).map (·.runs)).getD 0,x.total⟩
def Ly.cells(L:Ly)(x:Gt):Array Value:=#[.pointer (some ⟨L.cp,0,none⟩),.int .i64 x.cap,.pointer (some ⟨L.lm,0,none⟩),.slice L.da x.js.length L.dc,.slice L.ea x.js.length L.ec,.int .i64 x.last]
structure Turn(F:Nat→Prop)(w w':World):Prop where
 os:w'.os=w.os
 tape:w'.tape=w.tape
 output:w'.output=w.output
 size:w.heap.size≤w'.heap.size
 block:∀k,k<w.heap.size→¬F k→w'.heap[k]? = w.heap[k]?
theorem Turn.refl(F:Nat→Prop)(w:World):Turn F w w:=⟨rfl,rfl,rfl,Nat.le_refl _,fun _ _ _=>rfl⟩
theorem Turn.trans{F:Nat→Prop}{a b c:World}(h:Turn F a b)(k:Turn F b c):Turn F a c :=
 ⟨k.os.trans h.os,k.tape.trans h.tape,k.output.trans h.output,Nat.le_trans h.size k.size,fun i hi hn=>(k.block i (Nat.lt_of_lt_of_le hi h.size) hn).trans (h.block i hi hn)⟩
theorem Turn.mono{F G:Nat→Prop}{a b:World}(h:Turn F a b)(hG:∀i,F i→G i):Turn G a b:=⟨h.os,h.tape,h.output,h.size,fun i hi hn=>h.block i hi fun hf=>hn (hG i hf)⟩
theorem Turn.of_only{F:Nat→Prop}{a b:World}{g:Nat}(h:a.grownBy b (some g))(hg:F g):Turn F a b :=
 ⟨h.os,h.tape,h.output,h.size,fun i hi hn=>h.block i hi fun e=>hn (by injection e with e;rw [e];exact hg)⟩
theorem Turn.of_below{F:Nat→Prop}{a b:World}(h:Below a.heap.size a b):Turn F a b:=⟨h.os,h.tape,h.output,h.size,fun i hi _=>h.block i hi⟩
theorem Turn.below{F:Nat→Prop}{B:Nat}{a b c:World}(h:Turn F b c)(hF:∀i,F i→B≤i)(hb:Below B a b)(hB:B≤a.heap.size):Below B a c :=
 ⟨h.os.trans hb.os,h.tape.trans hb.tape,h.output.trans hb.output,Nat.le_trans hb.size h.size,fun i hi=>(h.block i (Nat.lt_of_lt_of_le hi (Nat.le_trans hB hb.size)) fun hf=>absurd (hF i hf) (by omega)).trans (hb.block i hi)⟩
theorem blk_ne{w:World}{g g':Nat}{t t':TypeId}{cs cs':Array Value}(h:Blk w g t cs)(h':Blk w g' t' cs')(hne:t≠t'):g≠g':=by
 rintro rfl
 unfold Blk at h h'
 rw [h] at h'
 injection h' with h'
 injection h' with _ ht
 exact hne ht
structure GAt(w:World)(L:Ly)(x:Gt):Prop where
 gate:Blk w L.g 118 (L.cells x)
 caps:CpAt w L.cp x.cp
 lm:LmAt w L.lm x.both
 door:0<x.js.length→∃(b:Nat) (cs:Array Value),L.da=some ⟨b,0,none⟩∧Blk w b 125 cs∧∀k,k<x.js.length→cs[k*2]? = some (.pointer (some ⟨L.li k,0,none⟩))∧cs[k*2+1]? = some (.pointer (some ⟨L.bo k,0,none⟩))
 each:0<x.js.length→∃(b:Nat) (cs:Array Value),L.ea=some ⟨b,0,none⟩∧Blk w b 3 cs∧∀(k:Nat) (j:Jt),x.js[k]? = some j→cs[k]? = some (.int .i64 j.cap)
 job:∀(k:Nat) (j:Jt),x.js[k]? = some j→LmAt w (L.li k) j.lm∧BoxAt w (L.bo k) j.bx
 one:∀k,k<x.js.length→L.li k≠L.lm∧∀i,i<x.js.length→i≠k→L.li i≠L.li k∧L.bo i≠L.bo k
 inv:x.Inv
theorem GAt.keep{w w':World}{L:Ly}{x:Gt}(h:GAt w L x)(hk:∀i,L.sup x.js.length i→w'.heap[i]? = w.heap[i]?):GAt w' L x :=
 ⟨(
  hk _ (.inl (.inl rfl))).trans h.gate,(hk _ (.inl (.inr (.inl rfl)))).trans h.caps,(hk _ (.inl (.inr (.inr (.inl rfl))))).trans h.lm,
  fun h0=>by
   obtain ⟨b,cs,e,h1,h2⟩:=h.door h0
   exact ⟨b,cs,e,(hk b (.inr (.inl ⟨h0,0,e⟩))).trans h1,h2⟩,
  fun h0=>by
   obtain ⟨b,cs,e,h1,h2⟩:=h.each h0
   exact ⟨b,cs,e,(hk b (.inr (.inr ⟨h0,0,e⟩))).trans h1,h2⟩,
  fun k j hj=>by
   have hl:k<x.js.length:=(List.getElem?_eq_some_iff.1 hj).1
   obtain ⟨h1,h2⟩:=h.job k j hj
   exact ⟨(hk _ (.inl (.inr (.inr (.inr ⟨k,hl,.inl rfl⟩))))).trans h1,(hk _ (.inl (.inr (.inr (.inr ⟨k,hl,.inr rfl⟩))))).trans h2⟩,
  h.one,h.inv⟩
theorem GAt.lt{w:World}{L:Ly}{x:Gt}(h:GAt w L x){i:Nat}(hi:L.sup x.js.length i):i<w.heap.size:=by
 rcases hi with (rfl|rfl|rfl|⟨k,hk,hi⟩)|⟨h0,o,e⟩|⟨h0,o,e⟩
 ·exact Blk.lt h.gate
 ·exact Blk.lt h.caps
 ·exact Blk.lt h.lm
 ·obtain ⟨h1,h2⟩:=h.job k _ (List.getElem?_eq_getElem hk)
  rcases hi with rfl|rfl
  ·exact Blk.lt h1
  ·exact Blk.lt h2
 ·obtain ⟨b,cs,e',h1,_⟩:=h.door h0
  rw [e] at e'
  injection e' with e'
  injection e' with e'
  subst e'
  exact Blk.lt h1
 ·obtain ⟨b,cs,e',h1,_⟩:=h.each h0
  rw [e] at e'
  injection e' with e'
  injection e' with e'
  subst e'
  exact Blk.lt h1
theorem GAt.below{w w':World}{L:Ly}{x:Gt}(h:GAt w L x)(hb:Below w.heap.size w w'):GAt w' L x:=h.keep fun i hi=>hb.block i (h.lt hi)
theorem GAt.turn{w w':World}{L:Ly}{x:Gt}(h:GAt w L x){F:Nat→Prop}(ht:Turn F w w')(hF:∀i,L.sup x.js.length i→¬F i):GAt w' L x:=h.keep fun i hi=>ht.block i (h.lt hi) (hF i hi)
theorem GAt.drewN{w:World}{L:Ly}{x:Gt}(h:GAt w L x)(n:Nat):GAt (w.drewN n) L x:=h.keep fun _ _=>rfl
theorem GAt.upd{w w':World}{L:Ly}{x y:Gt}(h:GAt w L x){k:Nat}{j j':Jt}(hk:x.js[k]? = some j)(ht:Turn (fun i=>i=L.g∨i=L.cp∨i=L.lm∨i=L.li k∨i=L.bo k) w w')
 (hy:y.js=x.js.set k j') (hc:j'.cap=j.cap) (hi:y.Inv) (g1:Blk w' L.g 118 (L.cells y)) (g2:CpAt w' L.cp y.cp) (g3:LmAt w' L.lm y.both) (g4:LmAt w' (L.li k) j'.lm) (g5:BoxAt w' (L.bo k) j'.bx):GAt w' L y∧Turn (L.own x.js.length) w w':=by
 have hl:k<x.js.length:=(List.getElem?_eq_some_iff.1 hk).1
 obtain ⟨h1,h2⟩:=h.job k j hk
 have hn:y.js.length=x.js.length:=by rw [hy];simp
 refine ⟨⟨g1,g2,g3,fun h0=>?_,fun h0=>?_,fun i m hm=>?_,fun i hi=>?_,hi⟩,ht.mono fun i hi=>?_⟩
 ·rw [hn] at h0 ⊢
  obtain ⟨b,cs,e,a1,a2⟩:=h.door h0
  refine ⟨b,cs,e,(ht.block b (Blk.lt a1) ?_).trans a1,a2⟩
  rintro (rfl|rfl|rfl|rfl|rfl)
  ·exact blk_ne a1 h.gate (by decide) rfl
  ·exact blk_ne a1 h.caps (by decide) rfl
  ·exact blk_ne a1 h.lm (by decide) rfl
  ·exact blk_ne a1 h1 (by decide) rfl
  ·exact blk_ne a1 h2 (by decide) rfl
 ·rw [hn] at h0
  obtain ⟨b,cs,e,a1,a2⟩:=h.each h0
  refine ⟨b,cs,e,(ht.block b (Blk.lt a1) ?_).trans a1,fun i m hm=>?_⟩
  ·rintro (rfl|rfl|rfl|rfl|rfl)
   ·exact blk_ne a1 h.gate (by decide) rfl
   ·exact blk_ne a1 h.caps (by decide) rfl
   ·exact blk_ne a1 h.lm (by decide) rfl
   ·exact blk_ne a1 h1 (by decide) rfl
   ·exact blk_ne a1 h2 (by decide) rfl
  ·rw [hy,List.getElem?_set] at hm
   by_cases hik:k=i
   ·subst hik
    rw [if_pos rfl,if_pos hl] at hm
    injection hm with hm
    subst hm
    rw [hc]
    exact a2 k j hk
   ·rw [if_neg hik] at hm
    exact a2 i m hm
 ·rw [hy,List.getElem?_set] at hm
  by_cases hik:k=i
  ·subst hik
   rw [if_pos rfl,if_pos hl] at hm
   injection hm with hm
   subst hm
   exact ⟨g4,g5⟩
  ·rw [if_neg hik] at hm
   have hil:i<x.js.length:=(List.getElem?_eq_some_iff.1 hm).1
   obtain ⟨b1,b2⟩:=h.job i m hm
   obtain ⟨o1,_⟩:=h.one i hil
   obtain ⟨o2,o3⟩:=(h.one k hl).2 i hil (fun e=>hik e.symm)
   refine ⟨(ht.block _ (Blk.lt b1) ?_).trans b1,(ht.block _ (Blk.lt b2) ?_).trans b2⟩
   ·rintro (e|e|e|e|e)
    ·exact blk_ne b1 h.gate (by decide) e
    ·exact blk_ne b1 h.caps (by decide) e
    ·exact o1 e
    ·exact o2 e
    ·exact blk_ne b1 h2 (by decide) e
   ·rintro (e|e|e|e|e)
    ·exact blk_ne b2 h.gate (by decide) e
    ·exact blk_ne b2 h.caps (by decide) e
    ·exact blk_ne b2 h.lm (by decide) e
    ·exact blk_ne b2 h1 (by decide) e
    ·exact o3 e
 ·rw [hn] at hi ⊢
  exact h.one i hi
 ·rcases hi with e|e|e|e|e
  ·exact .inl e
  ·exact .inr (.inl e)
  ·exact .inr (.inr (.inl e))
  ·exact .inr (.inr (.inr ⟨k,hl,.inl e⟩))
  ·exact .inr (.inr (.inr ⟨k,hl,.inr e⟩))
theorem sumR_set{l:List Jt}{k:Nat}{j j':Jt}(h:l[k]? = some j):sumR (l.set k j')=sumR l+(j'.runs - j.runs):=by
 induction l generalizing k with
 | nil=>simp at h
 | cons a r ih =>
  cases k with
  | zero =>
   simp at h
   subst h
   simp only [List.set_cons_zero,sumR]
   omega
  | succ k =>
   have:=ih (k:=k) (by simpa using h)
   simp only [List.set_cons_succ,sumR]
   omega
theorem sumR_bounds{l:List Jt}(h:∀j∈l,0≤j.runs∧j.runs≤1000):0≤sumR l∧sumR l≤1000*(l.length:Int):=by
 induction l with
 | nil=>simp [sumR]
 | cons a r ih =>
  have h1:=ih fun j hj=>h j (List.mem_cons_of_mem _ hj)
  have h2:=h a List.mem_cons_self
  simp only [sumR,List.length_cons]
  omega
theorem Gt.Inv.cp{x:Gt}(h:x.Inv):x.cp.Inv:=by
 have hr:∀k,k<x.js.length→∃j,x.js[k]? = some j∧j∈x.js:=fun k hk=>⟨x.js[k],List.getElem?_eq_getElem hk,List.getElem_mem hk⟩
 refine ⟨h.n,by have:=h.cap;exact ⟨by show 0≤x.cap;omega,this.2⟩,fun k hk=>?_,fun k hk=>?_,?_⟩
 ·obtain ⟨j,e,hm⟩:=hr k hk
  have:=(h.js j hm).1
  show 0≤((x.js[k]?).map (·.cap)).getD 0∧((x.js[k]?).map (·.cap)).getD 0≤1000
  rw [e]
  simp only [Option.map_some,Option.getD_some]
  omega
 ·obtain ⟨j,e,hm⟩:=hr k hk
  have:=h.js j hm
  show 0≤((x.js[k]?).map (·.runs)).getD 0∧((x.js[k]?).map (·.runs)).getD 0≤1000
  rw [e]
  simp only [Option.map_some,Option.getD_some]
  omega
 ·have:=sumR_bounds (l:=x.js) (fun j hj=>by have:=h.js j hj;omega)
  have hn:=h.n
  show 0≤sumR x.js∧sumR x.js≤64000
  omega
theorem Gt.cp_put{x:Gt}{k:Nat}{j j':Jt}(h:x.js[k]? = some j)(hc:j'.cap=j.cap)(b:Lm)(t:Int):(⟨x.cap,b,x.js.set k j',t⟩:Gt).cp=x.cp.put k (j'.runs - j.runs):=by
 have hl:k<x.js.length:=(List.getElem?_eq_some_iff.1 h).1
 unfold Gt.cp Cp.put Gt.total
 simp only [List.length_set,Cp.mk.injEq,true_and]
 refine ⟨funext fun i=>?_,funext fun i=>?_,sumR_set h⟩
 ·rw [List.getElem?_set]
  by_cases hik:k=i
  ·subst hik
   rw [if_pos rfl,if_pos hl,h]
   simp [hc]
  ·rw [if_neg hik]
 ·rw [List.getElem?_set]
  by_cases hik:k=i
  ·subst hik
   rw [if_pos rfl,if_pos hl,h]
   simp
   omega
  ·rw [if_neg hik,if_neg fun e=>hik e.symm]
theorem Gt.cp_runs{x:Gt}{k:Nat}{j:Jt}(h:x.js[k]? = some j):x.cp.runs k=j.runs:=by
 show ((x.js[k]?).map (·.runs)).getD 0=_
 rw [h];rfl
theorem Gt.cp_most{x:Gt}{k:Nat}{j:Jt}(h:x.js[k]? = some j):x.cp.most k=j.cap:=by
 show ((x.js[k]?).map (·.cap)).getD 0=_
 rw [h];rfl
theorem Gt.asked_zero{x:Gt}{job now:Int}(h:x.asked job now=0):timeB now=true∧∃k:Nat,job=k∧∃j,x.js[k]? = some j∧x.job job=some j:=by
 unfold Gt.asked at h
 cases h1:timeB now
 ·rw [if_pos h1] at h;cases h
 ·rw [if_neg (by rw [h1];simp)] at h
  cases h2:(decide (0≤job)&&decide (job<x.js.length))
  ·rw [if_pos h2] at h;cases h
  ·rw [Bool.and_eq_true,decide_eq_true_eq,decide_eq_true_eq] at h2
   obtain ⟨k,rfl⟩:∃k:Nat,job=k:=⟨job.toNat,by omega⟩
   have hl:k<x.js.length:=by omega
   exact ⟨rfl,k,rfl,x.js[k],List.getElem?_eq_getElem hl,by unfold Gt.job;rw [Int.toNat_natCast];exact List.getElem?_eq_getElem hl⟩
theorem Gt.call_zero{x:Gt}{job now:Int}(h:x.call job now=0):x.asked job now=0∧x.last≤now:=by
 unfold Gt.call at h
 by_cases h1:x.asked job now=0
 ·rw [if_neg (by rw [h1];simp)] at h
  refine ⟨h1,?_⟩
  by_cases h2:now<x.last
  ·rw [if_pos h2] at h;cases h
  ·omega
 ·rw [if_pos h1] at h
  exact absurd h h1
end Go.Proofs.YtpgckpafjiojfaaGreatDoor.AD
