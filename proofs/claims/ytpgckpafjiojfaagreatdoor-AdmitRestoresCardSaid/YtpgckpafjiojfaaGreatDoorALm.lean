/- Limiters and gates, plainly: a state, and what each call makes of it. -/
import Derived.Test.YtpgckpafjiojfaaGreatDoorABrk
import Derived.Test.YtpgckpafjiojfaaGreatDoorCPol
namespace Go.Proofs.YtpgckpafjiojfaaGreatDoor.AD
open BK (Bx)
structure Lm where
 t:Int
 tau:Int
 so:Bool
 tat:Int
 last:Int
def lm0(t tau:Int):Lm:=⟨t,tau,false,0,0⟩
structure Lm.Inv(x:Lm):Prop where
 t0:0≤x.t∧x.t≤68719476736
 a0:0≤x.tau∧x.tau≤68719476736
 pos:0<x.t∨x.tau=0
 no:x.so=false→x.tat=0∧x.last=0
 la:0≤x.last∧x.last≤253402300799
 ta:x.so=true→x.t≤x.tat∧x.tat≤x.last+x.t+x.tau
theorem Lm.Inv.small{x:Lm}(h:x.Inv):0≤x.t∧x.t≤68719476736∧0≤x.tau∧x.tau≤68719476736∧0≤x.tat∧x.tat≤390841254271∧0≤x.last∧x.last≤253402300799:=by
 have h1:=h.t0
 have h2:=h.a0
 have h3:=h.la
 cases hs:x.so
 ·have:=h.no hs
  omega
 ·have:=h.ta hs
  omega
theorem lm0_inv{t tau:Int}(h:BW.limB t tau=true):(lm0 t tau).Inv:=by
 unfold BW.limB BW.inB at h
 simp only [Bool.and_eq_true,Bool.or_eq_true,decide_eq_true_eq,beq_iff_eq] at h
 exact ⟨h.1.1,h.1.2,h.2,fun _=>⟨rfl,rfl⟩,(show (0:Int)≤0∧(0:Int)≤253402300799 by decide),fun h=>by cases h⟩
def Lm.early(x:Lm)(now:Int):Bool:=decide (0<x.t)&&(x.so&&decide (now<x.tat - x.tau))
def timeB(now:Int):Bool:=decide (0≤now)&&decide (now≤253402300799)
def Lm.check(x:Lm)(now:Int):Int:=if timeB now=false then 14 else if (x.so&&decide (now<x.last))=true then 8 else if x.early now=true then 9 else 0
def Lm.allows(x:Lm)(now:Int):Bool:=decide (x.check now=0)
def Lm.count(x:Lm)(now:Int):Lm:=⟨x.t,x.tau,true,max now x.tat+x.t,now⟩
def Lm.take(x:Lm)(now:Int):Int × Lm:=if x.check now=0 then (0,x.count now) else (x.check now,x)
def Lm.nextT(x:Lm)(now:Int):Int:=if x.so=false then now else if x.early (max now x.last)=true then x.tat - x.tau else max now x.last
def Lm.next(x:Lm)(now:Int):Int × Int:=if timeB now=false then (0,14) else (x.nextT now,0)
def Lm.arr(x:Lm):Int:=if x.so then x.tat else -1
theorem Lm.check_zero{x:Lm}{now:Int}(h:x.check now=0):timeB now=true∧(x.so=true→x.last≤now)∧x.early now=false:=by
 unfold Lm.check at h
 cases h1:timeB now
 ·rw [if_pos h1] at h;cases h
 ·rw [if_neg (by rw [h1];simp)] at h
  cases h2:(x.so&&decide (now<x.last))
  ·rw [if_neg (by rw [h2];simp)] at h
   cases h3:x.early now
   ·refine ⟨rfl,fun hs=>?_,rfl⟩
    rw [hs] at h2
    simp at h2
    exact h2
   ·rw [if_pos h3] at h;cases h
  ·rw [if_pos h2] at h;cases h
theorem timeB_iff{now:Int}:timeB now=true↔0≤now∧now≤253402300799:=by unfold timeB;rw [Bool.and_eq_true,decide_eq_true_eq,decide_eq_true_eq]
theorem Lm.Inv.count{x:Lm}(h:x.Inv){now:Int}(hc:x.check now=0):(x.count now).Inv:=by
 obtain ⟨h1,h2,h3⟩:=Lm.check_zero hc
 have h4:=timeB_iff.1 h1
 refine ⟨h.t0,h.a0,h.pos,(fun h=>by cases h),h4,fun _=>?_⟩
 show x.t≤max now x.tat+x.t∧max now x.tat+x.t≤now+x.t+x.tau
 have h5:=h.a0
 have h6:=h.small
 refine ⟨by omega,?_⟩
 have h7:x.tat≤now+x.tau:=by
  cases hs:x.so
  ·have:=h.no hs
   omega
  ·rcases Int.lt_or_le 0 x.t with ht|ht
   ·unfold Lm.early at h3
    rw [hs,decide_eq_true ht] at h3
    simp at h3
    omega
   ·have:=h.ta hs
    have:=h2 hs
    rcases h.pos with hp|hp
    ·omega
    ·omega
 omega
def lmR(t tau tat now:Int):Option Lm × Int:=if timeB now=false then (none,14) else if tat = -1 then (some (lm0 t tau),0) else if tat<t∨now+t+tau<tat then (none,2) else (some ⟨t,tau,true,tat,now⟩,0)
theorem lmR_inv{t tau tat now:Int}(h:BW.limB t tau=true){x:Lm}(hx:(lmR t tau tat now).1=some x):x.Inv∧(lmR t tau tat now).2=0:=by
 have hl:=lm0_inv h
 unfold lmR at hx ⊢
 by_cases h1:timeB now=false
 ·rw [if_pos h1] at hx;cases hx
 ·rw [if_neg h1] at hx ⊢
  rw [Bool.not_eq_false] at h1
  by_cases h2:tat = -1
  ·rw [if_pos h2] at hx ⊢
   injection hx with hx
   subst hx
   exact ⟨hl,rfl⟩
  ·rw [if_neg h2] at hx ⊢
   by_cases h3:tat<t∨now+t+tau<tat
   ·rw [if_pos h3] at hx;cases hx
   ·rw [if_neg h3] at hx ⊢
    injection hx with hx
    subst hx
    refine ⟨⟨hl.t0,hl.a0,hl.pos,(fun h=>by cases h),timeB_iff.1 h1,fun _=>?_⟩,rfl⟩
    show t≤tat∧tat≤now+t+tau
    omega
structure Jt where
 cap:Int
 runs:Int
 lm:Lm
 bx:Bx
structure Gt where
 cap:Int
 both:Lm
 js:List Jt
 last:Int
def sumR:List Jt→Int
 | []=>0
 | j::r=>j.runs+sumR r
def Gt.total(g:Gt):Int:=sumR g.js
def Gt.asked(g:Gt)(job now:Int):Int:=if timeB now=false then 14 else if (decide (0≤job)&&decide (job<g.js.length))=false then 3 else 0
def Gt.call(g:Gt)(job now:Int):Int:=if g.asked job now≠0 then g.asked job now else if now<g.last then 8 else 0
def bit(b:Bool)(n:Int):Int:=if b then n else 0
def Gt.whyJ(g:Gt)(j:Jt)(now:Int):Int:=bit (decide (g.cap≤g.total)) 1+bit (!g.both.allows now) 2+bit (decide (j.cap≤j.runs)) 4+bit (!j.lm.allows now) 8+bit (!BK.allows j.bx now) 16
def Gt.job(g:Gt)(job:Int):Option Jt:=g.js[job.toNat]?
def Gt.why(g:Gt)(job now:Int):Int:=match g.job job with|some j=>g.whyJ j now|none=>0
def Gt.Why(g:Gt)(job now:Int):Int × Int:=if g.call job now≠0 then (0,g.call job now) else (g.why job now,0)
def Gt.took(g:Gt)(job:Int)(j:Jt)(now:Int):Gt:=⟨g.cap,g.both.count now,g.js.set job.toNat ⟨j.cap,j.runs+1,j.lm.count now,(BK.take j.bx now).2⟩,now⟩
def Gt.take(g:Gt)(job now:Int):Int × Gt:=if g.call job now≠0 then (g.call job now,g) else match g.job job with
 | some j=>if g.whyJ j now≠0 then (9,g) else (0,g.took job j now)
 | none=>(0,g)
def Gt.give(g:Gt)(job:Int)(ok:Bool)(now:Int):Int × Int × Gt:=if g.call job now≠0 then (0,g.call job now,g) else match g.job job with
 | some j=>if j.runs=0 then (0,5,g) else ((BK.report j.bx ok now).1,(BK.report j.bx ok now).2.1,⟨g.cap,g.both,g.js.set job.toNat ⟨j.cap,j.runs - 1,j.lm,(BK.report j.bx ok now).2.2⟩,now⟩)
 | none=>(0,0,g)
def Gt.state(g:Gt)(job now:Int):Int × Int × Int:=if g.asked job now≠0 then (0,0,g.asked job now) else match g.job job with
 | some j=>(j.runs,BK.state j.bx now,0)
 | none=>(0,0,0)
def Gt.until(g:Gt)(job:Int):Int × Bool:=if g.asked job 0≠0 then (0,false) else match g.job job with
 | some j=>(BK.untilOf j.bx,j.bx.op)
 | none=>(0,false)
def Gt.nextAt(g:Gt)(j:Jt)(now:Int):Int:=max (max now (max (g.both.nextT now) (j.lm.nextT now))) (if j.bx.op then BK.untilOf j.bx else 0)
def Gt.next(g:Gt)(job now:Int):Int × Bool × Int:=if g.call job now≠0 then (0,false,g.call job now) else match g.job job with
 | some j=>if g.cap≤g.total∨j.cap≤j.runs then (0,false,0) else if 253402300799<g.nextAt j now∨BK.allows j.bx (g.nextAt j now)=false then (0,false,0) else (g.nextAt j now,true,0)
 | none=>(0,false,0)
def Gt.runsL(g:Gt):List Int:=g.js.map (·.runs)
def Gt.tatsL(g:Gt):List Int:=g.both.arr::g.js.map (·.lm.arr)
def Gt.boxesL(g:Gt):List (Int × Int × Int × Int):=g.js.map fun j=>(BK.untilOf j.bx,j.bx.fails,j.bx.good,j.bx.under)
structure Gt.Inv(g:Gt):Prop where
 cap:1≤g.cap∧g.cap≤1000
 n:g.js.length≤64
 both:g.both.Inv
 js:∀j∈g.js,(1≤j.cap∧j.cap≤1000)∧(0≤j.runs∧j.runs≤j.cap)∧j.lm.Inv∧BK.Inv j.bx
 last:0≤g.last∧g.last≤253402300799
end Go.Proofs.YtpgckpafjiojfaaGreatDoor.AD
