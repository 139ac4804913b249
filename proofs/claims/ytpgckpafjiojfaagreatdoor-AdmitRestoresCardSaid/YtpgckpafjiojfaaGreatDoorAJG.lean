/- A gate that is brought into a state, plainly. Contracts of admit.possible and admit.bring. -/
import Derived.Test.YtpgckpafjiojfaaGreatDoorAHe
namespace Go.Proofs.YtpgckpafjiojfaaGreatDoor.AD
open Go Go.RowKit BW
open BK (Bx BoxAt Blk only_refl only_drew only_drewN only_setCell only_trans only_of_below only_alloc below_drewN)
structure Bs where
 un:Int
 fa:Int
 go:Int
 ud:Int
def possB(f o p:Int)(s:Bs)(now:Int):Bool :=
 if s.fa<0∨s.go<0∨s.ud<0 then false
 else if s.un=0 then decide (s.go=0∧s.ud=0∧(s.fa=0∨s.fa<f))
 else if f=0∨s.fa≠0∨s.un<o∨now+o<s.un then false
 else if now<s.un then decide (s.go=0∧s.ud=0)
 else decide (s.go<p∧s.ud≤p - s.go)
def bringB(f o p:Int)(s:Bs)(now:Int):Bx :=
 if s.un=0 then ⟨f,o,p,false,0,s.fa,0,0,if s.fa=0 then 0 else now⟩
 else ⟨f,o,p,true,s.un,0,s.go,s.ud,if s.go+s.ud=0 then s.un - o else s.un⟩
theorem poss_shut{f o p now:Int}{s:Bs}(h:possB f o p s now=true)(hu:s.un=0):0≤s.fa∧s.go=0∧s.ud=0∧(s.fa=0∨s.fa<f):=by
 unfold possB at h
 by_cases h1:s.fa<0∨s.go<0∨s.ud<0
 ·rw [if_pos h1] at h;cases h
 ·rw [if_neg h1,if_pos hu,decide_eq_true_eq] at h
  omega
theorem poss_open{f o p now:Int}{s:Bs}(h:possB f o p s now=true)(hu:s.un≠0):f≠0∧s.fa=0∧0≤s.go∧0≤s.ud∧o≤s.un∧s.un≤now+o∧((now<s.un∧s.go=0∧s.ud=0)∨(s.un≤now∧s.go<p∧s.go+s.ud≤p)):=by
 unfold possB at h
 by_cases h1:s.fa<0∨s.go<0∨s.ud<0
 ·rw [if_pos h1] at h;cases h
 ·rw [if_neg h1,if_neg hu] at h
  by_cases h2:f=0∨s.fa≠0∨s.un<o∨now+o<s.un
  ·rw [if_pos h2] at h;cases h
  ·rw [if_neg h2] at h
   by_cases h3:now<s.un
   ·rw [if_pos h3,decide_eq_true_eq] at h
    omega
   ·rw [if_neg h3,decide_eq_true_eq] at h
    omega
theorem check0{x:Bx}{t:Int}(ht:timeB t=true)(hl:x.last≤t):BK.check x t=0:=by
 have:=timeB_iff.1 ht
 unfold BK.check
 rw [if_neg (show ¬(t<0∨BK.maxTime<t) by unfold BK.maxTime;omega),if_neg (by omega)]
theorem br_fail{f o p k l t:Int}(ht:timeB t=true)(hl:l≤t)(hf:f≠0)(hk:k+1<f):BK.report ⟨f,o,p,false,0,k,0,0,l⟩ false t=(0,0,⟨f,o,p,false,0,k+1,0,0,t⟩):=by
 unfold BK.report
 rw [check0 ht hl,if_neg (by decide),if_neg hf]
 unfold BK.ended BK.closed BK.seen
 simp only [if_true,Bool.false_eq_true,if_false]
 rw [if_pos hk]
theorem br_trip{f o p t:Int}(ht:timeB t=true)(hf:f≠0):BK.trip ⟨f,o,p,false,0,0,0,0,0⟩ t=(0,⟨f,o,p,true,t+o,0,0,0,t⟩):=by
 have h0:=(timeB_iff.1 ht).1
 unfold BK.trip BK.switched
 rw [check0 ht h0]
 simp only [ne_eq,not_true_eq_false,if_false]
 rw [if_neg hf]
 rfl
theorem br_take{f o p un g u l:Int}(ht:timeB un=true)(hl:l≤un)(hp:g+u<p):BK.take ⟨f,o,p,true,un,0,g,u,l⟩ un=(0,⟨f,o,p,true,un,0,g,u+1,un⟩):=by
 have ha:BK.allows ⟨f,o,p,true,un,0,g,u,l⟩ un=true:=by
  unfold BK.allows
  simp only [Bool.true_eq_false,if_false]
  rw [if_neg (by omega)]
  exact decide_eq_true hp
 unfold BK.take
 rw [check0 ht hl,ha]
 simp only [ne_eq,not_true_eq_false,if_false,Bool.true_eq_false]
 rw [if_pos ⟨trivial,Int.le_refl _⟩]
 rfl
theorem br_good{f o p un g u l:Int}(ht:timeB un=true)(hl:l≤un)(hf:f≠0)(hu:u≠0)(hp:g+1<p):BK.report ⟨f,o,p,true,un,0,g,u,l⟩ true un=(0,0,⟨f,o,p,true,un,0,g+1,u - 1,un⟩):=by
 unfold BK.report
 rw [check0 ht hl,if_neg (by decide),if_neg hf]
 unfold BK.ended BK.half BK.seen
 simp only [Bool.true_eq_false,if_false,Int.lt_irrefl]
 rw [if_neg hu,if_pos hp]
theorem bring_inv{f o p now:Int}{s:Bs}(hr:BK.zero f o p=true∨BK.ruled f o p=true)(ht:timeB now=true)(h:possB f o p s now=true):BK.Inv (bringB f o p s now):=by
 have hn:=timeB_iff.1 ht
 unfold BK.zero BK.ruled BK.maxSpan at hr
 simp only [decide_eq_true_eq] at hr
 unfold bringB
 by_cases hu:s.un=0
 ·have:=poss_shut h hu
  rw [if_pos hu]
  refine ⟨?_,?_,?_,this.1,Int.le_refl _,Int.le_refl _,fun _=>⟨rfl,rfl,rfl⟩,fun ho=>by cases ho⟩
  ·show (f=0∧o=0∧p=0∧false=false∧s.fa=0)∨(1≤f∧f≤100∧1≤o∧o≤BK.maxSpan∧1≤p∧p≤100∧s.fa<f)
   unfold BK.maxSpan
   rcases hr with hr|hr
   ·exact .inl ⟨hr.1,hr.2.1,hr.2.2,rfl,by omega⟩
   ·exact .inr (by omega)
  ·show 0≤(if s.fa=0 then (0:Int) else now)
   split<;>omega
  ·show (if s.fa=0 then (0:Int) else now)≤BK.maxTime
   unfold BK.maxTime
   split<;>omega
 ·have:=poss_open h hu
  rw [if_neg hu]
  refine ⟨?_,?_,?_,Int.le_refl _,this.2.2.1,this.2.2.2.1,(fun ho=>by cases ho),fun _=>⟨rfl,?_,?_,?_,?_⟩⟩
  ·show (f=0∧_)∨(1≤f∧f≤100∧1≤o∧o≤BK.maxSpan∧1≤p∧p≤100∧(0:Int)<f)
   unfold BK.maxSpan
   right
   omega
  ·show 0≤(if s.go+s.ud=0 then s.un - o else s.un)
   split<;>omega
  ·show (if s.go+s.ud=0 then s.un - o else s.un)≤BK.maxTime
   unfold BK.maxTime
   split<;>omega
  ·show 0≤s.un
   omega
  ·show s.un≤BK.maxTime+BK.maxSpan
   unfold BK.maxTime BK.maxSpan
   omega
  ·show s.go+s.ud≤p
   omega
  ·show s.go<p
   omega
theorem poss_mk{f o p now:Int}{s:Bs}(h:(s.un=0∧0≤s.fa∧s.go=0∧s.ud=0∧(s.fa=0∨s.fa<f))∨(s.un≠0∧f≠0∧s.fa=0∧0≤s.go∧0≤s.ud∧o≤s.un∧s.un≤now+o∧((now<s.un∧s.go=0∧s.ud=0)∨(s.un≤now∧s.go<p∧s.go+s.ud≤p)))):possB f o p s now=true:=by
 unfold possB
 rw [if_neg (by omega)]
 by_cases hu:s.un=0
 ·rw [if_pos hu,decide_eq_true_eq]
  omega
 ·rw [if_neg hu,if_neg (by omega)]
  by_cases h3:now<s.un
  ·rw [if_pos h3,decide_eq_true_eq];omega
  ·rw [if_neg h3,decide_eq_true_eq];omega
section
variable{f o p now:Int}
theorem bring_fresh:bringB f o p ⟨0,0,0,0⟩ now=BK.fresh f o p:=rfl
theorem bring_fail(ht:timeB now=true){k:Int}(hk0:0≤k)(hk:k+1<f):BK.report (bringB f o p ⟨0,k,0,0⟩ now) false now=(0,0,bringB f o p ⟨0,k+1,0,0⟩ now):=by
 have hn:=timeB_iff.1 ht
 have e1:bringB f o p ⟨0,k,0,0⟩ now=⟨f,o,p,false,0,k,0,0,if k=0 then 0 else now⟩:=if_pos rfl
 have e2:bringB f o p ⟨0,k+1,0,0⟩ now=⟨f,o,p,false,0,k+1,0,0,now⟩:=by
  unfold bringB
  rw [if_pos rfl]
  simp only
  rw [if_neg (by omega)]
 rw [e1,e2]
 exact br_fail ht (by split<;>omega) (by omega) hk
theorem bring_trip{un:Int}(hf:f≠0)(hu:un≠0)(ht:timeB (un - o)=true):BK.trip (bringB f o p ⟨0,0,0,0⟩ now) (un - o)=(0,bringB f o p ⟨un,0,0,0⟩ now):=by
 have e2:bringB f o p ⟨un,0,0,0⟩ now=⟨f,o,p,true,un,0,0,0,un - o⟩:=by
  unfold bringB
  rw [if_neg hu]
  rfl
 rw [e2]
 have:=br_trip (f:=f) (o:=o) (p:=p) ht hf
 rw [show un - o+o=un by omega] at this
 exact this
theorem bring_take{un j:Int}(hu:un≠0)(ho:0≤o)(ht:timeB un=true)(hj0:0≤j)(hj:j<p):BK.take (bringB f o p ⟨un,0,0,j⟩ now) un=(0,bringB f o p ⟨un,0,0,j+1⟩ now):=by
 have e1:bringB f o p ⟨un,0,0,j⟩ now=⟨f,o,p,true,un,0,0,j,if (0:Int)+j=0 then un - o else un⟩:=if_neg hu
 have e2:bringB f o p ⟨un,0,0,j+1⟩ now=⟨f,o,p,true,un,0,0,j+1,un⟩:=by
  unfold bringB
  rw [if_neg hu]
  simp only
  rw [if_neg (by omega)]
 rw [e1,e2]
 exact br_take ht (by split<;>omega) (by omega)
theorem bring_good{un q t:Int}(hf:f≠0)(hu:un≠0)(ht:timeB un=true)(hq0:0≤q)(hq:q<t)(hp:q+1<p):BK.report (bringB f o p ⟨un,0,q,t - q⟩ now) true un=(0,0,bringB f o p ⟨un,0,q+1,t - (q+1)⟩ now):=by
 have e1:bringB f o p ⟨un,0,q,t - q⟩ now=⟨f,o,p,true,un,0,q,t - q,un⟩:=by
  unfold bringB
  rw [if_neg hu]
  simp only
  rw [if_neg (by omega)]
 have e2:bringB f o p ⟨un,0,q+1,t - (q+1)⟩ now=⟨f,o,p,true,un,0,q+1,t - q - 1,un⟩:=by
  unfold bringB
  rw [if_neg hu]
  simp only
  rw [if_neg (by omega),show t - (q+1)=t - q - 1 by omega]
 rw [e1,e2]
 exact br_good ht (Int.le_refl _) hf (by omega) hp
end
def rsJ(y:Po)(r tat:Int)(s:Bs)(now:Int):Option Jt:=match (lmR y.t y.tau tat now).1 with
 | none=>none
 | some l=>if r<0∨y.cap<r∨possB y.f y.o y.r s now=false then none else some ⟨y.cap,r,l,bringB y.f y.o y.r s now⟩
def rsL(L:JL)(rs ts:List Int)(bs:List Bs)(now:Int):Nat→Option (List Jt)
 | 0=>some []
 | k+1=>match rsL L rs ts bs now k with
  | none=>none
  | some js=>match L[k]?,rs[k]?,ts[k+1]?,bs[k]? with
   | some x,some r,some t,some b=>match rsJ x.1.y r t b now with
    | none=>none
    | some j=>some (js++[j])
   | _,_,_,_=>none
def rsG(g:Gl)(L:JL)(rs ts:List Int)(bs:List Bs)(now:Int):Option Gt :=
 if rs.length≠L.length∨bs.length≠L.length∨ts.length≠L.length+1 then none
 else match (lmR g.t g.tau (ts.getD 0 0) now).1 with
  | none=>none
  | some b=>match rsL L rs ts bs now L.length with
   | none=>none
   | some js=>if sumR js≤g.cap then some ⟨g.cap,b,js,now⟩ else none
section
variable{L:JL}{rs ts:List Int}{bs:List Bs}{now:Int}
theorem rsL_succ{k:Nat}{js:List Jt}{x:Jb × List (Int × Int)}{r t:Int}{b:Bs}(h:rsL L rs ts bs now k=some js)(h1:L[k]? = some x)(h2:rs[k]? = some r)(h3:ts[k+1]? = some t)(h4:bs[k]? = some b):rsL L rs ts bs now (k+1)=(rsJ x.1.y r t b now).map (js++[·]):=by
 simp only [rsL,h,h1,h2,h3,h4]
 cases rsJ x.1.y r t b now<;>rfl
theorem rsL_none{k n:Nat}(h:rsL L rs ts bs now k=none)(hk:k≤n):rsL L rs ts bs now n=none:=by
 induction n with
 | zero =>
  obtain rfl:k=0:=by omega
  exact h
 | succ n ih =>
  by_cases he:k=n+1
  ·rw [←he];exact h
  ·simp only [rsL,ih (by omega)]
theorem rsJ_some{y:Po}{r t:Int}{b:Bs}{j:Jt}(h:rsJ y r t b now=some j):∃l,(lmR y.t y.tau t now).1=some l∧0≤r∧r≤y.cap∧possB y.f y.o y.r b now=true∧j=⟨y.cap,r,l,bringB y.f y.o y.r b now⟩:=by
 unfold rsJ at h
 cases hl:(lmR y.t y.tau t now).1 with
 | none=>rw [hl] at h;cases h
 | some l =>
  rw [hl] at h
  simp only at h
  by_cases hc:r<0∨y.cap<r∨possB y.f y.o y.r b now=false
  ·rw [if_pos hc] at h;cases h
  ·rw [if_neg hc] at h
   injection h with h
   refine ⟨l,rfl,by omega,by omega,?_,h.symm⟩
   cases hp:possB y.f y.o y.r b now
   ·exact absurd (.inr (.inr hp)) hc
   ·rfl
theorem rsL_len{k:Nat}{js:List Jt}(h:rsL L rs ts bs now k=some js):js.length=k:=by
 induction k generalizing js with
 | zero=>simp only [rsL] at h;injection h with h;subst h;rfl
 | succ k ih =>
  simp only [rsL] at h
  cases hk:rsL L rs ts bs now k with
  | none=>rw [hk] at h;cases h
  | some js' =>
   rw [hk] at h
   simp only at h
   split at h
   ·split at h
    ·cases h
    ·injection h with h
     subst h
     rw [List.length_append,ih hk]
     rfl
   ·cases h
theorem sumR_snoc(l:List Jt)(j:Jt):sumR (l++[j])=sumR l+j.runs:=by
 induction l with
 | nil=>show j.runs+0=0+j.runs;omega
 | cons a l ih=>show a.runs+sumR (l++[j])=a.runs+sumR l+j.runs;rw [ih];omega
theorem rsL_sum{k n:Nat}{js ks:List Jt}(h:rsL L rs ts bs now k=some js)(hn:rsL L rs ts bs now n=some ks)(hk:k≤n):sumR js≤sumR ks:=by
 induction n generalizing ks with
 | zero =>
  obtain rfl:k=0:=by omega
  rw [h] at hn
  injection hn with hn
  rw [hn]
  exact Int.le_refl _
 | succ n ih =>
  by_cases he:k=n+1
  ·subst he
   rw [h] at hn
   injection hn with hn
   rw [hn]
   exact Int.le_refl _
  ·cases hk2:rsL L rs ts bs now n with
   | none=>rw [rsL_none hk2 (Nat.le_succ n)] at hn;cases hn
   | some js' =>
    have:=ih hk2 (by omega)
    simp only [rsL,hk2] at hn
    split at hn
    ·split at hn
     ·cases hn
     ·next hj =>
      injection hn with hn
      obtain ⟨l,-,h0,-,-,rfl⟩:=rsJ_some hj
      subst hn
      rw [sumR_snoc]
      show _≤_+_
      simp only
      omega
    ·cases hn
end
open Go.Lib (hid)
set_option maxRecDepth 16000
set_option maxHeartbeats 40000000
theorem poss_ok{f o p un fa go ud now:Int}(hn:timeB now=true)(ho_:0≤o∧o≤68719476736)(hp_:0≤p∧p≤100)(w:World):Calls Tryz.prog 92 #[.agg #[.int .i64 f,.int .i64 o,.int .i64 p],.agg #[.int .i64 un,.int .i64 fa,.int .i64 go,.int .i64 ud],.int .i64 now] w fun e w'=>e=.returned (.bool (possB f o p ⟨un,fa,go,ud⟩ now))∧Below w.heap.size w w':=by
 have hn2:=timeB_iff.1 hn
 go_enter Tryz.func92,Tryz.ntmps92
 by_cases h1:fa<0
 ·have q1:decide (fa<0)=true:=decide_eq_true (by omega)
  have hp:possB f o p ⟨un,fa,go,ud⟩ now=false:=by
   unfold possB
   simp only
   (repeat' split)<;>first|rfl|(exfalso;omega)|(simp only [decide_eq_false_iff_not];omega)
  rw [hp]
  go_wp2_with fail
  go_ret
  exact ⟨rfl,two_boxes w _ _⟩
 ·have q1:decide (fa<0)=false:=decide_eq_false (by omega)
  by_cases h2:go<0
  ·have q2:decide (go<0)=true:=decide_eq_true (by omega)
   have hp:possB f o p ⟨un,fa,go,ud⟩ now=false:=by
    unfold possB
    simp only
    (repeat' split)<;>first|rfl|(exfalso;omega)|(simp only [decide_eq_false_iff_not];omega)
   rw [hp]
   go_wp2_with fail
   go_ret
   exact ⟨rfl,two_boxes w _ _⟩
  ·have q2:decide (go<0)=false:=decide_eq_false (by omega)
   by_cases h3:ud<0
   ·have q3:decide (ud<0)=true:=decide_eq_true (by omega)
    have hp:possB f o p ⟨un,fa,go,ud⟩ now=false:=by
     unfold possB
     simp only
     (repeat' split)<;>first|rfl|(exfalso;omega)|(simp only [decide_eq_false_iff_not];omega)
    rw [hp]
    go_wp2_with fail
    go_ret
    exact ⟨rfl,two_boxes w _ _⟩
   ·have q3:decide (ud<0)=false:=decide_eq_false (by omega)
    by_cases h4:un=0
    ·have q4:(un==0)=true:=by rw [beq_iff_eq];omega
     by_cases g0:go=0
     ·have r0:(go==0)=true:=by rw [beq_iff_eq];omega
      by_cases u0:ud=0
      ·have s0:(ud==0)=true:=by rw [beq_iff_eq];omega
       by_cases fa0:fa=0
       ·have t0:(fa==0)=true:=by rw [beq_iff_eq];omega
        have hp:possB f o p ⟨un,fa,go,ud⟩ now=true:=by
         unfold possB
         simp only
         (repeat' split)<;>first|rfl|(exfalso;omega)|(simp only [decide_eq_true_eq];omega)
        rw [hp]
        go_wp2_with fail
        go_ret
        exact ⟨rfl,two_boxes w _ _⟩
       ·have t0:(fa==0)=false:=by rw [beq_eq_false_iff_ne];omega
        by_cases ff:fa<f
        ·have v0:decide (fa<f)=true:=decide_eq_true (by omega)
         have hp:possB f o p ⟨un,fa,go,ud⟩ now=true:=by
          unfold possB
          simp only
          (repeat' split)<;>first|rfl|(exfalso;omega)|(simp only [decide_eq_true_eq];omega)
         rw [hp]
         go_wp2_with fail
         go_ret
         exact ⟨rfl,two_boxes w _ _⟩
        ·have v0:decide (fa<f)=false:=decide_eq_false (by omega)
         have hp:possB f o p ⟨un,fa,go,ud⟩ now=false:=by
          unfold possB
          simp only
          (repeat' split)<;>first|rfl|(exfalso;omega)|(simp only [decide_eq_false_iff_not];omega)
         rw [hp]
         go_wp2_with fail
         go_ret
         exact ⟨rfl,two_boxes w _ _⟩
      ·have s0:(ud==0)=false:=by rw [beq_eq_false_iff_ne];omega
       have hp:possB f o p ⟨un,fa,go,ud⟩ now=false:=by
        unfold possB
        simp only
        (repeat' split)<;>first|rfl|(exfalso;omega)|(simp only [decide_eq_false_iff_not];omega)
       rw [hp]
       go_wp2_with fail
       go_ret
       exact ⟨rfl,two_boxes w _ _⟩
     ·have r0:(go==0)=false:=by rw [beq_eq_false_iff_ne];omega
      have hp:possB f o p ⟨un,fa,go,ud⟩ now=false:=by
       unfold possB
       simp only
       (repeat' split)<;>first|rfl|(exfalso;omega)|(simp only [decide_eq_false_iff_not];omega)
      rw [hp]
      go_wp2_with fail
      go_ret
      exact ⟨rfl,two_boxes w _ _⟩
    ·have q4:(un==0)=false:=by rw [beq_eq_false_iff_ne];omega
     by_cases hf:f=0
     ·have qf:(f==0)=true:=by rw [beq_iff_eq];omega
      have hp:possB f o p ⟨un,fa,go,ud⟩ now=false:=by
       unfold possB
       simp only
       (repeat' split)<;>first|rfl|(exfalso;omega)|(simp only [decide_eq_false_iff_not];omega)
      rw [hp]
      go_wp2_with fail
      go_ret
      exact ⟨rfl,two_boxes w _ _⟩
     ·have qf:(f==0)=false:=by rw [beq_eq_false_iff_ne];omega
      by_cases ha:fa=0
      ·have qa:(fa==0)=true:=by rw [beq_iff_eq];omega
       by_cases ho:un<o
       ·have qo:decide (un<o)=true:=decide_eq_true (by omega)
        have hp:possB f o p ⟨un,fa,go,ud⟩ now=false:=by
         unfold possB
         simp only
         (repeat' split)<;>first|rfl|(exfalso;omega)|(simp only [decide_eq_false_iff_not];omega)
        rw [hp]
        go_wp2_with fail
        go_ret
        exact ⟨rfl,two_boxes w _ _⟩
       ·have qo:decide (un<o)=false:=decide_eq_false (by omega)
        have hw0:IntKind.i64.wrap (now+o)=now+o:=IntWalk.i64_in _ (by omega)
        by_cases hx:now+o<un
        ·have qx:decide ((now+o)<un)=true:=decide_eq_true (by omega)
         have hp:possB f o p ⟨un,fa,go,ud⟩ now=false:=by
          unfold possB
          simp only
          (repeat' split)<;>first|rfl|(exfalso;omega)|(simp only [decide_eq_false_iff_not];omega)
         rw [hp]
         go_wp2_with fail
         go_ret
         exact ⟨rfl,two_boxes w _ _⟩
        ·have qx:decide ((now+o)<un)=false:=decide_eq_false (by omega)
         by_cases h9:now<un
         ·have q9:decide (now<un)=true:=decide_eq_true (by omega)
          by_cases g0:go=0
          ·have r0:(go==0)=true:=by rw [beq_iff_eq];omega
           by_cases u0:ud=0
           ·have s0:(ud==0)=true:=by rw [beq_iff_eq];omega
            have hp:possB f o p ⟨un,fa,go,ud⟩ now=true:=by
             unfold possB
             simp only
             (repeat' split)<;>first|rfl|(exfalso;omega)|(simp only [decide_eq_true_eq];omega)
            rw [hp]
            go_wp2_with fail
            go_ret
            exact ⟨rfl,two_boxes w _ _⟩
           ·have s0:(ud==0)=false:=by rw [beq_eq_false_iff_ne];omega
            have hp:possB f o p ⟨un,fa,go,ud⟩ now=false:=by
             unfold possB
             simp only
             (repeat' split)<;>first|rfl|(exfalso;omega)|(simp only [decide_eq_false_iff_not];omega)
            rw [hp]
            go_wp2_with fail
            go_ret
            exact ⟨rfl,two_boxes w _ _⟩
          ·have r0:(go==0)=false:=by rw [beq_eq_false_iff_ne];omega
           have hp:possB f o p ⟨un,fa,go,ud⟩ now=false:=by
            unfold possB
            simp only
            (repeat' split)<;>first|rfl|(exfalso;omega)|(simp only [decide_eq_false_iff_not];omega)
           rw [hp]
           go_wp2_with fail
           go_ret
           exact ⟨rfl,two_boxes w _ _⟩
         ·have q9:decide (now<un)=false:=decide_eq_false (by omega)
          by_cases g1:go<p
          ·have r1:decide (go<p)=true:=decide_eq_true (by omega)
           have hw:IntKind.i64.wrap (p - go)=p - go:=IntWalk.i64_in _ (by omega)
           by_cases u1:ud≤p - go
           ·have s1:decide (ud≤(p - go))=true:=decide_eq_true (by omega)
            have hp:possB f o p ⟨un,fa,go,ud⟩ now=true:=by
             unfold possB
             simp only
             (repeat' split)<;>first|rfl|(exfalso;omega)|(simp only [decide_eq_true_eq];omega)
            rw [hp]
            go_wp2_with fail
            go_ret
            exact ⟨rfl,two_boxes w _ _⟩
           ·have s1:decide (ud≤(p - go))=false:=decide_eq_false (by omega)
            have hp:possB f o p ⟨un,fa,go,ud⟩ now=false:=by
             unfold possB
             simp only
             (repeat' split)<;>first|rfl|(exfalso;omega)|(simp only [decide_eq_false_iff_not];omega)
            rw [hp]
            go_wp2_with fail
            go_ret
            exact ⟨rfl,two_boxes w _ _⟩
          ·have r1:decide (go<p)=false:=decide_eq_false (by omega)
           have hp:possB f o p ⟨un,fa,go,ud⟩ now=false:=by
            unfold possB
            simp only
            (repeat' split)<;>first|rfl|(exfalso;omega)|(simp only [decide_eq_false_iff_not];omega)
           rw [hp]
           go_wp2_with fail
           go_ret
           exact ⟨rfl,two_boxes w _ _⟩
      ·have qa:(fa==0)=false:=by rw [beq_eq_false_iff_ne];omega
       have hp:possB f o p ⟨un,fa,go,ud⟩ now=false:=by
        unfold possB
        simp only
        (repeat' split)<;>first|rfl|(exfalso;omega)|(simp only [decide_eq_false_iff_not];omega)
       rw [hp]
       go_wp2_with fail
       go_ret
       exact ⟨rfl,two_boxes w _ _⟩
theorem bring_ok{w:World}{b:Nat}{f o p un fa go ud now:Int}(hB:BoxAt w b (BK.fresh f o p))(hn:timeB now=true)(hr:BK.zero f o p=true∨BK.ruled f o p=true)(hp:possB f o p ⟨un,fa,go,ud⟩ now=true):Calls Tryz.prog 93 #[.pointer (some ⟨b,0,none⟩),.agg #[.int .i64 f,.int .i64 o,.int .i64 p],.agg #[.int .i64 un,.int .i64 fa,.int .i64 go,.int .i64 ud],.int .i64 now] w fun e w'=>e=.returned (.tuple #[])∧BoxAt w' b (bringB f o p ⟨un,fa,go,ud⟩ now)∧w.grownBy w' (some b):=by
 have hn2:=timeB_iff.1 hn
 have hrs:0≤f∧f≤100∧0≤o∧o≤68719476736∧0≤p∧p≤100:=by
  unfold BK.zero BK.ruled BK.maxSpan at hr
  simp only [decide_eq_true_eq] at hr
  omega
 have HR:=hid hr
 have HT:=hid hn
 have HP:=hid hp
 have hlb:b<w.heap.size:=Blk.lt hB
 have HNE:Hid (some w.heap.size≠some b∧some (w.heap.size+1)≠some b):=hid ⟨fun e=>by injection e with e;omega,fun e=>by injection e with e;omega⟩
 rw [←bring_fresh (now:=now)] at hB
 obtain ⟨W0,hW0⟩:∃W0,W0=(w.alloc (.cells #[.int .i64 f,.int .i64 o,.int .i64 p] 51)).alloc (.cells #[.int .i64 un,.int .i64 fa,.int .i64 go,.int .i64 ud] 101):=⟨_,rfl⟩
 have hb0:Below w.heap.size w W0:=by rw [hW0];exact two_boxes w _ _
 have K0:Hid (BoxAt W0 b (bringB f o p ⟨0,0,0,0⟩ now)∧Blk W0 w.heap.size 51 #[.int .i64 f,.int .i64 o,.int .i64 p]∧Blk W0 (w.heap.size+1) 101 #[.int .i64 un,.int .i64 fa,.int .i64 go,.int .i64 ud]∧w.grownBy W0 (some b)):=hid ⟨Blk.below hB hb0 hlb,by rw [hW0];exact (Blk.new _ _ _).alloc _,by rw [hW0];exact blk_newAt (by simp),only_of_below hb0 _⟩
 have hfa:0≤fa∧(0<fa→fa<f)∧fa≤100:=by
  by_cases hu:un=0
  ·have:=poss_shut hp hu
   simp only at this
   omega
  ·have:=poss_open hp hu
   simp only at this
   omega
 obtain ⟨m,rfl⟩:∃m:Nat,fa=m:=⟨fa.toNat,by omega⟩
 clear hr hn hp hB hb0
 go_enter Tryz.func93,Tryz.ntmps93
 go_upto_region 1 with fail
 rw [←hW0]
 clear hW0
 have k1:W0.cell? ⟨w.heap.size+1,1,none⟩=some (.int .i64 m):=K0.out.2.2.1.cell 1
 go_wp2_with fail
 go_loopw [10] (fun s10 wr=>∃k:Nat,k≤m∧s10=.int .i64 k∧BoxAt wr b (bringB f o p ⟨0,k,0,0⟩ now)∧Blk wr w.heap.size 51 #[.int .i64 f,.int .i64 o,.int .i64 p]∧Blk wr (w.heap.size+1) 101 #[.int .i64 un,.int .i64 m,.int .i64 go,.int .i64 ud]∧w.grownBy wr (some b)) (fun s10 _=>m - intA s10)
 case atStart=>exact ⟨0,Nat.zero_le _,rfl,K0.out⟩
 case round =>
  obtain ⟨k,hk,rfl,hI⟩:=hrel
  have KW:=hid hI
  clear hI K0 k1
  rcases Nat.lt_or_ge k m with hlt|hge
  ·have HF:=hid (bring_fail (f:=f) (o:=o) (p:=p) HT.out (k:=k) (by omega) (by omega))
   have HI:=hid (bring_inv HR.out HT.out (poss_mk (f:=f) (o:=o) (p:=p) (now:=now) (s:=⟨0,k,0,0⟩) (.inl ⟨rfl,(show (0:Int)≤k by omega),rfl,rfl,(show (k:Int)=0∨(k:Int)<f by omega)⟩)))
   go_wp2_with fail
   refine (BK.report_ok KW.out.1 HI.out false now).mono ?_
   rintro e_ X1 ⟨rfl,hb_,hg_⟩
   rw [HF.out] at hb_ ⊢
   have KX1:Hid (BoxAt X1 b (bringB f o p ⟨0,k+1,0,0⟩ now)∧Blk X1 w.heap.size 51 #[.int .i64 f,.int .i64 o,.int .i64 p]∧Blk X1 (w.heap.size+1) 101 #[.int .i64 un,.int .i64 m,.int .i64 go,.int .i64 ud]∧w.grownBy X1 (some b)):=hid ⟨hb_,(hg_.block _ KW.out.2.1.lt (HNE.out.1)).trans KW.out.2.1,(hg_.block _ KW.out.2.2.1.lt (HNE.out.2)).trans KW.out.2.2.1,only_trans KW.out.2.2.2 hg_⟩
   clear hb_ hg_ KW
   go_wp2_with fail
   refine ⟨⟨k+1,by omega,by go_num,?_⟩,?_⟩
   ·have:=KX1.out
    rwa [show ((k:Int)+1)=((k+1:Nat):Int) by omega] at this
   ·simp [intA];omega
  ·obtain rfl:m=k:=by omega
   have k0:wr.cell? ⟨w.heap.size+1,0,none⟩=some (.int .i64 un):=KW.out.2.2.1.cell 0
   by_cases hu:un=0
   ·have qu:(un==0)=true:=by rw [beq_iff_eq];exact hu
    have hgu:=poss_shut HP.out hu
    simp only at hgu
    obtain ⟨-,h1,h2,-⟩:=hgu
    subst hu h1 h2
    go_wp2_with fail
    refine bodyPost_ret (results_none rfl _ _ _) rfl ?_
    exact ⟨rfl,KW.out.1,KW.out.2.2.2⟩
   ·have qu:(un==0)=false:=by rw [beq_eq_false_iff_ne];exact hu
    have hop:=poss_open HP.out hu
    simp only at hop
    obtain ⟨hf0,hm0,hg0,hu0,hou,hun,hhalf⟩:=hop
    obtain rfl:m=0:=by omega
    have KZ:Hid (BoxAt wr b (bringB f o p ⟨0,0,0,0⟩ now)∧Blk wr w.heap.size 51 #[.int .i64 f,.int .i64 o,.int .i64 p]∧Blk wr (w.heap.size+1) 101 #[.int .i64 un,.int .i64 (0:Nat),.int .i64 go,.int .i64 ud]∧w.grownBy wr (some b)):=KW
    clear KW
    have KW:=KZ
    clear KZ
    have hto:timeB (un - o)=true:=timeB_iff.2 (by omega)
    have HTO:=hid hto
    have HF:=hid (bring_trip (f:=f) (o:=o) (p:=p) (now:=now) hf0 hu hto)
    have HI:=hid (bring_inv HR.out HT.out (poss_mk (f:=f) (o:=o) (p:=p) (now:=now) (s:=⟨0,0,0,0⟩) (.inl ⟨rfl,Int.le_refl _,rfl,rfl,.inl rfl⟩)))
    have hw:IntKind.i64.wrap (un - o)=un - o:=IntWalk.i64_in _ (by omega)
    have o1:wr.cell? ⟨w.heap.size,1,none⟩=some (.int .i64 o):=KW.out.2.1.cell 1
    clear hto
    go_wp2_with fail
    refine (BK.trip_ok KW.out.1 HI.out (un - o)).mono ?_
    rintro e_ X2 ⟨rfl,hb_,hg_⟩
    rw [HF.out] at hb_ ⊢
    have KX2:Hid (BoxAt X2 b (bringB f o p ⟨un,0,0,0⟩ now)∧Blk X2 w.heap.size 51 #[.int .i64 f,.int .i64 o,.int .i64 p]∧Blk X2 (w.heap.size+1) 101 #[.int .i64 un,.int .i64 (0:Nat),.int .i64 go,.int .i64 ud]∧w.grownBy X2 (some b)):=hid ⟨hb_,(hg_.block _ KW.out.2.1.lt (HNE.out.1)).trans KW.out.2.1,(hg_.block _ KW.out.2.2.1.lt (HNE.out.2)).trans KW.out.2.2.1,only_trans KW.out.2.2.2 hg_⟩
    clear hb_ hg_ KW
    clear k0 o1
    have k2:X2.cell? ⟨w.heap.size+1,2,none⟩=some (.int .i64 go):=KX2.out.2.2.1.cell 2
    have k3:X2.cell? ⟨w.heap.size+1,3,none⟩=some (.int .i64 ud):=KX2.out.2.2.1.cell 3
    obtain ⟨g,rfl⟩:∃g:Nat,go=g:=⟨go.toNat,by omega⟩
    obtain ⟨t,ht⟩:∃t:Nat,(g:Int)+ud=t:=⟨((g:Int)+ud).toNat,by omega⟩
    obtain rfl:ud=t - g:=by omega
    have hw2:IntKind.i64.wrap ((g:Int)+((t:Int) - g))=t:=by rw [IntWalk.i64_in _ (by omega)];omega
    clear ht
    go_wp2_with fail
    go_loopw [34] (fun s34 wr=>∃k:Nat,k≤t∧s34=.int .i64 k∧BoxAt wr b (bringB f o p ⟨un,0,0,k⟩ now)∧Blk wr w.heap.size 51 #[.int .i64 f,.int .i64 o,.int .i64 p]∧Blk wr (w.heap.size+1) 101 #[.int .i64 un,.int .i64 (0:Nat),.int .i64 g,.int .i64 ((t:Int) - g)]∧w.grownBy wr (some b)) (fun s34 _=>t - intA s34)
    case atStart=>exact ⟨0,Nat.zero_le _,rfl,KX2.out⟩
    case round =>
     obtain ⟨k,hk,rfl,hI⟩:=hrel
     have KW:=hid hI
     clear hI KX2 k2 k3 hw2
     rcases Nat.lt_or_ge k t with hlt|hge
     ·have htu:timeB un=true:=timeB_iff.2 (by omega)
      have HF:=hid (bring_take (f:=f) (o:=o) (p:=p) (now:=now) hu (by omega) htu (j:=k) (by omega) (by omega))
      have HI:=hid (bring_inv HR.out HT.out (poss_mk (f:=f) (o:=o) (p:=p) (now:=now) (s:=⟨un,0,0,k⟩) (.inr ⟨hu,hf0,rfl,Int.le_refl _,(show (0:Int)≤k by omega),hou,hun,.inr (show un≤now∧(0:Int)<p∧(0:Int)+k≤p by omega)⟩)))
      have k0:wr.cell? ⟨w.heap.size+1,0,none⟩=some (.int .i64 un):=KW.out.2.2.1.cell 0
      clear htu
      go_wp2_with fail
      refine (BK.take_ok KW.out.1 HI.out un).mono ?_
      rintro e_ X3 ⟨rfl,hb_,hg_⟩
      rw [HF.out] at hb_ ⊢
      have KX3:Hid (BoxAt X3 b (bringB f o p ⟨un,0,0,k+1⟩ now)∧Blk X3 w.heap.size 51 #[.int .i64 f,.int .i64 o,.int .i64 p]∧Blk X3 (w.heap.size+1) 101 #[.int .i64 un,.int .i64 (0:Nat),.int .i64 g,.int .i64 ((t:Int) - g)]∧w.grownBy X3 (some b)):=hid ⟨hb_,(hg_.block _ KW.out.2.1.lt (HNE.out.1)).trans KW.out.2.1,(hg_.block _ KW.out.2.2.1.lt (HNE.out.2)).trans KW.out.2.2.1,only_trans KW.out.2.2.2 hg_⟩
      clear hb_ hg_ KW
      go_wp2_with fail
      refine ⟨⟨k+1,by omega,by go_num,?_⟩,?_⟩
      ·have:=KX3.out
       rwa [show ((k:Int)+1)=((k+1:Nat):Int) by omega] at this
      ·simp [intA];omega
     ·obtain rfl:t=k:=by omega
      have k2:wr.cell? ⟨w.heap.size+1,2,none⟩=some (.int .i64 g):=KW.out.2.2.1.cell 2
      go_wp2_with fail
      go_loopw [43] (fun s43 wr=>∃k:Nat,k≤g∧s43=.int .i64 k∧BoxAt wr b (bringB f o p ⟨un,0,k,t - k⟩ now)∧Blk wr w.heap.size 51 #[.int .i64 f,.int .i64 o,.int .i64 p]∧Blk wr (w.heap.size+1) 101 #[.int .i64 un,.int .i64 (0:Nat),.int .i64 g,.int .i64 ((t:Int) - g)]∧w.grownBy wr (some b)) (fun s43 _=>g - intA s43)
      case atStart=>exact ⟨0,Nat.zero_le _,rfl,by have:=KW.out;rwa [show (t:Int)=(t:Int) - ((0:Nat):Int) by omega] at this⟩
      case round =>
       obtain ⟨k,hk,rfl,hI⟩:=hrel
       have KY:=hid hI
       clear hI KW k2
       have KW:=KY
       clear KY
       rcases Nat.lt_or_ge k g with hlt|hge
       ·have htu:timeB un=true:=timeB_iff.2 (by omega)
        have HF:=hid (bring_good (f:=f) (o:=o) (p:=p) (now:=now) hf0 hu htu (q:=k) (t:=t) (by omega) (by omega) (by omega))
        have HI:=hid (bring_inv HR.out HT.out (poss_mk (f:=f) (o:=o) (p:=p) (now:=now) (s:=⟨un,0,k,t - k⟩) (.inr ⟨hu,hf0,rfl,(show (0:Int)≤k by omega),(show (0:Int)≤(t:Int) - k by omega),hou,hun,.inr (show un≤now∧(k:Int)<p∧(k:Int)+((t:Int) - k)≤p by omega)⟩)))
        have k0:wr.cell? ⟨w.heap.size+1,0,none⟩=some (.int .i64 un):=KW.out.2.2.1.cell 0
        clear htu
        go_wp2_with fail
        refine (BK.report_ok KW.out.1 HI.out true un).mono ?_
        rintro e_ X4 ⟨rfl,hb_,hg_⟩
        rw [HF.out] at hb_ ⊢
        have KX4:Hid (BoxAt X4 b (bringB f o p ⟨un,0,k+1,t - (k+1)⟩ now)∧Blk X4 w.heap.size 51 #[.int .i64 f,.int .i64 o,.int .i64 p]∧Blk X4 (w.heap.size+1) 101 #[.int .i64 un,.int .i64 (0:Nat),.int .i64 g,.int .i64 ((t:Int) - g)]∧w.grownBy X4 (some b)):=hid ⟨hb_,(hg_.block _ KW.out.2.1.lt (HNE.out.1)).trans KW.out.2.1,(hg_.block _ KW.out.2.2.1.lt (HNE.out.2)).trans KW.out.2.2.1,only_trans KW.out.2.2.2 hg_⟩
        clear hb_ hg_ KW
        go_wp2_with fail
        refine ⟨⟨k+1,by omega,by go_num,?_⟩,?_⟩
        ·have:=KX4.out
         rwa [show ((k:Int)+1)=((k+1:Nat):Int) by omega] at this
        ·simp [intA];omega
       ·obtain rfl:g=k:=by omega
        go_wp2_with fail
        go_end0
        exact ⟨rfl,KW.out.1,KW.out.2.2.2⟩
end Go.Proofs.YtpgckpafjiojfaaGreatDoor.AD
