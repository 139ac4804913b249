/- Contract of a gate's Next. -/
import Derived.Test.YtpgckpafjiojfaaGreatDoorAGj
open Go.Lib (hid)
set_option maxRecDepth 16000
set_option maxHeartbeats 40000000
namespace Go.Proofs.YtpgckpafjiojfaaGreatDoor.AD
open Go Go.RowKit
open BK (Bx BoxAt Blk only_refl only_drew only_drewN only_setCell only_trans only_of_below only_alloc below_drewN)
theorem Lm.nextT_max(x:Lm):∃c,∀t,0≤t→x.nextT t=max t c:=by
 cases hs:x.so
 ·refine ⟨0,fun t ht=>?_⟩
  unfold Lm.nextT
  rw [if_pos hs]
  omega
 ·by_cases h0:0<x.t
  ·refine ⟨max x.last (x.tat - x.tau),fun t _=>?_⟩
   unfold Lm.nextT Lm.early
   rw [if_neg (by rw [hs];simp),hs,decide_eq_true h0]
   by_cases h1:max t x.last<x.tat - x.tau
   ·rw [decide_eq_true h1];simp only [Bool.and_self,if_true];omega
   ·rw [decide_eq_false h1];simp only [Bool.and_false,Bool.false_eq_true,if_false];omega
  ·refine ⟨x.last,fun t _=>?_⟩
   unfold Lm.nextT Lm.early
   rw [if_neg (by rw [hs];simp),decide_eq_false h0]
   simp
def Gt.nx1(x:Gt)(now:Int):Int:=x.both.nextT now
def Gt.nx2(x:Gt)(j:Jt)(now:Int):Int:=if x.nx1 now≤253402300799 then j.lm.nextT (x.nx1 now) else x.nx1 now
def Gt.nx3(x:Gt)(j:Jt)(now:Int):Int:=if j.bx.op=true then max (x.nx2 j now) (BK.untilOf j.bx) else x.nx2 j now
theorem Gt.nx_eq(x:Gt)(j:Jt){now:Int}(h0:0≤now):(x.nx1 now≤253402300799→x.nx3 j now=x.nextAt j now)∧(¬x.nx1 now≤253402300799→253402300799<x.nx3 j now∧253402300799<x.nextAt j now)∧now≤x.nx1 now∧x.nx1 now≤x.nx2 j now:=by
 obtain ⟨c,hc⟩:=x.both.nextT_max
 obtain ⟨d,hd⟩:=j.lm.nextT_max
 have e1:x.nx1 now=max now c:=hc now h0
 have h1:0≤x.nx1 now:=by omega
 have e2:j.lm.nextT (x.nx1 now)=max (max now c) d:=by rw [hd _ h1,e1]
 have e3:x.nextAt j now=max (max now (max (max now c) (max now d))) (if j.bx.op=true then BK.untilOf j.bx else 0):=by
  unfold Gt.nextAt
  rw [hc now h0,hd now h0]
 refine ⟨fun h=>?_,fun h=>?_,by omega,?_⟩
 ·unfold Gt.nx3 Gt.nx2
  rw [if_pos h,e2,e3]
  by_cases hb:j.bx.op=true
  ·rw [if_pos hb,if_pos hb];omega
  ·rw [if_neg hb,if_neg hb];omega
 ·unfold Gt.nx3 Gt.nx2
  rw [if_neg h,e3,e1]
  by_cases hb:j.bx.op=true
  ·rw [if_pos hb,if_pos hb];omega
  ·rw [if_neg hb,if_neg hb];omega
 ·unfold Gt.nx2
  by_cases h:x.nx1 now≤253402300799
  ·rw [if_pos h,e2];omega
  ·rw [if_neg h];omega
theorem Gt.next_eq{x:Gt}{k:Nat}{j:Jt}{now:Int}(hc:x.call k now=0)(hj:x.job k=some j)(h0:0≤now)(h1:¬(x.cap≤x.total∨j.cap≤j.runs)) :
 x.next k now=if 253402300799<x.nx3 j now∨BK.allows j.bx (x.nx3 j now)=false then (0,false,0) else (x.nx3 j now,true,0):=by
 unfold Gt.next
 rw [if_neg (by rw [hc];simp),hj]
 simp only
 rw [if_neg h1]
 obtain ⟨e1,e2,-,-⟩:=x.nx_eq j h0
 by_cases h:x.nx1 now≤253402300799
 ·rw [e1 h]
 ·obtain ⟨e3,e4⟩:=e2 h
  rw [if_pos (.inl e4),if_pos (.inl e3)]
theorem whyJ_part(x:Gt)(j:Jt)(now:Int):x.whyJ j now=((partN (decide (x.cap≤x.total)) (!x.both.allows now) (decide (j.cap≤j.runs)) (!j.lm.allows now) (!BK.allows j.bx now) 5:Nat):Int):=by
 unfold Gt.whyJ
 generalize decide (x.cap≤x.total)=a
 generalize (!x.both.allows now)=b
 generalize decide (j.cap≤j.runs)=c
 generalize (!j.lm.allows now)=d
 generalize (!BK.allows j.bx now)=e
 cases a<;>cases b<;>cases c<;>cases d<;>cases e<;>rfl
theorem and_five(a b c d e:Bool):bits .and .i64 ((partN a b c d e 5:Nat):Int) 5=((partN a false c false false 5:Nat):Int):=by
 cases a<;>cases b<;>cases c<;>cases d<;>cases e<;>decide +kernel
theorem and_why{x:Gt}{j:Jt}{now:Int}:((x.cap≤x.total∨j.cap≤j.runs)→(bits .and .i64 (x.whyJ j now) 5==0)=false)∧(¬(x.cap≤x.total∨j.cap≤j.runs)→bits .and .i64 (x.whyJ j now) 5=0):=by
 rw [whyJ_part,and_five]
 refine ⟨fun h=>?_,fun h=>?_⟩
 ·rcases h with h|h
  ·rw [decide_eq_true h];cases decide (j.cap≤j.runs)<;>decide
  ·rw [decide_eq_true h];cases decide (x.cap≤x.total)<;>decide
 ·rw [decide_eq_false (fun h'=>h (.inl h')),decide_eq_false (fun h'=>h (.inr h'))];decide
theorem idx_two(a b:Nat)(W:World):(Instr.index 137 (.agg #[.pointer (some ⟨a,0,none⟩),.pointer (some ⟨b,0,none⟩)]) (.int .i64 0)).run Tryz.prog W=.ok (.pointer (some ⟨a,0,none⟩)) W∧(Instr.index 137 (.agg #[.pointer (some ⟨a,0,none⟩),.pointer (some ⟨b,0,none⟩)]) (.int .i64 1)).run Tryz.prog W=.ok (.pointer (some ⟨b,0,none⟩)) W:=by
 constructor<;>(unfold Instr.index;simp [go_sem])
theorem retIBI{a b:Int}{c d:Bool}{e f:Int}(h:a=b)(h':c=d)(h'':e=f):Ending.returned (.tuple #[.int .i64 a,.bool c,.int .i64 e])=.returned (.tuple #[.int .i64 b,.bool d,.int .i64 f]):=by rw [h,h',h'']
structure NxS(w:World)(L:Ly)(x:Gt)(k t:Nat)(W:World):Prop where
 g:GAt W L x
 d:Blk W t 125 #[.pointer (some ⟨L.li k,0,none⟩),.pointer (some ⟨L.bo k,0,none⟩)]
 b:Below w.heap.size w W
theorem NxS.drewN{w:World}{L:Ly}{x:Gt}{k t:Nat}{W:World}(h:NxS w L x k t W)(n:Nat):NxS w L x k t (W.drewN n):=⟨h.g.drewN n,h.d.drewN n,below_drewN h.b n⟩
theorem next_of{now:Int}{x:Lm}(h:timeB now=true):x.next now=(x.nextT now,0):=by unfold Lm.next;rw [if_neg (by rw [h];simp)]
theorem gnext_ok{w:World}{L:Ly}{x:Gt}(h:GAt w L x)(job now:Int):Calls Tryz.prog 20 #[.pointer (some ⟨L.g,0,none⟩),.int .i64 job,.int .i64 now] w fun e w'=>e=.returned (.tuple #[.int .i64 (x.next job now).1,.bool (x.next job now).2.1,.int .i64 (x.next job now).2.2])∧Below w.heap.size w w':=by
 have M:=hid (gwhy_ok h job now)
 by_cases hE:x.call job now=0
 ·obtain ⟨hA,hlast⟩:=Gt.call_zero hE
  obtain ⟨ht,k,rfl,j,hk,hj⟩:=Gt.asked_zero hA
  have hW:x.Why k now=(x.whyJ j now,0):=by unfold Gt.Why Gt.why;rw [if_neg (by rw [hE];simp),hj]
  rw [hW] at M
  by_cases hn:x.cap≤x.total∨j.cap≤j.runs
  ·have HR:Hid (x.next k now=(0,false,0)):=hid (by unfold Gt.next;rw [if_neg (by rw [hE];simp),hj];simp only;rw [if_pos hn])
   have q1:=(and_why (now:=now)).1 hn
   generalize x.next k now=R at *
   generalize x.whyJ j now=E at *
   have q2:(bits .and .i64 E 5 != 0)=true:=by rw [bne,q1];rfl
   clear hE hA hlast ht hk hj h hn hW
   go_enter Tryz.func20,Tryz.ntmps20
   go_wp2_with fail
   refine (M.out).mono ?_
   rintro e w1 ⟨rfl,hb⟩
   have HB:=hid hb
   clear hb
   go_wp2_with fail
   refine bodyPost_ret (results_tmp3 rfl _ _ _) rfl ?_
   exact ⟨retIBI (by rw [HR.out]) (by rw [HR.out]) (by rw [HR.out]),HB.out⟩
  ·obtain ⟨t0,t1⟩:=timeB_iff.1 ht
   have HR:=hid (Gt.next_eq hE hj t0 hn)
   have a5:=(and_why (now:=now)).2 hn
   have HK:=hid hk
   have HL:Hid (k<x.js.length):=hid (List.getElem?_eq_some_iff.1 hk).1
   have hi:=h.inv.of hk
   have HD:=hid (fun W (hb:Below w.heap.size w W)=>(h.below hb).dr hk)
   have HG:=hid (fun W (hb:Below w.heap.size w W)=>h.below hb)
   obtain ⟨-,-,n1,n2⟩:=x.nx_eq j t0
   have N1:=hid (fun (t:Nat) (W:World) (hW:NxS w L x k t W)=>(show Calls Tryz.prog 63 #[.pointer (some ⟨L.lm,0,none⟩),.int .i64 now] W fun e w'=>e=.returned (.tuple #[.int .i64 (x.nx1 now),.int .i64 0])∧∃n,w'=W.drewN n from by
    have:=next_ok hW.g.lm hW.g.inv.both now
    rw [next_of ht] at this
    exact this))
   have N2:=hid (fun (hm:x.nx1 now≤253402300799) (t:Nat) (W:World) (hW:NxS w L x k t W)=>(show Calls Tryz.prog 63 #[.pointer (some ⟨L.li k,0,none⟩),.int .i64 (x.nx1 now)] W fun e w'=>e=.returned (.tuple #[.int .i64 (x.nx2 j now),.int .i64 0])∧∃n,w'=W.drewN n from by
    have:=next_ok (hW.g.job k j hk).1 hi.2.2.1 (x.nx1 now)
    rw [next_of (timeB_iff.2 ⟨by omega,hm⟩)] at this
    unfold Gt.nx2
    rw [if_pos hm]
    exact this))
   have HX2:Hid (¬x.nx1 now≤253402300799→x.nx2 j now=x.nx1 now):=hid (fun hm=>by unfold Gt.nx2;rw [if_neg hm])
   have HX3:Hid (x.nx3 j now=if j.bx.op=true then max (x.nx2 j now) (BK.untilOf j.bx) else x.nx2 j now):=hid rfl
   have U:=hid (fun (t:Nat) (W:World) (hW:NxS w L x k t W)=>BK.until_ok (hW.g.job k j hk).2)
   have AL:=hid (fun (now:Int) (t:Nat) (W:World) (hW:NxS w L x k t W)=>BK.allows_ok (hW.g.job k j hk).2 hi.2.2.2 now)
   generalize x.next k now=R at *
   generalize x.whyJ j now=E at *
   generalize BK.untilOf j.bx=un at *
   generalize j.bx.op=op at *
   generalize x.nx1 now=n1' at *
   generalize x.nx2 j now=n2' at *
   generalize x.nx3 j now=n3' at *
   generalize hAL:BK.allows j.bx n3'=al at *
   have HAL:=hid hAL
   clear hE hA hlast ht hk hj h hn hW hi hAL
   go_enter Tryz.func20,Tryz.ntmps20
   go_wp2_with fail
   refine (M.out).mono ?_
   rintro e w1 ⟨rfl,hb⟩
   have HB:=hid hb
   obtain ⟨b,hda,c3,d0,d1,-,hl⟩:=HD.out w1 hb
   have HG1:=hid (HG.out w1 hb)
   clear hb hda M HD HG
   go_wp2_with fail
   obtain ⟨W2,hW2⟩:∃W2,W2=w1.alloc (.cells #[.pointer (some ⟨L.li k,0,none⟩),.pointer (some ⟨L.bo k,0,none⟩)] 125):=⟨_,rfl⟩
   have hb2:Below w1.heap.size w1 W2:=by rw [hW2];exact (Below.refl _ _).alloc (Nat.le_refl _) _
   have S2:Hid (NxS w L x k w1.heap.size W2):=hid ⟨HG1.out.below hb2,by rw [hW2];exact Blk.new _ _ _,HB.out.trans (hb2.mono HB.out.size)⟩
   rw [←hW2]
   generalize w1.heap.size=t9 at *
   have g2:W2.cell? ⟨L.g,2,none⟩=some (.pointer (some ⟨L.lm,0,none⟩)):=S2.out.g.c2
   have p0:W2.cell? ⟨t9,0,none⟩=some (.pointer (some ⟨L.li k,0,none⟩)):=S2.out.d.cell 0
   clear hW2 hb2 c3 d0 d1 HB HG1
   go_quiet (fail)
   go_wp2_with fail
   go_loopw [2,45] (fun s2 s45 wr=>∃i,i≤2∧s45=nthI i∧s2=.int .i64 (if i=0 then now else if i=1 then n1' else n2')∧NxS w L x k t9 wr) (fun _ s45 _=>2 - intA s45)
   case atStart=>exact ⟨0,by decide,rfl,rfl,S2.out.drewN _⟩
   case round =>
    obtain ⟨i,hi,h45,h2,hS⟩:=hrel
    have HS:=hid hS
    clear hS S2 g2 p0
    obtain rfl|rfl|rfl:i=0∨i=1∨i=2:=by omega
    ·have IX:=(idx_two L.lm (L.li k) wr).1
     replace h45:=h45.trans (show nthI 0=.int .i64 0 from rfl)
     replace h2:=h2.trans (show _=Value.int .i64 now from rfl)
     subst h45 h2
     go_wp2_with fail
     refine (N1.out t9 wr HS.out).mono ?_
     rintro e_ w7 ⟨rfl,n,rfl⟩
     go_wp2_with fail
     refine ⟨⟨1,by decide,rfl,rfl,HS.out.drewN n⟩,?_⟩
     simp [intA]
    ·have IX:=(idx_two L.lm (L.li k) wr).2
     replace h45:=h45.trans (show nthI 1=.int .i64 1 from rfl)
     replace h2:=h2.trans (show _=Value.int .i64 n1' from rfl)
     subst h45 h2
     by_cases hm:n1'≤253402300799
     ·have N2':=hid (N2.out hm t9 wr HS.out)
      go_wp2_with fail
      refine (N2'.out).mono ?_
      rintro e_ w7 ⟨rfl,n,rfl⟩
      go_wp2_with fail
      refine ⟨⟨2,by decide,rfl,rfl,HS.out.drewN n⟩,?_⟩
      simp [intA]
     ·have HE2:=hid (HX2.out (by omega))
      go_wp2_with fail
      refine ⟨⟨2,by decide,rfl,by show _=Value.int .i64 n2';rw [HE2.out],HS.out⟩,?_⟩
      simp [intA]
    ·replace h45:=h45.trans (show nthI 2=.int .i64 2 from rfl)
     replace h2:=h2.trans (show _=Value.int .i64 n2' from rfl)
     subst h45 h2
     have p1:wr.cell? ⟨t9,1,none⟩=some (.pointer (some ⟨L.bo k,0,none⟩)):=HS.out.d.cell 1
     have UU:=hid (U.out t9 wr HS.out)
     have AA:=hid (AL.out n3' t9 wr HS.out)
     rw [HAL.out] at AA
     clear N1 N2 U AL
     have HX:=HX3.out
     clear HX3
     cases op
     ·simp only [Bool.false_eq_true,if_false] at HX
      subst HX
      by_cases hm:253402300799<n3'
      ·have HRR:Hid (R=(0,false,0)):=hid (by rw [HR.out,if_pos (.inl hm)])
       go_wp2_with fail
       refine (UU.out).mono ?_
       rintro e_ w7 ⟨rfl,rfl⟩
       go_wp2_with fail
       refine bodyPost_ret (results_tmp3 rfl _ _ _) rfl ?_
       exact ⟨retIBI (by rw [HRR.out]) (by rw [HRR.out]) (by rw [HRR.out]),HS.out.b⟩
      ·cases al
       ·have HRR:Hid (R=(0,false,0)):=hid (by rw [HR.out,if_pos (.inr rfl)])
        go_wp2_with fail
        refine (UU.out).mono ?_
        rintro e_ w7 ⟨rfl,rfl⟩
        go_wp2_with fail
        refine (AA.out).mono ?_
        rintro e_ w7 ⟨rfl,n,rfl⟩
        go_wp2_with fail
        refine bodyPost_ret (results_tmp3 rfl _ _ _) rfl ?_
        exact ⟨retIBI (by rw [HRR.out]) (by rw [HRR.out]) (by rw [HRR.out]),below_drewN HS.out.b n⟩
       ·have HRR:Hid (R=(n3',true,0)):=hid (by rw [HR.out,if_neg (by simp [hm])])
        go_wp2_with fail
        refine (UU.out).mono ?_
        rintro e_ w7 ⟨rfl,rfl⟩
        go_wp2_with fail
        refine (AA.out).mono ?_
        rintro e_ w7 ⟨rfl,n,rfl⟩
        go_wp2_with fail
        refine bodyPost_ret (results_tmp3 rfl _ _ _) rfl ?_
        exact ⟨retIBI (by rw [HRR.out]) (by rw [HRR.out]) (by rw [HRR.out]),below_drewN HS.out.b n⟩
     ·simp only [if_true] at HX
      have HX':=hid HX
      clear HX
      by_cases hm:253402300799<n3'
      ·have HRR:Hid (R=(0,false,0)):=hid (by rw [HR.out,if_pos (.inl hm)])
       have hx:=HX'.out
       subst hx
       go_wp2_with fail
       refine (UU.out).mono ?_
       rintro e_ w7 ⟨rfl,rfl⟩
       go_wp2_with fail
       refine bodyPost_ret (results_tmp3 rfl _ _ _) rfl ?_
       exact ⟨retIBI (by rw [HRR.out]) (by rw [HRR.out]) (by rw [HRR.out]),HS.out.b⟩
      ·cases al
       ·have HRR:Hid (R=(0,false,0)):=hid (by rw [HR.out,if_pos (.inr rfl)])
        have hx:=HX'.out
        subst hx
        go_wp2_with fail
        refine (UU.out).mono ?_
        rintro e_ w7 ⟨rfl,rfl⟩
        go_wp2_with fail
        refine (AA.out).mono ?_
        rintro e_ w7 ⟨rfl,n,rfl⟩
        go_wp2_with fail
        refine bodyPost_ret (results_tmp3 rfl _ _ _) rfl ?_
        exact ⟨retIBI (by rw [HRR.out]) (by rw [HRR.out]) (by rw [HRR.out]),below_drewN HS.out.b n⟩
       ·have HRR:Hid (R=(n3',true,0)):=hid (by rw [HR.out,if_neg (by simp [hm])])
        have hx:=HX'.out
        subst hx
        go_wp2_with fail
        refine (UU.out).mono ?_
        rintro e_ w7 ⟨rfl,rfl⟩
        go_wp2_with fail
        refine (AA.out).mono ?_
        rintro e_ w7 ⟨rfl,n,rfl⟩
        go_wp2_with fail
        refine bodyPost_ret (results_tmp3 rfl _ _ _) rfl ?_
        exact ⟨retIBI (by rw [HRR.out]) (by rw [HRR.out]) (by rw [HRR.out]),below_drewN HS.out.b n⟩
 ·have hW:x.Why job now=(0,x.call job now):=by unfold Gt.Why;rw [if_pos hE]
  have HR:Hid (x.next job now=(0,false,x.call job now)):=hid (by unfold Gt.next;rw [if_pos hE])
  rw [hW] at M
  clear hW
  generalize x.next job now=R at *
  generalize x.call job now=E at *
  have q1:(E==0)=false:=by rw [beq_eq_false_iff_ne];exact hE
  have q2:(E != 0)=true:=by rw [bne,q1];rfl
  clear hE h
  go_enter Tryz.func20,Tryz.ntmps20
  go_wp2_with fail
  refine (M.out).mono ?_
  rintro e w1 ⟨rfl,hb⟩
  have HB:=hid hb
  clear hb
  go_wp2_with fail
  refine bodyPost_ret (results_tmp3 rfl _ _ _) rfl ?_
  exact ⟨retIBI (by rw [HR.out]) (by rw [HR.out]) (by rw [HR.out]),HB.out⟩
end Go.Proofs.YtpgckpafjiojfaaGreatDoor.AD
