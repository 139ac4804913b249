/- Contract of the reference's box. The reference's gate under way in Restore: what is stored, and a drawn region with one call. -/
import Derived.Test.YtpgckpafjiojfaaGreatDoorAKJ
import Derived.Test.YtpgckpafjiojfaaGreatDoorAJi
open Go.Lib (hid)
set_option maxRecDepth 16000
set_option maxHeartbeats 40000000
namespace Go.Proofs.YtpgckpafjiojfaaGreatDoor.AD
open Go Go.RowKit BW
open BK (Bx BoxAt RBoxAt Blk only_refl only_drew only_drewN only_setCell only_trans only_of_below only_alloc below_drewN)
def RBoxP(w:World)(q:Bool)(y:Bx)(e:Ending)(w':World):Prop:=Below w.heap.size w w'∧match q with
 | true=>∃n,e=.returned (.pointer (some ⟨n,0,none⟩))∧RBoxAt w' n y∧w.heap.size≤n
 | false=>e=.returned (.pointer none)
theorem RBoxP.no{w w':World}{q:Bool}{y:Bx}(hq:q=false)(hb:Below w.heap.size w w'):RBoxP w q y (.returned (.pointer none)) w':=by subst hq;exact ⟨hb,rfl⟩
theorem RBoxP.yes{w w':World}{q:Bool}{y z:Bx}{n:Nat}(hq:q=true)(hb:Below w.heap.size w w')(h:RBoxAt w' n z)(hz:z=y)(hle:w.heap.size≤n):RBoxP w q y (.returned (.pointer (some ⟨n,0,none⟩))) w':=by subst hq hz;exact ⟨hb,n,rfl,h,hle⟩
theorem rbox_ok{f o p un fa go ud now:Int}(hr:BK.zero f o p=true∨BK.ruled f o p=true)(hn:timeB now=true)(w:World):Calls Tryz.prog 95 #[.agg #[.int .i64 f,.int .i64 o,.int .i64 p],.agg #[.int .i64 un,.int .i64 fa,.int .i64 go,.int .i64 ud],.int .i64 now] w (RBoxP w (possB f o p ⟨un,fa,go,ud⟩ now) (bringB f o p ⟨un,fa,go,ud⟩ now)):=by
 have hn2:=timeB_iff.1 hn
 have hrs:(0≤f∧f≤100∧0≤o∧o≤68719476736∧0≤p∧p≤100)∧(f=0∨1≤p):=by
  unfold BK.zero BK.ruled BK.maxSpan at hr
  simp only [decide_eq_true_eq] at hr
  omega
 have HR:=hid hr
 have HT:=hid hn
 obtain ⟨W0,hW0⟩:∃W0,W0=(w.alloc (.cells #[.int .i64 f,.int .i64 o,.int .i64 p] 51)).alloc (.cells #[.int .i64 un,.int .i64 fa,.int .i64 go,.int .i64 ud] 102):=⟨_,rfl⟩
 have hb0:Below w.heap.size w W0:=by rw [hW0];exact two_boxes w _ _
 have D0:Hid (Blk W0 w.heap.size 51 #[.int .i64 f,.int .i64 o,.int .i64 p]):=hid (by rw [hW0];exact (Blk.new _ _ _).alloc _)
 have E0:Hid (Blk W0 (w.heap.size+1) 102 #[.int .i64 un,.int .i64 fa,.int .i64 go,.int .i64 ud]):=hid (by rw [hW0];exact blk_newAt (by simp))
 have NW:=hid (fun W=>BK.rnew_ok f o p W HR.out)
 have HB0:=hid hb0
 clear hr hn hb0
 go_enter Tryz.func95,Tryz.ntmps95
 go_upto_region 1 with fail
 rw [←hW0]
 clear hW0
 obtain ⟨b1,hb1⟩:∃b1,b1=w.heap.size:=⟨_,rfl⟩
 obtain ⟨b2,hb2⟩:∃b2,b2=w.heap.size+1:=⟨_,rfl⟩
 rw [←hb2] at E0 ⊢
 rw [←hb1] at D0 ⊢
 clear hb1 hb2
 have d0:W0.cell? ⟨b1,0,none⟩=some (.int .i64 f):=D0.out.cell 0
 have d1:W0.cell? ⟨b1,1,none⟩=some (.int .i64 o):=D0.out.cell 1
 have d2:W0.cell? ⟨b1,2,none⟩=some (.int .i64 p):=D0.out.cell 2
 go_wp2_with fail
 refine (NW.out W0).mono ?_
 rintro e_ W1 ⟨n,rfl,hn,hb,hle⟩
 have HNE:Hid (some b1≠some n∧some b2≠some n∧w.heap.size≤n):=hid ⟨fun e=>by injection e with e;have:=D0.out.lt;omega,fun e=>by injection e with e;have:=E0.out.lt;omega,Nat.le_trans HB0.out.size hle⟩
 rw [←bring_fresh (now:=now)] at hn
 have KW:Hid (RBoxAt W1 n (bringB f o p ⟨0,0,0,0⟩ now)∧Blk W1 b1 51 #[.int .i64 f,.int .i64 o,.int .i64 p]∧Blk W1 b2 102 #[.int .i64 un,.int .i64 fa,.int .i64 go,.int .i64 ud]∧Below w.heap.size w W1):=hid ⟨hn,D0.out.below hb D0.out.lt,E0.out.below hb E0.out.lt,HB0.out.trans (hb.mono HB0.out.size)⟩
 clear hn hb hle d0 d1 d2 D0 E0 HB0 NW
 have c0:W1.cell? ⟨b2,0,none⟩=some (.int .i64 un):=KW.out.2.2.1.cell 0
 have c1:W1.cell? ⟨b2,1,none⟩=some (.int .i64 fa):=KW.out.2.2.1.cell 1
 have c2:W1.cell? ⟨b2,2,none⟩=some (.int .i64 go):=KW.out.2.2.1.cell 2
 have c3:W1.cell? ⟨b2,3,none⟩=some (.int .i64 ud):=KW.out.2.2.1.cell 3
 have d0:W1.cell? ⟨b1,0,none⟩=some (.int .i64 f):=KW.out.2.1.cell 0
 have d1:W1.cell? ⟨b1,1,none⟩=some (.int .i64 o):=KW.out.2.1.cell 1
 have d2:W1.cell? ⟨b1,2,none⟩=some (.int .i64 p):=KW.out.2.1.cell 2
 by_cases h4:un=0
 ·have q4:(un==0)=true:=by rw [beq_iff_eq];omega
  have q4':(un != 0)=false:=by rw [bne,q4];rfl
  by_cases g0:go=0
  ·have r0:(go==0)=true:=by rw [beq_iff_eq];omega
   have r0':(go != 0)=false:=by rw [bne,r0];rfl
   by_cases u0:ud=0
   ·have s0:(ud==0)=true:=by rw [beq_iff_eq];omega
    have s0':(ud != 0)=false:=by rw [bne,s0];rfl
    by_cases h1:fa<0
    ·have q1:decide (fa<0)=true:=decide_eq_true (by omega)
     have hp:possB f o p ⟨un,fa,go,ud⟩ now=false:=by
      unfold possB
      simp only
      (repeat' split)<;>first|rfl|(exfalso;omega)|(simp only [decide_eq_false_iff_not];omega)
     have HP:=hid hp
     clear hp
     go_wp2_with fail
     go_ret
     exact RBoxP.no HP.out KW.out.2.2.2
    ·have q1:decide (fa<0)=false:=decide_eq_false (by omega)
     by_cases h5:0<fa
     ·have q5:decide (0<fa)=true:=decide_eq_true (by omega)
      by_cases h6:f≤fa
      ·have q6:decide (f≤fa)=true:=decide_eq_true (by omega)
       have hp:possB f o p ⟨un,fa,go,ud⟩ now=false:=by
        unfold possB
        simp only
        (repeat' split)<;>first|rfl|(exfalso;omega)|(simp only [decide_eq_false_iff_not];omega)
       have HP:=hid hp
       clear hp
       go_wp2_with fail
       go_ret
       exact RBoxP.no HP.out KW.out.2.2.2
      ·have q6:decide (f≤fa)=false:=decide_eq_false (by omega)
       have hp:possB f o p ⟨un,fa,go,ud⟩ now=true:=by
        unfold possB
        simp only
        (repeat' split)<;>first|rfl|(exfalso;omega)|(simp only [decide_eq_true_eq];omega)
       have HP:=hid hp
       obtain ⟨m,rfl⟩:∃m:Nat,fa=m:=⟨fa.toNat,by omega⟩
       have hgu:=poss_shut hp h4
       simp only at hgu
       clear hp
       go_upto_region 5 with fail
       clear c0 c1 c2 c3 d0 d1 d2
       have K0:=KW
       clear KW
       have c1:W1.cell? ⟨b2,1,none⟩=some (.int .i64 m):=K0.out.2.2.1.cell 1
       go_wp2_with fail
       go_loopw [9] (fun s9 wr=>∃k:Nat,k≤m∧s9=.int .i64 k∧RBoxAt wr n (bringB f o p ⟨0,k,0,0⟩ now)∧Blk wr b1 51 #[.int .i64 f,.int .i64 o,.int .i64 p]∧Blk wr b2 102 #[.int .i64 un,.int .i64 m,.int .i64 go,.int .i64 ud]∧Below w.heap.size w wr) (fun s9 _=>m - intA s9)
       case atStart=>exact ⟨0,Nat.zero_le _,rfl,K0.out⟩
       case round =>
        obtain ⟨k,hk,rfl,hI⟩:=hrel
        have KW:=hid hI
        clear hI K0 c1
        have c1:wr.cell? ⟨b2,1,none⟩=some (.int .i64 m):=KW.out.2.2.1.cell 1
        rcases Nat.lt_or_ge k m with hlt|hge
        ·have HF:=hid (bring_fail (f:=f) (o:=o) (p:=p) HT.out (k:=k) (by omega) (by omega))
         have HI:=hid (bring_inv HR.out HT.out (poss_mk (f:=f) (o:=o) (p:=p) (now:=now) (s:=⟨0,k,0,0⟩) (.inl ⟨rfl,(show (0:Int)≤k by omega),rfl,rfl,(show (k:Int)=0∨(k:Int)<f by omega)⟩)))
         go_wp2_with fail
         refine (BK.rreport_ok KW.out.1 HI.out false now).mono ?_
         rintro e_ X1 ⟨rfl,hb_,hg_⟩
         rw [HF.out] at hb_
         have KX1:Hid (RBoxAt X1 n (bringB f o p ⟨0,k+1,0,0⟩ now)∧Blk X1 b1 51 #[.int .i64 f,.int .i64 o,.int .i64 p]∧Blk X1 b2 102 #[.int .i64 un,.int .i64 m,.int .i64 go,.int .i64 ud]∧Below w.heap.size w X1):=hid ⟨hb_,(hg_.block _ KW.out.2.1.lt HNE.out.1).trans KW.out.2.1,(hg_.block _ KW.out.2.2.1.lt HNE.out.2.1).trans KW.out.2.2.1,KW.out.2.2.2.grown hg_ KW.out.2.2.2.size fun q hq=>by injection hq with hq;have:=HNE.out.2.2;omega⟩
         clear hb_ hg_ KW
         go_wp2_with fail
         refine ⟨⟨k+1,by omega,by go_num,?_⟩,?_⟩
         ·have:=KX1.out
          rwa [show ((k:Int)+1)=((k+1:Nat):Int) by omega] at this
         ·simp [intA];omega
        ·obtain rfl:m=k:=by omega
         go_wp2_with fail
         go_ret
         exact RBoxP.yes HP.out KW.out.2.2.2 KW.out.1 (by rw [h4,g0,u0]) HNE.out.2.2
     ·have q5:decide (0<fa)=false:=decide_eq_false (by omega)
      have hp:possB f o p ⟨un,fa,go,ud⟩ now=true:=by
       unfold possB
       simp only
       (repeat' split)<;>first|rfl|(exfalso;omega)|(simp only [decide_eq_true_eq];omega)
      have HP:=hid hp
      obtain ⟨m,rfl⟩:∃m:Nat,fa=m:=⟨fa.toNat,by omega⟩
      have hgu:=poss_shut hp h4
      simp only at hgu
      clear hp
      go_upto_region 5 with fail
      clear c0 c1 c2 c3 d0 d1 d2
      have K0:=KW
      clear KW
      have c1:W1.cell? ⟨b2,1,none⟩=some (.int .i64 m):=K0.out.2.2.1.cell 1
      go_wp2_with fail
      go_loopw [9] (fun s9 wr=>∃k:Nat,k≤m∧s9=.int .i64 k∧RBoxAt wr n (bringB f o p ⟨0,k,0,0⟩ now)∧Blk wr b1 51 #[.int .i64 f,.int .i64 o,.int .i64 p]∧Blk wr b2 102 #[.int .i64 un,.int .i64 m,.int .i64 go,.int .i64 ud]∧Below w.heap.size w wr) (fun s9 _=>m - intA s9)
      case atStart=>exact ⟨0,Nat.zero_le _,rfl,K0.out⟩
      case round =>
       obtain ⟨k,hk,rfl,hI⟩:=hrel
       have KW:=hid hI
       clear hI K0 c1
       have c1:wr.cell? ⟨b2,1,none⟩=some (.int .i64 m):=KW.out.2.2.1.cell 1
       rcases Nat.lt_or_ge k m with hlt|hge
       ·exfalso;omega
       ·obtain rfl:m=k:=by omega
        go_wp2_with fail
        go_ret
        exact RBoxP.yes HP.out KW.out.2.2.2 KW.out.1 (by rw [h4,g0,u0]) HNE.out.2.2
   ·have s0:(ud==0)=false:=by rw [beq_eq_false_iff_ne];omega
    have s0':(ud != 0)=true:=by rw [bne,s0];rfl
    have hp:possB f o p ⟨un,fa,go,ud⟩ now=false:=by
     unfold possB
     simp only
     (repeat' split)<;>first|rfl|(exfalso;omega)|(simp only [decide_eq_false_iff_not];omega)
    have HP:=hid hp
    clear hp
    go_wp2_with fail
    go_ret
    exact RBoxP.no HP.out KW.out.2.2.2
  ·have r0:(go==0)=false:=by rw [beq_eq_false_iff_ne];omega
   have r0':(go != 0)=true:=by rw [bne,r0];rfl
   have hp:possB f o p ⟨un,fa,go,ud⟩ now=false:=by
    unfold possB
    simp only
    (repeat' split)<;>first|rfl|(exfalso;omega)|(simp only [decide_eq_false_iff_not];omega)
   have HP:=hid hp
   clear hp
   go_wp2_with fail
   go_ret
   exact RBoxP.no HP.out KW.out.2.2.2
 ·have q4:(un==0)=false:=by rw [beq_eq_false_iff_ne];omega
  have q4':(un != 0)=true:=by rw [bne,q4];rfl
  by_cases hf:f=0
  ·have qf:(f==0)=true:=by rw [beq_iff_eq];omega
   have qf':(f != 0)=false:=by rw [bne,qf];rfl
   have hp:possB f o p ⟨un,fa,go,ud⟩ now=false:=by
    unfold possB
    simp only
    (repeat' split)<;>first|rfl|(exfalso;omega)|(simp only [decide_eq_false_iff_not];omega)
   have HP:=hid hp
   clear hp
   go_wp2_with fail
   go_ret
   exact RBoxP.no HP.out KW.out.2.2.2
  ·have qf:(f==0)=false:=by rw [beq_eq_false_iff_ne];omega
   have qf':(f != 0)=true:=by rw [bne,qf];rfl
   by_cases ho:un<o
   ·have qo:decide (un<o)=true:=decide_eq_true (by omega)
    have hp:possB f o p ⟨un,fa,go,ud⟩ now=false:=by
     unfold possB
     simp only
     (repeat' split)<;>first|rfl|(exfalso;omega)|(simp only [decide_eq_false_iff_not];omega)
    have HP:=hid hp
    clear hp
    go_wp2_with fail
    go_ret
    exact RBoxP.no HP.out KW.out.2.2.2
   ·have qo:decide (un<o)=false:=decide_eq_false (by omega)
    have hw0:IntKind.i64.wrap (now+o)=now+o:=IntWalk.i64_in _ (by omega)
    by_cases hx:now+o<un
    ·have qx:decide ((now+o)<un)=true:=decide_eq_true (by omega)
     have hp:possB f o p ⟨un,fa,go,ud⟩ now=false:=by
      unfold possB
      simp only
      (repeat' split)<;>first|rfl|(exfalso;omega)|(simp only [decide_eq_false_iff_not];omega)
     have HP:=hid hp
     clear hp
     go_wp2_with fail
     go_ret
     exact RBoxP.no HP.out KW.out.2.2.2
    ·have qx:decide ((now+o)<un)=false:=decide_eq_false (by omega)
     by_cases ha:fa=0
     ·have qa:(fa==0)=true:=by rw [beq_iff_eq];omega
      have qa':(fa != 0)=false:=by rw [bne,qa];rfl
      by_cases h2:go<0
      ·have q2:decide (go<0)=true:=decide_eq_true (by omega)
       have hp:possB f o p ⟨un,fa,go,ud⟩ now=false:=by
        unfold possB
        simp only
        (repeat' split)<;>first|rfl|(exfalso;omega)|(simp only [decide_eq_false_iff_not];omega)
       have HP:=hid hp
       clear hp
       go_wp2_with fail
       go_ret
       exact RBoxP.no HP.out KW.out.2.2.2
      ·have q2:decide (go<0)=false:=decide_eq_false (by omega)
       by_cases h3:ud<0
       ·have q3:decide (ud<0)=true:=decide_eq_true (by omega)
        have hp:possB f o p ⟨un,fa,go,ud⟩ now=false:=by
         unfold possB
         simp only
         (repeat' split)<;>first|rfl|(exfalso;omega)|(simp only [decide_eq_false_iff_not];omega)
        have HP:=hid hp
        clear hp
        go_wp2_with fail
        go_ret
        exact RBoxP.no HP.out KW.out.2.2.2
       ·have q3:decide (ud<0)=false:=decide_eq_false (by omega)
        by_cases h9:now<un
        ·have q9:decide (now<un)=true:=decide_eq_true (by omega)
         by_cases g0:go=0
         ·have r0:(go==0)=true:=by rw [beq_iff_eq];omega
          have r0':(go != 0)=false:=by rw [bne,r0];rfl
          by_cases u0:ud=0
          ·have s0:(ud==0)=true:=by rw [beq_iff_eq];omega
           have s0':(ud != 0)=false:=by rw [bne,s0];rfl
           have g5:decide (p≤go)=false:=decide_eq_false (by omega)
           have g6:decide (p - go<ud)=false:=decide_eq_false (by omega)
           have hw1:IntKind.i64.wrap (p - go)=p - go:=IntWalk.i64_in _ (by omega)
           have hp:possB f o p ⟨un,fa,go,ud⟩ now=true:=by
            unfold possB
            simp only
            (repeat' split)<;>first|rfl|(exfalso;omega)|(simp only [decide_eq_true_eq];omega)
           have HP:=hid hp
           clear hp
           have hto:timeB (un - o)=true:=timeB_iff.2 (by omega)
           have HF:=hid (bring_trip (f:=f) (o:=o) (p:=p) (now:=now) hf h4 hto)
           have HI:=hid (bring_inv HR.out HT.out (poss_mk (f:=f) (o:=o) (p:=p) (now:=now) (s:=⟨0,0,0,0⟩) (.inl ⟨rfl,Int.le_refl _,rfl,rfl,.inl rfl⟩)))
           have hw:IntKind.i64.wrap (un - o)=un - o:=IntWalk.i64_in _ (by omega)
           clear hto
           go_wp2_with fail
           refine (BK.rtrip_ok KW.out.1 HI.out (un - o)).mono ?_
           rintro e_ X2 ⟨rfl,hb_,hg_⟩
           rw [HF.out] at hb_
           have KX2:Hid (RBoxAt X2 n (bringB f o p ⟨un,0,0,0⟩ now)∧Blk X2 b1 51 #[.int .i64 f,.int .i64 o,.int .i64 p]∧Blk X2 b2 102 #[.int .i64 un,.int .i64 fa,.int .i64 go,.int .i64 ud]∧Below w.heap.size w X2):=hid ⟨hb_,(hg_.block _ KW.out.2.1.lt HNE.out.1).trans KW.out.2.1,(hg_.block _ KW.out.2.2.1.lt HNE.out.2.1).trans KW.out.2.2.1,KW.out.2.2.2.grown hg_ KW.out.2.2.2.size fun q hq=>by injection hq with hq;have:=HNE.out.2.2;omega⟩
           clear hb_ hg_ KW
           clear hw c0 c1 c2 c3 d0 d1 d2
           have c2:X2.cell? ⟨b2,2,none⟩=some (.int .i64 go):=KX2.out.2.2.1.cell 2
           have c3:X2.cell? ⟨b2,3,none⟩=some (.int .i64 ud):=KX2.out.2.2.1.cell 3
           obtain ⟨g,rfl⟩:∃g:Nat,go=g:=⟨go.toNat,by omega⟩
           obtain ⟨t,ht⟩:∃t:Nat,(g:Int)+ud=t:=⟨((g:Int)+ud).toNat,by omega⟩
           obtain rfl:ud=t - g:=by omega
           have hw2:IntKind.i64.wrap ((g:Int)+((t:Int) - g))=t:=by rw [IntWalk.i64_in _ (by omega)];omega
           clear ht
           go_wp2_with fail
           go_loopw [10] (fun s10 wr=>∃k:Nat,k≤t∧s10=.int .i64 k∧RBoxAt wr n (bringB f o p ⟨un,0,0,k⟩ now)∧Blk wr b1 51 #[.int .i64 f,.int .i64 o,.int .i64 p]∧Blk wr b2 102 #[.int .i64 un,.int .i64 fa,.int .i64 g,.int .i64 ((t:Int) - g)]∧Below w.heap.size w wr) (fun s10 _=>t - intA s10)
           case atStart=>exact ⟨0,Nat.zero_le _,rfl,KX2.out⟩
           case round =>
            obtain ⟨k,hk,rfl,hI⟩:=hrel
            have KW:=hid hI
            clear hI KX2 c2 c3
            have c0:wr.cell? ⟨b2,0,none⟩=some (.int .i64 un):=KW.out.2.2.1.cell 0
            have c2:wr.cell? ⟨b2,2,none⟩=some (.int .i64 g):=KW.out.2.2.1.cell 2
            have c3:wr.cell? ⟨b2,3,none⟩=some (.int .i64 ((t:Int) - g)):=KW.out.2.2.1.cell 3
            rcases Nat.lt_or_ge k t with hlt|hge
            ·exfalso;omega
            ·obtain rfl:t=k:=by omega
             go_wp2_with fail
             go_loopw [11] (fun s11 wr=>∃k:Nat,k≤g∧s11=.int .i64 k∧RBoxAt wr n (bringB f o p ⟨un,0,k,t - k⟩ now)∧Blk wr b1 51 #[.int .i64 f,.int .i64 o,.int .i64 p]∧Blk wr b2 102 #[.int .i64 un,.int .i64 fa,.int .i64 g,.int .i64 ((t:Int) - g)]∧Below w.heap.size w wr) (fun s11 _=>g - intA s11)
             case atStart=>exact ⟨0,Nat.zero_le _,rfl,by have:=KW.out;rwa [show (t:Int)=(t:Int) - ((0:Nat):Int) by omega] at this⟩
             case round =>
              obtain ⟨k,hk,rfl,hI⟩:=hrel
              have KY:=hid hI
              clear hI KW c0 c2 c3
              have KW:=KY
              clear KY
              have c0:wr.cell? ⟨b2,0,none⟩=some (.int .i64 un):=KW.out.2.2.1.cell 0
              have c2:wr.cell? ⟨b2,2,none⟩=some (.int .i64 g):=KW.out.2.2.1.cell 2
              rcases Nat.lt_or_ge k g with hlt|hge
              ·exfalso;omega
              ·obtain rfl:g=k:=by omega
               go_wp2_with fail
               go_ret
               exact RBoxP.yes HP.out KW.out.2.2.2 KW.out.1 (by rw [ha]) HNE.out.2.2
          ·have s0:(ud==0)=false:=by rw [beq_eq_false_iff_ne];omega
           have s0':(ud != 0)=true:=by rw [bne,s0];rfl
           have hp:possB f o p ⟨un,fa,go,ud⟩ now=false:=by
            unfold possB
            simp only
            (repeat' split)<;>first|rfl|(exfalso;omega)|(simp only [decide_eq_false_iff_not];omega)
           have HP:=hid hp
           clear hp
           go_wp2_with fail
           go_ret
           exact RBoxP.no HP.out KW.out.2.2.2
         ·have r0:(go==0)=false:=by rw [beq_eq_false_iff_ne];omega
          have r0':(go != 0)=true:=by rw [bne,r0];rfl
          have hp:possB f o p ⟨un,fa,go,ud⟩ now=false:=by
           unfold possB
           simp only
           (repeat' split)<;>first|rfl|(exfalso;omega)|(simp only [decide_eq_false_iff_not];omega)
          have HP:=hid hp
          clear hp
          go_wp2_with fail
          go_ret
          exact RBoxP.no HP.out KW.out.2.2.2
        ·have q9:decide (now<un)=false:=decide_eq_false (by omega)
         by_cases g1:p≤go
         ·have r1:decide (p≤go)=true:=decide_eq_true (by omega)
          have hp:possB f o p ⟨un,fa,go,ud⟩ now=false:=by
           unfold possB
           simp only
           (repeat' split)<;>first|rfl|(exfalso;omega)|(simp only [decide_eq_false_iff_not];omega)
          have HP:=hid hp
          clear hp
          go_wp2_with fail
          go_ret
          exact RBoxP.no HP.out KW.out.2.2.2
         ·have r1:decide (p≤go)=false:=decide_eq_false (by omega)
          have hw1:IntKind.i64.wrap (p - go)=p - go:=IntWalk.i64_in _ (by omega)
          by_cases u1:p - go<ud
          ·have s1:decide ((p - go)<ud)=true:=decide_eq_true (by omega)
           have hp:possB f o p ⟨un,fa,go,ud⟩ now=false:=by
            unfold possB
            simp only
            (repeat' split)<;>first|rfl|(exfalso;omega)|(simp only [decide_eq_false_iff_not];omega)
           have HP:=hid hp
           clear hp
           go_wp2_with fail
           go_ret
           exact RBoxP.no HP.out KW.out.2.2.2
          ·have s1:decide ((p - go)<ud)=false:=decide_eq_false (by omega)
           have hp:possB f o p ⟨un,fa,go,ud⟩ now=true:=by
            unfold possB
            simp only
            (repeat' split)<;>first|rfl|(exfalso;omega)|(simp only [decide_eq_true_eq];omega)
           have HP:=hid hp
           clear hp
           have hto:timeB (un - o)=true:=timeB_iff.2 (by omega)
           have HF:=hid (bring_trip (f:=f) (o:=o) (p:=p) (now:=now) hf h4 hto)
           have HI:=hid (bring_inv HR.out HT.out (poss_mk (f:=f) (o:=o) (p:=p) (now:=now) (s:=⟨0,0,0,0⟩) (.inl ⟨rfl,Int.le_refl _,rfl,rfl,.inl rfl⟩)))
           have hw:IntKind.i64.wrap (un - o)=un - o:=IntWalk.i64_in _ (by omega)
           clear hto
           go_wp2_with fail
           refine (BK.rtrip_ok KW.out.1 HI.out (un - o)).mono ?_
           rintro e_ X2 ⟨rfl,hb_,hg_⟩
           rw [HF.out] at hb_
           have KX2:Hid (RBoxAt X2 n (bringB f o p ⟨un,0,0,0⟩ now)∧Blk X2 b1 51 #[.int .i64 f,.int .i64 o,.int .i64 p]∧Blk X2 b2 102 #[.int .i64 un,.int .i64 fa,.int .i64 go,.int .i64 ud]∧Below w.heap.size w X2):=hid ⟨hb_,(hg_.block _ KW.out.2.1.lt HNE.out.1).trans KW.out.2.1,(hg_.block _ KW.out.2.2.1.lt HNE.out.2.1).trans KW.out.2.2.1,KW.out.2.2.2.grown hg_ KW.out.2.2.2.size fun q hq=>by injection hq with hq;have:=HNE.out.2.2;omega⟩
           clear hb_ hg_ KW
           clear hw c0 c1 c2 c3 d0 d1 d2
           have c2:X2.cell? ⟨b2,2,none⟩=some (.int .i64 go):=KX2.out.2.2.1.cell 2
           have c3:X2.cell? ⟨b2,3,none⟩=some (.int .i64 ud):=KX2.out.2.2.1.cell 3
           obtain ⟨g,rfl⟩:∃g:Nat,go=g:=⟨go.toNat,by omega⟩
           obtain ⟨t,ht⟩:∃t:Nat,(g:Int)+ud=t:=⟨((g:Int)+ud).toNat,by omega⟩
           obtain rfl:ud=t - g:=by omega
           have hw2:IntKind.i64.wrap ((g:Int)+((t:Int) - g))=t:=by rw [IntWalk.i64_in _ (by omega)];omega
           clear ht
           go_wp2_with fail
           go_loopw [10] (fun s10 wr=>∃k:Nat,k≤t∧s10=.int .i64 k∧RBoxAt wr n (bringB f o p ⟨un,0,0,k⟩ now)∧Blk wr b1 51 #[.int .i64 f,.int .i64 o,.int .i64 p]∧Blk wr b2 102 #[.int .i64 un,.int .i64 fa,.int .i64 g,.int .i64 ((t:Int) - g)]∧Below w.heap.size w wr) (fun s10 _=>t - intA s10)
           case atStart=>exact ⟨0,Nat.zero_le _,rfl,KX2.out⟩
           case round =>
            obtain ⟨k,hk,rfl,hI⟩:=hrel
            have KW:=hid hI
            clear hI KX2 c2 c3
            have c0:wr.cell? ⟨b2,0,none⟩=some (.int .i64 un):=KW.out.2.2.1.cell 0
            have c2:wr.cell? ⟨b2,2,none⟩=some (.int .i64 g):=KW.out.2.2.1.cell 2
            have c3:wr.cell? ⟨b2,3,none⟩=some (.int .i64 ((t:Int) - g)):=KW.out.2.2.1.cell 3
            rcases Nat.lt_or_ge k t with hlt|hge
            ·have htu:timeB un=true:=timeB_iff.2 (by omega)
             have HF:=hid (bring_take (f:=f) (o:=o) (p:=p) (now:=now) h4 (by omega) htu (j:=k) (by omega) (by omega))
             have HI:=hid (bring_inv HR.out HT.out (poss_mk (f:=f) (o:=o) (p:=p) (now:=now) (s:=⟨un,0,0,k⟩) (.inr ⟨h4,hf,rfl,Int.le_refl _,(show (0:Int)≤k by omega),(show o≤un by omega),(show un≤now+o by omega),.inr (show un≤now∧(0:Int)<p∧(0:Int)+k≤p by omega)⟩)))
             clear htu
             go_wp2_with fail
             refine (BK.rtake_ok KW.out.1 HI.out un).mono ?_
             rintro e_ X3 ⟨rfl,hb_,hg_⟩
             rw [HF.out] at hb_
             have KX3:Hid (RBoxAt X3 n (bringB f o p ⟨un,0,0,k+1⟩ now)∧Blk X3 b1 51 #[.int .i64 f,.int .i64 o,.int .i64 p]∧Blk X3 b2 102 #[.int .i64 un,.int .i64 fa,.int .i64 g,.int .i64 ((t:Int) - g)]∧Below w.heap.size w X3):=hid ⟨hb_,(hg_.block _ KW.out.2.1.lt HNE.out.1).trans KW.out.2.1,(hg_.block _ KW.out.2.2.1.lt HNE.out.2.1).trans KW.out.2.2.1,KW.out.2.2.2.grown hg_ KW.out.2.2.2.size fun q hq=>by injection hq with hq;have:=HNE.out.2.2;omega⟩
             clear hb_ hg_ KW
             go_wp2_with fail
             refine ⟨⟨k+1,by omega,by go_num,?_⟩,?_⟩
             ·have:=KX3.out
              rwa [show ((k:Int)+1)=((k+1:Nat):Int) by omega] at this
             ·simp [intA];omega
            ·obtain rfl:t=k:=by omega
             go_wp2_with fail
             go_loopw [11] (fun s11 wr=>∃k:Nat,k≤g∧s11=.int .i64 k∧RBoxAt wr n (bringB f o p ⟨un,0,k,t - k⟩ now)∧Blk wr b1 51 #[.int .i64 f,.int .i64 o,.int .i64 p]∧Blk wr b2 102 #[.int .i64 un,.int .i64 fa,.int .i64 g,.int .i64 ((t:Int) - g)]∧Below w.heap.size w wr) (fun s11 _=>g - intA s11)
             case atStart=>exact ⟨0,Nat.zero_le _,rfl,by have:=KW.out;rwa [show (t:Int)=(t:Int) - ((0:Nat):Int) by omega] at this⟩
             case round =>
              obtain ⟨k,hk,rfl,hI⟩:=hrel
              have KY:=hid hI
              clear hI KW c0 c2 c3
              have KW:=KY
              clear KY
              have c0:wr.cell? ⟨b2,0,none⟩=some (.int .i64 un):=KW.out.2.2.1.cell 0
              have c2:wr.cell? ⟨b2,2,none⟩=some (.int .i64 g):=KW.out.2.2.1.cell 2
              rcases Nat.lt_or_ge k g with hlt|hge
              ·have htu:timeB un=true:=timeB_iff.2 (by omega)
               have HF:=hid (bring_good (f:=f) (o:=o) (p:=p) (now:=now) hf h4 htu (q:=k) (t:=t) (by omega) (by omega) (by omega))
               have HI:=hid (bring_inv HR.out HT.out (poss_mk (f:=f) (o:=o) (p:=p) (now:=now) (s:=⟨un,0,k,t - k⟩) (.inr ⟨h4,hf,rfl,(show (0:Int)≤k by omega),(show (0:Int)≤(t:Int) - k by omega),(show o≤un by omega),(show un≤now+o by omega),.inr (show un≤now∧(k:Int)<p∧(k:Int)+((t:Int) - k)≤p by omega)⟩)))
               clear htu
               go_wp2_with fail
               refine (BK.rreport_ok KW.out.1 HI.out true un).mono ?_
               rintro e_ X4 ⟨rfl,hb_,hg_⟩
               rw [HF.out] at hb_
               have KX4:Hid (RBoxAt X4 n (bringB f o p ⟨un,0,k+1,t - (k+1)⟩ now)∧Blk X4 b1 51 #[.int .i64 f,.int .i64 o,.int .i64 p]∧Blk X4 b2 102 #[.int .i64 un,.int .i64 fa,.int .i64 g,.int .i64 ((t:Int) - g)]∧Below w.heap.size w X4):=hid ⟨hb_,(hg_.block _ KW.out.2.1.lt HNE.out.1).trans KW.out.2.1,(hg_.block _ KW.out.2.2.1.lt HNE.out.2.1).trans KW.out.2.2.1,KW.out.2.2.2.grown hg_ KW.out.2.2.2.size fun q hq=>by injection hq with hq;have:=HNE.out.2.2;omega⟩
               clear hb_ hg_ KW
               go_wp2_with fail
               refine ⟨⟨k+1,by omega,by go_num,?_⟩,?_⟩
               ·have:=KX4.out
                rwa [show ((k:Int)+1)=((k+1:Nat):Int) by omega] at this
               ·simp [intA];omega
              ·obtain rfl:g=k:=by omega
               go_wp2_with fail
               go_ret
               exact RBoxP.yes HP.out KW.out.2.2.2 KW.out.1 (by rw [ha]) HNE.out.2.2
     ·have qa:(fa==0)=false:=by rw [beq_eq_false_iff_ne];omega
      have qa':(fa != 0)=true:=by rw [bne,qa];rfl
      have hp:possB f o p ⟨un,fa,go,ud⟩ now=false:=by
       unfold possB
       simp only
       (repeat' split)<;>first|rfl|(exfalso;omega)|(simp only [decide_eq_false_iff_not];omega)
      have HP:=hid hp
      clear hp
      go_wp2_with fail
      go_ret
      exact RBoxP.no HP.out KW.out.2.2.2
def RResGt(w:World)(r:Option Gt × Int)(e:Ending)(w':World):Prop:=Below w.heap.size w w'∧match r.1 with
 | none=>e=.returned (.tuple #[.pointer none,.int .i64 r.2])
 | some z=>∃Y:RLy,e=.returned (.tuple #[.pointer (some ⟨Y.g,0,none⟩),.int .i64 0])∧RAt w' Y z∧∀i,Y.sup z.js.length i→w.heap.size≤i
theorem rres_cf{w w':World}{g:Gl}{L:JL}{rs ts:List Int}{bs:List BxQ}{now:Int}(h:cfE g L≠0)(hb:Below w.heap.size w w'):RResGt w (rsR g L rs ts bs now) (.returned (.tuple #[.pointer none,.int .i64 (cfE g L)])) w':=by
 unfold rsR
 rw [if_pos h]
 exact ⟨hb,rfl⟩
theorem rres_time{w w':World}{g:Gl}{L:JL}{rs ts:List Int}{bs:List BxQ}{now:Int}(h:cfE g L=0)(ht:timeB now=false)(hb:Below w.heap.size w w'):RResGt w (rsR g L rs ts bs now) (.returned (.tuple #[.pointer none,.int .i64 14])) w':=by
 unfold rsR
 rw [if_neg (by rw [h];simp),if_pos ht]
 exact ⟨hb,rfl⟩
theorem rres_no{w w':World}{g:Gl}{L:JL}{rs ts:List Int}{bs:List BxQ}{now:Int}(h:cfE g L=0)(ht:timeB now=true)(hr:rsG g L rs ts (bs.map bsT) now=none)(hb:Below w.heap.size w w'):RResGt w (rsR g L rs ts bs now) (.returned (.tuple #[.pointer none,.int .i64 2])) w':=by
 unfold rsR
 rw [if_neg (by rw [h];simp),if_neg (by rw [ht];simp),hr]
 exact ⟨hb,rfl⟩
theorem rres_yes{w w':World}{g:Gl}{L:JL}{rs ts:List Int}{bs:List BxQ}{now:Int}{z:Gt}{Y:RLy}(h:cfE g L=0)(ht:timeB now=true)(hr:rsG g L rs ts (bs.map bsT) now=some z)(hb:Below w.heap.size w w')(hg:RAt w' Y z)(hs:∀i,Y.sup z.js.length i→w.heap.size≤i):RResGt w (rsR g L rs ts bs now) (.returned (.tuple #[.pointer (some ⟨Y.g,0,none⟩),.int .i64 0])) w':=by
 unfold rsR
 rw [if_neg (by rw [h];simp),if_neg (by rw [ht];simp),hr]
 exact ⟨hb,Y,rfl,hg,hs⟩
def RLmV(W Z:World)(ol:Option Lm)(v:Value):Prop:=match ol with
 | none=>v=.pointer none
 | some l=>v=.pointer (some ⟨blkQ v,0,none⟩)∧RLmAt W (blkQ v) l∧Z.heap.size≤blkQ v
theorem rlr_ok{t tau tat now:Int}(hl:limB t tau=true){W Z:World}(hz:Z.heap.size≤W.heap.size):Calls Tryz.prog 94 #[.agg #[.int .i64 t,.int .i64 tau],.int .i64 tat,.int .i64 now] W fun e w'=>∃pv,e=.returned (.tuple #[pv,.int .i64 (lmR t tau tat now).2])∧Below W.heap.size W w'∧RLmV w' Z (lmR t tau tat now).1 pv :=
 (rlrestore_ok hl W).mono fun e w' ⟨hb,h⟩=>by
  cases hr:(lmR t tau tat now).1 with
  | none=>rw [hr] at h;exact ⟨_,h,hb,rfl⟩
  | some l =>
   rw [hr] at h
   obtain ⟨n,h1,h2,h3,-⟩:=h
   exact ⟨_,h1,hb,⟨rfl,h2,Nat.le_trans hz h3⟩⟩
def RBxV(W Z:World)(q:Bool)(y:Bx)(v:Value):Prop:=match q with
 | false=>v=.pointer none
 | true=>v=.pointer (some ⟨blkQ v,0,none⟩)∧RBoxAt W (blkQ v) y∧Z.heap.size≤blkQ v
theorem rbx_ok{f o p un fa go ud now:Int}(hr:BK.zero f o p=true∨BK.ruled f o p=true)(hn:timeB now=true){W Z:World}(hz:Z.heap.size≤W.heap.size):Calls Tryz.prog 95 #[.agg #[.int .i64 f,.int .i64 o,.int .i64 p],.agg #[.int .i64 un,.int .i64 fa,.int .i64 go,.int .i64 ud],.int .i64 now] W fun e w'=>∃pv,e=.returned pv∧Below W.heap.size W w'∧RBxV w' Z (possB f o p ⟨un,fa,go,ud⟩ now) (bringB f o p ⟨un,fa,go,ud⟩ now) pv :=
 (rbox_ok hr hn W).mono fun e w' ⟨hb,h⟩=>by
  cases hq:possB f o p ⟨un,fa,go,ud⟩ now with
  | false=>rw [hq] at h;exact ⟨_,h,hb,rfl⟩
  | true =>
   rw [hq] at h
   obtain ⟨n,h1,h2,h3⟩:=h
   exact ⟨_,h1,hb,⟨rfl,h2,Nat.le_trans hz h3⟩⟩
structure RH(Z:World)(c:Nat)(er:Int)(Pl:Nat→Value→Prop)(Pc:Value→World→Prop)(listed:Array Bool)(v:Nat→Value)(W:World):Prop where
 pl:∀i,listed[i]? = some true→Pl i (v i)
 cl:listed[c]? = some true→Pc (v c) W
 mv:listed[c+1]? = some true→v (c+1)=v c∧listed[c]? = some true
 e0:listed[c+2]? = some true→v (c+2)=tupA (v c)∧listed[c+1]? = some true
 e1:listed[c+3]? = some true→v (c+3)=.int .i64 er
 z:Below Z.heap.size Z W
section
variable{Z W W':World}{c:Nat}{er:Int}{Pl:Nat→Value→Prop}{Pc:Value→World→Prop}{listed:Array Bool}{v:Nat→Value}
theorem RH.step(h:RH Z c er Pl Pc listed v W){i:Nat}{u:Value}(hi:i<c∨c+3<i)(hp:Pl i u):RH Z c er Pl Pc (listed.setIfInBounds i true) (updC v i u) W:=by
 have t:∀{m},m≠i→(listed.setIfInBounds i true)[m]? = some true→listed[m]? = some true:=fun hj hz=>(set_at _ hz).resolve_left hj
 refine ⟨fun m hm=>?_,fun hz=>?_,fun hz=>?_,fun hz=>?_,fun hz=>?_,h.z⟩
 ·by_cases e:m=i
  ·subst e;rw [updC_eq];exact hp
  ·rw [updC_ne e];exact h.pl m (t e hm)
 ·rw [updC_ne (by omega)];exact h.cl (t (by omega) hz)
 ·rw [updC_ne (by omega),updC_ne (by omega)];exact ⟨(h.mv (t (by omega) hz)).1,set_keep (h.mv (t (by omega) hz)).2⟩
 ·rw [updC_ne (by omega),updC_ne (by omega)];exact ⟨(h.e0 (t (by omega) hz)).1,set_keep (h.e0 (t (by omega) hz)).2⟩
 ·rw [updC_ne (by omega)];exact h.e1 (t (by omega) hz)
theorem RH.call(h:RH Z c er Pl Pc listed v W)(hl:listed[c]? = some false){u:Value}(hp:Pl c u)(hc:Pc u W')(hb:Below W.heap.size W W'):RH Z c er Pl Pc (listed.setIfInBounds c true) (updC v c u) W':=by
 have t:∀{m},m≠c→(listed.setIfInBounds c true)[m]? = some true→listed[m]? = some true:=fun hj hz=>(set_at _ hz).resolve_left hj
 have no:∀{P:Prop},listed[c]? = some true→P:=fun hz=>by rw [hl] at hz;cases hz
 refine ⟨fun m hm=>?_,fun _=>by rw [updC_eq];exact hc,fun hz=>?_,fun hz=>?_,fun hz=>?_,h.z.trans (hb.mono h.z.size)⟩
 ·by_cases e:m=c
  ·rw [e,updC_eq];exact hp
  ·rw [updC_ne e];exact h.pl m (t e hm)
 ·exact no (h.mv (t (by omega) hz)).2
 ·exact no (h.mv (h.e0 (t (by omega) hz)).2).2
 ·rw [updC_ne (by omega)];exact h.e1 (t (by omega) hz)
end
structure RH2(Z:World)(c s g0 k0:Nat)(er:Int)(ol:Option Lm)(Pl:Nat→Value→Prop)(listed:Array Bool)(v:Nat→Value)(W:World):Prop where
 pl:∀i,listed[i]? = some true→Pl i (v i)
 cl:listed[c]? = some true→v c=.tuple #[tupA (v c),.int .i64 er]
 lm:listed[c]? = some true→listed[s]? = some false→RLmV W Z ol (tupA (v c))
 mv:listed[c+1]? = some true→v (c+1)=v c∧listed[c]? = some true
 e0:listed[c+2]? = some true→v (c+2)=tupA (v c)∧listed[c+1]? = some true
 e1:listed[c+3]? = some true→v (c+3)=.int .i64 er
 as_:listed[s+1]? = some true→v (s+1)=.int .i64 er
 z:listed[s]? = some false→Below Z.heap.size Z W
 zs:listed[s]? = some true→∃X,Below Z.heap.size Z X∧RLmV X Z ol (tupA (v c))∧W=X.setCell ⟨g0,k0,none⟩ (tupA (v c))
 o:listed[s]? = some true→∀i,i≤c+2→listed[i]? = some true
section
variable{Z W W':World}{c s g0 k0:Nat}{er:Int}{ol:Option Lm}{Pl:Nat→Value→Prop}{listed:Array Bool}{v:Nat→Value}
theorem RH2.noS(h:RH2 Z c s g0 k0 er ol Pl listed v W)(hs:s<listed.size){i:Nat}(hi:i≤c+2)(hli:listed[i]? = some false):listed[s]? = some false:=by
 have hg:listed[s]? = some listed[s]:=Array.getElem?_eq_getElem hs
 cases hz:listed[s] with
 | false=>rw [hg,hz]
 | true =>
  rw [hz] at hg
  have:=h.o hg i hi
  rw [hli] at this;cases this
theorem RH2.step(h:RH2 Z c s g0 k0 er ol Pl listed v W){i:Nat}{u:Value}(hcs:c+3<s)(hi:i<c∨(c+3<i∧i<s))(hp:Pl i u):RH2 Z c s g0 k0 er ol Pl (listed.setIfInBounds i true) (updC v i u) W:=by
 have t:∀{m},m≠i→(listed.setIfInBounds i true)[m]? = some true→listed[m]? = some true:=fun hj hz=>(set_at _ hz).resolve_left hj
 have f:∀{m},i≠m→(listed.setIfInBounds i true)[m]? = some false→listed[m]? = some false:=fun hj hz=>set_not hj hz
 refine ⟨fun m hm=>?_,fun hz=>?_,fun hz hy=>?_,fun hz=>?_,fun hz=>?_,fun hz=>?_,fun hz=>?_,fun hz=>?_,fun hz=>?_,fun hz m hm=>set_keep (h.o (t (by omega) hz) m hm)⟩
 ·by_cases e:m=i
  ·subst e;rw [updC_eq];exact hp
  ·rw [updC_ne e];exact h.pl m (t e hm)
 ·rw [updC_ne (by omega)];exact h.cl (t (by omega) hz)
 ·rw [updC_ne (by omega)];exact h.lm (t (by omega) hz) (f (by omega) hy)
 ·rw [updC_ne (by omega),updC_ne (by omega)];exact ⟨(h.mv (t (by omega) hz)).1,set_keep (h.mv (t (by omega) hz)).2⟩
 ·rw [updC_ne (by omega),updC_ne (by omega)];exact ⟨(h.e0 (t (by omega) hz)).1,set_keep (h.e0 (t (by omega) hz)).2⟩
 ·rw [updC_ne (by omega)];exact h.e1 (t (by omega) hz)
 ·rw [updC_ne (by omega)];exact h.as_ (t (by omega) hz)
 ·exact h.z (f (by omega) hz)
 ·rw [updC_ne (by omega)];exact h.zs (t (by omega) hz)
theorem RH2.call(h:RH2 Z c s g0 k0 er ol Pl listed v W)(hcs:c+3<s)(hl:listed[c]? = some false)(hs:listed[s]? = some false){pv:Value}(hp:Pl c (.tuple #[pv,.int .i64 er]))(hlm:RLmV W' Z ol pv)(hb:Below W.heap.size W W'):RH2 Z c s g0 k0 er ol Pl (listed.setIfInBounds c true) (updC v c (.tuple #[pv,.int .i64 er])) W':=by
 have t:∀{m},m≠c→(listed.setIfInBounds c true)[m]? = some true→listed[m]? = some true:=fun hj hz=>(set_at _ hz).resolve_left hj
 have no:∀{P:Prop},listed[c]? = some true→P:=fun hz=>by rw [hl] at hz;cases hz
 have nos:∀{P:Prop},(listed.setIfInBounds c true)[s]? = some true→P:=fun hz=>by rw [t (by omega) hz] at hs;cases hs
 refine ⟨fun m hm=>?_,fun _=>by rw [updC_eq];rfl,fun _ _=>by rw [updC_eq];exact hlm,fun hz=>?_,fun hz=>?_,fun hz=>?_,fun hz=>?_,fun hz=>(h.z hs).trans (hb.mono (h.z hs).size),fun hz=>nos hz,fun hz=>nos hz⟩
 ·by_cases e:m=c
  ·rw [e,updC_eq];exact hp
  ·rw [updC_ne e];exact h.pl m (t e hm)
 ·exact no (h.mv (t (by omega) hz)).2
 ·exact no (h.mv (h.e0 (t (by omega) hz)).2).2
 ·rw [updC_ne (by omega)];exact h.e1 (t (by omega) hz)
 ·rw [updC_ne (by omega)];exact h.as_ (t (by omega) hz)
theorem RH2.move(h:RH2 Z c s g0 k0 er ol Pl listed v W)(hcs:c+3<s)(hp:Pl (c+1) (v c))(h1:listed[c]? = some true):RH2 Z c s g0 k0 er ol Pl (listed.setIfInBounds (c+1) true) (updC v (c+1) (v c)) W:=by
 have t:∀{m},m≠(c+1)→(listed.setIfInBounds (c+1) true)[m]? = some true→listed[m]? = some true:=fun hj hz=>(set_at _ hz).resolve_left hj
 have f:∀{m},(c+1)≠m→(listed.setIfInBounds (c+1) true)[m]? = some false→listed[m]? = some false:=fun hj hz=>set_not hj hz
 refine ⟨fun m hm=>?_,fun hz=>?_,fun hz hy=>?_,fun hz=>?_,fun hz=>?_,fun hz=>?_,fun hz=>?_,fun hz=>?_,fun hz=>?_,fun hz m hm=>set_keep (h.o (t (by omega) hz) m hm)⟩
 ·by_cases e:m=(c+1)
  ·rw [e,updC_eq];exact hp
  ·rw [updC_ne e];exact h.pl m (t e hm)
 ·rw [updC_ne (by omega)];exact h.cl (t (by omega) hz)
 ·rw [updC_ne (by omega)];exact h.lm (t (by omega) hz) (f (by omega) hy)
 ·rw [updC_eq,updC_ne (by omega)];exact ⟨rfl,set_keep h1⟩
 ·rw [updC_ne (by omega),updC_ne (by omega)];exact ⟨(h.e0 (t (by omega) hz)).1,set_keep (h.e0 (t (by omega) hz)).2⟩
 ·rw [updC_ne (by omega)];exact h.e1 (t (by omega) hz)
 ·rw [updC_ne (by omega)];exact h.as_ (t (by omega) hz)
 ·exact h.z (f (by omega) hz)
 ·rw [updC_ne (by omega)];exact h.zs (t (by omega) hz)
theorem RH2.first(h:RH2 Z c s g0 k0 er ol Pl listed v W)(hcs:c+3<s)(hp:Pl (c+2) (tupA (v c)))(h1:listed[c+1]? = some true):RH2 Z c s g0 k0 er ol Pl (listed.setIfInBounds (c+2) true) (updC v (c+2) (tupA (v c))) W:=by
 have t:∀{m},m≠(c+2)→(listed.setIfInBounds (c+2) true)[m]? = some true→listed[m]? = some true:=fun hj hz=>(set_at _ hz).resolve_left hj
 have f:∀{m},(c+2)≠m→(listed.setIfInBounds (c+2) true)[m]? = some false→listed[m]? = some false:=fun hj hz=>set_not hj hz
 refine ⟨fun m hm=>?_,fun hz=>?_,fun hz hy=>?_,fun hz=>?_,fun hz=>?_,fun hz=>?_,fun hz=>?_,fun hz=>?_,fun hz=>?_,fun hz m hm=>set_keep (h.o (t (by omega) hz) m hm)⟩
 ·by_cases e:m=(c+2)
  ·rw [e,updC_eq];exact hp
  ·rw [updC_ne e];exact h.pl m (t e hm)
 ·rw [updC_ne (by omega)];exact h.cl (t (by omega) hz)
 ·rw [updC_ne (by omega)];exact h.lm (t (by omega) hz) (f (by omega) hy)
 ·rw [updC_ne (by omega),updC_ne (by omega)];exact ⟨(h.mv (t (by omega) hz)).1,set_keep (h.mv (t (by omega) hz)).2⟩
 ·rw [updC_eq,updC_ne (by omega)];exact ⟨rfl,set_keep h1⟩
 ·rw [updC_ne (by omega)];exact h.e1 (t (by omega) hz)
 ·rw [updC_ne (by omega)];exact h.as_ (t (by omega) hz)
 ·exact h.z (f (by omega) hz)
 ·rw [updC_ne (by omega)];exact h.zs (t (by omega) hz)
theorem RH2.second(h:RH2 Z c s g0 k0 er ol Pl listed v W)(hcs:c+3<s)(hp:Pl (c+3) (.int .i64 er)):RH2 Z c s g0 k0 er ol Pl (listed.setIfInBounds (c+3) true) (updC v (c+3) (.int .i64 er)) W:=by
 have t:∀{m},m≠(c+3)→(listed.setIfInBounds (c+3) true)[m]? = some true→listed[m]? = some true:=fun hj hz=>(set_at _ hz).resolve_left hj
 have f:∀{m},(c+3)≠m→(listed.setIfInBounds (c+3) true)[m]? = some false→listed[m]? = some false:=fun hj hz=>set_not hj hz
 refine ⟨fun m hm=>?_,fun hz=>?_,fun hz hy=>?_,fun hz=>?_,fun hz=>?_,fun hz=>?_,fun hz=>?_,fun hz=>?_,fun hz=>?_,fun hz m hm=>set_keep (h.o (t (by omega) hz) m hm)⟩
 ·by_cases e:m=(c+3)
  ·rw [e,updC_eq];exact hp
  ·rw [updC_ne e];exact h.pl m (t e hm)
 ·rw [updC_ne (by omega)];exact h.cl (t (by omega) hz)
 ·rw [updC_ne (by omega)];exact h.lm (t (by omega) hz) (f (by omega) hy)
 ·rw [updC_ne (by omega),updC_ne (by omega)];exact ⟨(h.mv (t (by omega) hz)).1,set_keep (h.mv (t (by omega) hz)).2⟩
 ·rw [updC_ne (by omega),updC_ne (by omega)];exact ⟨(h.e0 (t (by omega) hz)).1,set_keep (h.e0 (t (by omega) hz)).2⟩
 ·rw [updC_eq]
 ·rw [updC_ne (by omega)];exact h.as_ (t (by omega) hz)
 ·exact h.z (f (by omega) hz)
 ·rw [updC_ne (by omega)];exact h.zs (t (by omega) hz)
theorem RH2.keepE(h:RH2 Z c s g0 k0 er ol Pl listed v W)(hcs:c+3<s)(hp:Pl (s+1) (.int .i64 er)):RH2 Z c s g0 k0 er ol Pl (listed.setIfInBounds (s+1) true) (updC v (s+1) (.int .i64 er)) W:=by
 have t:∀{m},m≠(s+1)→(listed.setIfInBounds (s+1) true)[m]? = some true→listed[m]? = some true:=fun hj hz=>(set_at _ hz).resolve_left hj
 have f:∀{m},(s+1)≠m→(listed.setIfInBounds (s+1) true)[m]? = some false→listed[m]? = some false:=fun hj hz=>set_not hj hz
 refine ⟨fun m hm=>?_,fun hz=>?_,fun hz hy=>?_,fun hz=>?_,fun hz=>?_,fun hz=>?_,fun hz=>?_,fun hz=>?_,fun hz=>?_,fun hz m hm=>set_keep (h.o (t (by omega) hz) m hm)⟩
 ·by_cases e:m=(s+1)
  ·rw [e,updC_eq];exact hp
  ·rw [updC_ne e];exact h.pl m (t e hm)
 ·rw [updC_ne (by omega)];exact h.cl (t (by omega) hz)
 ·rw [updC_ne (by omega)];exact h.lm (t (by omega) hz) (f (by omega) hy)
 ·rw [updC_ne (by omega),updC_ne (by omega)];exact ⟨(h.mv (t (by omega) hz)).1,set_keep (h.mv (t (by omega) hz)).2⟩
 ·rw [updC_ne (by omega),updC_ne (by omega)];exact ⟨(h.e0 (t (by omega) hz)).1,set_keep (h.e0 (t (by omega) hz)).2⟩
 ·rw [updC_ne (by omega)];exact h.e1 (t (by omega) hz)
 ·rw [updC_eq]
 ·exact h.z (f (by omega) hz)
 ·rw [updC_ne (by omega)];exact h.zs (t (by omega) hz)
theorem RH2.store(h:RH2 Z c s g0 k0 er ol Pl listed v W)(hcs:c+3<s)(hl:listed[s]? = some false)(hp:Pl s undef)(ho:∀i,i≤c+2→listed[i]? = some true):RH2 Z c s g0 k0 er ol Pl (listed.setIfInBounds s true) (updC v s undef) (W.setCell ⟨g0,k0,none⟩ (tupA (v c))):=by
 have t:∀{m},m≠s→(listed.setIfInBounds s true)[m]? = some true→listed[m]? = some true:=fun hj hz=>(set_at _ hz).resolve_left hj
 have hsl:s<listed.size:=(Array.getElem?_eq_some_iff.1 hl).1
 have nof:∀{P:Prop},(listed.setIfInBounds s true)[s]? = some false→P:=fun hz=>by rw [Array.getElem?_setIfInBounds_self_of_lt hsl] at hz;cases hz
 have hc:=ho c (by omega)
 refine ⟨fun m hm=>?_,fun hz=>?_,fun _ hy=>nof hy,fun hz=>?_,fun hz=>?_,fun hz=>?_,fun hz=>?_,fun hz=>nof hz,fun _=>⟨W,h.z hl,?_,?_⟩,fun _ m hm=>set_keep (ho m hm)⟩
 ·by_cases e:m=s
  ·rw [e,updC_eq];exact hp
  ·rw [updC_ne e];exact h.pl m (t e hm)
 ·rw [updC_ne (by omega)];exact h.cl (t (by omega) hz)
 ·rw [updC_ne (by omega),updC_ne (by omega)];exact ⟨(h.mv (t (by omega) hz)).1,set_keep (h.mv (t (by omega) hz)).2⟩
 ·rw [updC_ne (by omega),updC_ne (by omega)];exact ⟨(h.e0 (t (by omega) hz)).1,set_keep (h.e0 (t (by omega) hz)).2⟩
 ·rw [updC_ne (by omega)];exact h.e1 (t (by omega) hz)
 ·rw [updC_ne (by omega)];exact h.as_ (t (by omega) hz)
 ·rw [updC_ne (by omega)];exact h.lm hc hl
 ·rw [updC_ne (by omega)]
end
section
variable{W:World}{L:RLy}{x:Gt}
theorem RAt.jcell(h:RAt W L x){g i:Nat}{u:Value}(hg:∀b o,0<x.js.length→L.ja=some ⟨b,o,none⟩→b≠g):0<x.js.length→∃b:Nat,L.ja=some ⟨b,0,none⟩∧∀(k:Nat) (j:Jt),x.js[k]? = some j→(W.setCell ⟨g,i,none⟩ u).cell? ⟨b,k*30+15,none⟩=some (.int .i64 j.cap):=fun h0=>by
 obtain ⟨b,e,h1⟩:=h.jobs h0
 exact ⟨b,e,fun k j hj=>(cell_heap (Below.heap_setCell W ⟨g,i,none⟩ u b (hg b 0 h0 e))).trans (h1 k j hj)⟩
theorem RAt.newBoth(h:RAt W L x){lm:Nat}{l:Lm}(hl:RLmAt W lm l)(hi:l.Inv)(hn:∀i,L.sup x.js.length i→i≠lm):RAt (W.setCell ⟨L.g,10,none⟩ (.pointer (some ⟨lm,0,none⟩))) ⟨L.g,lm,L.c,L.ja,L.jc,L.ra,L.rc,L.oa,L.oc,L.ba,L.bc,L.li,L.bo⟩ ⟨x.cap,l,x.js,x.last⟩:=by
 have kp:∀{g:Nat} {t:TypeId} {cs:Array Value},Blk W g t cs→t≠150→Blk (W.setCell ⟨L.g,10,none⟩ (.pointer (some ⟨lm,0,none⟩))) g t cs:=fun hb hne=>Blk.far hb (blk_ne hb h.gate hne) _
 refine ⟨?_,kp hl (by decide),fun h0=>?_,fun h0=>?_,fun h0=>?_,h.jcell fun b o h0 e e2=>h.apart b o h0 e (.inl e2),fun b o h0 e=>?_,fun k j hj=>⟨kp (h.job k j hj).1 (by decide),kp (h.job k j hj).2 (by decide)⟩,fun k hk=>⟨fun e=>?_,(h.one k hk).2⟩,⟨h.inv.cap,h.inv.n,hi,h.inv.js,h.inv.last⟩⟩
 ·have:=h.gate.set_ 10 (.pointer (some ⟨lm,0,none⟩))
  unfold RLy.cells at this ⊢
  simpa using this
 ·obtain ⟨b,cs,e,a1,a2⟩:=h.runs h0
  exact ⟨b,cs,e,kp a1 (by decide),a2⟩
 ·obtain ⟨b,cs,e,a1,a2⟩:=h.ones h0
  exact ⟨b,cs,e,kp a1 (by decide),a2⟩
 ·obtain ⟨b,cs,e,a1,a2⟩:=h.boxs h0
  exact ⟨b,cs,e,kp a1 (by decide),a2⟩
 ·rintro (e2|e2|e2|e2)
  ·exact h.apart b o h0 e (.inl e2)
  ·exact hn b (.inr (.inr (.inr ⟨h0,o,e⟩))) e2
  ·exact h.apart b o h0 e (.inr (.inr (.inl e2)))
  ·exact h.apart b o h0 e (.inr (.inr (.inr e2)))
 ·exact hn _ (.inl (.inr (.inr (.inr ⟨k,hk,.inl rfl⟩)))) e
theorem set_old{js:List Jt}{k:Nat}{j':Jt}(hkl:k<js.length){i:Nat}{m:Jt}(hm:(js.set k j')[i]? = some m):(i=k∧m=j')∨(i≠k∧js[i]? = some m):=by
 rw [List.getElem?_set] at hm
 by_cases hik:k=i
 ·rw [if_pos hik,if_pos hkl] at hm
  injection hm with hm
  exact .inl ⟨hik.symm,hm.symm⟩
 ·rw [if_neg hik] at hm
  exact .inr ⟨fun e=>hik e.symm,hm⟩
theorem RAt.newRun(h:RAt W L x){k:Nat}{j:Jt}(hj:x.js[k]? = some j){rb:Nat}(he:L.ra=some ⟨rb,0,none⟩){r:Int}(hr:0≤r∧r≤j.cap):RAt (W.setCell ⟨rb,k,none⟩ (.int .i64 r)) L ⟨x.cap,x.both,x.js.set k ⟨j.cap,r,j.lm,j.bx⟩,x.last⟩∧Turn (L.own x.js.length) W (W.setCell ⟨rb,k,none⟩ (.int .i64 r)):=by
 have hkl:k<x.js.length:=(List.getElem?_eq_some_iff.1 hj).1
 obtain ⟨b,cs,e,a1,a2⟩:=h.runs (by omega)
 rw [he] at e
 injection e with e
 injection e with e
 subst e
 have kp:∀{g:Nat} {t:TypeId} {ds:Array Value},Blk W g t ds→t≠3→Blk (W.setCell ⟨rb,k,none⟩ (.int .i64 r)) g t ds:=fun hb hne=>Blk.far hb (blk_ne hb a1 hne) _
 have hjb:=h.job k j hj
 have hm:=h.inv.js j (List.mem_of_getElem? hj)
 refine h.upd hj (turn_at W rb k _ (.inr (.inr (.inl ⟨0,he⟩)))) rfl rfl (inv_set h.inv ⟨hm.1,hr,hm.2.2.1,hm.2.2.2⟩) ?_ (kp h.lm (by decide)) ⟨rb,_,he,a1.set_ k _,runs_set a2 hj ⟨j.cap,r,j.lm,j.bx⟩⟩ (kp hjb.1 (by decide)) (kp hjb.2 (by decide))
 have:=kp h.gate (by decide)
 unfold RLy.cells at this ⊢
 rw [List.length_set]
 exact this
theorem RAt.newLim(h:RAt W L x){k:Nat}{j:Jt}(hj:x.js[k]? = some j){n ob:Nat}{os:Array Value}{l:Lm}(ho:L.oa=some ⟨ob,0,none⟩)(hos:Blk W ob 146 os)(hl:RLmAt W n l)(hi:l.Inv)(hn:∀i,L.sup x.js.length i→i≠n)(hja:∀b o,0<x.js.length→L.ja=some ⟨b,o,none⟩→b≠ob) :
 RAt (W.setCell ⟨ob,k,none⟩ (.pointer (some ⟨n,0,none⟩))) ⟨L.g,L.lm,L.c,L.ja,L.jc,L.ra,L.rc,L.oa,L.oc,L.ba,L.bc,fun i=>if i=k then n else L.li i,L.bo⟩ ⟨x.cap,x.both,x.js.set k ⟨j.cap,j.runs,l,j.bx⟩,x.last⟩:=by
 have hkl:k<x.js.length:=(List.getElem?_eq_some_iff.1 hj).1
 have hlen:(x.js.set k ⟨j.cap,j.runs,l,j.bx⟩).length=x.js.length:=List.length_set
 have kp:∀{g:Nat} {t:TypeId} {cs:Array Value},Blk W g t cs→t≠146→Blk (W.setCell ⟨ob,k,none⟩ (.pointer (some ⟨n,0,none⟩))) g t cs:=fun hb hne=>Blk.far hb (blk_ne hb hos hne) _
 have hm:=h.inv.js j (List.mem_of_getElem? hj)
 refine ⟨?_,kp h.lm (by decide),fun h0=>?_,fun h0=>?_,fun h0=>?_,fun h0=>?_,fun b o h0 e=>?_,fun i m hm=>?_,fun i hi=>?_,inv_set h.inv ⟨hm.1,hm.2.1,hi,hm.2.2.2⟩⟩
 ·have:=kp h.gate (by decide)
  unfold RLy.cells at this ⊢
  rw [hlen]
  exact this
 ·rw [hlen] at h0
  obtain ⟨b,cs,e,a1,a2⟩:=h.runs h0
  refine ⟨b,cs,e,kp a1 (by decide),fun i m hm=>?_⟩
  rcases set_old hkl hm with ⟨rfl,rfl⟩|⟨_,hm⟩
  ·exact a2 _ j hj
  ·exact a2 _ _ hm
 ·rw [hlen] at h0
  obtain ⟨b,cs,e,a1,a2⟩:=h.ones h0
  have e':=e
  rw [ho] at e'
  injection e' with e'
  injection e' with e'
  subst e'
  obtain rfl:os=cs:=by unfold Blk at hos a1;rw [hos] at a1;injection a1 with a1;injection a1 with a1
  refine ⟨ob,_,e,hos.set_ k _,fun i hi=>?_⟩
  rw [hlen] at hi
  show (os.setIfInBounds k (.pointer (some ⟨n,0,none⟩)))[i]? = some (.pointer (some ⟨if i=k then n else L.li i,0,none⟩))
  by_cases hik:i=k
  ·subst hik
   rw [if_pos rfl,Array.getElem?_setIfInBounds_self_of_lt (Array.getElem?_eq_some_iff.1 (a2 _ hi)).1]
  ·rw [if_neg hik,Array.getElem?_setIfInBounds_ne (fun e=>hik e.symm)]
   exact a2 i hi
 ·rw [hlen] at h0
  obtain ⟨b,cs,e,a1,a2⟩:=h.boxs h0
  exact ⟨b,cs,e,kp a1 (by decide),fun i hi=>a2 i (by rw [hlen] at hi;exact hi)⟩
 ·rw [hlen] at h0
  obtain ⟨b,e,a1⟩:=h.jcell (i:=k) (u:=.pointer (some ⟨n,0,none⟩)) hja h0
  refine ⟨b,e,fun i m hm=>?_⟩
  rcases set_old hkl hm with ⟨rfl,rfl⟩|⟨_,hm⟩
  ·exact a1 _ j hj
  ·exact a1 _ _ hm
 ·rw [hlen] at h0 ⊢
  rintro (e2|e2|e2|⟨i,hi,e2|e2⟩)
  ·exact h.apart b o h0 e (.inl e2)
  ·exact h.apart b o h0 e (.inr (.inl e2))
  ·exact h.apart b o h0 e (.inr (.inr (.inl e2)))
  ·have e2:b=if i=k then n else L.li i:=e2
   split at e2
   ·exact hn b (.inr (.inr (.inr ⟨h0,o,e⟩))) e2
   ·exact h.apart b o h0 e (.inr (.inr (.inr ⟨i,hi,.inl e2⟩)))
  ·exact h.apart b o h0 e (.inr (.inr (.inr ⟨i,hi,.inr e2⟩)))
 ·show RLmAt _ (if i=k then n else L.li i) m.lm∧RBoxAt _ (L.bo i) m.bx
  rcases set_old hkl hm with ⟨rfl,rfl⟩|⟨hne,hm⟩
  ·rw [if_pos rfl]
   exact ⟨kp hl (by decide),kp (h.job _ _ hj).2 (by decide)⟩
  ·rw [if_neg hne]
   have:=h.job _ _ hm
   exact ⟨kp this.1 (by decide),kp this.2 (by decide)⟩
 ·rw [hlen] at hi
  refine ⟨?_,fun q hq hne=>?_⟩
  ·show (if i=k then n else L.li i)≠L.lm
   split
   ·exact fun e=>hn _ (.inl (.inr (.inl rfl))) e.symm
   ·exact (h.one i hi).1
  ·rw [hlen] at hq
   show (if q=k then n else L.li q)≠(if i=k then n else L.li i)∧L.bo q≠L.bo i
   refine ⟨?_,((h.one i hi).2 q hq hne).2⟩
   have s1:=hn _ (.inl (.inr (.inr (.inr ⟨q,hq,.inl rfl⟩))))
   have s2:=hn _ (.inl (.inr (.inr (.inr ⟨i,hi,.inl rfl⟩))))
   split
   ·split
    ·omega
    ·exact fun e=>s2 e.symm
   ·split
    ·exact s1
    ·exact ((h.one i hi).2 q hq hne).1
theorem RAt.newBox(h:RAt W L x){k:Nat}{j:Jt}(hj:x.js[k]? = some j){n bb:Nat}{os:Array Value}{y:Bx}(ho:L.ba=some ⟨bb,0,none⟩)(hos:Blk W bb 153 os)(hl:RBoxAt W n y)(hi:BK.Inv y)(hn:∀i,L.sup x.js.length i→i≠n)(hja:∀b o,0<x.js.length→L.ja=some ⟨b,o,none⟩→b≠bb) :
 RAt (W.setCell ⟨bb,k,none⟩ (.pointer (some ⟨n,0,none⟩))) ⟨L.g,L.lm,L.c,L.ja,L.jc,L.ra,L.rc,L.oa,L.oc,L.ba,L.bc,L.li,fun i=>if i=k then n else L.bo i⟩ ⟨x.cap,x.both,x.js.set k ⟨j.cap,j.runs,j.lm,y⟩,x.last⟩:=by
 have hkl:k<x.js.length:=(List.getElem?_eq_some_iff.1 hj).1
 have hlen:(x.js.set k ⟨j.cap,j.runs,j.lm,y⟩).length=x.js.length:=List.length_set
 have kp:∀{g:Nat} {t:TypeId} {cs:Array Value},Blk W g t cs→t≠153→Blk (W.setCell ⟨bb,k,none⟩ (.pointer (some ⟨n,0,none⟩))) g t cs:=fun hb hne=>Blk.far hb (blk_ne hb hos hne) _
 have hm:=h.inv.js j (List.mem_of_getElem? hj)
 refine ⟨?_,kp h.lm (by decide),fun h0=>?_,fun h0=>?_,fun h0=>?_,fun h0=>?_,fun b o h0 e=>?_,fun i m hm=>?_,fun i hi=>?_,inv_set h.inv ⟨hm.1,hm.2.1,hm.2.2.1,hi⟩⟩
 ·have:=kp h.gate (by decide)
  unfold RLy.cells at this ⊢
  rw [hlen]
  exact this
 ·rw [hlen] at h0
  obtain ⟨b,cs,e,a1,a2⟩:=h.runs h0
  refine ⟨b,cs,e,kp a1 (by decide),fun i m hm=>?_⟩
  rcases set_old hkl hm with ⟨rfl,rfl⟩|⟨_,hm⟩
  ·exact a2 _ j hj
  ·exact a2 _ _ hm
 ·rw [hlen] at h0
  obtain ⟨b,cs,e,a1,a2⟩:=h.ones h0
  exact ⟨b,cs,e,kp a1 (by decide),fun i hi=>a2 i (by rw [hlen] at hi;exact hi)⟩
 ·rw [hlen] at h0
  obtain ⟨b,cs,e,a1,a2⟩:=h.boxs h0
  have e':=e
  rw [ho] at e'
  injection e' with e'
  injection e' with e'
  subst e'
  obtain rfl:os=cs:=by unfold Blk at hos a1;rw [hos] at a1;injection a1 with a1;injection a1 with a1
  refine ⟨bb,_,e,hos.set_ k _,fun i hi=>?_⟩
  rw [hlen] at hi
  show (os.setIfInBounds k (.pointer (some ⟨n,0,none⟩)))[i]? = some (.pointer (some ⟨if i=k then n else L.bo i,0,none⟩))
  by_cases hik:i=k
  ·subst hik
   rw [if_pos rfl,Array.getElem?_setIfInBounds_self_of_lt (Array.getElem?_eq_some_iff.1 (a2 _ hi)).1]
  ·rw [if_neg hik,Array.getElem?_setIfInBounds_ne (fun e=>hik e.symm)]
   exact a2 i hi
 ·rw [hlen] at h0
  obtain ⟨b,e,a1⟩:=h.jcell (i:=k) (u:=.pointer (some ⟨n,0,none⟩)) hja h0
  refine ⟨b,e,fun i m hm=>?_⟩
  rcases set_old hkl hm with ⟨rfl,rfl⟩|⟨_,hm⟩
  ·exact a1 _ j hj
  ·exact a1 _ _ hm
 ·rw [hlen] at h0 ⊢
  rintro (e2|e2|e2|⟨i,hi,e2|e2⟩)
  ·exact h.apart b o h0 e (.inl e2)
  ·exact h.apart b o h0 e (.inr (.inl e2))
  ·exact h.apart b o h0 e (.inr (.inr (.inl e2)))
  ·exact h.apart b o h0 e (.inr (.inr (.inr ⟨i,hi,.inl e2⟩)))
  ·have e2:b=if i=k then n else L.bo i:=e2
   split at e2
   ·exact hn b (.inr (.inr (.inr ⟨h0,o,e⟩))) e2
   ·exact h.apart b o h0 e (.inr (.inr (.inr ⟨i,hi,.inr e2⟩)))
 ·show RLmAt _ (L.li i) m.lm∧RBoxAt _ (if i=k then n else L.bo i) m.bx
  rcases set_old hkl hm with ⟨rfl,rfl⟩|⟨hne,hm⟩
  ·rw [if_pos rfl]
   exact ⟨kp (h.job _ _ hj).1 (by decide),kp hl (by decide)⟩
  ·rw [if_neg hne]
   have:=h.job _ _ hm
   exact ⟨kp this.1 (by decide),kp this.2 (by decide)⟩
 ·rw [hlen] at hi
  refine ⟨(h.one i hi).1,fun q hq hne=>?_⟩
  rw [hlen] at hq
  show L.li q≠L.li i∧(if q=k then n else L.bo q)≠(if i=k then n else L.bo i)
  refine ⟨((h.one i hi).2 q hq hne).1,?_⟩
  have s1:=hn _ (.inl (.inr (.inr (.inr ⟨q,hq,.inr rfl⟩))))
  have s2:=hn _ (.inl (.inr (.inr (.inr ⟨i,hi,.inr rfl⟩))))
  split
  ·split
   ·omega
   ·exact fun e=>s2 e.symm
  ·split
   ·exact s1
   ·exact ((h.one i hi).2 q hq hne).2
theorem RAt.newLast(h:RAt W L x){now:Int}(hn:0≤now∧now≤253402300799):RAt (W.setCell ⟨L.g,13,none⟩ (.int .i64 now)) L ⟨x.cap,x.both,x.js,now⟩:=by
 have kp:∀{g:Nat} {t:TypeId} {cs:Array Value},Blk W g t cs→t≠150→Blk (W.setCell ⟨L.g,13,none⟩ (.int .i64 now)) g t cs:=fun hb hne=>Blk.far hb (blk_ne hb h.gate hne) _
 refine ⟨?_,kp h.lm (by decide),fun h0=>?_,fun h0=>?_,fun h0=>?_,h.jcell fun b o h0 e e2=>h.apart b o h0 e (.inl e2),h.apart,fun k j hj=>⟨kp (h.job k j hj).1 (by decide),kp (h.job k j hj).2 (by decide)⟩,h.one,⟨h.inv.cap,h.inv.n,h.inv.both,h.inv.js,hn⟩⟩
 ·have:=h.gate.set_ 13 (.int .i64 now)
  unfold RLy.cells at this ⊢
  simpa using this
 ·obtain ⟨b,cs,e,a1,a2⟩:=h.runs h0
  exact ⟨b,cs,e,kp a1 (by decide),a2⟩
 ·obtain ⟨b,cs,e,a1,a2⟩:=h.ones h0
  exact ⟨b,cs,e,kp a1 (by decide),a2⟩
 ·obtain ⟨b,cs,e,a1,a2⟩:=h.boxs h0
  exact ⟨b,cs,e,kp a1 (by decide),a2⟩
end
end Go.Proofs.YtpgckpafjiojfaaGreatDoor.AD
