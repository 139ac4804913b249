/- Contracts of the reference's boxes: they do the same to a box that is laid out otherwise. Contracts of the reference's calls that change a box. Contracts of the reference's Report, Check and New. -/
import Derived.Test.YtpgckpafjiojfaaGreatDoorABrk
open Go.Lib (hid)
set_option maxRecDepth 16000
set_option maxHeartbeats 40000000
namespace Go.Proofs.YtpgckpafjiojfaaGreatDoor.BK
open Go Go.RowKit
section
variable{w:World}{b:Nat}{x:Bx}
theorem rbox_set{y:Bx}(i:Nat)(v:Value)(h:RBoxAt w b x)(he:x.rcells.setIfInBounds i v=y.rcells):RBoxAt (w.setCell ⟨b,i,none⟩ v) b y:=by
 have h1:=Blk.set_ h i v
 rw [he] at h1
 exact h1
theorem r_last(h:RBoxAt w b x)(v:Int):RBoxAt (w.setCell ⟨b,9,none⟩ (.int .i64 v)) b { x with last:=v }:=rbox_set 9 _ h (by simp [Bx.rcells])
theorem r_under(h:RBoxAt w b x)(v:Int):RBoxAt (w.setCell ⟨b,8,none⟩ (.int .i64 v)) b { x with under:=v }:=rbox_set 8 _ h (by simp [Bx.rcells])
theorem r_good(h:RBoxAt w b x)(v:Int):RBoxAt (w.setCell ⟨b,7,none⟩ (.int .i64 v)) b { x with good:=v }:=rbox_set 7 _ h (by simp [Bx.rcells])
theorem r_fails(h:RBoxAt w b x)(v:Int):RBoxAt (w.setCell ⟨b,6,none⟩ (.int .i64 v)) b { x with fails:=v }:=rbox_set 6 _ h (by simp [Bx.rcells])
theorem r_un(h:RBoxAt w b x)(v:Int):RBoxAt (w.setCell ⟨b,5,none⟩ (.int .i64 v)) b { x with un:=v }:=rbox_set 5 _ h (by simp [Bx.rcells])
theorem r_op(h:RBoxAt w b x)(v:Bool):RBoxAt (w.setCell ⟨b,4,none⟩ (.bool v)) b { x with op:=v }:=rbox_set 4 _ h (by simp [Bx.rcells])
theorem rvalid_ok(h:RBoxAt w b x):Calls Tryz.prog 141 #[.pointer (some ⟨b,0,none⟩)] w fun e w'=>e=.returned (.bool true)∧w=w':=by
 have h0:=(rbox_cells h).1
 clear h
 go_enter Tryz.func141,Tryz.ntmps141
 go_wp2_with fail
 go_ret
 exact ⟨rfl,rfl⟩
theorem rstate_ok(h:RBoxAt w b x)(now:Int):Calls Tryz.prog 132 #[.pointer (some ⟨b,0,none⟩),.int .i64 now] w fun e w'=>e=.returned (.int .i64 (state x now))∧w=w':=by
 obtain ⟨f,o,p,op,un,fails,good,under,last⟩:=x
 obtain ⟨-,-,-,-,h4,h5,-⟩:=rbox_cells h
 have V:=hid (rvalid_ok h)
 clear h
 cases op
 ·go_enter Tryz.func132,Tryz.ntmps132
  go_wp2_with fail
  have C:=V.out
  (with_reducible refine C.mono ?_)
  rintro e w' ⟨rfl,rfl⟩
  clear C
  go_wp2_with fail
  go_ret
  exact ⟨rfl,rfl⟩
 ·by_cases hn:now<un
  all_goals
   go_enter Tryz.func132,Tryz.ntmps132
   go_wp2_with fail
   have C:=V.out
   (with_reducible refine C.mono ?_)
   rintro e w' ⟨rfl,rfl⟩
   clear C
   go_wp2_with fail
   go_ret
   exact ⟨by simp [state,hn],rfl⟩
theorem first_ok(h:RBoxAt w b x)(now:Int):Calls Tryz.prog 130 #[.pointer (some ⟨b,0,none⟩),.int .i64 now] w fun e w'=>e=.returned (.int .i64 (check x now))∧w=w':=by
 obtain ⟨f,o,p,op,un,fails,good,under,last⟩:=x
 have h9:=(rbox_cells h).2.2.2.2.2.2.2.2.2
 have V:=hid (rvalid_ok h)
 clear h
 by_cases h1:now<0
 ·have hc:Hid (check ⟨f,o,p,op,un,fails,good,under,last⟩ now=14):=hid (by unfold check;rw [if_pos (by omega)])
  go_enter Tryz.func130,Tryz.ntmps130
  go_wp2_with fail
  have C:=V.out
  (with_reducible refine C.mono ?_)
  rintro e w' ⟨rfl,rfl⟩
  clear C
  go_wp2_with fail
  go_ret
  exact ⟨by rw [hc.out];rfl,rfl⟩
 ·by_cases h2:253402300799<now
  ·have hc:Hid (check ⟨f,o,p,op,un,fails,good,under,last⟩ now=14):=hid (by unfold check maxTime;rw [if_pos (by omega)])
   go_enter Tryz.func130,Tryz.ntmps130
   go_wp2_with fail
   have C:=V.out
   (with_reducible refine C.mono ?_)
   rintro e w' ⟨rfl,rfl⟩
   clear C
   go_wp2_with fail
   go_ret
   exact ⟨by rw [hc.out];rfl,rfl⟩
  ·by_cases h3:now<last
   ·have hc:Hid (check ⟨f,o,p,op,un,fails,good,under,last⟩ now=8):=hid (by unfold check maxTime;rw [if_neg (by omega),if_pos h3])
    go_enter Tryz.func130,Tryz.ntmps130
    go_wp2_with fail
    have C:=V.out
    (with_reducible refine C.mono ?_)
    rintro e w' ⟨rfl,rfl⟩
    clear C
    go_wp2_with fail
    go_ret
    exact ⟨by rw [hc.out];rfl,rfl⟩
   ·have hc:Hid (check ⟨f,o,p,op,un,fails,good,under,last⟩ now=0):=hid (by unfold check maxTime;rw [if_neg (by omega),if_neg h3])
    go_enter Tryz.func130,Tryz.ntmps130
    go_wp2_with fail
    have C:=V.out
    (with_reducible refine C.mono ?_)
    rintro e w' ⟨rfl,rfl⟩
    clear C
    go_wp2_with fail
    go_ret
    exact ⟨by rw [hc.out];rfl,rfl⟩
theorem runtil_ok(h:RBoxAt w b x):Calls Tryz.prog 89 #[.pointer (some ⟨b,0,none⟩)] w fun e w'=>e=.returned (.tuple #[.int .i64 (untilOf x),.bool x.op])∧w=w':=by
 obtain ⟨f,o,p,op,un,fails,good,under,last⟩:=x
 obtain ⟨-,-,-,-,h4,h5,-⟩:=rbox_cells h
 have V:=hid (rvalid_ok h)
 clear h
 cases op
 all_goals
  go_enter Tryz.func89,Tryz.ntmps89
  go_wp2_with fail
  have C:=V.out
  (with_reducible refine C.mono ?_)
  rintro e w' ⟨rfl,rfl⟩
  clear C
  go_wp2_with fail
  go_ret2
  exact ⟨rfl,rfl⟩
theorem rcounts_ok(h:RBoxAt w b x):Calls Tryz.prog 90 #[.pointer (some ⟨b,0,none⟩)] w fun e w'=>e=.returned (.tuple #[.int .i64 x.fails,.int .i64 x.good,.int .i64 x.under])∧∃n,w'=w.drewN n:=by
 obtain ⟨f,o,p,op,un,fails,good,under,last⟩:=x
 obtain ⟨-,-,-,-,-,-,h6,h7,h8,-⟩:=rbox_cells h
 have V:=hid (rvalid_ok h)
 clear h
 go_enter Tryz.func90,Tryz.ntmps90
 go_wp2_with fail
 have C:=V.out
 (with_reducible refine C.mono ?_)
 rintro e w' ⟨rfl,rfl⟩
 clear C
 go_wp2_with fail
 go_quiet (fail)
 go_wp2_with fail
 go_ret3
 exact ⟨rfl,_,rfl⟩
theorem rallows_ok(h:RBoxAt w b x)(hi:Inv x)(now:Int):Calls Tryz.prog 131 #[.pointer (some ⟨b,0,none⟩),.int .i64 now] w fun e w'=>e=.returned (.bool (allows x now))∧∃n,w'=w.drewN n:=by
 have hs:=hi.small
 have hst:=rstate_ok h now
 obtain ⟨f,o,p,op,un,fails,good,under,last⟩:=x
 obtain ⟨-,-,-,h3,h4,h5,h6,h7,h8,-⟩:=rbox_cells h
 have V:=hid (rvalid_ok h)
 clear h hi
 simp only at hs
 cases op
 ·rw [show state ⟨f,o,p,false,un,fails,good,under,last⟩ now=0 from rfl] at hst
  have ST:=hid hst
  clear hst
  go_enter Tryz.func131,Tryz.ntmps131
  go_wp2_with fail
  have C:=V.out
  (with_reducible refine C.mono ?_)
  rintro e w' ⟨rfl,rfl⟩
  clear C
  go_wp2_with fail
  have C:=ST.out
  (with_reducible refine C.mono ?_)
  rintro e w' ⟨rfl,rfl⟩
  clear C
  go_wp2_with fail
  go_quiet (fail)
  go_wp2_with fail
  go_ret
  exact ⟨rfl,_,rfl⟩
 ·by_cases hn:now<un
  ·rw [show state ⟨f,o,p,true,un,fails,good,under,last⟩ now=1 from by simp [state,hn]] at hst
   have ST:=hid hst
   have HA:=hid (show allows ⟨f,o,p,true,un,fails,good,under,last⟩ now=false by simp [allows,hn])
   clear hst
   go_enter Tryz.func131,Tryz.ntmps131
   go_wp2_with fail
   have C:=V.out
   (with_reducible refine C.mono ?_)
   rintro e w' ⟨rfl,rfl⟩
   clear C
   go_wp2_with fail
   have C:=ST.out
   (with_reducible refine C.mono ?_)
   rintro e w' ⟨rfl,rfl⟩
   clear C
   go_wp2_with fail
   go_quiet (fail)
   go_wp2_with fail
   go_ret
   exact ⟨by rw [HA.out];rfl,_,rfl⟩
  ·rw [show state ⟨f,o,p,true,un,fails,good,under,last⟩ now=2 from by simp [state,hn]] at hst
   have ST:=hid hst
   have HA:=hid (show allows ⟨f,o,p,true,un,fails,good,under,last⟩ now=decide (good+under<p) by simp [allows,hn])
   have hw:IntKind.i64.wrap (good+under)=good+under:=IntWalk.i64_in _ (by omega)
   clear hst
   go_enter Tryz.func131,Tryz.ntmps131
   go_wp2_with fail
   have C:=V.out
   (with_reducible refine C.mono ?_)
   rintro e w' ⟨rfl,rfl⟩
   clear C
   go_wp2_with fail
   have C:=ST.out
   (with_reducible refine C.mono ?_)
   rintro e w' ⟨rfl,rfl⟩
   clear C
   go_wp2_with fail
   go_quiet (fail)
   go_wp2_with fail
   go_ret
   exact ⟨by rw [HA.out];rfl,_,rfl⟩
def toB(x:Bx)(op:Bool)(now:Int):Bx:=⟨x.f,x.o,x.p,op,if op then now+x.o else 0,0,0,0,x.last⟩
theorem to_ok(h:RBoxAt w b x)(hs:0≤x.o∧x.o≤68719476736)(op:Bool)(now:Int)(n0:0≤now)(n1:now≤253402300799) :
 Calls Tryz.prog 134 #[.pointer (some ⟨b,0,none⟩),.bool op,.int .i64 now] w fun e w'=>e=.returned (.tuple #[])∧RBoxAt w' b (toB x op now)∧w.grownBy w' (some b):=by
 have hh:=hid h
 obtain ⟨f,o,p,op0,un,fails,good,under,last⟩:=x
 obtain ⟨-,-,h2,-,h4,h5,h6,h7,h8,-⟩:=rbox_cells h
 have hz:=fun i=>Blk.frozen h i
 clear h
 simp only at hs
 cases op
 ·go_enter Tryz.func134,Tryz.ntmps134
  go_wp2_with fail
  go_end0
  refine ⟨rfl,r_under (r_good (r_fails (r_un (r_op hh.out false) 0) 0) 0) 0,?_⟩
  (repeat (first|(with_reducible exact only_refl _ _)|(with_reducible refine only_drewN ?_ _)|(with_reducible refine only_drew ?_)|(with_reducible refine only_alloc ?_ _)|(with_reducible refine only_setCell ?_ (.inl rfl) _)))
 ·go_enter Tryz.func134,Tryz.ntmps134
  go_wp2_with fail
  go_end0
  refine ⟨rfl,r_under (r_good (r_fails (r_un (r_un (r_op hh.out true) 0) (now+o)) 0) 0) 0,?_⟩
  (repeat (first|(with_reducible exact only_refl _ _)|(with_reducible refine only_drewN ?_ _)|(with_reducible refine only_drew ?_)|(with_reducible refine only_alloc ?_ _)|(with_reducible refine only_setCell ?_ (.inl rfl) _)))
end
theorem toB_open(x:Bx)(now:Int):toB x true now=start x now:=rfl
section
variable{w:World}{b:Nat}{x:Bx}
theorem rset_ok(h:RBoxAt w b x)(hi:Inv x)(op:Bool)(now:Int) :
 Calls Tryz.prog 161 #[.pointer (some ⟨b,0,none⟩),.bool op,.int .i64 now] w fun e w'=>e=.returned (.int .i64 (switched x now))∧RBoxAt w' b (if switched x now=0 then toB (seen x now) op now else x)∧w.grownBy w' (some b):=by
 suffices H:Calls Tryz.prog 161 #[.pointer (some ⟨b,0,none⟩),.bool op,.int .i64 now] w fun e w'=>∃s y,(s=switched x now∧y=if switched x now=0 then toB (seen x now) op now else x)∧e=.returned (.int .i64 s)∧RBoxAt w' b y∧w.grownBy w' (some b) by
  refine H.mono fun e w' ⟨s,y,⟨h1,h2⟩,h3,h4,h5⟩=>?_
  rw [←h2,←h1];exact ⟨h3,h4,h5⟩
 have C:=hid (first_ok h now)
 have hh:=hid h
 have h1:=(rbox_cells h).2.1
 have hz:=fun i=>Blk.frozen h i
 have HI:Hid (0≤x.o∧x.o≤68719476736):=hid ⟨hi.small.2.2.1,hi.small.2.2.2.1⟩
 clear h hi
 by_cases hc:check x now=0
 ·have HC:=hid hc
  rw [hc] at C
  by_cases hf:x.f=0
  ·have HS:Hid (switched x now=9):=hid (by unfold switched;rw [hc];simp [hf])
   have HY:Hid (∀s y,s=9→y=x→(s=switched x now∧y=if switched x now=0 then toB (seen x now) op now else x)):=hid (fun s y h1 h2=>by rw [HS.out];exact ⟨h1,by rw [if_neg (by decide)];exact h2⟩)
   have hfb:(x.f==0)=true:=by simp [hf]
   clear hf hc
   refine Calls.mono (R:=fun e w'=>e=.returned (.int .i64 9)∧RBoxAt w' b x∧w.grownBy w' (some b)) ?_ fun e w' ⟨h1,h2,h3⟩=>⟨_,_,HY.out _ _ rfl rfl,h1,h2,h3⟩
   go_enter Tryz.func161,Tryz.ntmps161
   go_wp2_with fail
   have C:=C.out
   (with_reducible refine C.mono ?_)
   rintro e w' ⟨rfl,rfl⟩
   clear C
   go_wp2_with fail
   go_ret
   exact ⟨rfl,hh.out,only_refl _ _⟩
  ·have HS:Hid (switched x now=0):=hid (by unfold switched;rw [hc];simp [hf])
   have HY:Hid (∀s y,s=0→y=toB (seen x now) op now→(s=switched x now∧y=if switched x now=0 then toB (seen x now) op now else x)):=hid (fun s y h1 h2=>by rw [HS.out];exact ⟨h1,by rw [if_pos rfl];exact h2⟩)
   have hfb:(x.f==0)=false:=by simp [hf]
   obtain ⟨c1,c2,c3⟩:=check_zero hc
   unfold maxTime at c2
   clear hf hc c3
   refine Calls.mono (R:=fun e w'=>e=.returned (.int .i64 0)∧RBoxAt w' b (toB (seen x now) op now)∧w.grownBy w' (some b)) ?_ fun e w' ⟨h1,h2,h3⟩=>⟨_,_,HY.out _ _ rfl rfl,h1,h2,h3⟩
   go_enter Tryz.func161,Tryz.ntmps161
   go_wp2_with fail
   have C:=C.out
   (with_reducible refine C.mono ?_)
   rintro e w' ⟨rfl,rfl⟩
   clear C
   go_wp2_with fail
   have C:=to_ok hh.out HI.out op now c1 c2
   (with_reducible refine C.mono ?_)
   rintro e w1 ⟨rfl,hb,hg⟩
   clear C
   have hc1:=fun i=>Blk.cell hb i
   have hz1:=fun i=>Blk.frozen hb i
   have hsome:w1.cell? ⟨b,9,none⟩=some (.int .i64 x.last):=hc1 9
   have HB:=hid hb
   have HG:=hid hg
   clear hb hg hc1 hz
   go_wp2_with fail
   go_ret
   exact ⟨rfl,r_last HB.out now,only_trans HG.out (only_setCell (only_refl _ _) (.inl rfl) _)⟩
 ·have HS:Hid (switched x now=check x now):=hid (by unfold switched;rw [if_pos hc])
  obtain ⟨c,hcc⟩:∃c,check x now=c:=⟨_,rfl⟩
  rw [hcc] at C HS hc
  have HY:Hid (∀s y,s=c→y=x→(s=switched x now∧y=if switched x now=0 then toB (seen x now) op now else x)):=hid (fun s y h1 h2=>by rw [HS.out];exact ⟨h1,by rw [if_neg hc];exact h2⟩)
  have hcb:(c != 0)=true:=by simp [hc]
  clear hc hcc
  refine Calls.mono (R:=fun e w'=>e=.returned (.int .i64 c)∧RBoxAt w' b x∧w.grownBy w' (some b)) ?_ fun e w' ⟨h1,h2,h3⟩=>⟨_,_,HY.out _ _ rfl rfl,h1,h2,h3⟩
  go_enter Tryz.func161,Tryz.ntmps161
  go_wp2_with fail
  have C:=C.out
  (with_reducible refine C.mono ?_)
  rintro e w' ⟨rfl,rfl⟩
  clear C
  go_wp2_with fail
  go_ret
  exact ⟨rfl,hh.out,only_refl _ _⟩
def setBox(x:Bx)(op:Bool)(now:Int):Bx:=if switched x now=0 then toB (seen x now) op now else x
theorem rset_ok'(h:RBoxAt w b x)(hi:Inv x)(op:Bool)(now:Int) :
 Calls Tryz.prog 161 #[.pointer (some ⟨b,0,none⟩),.bool op,.int .i64 now] w fun e w'=>e=.returned (.int .i64 (switched x now))∧RBoxAt w' b (setBox x op now)∧w.grownBy w' (some b):=rset_ok h hi op now
theorem trip_set(x:Bx)(now:Int):trip x now=(switched x now,setBox x true now):=by
 unfold trip setBox;by_cases h:switched x now=0
 ·rw [if_neg (by omega),if_pos h,h,toB_open]
 ·rw [if_pos h,if_neg h]
theorem rtrip_ok(h:RBoxAt w b x)(hi:Inv x)(now:Int) :
 Calls Tryz.prog 135 #[.pointer (some ⟨b,0,none⟩),.int .i64 now] w fun e w'=>e=.returned (.int .i64 (trip x now).1)∧RBoxAt w' b (trip x now).2∧w.grownBy w' (some b):=by
 rw [trip_set]
 have C:=hid (rset_ok' h hi true now)
 clear h hi
 go_enter Tryz.func135,Tryz.ntmps135
 go_wp2_with fail
 have C:=C.out
 (with_reducible refine C.mono ?_)
 rintro e w1 ⟨rfl,hb,hg⟩
 clear C
 have HB:=hid (hb)
 have HG:=hid (hg)
 clear hb hg
 go_wp2_with fail
 go_ret
 exact ⟨rfl,HB.out,HG.out⟩
theorem rtake_ok(h:RBoxAt w b x)(hi:Inv x)(now:Int) :
 Calls Tryz.prog 75 #[.pointer (some ⟨b,0,none⟩),.int .i64 now] w fun e w'=>e=.returned (.int .i64 (take x now).1)∧RBoxAt w' b (take x now).2∧w.grownBy w' (some b):=by
 have C:=hid (first_ok h now)
 have A:=hid (rallows_ok h hi now)
 have S:=hid (fun n=>rstate_ok (Blk.drewN h n) now)
 have hh:=hid h
 have hs:=hi.small
 obtain ⟨c,hc⟩:∃c,check x now=c:=⟨_,rfl⟩
 have HC:=hid hc
 rw [hc] at C
 clear hc
 by_cases hc0:c=0
 ·subst hc0
  cases ha:allows x now
  ·have HT:Hid (take x now=(9,x)):=hid (by unfold take;rw [HC.out,ha];simp)
   rw [ha] at A
   clear hs ha h
   rw [HT.out]
   go_enter Tryz.func75,Tryz.ntmps75
   go_wp2_with fail
   have C:=C.out
   (with_reducible refine C.mono ?_)
   rintro e w' ⟨rfl,rfl⟩
   clear C
   go_wp2_with fail
   have C:=A.out
   (with_reducible refine C.mono ?_)
   rintro e w' ⟨rfl,n,rfl⟩
   clear C
   go_wp2_with fail
   go_ret
   exact ⟨rfl,Blk.drewN hh.out n,only_drewN (only_refl _ _) n⟩
  ·rw [ha] at A
   by_cases hh2:x.op=true∧x.un≤now
   ·have HT:Hid (take x now=(0,seen { x with under:=x.under+1 } now)):=hid (by unfold take;rw [HC.out,ha,if_pos hh2];simp)
    have hst:state x now=2:=by unfold state;rw [if_neg (by simp [hh2.1]),if_neg (by omega)]
    rw [hst] at S
    have hcell:=(rbox_cells h).2.2.2.2.2.2.2.2.1
    have hcell8:=(rbox_cells h).2.2.2.2.2.2.2.2.2
    have hz:=fun i=>Blk.frozen h i
    clear ha h hh2 hst
    rw [HT.out]
    go_enter Tryz.func75,Tryz.ntmps75
    go_wp2_with fail
    have C:=C.out
    (with_reducible refine C.mono ?_)
    rintro e w' ⟨rfl,rfl⟩
    clear C
    go_wp2_with fail
    have C:=A.out
    (with_reducible refine C.mono ?_)
    rintro e w' ⟨rfl,n,rfl⟩
    clear C
    go_wp2_with fail
    have C:=S.out n
    (with_reducible refine C.mono ?_)
    rintro e w' ⟨rfl,rfl⟩
    clear C
    go_wp2_with fail
    go_ret
    refine ⟨rfl,r_last (r_under (Blk.drewN hh.out n) _) _,?_⟩
    (repeat (first|(with_reducible exact only_refl _ _)|(with_reducible refine only_drewN ?_ _)|(with_reducible refine only_drew ?_)|(with_reducible refine only_alloc ?_ _)|(with_reducible refine only_setCell ?_ (.inl rfl) _)))
   ·have HT:Hid (take x now=(0,seen x now)):=hid (by unfold take;rw [HC.out,ha,if_neg hh2];simp)
    have hst:(state x now==2)=false:=by
     unfold state
     cases ho:x.op
     ·rfl
     ·rw [if_neg (by simp),if_pos (by rw [ho] at hh2;simp at hh2;omega)];rfl
    have hcell8:=(rbox_cells h).2.2.2.2.2.2.2.2.2
    have hz:=fun i=>Blk.frozen h i
    generalize state x now=s at *
    clear ha h hh2
    rw [HT.out]
    go_enter Tryz.func75,Tryz.ntmps75
    go_wp2_with fail
    have C:=C.out
    (with_reducible refine C.mono ?_)
    rintro e w' ⟨rfl,rfl⟩
    clear C
    go_wp2_with fail
    have C:=A.out
    (with_reducible refine C.mono ?_)
    rintro e w' ⟨rfl,n,rfl⟩
    clear C
    go_wp2_with fail
    have C:=S.out n
    (with_reducible refine C.mono ?_)
    rintro e w' ⟨rfl,rfl⟩
    clear C
    go_wp2_with fail
    go_ret
    refine ⟨rfl,r_last (Blk.drewN hh.out n) _,?_⟩
    (repeat (first|(with_reducible exact only_refl _ _)|(with_reducible refine only_drewN ?_ _)|(with_reducible refine only_drew ?_)|(with_reducible refine only_alloc ?_ _)|(with_reducible refine only_setCell ?_ (.inl rfl) _)))
 ·have HT:Hid (take x now=(c,x)):=hid (by unfold take;rw [HC.out,if_pos hc0])
  have hcb:(c != 0)=true:=by simp [hc0]
  clear hc0 hs h
  rw [HT.out]
  go_enter Tryz.func75,Tryz.ntmps75
  go_wp2_with fail
  have C:=C.out
  (with_reducible refine C.mono ?_)
  rintro e w' ⟨rfl,rfl⟩
  clear C
  go_wp2_with fail
  go_ret
  exact ⟨rfl,hh.out,only_refl _ _⟩
end
theorem ended_shut{x:Bx}(h:x.op=false)(ok:Bool)(now:Int):ended x ok now=closed x ok now:=by unfold ended;rw [if_pos h]
theorem ended_open{x:Bx}(h:x.op=true)(ok:Bool){now:Int}(hn:now<x.un):ended x ok now=(0,x):=by unfold ended;rw [if_neg (by simp [h]),if_pos hn]
theorem ended_half{x:Bx}(h:x.op=true)(ok:Bool){now:Int}(hn:¬now<x.un):ended x ok now=half x ok now:=by unfold ended;rw [if_neg (by simp [h]),if_neg hn]
theorem report_ended{x:Bx}{ok:Bool}{now ev:Int}{y:Bx}(hc:check x now=0)(hf:x.f≠0)(he:ended (seen x now) ok now=(ev,y)):report x ok now=(ev,0,y):=by
 unfold report;rw [hc,he];simp [hf]
section
variable{w:World}{b:Nat}{x:Bx}
theorem rreport_ok(h:RBoxAt w b x)(hi:Inv x)(ok:Bool)(now:Int) :
 Calls Tryz.prog 77 #[.pointer (some ⟨b,0,none⟩),.bool ok,.int .i64 now] w fun e w'=>e=.returned (.tuple #[.int .i64 (report x ok now).1,.int .i64 (report x ok now).2.1])∧RBoxAt w' b (report x ok now).2.2∧w.grownBy w' (some b):=by
 have C:=hid (first_ok h now)
 have hh:=hid h
 obtain ⟨-,hr,-,hp,-,-,hfl,hgd,hun,hl⟩:=rbox_cells h
 have hz:=fun i=>Blk.frozen h i
 have hs:=hi.small
 have HI:Hid (0≤(seen x now).o∧(seen x now).o≤68719476736):=hid ⟨hs.2.2.1,hs.2.2.2.1⟩
 obtain ⟨c,hc⟩:∃c,check x now=c:=⟨_,rfl⟩
 have HC:=hid hc
 rw [hc] at C
 clear hc
 by_cases hc0:c=0
 ·subst hc0
  by_cases hf:x.f=0
  ·have HT:Hid (report x ok now=(0,0,seen x now)):=hid (by unfold report;rw [HC.out];simp [hf])
   have hfb:(x.f==0)=true:=by simp [hf]
   clear hf h hi hs
   rw [HT.out]
   go_enter Tryz.func77,Tryz.ntmps77
   go_wp2_with fail
   have C:=C.out
   (with_reducible refine C.mono ?_)
   rintro e w' ⟨rfl,rfl⟩
   clear C
   go_wp2_with fail
   go_ret2
   exact ⟨rfl,r_last hh.out _,only_setCell (only_refl _ _) (.inl rfl) _⟩
  ·have hfb:(x.f==0)=false:=by simp [hf]
   obtain ⟨c1,c2,c3⟩:=check_zero HC.out
   unfold maxTime at c2
   have HL:=hid (r_last hh.out now)
   have hinv:=hi
   cases ho:x.op
   ·have hst:state (seen x now) now=0:=by unfold state;rw [if_pos (show (seen x now).op=false from ho)]
    have S:=rstate_ok HL.out now
    have hq:{ x with last:=now }=seen x now:=rfl
    rw [hq,hst] at S
    have S':=hid S
    cases ok
    ·by_cases hlt:x.fails+1<x.f
     ·have HT:Hid (report x false now=(0,0,{ seen x now with fails:=x.fails+1 })):=hid (report_ended HC.out hf (by rw [ended_shut (show (seen x now).op=false from ho)];simp [closed,seen,hlt]))
      have hne:((x.fails+1)==x.f)=false:=by rw [beq_eq_false_iff_ne];omega
      clear hf h hi hst S ho hinv c3 hq
      rw [HT.out]
      go_enter Tryz.func77,Tryz.ntmps77
      go_wp2_with fail
      have C:=C.out
      (with_reducible refine C.mono ?_)
      rintro e w' ⟨rfl,rfl⟩
      clear C
      go_wp2_with fail
      have C:=S'.out
      (with_reducible refine C.mono ?_)
      rintro e w' ⟨rfl,rfl⟩
      clear C
      go_wp2_with fail
      go_quiet (fail)
      go_wp2_with fail
      go_ret2
      refine ⟨rfl,Blk.drewN (r_fails HL.out (x.fails+1)) _,?_⟩
      (repeat (first|(with_reducible exact only_refl _ _)|(with_reducible refine only_drewN ?_ _)|(with_reducible refine only_drew ?_)|(with_reducible refine only_alloc ?_ _)|(with_reducible refine only_setCell ?_ (.inl rfl) _)))
     ·have hx:x.fails+1=x.f:=by
       have:=hinv.rule;have:=hinv.fails0;omega
      have HT:Hid (report x false now=(7,0,start (seen x now) now)):=hid (report_ended HC.out hf (by rw [ended_shut (show (seen x now).op=false from ho)];simp [closed,seen,hlt]))
      have hne:((x.fails+1)==x.f)=true:=by rw [beq_iff_eq];exact hx
      clear hf h hi hst S ho hinv c3 hq hx hlt
      rw [HT.out]
      go_enter Tryz.func77,Tryz.ntmps77
      go_wp2_with fail
      have C:=C.out
      (with_reducible refine C.mono ?_)
      rintro e w' ⟨rfl,rfl⟩
      clear C
      go_wp2_with fail
      have C:=S'.out
      (with_reducible refine C.mono ?_)
      rintro e w' ⟨rfl,rfl⟩
      clear C
      go_wp2_with fail
      go_quiet (fail)
      go_wp2_with fail
      have C:=(fun n=>to_ok (x:={ seen x now with fails:=x.fails+1 }) (Blk.drewN (r_fails HL.out (x.fails+1)) n) HI.out true now c1 c2)
      (with_reducible refine (C _).mono ?_)
      rintro e w1 ⟨rfl,hb,hg⟩
      clear C
      have HB:=hid (hb)
      have HG:=hid (hg)
      clear hb hg
      go_wp2_with fail
      go_ret2
      refine ⟨rfl,HB.out,only_trans ?_ HG.out⟩
      (repeat (first|(with_reducible exact only_refl _ _)|(with_reducible refine only_drewN ?_ _)|(with_reducible refine only_drew ?_)|(with_reducible refine only_alloc ?_ _)|(with_reducible refine only_setCell ?_ (.inl rfl) _)))
    ·have HT:Hid (report x true now=(0,0,{ seen x now with fails:=0 })):=hid (report_ended HC.out hf (by rw [ended_shut (show (seen x now).op=false from ho)];simp [closed]))
     clear hf h hi hst S ho hinv c3 hq
     rw [HT.out]
     go_enter Tryz.func77,Tryz.ntmps77
     go_wp2_with fail
     have C:=C.out
     (with_reducible refine C.mono ?_)
     rintro e w' ⟨rfl,rfl⟩
     clear C
     go_wp2_with fail
     have C:=S'.out
     (with_reducible refine C.mono ?_)
     rintro e w' ⟨rfl,rfl⟩
     clear C
     go_wp2_with fail
     go_ret2
     refine ⟨rfl,r_fails HL.out 0,?_⟩
     (repeat (first|(with_reducible exact only_refl _ _)|(with_reducible refine only_drewN ?_ _)|(with_reducible refine only_drew ?_)|(with_reducible refine only_alloc ?_ _)|(with_reducible refine only_setCell ?_ (.inl rfl) _)))
   ·by_cases hn:now<x.un
    ·have hst:state (seen x now) now=1:=by unfold state;rw [if_neg (by rw [show (seen x now).op=true from ho];simp),if_pos (show now<(seen x now).un from hn)]
     have S:=rstate_ok HL.out now
     have hq:{ x with last:=now }=seen x now:=rfl
     rw [hq,hst] at S
     have S':=hid S
     have HT:Hid (report x ok now=(0,0,seen x now)):=hid (report_ended HC.out hf (ended_open (show (seen x now).op=true from ho) ok (show now<(seen x now).un from hn)))
     clear hf h hi hst S ho hinv c3 hq hn
     rw [HT.out]
     go_enter Tryz.func77,Tryz.ntmps77
     go_wp2_with fail
     have C:=C.out
     (with_reducible refine C.mono ?_)
     rintro e w' ⟨rfl,rfl⟩
     clear C
     go_wp2_with fail
     have C:=S'.out
     (with_reducible refine C.mono ?_)
     rintro e w' ⟨rfl,rfl⟩
     clear C
     go_wp2_with fail
     go_ret2
     refine ⟨rfl,HL.out,?_⟩
     (repeat (first|(with_reducible exact only_refl _ _)|(with_reducible refine only_drewN ?_ _)|(with_reducible refine only_drew ?_)|(with_reducible refine only_alloc ?_ _)|(with_reducible refine only_setCell ?_ (.inl rfl) _)))
    ·have hst:state (seen x now) now=2:=by unfold state;rw [if_neg (by rw [show (seen x now).op=true from ho];simp),if_neg (show ¬now<(seen x now).un from hn)]
     have S:=rstate_ok HL.out now
     have hq:{ x with last:=now }=seen x now:=rfl
     rw [hq,hst] at S
     have S':=hid S
     have he:=ended_half (show (seen x now).op=true from ho) ok (show ¬now<(seen x now).un from hn)
     have hop:=hinv.opened ho
     cases ok
     ·have HT:Hid (report x false now=(7,0,start (seen x now) now)):=hid (report_ended HC.out hf (by rw [he];rfl))
      clear hf h hi hst S ho hinv c3 hq hn he hop
      rw [HT.out]
      go_enter Tryz.func77,Tryz.ntmps77
      go_wp2_with fail
      have C:=C.out
      (with_reducible refine C.mono ?_)
      rintro e w' ⟨rfl,rfl⟩
      clear C
      go_wp2_with fail
      have C:=S'.out
      (with_reducible refine C.mono ?_)
      rintro e w' ⟨rfl,rfl⟩
      clear C
      go_wp2_with fail
      have C:=to_ok HL.out HI.out true now c1 c2
      (with_reducible refine C.mono ?_)
      rintro e w1 ⟨rfl,hb,hg⟩
      clear C
      have HB:=hid (hb)
      have HG:=hid (hg)
      clear hb hg
      go_wp2_with fail
      go_ret2
      refine ⟨rfl,HB.out,only_trans ?_ HG.out⟩
      (repeat (first|(with_reducible exact only_refl _ _)|(with_reducible refine only_drewN ?_ _)|(with_reducible refine only_drew ?_)|(with_reducible refine only_alloc ?_ _)|(with_reducible refine only_setCell ?_ (.inl rfl) _)))
     ·by_cases hu0:x.under=0
      ·have HT:Hid (report x true now=(0,0,seen x now)):=hid (report_ended HC.out hf (by rw [he];unfold half;rw [if_neg (by simp),if_pos (show (seen x now).under=0 from hu0)]))
       have hub:decide (0<x.under)=false:=decide_eq_false (by omega)
       clear hf h hi hst S ho hinv c3 hq hn he hop hu0
       rw [HT.out]
       go_enter Tryz.func77,Tryz.ntmps77
       go_wp2_with fail
       have C:=C.out
       (with_reducible refine C.mono ?_)
       rintro e w' ⟨rfl,rfl⟩
       clear C
       go_wp2_with fail
       have C:=S'.out
       (with_reducible refine C.mono ?_)
       rintro e w' ⟨rfl,rfl⟩
       clear C
       go_wp2_with fail
       go_ret2
       refine ⟨rfl,HL.out,?_⟩
       (repeat (first|(with_reducible exact only_refl _ _)|(with_reducible refine only_drewN ?_ _)|(with_reducible refine only_drew ?_)|(with_reducible refine only_alloc ?_ _)|(with_reducible refine only_setCell ?_ (.inl rfl) _)))
      ·have hu1:0<x.under:=by have:=hinv.under0;omega
       by_cases hlt:x.good+1<x.p
       ·have HT:Hid (report x true now=(0,0,{ seen x now with under:=x.under - 1,good:=x.good+1 })):=hid (report_ended HC.out hf (by rw [he];unfold half;rw [if_neg (by simp),if_neg (show ¬(seen x now).under=0 from hu0),if_pos (show (seen x now).good+1<(seen x now).p from hlt)];rfl))
        have hne:((x.good+1)==x.p)=false:=by rw [beq_eq_false_iff_ne];omega
        clear hf h hi hst S ho hinv c3 hq hn he hop hu0
        rw [HT.out]
        go_enter Tryz.func77,Tryz.ntmps77
        go_wp2_with fail
        have C:=C.out
        (with_reducible refine C.mono ?_)
        rintro e w' ⟨rfl,rfl⟩
        clear C
        go_wp2_with fail
        have C:=S'.out
        (with_reducible refine C.mono ?_)
        rintro e w' ⟨rfl,rfl⟩
        clear C
        go_wp2_with fail
        go_quiet (fail)
        go_wp2_with fail
        go_ret2
        refine ⟨rfl,Blk.drewN (r_good (r_under HL.out (x.under - 1)) (x.good+1)) _,?_⟩
        (repeat (first|(with_reducible exact only_refl _ _)|(with_reducible refine only_drewN ?_ _)|(with_reducible refine only_drew ?_)|(with_reducible refine only_alloc ?_ _)|(with_reducible refine only_setCell ?_ (.inl rfl) _)))
       ·have HT:Hid (report x true now=(8,0,stop (seen x now))):=hid (report_ended HC.out hf (by rw [he];unfold half;rw [if_neg (by simp),if_neg (show ¬(seen x now).under=0 from hu0),if_neg (show ¬(seen x now).good+1<(seen x now).p from hlt)]))
        have hne:((x.good+1)==x.p)=true:=by rw [beq_iff_eq];omega
        clear hf h hi hst S ho hinv c3 hq hn he hop hu0 hlt
        rw [HT.out]
        go_enter Tryz.func77,Tryz.ntmps77
        go_wp2_with fail
        have C:=C.out
        (with_reducible refine C.mono ?_)
        rintro e w' ⟨rfl,rfl⟩
        clear C
        go_wp2_with fail
        have C:=S'.out
        (with_reducible refine C.mono ?_)
        rintro e w' ⟨rfl,rfl⟩
        clear C
        go_wp2_with fail
        go_quiet (fail)
        go_wp2_with fail
        have C:=(fun n=>to_ok (x:={ seen x now with under:=x.under - 1,good:=x.good+1 }) (Blk.drewN (r_good (r_under HL.out (x.under - 1)) (x.good+1)) n) HI.out false now c1 c2)
        (with_reducible refine (C _).mono ?_)
        rintro e w1 ⟨rfl,hb,hg⟩
        clear C
        have HB:=hid (hb)
        have HG:=hid (hg)
        clear hb hg
        go_wp2_with fail
        go_ret2
        refine ⟨rfl,HB.out,only_trans ?_ HG.out⟩
        (repeat (first|(with_reducible exact only_refl _ _)|(with_reducible refine only_drewN ?_ _)|(with_reducible refine only_drew ?_)|(with_reducible refine only_alloc ?_ _)|(with_reducible refine only_setCell ?_ (.inl rfl) _)))
 ·have HT:Hid (report x ok now=(0,c,x)):=hid (by unfold report;rw [HC.out,if_pos hc0])
  have hcb:(c != 0)=true:=by simp [hc0]
  clear hc0 h hi hs
  rw [HT.out]
  go_enter Tryz.func77,Tryz.ntmps77
  go_wp2_with fail
  have C:=C.out
  (with_reducible refine C.mono ?_)
  rintro e w' ⟨rfl,rfl⟩
  clear C
  go_wp2_with fail
  go_ret2
  exact ⟨rfl,hh.out,only_refl _ _⟩
end
def checkF(f o p:Int):Int:=if zero f o p=true∨ruled f o p=true then 0 else 16
theorem rcheck_ok(f o p:Int)(w:World) :
 Calls Tryz.prog 127 #[.agg #[.int .i64 f,.int .i64 o,.int .i64 p]] w fun e w'=>e=.returned (.int .i64 (checkF f o p))∧Below w.heap.size w w':=by
 by_cases hz:f=0∧o=0∧p=0
 ·obtain ⟨rfl,rfl,rfl⟩:=hz
  go_enter Tryz.func127,Tryz.ntmps127
  go_wp2_with fail
  go_ret
  exact ⟨rfl,(Below.refl _ _).alloc (Nat.le_refl _) _⟩
 ·have hzf:zero f o p=false:=by unfold zero;exact decide_eq_false hz
  by_cases hr:1≤f∧f≤100∧1≤o∧o≤68719476736∧1≤p∧p≤100
  ·have HC:Hid (checkF f o p=0):=hid (by unfold checkF;rw [if_pos (.inr (by unfold ruled;exact decide_eq_true hr))])
   obtain ⟨f1,f2,o1,o2,p1,p2⟩:=hr
   have hf:¬f=0:=by omega
   rw [HC.out]
   clear hz hzf
   go_enter Tryz.func127,Tryz.ntmps127
   go_wp2_with fail
   go_ret
   exact ⟨rfl,(Below.refl _ _).alloc (Nat.le_refl _) _⟩
  ·have HC:Hid (checkF f o p=16):=hid (by unfold checkF;rw [if_neg];rintro (h|h);(rw [hzf] at h;cases h);exact hr (of_decide_eq_true h))
   rw [HC.out]
   clear hzf
   by_cases hf:f=0
   ·subst hf
    by_cases ho:o=0
    ·subst ho
     have hp:¬p=0:=by omega
     clear hz hr
     go_enter Tryz.func127,Tryz.ntmps127
     go_wp2_with fail
     go_ret
     exact ⟨rfl,(Below.refl _ _).alloc (Nat.le_refl _) _⟩
    ·clear hz hr
     go_enter Tryz.func127,Tryz.ntmps127
     go_wp2_with fail
     go_ret
     exact ⟨rfl,(Below.refl _ _).alloc (Nat.le_refl _) _⟩
   ·have hr':=hid hr
    clear hz hr
    go_enter Tryz.func127,Tryz.ntmps127
    go_wp2_with fail
    all_goals first
     | (exact absurd ⟨by omega,by omega,by omega,by omega,by omega,by omega⟩ hr'.out)
     | (go_ret;exact ⟨rfl,(Below.refl _ _).alloc (Nat.le_refl _) _⟩)
theorem rnew_ok(f o p:Int)(w:World)(h:zero f o p=true∨ruled f o p=true) :
 Calls Tryz.prog 72 #[.agg #[.int .i64 f,.int .i64 o,.int .i64 p]] w fun e w'=>∃n,e=.returned (.tuple #[.pointer (some ⟨n,0,none⟩),.int .i64 0])∧RBoxAt w' n (fresh f o p)∧Below w.heap.size w w'∧w.heap.size≤n:=by
 have HC:Hid (checkF f o p=0):=hid (by unfold checkF;rw [if_pos h])
 have C:=rcheck_ok f o p (w.alloc (.cells #[.int .i64 f,.int .i64 o,.int .i64 p] 51))
 rw [HC.out] at C
 have C':=hid C
 clear C h
 go_enter Tryz.func72,Tryz.ntmps72
 go_wp2_with fail
 have C:=C'.out
 (with_reducible refine C.mono ?_)
 rintro e w1 ⟨rfl,hb⟩
 clear C
 have HB:=hid hb
 have h0:w1.cell? ⟨w.heap.size,0,none⟩=some (.int .i64 f):=by rw [hb.cell (p:=⟨w.heap.size,0,none⟩) (by simp)];simp
 have h1:w1.cell? ⟨w.heap.size,1,none⟩=some (.int .i64 o):=by rw [hb.cell (p:=⟨w.heap.size,1,none⟩) (by simp)];simp
 have h2:w1.cell? ⟨w.heap.size,2,none⟩=some (.int .i64 p):=by rw [hb.cell (p:=⟨w.heap.size,2,none⟩) (by simp)];simp
 clear hb
 go_wp2_with fail
 go_ret2
 have h9:=HB.out.size
 simp at h9
 exact ⟨_,rfl,Blk.newAt rfl,(((Below.refl _ _).alloc (Nat.le_refl _) _).trans (HB.out.mono (by simp))).alloc (by omega) _,by omega⟩
end Go.Proofs.YtpgckpafjiojfaaGreatDoor.BK
