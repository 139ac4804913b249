/- Contracts of the limiters: gcra's and the reference's. Contracts of the limiters, second part: Next, Tat, the reference's Take, making and copying. Contracts of the limiters, third part: the reference's Take; making and copying. Contracts of the limiters, fourth part: Restore. -/
import Derived.Test.YtpgckpafjiojfaaGreatDoorALm
open Go.Lib (hid)
set_option maxRecDepth 16000
set_option maxHeartbeats 40000000
namespace Go.Proofs.YtpgckpafjiojfaaGreatDoor.AD
open Go Go.RowKit
open BK (Blk only_refl only_drew only_drewN only_setCell only_trans only_of_below only_alloc below_drewN)
def Lm.cells(x:Lm):Array Value:=#[.bool x.so,.int .i64 x.tat,.int .i64 x.last,.int .i64 x.t,.int .i64 x.tau,.bool true]
def Lm.rcells(x:Lm):Array Value:=#[.bool true,.int .i64 x.t,.int .i64 x.tau,.bool x.so,.int .i64 x.tat,.int .i64 x.last]
def LmAt(w:World)(b:Nat)(x:Lm):Prop:=Blk w b 179 x.cells
def RLmAt(w:World)(b:Nat)(x:Lm):Prop:=Blk w b 196 x.rcells
theorem retB{a b:Bool}(h:a=b):Ending.returned (.bool a)=.returned (.bool b):=by rw [h]
theorem retI{a b:Int}(h:a=b):Ending.returned (.int .i64 a)=.returned (.int .i64 b):=by rw [h]
theorem retII{a b c d:Int}(h:a=b)(h':c=d):Ending.returned (.tuple #[.int .i64 a,.int .i64 c])=.returned (.tuple #[.int .i64 b,.int .i64 d]):=by rw [h,h']
theorem istime_ok(now:Int)(w:World):Calls Tryz.prog 119 #[.int .i64 now] w fun e w'=>e=.returned (.bool (timeB now))∧w=w':=by
 unfold timeB
 by_cases h:0≤now
 all_goals
  go_enter Tryz.func119,Tryz.ntmps119
  go_wp2
  go_ret
  exact ⟨retB (by simp;try omega),rfl⟩
section
variable{w:World}{b:Nat}{x:Lm}
theorem early_ok(h:LmAt w b x)(hi:x.Inv)(now:Int):Calls Tryz.prog 120 #[.pointer (some ⟨b,0,none⟩),.int .i64 now] w fun e w'=>e=.returned (.bool (x.early now))∧∃n,w'=w.drewN n:=by
 have hs:=hi.small
 obtain ⟨t,tau,so,tat,last⟩:=x
 have c0:w.cell? ⟨b,0,none⟩=some (.bool so):=Blk.cell h 0
 have c1:w.cell? ⟨b,1,none⟩=some (.int .i64 tat):=Blk.cell h 1
 have c2:w.cell? ⟨b,2,none⟩=some (.int .i64 last):=Blk.cell h 2
 have c3:w.cell? ⟨b,3,none⟩=some (.int .i64 t):=Blk.cell h 3
 have c4:w.cell? ⟨b,4,none⟩=some (.int .i64 tau):=Blk.cell h 4
 have c5:w.cell? ⟨b,5,none⟩=some (.bool true):=Blk.cell h 5
 clear h hi
 simp only at hs
 have hw:IntKind.i64.wrap (tat - tau)=tat - tau:=IntWalk.i64_in _ (by omega)
 unfold Lm.early
 simp only
 by_cases ht:0<t
 ·have d1:decide (0<t)=true:=decide_eq_true ht
  rw [d1]
  cases so
  all_goals
   go_enter Tryz.func120,Tryz.ntmps120
   go_wp2_with fail
   go_quiet (fail)
   go_wp2_with fail
   go_ret
   exact ⟨retB (by simp),_,rfl⟩
 ·have d1:decide (0<t)=false:=decide_eq_false ht
  rw [d1]
  go_enter Tryz.func120,Tryz.ntmps120
  go_wp2_with fail
  go_quiet (fail)
  go_wp2_with fail
  go_ret
  exact ⟨retB (by simp),_,rfl⟩
theorem rearly_ok(h:RLmAt w b x)(hi:x.Inv)(now:Int):Calls Tryz.prog 160 #[.pointer (some ⟨b,0,none⟩),.int .i64 now] w fun e w'=>e=.returned (.bool (x.early now))∧∃n,w'=w.drewN n:=by
 have hs:=hi.small
 obtain ⟨t,tau,so,tat,last⟩:=x
 have c0:w.cell? ⟨b,0,none⟩=some (.bool true):=Blk.cell h 0
 have c1:w.cell? ⟨b,1,none⟩=some (.int .i64 t):=Blk.cell h 1
 have c2:w.cell? ⟨b,2,none⟩=some (.int .i64 tau):=Blk.cell h 2
 have c3:w.cell? ⟨b,3,none⟩=some (.bool so):=Blk.cell h 3
 have c4:w.cell? ⟨b,4,none⟩=some (.int .i64 tat):=Blk.cell h 4
 have c5:w.cell? ⟨b,5,none⟩=some (.int .i64 last):=Blk.cell h 5
 clear h hi
 simp only at hs
 have hw:IntKind.i64.wrap (tat - tau)=tat - tau:=IntWalk.i64_in _ (by omega)
 unfold Lm.early
 simp only
 by_cases ht:0<t
 ·have d1:decide (0<t)=true:=decide_eq_true ht
  rw [d1]
  cases so
  all_goals
   go_enter Tryz.func160,Tryz.ntmps160
   go_wp2_with fail
   go_quiet (fail)
   go_wp2_with fail
   go_ret
   exact ⟨retB (by simp),_,rfl⟩
 ·have d1:decide (0<t)=false:=decide_eq_false ht
  rw [d1]
  go_enter Tryz.func160,Tryz.ntmps160
  go_wp2_with fail
  go_quiet (fail)
  go_wp2_with fail
  go_ret
  exact ⟨retB (by simp),_,rfl⟩
theorem rlvalid_ok(h:RLmAt w b x):Calls Tryz.prog 159 #[.pointer (some ⟨b,0,none⟩)] w fun e w'=>e=.returned (.bool true)∧w=w':=by
 have c0:w.cell? ⟨b,0,none⟩=some (.bool true):=Blk.cell h 0
 clear h
 go_enter Tryz.func159,Tryz.ntmps159
 go_wp2
 go_ret
 exact ⟨rfl,rfl⟩
theorem check_ok(h:LmAt w b x)(hi:x.Inv)(now:Int):Calls Tryz.prog 115 #[.pointer (some ⟨b,0,none⟩),.int .i64 now] w fun e w'=>e=.returned (.int .i64 (x.check now))∧∃n,w'=w.drewN n:=by
 have E:=hid (early_ok h hi now)
 have T:=hid (istime_ok now w)
 have HV:Hid (x.check now=if timeB now=false then 14 else if (x.so&&decide (now<x.last))=true then 8 else if x.early now=true then 9 else 0):=hid rfl
 generalize x.check now=R at *
 generalize x.early now=eb at *
 obtain ⟨t,tau,so,tat,last⟩:=x
 have c0:w.cell? ⟨b,0,none⟩=some (.bool so):=Blk.cell h 0
 have c1:w.cell? ⟨b,1,none⟩=some (.int .i64 tat):=Blk.cell h 1
 have c2:w.cell? ⟨b,2,none⟩=some (.int .i64 last):=Blk.cell h 2
 have c3:w.cell? ⟨b,3,none⟩=some (.int .i64 t):=Blk.cell h 3
 have c4:w.cell? ⟨b,4,none⟩=some (.int .i64 tau):=Blk.cell h 4
 have c5:w.cell? ⟨b,5,none⟩=some (.bool true):=Blk.cell h 5
 clear h hi
 simp only at HV
 by_cases h0:0≤now
 ·by_cases h1:now≤253402300799
  ·have tb:timeB now=true:=timeB_iff.2 ⟨h0,h1⟩
   rw [tb] at T HV
   clear tb
   by_cases h2:now<last
   ·cases so
    ·have HR:Hid (R=if eb=true then 9 else 0):=hid (by rw [HV.out];simp)
     clear HV
     cases eb
     all_goals
      go_enter Tryz.func115,Tryz.ntmps115
      go_wp2_with fail
      refine (T.out).mono ?_
      rintro e w' ⟨rfl,rfl⟩
      go_wp2_with fail
      refine (E.out).mono ?_
      rintro e w' ⟨rfl,n,rfl⟩
      go_wp2_with fail
      go_ret
      exact ⟨retI (by rw [HR.out];rfl),n,rfl⟩
    ·have HR:Hid (R=8):=hid (by rw [HV.out];simp [h2])
     clear HV
     go_enter Tryz.func115,Tryz.ntmps115
     go_wp2_with fail
     refine (T.out).mono ?_
     rintro e w' ⟨rfl,rfl⟩
     go_wp2_with fail
     go_ret
     exact ⟨retI (by rw [HR.out]),0,rfl⟩
   ·have HR:Hid (R=if eb=true then 9 else 0):=hid (by rw [HV.out];simp [h2])
    clear HV
    cases so
    all_goals
     cases eb
     all_goals
      go_enter Tryz.func115,Tryz.ntmps115
      go_wp2_with fail
      refine (T.out).mono ?_
      rintro e w' ⟨rfl,rfl⟩
      go_wp2_with fail
      refine (E.out).mono ?_
      rintro e w' ⟨rfl,n,rfl⟩
      go_wp2_with fail
      go_ret
      exact ⟨retI (by rw [HR.out];rfl),n,rfl⟩
  ·have tb:timeB now=false:=by unfold timeB;rw [decide_eq_false h1,Bool.and_false]
   rw [tb] at T HV
   have HR:Hid (R=14):=hid (by rw [HV.out];rfl)
   clear HV tb
   go_enter Tryz.func115,Tryz.ntmps115
   go_wp2_with fail
   refine (T.out).mono ?_
   rintro e w' ⟨rfl,rfl⟩
   go_wp2_with fail
   go_ret
   exact ⟨retI (by rw [HR.out]),0,rfl⟩
 ·have tb:timeB now=false:=by unfold timeB;rw [decide_eq_false h0,Bool.false_and]
  rw [tb] at T HV
  have HR:Hid (R=14):=hid (by rw [HV.out];rfl)
  clear HV tb
  go_enter Tryz.func115,Tryz.ntmps115
  go_wp2_with fail
  refine (T.out).mono ?_
  rintro e w' ⟨rfl,rfl⟩
  go_wp2_with fail
  go_ret
  exact ⟨retI (by rw [HR.out]),0,rfl⟩
theorem allows_ok(h:LmAt w b x)(hi:x.Inv)(now:Int):Calls Tryz.prog 58 #[.pointer (some ⟨b,0,none⟩),.int .i64 now] w fun e w'=>e=.returned (.bool (x.allows now))∧∃n,w'=w.drewN n:=by
 have C:=hid (check_ok h hi now)
 have HV:Hid (x.allows now=decide (x.check now=0)):=hid rfl
 generalize x.allows now=R at *
 generalize x.check now=E at *
 clear h hi
 go_enter Tryz.func58,Tryz.ntmps58
 go_wp2_with fail
 refine (C.out).mono ?_
 rintro e w' ⟨rfl,n,rfl⟩
 go_wp2_with fail
 go_ret
 exact ⟨retB (by rw [HV.out];first|rfl|(by_cases hE:E=0<;>simp [hE])),n,rfl⟩
theorem rcheck_ok(h:RLmAt w b x)(hi:x.Inv)(now:Int):Calls Tryz.prog 129 #[.pointer (some ⟨b,0,none⟩),.int .i64 now] w fun e w'=>e=.returned (.int .i64 (x.check now))∧∃n,w'=w.drewN n:=by
 have E:=hid (rearly_ok h hi now)
 have V:=hid (rlvalid_ok h)
 have HV:Hid (x.check now=if timeB now=false then 14 else if (x.so&&decide (now<x.last))=true then 8 else if x.early now=true then 9 else 0):=hid rfl
 generalize x.check now=R at *
 generalize x.early now=eb at *
 obtain ⟨t,tau,so,tat,last⟩:=x
 have c0:w.cell? ⟨b,0,none⟩=some (.bool true):=Blk.cell h 0
 have c1:w.cell? ⟨b,1,none⟩=some (.int .i64 t):=Blk.cell h 1
 have c2:w.cell? ⟨b,2,none⟩=some (.int .i64 tau):=Blk.cell h 2
 have c3:w.cell? ⟨b,3,none⟩=some (.bool so):=Blk.cell h 3
 have c4:w.cell? ⟨b,4,none⟩=some (.int .i64 tat):=Blk.cell h 4
 have c5:w.cell? ⟨b,5,none⟩=some (.int .i64 last):=Blk.cell h 5
 clear h hi
 simp only at HV
 by_cases h0:0≤now
 ·by_cases h1:now≤253402300799
  ·have tb:timeB now=true:=timeB_iff.2 ⟨h0,h1⟩
   rw [tb] at HV
   clear tb
   by_cases h2:now<last
   ·cases so
    ·have HR:Hid (R=if eb=true then 9 else 0):=hid (by rw [HV.out];simp)
     clear HV
     cases eb
     all_goals
      go_enter Tryz.func129,Tryz.ntmps129
      go_wp2_with fail
      refine (V.out).mono ?_
      rintro e w' ⟨rfl,rfl⟩
      go_wp2_with fail
      refine (E.out).mono ?_
      rintro e w' ⟨rfl,n,rfl⟩
      go_wp2_with fail
      go_ret
      exact ⟨retI (by rw [HR.out];rfl),n,rfl⟩
    ·have HR:Hid (R=8):=hid (by rw [HV.out];simp [h2])
     clear HV
     go_enter Tryz.func129,Tryz.ntmps129
     go_wp2_with fail
     refine (V.out).mono ?_
     rintro e w' ⟨rfl,rfl⟩
     go_wp2_with fail
     go_ret
     exact ⟨retI (by rw [HR.out]),0,rfl⟩
   ·have HR:Hid (R=if eb=true then 9 else 0):=hid (by rw [HV.out];simp [h2])
    clear HV
    cases so
    all_goals
     cases eb
     all_goals
      go_enter Tryz.func129,Tryz.ntmps129
      go_wp2_with fail
      refine (V.out).mono ?_
      rintro e w' ⟨rfl,rfl⟩
      go_wp2_with fail
      refine (E.out).mono ?_
      rintro e w' ⟨rfl,n,rfl⟩
      go_wp2_with fail
      go_ret
      exact ⟨retI (by rw [HR.out];rfl),n,rfl⟩
  ·have tb:timeB now=false:=by unfold timeB;rw [decide_eq_false h1,Bool.and_false]
   rw [tb] at HV
   have HR:Hid (R=14):=hid (by rw [HV.out];rfl)
   clear HV tb
   go_enter Tryz.func129,Tryz.ntmps129
   go_wp2_with fail
   refine (V.out).mono ?_
   rintro e w' ⟨rfl,rfl⟩
   go_wp2_with fail
   go_ret
   exact ⟨retI (by rw [HR.out]),0,rfl⟩
 ·have tb:timeB now=false:=by unfold timeB;rw [decide_eq_false h0,Bool.false_and]
  rw [tb] at HV
  have HR:Hid (R=14):=hid (by rw [HV.out];rfl)
  clear HV tb
  go_enter Tryz.func129,Tryz.ntmps129
  go_wp2_with fail
  refine (V.out).mono ?_
  rintro e w' ⟨rfl,rfl⟩
  go_wp2_with fail
  go_ret
  exact ⟨retI (by rw [HR.out]),0,rfl⟩
theorem rallows_ok(h:RLmAt w b x)(hi:x.Inv)(now:Int):Calls Tryz.prog 158 #[.pointer (some ⟨b,0,none⟩),.int .i64 now] w fun e w'=>e=.returned (.bool (x.allows now))∧∃n,w'=w.drewN n:=by
 have C:=hid (rcheck_ok h hi now)
 have HV:Hid (x.allows now=decide (x.check now=0)):=hid rfl
 generalize x.allows now=R at *
 generalize x.check now=E at *
 clear h hi
 go_enter Tryz.func158,Tryz.ntmps158
 go_wp2_with fail
 refine (C.out).mono ?_
 rintro e w' ⟨rfl,n,rfl⟩
 go_wp2_with fail
 go_ret
 exact ⟨retB (by rw [HV.out];first|rfl|(by_cases hE:E=0<;>simp [hE])),n,rfl⟩
theorem count_ok(h:LmAt w b x)(hi:x.Inv)(now:Int)(h0:timeB now=true):Calls Tryz.prog 116 #[.pointer (some ⟨b,0,none⟩),.int .i64 now] w fun e w'=>e=.returned (.tuple #[])∧LmAt w' b (x.count now)∧w.grownBy w' (some b):=by
 have hs:=hi.small
 have ht:=timeB_iff.1 h0
 have hh:=hid h
 obtain ⟨t,tau,so,tat,last⟩:=x
 have c0:w.cell? ⟨b,0,none⟩=some (.bool so):=Blk.cell h 0
 have c1:w.cell? ⟨b,1,none⟩=some (.int .i64 tat):=Blk.cell h 1
 have c2:w.cell? ⟨b,2,none⟩=some (.int .i64 last):=Blk.cell h 2
 have c3:w.cell? ⟨b,3,none⟩=some (.int .i64 t):=Blk.cell h 3
 have c4:w.cell? ⟨b,4,none⟩=some (.int .i64 tau):=Blk.cell h 4
 have c5:w.cell? ⟨b,5,none⟩=some (.bool true):=Blk.cell h 5
 have f0:w.frozen? ⟨b,0,none⟩=false:=Blk.frozen h 0
 have f1:w.frozen? ⟨b,1,none⟩=false:=Blk.frozen h 1
 have f2:w.frozen? ⟨b,2,none⟩=false:=Blk.frozen h 2
 have f3:w.frozen? ⟨b,3,none⟩=false:=Blk.frozen h 3
 have f4:w.frozen? ⟨b,4,none⟩=false:=Blk.frozen h 4
 have f5:w.frozen? ⟨b,5,none⟩=false:=Blk.frozen h 5
 clear h hi h0
 simp only at hs
 have hw:IntKind.i64.wrap (max now tat+t)=max now tat+t:=IntWalk.i64_in _ (by omega)
 go_enter Tryz.func116,Tryz.ntmps116
 go_wp2_with fail
 go_still_tail 13,(by kernel_rfl)
 change wpList _ _ _ _ _ w.drew
 go_wp2_with fail
 go_end0
 refine ⟨rfl,?_,?_⟩
 ·have h1:=(((hh.out.drew).set_ 1 (.int .i64 (max now tat+t))).set_ 2 (.int .i64 now)).set_ 0 (.bool true)
  exact h1
 ·(repeat (first|(with_reducible exact only_refl _ _)|(with_reducible refine only_drew ?_)|(with_reducible refine only_setCell ?_ (.inl rfl) _)))
theorem ltake_ok(h:LmAt w b x)(hi:x.Inv)(now:Int):Calls Tryz.prog 49 #[.pointer (some ⟨b,0,none⟩),.int .i64 now] w fun e w'=>e=.returned (.int .i64 (x.take now).1)∧LmAt w' b (x.take now).2∧w.grownBy w' (some b):=by
 have C:=hid (check_ok h hi now)
 have hh:=hid h
 by_cases hc:x.check now=0
 ·have HT:Hid (x.take now=(0,x.count now)):=hid (by unfold Lm.take;rw [if_pos hc])
  rw [hc] at C
  have CC:=hid (fun n=>count_ok (w:=w.drewN n) (hh.out.drewN n) hi now (Lm.check_zero hc).1)
  clear h hi hc
  go_enter Tryz.func49,Tryz.ntmps49
  go_wp2_with fail
  refine (C.out).mono ?_
  rintro e w' ⟨rfl,n,rfl⟩
  go_wp2_with fail
  refine (CC.out n).mono ?_
  rintro e w2 ⟨rfl,h2,h3⟩
  have H2:=hid h2
  have H3:=hid h3
  clear h2 h3
  go_wp2_with fail
  go_ret
  rw [HT.out]
  exact ⟨rfl,H2.out,only_trans (only_drewN (only_refl w _) n) H3.out⟩
 ·have HT:Hid (x.take now=(x.check now,x)):=hid (by unfold Lm.take;rw [if_neg hc])
  generalize x.check now=E at *
  have q1:(E==0)=false:=by rw [beq_eq_false_iff_ne];exact hc
  have q2:(E != 0)=true:=by rw [bne,q1];rfl
  clear h hi hc
  go_enter Tryz.func49,Tryz.ntmps49
  go_wp2_with fail
  refine (C.out).mono ?_
  rintro e w' ⟨rfl,n,rfl⟩
  go_wp2_with fail
  go_ret
  rw [HT.out]
  exact ⟨rfl,hh.out.drewN n,only_drewN (only_refl w _) n⟩
end
theorem drewN_drewN(w:World)(n m:Nat):(w.drewN n).drewN m=w.drewN (n+m):=by
 unfold World.drewN
 simp [Nat.add_assoc]
section
variable{w:World}{b:Nat}{x:Lm}
theorem next_ok(h:LmAt w b x)(hi:x.Inv)(now:Int):Calls Tryz.prog 63 #[.pointer (some ⟨b,0,none⟩),.int .i64 now] w fun e w'=>e=.returned (.tuple #[.int .i64 (x.next now).1,.int .i64 (x.next now).2])∧∃n,w'=w.drewN n:=by
 have E:=hid (early_ok h hi (max now x.last))
 have T:=hid (istime_ok now w)
 have HV:Hid (x.next now=if timeB now=false then (0,14) else (if x.so=false then now else if x.early (max now x.last)=true then x.tat - x.tau else max now x.last,0)):=hid rfl
 have hs:=hi.small
 have hz:x.so=false→x.early now=false:=by
  intro h
  unfold Lm.early
  rw [h]
  simp
 generalize x.next now=R at *
 generalize x.early (max now x.last)=eb at *
 obtain ⟨t,tau,so,tat,last⟩:=x
 have c0:w.cell? ⟨b,0,none⟩=some (.bool so):=Blk.cell h 0
 have c1:w.cell? ⟨b,1,none⟩=some (.int .i64 tat):=Blk.cell h 1
 have c2:w.cell? ⟨b,2,none⟩=some (.int .i64 last):=Blk.cell h 2
 have c3:w.cell? ⟨b,3,none⟩=some (.int .i64 t):=Blk.cell h 3
 have c4:w.cell? ⟨b,4,none⟩=some (.int .i64 tau):=Blk.cell h 4
 have c5:w.cell? ⟨b,5,none⟩=some (.bool true):=Blk.cell h 5
 clear h hi
 simp only at HV E hs hz
 have hw:IntKind.i64.wrap (tat - tau)=tat - tau:=IntWalk.i64_in _ (by omega)
 by_cases h0:0≤now
 ·by_cases h1:now≤253402300799
  ·have tb:timeB now=true:=timeB_iff.2 ⟨h0,h1⟩
   rw [tb] at T HV
   clear tb
   cases so
   ·have HR:Hid (R=(now,0)):=hid (by rw [HV.out];simp)
    clear HV
    go_enter Tryz.func63,Tryz.ntmps63
    go_wp2_with fail
    refine (T.out).mono ?_
    rintro e w' ⟨rfl,rfl⟩
    go_wp2_with fail
    go_ret2
    exact ⟨retII (by rw [HR.out]) (by rw [HR.out]),0,rfl⟩
   ·have HR:Hid (R=(if eb=true then tat - tau else max now last,0)):=hid (by rw [HV.out];simp)
    clear HV
    cases eb
    ·go_enter Tryz.func63,Tryz.ntmps63
     go_wp2_with fail
     refine (T.out).mono ?_
     rintro e w' ⟨rfl,rfl⟩
     go_wp2_with fail
     refine (E.out).mono ?_
     rintro e w' ⟨rfl,n,rfl⟩
     go_wp2_with fail
     go_ret2
     exact ⟨retII (by rw [HR.out];rfl) (by rw [HR.out]),n,rfl⟩
    ·go_enter Tryz.func63,Tryz.ntmps63
     go_wp2_with fail
     refine (T.out).mono ?_
     rintro e w' ⟨rfl,rfl⟩
     go_wp2_with fail
     refine (E.out).mono ?_
     rintro e w' ⟨rfl,n,rfl⟩
     go_wp2_with fail
     go_quiet (fail)
     go_wp2_with fail
     go_ret2
     exact ⟨retII (by rw [HR.out];rfl) (by rw [HR.out]),_,drewN_drewN _ _ _⟩
  ·have tb:timeB now=false:=by unfold timeB;rw [decide_eq_false h1,Bool.and_false]
   rw [tb] at T HV
   have HR:Hid (R=(0,14)):=hid (by rw [HV.out];rfl)
   clear HV tb
   go_enter Tryz.func63,Tryz.ntmps63
   go_wp2_with fail
   refine (T.out).mono ?_
   rintro e w' ⟨rfl,rfl⟩
   go_wp2_with fail
   go_ret2
   exact ⟨retII (by rw [HR.out]) (by rw [HR.out]),0,rfl⟩
 ·have tb:timeB now=false:=by unfold timeB;rw [decide_eq_false h0,Bool.false_and]
  rw [tb] at T HV
  have HR:Hid (R=(0,14)):=hid (by rw [HV.out];rfl)
  clear HV tb
  go_enter Tryz.func63,Tryz.ntmps63
  go_wp2_with fail
  refine (T.out).mono ?_
  rintro e w' ⟨rfl,rfl⟩
  go_wp2_with fail
  go_ret2
  exact ⟨retII (by rw [HR.out]) (by rw [HR.out]),0,rfl⟩
theorem rnext_ok(h:RLmAt w b x)(hi:x.Inv)(now:Int):Calls Tryz.prog 137 #[.pointer (some ⟨b,0,none⟩),.int .i64 now] w fun e w'=>e=.returned (.tuple #[.int .i64 (x.next now).1,.int .i64 (x.next now).2])∧∃n,w'=w.drewN n:=by
 have E:=hid (rearly_ok h hi (max now x.last))
 have E0:=hid (rearly_ok h hi now)
 have V:=hid (rlvalid_ok h)
 have HV:Hid (x.next now=if timeB now=false then (0,14) else (if x.so=false then now else if x.early (max now x.last)=true then x.tat - x.tau else max now x.last,0)):=hid rfl
 have hs:=hi.small
 have hz:x.so=false→x.early now=false:=by
  intro h
  unfold Lm.early
  rw [h]
  simp
 generalize x.next now=R at *
 generalize x.early (max now x.last)=eb at *
 generalize x.early now=e0 at *
 obtain ⟨t,tau,so,tat,last⟩:=x
 have c0:w.cell? ⟨b,0,none⟩=some (.bool true):=Blk.cell h 0
 have c1:w.cell? ⟨b,1,none⟩=some (.int .i64 t):=Blk.cell h 1
 have c2:w.cell? ⟨b,2,none⟩=some (.int .i64 tau):=Blk.cell h 2
 have c3:w.cell? ⟨b,3,none⟩=some (.bool so):=Blk.cell h 3
 have c4:w.cell? ⟨b,4,none⟩=some (.int .i64 tat):=Blk.cell h 4
 have c5:w.cell? ⟨b,5,none⟩=some (.int .i64 last):=Blk.cell h 5
 clear h hi
 simp only at HV E hs hz
 have hw:IntKind.i64.wrap (tat - tau)=tat - tau:=IntWalk.i64_in _ (by omega)
 by_cases h0:0≤now
 ·by_cases h1:now≤253402300799
  ·have tb:timeB now=true:=timeB_iff.2 ⟨h0,h1⟩
   rw [tb] at HV
   clear tb
   cases so
   ·have HR:Hid (R=(now,0)):=hid (by rw [HV.out];simp)
    clear HV
    have z0:=hz rfl
    subst z0
    go_enter Tryz.func137,Tryz.ntmps137
    go_wp2_with fail
    refine (V.out).mono ?_
    rintro e w' ⟨rfl,rfl⟩
    go_wp2_with fail
    refine (E0.out).mono ?_
    rintro e w' ⟨rfl,n,rfl⟩
    go_wp2_with fail
    go_ret2
    exact ⟨retII (by rw [HR.out]) (by rw [HR.out]),n,rfl⟩
   ·have HR:Hid (R=(if eb=true then tat - tau else max now last,0)):=hid (by rw [HV.out];simp)
    clear HV
    cases eb
    ·go_enter Tryz.func137,Tryz.ntmps137
     go_wp2_with fail
     refine (V.out).mono ?_
     rintro e w' ⟨rfl,rfl⟩
     go_wp2_with fail
     refine (E.out).mono ?_
     rintro e w' ⟨rfl,n,rfl⟩
     go_wp2_with fail
     go_ret2
     exact ⟨retII (by rw [HR.out];rfl) (by rw [HR.out]),n,rfl⟩
    ·go_enter Tryz.func137,Tryz.ntmps137
     go_wp2_with fail
     refine (V.out).mono ?_
     rintro e w' ⟨rfl,rfl⟩
     go_wp2_with fail
     refine (E.out).mono ?_
     rintro e w' ⟨rfl,n,rfl⟩
     go_wp2_with fail
     go_quiet (fail)
     go_wp2_with fail
     go_ret2
     exact ⟨retII (by rw [HR.out];rfl) (by rw [HR.out]),_,drewN_drewN _ _ _⟩
  ·have tb:timeB now=false:=by unfold timeB;rw [decide_eq_false h1,Bool.and_false]
   rw [tb] at HV
   have HR:Hid (R=(0,14)):=hid (by rw [HV.out];rfl)
   clear HV tb
   go_enter Tryz.func137,Tryz.ntmps137
   go_wp2_with fail
   refine (V.out).mono ?_
   rintro e w' ⟨rfl,rfl⟩
   go_wp2_with fail
   go_ret2
   exact ⟨retII (by rw [HR.out]) (by rw [HR.out]),0,rfl⟩
 ·have tb:timeB now=false:=by unfold timeB;rw [decide_eq_false h0,Bool.false_and]
  rw [tb] at HV
  have HR:Hid (R=(0,14)):=hid (by rw [HV.out];rfl)
  clear HV tb
  go_enter Tryz.func137,Tryz.ntmps137
  go_wp2_with fail
  refine (V.out).mono ?_
  rintro e w' ⟨rfl,rfl⟩
  go_wp2_with fail
  go_ret2
  exact ⟨retII (by rw [HR.out]) (by rw [HR.out]),0,rfl⟩
theorem retIB{a b:Int}{c d:Bool}(h:a=b)(h':c=d):Ending.returned (.tuple #[.int .i64 a,.bool c])=.returned (.tuple #[.int .i64 b,.bool d]):=by rw [h,h']
theorem arrival_ok(h:LmAt w b x):Calls Tryz.prog 139 #[.pointer (some ⟨b,0,none⟩)] w fun e w'=>e=.returned (.tuple #[.int .i64 x.tat,.bool x.so])∧∃n,w'=w.drewN n:=by
 obtain ⟨t,tau,so,tat,last⟩:=x
 have c0:w.cell? ⟨b,0,none⟩=some (.bool so):=Blk.cell h 0
 have c1:w.cell? ⟨b,1,none⟩=some (.int .i64 tat):=Blk.cell h 1
 have c2:w.cell? ⟨b,2,none⟩=some (.int .i64 last):=Blk.cell h 2
 have c3:w.cell? ⟨b,3,none⟩=some (.int .i64 t):=Blk.cell h 3
 have c4:w.cell? ⟨b,4,none⟩=some (.int .i64 tau):=Blk.cell h 4
 have c5:w.cell? ⟨b,5,none⟩=some (.bool true):=Blk.cell h 5
 clear h
 go_enter Tryz.func139,Tryz.ntmps139
 go_wp2_with fail
 go_quiet (fail)
 go_wp2_with fail
 go_ret2
 exact ⟨rfl,_,rfl⟩
theorem tat_ok(h:LmAt w b x):Calls Tryz.prog 85 #[.pointer (some ⟨b,0,none⟩)] w fun e w'=>e=.returned (.tuple #[.int .i64 x.tat,.bool x.so])∧∃n,w'=w.drewN n:=by
 have C:=hid (arrival_ok h)
 clear h
 go_enter Tryz.func85,Tryz.ntmps85
 go_wp2_with fail
 refine (C.out).mono ?_
 rintro e w' ⟨rfl,n,rfl⟩
 go_wp2_with fail
 go_ret2
 exact ⟨rfl,n,rfl⟩
theorem rtat_ok(h:RLmAt w b x):Calls Tryz.prog 140 #[.pointer (some ⟨b,0,none⟩)] w fun e w'=>e=.returned (.tuple #[.int .i64 (if x.so=true then x.tat else 0),.bool x.so])∧w'=w:=by
 have V:=hid (rlvalid_ok h)
 obtain ⟨t,tau,so,tat,last⟩:=x
 have c0:w.cell? ⟨b,0,none⟩=some (.bool true):=Blk.cell h 0
 have c1:w.cell? ⟨b,1,none⟩=some (.int .i64 t):=Blk.cell h 1
 have c2:w.cell? ⟨b,2,none⟩=some (.int .i64 tau):=Blk.cell h 2
 have c3:w.cell? ⟨b,3,none⟩=some (.bool so):=Blk.cell h 3
 have c4:w.cell? ⟨b,4,none⟩=some (.int .i64 tat):=Blk.cell h 4
 have c5:w.cell? ⟨b,5,none⟩=some (.int .i64 last):=Blk.cell h 5
 clear h
 cases so
 all_goals
  go_enter Tryz.func140,Tryz.ntmps140
  go_wp2_with fail
  refine (V.out).mono ?_
  rintro e w' ⟨rfl,rfl⟩
  go_wp2_with fail
  go_ret2
  exact ⟨rfl,rfl⟩
end
open BW (limB inB)
section
variable{w:World}{b:Nat}{x:Lm}
theorem rltake_ok(h:RLmAt w b x)(hi:x.Inv)(now:Int):Calls Tryz.prog 74 #[.pointer (some ⟨b,0,none⟩),.int .i64 now] w fun e w'=>e=.returned (.int .i64 (x.take now).1)∧RLmAt w' b (x.take now).2∧w.grownBy w' (some b):=by
 have C:=hid (rcheck_ok h hi now)
 have hh:=hid h
 by_cases hc:x.check now=0
 ·have HT:Hid (x.take now=(0,x.count now)):=hid (by unfold Lm.take;rw [if_pos hc])
  have ht:=timeB_iff.1 (Lm.check_zero hc).1
  rw [hc] at C
  have hs:=hi.small
  have hn:=hi.no
  obtain ⟨t,tau,so,tat,last⟩:=x
  have c0:w.cell? ⟨b,0,none⟩=some (.bool true):=Blk.cell h 0
  have c1:w.cell? ⟨b,1,none⟩=some (.int .i64 t):=Blk.cell h 1
  have c2:w.cell? ⟨b,2,none⟩=some (.int .i64 tau):=Blk.cell h 2
  have c3:w.cell? ⟨b,3,none⟩=some (.bool so):=Blk.cell h 3
  have c4:w.cell? ⟨b,4,none⟩=some (.int .i64 tat):=Blk.cell h 4
  have c5:w.cell? ⟨b,5,none⟩=some (.int .i64 last):=Blk.cell h 5
  have f0:w.frozen? ⟨b,0,none⟩=false:=Blk.frozen h 0
  have f1:w.frozen? ⟨b,1,none⟩=false:=Blk.frozen h 1
  have f2:w.frozen? ⟨b,2,none⟩=false:=Blk.frozen h 2
  have f3:w.frozen? ⟨b,3,none⟩=false:=Blk.frozen h 3
  have f4:w.frozen? ⟨b,4,none⟩=false:=Blk.frozen h 4
  have f5:w.frozen? ⟨b,5,none⟩=false:=Blk.frozen h 5
  clear h hi hc
  simp only at hs hn
  have hw:IntKind.i64.wrap (max now tat+t)=max now tat+t:=IntWalk.i64_in _ (by omega)
  have hw2:IntKind.i64.wrap (now+t)=now+t:=IntWalk.i64_in _ (by omega)
  cases so
  ·have hv:max now tat=now:=by have:=(hn rfl).1;omega
   go_enter Tryz.func74,Tryz.ntmps74
   go_wp2_with fail
   refine (C.out).mono ?_
   rintro e w' ⟨rfl,n,rfl⟩
   go_wp2_with fail
   go_ret
   refine ⟨retI (by rw [HT.out]),?_,?_⟩
   ·rw [HT.out]
    have h1:=(((hh.out.drewN n).set_ 4 (.int .i64 (now+t))).set_ 3 (.bool true)).set_ 5 (.int .i64 now)
    have e1:(⟨t,tau,false,tat,last⟩:Lm).count now=⟨t,tau,true,now+t,now⟩:=by unfold Lm.count;simp only [hv]
    simp only [e1]
    exact h1
   ·(repeat (first|(with_reducible exact only_refl _ _)|(with_reducible refine only_drew ?_)|(with_reducible refine only_drewN ?_ _)|(with_reducible refine only_setCell ?_ (.inl rfl) _)))
  ·go_enter Tryz.func74,Tryz.ntmps74
   go_wp2_with fail
   refine (C.out).mono ?_
   rintro e w' ⟨rfl,n,rfl⟩
   have hx:=hh.out.drewN n
   have hg:w.grownBy (w.drewN n) (some b):=only_drewN (only_refl w _) n
   generalize w.drewN n=W at *
   clear hh
   have hh:=hid hx
   have HG:=hid hg
   have c0:W.cell? ⟨b,0,none⟩=some (.bool true):=Blk.cell hx 0
   have c1:W.cell? ⟨b,1,none⟩=some (.int .i64 t):=Blk.cell hx 1
   have c2:W.cell? ⟨b,2,none⟩=some (.int .i64 tau):=Blk.cell hx 2
   have c3:W.cell? ⟨b,3,none⟩=some (.bool true):=Blk.cell hx 3
   have c4:W.cell? ⟨b,4,none⟩=some (.int .i64 tat):=Blk.cell hx 4
   have c5:W.cell? ⟨b,5,none⟩=some (.int .i64 last):=Blk.cell hx 5
   have f0:W.frozen? ⟨b,0,none⟩=false:=Blk.frozen hx 0
   have f1:W.frozen? ⟨b,1,none⟩=false:=Blk.frozen hx 1
   have f2:W.frozen? ⟨b,2,none⟩=false:=Blk.frozen hx 2
   have f3:W.frozen? ⟨b,3,none⟩=false:=Blk.frozen hx 3
   have f4:W.frozen? ⟨b,4,none⟩=false:=Blk.frozen hx 4
   have f5:W.frozen? ⟨b,5,none⟩=false:=Blk.frozen hx 5
   clear hx hg
   go_wp2_with fail
   go_still_tail 13,(by kernel_rfl)
   change wpList _ _ _ _ _ (World.drew _)
   go_wp2_with fail
   go_ret
   refine ⟨retI (by rw [HT.out]),?_,?_⟩
   ·rw [HT.out]
    have h1:=(((hh.out.drew).set_ 4 (.int .i64 (max now tat+t))).set_ 3 (.bool true)).set_ 5 (.int .i64 now)
    exact h1
   ·(repeat (first|(with_reducible exact HG.out)|(with_reducible refine only_drew ?_)|(with_reducible refine only_drewN ?_ _)|(with_reducible refine only_setCell ?_ (.inl rfl) _)))
 ·have HT:Hid (x.take now=(x.check now,x)):=hid (by unfold Lm.take;rw [if_neg hc])
  generalize x.check now=E at *
  have q1:(E==0)=false:=by rw [beq_eq_false_iff_ne];exact hc
  have q2:(E != 0)=true:=by rw [bne,q1];rfl
  clear h hi hc
  go_enter Tryz.func74,Tryz.ntmps74
  go_wp2_with fail
  refine (C.out).mono ?_
  rintro e w' ⟨rfl,n,rfl⟩
  go_wp2_with fail
  go_ret
  rw [HT.out]
  exact ⟨rfl,hh.out.drewN n,only_drewN (only_refl w _) n⟩
end
theorem in_ok(n:Int)(w:World):Calls Tryz.prog 147 #[.int .i64 n] w fun e w'=>e=.returned (.bool (inB n 0 68719476736))∧w'=w:=by
 unfold inB
 by_cases h:0≤n
 all_goals
  go_enter Tryz.func147,Tryz.ntmps147
  go_wp2
  go_ret
  exact ⟨retB (by simp;try omega),rfl⟩
theorem lvalid_ok{t tau:Int}(hl:limB t tau=true)(w:World):Calls Tryz.prog 101 #[.agg #[.int .i64 t,.int .i64 tau]] w fun e w'=>e=.returned (.bool true)∧Below w.heap.size w w':=by
 have C1:=hid (fun W=>in_ok t W)
 have C2:=hid (fun W=>in_ok tau W)
 unfold limB at hl
 simp only [Bool.and_eq_true,Bool.or_eq_true] at hl
 obtain ⟨⟨h1,h2⟩,h3⟩:=hl
 rw [h1] at C1
 rw [h2] at C2
 clear h1 h2
 by_cases hp:0<t
 ·clear h3
  go_enter Tryz.func101,Tryz.ntmps101
  go_wp2_with fail
  refine (C1.out _).mono ?_
  rintro e w' ⟨rfl,rfl⟩
  go_wp2_with fail
  refine (C2.out _).mono ?_
  rintro e w' ⟨rfl,rfl⟩
  go_wp2_with fail
  go_ret
  exact ⟨rfl,(Below.refl _ _).alloc (Nat.le_refl _) _⟩
 ·have hz:tau=0:=by
   rcases h3 with h3|h3
   ·exact absurd (of_decide_eq_true h3) hp
   ·exact eq_of_beq h3
  subst hz
  clear h3
  go_enter Tryz.func101,Tryz.ntmps101
  go_wp2_with fail
  refine (C1.out _).mono ?_
  rintro e w' ⟨rfl,rfl⟩
  go_wp2_with fail
  refine (C2.out _).mono ?_
  rintro e w' ⟨rfl,rfl⟩
  go_wp2_with fail
  go_ret
  exact ⟨rfl,(Below.refl _ _).alloc (Nat.le_refl _) _⟩
theorem rlvld_ok{t tau:Int}(hl:limB t tau=true)(w:World):Calls Tryz.prog 126 #[.agg #[.int .i64 t,.int .i64 tau]] w fun e w'=>e=.returned (.bool true)∧Below w.heap.size w w':=by
 unfold limB inB at hl
 simp only [Bool.and_eq_true,Bool.or_eq_true,decide_eq_true_eq,beq_iff_eq] at hl
 obtain ⟨⟨⟨h1,h2⟩,h3,h4⟩,h5⟩:=hl
 by_cases hp:0<t
 ·clear h5
  go_enter Tryz.func126,Tryz.ntmps126
  go_wp2_with fail
  go_ret
  exact ⟨rfl,(Below.refl _ _).alloc (Nat.le_refl _) _⟩
 ·have hz:tau=0:=by omega
  subst hz
  clear h5
  go_enter Tryz.func126,Tryz.ntmps126
  go_wp2_with fail
  go_ret
  exact ⟨rfl,(Below.refl _ _).alloc (Nat.le_refl _) _⟩
theorem lnew_ok{t tau:Int}(hl:limB t tau=true)(w:World):Calls Tryz.prog 41 #[.agg #[.int .i64 t,.int .i64 tau]] w fun e w'=>∃n,e=.returned (.tuple #[.pointer (some ⟨n,0,none⟩),.int .i64 0])∧LmAt w' n (lm0 t tau)∧Below w.heap.size w w'∧w.heap.size≤n∧n<w'.heap.size:=by
 have C:=hid (fun W=>lvalid_ok hl W)
 clear hl
 go_enter Tryz.func41,Tryz.ntmps41
 go_wp2_with fail
 refine (C.out _).mono ?_
 rintro e w1 ⟨rfl,hb⟩
 have HB:=hid hb
 have h0:w1.cell? ⟨w.heap.size,0,none⟩=some (.int .i64 t):=by rw [hb.cell (p:=⟨w.heap.size,0,none⟩) (by simp)];simp
 have h1:w1.cell? ⟨w.heap.size,1,none⟩=some (.int .i64 tau):=by rw [hb.cell (p:=⟨w.heap.size,1,none⟩) (by simp)];simp
 clear hb
 go_wp2_with fail
 go_ret2
 have h9:=HB.out.size
 simp at h9
 exact ⟨_,rfl,Blk.newAt rfl,(((Below.refl _ _).alloc (Nat.le_refl _) _).trans (HB.out.mono (by simp))).alloc (by omega) _,by omega,by simp⟩
theorem rlnew_ok{t tau:Int}(hl:limB t tau=true)(w:World):Calls Tryz.prog 71 #[.agg #[.int .i64 t,.int .i64 tau]] w fun e w'=>∃n,e=.returned (.tuple #[.pointer (some ⟨n,0,none⟩),.int .i64 0])∧RLmAt w' n (lm0 t tau)∧Below w.heap.size w w'∧w.heap.size≤n∧n<w'.heap.size:=by
 have C:=hid (fun W=>rlvld_ok hl W)
 clear hl
 go_enter Tryz.func71,Tryz.ntmps71
 go_wp2_with fail
 refine (C.out _).mono ?_
 rintro e w1 ⟨rfl,hb⟩
 have HB:=hid hb
 have h0:w1.cell? ⟨w.heap.size,0,none⟩=some (.int .i64 t):=by rw [hb.cell (p:=⟨w.heap.size,0,none⟩) (by simp)];simp
 have h1:w1.cell? ⟨w.heap.size,1,none⟩=some (.int .i64 tau):=by rw [hb.cell (p:=⟨w.heap.size,1,none⟩) (by simp)];simp
 clear hb
 go_wp2_with fail
 go_ret2
 have h9:=HB.out.size
 simp at h9
 exact ⟨_,rfl,Blk.newAt rfl,(((Below.refl _ _).alloc (Nat.le_refl _) _).trans (HB.out.mono (by simp))).alloc (by omega) _,by omega,by simp⟩
def ResP(At:World→Nat→Lm→Prop)(r:Option Lm × Int)(w:World)(e:Ending)(w':World):Prop:=Below w.heap.size w w'∧match r.1 with
 | some x=>∃n,e=.returned (.tuple #[.pointer (some ⟨n,0,none⟩),.int .i64 r.2])∧At w' n x∧w.heap.size≤n∧n<w'.heap.size
 | none=>e=.returned (.tuple #[.pointer none,.int .i64 r.2])
theorem lrestore_ok{t tau tat now:Int}(hl:limB t tau=true)(w:World):Calls Tryz.prog 91 #[.agg #[.int .i64 t,.int .i64 tau],.int .i64 tat,.int .i64 now] w (ResP LmAt (lmR t tau tat now) w):=by
 have C:=hid (fun W=>lnew_ok hl W)
 have T:=hid (fun W=>istime_ok now W)
 have HV:Hid (lmR t tau tat now=if timeB now=false then (none,14) else if tat = -1 then (some (lm0 t tau),0) else if tat<t∨now+t+tau<tat then (none,2) else (some ⟨t,tau,true,tat,now⟩,0)):=hid rfl
 have hs:0≤t∧t≤68719476736∧0≤tau∧tau≤68719476736:=by
  unfold limB inB at hl
  simp only [Bool.and_eq_true,Bool.or_eq_true,decide_eq_true_eq,beq_iff_eq] at hl
  exact ⟨hl.1.1.1,hl.1.1.2,hl.1.2.1,hl.1.2.2⟩
 generalize lmR t tau tat now=R at *
 clear hl
 by_cases h0:0≤now
 ·by_cases h1:now≤253402300799
  ·have tb:timeB now=true:=timeB_iff.2 ⟨h0,h1⟩
   rw [tb,if_neg (by simp)] at HV
   rw [tb] at T
   clear tb
   have hw1:IntKind.i64.wrap (now+t)=now+t:=IntWalk.i64_in _ (by omega)
   have hw2:IntKind.i64.wrap (now+t+tau)=now+t+tau:=IntWalk.i64_in _ (by omega)
   by_cases hm:tat = -1
   ·rw [if_pos hm] at HV
    subst hm
    go_enter Tryz.func91,Tryz.ntmps91
    go_wp2_with fail
    refine (C.out _).mono ?_
    rintro e w1 ⟨n,rfl,h1,h2,h3,h4⟩
    have HB:=hid (((Below.refl w.heap.size w).alloc (Nat.le_refl _) (.cells #[.int .i64 t,.int .i64 tau] 26)).trans (h2.mono (by simp)))
    have HL:=hid h1
    have k0:w1.cell? ⟨w.heap.size,0,none⟩=some (.int .i64 t):=by rw [h2.cell (p:=⟨w.heap.size,0,none⟩) (by simp)];simp
    have k1:w1.cell? ⟨w.heap.size,1,none⟩=some (.int .i64 tau):=by rw [h2.cell (p:=⟨w.heap.size,1,none⟩) (by simp)];simp
    have hn0:w.heap.size<n:=by simp at h3;omega
    clear h1 h2 h3
    go_wp2_with fail
    refine (T.out _).mono ?_
    rintro e w' ⟨rfl,rfl⟩
    go_wp2_with fail
    go_ret2
    unfold ResP
    rw [HV.out]
    exact ⟨HB.out,n,rfl,HL.out,by omega,by simpa using h4⟩
   ·rw [if_neg hm] at HV
    have q1:(tat== -1)=false:=by rw [beq_eq_false_iff_ne];exact hm
    by_cases h2:tat<t
    ·rw [if_pos (.inl h2)] at HV
     go_enter Tryz.func91,Tryz.ntmps91
     go_wp2_with fail
     refine (C.out _).mono ?_
     rintro e w1 ⟨n,rfl,h1,h2,h3,h4⟩
     have HB:=hid (((Below.refl w.heap.size w).alloc (Nat.le_refl _) (.cells #[.int .i64 t,.int .i64 tau] 26)).trans (h2.mono (by simp)))
     have HL:=hid h1
     have k0:w1.cell? ⟨w.heap.size,0,none⟩=some (.int .i64 t):=by rw [h2.cell (p:=⟨w.heap.size,0,none⟩) (by simp)];simp
     have k1:w1.cell? ⟨w.heap.size,1,none⟩=some (.int .i64 tau):=by rw [h2.cell (p:=⟨w.heap.size,1,none⟩) (by simp)];simp
     have hn0:w.heap.size<n:=by simp at h3;omega
     clear h1 h2 h3
     go_wp2_with fail
     refine (T.out _).mono ?_
     rintro e w' ⟨rfl,rfl⟩
     go_wp2_with fail
     go_ret2
     unfold ResP
     rw [HV.out]
     exact ⟨HB.out,rfl⟩
    ·by_cases h3:now+t+tau<tat
     ·rw [if_pos (.inr h3)] at HV
      go_enter Tryz.func91,Tryz.ntmps91
      go_wp2_with fail
      refine (C.out _).mono ?_
      rintro e w1 ⟨n,rfl,h1,h2,h3,h4⟩
      have HB:=hid (((Below.refl w.heap.size w).alloc (Nat.le_refl _) (.cells #[.int .i64 t,.int .i64 tau] 26)).trans (h2.mono (by simp)))
      have HL:=hid h1
      have k0:w1.cell? ⟨w.heap.size,0,none⟩=some (.int .i64 t):=by rw [h2.cell (p:=⟨w.heap.size,0,none⟩) (by simp)];simp
      have k1:w1.cell? ⟨w.heap.size,1,none⟩=some (.int .i64 tau):=by rw [h2.cell (p:=⟨w.heap.size,1,none⟩) (by simp)];simp
      have hn0:w.heap.size<n:=by simp at h3;omega
      clear h1 h2 h3
      go_wp2_with fail
      refine (T.out _).mono ?_
      rintro e w' ⟨rfl,rfl⟩
      go_wp2_with fail
      go_ret2
      unfold ResP
      rw [HV.out]
      exact ⟨HB.out,rfl⟩
     ·rw [if_neg (by omega)] at HV
      go_enter Tryz.func91,Tryz.ntmps91
      go_wp2_with fail
      refine (C.out _).mono ?_
      rintro e w1 ⟨n,rfl,h1,h2,h3,h4⟩
      have HB:=hid (((Below.refl w.heap.size w).alloc (Nat.le_refl _) (.cells #[.int .i64 t,.int .i64 tau] 26)).trans (h2.mono (by simp)))
      have HL:=hid h1
      have k0:w1.cell? ⟨w.heap.size,0,none⟩=some (.int .i64 t):=by rw [h2.cell (p:=⟨w.heap.size,0,none⟩) (by simp)];simp
      have k1:w1.cell? ⟨w.heap.size,1,none⟩=some (.int .i64 tau):=by rw [h2.cell (p:=⟨w.heap.size,1,none⟩) (by simp)];simp
      have hn0:w.heap.size<n:=by simp at h3;omega
      clear h1 h2 h3
      have c0:w1.cell? ⟨n,0,none⟩=some (.bool false):=Blk.cell HL.out 0
      have c1:w1.cell? ⟨n,1,none⟩=some (.int .i64 0):=Blk.cell HL.out 1
      have c2:w1.cell? ⟨n,2,none⟩=some (.int .i64 0):=Blk.cell HL.out 2
      have f0:w1.frozen? ⟨n,0,none⟩=false:=Blk.frozen HL.out 0
      have f1:w1.frozen? ⟨n,1,none⟩=false:=Blk.frozen HL.out 1
      have f2:w1.frozen? ⟨n,2,none⟩=false:=Blk.frozen HL.out 2
      go_wp2_with fail
      refine (T.out _).mono ?_
      rintro e w' ⟨rfl,rfl⟩
      go_wp2_with fail
      go_ret2
      unfold ResP
      rw [HV.out]
      refine ⟨((HB.out.setCell ?_ _).setCell ?_ _).setCell ?_ _,n,rfl,?_,by omega,by simpa using h4⟩
      ·exact Nat.le_of_lt hn0
      ·exact Nat.le_of_lt hn0
      ·exact Nat.le_of_lt hn0
      ·have h5:=(((HL.out).set_ 0 (.bool true)).set_ 1 (.int .i64 tat)).set_ 2 (.int .i64 now)
       exact h5
  ·have tb:timeB now=false:=by unfold timeB;rw [decide_eq_false h1,Bool.and_false]
   rw [tb,if_pos rfl] at HV
   rw [tb] at T
   clear tb
   go_enter Tryz.func91,Tryz.ntmps91
   go_wp2_with fail
   refine (C.out _).mono ?_
   rintro e w1 ⟨n,rfl,h1,h2,h3,h4⟩
   have HB:=hid (((Below.refl w.heap.size w).alloc (Nat.le_refl _) (.cells #[.int .i64 t,.int .i64 tau] 26)).trans (h2.mono (by simp)))
   have HL:=hid h1
   have k0:w1.cell? ⟨w.heap.size,0,none⟩=some (.int .i64 t):=by rw [h2.cell (p:=⟨w.heap.size,0,none⟩) (by simp)];simp
   have k1:w1.cell? ⟨w.heap.size,1,none⟩=some (.int .i64 tau):=by rw [h2.cell (p:=⟨w.heap.size,1,none⟩) (by simp)];simp
   have hn0:w.heap.size<n:=by simp at h3;omega
   clear h1 h2 h3
   go_wp2_with fail
   refine (T.out _).mono ?_
   rintro e w' ⟨rfl,rfl⟩
   go_wp2_with fail
   go_ret2
   unfold ResP
   rw [HV.out]
   exact ⟨HB.out,rfl⟩
 ·have tb:timeB now=false:=by unfold timeB;rw [decide_eq_false h0,Bool.false_and]
  rw [tb,if_pos rfl] at HV
  rw [tb] at T
  clear tb
  go_enter Tryz.func91,Tryz.ntmps91
  go_wp2_with fail
  refine (C.out _).mono ?_
  rintro e w1 ⟨n,rfl,h1,h2,h3,h4⟩
  have HB:=hid (((Below.refl w.heap.size w).alloc (Nat.le_refl _) (.cells #[.int .i64 t,.int .i64 tau] 26)).trans (h2.mono (by simp)))
  have HL:=hid h1
  have k0:w1.cell? ⟨w.heap.size,0,none⟩=some (.int .i64 t):=by rw [h2.cell (p:=⟨w.heap.size,0,none⟩) (by simp)];simp
  have k1:w1.cell? ⟨w.heap.size,1,none⟩=some (.int .i64 tau):=by rw [h2.cell (p:=⟨w.heap.size,1,none⟩) (by simp)];simp
  have hn0:w.heap.size<n:=by simp at h3;omega
  clear h1 h2 h3
  go_wp2_with fail
  refine (T.out _).mono ?_
  rintro e w' ⟨rfl,rfl⟩
  go_wp2_with fail
  go_ret2
  unfold ResP
  rw [HV.out]
  exact ⟨HB.out,rfl⟩
theorem rlrestore_ok{t tau tat now:Int}(hl:limB t tau=true)(w:World):Calls Tryz.prog 94 #[.agg #[.int .i64 t,.int .i64 tau],.int .i64 tat,.int .i64 now] w (ResP RLmAt (lmR t tau tat now) w):=by
 have C:=hid (fun W=>rlnew_ok hl W)
 have HV:Hid (lmR t tau tat now=if timeB now=false then (none,14) else if tat = -1 then (some (lm0 t tau),0) else if tat<t∨now+t+tau<tat then (none,2) else (some ⟨t,tau,true,tat,now⟩,0)):=hid rfl
 have hs:0≤t∧t≤68719476736∧0≤tau∧tau≤68719476736:=by
  unfold limB inB at hl
  simp only [Bool.and_eq_true,Bool.or_eq_true,decide_eq_true_eq,beq_iff_eq] at hl
  exact ⟨hl.1.1.1,hl.1.1.2,hl.1.2.1,hl.1.2.2⟩
 generalize lmR t tau tat now=R at *
 clear hl
 by_cases h0:0≤now
 ·by_cases h1:now≤253402300799
  ·have tb:timeB now=true:=timeB_iff.2 ⟨h0,h1⟩
   rw [tb,if_neg (by simp)] at HV
   clear tb
   have hw1:IntKind.i64.wrap (now+t)=now+t:=IntWalk.i64_in _ (by omega)
   have hw2:IntKind.i64.wrap (now+t+tau)=now+t+tau:=IntWalk.i64_in _ (by omega)
   by_cases hm:tat = -1
   ·rw [if_pos hm] at HV
    subst hm
    go_enter Tryz.func94,Tryz.ntmps94
    go_wp2_with fail
    refine (C.out _).mono ?_
    rintro e w1 ⟨n,rfl,h1,h2,h3,h4⟩
    have HB:=hid (((Below.refl w.heap.size w).alloc (Nat.le_refl _) (.cells #[.int .i64 t,.int .i64 tau] 26)).trans (h2.mono (by simp)))
    have HL:=hid h1
    have k0:w1.cell? ⟨w.heap.size,0,none⟩=some (.int .i64 t):=by rw [h2.cell (p:=⟨w.heap.size,0,none⟩) (by simp)];simp
    have k1:w1.cell? ⟨w.heap.size,1,none⟩=some (.int .i64 tau):=by rw [h2.cell (p:=⟨w.heap.size,1,none⟩) (by simp)];simp
    have hn0:w.heap.size<n:=by simp at h3;omega
    clear h1 h2 h3
    go_wp2_with fail
    go_ret2
    unfold ResP
    rw [HV.out]
    exact ⟨HB.out,n,rfl,HL.out,by omega,by simpa using h4⟩
   ·rw [if_neg hm] at HV
    have q1:(tat== -1)=false:=by rw [beq_eq_false_iff_ne];exact hm
    by_cases h2:tat<t
    ·rw [if_pos (.inl h2)] at HV
     go_enter Tryz.func94,Tryz.ntmps94
     go_wp2_with fail
     refine (C.out _).mono ?_
     rintro e w1 ⟨n,rfl,h1,h2,h3,h4⟩
     have HB:=hid (((Below.refl w.heap.size w).alloc (Nat.le_refl _) (.cells #[.int .i64 t,.int .i64 tau] 26)).trans (h2.mono (by simp)))
     have HL:=hid h1
     have k0:w1.cell? ⟨w.heap.size,0,none⟩=some (.int .i64 t):=by rw [h2.cell (p:=⟨w.heap.size,0,none⟩) (by simp)];simp
     have k1:w1.cell? ⟨w.heap.size,1,none⟩=some (.int .i64 tau):=by rw [h2.cell (p:=⟨w.heap.size,1,none⟩) (by simp)];simp
     have hn0:w.heap.size<n:=by simp at h3;omega
     clear h1 h2 h3
     go_wp2_with fail
     go_ret2
     unfold ResP
     rw [HV.out]
     exact ⟨HB.out,rfl⟩
    ·by_cases h3:now+t+tau<tat
     ·rw [if_pos (.inr h3)] at HV
      go_enter Tryz.func94,Tryz.ntmps94
      go_wp2_with fail
      refine (C.out _).mono ?_
      rintro e w1 ⟨n,rfl,h1,h2,h3,h4⟩
      have HB:=hid (((Below.refl w.heap.size w).alloc (Nat.le_refl _) (.cells #[.int .i64 t,.int .i64 tau] 26)).trans (h2.mono (by simp)))
      have HL:=hid h1
      have k0:w1.cell? ⟨w.heap.size,0,none⟩=some (.int .i64 t):=by rw [h2.cell (p:=⟨w.heap.size,0,none⟩) (by simp)];simp
      have k1:w1.cell? ⟨w.heap.size,1,none⟩=some (.int .i64 tau):=by rw [h2.cell (p:=⟨w.heap.size,1,none⟩) (by simp)];simp
      have hn0:w.heap.size<n:=by simp at h3;omega
      clear h1 h2 h3
      go_wp2_with fail
      go_ret2
      unfold ResP
      rw [HV.out]
      exact ⟨HB.out,rfl⟩
     ·rw [if_neg (by omega)] at HV
      go_enter Tryz.func94,Tryz.ntmps94
      go_wp2_with fail
      refine (C.out _).mono ?_
      rintro e w1 ⟨n,rfl,h1,h2,h3,h4⟩
      have HB:=hid (((Below.refl w.heap.size w).alloc (Nat.le_refl _) (.cells #[.int .i64 t,.int .i64 tau] 26)).trans (h2.mono (by simp)))
      have HL:=hid h1
      have k0:w1.cell? ⟨w.heap.size,0,none⟩=some (.int .i64 t):=by rw [h2.cell (p:=⟨w.heap.size,0,none⟩) (by simp)];simp
      have k1:w1.cell? ⟨w.heap.size,1,none⟩=some (.int .i64 tau):=by rw [h2.cell (p:=⟨w.heap.size,1,none⟩) (by simp)];simp
      have hn0:w.heap.size<n:=by simp at h3;omega
      clear h1 h2 h3
      go_wp2_with fail
      go_ret2
      unfold ResP
      rw [HV.out]
      have h9:=HB.out.size
      exact ⟨HB.out.alloc (by omega) _,_,rfl,Blk.newAt rfl,by omega,by simp⟩
  ·have tb:timeB now=false:=by unfold timeB;rw [decide_eq_false h1,Bool.and_false]
   rw [tb,if_pos rfl] at HV
   clear tb
   go_enter Tryz.func94,Tryz.ntmps94
   go_wp2_with fail
   refine (C.out _).mono ?_
   rintro e w1 ⟨n,rfl,h1,h2,h3,h4⟩
   have HB:=hid (((Below.refl w.heap.size w).alloc (Nat.le_refl _) (.cells #[.int .i64 t,.int .i64 tau] 26)).trans (h2.mono (by simp)))
   have HL:=hid h1
   have k0:w1.cell? ⟨w.heap.size,0,none⟩=some (.int .i64 t):=by rw [h2.cell (p:=⟨w.heap.size,0,none⟩) (by simp)];simp
   have k1:w1.cell? ⟨w.heap.size,1,none⟩=some (.int .i64 tau):=by rw [h2.cell (p:=⟨w.heap.size,1,none⟩) (by simp)];simp
   have hn0:w.heap.size<n:=by simp at h3;omega
   clear h1 h2 h3
   go_wp2_with fail
   go_ret2
   unfold ResP
   rw [HV.out]
   exact ⟨HB.out,rfl⟩
 ·have tb:timeB now=false:=by unfold timeB;rw [decide_eq_false h0,Bool.false_and]
  rw [tb,if_pos rfl] at HV
  clear tb
  go_enter Tryz.func94,Tryz.ntmps94
  go_wp2_with fail
  refine (C.out _).mono ?_
  rintro e w1 ⟨n,rfl,h1,h2,h3,h4⟩
  have HB:=hid (((Below.refl w.heap.size w).alloc (Nat.le_refl _) (.cells #[.int .i64 t,.int .i64 tau] 26)).trans (h2.mono (by simp)))
  have HL:=hid h1
  have k0:w1.cell? ⟨w.heap.size,0,none⟩=some (.int .i64 t):=by rw [h2.cell (p:=⟨w.heap.size,0,none⟩) (by simp)];simp
  have k1:w1.cell? ⟨w.heap.size,1,none⟩=some (.int .i64 tau):=by rw [h2.cell (p:=⟨w.heap.size,1,none⟩) (by simp)];simp
  have hn0:w.heap.size<n:=by simp at h3;omega
  clear h1 h2 h3
  go_wp2_with fail
  go_ret2
  unfold ResP
  rw [HV.out]
  exact ⟨HB.out,rfl⟩
end Go.Proofs.YtpgckpafjiojfaaGreatDoor.AD
