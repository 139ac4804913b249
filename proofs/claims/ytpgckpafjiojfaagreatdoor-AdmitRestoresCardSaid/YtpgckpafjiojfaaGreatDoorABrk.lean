/- Circuit breakers, plainly: a box's state, and what each call makes of it. No program in sight. Contracts of the questions that a box answers: valid, State, check, Until, Counts, Allows. Contracts of the calls that open and close a box. Contracts of Take, Report and Copy. Contracts of Copy and New. A box of the call's own, with what the calls on it keep; the law's examples ('works'). -/
import Derived.Test.YtpgckpafjiojfaaGreatDoorProg
import Derived.Test.YtpgckpafjiojfaaGreatDoorMSeq
import Derived.Deep.QuietTactic
import Derived.BigQuiet
import Derived.StillTailTactics
import Derived.RegionTactic
import Derived.Laws.EntriesVeiled
open Go.Lib (hid)
set_option maxRecDepth 16000
set_option maxHeartbeats 40000000
namespace Go.Proofs.YtpgckpafjiojfaaGreatDoor.BK
open Go
structure Bx where
 f:Int
 o:Int
 p:Int
 op:Bool
 un:Int
 fails:Int
 good:Int
 under:Int
 last:Int
deriving DecidableEq
def maxTime:Int:=253402300799
def maxSpan:Int:=68719476736
def zero(f o p:Int):Bool:=decide (f=0∧o=0∧p=0)
def ruled(f o p:Int):Bool:=decide (1≤f∧f≤100∧1≤o∧o≤maxSpan∧1≤p∧p≤100)
def fresh(f o p:Int):Bx:=⟨f,o,p,false,0,0,0,0,0⟩
def state(x:Bx)(now:Int):Int:=if x.op=false then 0 else if now<x.un then 1 else 2
def allows(x:Bx)(now:Int):Bool:=if x.op=false then true else if now<x.un then false else decide (x.good+x.under<x.p)
def check(x:Bx)(now:Int):Int:=if now<0∨maxTime<now then 14 else if now<x.last then 8 else 0
def start(x:Bx)(now:Int):Bx:=⟨x.f,x.o,x.p,true,now+x.o,0,0,0,x.last⟩
def stop(x:Bx):Bx:=⟨x.f,x.o,x.p,false,0,0,0,0,x.last⟩
def seen(x:Bx)(now:Int):Bx:={ x with last:=now }
def untilOf(x:Bx):Int:=if x.op then x.un else 0
def take(x:Bx)(now:Int):Int × Bx :=
 if check x now≠0 then (check x now,x) else if allows x now=false then (9,x)
 else (0,seen (if x.op=true∧x.un≤now then { x with under:=x.under+1 } else x) now)
def closed(x:Bx)(ok:Bool)(now:Int):Int × Bx :=
 if ok then (0,{ x with fails:=0 }) else if x.fails+1<x.f then (0,{ x with fails:=x.fails+1 }) else (7,start x now)
def half(x:Bx)(ok:Bool)(now:Int):Int × Bx :=
 if ok=false then (7,start x now) else if x.under=0 then (0,x)
 else if x.good+1<x.p then (0,{ x with under:=x.under - 1,good:=x.good+1 }) else (8,stop x)
def ended(x:Bx)(ok:Bool)(now:Int):Int × Bx :=
 if x.op=false then closed x ok now else if now<x.un then (0,x) else half x ok now
def report(x:Bx)(ok:Bool)(now:Int):Int × Int × Bx :=
 if check x now≠0 then (0,check x now,x)
 else if x.f=0 then (0,0,seen x now)
 else ((ended (seen x now) ok now).1,0,(ended (seen x now) ok now).2)
def switched(x:Bx)(now:Int):Int:=if check x now≠0 then check x now else if x.f=0 then 9 else 0
def trip(x:Bx)(now:Int):Int × Bx:=if switched x now≠0 then (switched x now,x) else (0,start (seen x now) now)
structure Inv(x:Bx):Prop where
 rule:(x.f=0∧x.o=0∧x.p=0∧x.op=false∧x.fails=0)∨(1≤x.f∧x.f≤100∧1≤x.o∧x.o≤maxSpan∧1≤x.p∧x.p≤100∧x.fails<x.f)
 last0:0≤x.last
 last1:x.last≤maxTime
 fails0:0≤x.fails
 good0:0≤x.good
 under0:0≤x.under
 shut:x.op=false→x.un=0∧x.good=0∧x.under=0
 opened:x.op=true→x.fails=0∧0≤x.un∧x.un≤maxTime+maxSpan∧x.good+x.under≤x.p∧x.good<x.p
theorem Inv.small{x:Bx}(h:Inv x):0≤x.f∧x.f≤100∧0≤x.o∧x.o≤68719476736∧0≤x.p∧x.p≤100∧0≤x.fails∧x.fails≤100∧0≤x.good∧x.good≤100∧0≤x.under∧x.under≤100∧0≤x.un∧x.un≤322121777535∧0≤x.last∧x.last≤253402300799:=by
 have h1:=h.rule;have h2:=h.last0;have h3:=h.last1;have h4:=h.fails0;have h5:=h.good0;have h6:=h.under0
 unfold maxSpan at h1
 unfold maxTime at h3
 cases ho:x.op
 ·have h7:=h.shut ho
  omega
 ·have h7:=h.opened ho
  unfold maxTime maxSpan at h7
  omega
theorem inv_fresh{f o p:Int}(h:zero f o p=true∨ruled f o p=true):Inv (fresh f o p):=by
 unfold zero ruled at h
 simp only [decide_eq_true_eq] at h
 refine ⟨?_,by simp [fresh],by simp [fresh,maxTime],by simp [fresh],by simp [fresh],by simp [fresh],by simp [fresh],by simp [fresh]⟩
 simp only [fresh]
 rcases h with h|h
 ·exact .inl ⟨h.1,h.2.1,h.2.2,by simp,by simp⟩
 ·exact .inr (by omega)
theorem check_zero{x:Bx}{now:Int}(h:check x now=0):0≤now∧now≤maxTime∧x.last≤now:=by
 unfold check at h
 split at h
 ·omega
 ·split at h<;>omega
theorem inv_seen{x:Bx}{now:Int}(h:Inv x)(hc:check x now=0):Inv (seen x now):=by
 obtain ⟨c1,c2,c3⟩:=check_zero hc
 exact ⟨h.rule,c1,c2,h.fails0,h.good0,h.under0,h.shut,fun ho=>by
  have:=h.opened ho
  simp only [seen] at *
  omega⟩
theorem inv_start{x:Bx}{now:Int}(h:Inv x)(hf:x.f≠0)(h0:0≤now)(h1:now≤maxTime):Inv (start x now):=by
 have hr:=h.rule
 have:=h.last0
 refine ⟨?_,h.last0,h.last1,by simp [start],by simp [start],by simp [start],by simp [start],?_⟩
 ·simp only [start];right;omega
 ·intro _;refine ⟨rfl,?_,?_,?_,?_⟩<;>simp only [start]<;>omega
theorem inv_stop{x:Bx}(h:Inv x):Inv (stop x):=by
 have hr:=h.rule
 have:=h.fails0
 refine ⟨?_,h.last0,h.last1,by simp [stop],by simp [stop],by simp [stop],by simp [stop],by simp [stop]⟩
 simp only [stop]
 rcases hr with hr|hr
 ·exact .inl ⟨hr.1,hr.2.1,hr.2.2.1,by simp,by simp⟩
 ·right;omega
theorem inv_ended{x:Bx}{ok:Bool}{now:Int}(h:Inv x)(hf:x.f≠0)(h0:0≤now)(h1:now≤maxTime):Inv (ended x ok now).2:=by
 have hr:=h.rule
 have h2:=h.last0;have h3:=h.last1;have h4:=h.fails0;have h5:=h.good0;have h6:=h.under0
 unfold ended
 cases ho:x.op
 ·rw [if_pos rfl]
  have hs:=h.shut ho
  unfold closed
  split
  ·exact ⟨by simp only [];omega,h2,h3,by simp,h5,h6,fun _=>hs,fun h'=>by simp [ho] at h'⟩
  ·split
   ·exact ⟨by simp only [];omega,h2,h3,by simp only [];omega,h5,h6,fun _=>hs,fun h'=>by simp [ho] at h'⟩
   ·exact inv_start h hf h0 h1
 ·rw [if_neg (by simp)]
  have hs:=h.opened ho
  split
  ·exact h
  ·unfold half
   split
   ·exact inv_start h hf h0 h1
   ·split
    ·exact h
    ·split
     ·exact ⟨by simp only [];omega,h2,h3,h4,by simp only [];omega,by simp only [];omega,fun h'=>by simp [ho] at h',fun _=>by simp only [];omega⟩
     ·exact inv_stop h
theorem inv_report{x:Bx}{ok:Bool}{now:Int}(h:Inv x):Inv (report x ok now).2.2:=by
 unfold report
 split
 ·exact h
 ·rename_i hc
  have hc:check x now=0:=by omega
  have hs:=inv_seen h hc
  split
  ·exact hs
  ·rename_i hf
   obtain ⟨c1,c2,c3⟩:=check_zero hc
   exact inv_ended hs hf c1 c2
theorem inv_take{x:Bx}{now:Int}(h:Inv x):Inv (take x now).2:=by
 unfold take
 split
 ·exact h
 ·rename_i hc
  have hc:check x now=0:=by omega
  split
  ·exact h
  ·rename_i ha
   by_cases hh:x.op=true∧x.un≤now
   ·rw [if_pos hh]
    have ho:=h.opened hh.1
    have h1:=h.rule;have h5:=h.good0;have h6:=h.under0
    unfold allows at ha
    simp only [hh.1,Bool.true_eq_false,if_false] at ha
    rw [if_neg (by omega)] at ha
    simp only [Bool.not_eq_false,decide_eq_true_eq] at ha
    apply inv_seen (x:={ x with under:=x.under+1 }) _ hc
    exact ⟨h1,h.last0,h.last1,h.fails0,h5,by simp only [];omega,fun h'=>by simp [hh.1] at h',fun _=>by simp only [];omega⟩
   ·rw [if_neg hh]
    exact inv_seen h hc
theorem switched_zero{x:Bx}{now:Int}(h:switched x now=0):check x now=0∧x.f≠0:=by
 unfold switched at h
 split at h
 ·rename_i hc;exact absurd h hc
 ·split at h
  ·omega
  ·rename_i hc hf;exact ⟨by omega,hf⟩
end Go.Proofs.YtpgckpafjiojfaaGreatDoor.BK
namespace Go.Proofs.YtpgckpafjiojfaaGreatDoor.BK
open Go Go.RowKit
def Bx.cells(x:Bx):Array Value:=#[.int .i64 x.f,.int .i64 x.o,.int .i64 x.p,.bool x.op,.int .i64 x.un,.int .i64 x.fails,.int .i64 x.good,.int .i64 x.under,.int .i64 x.last,.bool true]
def Bx.rcells(x:Bx):Array Value:=#[.bool true,.int .i64 x.f,.int .i64 x.o,.int .i64 x.p,.bool x.op,.int .i64 x.un,.int .i64 x.fails,.int .i64 x.good,.int .i64 x.under,.int .i64 x.last]
def BoxAt(w:World)(b:Nat)(x:Bx):Prop:=Blk w b 182 x.cells
def RBoxAt(w:World)(b:Nat)(x:Bx):Prop:=Blk w b 199 x.rcells
theorem box_cells{w:World}{b:Nat}{x:Bx}(h:BoxAt w b x) :
 w.cell? ⟨b,0,none⟩=some (.int .i64 x.f)∧w.cell? ⟨b,1,none⟩=some (.int .i64 x.o)∧w.cell? ⟨b,2,none⟩=some (.int .i64 x.p)∧w.cell? ⟨b,3,none⟩=some (.bool x.op)∧w.cell? ⟨b,4,none⟩=some (.int .i64 x.un) ∧
 w.cell? ⟨b,5,none⟩=some (.int .i64 x.fails)∧w.cell? ⟨b,6,none⟩=some (.int .i64 x.good)∧w.cell? ⟨b,7,none⟩=some (.int .i64 x.under)∧w.cell? ⟨b,8,none⟩=some (.int .i64 x.last)∧w.cell? ⟨b,9,none⟩=some (.bool true) :=
 ⟨Blk.cell h 0,Blk.cell h 1,Blk.cell h 2,Blk.cell h 3,Blk.cell h 4,Blk.cell h 5,Blk.cell h 6,Blk.cell h 7,Blk.cell h 8,Blk.cell h 9⟩
theorem rbox_cells{w:World}{b:Nat}{x:Bx}(h:RBoxAt w b x) :
 w.cell? ⟨b,0,none⟩=some (.bool true)∧w.cell? ⟨b,1,none⟩=some (.int .i64 x.f)∧w.cell? ⟨b,2,none⟩=some (.int .i64 x.o)∧w.cell? ⟨b,3,none⟩=some (.int .i64 x.p)∧w.cell? ⟨b,4,none⟩=some (.bool x.op) ∧
 w.cell? ⟨b,5,none⟩=some (.int .i64 x.un)∧w.cell? ⟨b,6,none⟩=some (.int .i64 x.fails)∧w.cell? ⟨b,7,none⟩=some (.int .i64 x.good)∧w.cell? ⟨b,8,none⟩=some (.int .i64 x.under)∧w.cell? ⟨b,9,none⟩=some (.int .i64 x.last) :=
 ⟨Blk.cell h 0,Blk.cell h 1,Blk.cell h 2,Blk.cell h 3,Blk.cell h 4,Blk.cell h 5,Blk.cell h 6,Blk.cell h 7,Blk.cell h 8,Blk.cell h 9⟩
section
variable{w:World}{b:Nat}{x:Bx}
theorem valid_ok(h:BoxAt w b x):Calls Tryz.prog 118 #[.pointer (some ⟨b,0,none⟩)] w fun e w'=>e=.returned (.bool true)∧w=w':=by
 have h9:=(box_cells h).2.2.2.2.2.2.2.2.2
 clear h
 go_enter Tryz.func118,Tryz.ntmps118
 go_wp2
 go_ret
 exact ⟨rfl,rfl⟩
theorem state_ok(h:BoxAt w b x)(now:Int):Calls Tryz.prog 53 #[.pointer (some ⟨b,0,none⟩),.int .i64 now] w fun e w'=>e=.returned (.int .i64 (state x now))∧w=w':=by
 obtain ⟨f,o,p,op,un,fails,good,under,last⟩:=x
 obtain ⟨-,-,-,h3,h4,-⟩:=box_cells h
 have V:=hid (valid_ok h)
 clear h
 cases op
 ·go_enter Tryz.func53,Tryz.ntmps53
  go_wp2_with fail
  refine V.out.mono ?_
  rintro e w' ⟨rfl,rfl⟩
  go_wp2
  go_ret
  exact ⟨rfl,rfl⟩
 ·by_cases hn:now<un
  all_goals
   go_enter Tryz.func53,Tryz.ntmps53
   go_wp2_with fail
   refine V.out.mono ?_
   rintro e w' ⟨rfl,rfl⟩
   go_wp2
   go_ret
   exact ⟨by simp [state,hn],rfl⟩
theorem check_ok(h:BoxAt w b x)(now:Int):Calls Tryz.prog 106 #[.pointer (some ⟨b,0,none⟩),.int .i64 now] w fun e w'=>e=.returned (.int .i64 (check x now))∧w=w':=by
 obtain ⟨f,o,p,op,un,fails,good,under,last⟩:=x
 obtain ⟨-,-,-,-,-,-,-,-,h8,-⟩:=box_cells h
 have V:=hid (valid_ok h)
 clear h
 by_cases h1:now<0
 ·have hc:Hid (check ⟨f,o,p,op,un,fails,good,under,last⟩ now=14):=hid (by unfold check;rw [if_pos (by omega)])
  go_enter Tryz.func106,Tryz.ntmps106
  go_wp2_with fail
  refine V.out.mono ?_
  rintro e w' ⟨rfl,rfl⟩
  go_wp2
  go_ret
  exact ⟨by rw [hc.out];rfl,rfl⟩
 ·by_cases h2:253402300799<now
  ·have hc:Hid (check ⟨f,o,p,op,un,fails,good,under,last⟩ now=14):=hid (by unfold check maxTime;rw [if_pos (by omega)])
   go_enter Tryz.func106,Tryz.ntmps106
   go_wp2_with fail
   refine V.out.mono ?_
   rintro e w' ⟨rfl,rfl⟩
   go_wp2
   go_ret
   exact ⟨by rw [hc.out];rfl,rfl⟩
  ·by_cases h3:now<last
   ·have hc:Hid (check ⟨f,o,p,op,un,fails,good,under,last⟩ now=8):=hid (by unfold check maxTime;rw [if_neg (by omega),if_pos h3])
    go_enter Tryz.func106,Tryz.ntmps106
    go_wp2_with fail
    refine V.out.mono ?_
    rintro e w' ⟨rfl,rfl⟩
    go_wp2
    go_ret
    exact ⟨by rw [hc.out];rfl,rfl⟩
   ·have hc:Hid (check ⟨f,o,p,op,un,fails,good,under,last⟩ now=0):=hid (by unfold check maxTime;rw [if_neg (by omega),if_neg h3])
    go_enter Tryz.func106,Tryz.ntmps106
    go_wp2_with fail
    refine V.out.mono ?_
    rintro e w' ⟨rfl,rfl⟩
    go_wp2
    go_ret
    exact ⟨by rw [hc.out];rfl,rfl⟩
theorem until_ok(h:BoxAt w b x):Calls Tryz.prog 64 #[.pointer (some ⟨b,0,none⟩)] w fun e w'=>e=.returned (.tuple #[.int .i64 (untilOf x),.bool x.op])∧w=w':=by
 obtain ⟨f,o,p,op,un,fails,good,under,last⟩:=x
 obtain ⟨-,-,-,h3,h4,-⟩:=box_cells h
 have V:=hid (valid_ok h)
 clear h
 cases op
 all_goals
  go_enter Tryz.func64,Tryz.ntmps64
  go_wp2_with fail
  refine V.out.mono ?_
  rintro e w' ⟨rfl,rfl⟩
  go_wp2
  go_ret2
  exact ⟨rfl,rfl⟩
theorem counts_ok(h:BoxAt w b x):Calls Tryz.prog 86 #[.pointer (some ⟨b,0,none⟩)] w fun e w'=>e=.returned (.tuple #[.int .i64 x.fails,.int .i64 x.good,.int .i64 x.under])∧∃n,w'=w.drewN n:=by
 obtain ⟨f,o,p,op,un,fails,good,under,last⟩:=x
 obtain ⟨-,-,-,-,-,h5,h6,h7,-⟩:=box_cells h
 have V:=hid (valid_ok h)
 clear h
 go_enter Tryz.func86,Tryz.ntmps86
 go_wp2_with fail
 refine V.out.mono ?_
 rintro e w' ⟨rfl,rfl⟩
 go_wp2_with fail
 go_quiet (fail)
 go_wp2_with fail
 go_ret3
 exact ⟨rfl,_,rfl⟩
theorem allows_ok(h:BoxAt w b x)(hi:Inv x)(now:Int):Calls Tryz.prog 62 #[.pointer (some ⟨b,0,none⟩),.int .i64 now] w fun e w'=>e=.returned (.bool (allows x now))∧∃n,w'=w.drewN n:=by
 have hs:=hi.small
 have hst:=state_ok h now
 obtain ⟨f,o,p,op,un,fails,good,under,last⟩:=x
 obtain ⟨-,-,h2,h3,h4,h5,h6,h7,-⟩:=box_cells h
 have V:=hid (valid_ok h)
 clear h hi
 simp only at hs
 cases op
 ·have S:=hid (show state ⟨f,o,p,false,un,fails,good,under,last⟩ now=0 from rfl)
  rw [S.out] at hst
  have ST:=hid hst
  clear hst
  go_enter Tryz.func62,Tryz.ntmps62
  go_wp2_with fail
  refine V.out.mono ?_
  rintro e w' ⟨rfl,rfl⟩
  go_wp2_with fail
  refine ST.out.mono ?_
  rintro e w' ⟨rfl,rfl⟩
  go_wp2_with fail
  go_ret
  exact ⟨rfl,0,rfl⟩
 ·by_cases hn:now<un
  ·rw [show state ⟨f,o,p,true,un,fails,good,under,last⟩ now=1 from by simp [state,hn]] at hst
   have ST:=hid hst
   have HA:=hid (show allows ⟨f,o,p,true,un,fails,good,under,last⟩ now=false by simp [allows,hn])
   clear hst
   go_enter Tryz.func62,Tryz.ntmps62
   go_wp2_with fail
   refine V.out.mono ?_
   rintro e w' ⟨rfl,rfl⟩
   go_wp2_with fail
   refine ST.out.mono ?_
   rintro e w' ⟨rfl,rfl⟩
   go_wp2_with fail
   go_ret
   exact ⟨by rw [HA.out];rfl,0,rfl⟩
  ·rw [show state ⟨f,o,p,true,un,fails,good,under,last⟩ now=2 from by simp [state,hn]] at hst
   have ST:=hid hst
   have HA:=hid (show allows ⟨f,o,p,true,un,fails,good,under,last⟩ now=decide (good+under<p) by simp [allows,hn])
   have hw:IntKind.i64.wrap (good+under)=good+under:=IntWalk.i64_in _ (by omega)
   clear hst
   go_enter Tryz.func62,Tryz.ntmps62
   go_wp2_with fail
   refine V.out.mono ?_
   rintro e w' ⟨rfl,rfl⟩
   go_wp2_with fail
   refine ST.out.mono ?_
   rintro e w' ⟨rfl,rfl⟩
   go_wp2_with fail
   go_quiet (fail)
   go_wp2_with fail
   go_ret
   exact ⟨by rw [HA.out];rfl,_,rfl⟩
end
section
variable{w:World}{b:Nat}{x:Bx}
theorem box_all{y:Bx}(h:BoxAt w b x):BoxAt (((((((((((w.setCell ⟨b,0,none⟩ (.int .i64 y.f)).setCell ⟨b,1,none⟩ (.int .i64 y.o)).setCell ⟨b,2,none⟩ (.int .i64 y.p)).setCell ⟨b,3,none⟩ (.bool y.op)).setCell ⟨b,4,none⟩ (.int .i64 y.un)).setCell ⟨b,5,none⟩ (.int .i64 y.fails)).setCell ⟨b,6,none⟩ (.int .i64 y.good)).setCell ⟨b,7,none⟩ (.int .i64 y.under)).setCell ⟨b,8,none⟩ (.int .i64 y.last)).setCell ⟨b,9,none⟩ (.bool true)).drew) b y:=by
 have h1:=(((((((((Blk.set_ h 0 (.int .i64 y.f)).set_ 1 (.int .i64 y.o)).set_ 2 (.int .i64 y.p)).set_ 3 (.bool y.op)).set_ 4 (.int .i64 y.un)).set_ 5 (.int .i64 y.fails)).set_ 6 (.int .i64 y.good)).set_ 7 (.int .i64 y.under)).set_ 8 (.int .i64 y.last)).set_ 9 (.bool true) |>.drew
 simp only [Bx.cells,List.setIfInBounds_toArray,List.set_cons_zero,List.set_cons_succ] at h1
 exact h1
theorem box_last(h:BoxAt w b x)(v:Int):BoxAt (w.setCell ⟨b,8,none⟩ (.int .i64 v)) b { x with last:=v }:=by
 have h1:=Blk.set_ h 8 (.int .i64 v)
 simp only [Bx.cells,List.setIfInBounds_toArray,List.set_cons_zero,List.set_cons_succ] at h1
 exact h1
theorem box_under(h:BoxAt w b x)(v:Int):BoxAt (w.setCell ⟨b,7,none⟩ (.int .i64 v)) b { x with under:=v }:=by
 have h1:=Blk.set_ h 7 (.int .i64 v)
 simp only [Bx.cells,List.setIfInBounds_toArray,List.set_cons_zero,List.set_cons_succ] at h1
 exact h1
theorem box_good(h:BoxAt w b x)(v:Int):BoxAt (w.setCell ⟨b,6,none⟩ (.int .i64 v)) b { x with good:=v }:=by
 have h1:=Blk.set_ h 6 (.int .i64 v)
 simp only [Bx.cells,List.setIfInBounds_toArray,List.set_cons_zero,List.set_cons_succ] at h1
 exact h1
theorem box_fails(h:BoxAt w b x)(v:Int):BoxAt (w.setCell ⟨b,5,none⟩ (.int .i64 v)) b { x with fails:=v }:=by
 have h1:=Blk.set_ h 5 (.int .i64 v)
 simp only [Bx.cells,List.setIfInBounds_toArray,List.set_cons_zero,List.set_cons_succ] at h1
 exact h1
def swBox(x:Bx)(now:Int):Bx:=if switched x now=0 then seen x now else x
theorem swBox_yes{x:Bx}{now:Int}(h:switched x now=0):swBox x now=seen x now:=if_pos h
theorem swBox_no{x:Bx}{now:Int}(h:switched x now≠0):swBox x now=x:=if_neg h
theorem start_ok(h:BoxAt w b x)(hs:0≤x.o∧x.o≤68719476736)(now:Int)(h0:0≤now)(h1:now≤253402300799) :
 Calls Tryz.prog 111 #[.pointer (some ⟨b,0,none⟩),.int .i64 now] w fun e w'=>e=.returned (.int .i64 7)∧BoxAt w' b (start x now)∧w.grownBy w' (some b):=by
 have hh:=hid h
 obtain ⟨f,o,p,op,un,fails,good,under,last⟩:=x
 obtain ⟨h0,h1,h2,h3,h4,h5,h6,h7,h8,h9⟩:=box_cells h
 have hz:=fun i=>Blk.frozen h i
 clear h
 simp only at hs
 have hw:IntKind.i64.wrap (now+o)=now+o:=IntWalk.i64_in _ (by omega)
 go_enter Tryz.func111,Tryz.ntmps111
 go_wp2_with fail
 go_still_tail 18,(by kernel_rfl)
 change wpList _ _ _ _ _ w.drew
 go_wp2_with fail
 go_ret
 refine ⟨rfl,box_all (y:=start ⟨f,o,p,op,un,fails,good,under,last⟩ now) hh.out,?_⟩
 (repeat (first|(with_reducible exact only_refl _ _)|(with_reducible refine only_drew ?_)|(with_reducible refine only_setCell ?_ (.inl rfl) _)))
theorem stop_ok(h:BoxAt w b x) :
 Calls Tryz.prog 112 #[.pointer (some ⟨b,0,none⟩)] w fun e w'=>e=.returned (.int .i64 8)∧BoxAt w' b (stop x)∧w.grownBy w' (some b):=by
 have hh:=hid h
 obtain ⟨f,o,p,op,un,fails,good,under,last⟩:=x
 obtain ⟨h0,h1,h2,h3,h4,h5,h6,h7,h8,h9⟩:=box_cells h
 have hz:=fun i=>Blk.frozen h i
 clear h
 go_enter Tryz.func112,Tryz.ntmps112
 go_wp2_with fail
 go_still_tail 11,(by kernel_rfl)
 change wpList _ _ _ _ _ w.drew
 go_wp2_with fail
 go_ret
 refine ⟨rfl,box_all (y:=stop ⟨f,o,p,op,un,fails,good,under,last⟩) hh.out,?_⟩
 (repeat (first|(with_reducible exact only_refl _ _)|(with_reducible refine only_drew ?_)|(with_reducible refine only_setCell ?_ (.inl rfl) _)))
theorem switched_ok(h:BoxAt w b x)(now:Int) :
 Calls Tryz.prog 110 #[.pointer (some ⟨b,0,none⟩),.int .i64 now] w fun e w'=>e=.returned (.int .i64 (switched x now))∧BoxAt w' b (swBox x now)∧w.grownBy w' (some b):=by
 have C:=hid (check_ok h now)
 have hh:=hid h
 obtain ⟨f,o,p,op,un,fails,good,under,last⟩:=x
 obtain ⟨h0,-,-,-,-,-,-,-,h8,-⟩:=box_cells h
 have hz:=fun i=>Blk.frozen h i
 clear h
 obtain ⟨c,hc⟩:∃c,check ⟨f,o,p,op,un,fails,good,under,last⟩ now=c:=⟨_,rfl⟩
 have HC:=hid hc
 rw [hc] at C
 clear hc
 by_cases hc0:c=0
 ·subst hc0
  by_cases hf:f=0
  ·have HS:Hid (switched ⟨f,o,p,op,un,fails,good,under,last⟩ now=9):=hid (by unfold switched;rw [HC.out];simp [hf])
   have hfb:(f==0)=true:=by simp [hf]
   have HF:=hid hf
   clear hf
   go_enter Tryz.func110,Tryz.ntmps110
   go_wp2_with fail
   refine C.out.mono ?_
   rintro e w' ⟨rfl,rfl⟩
   go_wp2_with fail
   go_ret
   rw [HS.out,swBox_no (by rw [HS.out];decide)]
   exact ⟨rfl,hh.out,only_refl _ _⟩
  ·have HS:Hid (switched ⟨f,o,p,op,un,fails,good,under,last⟩ now=0):=hid (by unfold switched;rw [HC.out];simp [hf])
   have hfb:(f==0)=false:=by simp [hf]
   clear hf
   go_enter Tryz.func110,Tryz.ntmps110
   go_wp2_with fail
   refine C.out.mono ?_
   rintro e w' ⟨rfl,rfl⟩
   go_wp2_with fail
   go_ret
   rw [HS.out,swBox_yes HS.out]
   exact ⟨rfl,box_last hh.out _,only_setCell (only_refl _ _) (.inl rfl) _⟩
 ·have HS:Hid (switched ⟨f,o,p,op,un,fails,good,under,last⟩ now=c):=hid (by unfold switched;rw [HC.out,if_pos hc0])
  have hcb:(c != 0)=true:=by simp [hc0]
  have HN:=hid hc0
  clear hc0
  go_enter Tryz.func110,Tryz.ntmps110
  go_wp2_with fail
  refine C.out.mono ?_
  rintro e w' ⟨rfl,rfl⟩
  go_wp2_with fail
  go_ret
  rw [HS.out,swBox_no (by rw [HS.out];exact HN.out)]
  exact ⟨rfl,hh.out,only_refl _ _⟩
theorem trip_ok(h:BoxAt w b x)(hi:Inv x)(now:Int) :
 Calls Tryz.prog 46 #[.pointer (some ⟨b,0,none⟩),.int .i64 now] w fun e w'=>e=.returned (.int .i64 (trip x now).1)∧BoxAt w' b (trip x now).2∧w.grownBy w' (some b):=by
 have C:=hid (switched_ok h now)
 obtain ⟨c,hc⟩:∃c,switched x now=c:=⟨_,rfl⟩
 have HC:=hid hc
 rw [hc] at C
 clear hc h
 by_cases hc0:c=0
 ·subst hc0
  have hck:=switched_zero HC.out
  obtain ⟨c1,c2,c3⟩:=check_zero hck.1
  have HI:=hid (show 0≤(seen x now).o∧(seen x now).o≤68719476736 from ⟨hi.small.2.2.1,hi.small.2.2.2.1⟩)
  rw [swBox_yes HC.out] at C
  clear hi hck c3
  unfold maxTime at c2
  go_enter Tryz.func46,Tryz.ntmps46
  go_wp2_with fail
  refine C.out.mono ?_
  rintro e w1 ⟨rfl,hb1,hg1⟩
  have HB:=hid hb1
  have HG:=hid hg1
  clear hb1 hg1
  go_wp2_with fail
  refine (start_ok HB.out HI.out now c1 c2).mono ?_
  rintro e w2 ⟨rfl,hb2,hg2⟩
  have HB2:=hid hb2
  have HG2:=hid hg2
  clear hb2 hg2
  go_wp2_with fail
  go_ret
  unfold trip
  rw [HC.out]
  exact ⟨rfl,HB2.out,only_trans HG.out HG2.out⟩
 ·rw [swBox_no (by rw [HC.out];exact hc0)] at C
  have hcb:(c==0)=false:=by simp [hc0]
  have HN:=hid hc0
  clear hc0
  go_enter Tryz.func46,Tryz.ntmps46
  go_wp2_with fail
  refine C.out.mono ?_
  rintro e w1 ⟨rfl,hb1,hg1⟩
  have HB:=hid hb1
  have HG:=hid hg1
  clear hb1 hg1
  go_wp2_with fail
  go_ret
  unfold trip
  rw [HC.out,if_pos HN.out]
  exact ⟨rfl,HB.out,HG.out⟩
end
section
variable{w:World}{b:Nat}{x:Bx}
theorem take_ok(h:BoxAt w b x)(hi:Inv x)(now:Int) :
 Calls Tryz.prog 50 #[.pointer (some ⟨b,0,none⟩),.int .i64 now] w fun e w'=>e=.returned (.int .i64 (take x now).1)∧BoxAt w' b (take x now).2∧w.grownBy w' (some b):=by
 have C:=hid (check_ok h now)
 have A:=hid (allows_ok h hi now)
 have S:=hid (fun n=>state_ok (Blk.drewN h n) now)
 have hh:=hid h
 have hs:=hi.small
 obtain ⟨c,hc⟩:∃c,check x now=c:=⟨_,rfl⟩
 have HC:=hid hc
 rw [hc] at C
 clear hc
 by_cases hc0:c=0
 ·subst hc0
  cases ha:allows x now
  ·have HT:Hid (take x now=(9,x)):=hid (by unfold take;rw [HC.out,ha];simp)
   rw [ha] at A
   clear hs ha h
   go_enter Tryz.func50,Tryz.ntmps50
   go_wp2_with fail
   refine C.out.mono ?_
   rintro e w' ⟨rfl,rfl⟩
   go_wp2_with fail
   refine A.out.mono ?_
   rintro e w' ⟨rfl,n,rfl⟩
   go_wp2_with fail
   go_ret
   rw [HT.out]
   exact ⟨rfl,Blk.drewN hh.out n,only_drewN (only_refl _ _) n⟩
  ·rw [ha] at A
   by_cases hh2:x.op=true∧x.un≤now
   ·have HT:Hid (take x now=(0,seen { x with under:=x.under+1 } now)):=hid (by unfold take;rw [HC.out,ha,if_pos hh2];simp)
    have hst:state x now=2:=by unfold state;rw [if_neg (by simp [hh2.1]),if_neg (by omega)]
    rw [hst] at S
    have hcell:=(box_cells h).2.2.2.2.2.2.2.1
    have hcell8:=(box_cells h).2.2.2.2.2.2.2.2.1
    have hz:=fun i=>Blk.frozen h i
    clear ha h hh2 hst
    go_enter Tryz.func50,Tryz.ntmps50
    go_wp2_with fail
    refine C.out.mono ?_
    rintro e w' ⟨rfl,rfl⟩
    go_wp2_with fail
    refine A.out.mono ?_
    rintro e w' ⟨rfl,n,rfl⟩
    go_wp2_with fail
    refine (S.out n).mono ?_
    rintro e w' ⟨rfl,rfl⟩
    go_wp2_with fail
    go_ret
    rw [HT.out]
    refine ⟨rfl,box_last (box_under (Blk.drewN hh.out n) _) _,?_⟩
    (repeat (first|(with_reducible exact only_refl _ _)|(with_reducible refine only_drewN ?_ _)|(with_reducible refine only_setCell ?_ (.inl rfl) _)))
   ·have HT:Hid (take x now=(0,seen x now)):=hid (by unfold take;rw [HC.out,ha,if_neg hh2];simp)
    have hst:(state x now==2)=false:=by
     unfold state
     cases ho:x.op
     ·rfl
     ·rw [if_neg (by simp),if_pos (by rw [ho] at hh2;simp at hh2;omega)];rfl
    have hcell8:=(box_cells h).2.2.2.2.2.2.2.2.1
    have hz:=fun i=>Blk.frozen h i
    generalize state x now=s at *
    clear ha h hh2
    go_enter Tryz.func50,Tryz.ntmps50
    go_wp2_with fail
    refine C.out.mono ?_
    rintro e w' ⟨rfl,rfl⟩
    go_wp2_with fail
    refine A.out.mono ?_
    rintro e w' ⟨rfl,n,rfl⟩
    go_wp2_with fail
    refine (S.out n).mono ?_
    rintro e w' ⟨rfl,rfl⟩
    go_wp2_with fail
    go_ret
    rw [HT.out]
    refine ⟨rfl,box_last (Blk.drewN hh.out n) _,?_⟩
    (repeat (first|(with_reducible exact only_refl _ _)|(with_reducible refine only_drewN ?_ _)|(with_reducible refine only_setCell ?_ (.inl rfl) _)))
 ·have HT:Hid (take x now=(c,x)):=hid (by unfold take;rw [HC.out,if_pos hc0])
  have hcb:(c != 0)=true:=by simp [hc0]
  clear hc0 hs h
  go_enter Tryz.func50,Tryz.ntmps50
  go_wp2_with fail
  refine C.out.mono ?_
  rintro e w' ⟨rfl,rfl⟩
  go_wp2_with fail
  go_ret
  rw [HT.out]
  exact ⟨rfl,hh.out,only_refl _ _⟩
theorem closed_ok(h:BoxAt w b x)(hi:Inv x)(ok:Bool)(now:Int)(h0:0≤now)(h1:now≤253402300799) :
 Calls Tryz.prog 107 #[.pointer (some ⟨b,0,none⟩),.bool ok,.int .i64 now] w fun e w'=>e=.returned (.int .i64 (closed x ok now).1)∧BoxAt w' b (closed x ok now).2∧w.grownBy w' (some b):=by
 have hs:=hi.small
 have hh:=hid h
 have hf:=(box_cells h).2.2.2.2.2.1
 have hr:=(box_cells h).1
 have hz:=fun i=>Blk.frozen h i
 cases ok
 ·by_cases hlt:x.fails+1<x.f
  ·have HC:Hid (closed x false now=(0,{ x with fails:=x.fails+1 })):=hid (by unfold closed;simp [hlt])
   clear h hi
   go_enter Tryz.func107,Tryz.ntmps107
   go_wp2_with fail
   go_quiet (fail)
   go_wp2_with fail
   go_ret
   rw [HC.out]
   refine ⟨rfl,Blk.drewN (box_fails hh.out _) _,only_drewN ?_ _⟩
   (repeat (first|(with_reducible exact only_refl _ _)|(with_reducible refine only_setCell ?_ (.inl rfl) _)))
  ·have HC:Hid (closed x false now=(7,start x now)):=hid (by unfold closed;simp [hlt])
   have HI:Hid (0≤x.o∧x.o≤68719476736):=hid ⟨by omega,by omega⟩
   have hlt':decide (x.fails+1<x.f)=false:=decide_eq_false hlt
   clear h hi hlt
   go_enter Tryz.func107,Tryz.ntmps107
   go_wp2_with fail
   go_quiet (fail)
   go_wp2_with fail
   refine (start_ok (x:={ x with fails:=x.fails+1 }) (Blk.drewN (box_fails hh.out (x.fails+1)) _) HI.out now h0 h1).mono ?_
   rintro e w2 ⟨rfl,hb2,hg2⟩
   have HB2:=hid hb2
   have HG2:=hid hg2
   clear hb2 hg2
   go_wp2_with fail
   go_ret
   rw [HC.out]
   refine ⟨rfl,HB2.out,only_trans (only_drewN (only_setCell (only_refl _ _) (.inl rfl) _) _) HG2.out⟩
 ·have HC:Hid (closed x true now=(0,{ x with fails:=0 })):=hid rfl
  clear h hi
  go_enter Tryz.func107,Tryz.ntmps107
  go_wp2_with fail
  go_ret
  rw [HC.out]
  exact ⟨rfl,box_fails hh.out _,only_setCell (only_refl _ _) (.inl rfl) _⟩
theorem opened_ok(ok:Bool)(now:Int)(p:Value) :
 Calls Tryz.prog 108 #[p,.bool ok,.int .i64 now] w fun e w'=>e=.returned (.int .i64 0)∧w=w':=by
 go_enter Tryz.func108,Tryz.ntmps108
 go_wp2_with fail
 go_ret
 exact ⟨rfl,rfl⟩
theorem half_ok(h:BoxAt w b x)(hi:Inv x)(ok:Bool)(now:Int)(h0:0≤now)(h1:now≤253402300799) :
 Calls Tryz.prog 109 #[.pointer (some ⟨b,0,none⟩),.bool ok,.int .i64 now] w fun e w'=>e=.returned (.int .i64 (half x ok now).1)∧BoxAt w' b (half x ok now).2∧w.grownBy w' (some b):=by
 have hs:=hi.small
 have hh:=hid h
 have hu:=(box_cells h).2.2.2.2.2.2.2.1
 have hg:=(box_cells h).2.2.2.2.2.2.1
 have hr:=(box_cells h).2.2.1
 have hz:=fun i=>Blk.frozen h i
 have HI:Hid (0≤x.o∧x.o≤68719476736):=hid ⟨by omega,by omega⟩
 cases ok
 ·have HC:Hid (half x false now=(7,start x now)):=hid rfl
  clear h hi hs
  go_enter Tryz.func109,Tryz.ntmps109
  go_wp2_with fail
  refine (start_ok hh.out HI.out now h0 h1).mono ?_
  rintro e w2 ⟨rfl,hb2,hg2⟩
  have HB2:=hid hb2
  have HG2:=hid hg2
  clear hb2 hg2
  go_wp2_with fail
  go_ret
  rw [HC.out]
  exact ⟨rfl,HB2.out,HG2.out⟩
 ·by_cases hu0:x.under=0
  ·have HC:Hid (half x true now=(0,x)):=hid (by unfold half;simp [hu0])
   have hub:(x.under==0)=true:=by simp [hu0]
   clear h hi hs hu0
   go_enter Tryz.func109,Tryz.ntmps109
   go_wp2_with fail
   go_ret
   rw [HC.out]
   exact ⟨rfl,hh.out,only_refl _ _⟩
  ·have hub:(x.under==0)=false:=by simp [hu0]
   have hu1:1≤x.under:=by omega
   by_cases hlt:x.good+1<x.p
   ·have HC:Hid (half x true now=(0,{ x with under:=x.under - 1,good:=x.good+1 })):=hid (by unfold half;simp [hu0,hlt])
    clear h hi hu0
    go_enter Tryz.func109,Tryz.ntmps109
    go_wp2_with fail
    go_quiet (fail)
    go_wp2_with fail
    go_ret
    rw [HC.out]
    refine ⟨rfl,Blk.drewN (box_good (box_under hh.out _) _) _,only_drewN ?_ _⟩
    (repeat (first|(with_reducible exact only_refl _ _)|(with_reducible refine only_setCell ?_ (.inl rfl) _)))
   ·have HC:Hid (half x true now=(8,stop x)):=hid (by unfold half;simp [hu0,hlt])
    have hlt':decide (x.good+1<x.p)=false:=decide_eq_false hlt
    clear h hi hu0 hlt
    go_enter Tryz.func109,Tryz.ntmps109
    go_wp2_with fail
    go_quiet (fail)
    go_wp2_with fail
    refine (stop_ok (x:={ x with under:=x.under - 1,good:=x.good+1 }) (Blk.drewN (box_good (box_under hh.out (x.under - 1)) (x.good+1)) _)).mono ?_
    rintro e w2 ⟨rfl,hb2,hg2⟩
    have HB2:=hid hb2
    have HG2:=hid hg2
    clear hb2 hg2
    go_wp2_with fail
    go_ret
    rw [HC.out]
    refine ⟨rfl,HB2.out,only_trans ?_ HG2.out⟩
    (repeat (first|(with_reducible exact only_refl _ _)|(with_reducible refine only_drewN ?_ _)|(with_reducible refine only_setCell ?_ (.inl rfl) _)))
theorem report_ok(h:BoxAt w b x)(hi:Inv x)(ok:Bool)(now:Int) :
 Calls Tryz.prog 45 #[.pointer (some ⟨b,0,none⟩),.bool ok,.int .i64 now] w fun e w'=>e=.returned (.tuple #[.int .i64 (report x ok now).1,.int .i64 (report x ok now).2.1])∧BoxAt w' b (report x ok now).2.2∧w.grownBy w' (some b):=by
 have C:=hid (check_ok h now)
 have hh:=hid h
 have hr:=(box_cells h).1
 have hl:=(box_cells h).2.2.2.2.2.2.2.2.1
 have hz:=fun i=>Blk.frozen h i
 obtain ⟨c,hc⟩:∃c,check x now=c:=⟨_,rfl⟩
 have HC:=hid hc
 rw [hc] at C
 clear hc
 by_cases hc0:c=0
 ·subst hc0
  by_cases hf:x.f=0
  ·have HT:Hid (report x ok now=(0,0,seen x now)):=hid (by unfold report;rw [HC.out];simp [hf])
   have hfb:(x.f==0)=true:=by simp [hf]
   clear hf h
   go_enter Tryz.func45,Tryz.ntmps45
   go_wp2_with fail
   refine C.out.mono ?_
   rintro e w' ⟨rfl,rfl⟩
   go_wp2_with fail
   go_ret2
   rw [HT.out]
   exact ⟨rfl,box_last hh.out _,only_setCell (only_refl _ _) (.inl rfl) _⟩
  ·obtain ⟨c1,c2,c3⟩:=check_zero HC.out
   unfold maxTime at c2
   have HI:=hid (inv_seen hi HC.out)
   clear hi c3
   cases ho:x.op
   ·have HT:Hid (report x ok now=((closed (seen x now) ok now).1,0,(closed (seen x now) ok now).2)):=hid (by unfold report;rw [HC.out];simp only [ne_eq,not_true_eq_false,if_false,if_neg hf];unfold ended;rw [show (seen x now).op=false from ho,if_pos rfl])
    have hst:state (seen x now) now=0:=by unfold state;rw [if_pos (show (seen x now).op=false from ho)]
    have hfb:(x.f==0)=false:=by simp [hf]
    have S:=hid (fun o=>state_ok (Blk.alloc (box_last hh.out now) o) now)
    have HB:=hid (fun o=>Blk.alloc (box_last hh.out now) o)
    have S':Hid (∀o,Calls Tryz.prog 53 #[.pointer (some ⟨b,0,none⟩),.int .i64 now] ((w.setCell ⟨b,8,none⟩ (.int .i64 now)).alloc o) fun e w'=>e=.returned (.int .i64 0)∧((w.setCell ⟨b,8,none⟩ (.int .i64 now)).alloc o)=w'):=hid (by rw [←hst];exact S.out)
    clear hf h hst S ho
    go_enter Tryz.func45,Tryz.ntmps45
    go_wp2_with fail
    refine C.out.mono ?_
    rintro e w' ⟨rfl,rfl⟩
    go_wp2_with fail
    refine (S'.out _).mono ?_
    rintro e w' ⟨rfl,rfl⟩
    go_wp2_with fail
    refine (closed_ok (x:=seen x now) (HB.out _) HI.out ok now c1 c2).mono ?_
    rintro e w2 ⟨rfl,hb2,hg2⟩
    have HB2:=hid hb2
    have HG2:=hid hg2
    clear hb2 hg2
    go_wp2_with fail
    go_ret2
    rw [HT.out]
    refine ⟨rfl,HB2.out,only_trans ?_ HG2.out⟩
    (repeat (first|(with_reducible exact only_refl _ _)|(with_reducible refine only_drewN ?_ _)|(with_reducible refine only_alloc ?_ _)|(with_reducible refine only_setCell ?_ (.inl rfl) _)))
   ·by_cases hn:now<x.un
    ·have HT:Hid (report x ok now=(0,0,seen x now)):=hid (by unfold report;rw [HC.out];simp only [ne_eq,not_true_eq_false,if_false,if_neg hf];unfold ended;rw [if_neg (by rw [show (seen x now).op=true from ho];simp),if_pos (show now<(seen x now).un from hn)])
     have hst:state (seen x now) now=1:=by unfold state;rw [if_neg (by rw [show (seen x now).op=true from ho];simp),if_pos (show now<(seen x now).un from hn)]
     have hfb:(x.f==0)=false:=by simp [hf]
     have S:=hid (fun o=>state_ok (Blk.alloc (box_last hh.out now) o) now)
     have HB:=hid (fun o=>Blk.alloc (box_last hh.out now) o)
     have S':Hid (∀o,Calls Tryz.prog 53 #[.pointer (some ⟨b,0,none⟩),.int .i64 now] ((w.setCell ⟨b,8,none⟩ (.int .i64 now)).alloc o) fun e w'=>e=.returned (.int .i64 1)∧((w.setCell ⟨b,8,none⟩ (.int .i64 now)).alloc o)=w'):=hid (by rw [←hst];exact S.out)
     clear hf h hst S ho hn
     go_enter Tryz.func45,Tryz.ntmps45
     go_wp2_with fail
     refine C.out.mono ?_
     rintro e w' ⟨rfl,rfl⟩
     go_wp2_with fail
     refine (S'.out _).mono ?_
     rintro e w' ⟨rfl,rfl⟩
     go_wp2_with fail
     refine (opened_ok ok now _).mono ?_
     rintro e w2 ⟨rfl,rfl⟩
     go_wp2_with fail
     go_ret2
     rw [HT.out]
     refine ⟨rfl,HB.out _,?_⟩
     (repeat (first|(with_reducible exact only_refl _ _)|(with_reducible refine only_drewN ?_ _)|(with_reducible refine only_alloc ?_ _)|(with_reducible refine only_setCell ?_ (.inl rfl) _)))
    ·have HT:Hid (report x ok now=((half (seen x now) ok now).1,0,(half (seen x now) ok now).2)):=hid (by unfold report;rw [HC.out];simp only [ne_eq,not_true_eq_false,if_false,if_neg hf];unfold ended;rw [if_neg (by rw [show (seen x now).op=true from ho];simp),if_neg (show ¬now<(seen x now).un from hn)])
     have hst:state (seen x now) now=2:=by unfold state;rw [if_neg (by rw [show (seen x now).op=true from ho];simp),if_neg (show ¬now<(seen x now).un from hn)]
     have hfb:(x.f==0)=false:=by simp [hf]
     have S:=hid (fun o=>state_ok (Blk.alloc (box_last hh.out now) o) now)
     have HB:=hid (fun o=>Blk.alloc (box_last hh.out now) o)
     have S':Hid (∀o,Calls Tryz.prog 53 #[.pointer (some ⟨b,0,none⟩),.int .i64 now] ((w.setCell ⟨b,8,none⟩ (.int .i64 now)).alloc o) fun e w'=>e=.returned (.int .i64 2)∧((w.setCell ⟨b,8,none⟩ (.int .i64 now)).alloc o)=w'):=hid (by rw [←hst];exact S.out)
     clear hf h hst S ho hn
     go_enter Tryz.func45,Tryz.ntmps45
     go_wp2_with fail
     refine C.out.mono ?_
     rintro e w' ⟨rfl,rfl⟩
     go_wp2_with fail
     refine (S'.out _).mono ?_
     rintro e w' ⟨rfl,rfl⟩
     go_wp2_with fail
     refine (half_ok (x:=seen x now) (HB.out _) HI.out ok now c1 c2).mono ?_
     rintro e w2 ⟨rfl,hb2,hg2⟩
     have HB2:=hid hb2
     have HG2:=hid hg2
     clear hb2 hg2
     go_wp2_with fail
     go_ret2
     rw [HT.out]
     refine ⟨rfl,HB2.out,only_trans ?_ HG2.out⟩
     (repeat (first|(with_reducible exact only_refl _ _)|(with_reducible refine only_drewN ?_ _)|(with_reducible refine only_alloc ?_ _)|(with_reducible refine only_setCell ?_ (.inl rfl) _)))
 ·have HT:Hid (report x ok now=(0,c,x)):=hid (by unfold report;rw [HC.out,if_pos hc0])
  have hcb:(c != 0)=true:=by simp [hc0]
  clear hc0 h
  go_enter Tryz.func45,Tryz.ntmps45
  go_wp2_with fail
  refine C.out.mono ?_
  rintro e w' ⟨rfl,rfl⟩
  go_wp2_with fail
  go_ret2
  rw [HT.out]
  exact ⟨rfl,hh.out,only_refl _ _⟩
end
section
variable{w:World}{b:Nat}{x:Bx}
theorem in_yes{n m:Int}(h1:1≤n)(h2:n≤m):Calls Tryz.prog 102 #[.int .i64 n,.int .i64 m] w fun e w'=>e=.returned (.bool true)∧w=w':=by
 go_enter Tryz.func102,Tryz.ntmps102
 go_wp2_with fail
 go_ret
 exact ⟨rfl,rfl⟩
theorem new_yes{f o p:Int}(h:zero f o p=true∨ruled f o p=true) :
 Calls Tryz.prog 42 #[.agg #[.int .i64 f,.int .i64 o,.int .i64 p]] w fun e w'=>∃n,e=.returned (.tuple #[.pointer (some ⟨n,0,none⟩),.int .i64 0])∧BoxAt w' n (fresh f o p)∧Below w.heap.size w w'∧w.heap.size≤n:=by
 by_cases hz:zero f o p=true
 ·unfold zero at hz
  obtain ⟨rfl,rfl,rfl⟩:=of_decide_eq_true hz
  clear h hz
  go_enter Tryz.func42,Tryz.ntmps42
  go_wp2_with fail
  go_ret2
  exact ⟨_,rfl,Blk.newAt (by simp),((Below.refl _ _).alloc (Nat.le_refl _) _).alloc (by simp) _,by omega⟩
 ·have hr:=h.resolve_left hz
  unfold ruled maxSpan at hr
  obtain ⟨f1,f2,o1,o2,p1,p2⟩:=of_decide_eq_true hr
  have hf:¬f=0:=by omega
  clear h hz hr
  go_enter Tryz.func42,Tryz.ntmps42
  go_wp2_with fail
  refine (in_yes f1 f2).mono ?_
  rintro e w' ⟨rfl,rfl⟩
  go_wp2_with fail
  refine (in_yes o1 o2).mono ?_
  rintro e w' ⟨rfl,rfl⟩
  go_wp2_with fail
  refine (in_yes p1 p2).mono ?_
  rintro e w' ⟨rfl,rfl⟩
  go_wp2_with fail
  go_ret2
  exact ⟨_,rfl,Blk.newAt (by simp),((Below.refl _ _).alloc (Nat.le_refl _) _).alloc (by simp) _,by omega⟩
end
section
variable{B:Nat}{w0 w w':World}{b c:Nat}{x y:Bx}
end
end Go.Proofs.YtpgckpafjiojfaaGreatDoor.BK
