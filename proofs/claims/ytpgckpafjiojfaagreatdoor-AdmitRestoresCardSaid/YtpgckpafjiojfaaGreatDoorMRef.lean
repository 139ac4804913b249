/- Contracts of zone.Check and civil.Date. Contracts of the reference's Leap, leaps, before and Length. Contract of the reference's Length. Contract of the reference's Date. Contract of the reference's Check of a zone. -/
import Derived.Test.YtpgckpafjiojfaaGreatDoorABits
import Derived.Test.YtpgckpafjiojfaaGreatDoorMTimes
import Derived.Below
open Go.Lib (hid)
set_option maxRecDepth 16000
set_option maxHeartbeats 40000000
namespace Go.Proofs.YtpgckpafjiojfaaGreatDoor.BW
open Go.RowKit BM MC
def zoneR(z:Int):Int:=if -840≤z∧z≤840 then 0 else 2
theorem zone_ok(z:Int)(w:World):Calls Tryz.prog 195 #[.int .i64 z] w fun e w'=>e=.returned (.int .i64 (zoneR z))∧w=w':=by
 by_cases h : -840≤z∧z≤840
 ·have E:Hid (zoneR z=0):=hid (if_pos h)
  go_enter Tryz.func195,Tryz.ntmps195
  go_wp2
  all_goals first
   | (exfalso;omega)
   | (go_ret;exact ⟨ret_i64 (by rw [E.out]),rfl⟩)
 ·have E:Hid (zoneR z=2):=hid (if_neg h)
  go_enter Tryz.func195,Tryz.ntmps195
  go_wp2
  all_goals first
   | (exfalso;omega)
   | (go_ret;exact ⟨ret_i64 (by rw [E.out]),rfl⟩)
theorem results_four{fn:Func}{t u v x:Tmp}(h:fn.results=#[.tmp t,.tmp u,.tmp v,.tmp x])(tmps:Array Value)(P:Program)(w:World) :
 (results fn tmps).run P w=.ok (.tuple #[tmps.getD t undef,tmps.getD u undef,tmps.getD v undef,tmps.getD x undef]) w:=by
 simp [results,h]
theorem ret_iiii{a b c a' b' c':Int}(h:a=a')(h2:b=b')(h3:c=c'):Ending.returned (.tuple #[.int .i64 a,.int .i64 b,.int .i64 c,.int .i64 0])=.returned (.tuple #[.int .i64 a',.int .i64 b',.int .i64 c',.int .i64 0]):=by rw [h,h2,h3]
theorem doy_int(d:Nat)(h:d<146097) :
 (d:Int) - (365*(((d:Int) - d / 1460+d / 36524 - d / 146096) / 365)+((d:Int) - d / 1460+d / 36524 - d / 146096) / 365 / 4 - ((d:Int) - d / 1460+d / 36524 - d / 146096) / 365 / 100)=((d - sy (fy d):Nat):Int) ∧
 ((d:Int) - d / 1460+d / 36524 - d / 146096) / 365=(fy d:Nat)∧d - sy (fy d)≤365:=by
 obtain ⟨f1,f2,f3⟩:=fy_spec d h
 have e:((d:Int) - d / 1460+d / 36524 - d / 146096) / 365=(fy d:Nat):=by unfold fy;omega
 refine ⟨?_,e,?_⟩
 ·rw [e]
  generalize fy d=y at *
  unfold sy at *
  omega
 ·generalize fy d=y at *
  unfold syE sy at *
  split at f3<;>omega
theorem day_int(D:Nat)(h:D≤365):(D:Int) - (153*((5*(D:Int)+2) / 153)+2) / 5+1=((D - (153*((5*D+2) / 153)+2) / 5+1:Nat):Int):=by
 have q:=(mp_at D (by omega)).2.1
 unfold cumM mp at q
 have h1:(5*(D:Int)+2) / 153=(((5*D+2) / 153:Nat):Int):=by rw [Int.natCast_ediv];simp
 rw [h1]
 generalize (5*D+2) / 153=e at q ⊢
 have h2:(153*(e:Int)+2) / 5=(((153*e+2) / 5:Nat):Int):=by rw [Int.natCast_ediv];simp
 rw [h2]
 generalize (153*e+2) / 5=f at q ⊢
 omega
theorem date_ok(n:Nat)(h:n≤2932896)(w:World):Calls Tryz.prog 238 #[.int .i64 n] w fun e w'=>e=.returned (.tuple #[.int .i64 ((ymdC n).1:Nat),.int .i64 ((ymdC n).2.1:Nat),.int .i64 ((ymdC n).2.2:Nat),.int .i64 0])∧w=w':=by
 obtain ⟨d1,d2,d3⟩:=doy_int ((n+719468) % 146097) (Nat.mod_lt _ (by omega))
 have hc:(((n+719468) % 146097:Nat):Int)=((n:Int)+719468) % 146097:=by omega
 rw [hc] at d1 d2
 obtain ⟨D,hD⟩:∃D,D=(n+719468) % 146097 - sy (fy ((n+719468) % 146097)):=⟨_,rfl⟩
 rw [←hD] at d1 d3
 have Y:Hid (ymdC n=if 12<(5*D+2) / 153+3 then (400*((n+719468) / 146097)+fy ((n+719468) % 146097)+1,(5*D+2) / 153+3 - 12,D - (153*((5*D+2) / 153)+2) / 5+1) else (400*((n+719468) / 146097)+fy ((n+719468) % 146097),(5*D+2) / 153+3,D - (153*((5*D+2) / 153)+2) / 5+1)):=hid (by rw [hD];rfl)
 clear hD
 have d2':=hid d2
 clear d2
 go_enter Tryz.func238,Tryz.ntmps238
 go_wp2
 ·(try simp only [Exit.inBlock,Exit.then])
  refine bodyPost_ret (results_four rfl _ _ _) rfl ?_
  have Z:=Y.out
  rw [if_pos (by omega)] at Z
  refine ⟨ret_iiii ?_ ?_ ?_,rfl⟩
  ·rw [d2'.out,Z];omega
  ·rw [Z];simp only;omega
  ·rw [Z];exact day_int D d3
 ·(try simp only [Exit.inBlock,Exit.then])
  refine bodyPost_ret (results_four rfl _ _ _) rfl ?_
  have Z:=Y.out
  rw [if_neg (by omega)] at Z
  refine ⟨ret_iiii ?_ ?_ ?_,rfl⟩
  ·rw [d2'.out,Z];omega
  ·rw [Z];simp only;omega
  ·rw [Z];exact day_int D d3
theorem ret_ii{a b:Int}{c d:Int}(h:a=b)(h':c=d):Ending.returned (.tuple #[.int .i64 a,.int .i64 c])=.returned (.tuple #[.int .i64 b,.int .i64 d]):=by rw [h,h']
theorem rzone_ok(z:Int)(w:World):Calls Tryz.prog 152 #[.int .i64 z] w fun e w'=>e=.returned (.int .i64 (zoneR z))∧w=w':=by
 by_cases h : -840≤z∧z≤840
 ·have E:Hid (zoneR z=0):=hid (if_pos h)
  go_enter Tryz.func152,Tryz.ntmps152
  go_wp2
  all_goals first
   | (exfalso;omega)
   | (go_ret;exact ⟨ret_i64 (by rw [E.out]),rfl⟩)
 ·have E:Hid (zoneR z=2):=hid (if_neg h)
  go_enter Tryz.func152,Tryz.ntmps152
  go_wp2
  all_goals first
   | (exfalso;omega)
   | (go_ret;exact ⟨ret_i64 (by rw [E.out]),rfl⟩)
end Go.Proofs.YtpgckpafjiojfaaGreatDoor.BW
