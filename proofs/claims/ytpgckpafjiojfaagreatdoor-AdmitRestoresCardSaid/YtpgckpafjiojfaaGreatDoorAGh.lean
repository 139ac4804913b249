/- Contracts of a gate: made, has, call, Until, State, Trip, Reset, Give. -/
import Derived.Test.YtpgckpafjiojfaaGreatDoorAGg
open Go.Lib (hid)
set_option maxRecDepth 16000
set_option maxHeartbeats 40000000
namespace Go.Proofs.YtpgckpafjiojfaaGreatDoor.AD
open Go Go.RowKit
open BK (Bx BoxAt Blk only_refl only_drew only_drewN only_setCell only_trans only_of_below only_alloc below_drewN)
section
variable{w:World}{L:Ly}{x:Gt}
theorem GAt.c0(h:GAt w L x):w.cell? ⟨L.g,0,none⟩=some (.pointer (some ⟨L.cp,0,none⟩)):=Blk.cell h.gate 0
theorem GAt.c1(h:GAt w L x):w.cell? ⟨L.g,1,none⟩=some (.int .i64 x.cap):=Blk.cell h.gate 1
theorem GAt.c2(h:GAt w L x):w.cell? ⟨L.g,2,none⟩=some (.pointer (some ⟨L.lm,0,none⟩)):=Blk.cell h.gate 2
theorem GAt.c3(h:GAt w L x):w.cell? ⟨L.g,3,none⟩=some (.slice L.da x.js.length L.dc):=Blk.cell h.gate 3
theorem GAt.c4(h:GAt w L x):w.cell? ⟨L.g,4,none⟩=some (.slice L.ea x.js.length L.ec):=Blk.cell h.gate 4
theorem GAt.c5(h:GAt w L x):w.cell? ⟨L.g,5,none⟩=some (.int .i64 x.last):=Blk.cell h.gate 5
theorem GAt.dr(h:GAt w L x){k:Nat}{j:Jt}(hk:x.js[k]? = some j):∃b,L.da=some ⟨b,0,none⟩∧w.cell? ⟨L.g,3,none⟩=some (.slice (some ⟨b,0,none⟩) x.js.length L.dc)∧w.cell? ⟨b,k*2,none⟩=some (.pointer (some ⟨L.li k,0,none⟩))∧w.cell? ⟨b,k*2+1,none⟩=some (.pointer (some ⟨L.bo k,0,none⟩))∧b<w.heap.size∧k<x.js.length:=by
 have hl:k<x.js.length:=(List.getElem?_eq_some_iff.1 hk).1
 obtain ⟨b,cs,e,h1,h2⟩:=h.door (by omega)
 refine ⟨b,e,?_,(Blk.cell h1 _).trans (h2 k hl).1,(Blk.cell h1 _).trans (h2 k hl).2,Blk.lt h1,hl⟩
 have:=h.c3
 rwa [e] at this
theorem GAt.er(h:GAt w L x){k:Nat}{j:Jt}(hk:x.js[k]? = some j):∃b,w.cell? ⟨L.g,4,none⟩=some (.slice (some ⟨b,0,none⟩) x.js.length L.ec)∧w.cell? ⟨b,k,none⟩=some (.int .i64 j.cap):=by
 have hl:k<x.js.length:=(List.getElem?_eq_some_iff.1 hk).1
 obtain ⟨b,cs,e,h1,h2⟩:=h.each (by omega)
 refine ⟨b,?_,(Blk.cell h1 _).trans (h2 k j hk)⟩
 have:=h.c4
 rwa [e] at this
theorem Gt.Inv.of(h:x.Inv){k:Nat}{j:Jt}(hk:x.js[k]? = some j):(1≤j.cap∧j.cap≤1000)∧(0≤j.runs∧j.runs≤j.cap)∧j.lm.Inv∧BK.Inv j.bx:=h.js j (List.mem_of_getElem? hk)
theorem Gt.Inv.set(h:x.Inv){k:Nat}{j':Jt}(h':(1≤j'.cap∧j'.cap≤1000)∧(0≤j'.runs∧j'.runs≤j'.cap)∧j'.lm.Inv∧BK.Inv j'.bx){b:Lm}(hb:b.Inv){t:Int}(ht:0≤t∧t≤253402300799):(⟨x.cap,b,x.js.set k j',t⟩:Gt).Inv :=
 ⟨h.cap,by show (x.js.set k j').length≤64;rw [List.length_set];exact h.n,hb,fun j hj=>by
  have hj:j∈x.js.set k j':=hj
  rcases List.mem_or_eq_of_mem_set hj with h1|rfl
  ·exact h.js j h1
  ·exact h',ht⟩
theorem gmade_ok(h:GAt w L x):Calls Tryz.prog 65 #[.pointer (some ⟨L.g,0,none⟩)] w fun e w'=>e=.returned (.bool true)∧w=w':=by
 have c0:=h.c0
 clear h
 go_enter Tryz.func65,Tryz.ntmps65
 go_wp2_with fail
 go_ret
 exact ⟨rfl,rfl⟩
theorem ghas_ok(h:GAt w L x)(job now:Int):Calls Tryz.prog 51 #[.pointer (some ⟨L.g,0,none⟩),.int .i64 job,.int .i64 now] w fun e w'=>e=.returned (.int .i64 (x.asked job now))∧w=w':=by
 have M:=hid (gmade_ok h)
 have c3:=h.c3
 have HV:Hid (x.asked job now=if timeB now=false then 14 else if (decide (0≤job)&&decide (job<x.js.length))=false then 3 else 0):=hid rfl
 generalize x.asked job now=R at *
 generalize x.js.length=n at *
 clear h
 by_cases h0:0≤now
 ·by_cases h1:now≤253402300799
  ·have tb:timeB now=true:=timeB_iff.2 ⟨h0,h1⟩
   rw [tb] at HV
   clear tb
   by_cases h2:0≤job
   ·by_cases h3:job<(n:Int)
    ·have HR:Hid (R=0):=hid (by rw [HV.out];simp [h2,h3])
     clear HV
     go_enter Tryz.func51,Tryz.ntmps51
     go_wp2_with fail
     refine (M.out).mono ?_
     rintro e w' ⟨rfl,rfl⟩
     go_wp2_with fail
     go_ret
     exact ⟨retI (by rw [HR.out]),rfl⟩
    ·have HR:Hid (R=3):=hid (by rw [HV.out];simp [h3])
     clear HV
     go_enter Tryz.func51,Tryz.ntmps51
     go_wp2_with fail
     refine (M.out).mono ?_
     rintro e w' ⟨rfl,rfl⟩
     go_wp2_with fail
     go_ret
     exact ⟨retI (by rw [HR.out]),rfl⟩
   ·have HR:Hid (R=3):=hid (by rw [HV.out];simp [h2])
    clear HV
    go_enter Tryz.func51,Tryz.ntmps51
    go_wp2_with fail
    refine (M.out).mono ?_
    rintro e w' ⟨rfl,rfl⟩
    go_wp2_with fail
    go_ret
    exact ⟨retI (by rw [HR.out]),rfl⟩
  ·have tb:timeB now=false:=by unfold timeB;rw [decide_eq_false h1,Bool.and_false]
   rw [tb] at HV
   have HR:Hid (R=14):=hid (by rw [HV.out];rfl)
   clear HV tb
   go_enter Tryz.func51,Tryz.ntmps51
   go_wp2_with fail
   refine (M.out).mono ?_
   rintro e w' ⟨rfl,rfl⟩
   go_wp2_with fail
   go_ret
   exact ⟨retI (by rw [HR.out]),rfl⟩
 ·have tb:timeB now=false:=by unfold timeB;rw [decide_eq_false h0,Bool.false_and]
  rw [tb] at HV
  have HR:Hid (R=14):=hid (by rw [HV.out];rfl)
  clear HV tb
  go_enter Tryz.func51,Tryz.ntmps51
  go_wp2_with fail
  refine (M.out).mono ?_
  rintro e w' ⟨rfl,rfl⟩
  go_wp2_with fail
  go_ret
  exact ⟨retI (by rw [HR.out]),rfl⟩
theorem gcall_ok(h:GAt w L x)(job now:Int):Calls Tryz.prog 43 #[.pointer (some ⟨L.g,0,none⟩),.int .i64 job,.int .i64 now] w fun e w'=>e=.returned (.int .i64 (x.call job now))∧w=w':=by
 have M:=hid (ghas_ok h job now)
 have c5:=h.c5
 have HV:Hid (x.call job now=if x.asked job now≠0 then x.asked job now else if now<x.last then 8 else 0):=hid rfl
 generalize x.call job now=R at *
 generalize x.asked job now=E at *
 generalize x.last=la at *
 clear h
 by_cases hE:E=0
 ·subst hE
  by_cases h2:now<la
  ·have HR:Hid (R=8):=hid (by rw [HV.out];simp [h2])
   clear HV
   go_enter Tryz.func43,Tryz.ntmps43
   go_wp2_with fail
   refine (M.out).mono ?_
   rintro e w' ⟨rfl,rfl⟩
   go_wp2_with fail
   go_ret
   exact ⟨retI (by rw [HR.out]),rfl⟩
  ·have HR:Hid (R=0):=hid (by rw [HV.out];simp [h2])
   clear HV
   go_enter Tryz.func43,Tryz.ntmps43
   go_wp2_with fail
   refine (M.out).mono ?_
   rintro e w' ⟨rfl,rfl⟩
   go_wp2_with fail
   go_ret
   exact ⟨retI (by rw [HR.out]),rfl⟩
 ·have q1:(E==0)=false:=by rw [beq_eq_false_iff_ne];exact hE
  have q2:(E != 0)=true:=by rw [bne,q1];rfl
  have HR:Hid (R=E):=hid (by rw [HV.out];simp [hE])
  clear HV hE
  go_enter Tryz.func43,Tryz.ntmps43
  go_wp2_with fail
  refine (M.out).mono ?_
  rintro e w' ⟨rfl,rfl⟩
  go_wp2_with fail
  go_ret
  exact ⟨retI (by rw [HR.out]),rfl⟩
theorem guntil_ok(h:GAt w L x)(job:Int):Calls Tryz.prog 21 #[.pointer (some ⟨L.g,0,none⟩),.int .i64 job] w fun e w'=>e=.returned (.tuple #[.int .i64 (x.until job).1,.bool (x.until job).2])∧w=w':=by
 have M:=hid (ghas_ok h job 0)
 by_cases hE:x.asked job 0=0
 ·obtain ⟨-,k,rfl,j,hk,hj⟩:=Gt.asked_zero hE
  have HR:Hid (x.until k=(BK.untilOf j.bx,j.bx.op)):=hid (by unfold Gt.until;rw [if_neg (by rw [hE];simp),hj])
  rw [hE] at M
  obtain ⟨b,-,c3,d1,d2,-,hl⟩:=h.dr hk
  have U:=hid (BK.until_ok (h.job k j hk).2)
  generalize x.until k=R at *
  generalize x.js.length=n at *
  clear hE hk hj h d1
  go_enter Tryz.func21,Tryz.ntmps21
  go_wp2_with fail
  refine (M.out).mono ?_
  rintro e w' ⟨rfl,rfl⟩
  go_wp2_with fail
  refine (U.out).mono ?_
  rintro e w' ⟨rfl,rfl⟩
  go_wp2_with fail
  go_ret2
  exact ⟨retIB (by rw [HR.out]) (by rw [HR.out]),rfl⟩
 ·have HR:Hid (x.until job=(0,false)):=hid (by unfold Gt.until;rw [if_pos hE])
  generalize x.until job=R at *
  generalize x.asked job 0=E at *
  have q1:(E==0)=false:=by rw [beq_eq_false_iff_ne];exact hE
  have q2:(E != 0)=true:=by rw [bne,q1];rfl
  clear hE h
  go_enter Tryz.func21,Tryz.ntmps21
  go_wp2_with fail
  refine (M.out).mono ?_
  rintro e w' ⟨rfl,rfl⟩
  go_wp2_with fail
  go_ret2
  exact ⟨retIB (by rw [HR.out]) (by rw [HR.out]),rfl⟩
theorem retIII{a b c d e f:Int}(h:a=b)(h':c=d)(h'':e=f):Ending.returned (.tuple #[.int .i64 a,.int .i64 c,.int .i64 e])=.returned (.tuple #[.int .i64 b,.int .i64 d,.int .i64 f]):=by rw [h,h',h'']
theorem gstate_ok(h:GAt w L x)(job now:Int):Calls Tryz.prog 14 #[.pointer (some ⟨L.g,0,none⟩),.int .i64 job,.int .i64 now] w fun e w'=>e=.returned (.tuple #[.int .i64 (x.state job now).1,.int .i64 (x.state job now).2.1,.int .i64 (x.state job now).2.2])∧Below w.heap.size w w':=by
 have M:=hid (ghas_ok h job now)
 by_cases hE:x.asked job now=0
 ·obtain ⟨-,k,rfl,j,hk,hj⟩:=Gt.asked_zero hE
  have HR:Hid (x.state k now=(j.runs,BK.state j.bx now,0)):=hid (by unfold Gt.state;rw [if_neg (by rw [hE];simp),hj])
  rw [hE] at M
  have c0:=h.c0
  have hl:k<x.js.length:=(List.getElem?_eq_some_iff.1 hk).1
  have HU:=cused_ok h.caps h.inv.cp (j:=k) hl
  rw [Gt.cp_runs hk] at HU
  have U:=hid HU
  have HD:=hid (fun w1 (hb:Below w.heap.size w w1)=>((h.below hb).dr hk))
  have HB:=hid (fun w1 (hb:Below w.heap.size w w1)=>BK.state_ok ((h.below hb).job k j hk).2 now)
  generalize x.state k now=R at *
  generalize x.js.length=n at *
  clear hE hk hj h HU
  go_enter Tryz.func14,Tryz.ntmps14
  go_wp2_with fail
  refine (M.out).mono ?_
  rintro e w' ⟨rfl,rfl⟩
  go_wp2_with fail
  refine (U.out).mono ?_
  rintro e w1 ⟨rfl,hb⟩
  have HB1:=hid hb
  obtain ⟨b,-,c3,d1,d2,-,-⟩:=HD.out w1 hb
  have S:=hid (HB.out w1 hb)
  clear hb c0 d1
  go_wp2_with fail
  refine (S.out).mono ?_
  rintro e w' ⟨rfl,rfl⟩
  go_wp2_with fail
  refine bodyPost_ret (results_tmp3 rfl _ _ _) rfl ?_
  exact ⟨retIII (by rw [HR.out]) (by rw [HR.out]) (by rw [HR.out]),HB1.out⟩
 ·have HR:Hid (x.state job now=(0,0,x.asked job now)):=hid (by unfold Gt.state;rw [if_pos hE])
  generalize x.state job now=R at *
  generalize x.asked job now=E at *
  have q1:(E==0)=false:=by rw [beq_eq_false_iff_ne];exact hE
  have q2:(E != 0)=true:=by rw [bne,q1];rfl
  clear hE h
  go_enter Tryz.func14,Tryz.ntmps14
  go_wp2_with fail
  refine (M.out).mono ?_
  rintro e w' ⟨rfl,rfl⟩
  go_wp2_with fail
  refine bodyPost_ret (results_tmp3 rfl _ _ _) rfl ?_
  exact ⟨retIII (by rw [HR.out]) (by rw [HR.out]) (by rw [HR.out]),Below.refl _ _⟩
end
end Go.Proofs.YtpgckpafjiojfaaGreatDoor.AD
