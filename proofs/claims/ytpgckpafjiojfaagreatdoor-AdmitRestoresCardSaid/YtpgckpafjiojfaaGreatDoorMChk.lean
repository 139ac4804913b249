/- Contracts of the reference's Low, High, full and Fields of an expression. Contract of the reference's Check of an expression. Contracts of check (match's and the reference's): an expression, a zone, times. What check's answer says of an expression, a zone and times. -/
import Derived.Test.YtpgckpafjiojfaaGreatDoorMatI
import Derived.Test.YtpgckpafjiojfaaGreatDoorMRef
open Go.Lib (hid)
set_option maxRecDepth 16000
set_option maxHeartbeats 40000000
namespace Go.Proofs.YtpgckpafjiojfaaGreatDoor.BW
open Go.RowKit BM Go.Shelf MC
open BK hiding ret_bool ret_i64
def lowN(i:Nat):Nat:=[0,0,0,1,1,0].getD i 0
def highN(i:Nat):Nat:=[59,59,23,31,12,6].getD i 0
theorem rlow_ok(i:Nat)(hi:i<6)(w:World):Calls Tryz.prog 183 #[.int .i64 i] w fun e w'=>e=.returned (.int .i64 (lowN i:Nat))∧Below w.heap.size w w':=by
 obtain rfl|rfl|rfl|rfl|rfl|rfl:i=0∨i=1∨i=2∨i=3∨i=4∨i=5:=by omega
 all_goals
  go_enter Tryz.func183,Tryz.ntmps183
  go_wp2
  go_ret
  exact ⟨rfl,(Below.refl _ _).alloc (Nat.le_refl _) _⟩
theorem rhigh_ok(i:Nat)(hi:i<6)(w:World):Calls Tryz.prog 184 #[.int .i64 i] w fun e w'=>e=.returned (.int .i64 (highN i:Nat))∧Below w.heap.size w w':=by
 obtain rfl|rfl|rfl|rfl|rfl|rfl:i=0∨i=1∨i=2∨i=3∨i=4∨i=5:=by omega
 all_goals
  go_enter Tryz.func184,Tryz.ntmps184
  go_wp2
  go_ret
  exact ⟨rfl,(Below.refl _ _).alloc (Nat.le_refl _) _⟩
def partN(i v:Nat):Nat:=2^v - 2^lowN i
theorem partN_facts:((List.range 6).all fun i=>lowN i≤highN i&&decide (highN i<60)&&partN i (lowN i)==0&&partN i (highN i+1)==fullN i&&(List.range 60).all fun v=>decide (v<lowN i)||(partN i v |||2^v==partN i (v+1)&&decide (partN i v<18446744073709551616)))=true:=by decide +kernel
theorem partN_at{i:Nat}(hi:i<6):lowN i≤highN i∧highN i<60∧partN i (lowN i)=0∧partN i (highN i+1)=fullN i∧∀v,v<60→lowN i≤v→partN i v |||2^v=partN i (v+1)∧partN i v<18446744073709551616:=by
 have h:=List.all_eq_true.1 partN_facts i (List.mem_range.2 hi)
 simp only [Bool.and_eq_true,decide_eq_true_eq,beq_iff_eq,List.all_eq_true,List.mem_range,Bool.or_eq_true] at h
 refine ⟨h.1.1.1.1,h.1.1.1.2,h.1.1.2,h.1.2,fun v hv hl=>?_⟩
 rcases h.2 v hv with h1|h1
 ·omega
 ·exact h1
theorem rfull_ok(i:Nat)(hi:i<6)(w:World):Calls Tryz.prog 174 #[.int .i64 i] w fun e w'=>e=.returned (.int .u64 (fullN i:Nat))∧Below w.heap.size w w':=by
 obtain ⟨p1,p2,p3,p4,p5⟩:=partN_at hi
 have CL:=hid (rlow_ok i hi)
 have CH:=hid (rhigh_ok i hi)
 have P3:=hid p3
 have P4:=hid p4
 have P5:=hid p5
 clear p3 p4 p5
 generalize lowN i=lo at *
 generalize highN i=hi' at *
 go_enter Tryz.func174,Tryz.ntmps174
 go_wp2_with fail
 refine (CL.out _).mono ?_
 rintro e w1 ⟨rfl,hb1⟩
 go_wp2_with fail
 go_loopw [3,4] (fun s m wr=>∃v:Nat,lo≤v∧v≤hi'+1∧m=.int .i64 v∧s=.int .u64 (partN i v:Nat)∧Below w.heap.size w wr) (fun _ m _=>61 - intM m)
 case atStart=>exact ⟨lo,by omega,by omega,rfl,by rw [P3.out];rfl,hb1⟩
 case round =>
  obtain ⟨v,v1,v2,rfl,rfl,hb⟩:=hrel
  rcases Nat.lt_or_ge hi' v with hlt|hge
  ·obtain rfl:v=hi'+1:=by omega
   go_wp2_with fail
   refine (CH.out _).mono ?_
   rintro e w2 ⟨rfl,hb2⟩
   go_wp2_with fail
   go_ret
   exact ⟨by rw [P4.out];rfl,hb.trans (hb2.mono hb.size)⟩
  ·obtain ⟨q1,q2⟩:=P5.out v (by omega) v1
   have HO:=hid (or_word (partN i v) v q2 (by omega))
   rw [q1] at HO
   clear q1
   generalize partN i v=S at *
   go_wp2_with fail
   refine (CH.out _).mono ?_
   rintro e w2 ⟨rfl,hb2⟩
   go_wp2_with fail
   refine ⟨⟨v+1,by omega,by omega,by go_num,by rw [HO.out],hb.trans (hb2.mono hb.size)⟩,?_⟩
   simp [intM];omega
def sixV(x:Ex):Array Value:=#[.int .u64 x.s,.int .u64 x.mi,.int .u64 x.h,.int .u64 x.d,.int .u64 x.mo,.int .u64 x.w]
theorem rfields_ok(x:Ex)(w:World):Calls Tryz.prog 173 #[.agg (exV x)] w fun e w'=>e=.returned (.slice (some ⟨w.heap.size+1,0,none⟩) 6 6)∧w'=(w.alloc (.cells (exV x) 44)).alloc (.cells (sixV x) 24):=by
 obtain ⟨s,mi,h,d,mo,wk,ad,aw⟩:=x
 unfold exV sixV
 simp only
 go_enter Tryz.func173,Tryz.ntmps173
 go_wp2
 go_ret
 exact ⟨rfl,rfl⟩
theorem fullN_lt{i:Nat}(hi:i<6):fullN i<18446744073709551616:=by
 unfold fullN
 obtain rfl|rfl|rfl|rfl|rfl|rfl:i=0∨i=1∨i=2∨i=3∨i=4∨i=5:=by omega
 all_goals decide
theorem rcheck_ok(x:Ex)(hx:U64s x)(w:World):Calls Tryz.prog 151 #[.agg (exV x)] w fun e w'=>e=.returned (.int .i64 (ckR x))∧Below w.heap.size w w':=by
 have HX:=hid hx
 have CF:=hid (rfields_ok x (w.alloc (.cells (exV x) 44)))
 have SX:Hid (∃V,V=sixV x):=hid ⟨_,rfl⟩
 have hbx:=Blk.new w 44 (exV x)
 have e0:exV x=#[.int .u64 x.s,.int .u64 x.mi,.int .u64 x.h,.int .u64 x.d,.int .u64 x.mo,.int .u64 x.w,.bool x.ad,.bool x.aw]:=rfl
 have hg:=Blk.newAt (w:=(w.alloc (.cells (exV x) 44)).alloc (.cells (exV x) 44)) (t:=24) (cs:=sixV x) (H:=w.heap.size+2) (by simp)
 have HG:=hid hg
 have HBX:=hid ((hbx.alloc (.cells (exV x) 44)).alloc (.cells (sixV x) 24))
 have HBB:=hid (show Below w.heap.size w (((w.alloc (.cells (exV x) 44)).alloc (.cells (exV x) 44)).alloc (.cells (sixV x) 24)) from (((Below.refl _ w).alloc (Nat.le_refl _) _).alloc (by simp) _).alloc (by simp;omega) _)
 have HSZ:Hid ((((w.alloc (.cells (exV x) 44)).alloc (.cells (exV x) 44)).alloc (.cells (sixV x) 24)).heap.size=w.heap.size+3):=hid (by simp)
 clear hx hbx hg SX
 clear e0
 unfold exV at *
 simp only [World.size_alloc] at CF
 go_enter Tryz.func151,Tryz.ntmps151
 go_wp2_with fail
 refine (CF.out).mono ?_
 rintro e w1 ⟨rfl,rfl⟩
 generalize ((w.alloc (.cells #[.int .u64 x.s,.int .u64 x.mi,.int .u64 x.h,.int .u64 x.d,.int .u64 x.mo,.int .u64 x.w,.bool x.ad,.bool x.aw] 44)).alloc (.cells #[.int .u64 x.s,.int .u64 x.mi,.int .u64 x.h,.int .u64 x.d,.int .u64 x.mo,.int .u64 x.w,.bool x.ad,.bool x.aw] 44)).alloc (.cells (sixV x) 24)=W0 at *
 clear CF
 go_wp2_with fail
 go_loopw [4] (fun s4 wr=>∃k:Nat,k≤6∧s4=.int .i64 k∧Below W0.heap.size W0 wr∧∀i,i<k→okF i (fl x i)=true) (fun s4 _=>20 - intM s4)
 case atStart=>exact ⟨0,by omega,rfl,Below.refl _ _,fun i hi=>absurd hi (Nat.not_lt_zero _)⟩
 case round =>
  obtain ⟨k,hk,rfl,hB,hok⟩:=hrel
  have hgw:Blk wr (w.heap.size+2) 24 (sixV x):=HG.out.below hB HG.out.lt
  have hxw:Blk wr w.heap.size 44 _:=HBX.out.below hB HBX.out.lt
  have HB:=hid (show ∀W,Below wr.heap.size wr W→Below w.heap.size w W from fun W hW=>HBB.out.trans ((hB.trans (hW.mono hB.size)).mono (by rw [HSZ.out];omega)))
  have HO:=hid hok
  have HBR:=hid hB
  clear hok hB
  rcases Nat.lt_or_ge k 6 with hlt|hge
  ·have hc:wr.cell? ⟨w.heap.size+2,k,none⟩=some (.int .u64 (fl x k:Nat)):=by
    rw [hgw.cell k]
    obtain rfl|rfl|rfl|rfl|rfl|rfl:k=0∨k=1∨k=2∨k=3∨k=4∨k=5:=by omega
    all_goals rfl
   have HF:=hid (show ∀b,okF k (fl x k)=b→(b=true→∀i,i<k+1→okF i (fl x i)=true)∧(b=false→ckR x=16) from fun b hb=>⟨fun h i hi=>by
    rcases Nat.lt_or_ge i k with h1|h1
    ·exact HO.out i h1
    ·obtain rfl:i=k:=by omega
     rw [hb,h],fun h=>ckR_field hlt (by rw [hb,h])⟩)
   have hfb:=HX.out.fl k
   have HFB:=hid hfb
   generalize fl x k=f at *
   clear hgw hxw HG HBX HBB HSZ HO
   have kc:=cell_regrown hc
   by_cases hz:f=0
   ·subst hz
    have HE:=hid ((HF.out false (by unfold okF;simp)).2 rfl)
    clear HF HFB hc
    go_wp2_with fail
    refine wp_region_quiet_below (by kernel_rfl) (by kernel_rfl) ?_
    repeat (go_big_quiet_step (fail))
    refine wpQuiet_nil ?_
    intro _ hw'
    obtain ⟨⟨dq,osq⟩,hw''⟩:=hw'
    subst hw''
    go_wp2_with fail
    go_ret
    exact ⟨ret_i64 HE.out.symm,HB.out _ (below_regrown wr dq osq)⟩
   ·have hz2:((f:Int)==0)=false:=by rw [beq_eq_false_iff_ne];omega
    have hz3:¬((f:Int)=0):=by omega
    have C:=hid (fun d os=>Calls.regrown_of (rfull_ok k hlt (Sort.grow (redrawn wr d) os)))
    have hm:=fullN_lt hlt
    have hand:=andN f (fullN k) HFB.out hm
    obtain ⟨b,hb⟩:∃b,sub f (fullN k)=b:=⟨_,rfl⟩
    have hne:(((f &&&fullN k:Nat):Int) != (f:Int))=!b:=by
     rw [←hb];unfold sub;rw [Bool.eq_iff_iff];simp [bne_iff_ne];omega
    have HE:=hid (HF.out b (by unfold okF;rw [hb];simp [hz]))
    clear HFB HF hz hm hb hc
    generalize fullN k=m at *
    generalize f &&&m=fm at *
    cases b
    ·have HR:=hid (HE.out.2 rfl)
     clear HE
     go_wp2_with fail
     refine wp_region_quiet_below (by kernel_rfl) (by kernel_rfl) ?_
     repeat (go_big_quiet_step (fail))
     go_big_quiet_step ((go_at_call 174;exact C.out _ _))
     repeat (go_big_quiet_step (fail))
     refine wpQuiet_nil ?_
     intro _ hw'
     obtain ⟨⟨dq,osq⟩,hw''⟩:=hw'
     subst hw''
     go_wp2_with fail
     go_ret
     exact ⟨ret_i64 HR.out.symm,HB.out _ (below_regrown wr dq osq)⟩
    ·have HR:=hid (HE.out.1 rfl)
     clear HE
     go_wp2_with fail
     refine wp_region_quiet_below (by kernel_rfl) (by kernel_rfl) ?_
     repeat (go_big_quiet_step (fail))
     go_big_quiet_step ((go_at_call 174;exact C.out _ _))
     repeat (go_big_quiet_step (fail))
     refine wpQuiet_nil ?_
     intro _ hw'
     obtain ⟨⟨dq,osq⟩,hw''⟩:=hw'
     subst hw''
     go_wp2_with fail
     refine ⟨⟨k+1,by omega,by go_num,HBR.out.trans ((below_regrown wr dq osq).mono HBR.out.size),HR.out⟩,?_⟩
     simp [intM];omega
  ·obtain rfl:k=6:=by omega
   have hbk:∀i,i<6→okF i (fl x i)=true:=HO.out
   have HS:=hid (show ∀b,starsOk x=b→ckR x=if b then 0 else 16 from fun b h=>by
    cases b
    ·exact ckR_stars h
    ·exact ckR_ok hbk h)
   have k3:=cell_regrown (show wr.cell? ⟨w.heap.size,3,none⟩=some (.int .u64 x.d) from by rw [hxw.cell 3];rfl)
   have k5:=cell_regrown (show wr.cell? ⟨w.heap.size,5,none⟩=some (.int .u64 x.w) from by rw [hxw.cell 5];rfl)
   have k6:=cell_regrown (show wr.cell? ⟨w.heap.size,6,none⟩=some (.bool x.ad) from by rw [hxw.cell 6];rfl)
   have k7:=cell_regrown (show wr.cell? ⟨w.heap.size,7,none⟩=some (.bool x.aw) from by rw [hxw.cell 7];rfl)
   have D3:=hid (fun d os=>Calls.regrown_of (rfull_ok 3 (by decide) (Sort.grow (redrawn wr d) os)))
   have D5:=hid (fun d os=>Calls.regrown_of (rfull_ok 5 (by decide) (Sort.grow (redrawn wr d) os)))
   have hst:starsOk x=(!(x.ad&&x.d != fullN 3)&&!(x.aw&&x.w != fullN 5)):=rfl
   have cast3:((x.d:Int) != ((fullN 3:Nat):Int))=(x.d != fullN 3):=by
    rw [Bool.eq_iff_iff];simp [bne_iff_ne];omega
   have cast5:((x.w:Int) != ((fullN 5:Nat):Int))=(x.w != fullN 5):=by
    rw [Bool.eq_iff_iff];simp [bne_iff_ne];omega
   clear HO hbk hxw hgw HX HBX HG HBB HSZ HBR
   generalize fullN 3=f3 at *
   generalize fullN 5=f5 at *
   obtain ⟨s,mi,h,d,mo,wk,ad,aw⟩:=x
   simp only at k3 k5 k6 k7 hst cast3 cast5
   obtain ⟨b3,hb3⟩:∃b,(d != f3)=b:=⟨_,rfl⟩
   obtain ⟨b5,hb5⟩:∃b,(wk != f5)=b:=⟨_,rfl⟩
   rw [hb3] at cast3 hst
   rw [hb5] at cast5 hst
   clear hb3 hb5
   have HS2:=hid (HS.out _ hst)
   clear HS hst
   cases ad<;>cases b3<;>cases aw<;>cases b5
   ·go_wp2_with fail
    refine wp_region_quiet_below (by kernel_rfl) (by kernel_rfl) ?_
    repeat (go_big_quiet_step (fail))
    refine wpQuiet_nil ?_
    intro _ hw'
    obtain ⟨⟨dq,osq⟩,hw''⟩:=hw'
    subst hw''
    go_wp2_with fail
    go_ret
    exact ⟨ret_i64 HS2.out.symm,HB.out _ (below_regrown wr dq osq)⟩
   ·go_wp2_with fail
    refine wp_region_quiet_below (by kernel_rfl) (by kernel_rfl) ?_
    repeat (go_big_quiet_step (fail))
    refine wpQuiet_nil ?_
    intro _ hw'
    obtain ⟨⟨dq,osq⟩,hw''⟩:=hw'
    subst hw''
    go_wp2_with fail
    go_ret
    exact ⟨ret_i64 HS2.out.symm,HB.out _ (below_regrown wr dq osq)⟩
   ·go_wp2_with fail
    refine wp_region_quiet_below (by kernel_rfl) (by kernel_rfl) ?_
    repeat (go_big_quiet_step (fail))
    go_big_quiet_step ((go_at_call 174;exact D5.out _ _))
    repeat (go_big_quiet_step (fail))
    refine wpQuiet_nil ?_
    intro _ hw'
    obtain ⟨⟨dq,osq⟩,hw''⟩:=hw'
    subst hw''
    go_wp2_with fail
    go_ret
    exact ⟨ret_i64 HS2.out.symm,HB.out _ (below_regrown wr dq osq)⟩
   ·go_wp2_with fail
    refine wp_region_quiet_below (by kernel_rfl) (by kernel_rfl) ?_
    repeat (go_big_quiet_step (fail))
    go_big_quiet_step ((go_at_call 174;exact D5.out _ _))
    repeat (go_big_quiet_step (fail))
    refine wpQuiet_nil ?_
    intro _ hw'
    obtain ⟨⟨dq,osq⟩,hw''⟩:=hw'
    subst hw''
    go_wp2_with fail
    go_ret
    exact ⟨ret_i64 HS2.out.symm,HB.out _ (below_regrown wr dq osq)⟩
   ·go_wp2_with fail
    refine wp_region_quiet_below (by kernel_rfl) (by kernel_rfl) ?_
    repeat (go_big_quiet_step (fail))
    refine wpQuiet_nil ?_
    intro _ hw'
    obtain ⟨⟨dq,osq⟩,hw''⟩:=hw'
    subst hw''
    go_wp2_with fail
    go_ret
    exact ⟨ret_i64 HS2.out.symm,HB.out _ (below_regrown wr dq osq)⟩
   ·go_wp2_with fail
    refine wp_region_quiet_below (by kernel_rfl) (by kernel_rfl) ?_
    repeat (go_big_quiet_step (fail))
    refine wpQuiet_nil ?_
    intro _ hw'
    obtain ⟨⟨dq,osq⟩,hw''⟩:=hw'
    subst hw''
    go_wp2_with fail
    go_ret
    exact ⟨ret_i64 HS2.out.symm,HB.out _ (below_regrown wr dq osq)⟩
   ·go_wp2_with fail
    refine wp_region_quiet_below (by kernel_rfl) (by kernel_rfl) ?_
    repeat (go_big_quiet_step (fail))
    go_big_quiet_step ((go_at_call 174;exact D5.out _ _))
    repeat (go_big_quiet_step (fail))
    refine wpQuiet_nil ?_
    intro _ hw'
    obtain ⟨⟨dq,osq⟩,hw''⟩:=hw'
    subst hw''
    go_wp2_with fail
    go_ret
    exact ⟨ret_i64 HS2.out.symm,HB.out _ (below_regrown wr dq osq)⟩
   ·go_wp2_with fail
    refine wp_region_quiet_below (by kernel_rfl) (by kernel_rfl) ?_
    repeat (go_big_quiet_step (fail))
    go_big_quiet_step ((go_at_call 174;exact D5.out _ _))
    repeat (go_big_quiet_step (fail))
    refine wpQuiet_nil ?_
    intro _ hw'
    obtain ⟨⟨dq,osq⟩,hw''⟩:=hw'
    subst hw''
    go_wp2_with fail
    go_ret
    exact ⟨ret_i64 HS2.out.symm,HB.out _ (below_regrown wr dq osq)⟩
   ·go_wp2_with fail
    refine wp_region_quiet_below (by kernel_rfl) (by kernel_rfl) ?_
    repeat (go_big_quiet_step (fail))
    go_big_quiet_step ((go_at_call 174;exact D3.out _ _))
    repeat (go_big_quiet_step (fail))
    refine wpQuiet_nil ?_
    intro _ hw'
    obtain ⟨⟨dq,osq⟩,hw''⟩:=hw'
    subst hw''
    go_wp2_with fail
    go_ret
    exact ⟨ret_i64 HS2.out.symm,HB.out _ (below_regrown wr dq osq)⟩
   ·go_wp2_with fail
    refine wp_region_quiet_below (by kernel_rfl) (by kernel_rfl) ?_
    repeat (go_big_quiet_step (fail))
    go_big_quiet_step ((go_at_call 174;exact D3.out _ _))
    repeat (go_big_quiet_step (fail))
    refine wpQuiet_nil ?_
    intro _ hw'
    obtain ⟨⟨dq,osq⟩,hw''⟩:=hw'
    subst hw''
    go_wp2_with fail
    go_ret
    exact ⟨ret_i64 HS2.out.symm,HB.out _ (below_regrown wr dq osq)⟩
   ·go_wp2_with fail
    refine wp_region_quiet_below (by kernel_rfl) (by kernel_rfl) ?_
    repeat (go_big_quiet_step (fail))
    go_big_quiet_step ((go_at_call 174;exact D3.out _ _))
    repeat (go_big_quiet_step (fail))
    go_big_quiet_step ((go_at_call 174;exact D5.out _ _))
    repeat (go_big_quiet_step (fail))
    refine wpQuiet_nil ?_
    intro _ hw'
    obtain ⟨⟨dq,osq⟩,hw''⟩:=hw'
    subst hw''
    go_wp2_with fail
    go_ret
    exact ⟨ret_i64 HS2.out.symm,HB.out _ (below_regrown wr dq osq)⟩
   ·go_wp2_with fail
    refine wp_region_quiet_below (by kernel_rfl) (by kernel_rfl) ?_
    repeat (go_big_quiet_step (fail))
    go_big_quiet_step ((go_at_call 174;exact D3.out _ _))
    repeat (go_big_quiet_step (fail))
    go_big_quiet_step ((go_at_call 174;exact D5.out _ _))
    repeat (go_big_quiet_step (fail))
    refine wpQuiet_nil ?_
    intro _ hw'
    obtain ⟨⟨dq,osq⟩,hw''⟩:=hw'
    subst hw''
    go_wp2_with fail
    go_ret
    exact ⟨ret_i64 HS2.out.symm,HB.out _ (below_regrown wr dq osq)⟩
   ·go_wp2_with fail
    refine wp_region_quiet_below (by kernel_rfl) (by kernel_rfl) ?_
    repeat (go_big_quiet_step (fail))
    go_big_quiet_step ((go_at_call 174;exact D3.out _ _))
    repeat (go_big_quiet_step (fail))
    refine wpQuiet_nil ?_
    intro _ hw'
    obtain ⟨⟨dq,osq⟩,hw''⟩:=hw'
    subst hw''
    go_wp2_with fail
    go_ret
    exact ⟨ret_i64 HS2.out.symm,HB.out _ (below_regrown wr dq osq)⟩
   ·go_wp2_with fail
    refine wp_region_quiet_below (by kernel_rfl) (by kernel_rfl) ?_
    repeat (go_big_quiet_step (fail))
    go_big_quiet_step ((go_at_call 174;exact D3.out _ _))
    repeat (go_big_quiet_step (fail))
    refine wpQuiet_nil ?_
    intro _ hw'
    obtain ⟨⟨dq,osq⟩,hw''⟩:=hw'
    subst hw''
    go_wp2_with fail
    go_ret
    exact ⟨ret_i64 HS2.out.symm,HB.out _ (below_regrown wr dq osq)⟩
   ·go_wp2_with fail
    refine wp_region_quiet_below (by kernel_rfl) (by kernel_rfl) ?_
    repeat (go_big_quiet_step (fail))
    go_big_quiet_step ((go_at_call 174;exact D3.out _ _))
    repeat (go_big_quiet_step (fail))
    refine wpQuiet_nil ?_
    intro _ hw'
    obtain ⟨⟨dq,osq⟩,hw''⟩:=hw'
    subst hw''
    go_wp2_with fail
    go_ret
    exact ⟨ret_i64 HS2.out.symm,HB.out _ (below_regrown wr dq osq)⟩
   ·go_wp2_with fail
    refine wp_region_quiet_below (by kernel_rfl) (by kernel_rfl) ?_
    repeat (go_big_quiet_step (fail))
    go_big_quiet_step ((go_at_call 174;exact D3.out _ _))
    repeat (go_big_quiet_step (fail))
    refine wpQuiet_nil ?_
    intro _ hw'
    obtain ⟨⟨dq,osq⟩,hw''⟩:=hw'
    subst hw''
    go_wp2_with fail
    go_ret
    exact ⟨ret_i64 HS2.out.symm,HB.out _ (below_regrown wr dq osq)⟩
def tOk(t:Int):Bool:=decide (0≤t)&&decide (t≤253402300799)
def timesR(ts:List Int):Int:=if ts.all tOk then 0 else 14
def chk(x:Ex)(z:Int)(ts:List Int):Int:=if ckR x≠0 then ckR x else if zoneR z≠0 then zoneR z else timesR ts
theorem chk_expr{x:Ex}{z:Int}{ts:List Int}(h:ckR x≠0):chk x z ts=ckR x:=if_pos h
theorem chk_zone{x:Ex}{z:Int}{ts:List Int}(h:ckR x=0)(h2:zoneR z≠0):chk x z ts=zoneR z:=by unfold chk;rw [if_neg (by omega),if_pos h2]
theorem chk_times{x:Ex}{z:Int}{ts:List Int}(h:ckR x=0)(h2:zoneR z=0):chk x z ts=timesR ts:=by unfold chk;rw [if_neg (by omega),if_neg (by omega)]
theorem ckR_cases(x:Ex):ckR x=0∨ckR x=16:=by unfold ckR;split<;>simp
theorem zoneR_cases(z:Int):zoneR z=0∨zoneR z=2:=by unfold zoneR;split<;>simp
theorem timesR_bad{ts:List Int}{k:Nat}(h:k<ts.length)(hb:tOk ts[k]=false):timesR ts=14:=by
 unfold timesR
 rw [if_neg]
 intro hh
 have:=List.all_eq_true.1 hh ts[k] (List.getElem_mem h)
 rw [hb] at this;cases this
theorem timesR_ok{ts:List Int}(h:∀k (hk:k<ts.length),tOk ts[k]=true):timesR ts=0:=by
 unfold timesR
 rw [if_pos]
 rw [List.all_eq_true]
 intro t ht
 obtain ⟨k,hk,rfl⟩:=List.getElem_of_mem ht
 exact h k hk
theorem pcheck_ok(x:Ex)(hx:U64s x)(z:Int)(ts:List Int)(g n c:Nat)(hn:ts.length=n)(hn9:n≤9)(w:World)(hT:SpTab w)
 (hc:∀k (hk:k<ts.length),w.cell? ⟨g,k,none⟩=some (.int .i64 ts[k])) :
 Calls Tryz.prog 216 #[.agg (exV x),.int .i64 z,.slice (some ⟨g,0,none⟩) n c] w fun e w'=>e=.returned (.int .i64 (chk x z ts))∧Below w.heap.size w w':=by
 have hB0:Below w.heap.size w (w.alloc (.cells (exV x) 44)):=(Below.refl _ w).alloc (Nat.le_refl _) _
 have CX:=hid (check_ok x hx (w.alloc (.cells (exV x) 44)) (hT.below hB0))
 have CZ:=hid (zone_ok z)
 have HB0:=hid hB0
 have HC:=hid hc
 have HN:=hid hn
 have K1:=hid (fun h=>chk_expr (x:=x) (z:=z) (ts:=ts) h)
 have K2:=hid (fun h h2=>chk_zone (x:=x) (z:=z) (ts:=ts) h h2)
 have K3:=hid (fun h h2=>chk_times (x:=x) (z:=z) (ts:=ts) h h2)
 have cx:=ckR_cases x
 have cz:=zoneR_cases z
 generalize chk x z ts=R at *
 clear hx hT hc hB0 hn
 obtain ⟨a,ha⟩:∃a,a=ckR x:=⟨_,rfl⟩
 obtain ⟨b,hb⟩:∃b,b=zoneR z:=⟨_,rfl⟩
 rw [←ha] at CX K1 K2 K3 cx
 rw [←hb] at CZ K2 K3 cz
 clear ha hb
 unfold exV at *
 go_enter Tryz.func216,Tryz.ntmps216
 go_wp2_with fail
 refine (CX.out).mono ?_
 rintro e w1 ⟨rfl,hb1⟩
 rcases cx with rfl|rfl
 ·go_wp2_with fail
  refine (CZ.out _).mono ?_
  rintro e w2 ⟨rfl,rfl⟩
  rcases cz with rfl|rfl
  ·have HR:=hid (K3.out (by simp) (by simp))
   have HB1:=hid (HB0.out.trans (hb1.mono HB0.out.size))
   clear K1 K2 K3 hb1
   go_wp2_with fail
   go_loop [10,23] (fun _ s=>∃k:Nat,k≤n∧s=.int .i64 k∧∀i (hi:i<ts.length),i<k→tOk ts[i]=true) (fun _ s=>n - intM s)
   case atStart=>exact ⟨0,by omega,rfl,fun i _ hi=>absurd hi (Nat.not_lt_zero _)⟩
   case round =>
    obtain ⟨k,hk,rfl,hok⟩:=hrel
    have HO:=hid hok
    clear hok
    have hn:=HN.out
    rcases Nat.lt_or_ge k n with hlt|hge
    ·have hlt':k<ts.length:=by omega
     have hck:w1.cell? ⟨g,k,none⟩=some (.int .i64 ts[k]):=(HB1.out.cell (p:=⟨g,k,none⟩) (World.block_lt_of_cell? w _ (HC.out k hlt'))).trans (HC.out k hlt')
     have HF:=hid (show ∀b,tOk ts[k]=b→(b=false→R=14)∧(b=true→∀i (hi:i<ts.length),i<k+1→tOk ts[i]=true) from fun b hb=>⟨fun h=>by rw [HR.out];exact timesR_bad hlt' (by rw [hb,h]),fun h i hi h2=>by
      rcases Nat.lt_or_ge i k with h3|h3
      ·exact HO.out i hi h3
      ·obtain rfl:i=k:=by omega
       rw [hb,h]⟩)
     generalize ts[k]=t at *
     by_cases h0:t<0
     ·have HE:=hid ((HF.out false (by unfold tOk;rw [decide_eq_false (by omega)];rfl)).1 rfl)
      clear HF
      go_wp2_with fail
      go_ret
      exact ⟨ret_i64 HE.out.symm,HB1.out⟩
     ·by_cases h1:253402300799<t
      ·have HE:=hid ((HF.out false (by unfold tOk;rw [decide_eq_false (p:=t≤_) (by omega)];simp)).1 rfl)
       clear HF
       go_wp2_with fail
       go_ret
       exact ⟨ret_i64 HE.out.symm,HB1.out⟩
      ·have HE:=hid ((HF.out true (by unfold tOk;rw [decide_eq_true (by omega),decide_eq_true (by omega)];rfl)).2 rfl)
       clear HF
       go_wp2_with fail
       go_round
       case rel=>exact ⟨k+1,by omega,by go_num,HE.out⟩
       case measure=>simp [intM];omega
    ·obtain rfl:k=n:=by omega
     have HE:=hid (timesR_ok (ts:=ts) (fun i hi=>HO.out i hi (by omega)))
     go_wp2_with fail
     go_ret
     exact ⟨ret_i64 (by rw [HR.out,HE.out]),HB1.out⟩
  ·have HR:=hid (K2.out (by simp) (by simp))
   clear K1 K2 K3
   go_wp2_with fail
   go_ret
   exact ⟨ret_i64 HR.out.symm,HB0.out.trans (hb1.mono HB0.out.size)⟩
 ·have HR:=hid (K1.out (by simp))
  clear K1 K2 K3
  go_wp2_with fail
  go_ret
  exact ⟨ret_i64 HR.out.symm,HB0.out.trans (hb1.mono HB0.out.size)⟩
end Go.Proofs.YtpgckpafjiojfaaGreatDoor.BW
namespace Go.Proofs.YtpgckpafjiojfaaGreatDoor.BW
open Go.RowKit BM Go.Shelf MC
theorem ex_bit{s:Nat}(h:s≠0):∃i,s.testBit i=true:=Nat.exists_testBit_of_ne_zero h
theorem okF_facts{i s:Nat}(h:okF i s=true):(∃k,s.testBit k=true∧(fullN i).testBit k=true)∧s≤fullN i∧∀k,s.testBit k=true→(fullN i).testBit k=true:=by
 unfold okF at h
 rw [Bool.and_eq_true,Bool.not_eq_true',beq_eq_false_iff_ne] at h
 obtain ⟨h1,h2⟩:=h
 unfold sub at h2
 rw [beq_iff_eq] at h2
 have h3:∀k,s.testBit k=true→(fullN i).testBit k=true:=fun k hk=>by
  have:(s &&&fullN i).testBit k=true:=by rw [h2];exact hk
  rw [Nat.testBit_and,Bool.and_eq_true] at this
  exact this.2
 obtain ⟨k,hk⟩:=ex_bit h1
 exact ⟨⟨k,hk,h3 k hk⟩,by rw [←h2];exact Nat.and_le_right,h3⟩
theorem ck_zero{x:Ex}(h:ckR x=0):(∀i,i<6→okF i (fl x i)=true)∧starsOk x=true:=by
 unfold ckR at h
 split at h
 ·rename_i hv
  unfold vx at hv
  rw [Bool.and_eq_true,List.all_eq_true] at hv
  exact ⟨fun i hi=>hv.1 i (List.mem_range.2 hi),hv.2⟩
 ·omega
theorem full_bit(i n:Nat)(h:fullN i<2^n){k:Nat}(hk:(fullN i).testBit k=true):k<n:=by
 rcases Nat.lt_or_ge k n with h1|h1
 ·exact h1
 ·rw [Nat.testBit_lt_two_pow (Nat.lt_of_lt_of_le h (Nat.pow_le_pow_right (by decide) h1))] at hk;cases hk
theorem ok_of_ck{x:Ex}(h:ckR x=0):x.Ok:=by
 obtain ⟨h1,_⟩:=ck_zero h
 obtain ⟨⟨k0,a0,b0⟩,c0,d0⟩:=okF_facts (h1 0 (by decide))
 obtain ⟨⟨k1,a1,b1⟩,c1,d1⟩:=okF_facts (h1 1 (by decide))
 obtain ⟨⟨k2,a2,b2⟩,c2,d2⟩:=okF_facts (h1 2 (by decide))
 obtain ⟨⟨k3,a3,b3⟩,c3,d3⟩:=okF_facts (h1 3 (by decide))
 obtain ⟨⟨k4,a4,b4⟩,c4,d4⟩:=okF_facts (h1 4 (by decide))
 obtain ⟨⟨k5,a5,b5⟩,c5,d5⟩:=okF_facts (h1 5 (by decide))
 have f0:fullN 0<2^60:=by decide
 have f1:fullN 1<2^60:=by decide
 have f2:fullN 2<2^24:=by decide
 have f3:fullN 3<2^32:=by decide
 have f4:fullN 4<2^13:=by decide
 have f5:fullN 5<2^7:=by decide
 have g3:=full_bit 3 32 f3 b3
 have g4:=full_bit 4 13 f4 b4
 have z3:k3≠0:=by rintro rfl;exact absurd b3 (by decide)
 have z4:k4≠0:=by rintro rfl;exact absurd b4 (by decide)
 exact ⟨⟨k0,full_bit 0 60 f0 b0,a0⟩,⟨k1,full_bit 1 60 f1 b1,a1⟩,⟨k2,full_bit 2 24 f2 b2,a2⟩,⟨k3,by omega,by omega,a3⟩,⟨k4,by omega,by omega,a4⟩,⟨k5,by have:=full_bit 5 7 f5 b5;omega,a5⟩,
  Nat.lt_of_le_of_lt c0 f0,Nat.lt_of_le_of_lt c1 f1,Nat.lt_of_le_of_lt c2 f2,Nat.lt_of_le_of_lt c3 f3,Nat.lt_of_le_of_lt c4 f4,Nat.lt_of_le_of_lt c5 f5⟩
theorem zone_zero{z:Int}(h:zoneR z=0) : -840≤z∧z≤840:=by
 unfold zoneR at h
 split at h
 ·assumption
 ·omega
theorem chk_zero{x:Ex}{z:Int}{ts:List Int}(h:chk x z ts=0):ckR x=0∧(-840≤z∧z≤840)∧∀t∈ts,0≤t∧t≤253402300799:=by
 have h1:=ckR_cases x
 have h2:=zoneR_cases z
 unfold chk at h
 split at h
 ·omega
 ·split at h
  ·omega
  ·refine ⟨by omega,zone_zero (by omega),?_⟩
   unfold timesR at h
   split at h
   ·rename_i ha
    intro t ht
    have:=List.all_eq_true.1 ha t ht
    unfold tOk at this
    simpa using this
   ·omega
end Go.Proofs.YtpgckpafjiojfaaGreatDoor.BW
