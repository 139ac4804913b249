/- The walk of wakemanlaw35.AdmitRestores. -/
import Derived.Test.YtpgckpafjiojfaaGreatDoorAKs
import Derived.Test.YtpgckpafjiojfaaGreatDoorAKq
import Derived.Test.YtpgckpafjiojfaaGreatDoorAJf
import Derived.Deep.CutBlock
open Go.Lib (hid)
set_option maxRecDepth 16000
set_option maxHeartbeats 40000000
namespace Go.Proofs.YtpgckpafjiojfaaGreatDoor.AD
open Go Go.RowKit BW
open BK (Bx BoxAt RBoxAt Blk only_refl only_drew only_drewN only_setCell only_trans only_of_below only_alloc below_drewN)
theorem gt_lens{w:World}{L:Ly}{x:Gt}(h:GAt w L x):x.runsL.length≤1000∧x.tatsL.length≤1000∧x.boxesL.length≤1000:=by
 have:=h.inv.n
 unfold Gt.runsL Gt.tatsL Gt.boxesL
 simp only [List.length_map,List.length_cons]
 omega
theorem info_rbx:(Tryz.prog.info? 102).map (fun i=>(i.zero,i.size,i.bytes))=some (some (.agg #[.int .i64 0,.int .i64 0,.int .i64 0,.int .i64 0]),4,32):=by kernel_rfl
theorem restores_walk(c:Cf)(L:JL)(rs ts:List Int)(bs:List BxQ)(a1:Option Addr)(q1:Nat)(a2:Option Addr)(q2:Nat)(a3:Option Addr)(q3:Nat)(now:Int)(a:Option Addr)(ms:List Stp)(mm mc:Nat)(hmn:ms.length=mm)(hmc:mm≤mc)(_hz:mm≤9223372036854775807)(w:World)(hp:CIn w c L∧c.n≤9223372036854775807)(hrows:Row1 w a1 rs∧Row1 w a2 ts∧Row4 w a3 bs)(hm:StepsAt w a ms)(hT:SpTab w)(hTab:Tab w):Calls Tryz.prog 6 #[.agg (cfV c),.agg #[.slice a1 rs.length q1,.slice a2 ts.length q2,.slice a3 bs.length q3],.int .i64 now,.slice a mm mc] w fun e w'=>e=.returned (.bool true)∧Below w.heap.size w w':=by
 obtain ⟨hI,hn9⟩:=hp
 obtain ⟨h1,h2,h3⟩:=hrows
 obtain ⟨cg,ca,cn,cc⟩:=c
 have HM:=hid (fun W (hb:Below w.heap.size w W)=>hm.below hb)
 have HMN:=hid hmn
 have HTT:=hid (show ∀W,Below w.heap.size w W→SpTab W∧Tab W from fun W hW=>⟨hT.below hW,tab_below hTab hW (tab_lt hTab)⟩)
 have CW:=hid (fun W (hW:Below w.heap.size w W)=>aworks_ok W (HTT.out W hW).1 (HTT.out W hW).2)
 have HIN:=hid hI
 have HS1:=hid (fun W (hb:Below w.heap.size w W)=>Row1.below h1 hb)
 have HS2:=hid (fun W (hb:Below w.heap.size w W)=>Row1.below h2 hb)
 have HS3:=hid (fun W (hb:Below w.heap.size w W)=>Row4.below h3 hb)
 obtain ⟨rn,hrn⟩:∃rn,rs.length=rn:=⟨_,rfl⟩
 obtain ⟨tn,htn⟩:∃tn,ts.length=tn:=⟨_,rfl⟩
 obtain ⟨bn,hbn⟩:∃bn,bs.length=bn:=⟨_,rfl⟩
 have HRN:=hid (And.intro hrn (And.intro htn hbn))
 rw [hrn,htn,hbn]
 have HCV:Hid (cfV ⟨cg,ca,cn,cc⟩=#[.int .i64 cg.cap,.int .i64 cg.q,.int .i64 cg.ar,.int .i64 cg.ag,.int .u64 cg.sd,.int .i64 cg.t,.int .i64 cg.tau,.slice ca cn cc]):=hid (cfV_eq ⟨cg,ca,cn,cc⟩)
 rw [HCV.out]
 obtain ⟨W1,hW1⟩:∃W1,W1=(w.alloc (.cells #[.int .i64 cg.cap,.int .i64 cg.q,.int .i64 cg.ar,.int .i64 cg.ag,.int .u64 cg.sd,.int .i64 cg.t,.int .i64 cg.tau,.slice ca cn cc] 31)).alloc (.cells #[.slice a1 rn q1,.slice a2 tn q2,.slice a3 bn q3] 91):=⟨_,rfl⟩
 have hB:Below w.heap.size w W1:=by rw [hW1];exact two_boxes w _ _
 have HB1:=hid hB
 obtain ⟨cb,hcb⟩:∃cb,cb=w.heap.size:=⟨_,rfl⟩
 obtain ⟨sb,hsb⟩:∃sb,sb=w.heap.size+1:=⟨_,rfl⟩
 have C1:Hid (Blk W1 cb 31 #[.int .i64 cg.cap,.int .i64 cg.q,.int .i64 cg.ar,.int .i64 cg.ag,.int .u64 cg.sd,.int .i64 cg.t,.int .i64 cg.tau,.slice ca cn cc]):=hid (by rw [hW1,hcb];exact (Blk.new _ _ _).alloc _)
 have S1:Hid (Blk W1 sb 91 #[.slice a1 rn q1,.slice a2 tn q2,.slice a3 bn q3]):=hid (by rw [hW1,hsb];exact blk_newAt (by simp))
 have CF0:=few_ok ⟨cg,ca,cn,cc⟩ L W1 (hI.below hB) hn9
 rw [HCV.out] at CF0
 have CF:=hid CF0
 clear CF0 hI hn9 hm hT hTab hB h1 h2 h3 hrn htn hbn
 go_enter Tryz.func6,Tryz.ntmps6
 go_upto_region 1 with fail
 rw [←hW1]
 rw [←hsb]
 rw [←hcb]
 clear hW1 hcb hsb
 have k0:W1.cell? ⟨cb,0,none⟩=some (.int .i64 cg.cap):=C1.out.cell 0
 have k1:W1.cell? ⟨cb,1,none⟩=some (.int .i64 cg.q):=C1.out.cell 1
 have k2:W1.cell? ⟨cb,2,none⟩=some (.int .i64 cg.ar):=C1.out.cell 2
 have k3:W1.cell? ⟨cb,3,none⟩=some (.int .i64 cg.ag):=C1.out.cell 3
 have k4:W1.cell? ⟨cb,4,none⟩=some (.int .u64 cg.sd):=C1.out.cell 4
 have k5:W1.cell? ⟨cb,5,none⟩=some (.int .i64 cg.t):=C1.out.cell 5
 have k6:W1.cell? ⟨cb,6,none⟩=some (.int .i64 cg.tau):=C1.out.cell 6
 have k7:W1.cell? ⟨cb,7,none⟩=some (.slice ca cn cc):=C1.out.cell 7
 go_wp2_with fail
 refine (CF.out).mono ?_
 rintro e_ W2 (⟨rfl,hb⟩|⟨rfl,hf,hb⟩)
 ·have HB2:=hid (HB1.out.trans (hb.mono HB1.out.size))
  clear hb k0 k1 k2 k3 k4 k5 k6 k7 CF C1 HB1 S1
  have T:=hid (CW.out W2 HB2.out)
  go_wp2_with fail
  refine (T.out).mono ?_
  rintro e_ X9 ⟨rfl,hb⟩
  have HB9:=hid (HB2.out.trans (hb.mono HB2.out.size))
  clear hb T
  go_wp2_with fail
  go_ret
  exact ⟨rfl,HB9.out⟩
 ·have HB2:=hid (HB1.out.trans (hb.mono HB1.out.size))
  have C2:=hid (C1.out.below hb C1.out.lt)
  have S2:=hid (S1.out.below hb S1.out.lt)
  have HFEW:=hid hf
  clear hb hf k0 k1 k2 k3 k4 k5 k6 k7 CF C1 HB1 S1
  have s0:W2.cell? ⟨sb,0,none⟩=some (.slice a1 rn q1):=S2.out.cell 0
  have s1:W2.cell? ⟨sb,1,none⟩=some (.slice a2 tn q2):=S2.out.cell 1
  have s2:W2.cell? ⟨sb,2,none⟩=some (.slice a3 bn q3):=S2.out.cell 2
  rcases Nat.lt_or_ge 100 rn with hqg0|hqg0
  ·have g0:decide ((100:Int)<rn)=true:=decide_eq_true (by omega)
   have T:=hid (CW.out W2 HB2.out)
   go_wp2_with fail
   refine (T.out).mono ?_
   rintro e_ X9 ⟨rfl,hb⟩
   have HB9:=hid (HB2.out.trans (hb.mono HB2.out.size))
   clear hb T
   go_wp2_with fail
   go_ret
   exact ⟨rfl,HB9.out⟩
  ·have g0:decide ((100:Int)<rn)=false:=decide_eq_false (by omega)
   rcases Nat.lt_or_ge 100 tn with hqg1|hqg1
   ·have g1:decide ((100:Int)<tn)=true:=decide_eq_true (by omega)
    have T:=hid (CW.out W2 HB2.out)
    go_wp2_with fail
    refine (T.out).mono ?_
    rintro e_ X9 ⟨rfl,hb⟩
    have HB9:=hid (HB2.out.trans (hb.mono HB2.out.size))
    clear hb T
    go_wp2_with fail
    go_ret
    exact ⟨rfl,HB9.out⟩
   ·have g1:decide ((100:Int)<tn)=false:=decide_eq_false (by omega)
    rcases Nat.lt_or_ge 100 bn with hqg2|hqg2
    ·have g2:decide ((100:Int)<bn)=true:=decide_eq_true (by omega)
     have T:=hid (CW.out W2 HB2.out)
     go_wp2_with fail
     refine (T.out).mono ?_
     rintro e_ X9 ⟨rfl,hb⟩
     have HB9:=hid (HB2.out.trans (hb.mono HB2.out.size))
     clear hb T
     go_wp2_with fail
     go_ret
     exact ⟨rfl,HB9.out⟩
    ·have g2:decide ((100:Int)<bn)=false:=decide_eq_false (by omega)
     rcases Nat.lt_or_ge 40 mm with hqg3|hqg3
     ·have g3:decide ((40:Int)<mm)=true:=decide_eq_true (by omega)
      have T:=hid (CW.out W2 HB2.out)
      go_wp2_with fail
      refine (T.out).mono ?_
      rintro e_ X9 ⟨rfl,hb⟩
      have HB9:=hid (HB2.out.trans (hb.mono HB2.out.size))
      clear hb T
      go_wp2_with fail
      go_ret
      exact ⟨rfl,HB9.out⟩
     ·have g3:decide ((40:Int)<mm)=false:=decide_eq_false (by omega)
      have HRB:Hid (rn≤200∧tn≤200):=hid (by omega)
      have HRB2:Hid (bn≤100):=hid (by omega)
      have HLEN:Hid (rs.length≤1000∧ts.length≤1000∧bs.length≤1000):=hid (by rw [HRN.out.1,HRN.out.2.1,HRN.out.2.2];omega)
      have HA:=hid (fun W (hW:Below w.heap.size w W)=>HFEW.out.arg (HIN.out.below hW) (HTT.out W hW).1 (HTT.out W hW).2)
      go_upto_region 4 with fail
      obtain ⟨W3,hW3⟩:∃W3,W3=W2.alloc (.cells #[.slice none 0 0,.slice none 0 0,.slice none 0 0] 95):=⟨_,rfl⟩
      have hb3:Below W2.heap.size W2 W3:=by rw [hW3];exact (Below.refl _ _).alloc (Nat.le_refl _) _
      obtain ⟨tb,htb⟩:∃tb,tb=W2.heap.size:=⟨_,rfl⟩
      have TB:Hid (Blk W3 tb 95 #[.slice none 0 0,.slice none 0 0,.slice none 0 0]):=hid (by rw [hW3,htb];exact Blk.new _ _ _)
      have HLO:Hid (w.heap.size≤tb):=hid (by rw [htb];exact HB2.out.size)
      have C3:=hid (C2.out.below hb3 C2.out.lt)
      have S3:=hid (S2.out.below hb3 S2.out.lt)
      have B3:=hid (HB2.out.trans (hb3.mono HB2.out.size))
      rw [←hW3]
      rw [←htb]
      clear hW3 hb3 htb C2 S2 HB2 s0 s1 s2 g0 g1 g2 g3 HFEW
      refine wp_region_put_tail2 _ 7 _ (R:=R4c W3 sb tb (.slice a1 rn q1) (.slice a2 tn q2) rs ts) (by rfl) (by kernel_rfl) (by kernel_rfl) (by kernel_rfl) (by kernel_rfl) (by kernel_rfl) (by kernel_rfl) (by kernel_rfl) (by kernel_rfl) ?_ ?_ ?_
      ·intro v _
       exact ⟨fun i hi=>(rep_not hi).elim,(Below.refl _ _).drew,fun hz=>(rep_not hz).elim,fun hz=>(rep_not hz).elim⟩
      ·intro Q' K_ listed v wx i o hsz ho hli ha hR hK
       have HV:=hid hR
       have dep:=fun d hd=>HV.out.pl d (dep_listed ha d hd)
       have hi:i<7:=(List.getElem?_eq_some_iff.1 ho).1
       clear hR hsz
       obtain rfl|rfl|rfl|rfl|rfl|rfl|rfl:i=0∨i=1∨i=2∨i=3∨i=4∨i=5∨i=6:=by omega
       ·-- operation 0
        cases ho
        simp only [putFrom,Act.put,List.take_succ_cons,List.take_zero,List.setIfInBounds_toArray,List.set_cons_succ,List.set_cons_zero] at hK ⊢
        go_simp
        exact hK _ _ (HV.out.step (Below.refl _ _) rfl (fun e=>by cases e) (fun e=>by cases e))
       ·-- operation 1
        cases ho
        have h0:v 0=_:=dep 0 (by kernel_rfl)
        have s0:wx.cell? ⟨sb,0,none⟩=some (.slice a1 rn q1):=(S3.out.below HV.out.z S3.out.lt).cell 0
        simp only [putFrom,Act.put,List.take_succ_cons,List.take_zero,List.setIfInBounds_toArray,List.set_cons_succ,List.set_cons_zero,h0] at hK ⊢
        go_simp
        exact hK _ _ (HV.out.step (Below.refl _ _) rfl (fun e=>by cases e) (fun e=>by cases e))
       ·-- operation 2
        cases ho
        have h1:v 1=_:=dep 1 (by kernel_rfl)
        have CP:=clone_int rs a1 rn q1 HRN.out.1 HRB.out.1 wx (HS1.out wx (B3.out.trans (HV.out.z.mono B3.out.size)))
        simp only [putFrom,Act.put,List.take_succ_cons,List.take_zero,List.setIfInBounds_toArray,List.set_cons_succ,List.set_cons_zero,h1] at hK ⊢
        go_simp
        refine CP.mono ?_
        rintro _ w5 ⟨u,rfl,hown,hb⟩
        exact hK _ _ (HV.out.step hb trivial (fun _=>by rw [HRN.out.1];exact own_lower hown HV.out.z.size) (fun e=>by cases e))
       ·-- operation 3
        cases ho
        simp only [putFrom,Act.put,List.take_succ_cons,List.take_zero,List.setIfInBounds_toArray,List.set_cons_succ,List.set_cons_zero] at hK ⊢
        go_simp
        exact hK _ _ (HV.out.step (Below.refl _ _) rfl (fun e=>by cases e) (fun e=>by cases e))
       ·-- operation 4
        cases ho
        have h3:v 3=_:=dep 3 (by kernel_rfl)
        have s1:wx.cell? ⟨sb,1,none⟩=some (.slice a2 tn q2):=(S3.out.below HV.out.z S3.out.lt).cell 1
        simp only [putFrom,Act.put,List.take_succ_cons,List.take_zero,List.setIfInBounds_toArray,List.set_cons_succ,List.set_cons_zero,h3] at hK ⊢
        go_simp
        exact hK _ _ (HV.out.step (Below.refl _ _) rfl (fun e=>by cases e) (fun e=>by cases e))
       ·-- operation 5
        cases ho
        have h4:v 4=_:=dep 4 (by kernel_rfl)
        have CP:=clone_int64 ts a2 tn q2 HRN.out.2.1 HRB.out.2 wx (HS2.out wx (B3.out.trans (HV.out.z.mono B3.out.size)))
        simp only [putFrom,Act.put,List.take_succ_cons,List.take_zero,List.setIfInBounds_toArray,List.set_cons_succ,List.set_cons_zero,h4] at hK ⊢
        go_simp
        refine CP.mono ?_
        rintro _ w5 ⟨u,rfl,hown,hb⟩
        exact hK _ _ (HV.out.step hb trivial (fun e=>by cases e) (fun _=>by rw [HRN.out.2.1];exact own_lower hown HV.out.z.size))
       ·-- operation 6
        cases ho
        simp only [putFrom,Act.put,List.take_succ_cons,List.take_zero,List.setIfInBounds_toArray,List.set_cons_succ,List.set_cons_zero] at hK ⊢
        go_simp
        exact hK _ _ (HV.out.step (Below.refl _ _) rfl (fun e=>by cases e) (fun e=>by cases e))
      ·intro v listed w9 hall hR
       have o2:=hR.r2 (hall 2 (by decide))
       have o5:=hR.r5 (hall 5 (by decide))
       have h6:=hR.pl 6 (hall 6 (by decide))
       replace h6:v 6=.pointer (some ⟨tb,0,none⟩):=h6
       have HZ9:=hid hR.z
       obtain ⟨b1,c1,e2,-⟩:=own_shape o2
       obtain ⟨b2,c2,e5,-⟩:=own_shape o5
       rw [HRN.out.1] at e2
       rw [HRN.out.2.1] at e5
       rw [e2] at o2
       rw [e5] at o5
       have O2:=hid (own_lower o2 B3.out.size)
       have O5:=hid (own_lower o5 B3.out.size)
       have TB9:=hid (TB.out.below hR.z TB.out.lt)
       have t0:w9.cell? ⟨tb,0,none⟩=some (.slice none 0 0):=TB9.out.cell 0
       have t1:w9.cell? ⟨tb,1,none⟩=some (.slice none 0 0):=TB9.out.cell 1
       have f0:w9.frozen? ⟨tb,0,none⟩=false:=TB9.out.frozen 0
       have f1:w9.frozen? ⟨tb,1,none⟩=false:=TB9.out.frozen 1
       clear hR hall o2 o5
       simp only [putFrom,Act.put,List.take_succ_cons,List.take_zero,List.setIfInBounds_toArray,List.set_cons_succ,List.set_cons_zero,Nat.zero_add,Nat.reduceAdd,h6,e2,e5]
       clear h6 e2 e5
       go_upto_region 5 with fail
       have I5:Hid (ClI w cb sb tb #[.int .i64 cg.cap,.int .i64 cg.q,.int .i64 cg.ar,.int .i64 cg.ag,.int .u64 cg.sd,.int .i64 cg.t,.int .i64 cg.tau,.slice ca cn cc] #[.slice a1 rn q1,.slice a2 tn q2,.slice a3 bn q3] (.slice b1 rn c1) (.slice b2 tn c2) (.slice none 0 0) rs ts [] ((w9.setCell ⟨tb,0,none⟩ (.slice b1 rn c1)).setCell ⟨tb,1,none⟩ (.slice b2 tn c2))):=hid (by
        have g0:=TB9.out
        have g1:=g0.set_ 0 (.slice b1 rn c1)
        have g2:=g1.set_ 1 (.slice b2 tn c2)
        have hc:=C3.out.below HZ9.out C3.out.lt
        have hs:=S3.out.below HZ9.out S3.out.lt
        have hc1:=Blk.far (p:=⟨tb,0,none⟩) hc (blk_ne hc g0 (by decide)) (.slice b1 rn c1)
        have hs1:=Blk.far (p:=⟨tb,0,none⟩) hs (blk_ne hs g0 (by decide)) (.slice b1 rn c1)
        exact ⟨by simpa using g2,own_set (own_set O2.out g0 (by decide) 0 _) g1 (by decide) 1 _,own_set (own_set O5.out g0 (by decide) 0 _) g1 (by decide) 1 _,⟨rfl,.inl ⟨rfl,rfl⟩⟩,Blk.far hc1 (blk_ne hc1 g1 (by decide)) _,Blk.far hs1 (blk_ne hs1 g1 (by decide)) _,HLO.out,((B3.out.trans (HZ9.out.mono B3.out.size)).setCell HLO.out _).setCell HLO.out _⟩)
       obtain ⟨W5,hW5⟩:∃W5,W5=(w9.setCell ⟨tb,0,none⟩ (.slice b1 rn c1)).setCell ⟨tb,1,none⟩ (.slice b2 tn c2):=⟨_,rfl⟩
       rw [←hW5] at I5 ⊢
       clear hW5 t0 t1 f0 f1 TB9 HZ9 O2 O5 TB C3 S3
       have s2:W5.cell? ⟨sb,2,none⟩=some (.slice a3 bn q3):=I5.out.s.cell 2
       go_wp2_with fail
       clear s2
       go_loopw [60] (fun s60 wr=>∃k:Nat,k≤bn∧s60=.int .i64 k∧∃bv,ClI w cb sb tb #[.int .i64 cg.cap,.int .i64 cg.q,.int .i64 cg.ar,.int .i64 cg.ag,.int .u64 cg.sd,.int .i64 cg.t,.int .i64 cg.tau,.slice ca cn cc] #[.slice a1 rn q1,.slice a2 tn q2,.slice a3 bn q3] (.slice b1 rn c1) (.slice b2 tn c2) bv rs ts (bs.take k) wr) (fun s60 _=>bn - intA s60)
       case atStart=>exact ⟨0,Nat.zero_le _,rfl,_,by simpa using I5.out⟩
       case round =>
        obtain ⟨k,hk,rfl,bv,hI⟩:=hrel
        have HI:=hid hI
        clear hI I5
        rcases Nat.lt_or_ge k bn with hlt|hge
        ·have hkl:k<bs.length:=by rw [HRN.out.2.2];exact hlt
         obtain ⟨xb,xf,ha3,hq⟩:=HS3.out wr HI.out.bel k hkl
         obtain ⟨q,hqe⟩:∃q,bs[k]=q:=⟨_,rfl⟩
         have HTK:Hid (bs.take (k+1)=bs.take k++[q]):=hid (by rw [List.take_add_one,List.getElem?_eq_getElem hkl,hqe];rfl)
         have HLK:Hid ((bs.take k).length=k):=hid (by rw [List.length_take];omega)
         rw [hqe] at hq
         rw [ha3]
         have HA3:=hid ha3
         have x0:wr.cell? ⟨xb,xf+k*4,none⟩=some (.int .i64 q.1):=hq 0 (by decide)
         have x1:wr.cell? ⟨xb,xf+k*4+1,none⟩=some (.int .i64 q.2.1):=hq 1 (by decide)
         have x2:wr.cell? ⟨xb,xf+k*4+2,none⟩=some (.int .i64 q.2.2.1):=hq 2 (by decide)
         have x3:wr.cell? ⟨xb,xf+k*4+3,none⟩=some (.int .i64 q.2.2.2):=hq 3 (by decide)
         clear hq hqe hkl ha3
         go_upto_region 8 with fail
         obtain ⟨W7,hW7⟩:∃W7,W7=wr.alloc (.cells #[.int .i64 q.1,.int .i64 q.2.1,.int .i64 q.2.2.1,.int .i64 q.2.2.2] 101):=⟨_,rfl⟩
         have hb7:Below wr.heap.size wr W7:=by rw [hW7];exact (Below.refl _ _).alloc (Nat.le_refl _) _
         have XB:Blk W7 wr.heap.size 101 #[.int .i64 q.1,.int .i64 q.2.1,.int .i64 q.2.2.1,.int .i64 q.2.2.2]:=by rw [hW7];exact Blk.new _ _ _
         have I7:=hid (HI.out.next hb7)
         rw [←hW7]
         have y0:W7.cell? ⟨wr.heap.size,0,none⟩=some (.int .i64 q.1):=XB.cell 0
         have y1:W7.cell? ⟨wr.heap.size,1,none⟩=some (.int .i64 q.2.1):=XB.cell 1
         have y2:W7.cell? ⟨wr.heap.size,2,none⟩=some (.int .i64 q.2.2.1):=XB.cell 2
         have y3:W7.cell? ⟨wr.heap.size,3,none⟩=some (.int .i64 q.2.2.2):=XB.cell 3
         clear hb7 XB hW7 x0 x1 x2 x3 HI
         generalize wr.heap.size=pb at *
         generalize bs.take k=bs1 at *
         have s2:W7.cell? ⟨tb,2,none⟩=some bv:=I7.out.st.cell 2
         have hX:Below W7.heap.size W7 (W7.alloc (.cells #[.int .i64 q.1,.int .i64 q.2.1,.int .i64 q.2.2.1,.int .i64 q.2.2.2] 102)):=(Below.refl _ _).alloc (Nat.le_refl _) _
         have IX:=hid (I7.out.next hX)
         have HNW:=hid (four_news (q:=q) (Blk.new W7 102 #[.int .i64 q.1,.int .i64 q.2.1,.int .i64 q.2.2.1,.int .i64 q.2.2.2]))
         have hbs:w.heap.size≤(W7.alloc (.cells #[.int .i64 q.1,.int .i64 q.2.1,.int .i64 q.2.2.1,.int .i64 q.2.2.2] 102)).heap.size:=by have h1:=I7.out.bel.size;simp;omega
         obtain ⟨j2,k2,y1_,y2_,y3_⟩:=info_parts info_rbx
         have hb9:=HRB2.out
         have hmlb:bs1.length+1≤maxLen:=by have:=HLK.out;unfold maxLen;omega
         have hmbb:(bs1.length+1)*32≤140737488355328:=by have:=HLK.out;omega
         clear hX
         go_upto_region 9 with (first|(at_builtin;refine wpList_append_lies _ rfl _ _ 93 rfl w.heap.size 102 j2 (.agg #[.int .i64 0,.int .i64 0,.int .i64 0,.int .i64 0]) 4 32 Tryz.underlying93 k2 y1_ y2_ y3_ rfl (by decide) bv _ _ rfl IX.out.b ⟨W7.heap.size,0,none⟩ 1 1 (bxC q) rfl rfl HNW.out (by simp [Value.oneCell',bxC]) (by decide) hmlb hmbb hbs _ rfl ?_;intro g8 cap8 w8 hown8 hgrow8 _ _;have c8:w8.cell? ⟨tb,2,none⟩=some bv:=(IX.out.gateB hgrow8).cell 2;have f8:w8.frozen? ⟨tb,2,none⟩=false:=(IX.out.gateB hgrow8).frozen 2;have PP:=hid (IX.out.pushB hown8 hgrow8);clear hown8 hgrow8))
         have HQ:Hid (∃bv,ClI w cb sb tb #[.int .i64 cg.cap,.int .i64 cg.q,.int .i64 cg.ar,.int .i64 cg.ag,.int .u64 cg.sd,.int .i64 cg.t,.int .i64 cg.tau,.slice ca cn cc] #[.slice a1 rn q1,.slice a2 tn q2,.slice a3 bn q3] (.slice b1 rn c1) (.slice b2 tn c2) bv rs ts (bs.take (k+1)) (w8.setCell ⟨tb,2,none⟩ (.slice (some ⟨g8,0,none⟩) (bs1.length+1) cap8))):=hid (by rw [HTK.out];exact ⟨_,PP.out⟩)
         rw [HA3.out] at HQ
         go_wp2_with fail
         refine ⟨⟨k+1,by omega,by go_num,HQ.out⟩,?_⟩
         simp [intA];omega
        ·obtain rfl:bn=k:=by omega
         as_aux_lemma =>
          have htk:bs.take bn=bs:=List.take_of_length_le (by rw [HRN.out.2.2];exact Nat.le_refl _)
          rw [htk] at HI
          clear htk
          obtain ⟨b3,c3,hbv,-,-⟩:=row4_own HI.out.b
          have I9:=HI.out
          rw [hbv,HRN.out.2.2] at I9
          have I9:=hid I9
          clear HI hbv
          have GR:=hid (grest_ok cg L ca cn cc a1 a2 a3 rn q1 tn q2 bn q3 rs ts bs now wr HIN.out.n (HA.out wr I9.out.bel) HRN.out.1 HRN.out.2.1 HRN.out.2.2 (HS1.out wr I9.out.bel) (HS2.out wr I9.out.bel) (HS3.out wr I9.out.bel))
          have k0:wr.cell? ⟨cb,0,none⟩=some (.int .i64 cg.cap):=I9.out.c.cell 0
          have k1:wr.cell? ⟨cb,1,none⟩=some (.int .i64 cg.q):=I9.out.c.cell 1
          have k2:wr.cell? ⟨cb,2,none⟩=some (.int .i64 cg.ar):=I9.out.c.cell 2
          have k3:wr.cell? ⟨cb,3,none⟩=some (.int .i64 cg.ag):=I9.out.c.cell 3
          have k4:wr.cell? ⟨cb,4,none⟩=some (.int .u64 cg.sd):=I9.out.c.cell 4
          have k5:wr.cell? ⟨cb,5,none⟩=some (.int .i64 cg.t):=I9.out.c.cell 5
          have k6:wr.cell? ⟨cb,6,none⟩=some (.int .i64 cg.tau):=I9.out.c.cell 6
          have k7:wr.cell? ⟨cb,7,none⟩=some (.slice ca cn cc):=I9.out.c.cell 7
          have s0:wr.cell? ⟨sb,0,none⟩=some (.slice a1 rn q1):=I9.out.s.cell 0
          have s1:wr.cell? ⟨sb,1,none⟩=some (.slice a2 tn q2):=I9.out.s.cell 1
          have s2:wr.cell? ⟨sb,2,none⟩=some (.slice a3 bn q3):=I9.out.s.cell 2
          go_wp2_with fail
          refine (GR.out).mono ?_
          rintro e_ w3 ⟨hb,hres⟩
          have I3:=hid (I9.out.next hb)
          have HWR:=hid hb
          clear hb GR k0 k1 k2 k3 k4 k5 k6 k7 s0 s1 s2
          have hrows:Row1 w3 b1 rs∧Row1 w3 b2 ts∧Row4 w3 b3 bs:=⟨own_row1 I3.out.r,own_row1 I3.out.t,own_row4 I3.out.b⟩
          have RR:=hid (rgrest_ok cg L ca cn cc b1 b2 b3 rn c1 tn c2 bn c3 rs ts bs now w3 HIN.out.n (HA.out w3 I3.out.bel) HRN.out.1 HRN.out.2.1 HRN.out.2.2 hrows.1 hrows.2.1 hrows.2.2)
          clear hrows
          obtain ⟨⟨og,eg⟩,hog⟩:∃r,rsR cg L rs ts bs now=r:=⟨_,rfl⟩
          simp only [hog] at RR hres
          clear hog
          have k0:w3.cell? ⟨cb,0,none⟩=some (.int .i64 cg.cap):=I3.out.c.cell 0
          have k1:w3.cell? ⟨cb,1,none⟩=some (.int .i64 cg.q):=I3.out.c.cell 1
          have k2:w3.cell? ⟨cb,2,none⟩=some (.int .i64 cg.ar):=I3.out.c.cell 2
          have k3:w3.cell? ⟨cb,3,none⟩=some (.int .i64 cg.ag):=I3.out.c.cell 3
          have k4:w3.cell? ⟨cb,4,none⟩=some (.int .u64 cg.sd):=I3.out.c.cell 4
          have k5:w3.cell? ⟨cb,5,none⟩=some (.int .i64 cg.t):=I3.out.c.cell 5
          have k6:w3.cell? ⟨cb,6,none⟩=some (.int .i64 cg.tau):=I3.out.c.cell 6
          have k7:w3.cell? ⟨cb,7,none⟩=some (.slice ca cn cc):=I3.out.c.cell 7
          have t0:w3.cell? ⟨tb,0,none⟩=some (.slice b1 rn c1):=I3.out.st.cell 0
          have t1:w3.cell? ⟨tb,1,none⟩=some (.slice b2 tn c2):=I3.out.st.cell 1
          have t2:w3.cell? ⟨tb,2,none⟩=some (.slice b3 bn c3):=I3.out.st.cell 2
          cases og with
          | none =>
           have hres:e_=.returned (.tuple #[.pointer none,.int .i64 eg]):=hres
           subst hres
           go_wp2_with fail
           refine (RR.out).mono ?_
           rintro e_ w4 ⟨hb,hres⟩
           have hres:e_=.returned (.tuple #[.pointer none,.int .i64 eg]):=hres
           subst hres
           have I4:=hid (I3.out.next hb)
           clear hb RR k0 k1 k2 k3 k4 k5 k6 k7 t0 t1 t2 I3 I9 HWR
           have hq:(eg != eg)=false:=by simp
           have s0:w4.cell? ⟨sb,0,none⟩=some (.slice a1 rn q1):=I4.out.s.cell 0
           have s1:w4.cell? ⟨sb,1,none⟩=some (.slice a2 tn q2):=I4.out.s.cell 1
           have s2:w4.cell? ⟨sb,2,none⟩=some (.slice a3 bn q3):=I4.out.s.cell 2
           have t0:w4.cell? ⟨tb,0,none⟩=some (.slice b1 rn c1):=I4.out.st.cell 0
           have t1:w4.cell? ⟨tb,1,none⟩=some (.slice b2 tn c2):=I4.out.st.cell 1
           have t2:w4.cell? ⟨tb,2,none⟩=some (.slice b3 bn c3):=I4.out.st.cell 2
           have SM:=hid (same_ok w4 (v:=.agg #[.slice a1 rn q1,.slice a2 tn q2,.slice a3 bn q3]) (v':=.agg #[.slice b1 rn c1,.slice b2 tn c2,.slice b3 bn c3]) (rs:=rs) (ts:=ts) (bs:=bs) ⟨a1,q1,a2,q2,a3,q3,by rw [HRN.out.1,HRN.out.2.1,HRN.out.2.2],HS1.out w4 I4.out.bel,HS2.out w4 I4.out.bel,HS3.out w4 I4.out.bel⟩ ⟨b1,c1,b2,c2,b3,c3,by rw [HRN.out.1,HRN.out.2.1,HRN.out.2.2],own_row1 I4.out.r,own_row1 I4.out.t,own_row4 I4.out.b⟩ HLEN.out)
           go_wp2_with fail
           refine (SM.out).mono ?_
           rintro e_ w5 ⟨rfl,hb⟩
           have HB5:=hid (I4.out.bel.trans (hb.mono I4.out.bel.size))
           clear hb SM hq s0 s1 s2 t0 t1 t2 I4
           have T:=hid (CW.out w5 HB5.out)
           go_wp2_with fail
           refine (T.out).mono ?_
           rintro e_ X9 ⟨rfl,hb⟩
           have HB9:=hid (HB5.out.trans (hb.mono HB5.out.size))
           clear hb T
           go_wp2_with fail
           go_ret
           exact ⟨rfl,HB9.out⟩
          | some z =>
           obtain ⟨Y,rfl,hg,hsup⟩:=hres
           have G3:=hid hg
           have SU:=hid hsup
           clear hg hsup
           go_wp2_with fail
           refine (RR.out).mono ?_
           rintro e_ w4 ⟨hb,R,rfl,hr,hsr⟩
           have J:Hid (Two w.heap.size z.js.length w Y R z z w4):=hid ⟨G3.out.below hb,hr,rfl,rfl,fun i hi hi2=>(by have h1:=G3.out.lt hi;have h2:=hsr i hi2;omega),fun i hi=>Nat.le_trans I9.out.bel.size (SU.out i (.inl hi)),fun i hi=>Nat.le_trans I3.out.bel.size (hsr i (.inl hi)),I3.out.bel.trans (hb.mono I3.out.bel.size),Nat.le_refl _⟩
           have I4:=hid (I3.out.next hb)
           clear hb hr hsr RR k0 k1 k2 k3 k4 k5 k6 k7 t0 t1 t2 I3 I9 HWR G3 SU
           have s0:w4.cell? ⟨sb,0,none⟩=some (.slice a1 rn q1):=I4.out.s.cell 0
           have s1:w4.cell? ⟨sb,1,none⟩=some (.slice a2 tn q2):=I4.out.s.cell 1
           have s2:w4.cell? ⟨sb,2,none⟩=some (.slice a3 bn q3):=I4.out.s.cell 2
           have t0:w4.cell? ⟨tb,0,none⟩=some (.slice b1 rn c1):=I4.out.st.cell 0
           have t1:w4.cell? ⟨tb,1,none⟩=some (.slice b2 tn c2):=I4.out.st.cell 1
           have t2:w4.cell? ⟨tb,2,none⟩=some (.slice b3 bn c3):=I4.out.st.cell 2
           have SM:=hid (same_ok w4 (v:=.agg #[.slice a1 rn q1,.slice a2 tn q2,.slice a3 bn q3]) (v':=.agg #[.slice b1 rn c1,.slice b2 tn c2,.slice b3 bn c3]) (rs:=rs) (ts:=ts) (bs:=bs) ⟨a1,q1,a2,q2,a3,q3,by rw [HRN.out.1,HRN.out.2.1,HRN.out.2.2],HS1.out w4 I4.out.bel,HS2.out w4 I4.out.bel,HS3.out w4 I4.out.bel⟩ ⟨b1,c1,b2,c2,b3,c3,by rw [HRN.out.1,HRN.out.2.1,HRN.out.2.2],own_row1 I4.out.r,own_row1 I4.out.t,own_row4 I4.out.b⟩ HLEN.out)
           go_wp2_with fail
           refine (SM.out).mono ?_
           rintro e_ w5 ⟨rfl,hb⟩
           have J5:=hid (J.out.below hb)
           clear hb SM s0 s1 s2 t0 t1 t2 I4 J
           generalize z.js.length=n at *
           go_wp2_with fail
           go_loopw [106] (fun s106 wr=>∃k:Nat,k≤mm∧s106=.int .i64 k∧∃x:Gt,Two w.heap.size n w Y R x x wr) (fun s106 _=>mm - intA s106)
           case atStart=>exact ⟨0,Nat.zero_le _,rfl,z,J5.out⟩
           case round =>
            clear J5
            obtain ⟨k,hk,rfl,x,hT⟩:=hrel
            have J0:=hid hT
            clear hT
            rcases Nat.lt_or_ge k mm with hlt|hge
            ·have hkl:k<ms.length:=by rw [HMN.out];omega
             obtain ⟨b,off,hmb,hcl,hok⟩:=(HM.out wr J0.out.bel) k hkl
             obtain ⟨s,hs⟩:∃s,ms[k]=s:=⟨_,rfl⟩
             rw [hs] at hcl hok
             rw [hmb]
             have c0:wr.cell? ⟨b,off+k*4,none⟩=some (.int .u8 s.kind):=hcl 0 (by decide)
             have c1:wr.cell? ⟨b,off+k*4+1,none⟩=some (.int .i64 s.job):=hcl 1 (by decide)
             have c2:wr.cell? ⟨b,off+k*4+2,none⟩=some (.bool s.ok):=hcl 2 (by decide)
             have c3:wr.cell? ⟨b,off+k*4+3,none⟩=some (.int .i64 s.now):=hcl 3 (by decide)
             clear hcl hs hkl hmb
             go_upto_region 19 with fail
             obtain ⟨X1,hX1⟩:∃X1,X1=wr.alloc (.cells #[.int .u8 s.kind,.int .i64 s.job,.bool s.ok,.int .i64 s.now] 86):=⟨_,rfl⟩
             have hbX:Below wr.heap.size wr X1:=by rw [hX1];exact (Below.refl _ _).alloc (Nat.le_refl _) _
             obtain ⟨sp,hsp⟩:∃sp,sp=wr.heap.size:=⟨_,rfl⟩
             have J1:Hid (PlS w.heap.size n w sp s Y R x x X1):=hid ⟨J0.out.below hbX,by rw [hX1,hsp];exact Blk.new _ _ _⟩
             rw [←hX1]
             rw [←hsp]
             clear hX1 hbX hsp c0 c1 c2 c3 J0
             obtain ⟨er,x2,he⟩:∃er x2,x.take s.job s.now=(er,x2):=⟨_,_,rfl⟩
             have HE:=hid he
             clear he
             refine wp_region_put_met [(13,false),(23,false)] 180 (R:=RQ (PlS w.heap.size n w sp s Y R x x) (PlS w.heap.size n w sp s Y R x2 x) (PlS w.heap.size n w sp s Y R x2 x2) (fun u W=>StR W u x2.runsL x2.tatsL x2.boxesL) (.pointer (some ⟨Y.g,0,none⟩)) (.pointer (some ⟨R.g,0,none⟩)) sp s er) (by kernel_rfl) (by kernel_rfl) (by kernel_rfl) (by kernel_rfl) (by rfl) (by kernel_rfl) ?_ ?_ ?_ ?_
             ·intro g hg listed v wx hl hR
              simp only [List.mem_cons,List.not_mem_nil,or_false] at hg
              rcases hg with rfl|rfl
              ·exact hR.pl 13 hl
              ·exact hR.pl 23 hl
             ·intro v
              have h:=J1.out.below (Below.refl _ _).drew
              exact ⟨fun i hi=>(rep_not hi).elim,fun _=>h,fun hz=>(rep_not hz).elim,fun hz=>(rep_not hz).elim,h.st,fun hz=>(rep_not hz).elim,fun hz=>(rep_not hz).elim,fun hz=>(rep_not hz).elim,fun _ _ hz=>(rep_not hz).elim⟩
             ·intro Q' K_ listed v wx i o hsz ho hli ha hR hK
              have HV:=hid hR
              have dep:=fun d hd=>HV.out.pl d (dep_listed ha d hd)
              have hi:i<31:=(List.getElem?_eq_some_iff.1 ho).1
              clear hR hsz
              obtain rfl|rfl|rfl|rfl|rfl|rfl|rfl|rfl|rfl|rfl|rfl|rfl|rfl|rfl|rfl|rfl|rfl|rfl|rfl|rfl|rfl|rfl|rfl|rfl|rfl|rfl|rfl|rfl|rfl|rfl|rfl:i=0∨i=1∨i=2∨i=3∨i=4∨i=5∨i=6∨i=7∨i=8∨i=9∨i=10∨i=11∨i=12∨i=13∨i=14∨i=15∨i=16∨i=17∨i=18∨i=19∨i=20∨i=21∨i=22∨i=23∨i=24∨i=25∨i=26∨i=27∨i=28∨i=29∨i=30:=by omega
              ·-- operation 0
               cases ho
               simp only [putFrom,Act.put,List.setIfInBounds_toArray,List.set_cons_succ,List.set_cons_zero] at hK ⊢
               go_simp
               exact hK _ _ (HV.out.step rfl (by decide) (fun h=>by omega))
              ·-- operation 1
               cases ho
               simp only [putFrom,Act.put,List.setIfInBounds_toArray,List.set_cons_succ,List.set_cons_zero] at hK ⊢
               go_simp
               exact hK _ _ (HV.out.step rfl (by decide) (fun h=>by omega))
              ·-- operation 2
               cases ho
               have h1:v 1=_:=dep 1 (by kernel_rfl)
               have d1:wx.cell? ⟨sp,1,none⟩=some (.int .i64 s.job):=HV.out.st.cell 1
               simp only [putFrom,Act.put,List.setIfInBounds_toArray,List.set_cons_succ,List.set_cons_zero,h1] at hK ⊢
               go_simp
               exact hK _ _ (HV.out.step rfl (by decide) (fun h=>by omega))
              ·-- operation 3
               cases ho
               simp only [putFrom,Act.put,List.setIfInBounds_toArray,List.set_cons_succ,List.set_cons_zero] at hK ⊢
               go_simp
               exact hK _ _ (HV.out.step rfl (by decide) (fun h=>by omega))
              ·-- operation 4
               cases ho
               have h3:v 3=_:=dep 3 (by kernel_rfl)
               have d3:wx.cell? ⟨sp,3,none⟩=some (.int .i64 s.now):=HV.out.st.cell 3
               simp only [putFrom,Act.put,List.setIfInBounds_toArray,List.set_cons_succ,List.set_cons_zero,h3] at hK ⊢
               go_simp
               exact hK _ _ (HV.out.step rfl (by decide) (fun h=>by omega))
              ·-- operation 5
               cases ho
               have h0:v 0=_:=dep 0 (by kernel_rfl)
               have h2:v 2=_:=dep 2 (by kernel_rfl)
               have h4:v 4=_:=dep 4 (by kernel_rfl)
               have hT:=hid (pl_take (HV.out.s0 hli) s.job s.now HE.out)
               simp only [putFrom,Act.put,List.setIfInBounds_toArray,List.set_cons_succ,List.set_cons_zero,h0,h2,h4] at hK ⊢
               go_simp
               refine (hT.out).mono ?_
               rintro e_ w_ ⟨rfl,h⟩
               exact hK _ _ (HV.out.call5 hli h h.st)
              ·-- operation 6
               cases ho
               simp only [putFrom,Act.put,List.setIfInBounds_toArray,List.set_cons_succ,List.set_cons_zero] at hK ⊢
               go_simp
               exact hK _ _ (HV.out.step rfl (by decide) (fun h=>by omega))
              ·-- operation 7
               cases ho
               simp only [putFrom,Act.put,List.setIfInBounds_toArray,List.set_cons_succ,List.set_cons_zero] at hK ⊢
               go_simp
               exact hK _ _ (HV.out.step rfl (by decide) (fun h=>by omega))
              ·-- operation 8
               cases ho
               have h7:v 7=_:=dep 7 (by kernel_rfl)
               have d1:wx.cell? ⟨sp,1,none⟩=some (.int .i64 s.job):=HV.out.st.cell 1
               simp only [putFrom,Act.put,List.setIfInBounds_toArray,List.set_cons_succ,List.set_cons_zero,h7] at hK ⊢
               go_simp
               exact hK _ _ (HV.out.step rfl (by decide) (fun h=>by omega))
              ·-- operation 9
               cases ho
               simp only [putFrom,Act.put,List.setIfInBounds_toArray,List.set_cons_succ,List.set_cons_zero] at hK ⊢
               go_simp
               exact hK _ _ (HV.out.step rfl (by decide) (fun h=>by omega))
              ·-- operation 10
               cases ho
               have h9:v 9=_:=dep 9 (by kernel_rfl)
               have d3:wx.cell? ⟨sp,3,none⟩=some (.int .i64 s.now):=HV.out.st.cell 3
               simp only [putFrom,Act.put,List.setIfInBounds_toArray,List.set_cons_succ,List.set_cons_zero,h9] at hK ⊢
               go_simp
               exact hK _ _ (HV.out.step rfl (by decide) (fun h=>by omega))
              ·-- operation 11
               cases ho
               have h6:v 6=_:=dep 6 (by kernel_rfl)
               have h8:v 8=_:=dep 8 (by kernel_rfl)
               have h10:v 10=_:=dep 10 (by kernel_rfl)
               have h5':=dep_listed ha 5 (by kernel_rfl)
               have hT:=hid (pl_rtake (HV.out.s1 h5' hli) s.job s.now HE.out)
               simp only [putFrom,Act.put,List.setIfInBounds_toArray,List.set_cons_succ,List.set_cons_zero,h6,h8,h10] at hK ⊢
               go_simp
               refine (hT.out).mono ?_
               rintro e_ w_ ⟨rfl,h⟩
               exact hK _ _ (HV.out.call11 h5' hli h h.st)
              ·-- operation 12
               cases ho
               have h5:v 5=_:=dep 5 (by kernel_rfl)
               have h11:v 11=_:=dep 11 (by kernel_rfl)
               simp only [putFrom,Act.put,List.setIfInBounds_toArray,List.set_cons_succ,List.set_cons_zero,h5,h11] at hK ⊢
               go_simp
               exact hK _ _ (HV.out.step rfl (by decide) (fun _=>dep_listed ha 11 (by kernel_rfl)))
              ·-- operation 13
               cases ho
               have h12:v 12=_:=dep 12 (by kernel_rfl)
               simp only [putFrom,Act.put,List.setIfInBounds_toArray,List.set_cons_succ,List.set_cons_zero,h12] at hK ⊢
               go_simp
               exact hK _ _ (HV.out.step rfl (by decide) (fun _=>HV.out.d 12 (by decide) (dep_listed ha 12 (by kernel_rfl))))
              ·-- operation 14
               cases ho
               simp only [putFrom,Act.put,List.setIfInBounds_toArray,List.set_cons_succ,List.set_cons_zero] at hK ⊢
               go_simp
               exact hK _ _ (HV.out.step rfl (by decide) (fun h=>by omega))
              ·-- operation 15
               cases ho
               simp only [putFrom,Act.put,List.setIfInBounds_toArray,List.set_cons_succ,List.set_cons_zero] at hK ⊢
               go_simp
               exact hK _ _ (HV.out.step rfl (by decide) (fun h=>by omega))
              ·-- operation 16
               cases ho
               simp only [putFrom,Act.put,List.setIfInBounds_toArray,List.set_cons_succ,List.set_cons_zero] at hK ⊢
               go_simp
               exact hK _ _ (HV.out.step rfl (by decide) (fun h=>by omega))
              ·-- operation 17
               cases ho
               have h16:v 16=_:=dep 16 (by kernel_rfl)
               have d1:wx.cell? ⟨sp,1,none⟩=some (.int .i64 s.job):=HV.out.st.cell 1
               simp only [putFrom,Act.put,List.setIfInBounds_toArray,List.set_cons_succ,List.set_cons_zero,h16] at hK ⊢
               go_simp
               exact hK _ _ (HV.out.step rfl (by decide) (fun h=>by omega))
              ·-- operation 18
               cases ho
               simp only [putFrom,Act.put,List.setIfInBounds_toArray,List.set_cons_succ,List.set_cons_zero] at hK ⊢
               go_simp
               exact hK _ _ (HV.out.step rfl (by decide) (fun h=>by omega))
              ·-- operation 19
               cases ho
               have h18:v 18=_:=dep 18 (by kernel_rfl)
               have d3:wx.cell? ⟨sp,3,none⟩=some (.int .i64 s.now):=HV.out.st.cell 3
               simp only [putFrom,Act.put,List.setIfInBounds_toArray,List.set_cons_succ,List.set_cons_zero,h18] at hK ⊢
               go_simp
               exact hK _ _ (HV.out.step rfl (by decide) (fun h=>by omega))
              ·-- operation 20
               cases ho
               have h14:v 14=_:=dep 14 (by kernel_rfl)
               have h15:v 15=_:=dep 15 (by kernel_rfl)
               have h17:v 17=_:=dep 17 (by kernel_rfl)
               have h19:v 19=_:=dep 19 (by kernel_rfl)
               have h11':=HV.out.d 13 (by decide) (dep_listed ha 13 (by kernel_rfl))
               have s2:=HV.out.s2 h11'
               have hT:=hid (agree_ok s2.t.g s2.t.r s.job s.now)
               simp only [putFrom,Act.put,List.setIfInBounds_toArray,List.set_cons_succ,List.set_cons_zero,h14,h15,h17,h19] at hK ⊢
               go_simp
               refine (hT.out).mono ?_
               rintro e_ w_ ⟨rfl,hb⟩
               exact hK _ _ (HV.out.calm h11' (by decide) rfl hb (fun h=>h.below hb) (fun x h=>h.below hb) (fun h=>by omega))
              ·-- operation 21
               cases ho
               have h20:v 20=_:=dep 20 (by kernel_rfl)
               simp only [putFrom,Act.put,List.setIfInBounds_toArray,List.set_cons_succ,List.set_cons_zero,h20] at hK ⊢
               go_simp
               exact hK _ _ (HV.out.step rfl (by decide) (fun h=>by omega))
              ·-- operation 22
               cases ho
               have h13:v 13=_:=dep 13 (by kernel_rfl)
               have h21:v 21=_:=dep 21 (by kernel_rfl)
               simp only [putFrom,Act.put,List.setIfInBounds_toArray,List.set_cons_succ,List.set_cons_zero,h13,h21] at hK ⊢
               go_simp
               exact hK _ _ (HV.out.step rfl (by decide) (fun _=>HV.out.d 13 (by decide) (dep_listed ha 13 (by kernel_rfl))))
              ·-- operation 23
               cases ho
               have h22:v 22=_:=dep 22 (by kernel_rfl)
               simp only [putFrom,Act.put,List.setIfInBounds_toArray,List.set_cons_succ,List.set_cons_zero,h22] at hK ⊢
               go_simp
               exact hK _ _ (HV.out.step rfl (by decide) (fun _=>HV.out.d 22 (by decide) (dep_listed ha 22 (by kernel_rfl))))
              ·-- operation 24
               cases ho
               simp only [putFrom,Act.put,List.setIfInBounds_toArray,List.set_cons_succ,List.set_cons_zero] at hK ⊢
               go_simp
               exact hK _ _ (HV.out.step rfl (by decide) (fun h=>by omega))
              ·-- operation 25
               cases ho
               have h24:v 24=_:=dep 24 (by kernel_rfl)
               have h11':=HV.out.d 23 (by decide) (dep_listed ha 23 (by kernel_rfl))
               have s2:=HV.out.s2 h11'
               have hT:=hid (gall_ok s2.t.g)
               simp only [putFrom,Act.put,List.setIfInBounds_toArray,List.set_cons_succ,List.set_cons_zero,h24] at hK ⊢
               go_simp
               refine (hT.out).mono ?_
               rintro e_ w_ ⟨⟨u,rfl,hs⟩,hb⟩
               exact hK _ _ (HV.out.calm h11' (by decide) trivial hb (fun h=>h.below hb) (fun x h=>h.below hb) (fun _=>hs.read))
              ·-- operation 26
               cases ho
               simp only [putFrom,Act.put,List.setIfInBounds_toArray,List.set_cons_succ,List.set_cons_zero] at hK ⊢
               go_simp
               exact hK _ _ (HV.out.step rfl (by decide) (fun h=>by omega))
              ·-- operation 27
               cases ho
               have h26:v 26=_:=dep 26 (by kernel_rfl)
               have h11':=(HV.out.c25 (dep_listed ha 25 (by kernel_rfl))).2
               have s2:=HV.out.s2 h11'
               have hT:=hid (rgall_ok s2.t.r)
               simp only [putFrom,Act.put,List.setIfInBounds_toArray,List.set_cons_succ,List.set_cons_zero,h26] at hK ⊢
               go_simp
               refine (hT.out).mono ?_
               rintro e_ w_ ⟨⟨u,rfl,hs⟩,hb⟩
               exact hK _ _ (HV.out.calm h11' (by decide) trivial hb (fun h=>h.below hb) (fun x h=>h.below hb) (fun _=>hs))
              ·-- operation 28
               cases ho
               have h25:=HV.out.c25 (dep_listed ha 25 (by kernel_rfl))
               have h27:=HV.out.c27 (dep_listed ha 27 (by kernel_rfl))
               have h11':=h25.2
               have s2:=HV.out.s2 h11'
               have hT:=hid (same_ok wx h25.1 h27.1 (gt_lens s2.t.g))
               simp only [putFrom,Act.put,List.setIfInBounds_toArray,List.set_cons_succ,List.set_cons_zero] at hK ⊢
               go_simp
               refine (hT.out).mono ?_
               rintro e_ w_ ⟨rfl,hb⟩
               exact hK _ _ (HV.out.calm h11' (by decide) rfl hb (fun h=>h.below hb) (fun x h=>h.below hb) (fun h=>by omega))
              ·-- operation 29
               cases ho
               have h28:v 28=_:=dep 28 (by kernel_rfl)
               simp only [putFrom,Act.put,List.setIfInBounds_toArray,List.set_cons_succ,List.set_cons_zero,h28] at hK ⊢
               go_simp
               exact hK _ _ (HV.out.step rfl (by decide) (fun h=>by omega))
              ·-- operation 30
               cases ho
               have h23:v 23=_:=dep 23 (by kernel_rfl)
               have h29:v 29=_:=dep 29 (by kernel_rfl)
               simp only [putFrom,Act.put,List.setIfInBounds_toArray,List.set_cons_succ,List.set_cons_zero,h23,h29] at hK ⊢
               go_simp
               exact hK _ _ (HV.out.step rfl (by decide) (fun h=>by omega))
             ·intro v listed w9 hall hR
              have h30:=hR.pl 30 (hall 30 (by decide))
              replace h30:v 30=.bool false:=h30
              have J2:=hid (hR.s2 (hall 11 (by decide)))
              clear hR hall
              simp only [putFrom,Act.put,List.setIfInBounds_toArray,List.set_cons_succ,List.set_cons_zero,Nat.zero_add,Nat.reduceAdd,h30]
              clear h30
              obtain ⟨ev,eq_,x3,he⟩:∃ev er x3,x2.give s.job s.ok s.now=(ev,er,x3):=⟨_,_,_,rfl⟩
              have HE2:=hid he
              clear he
              have d1:w9.cell? ⟨sp,1,none⟩=some (.int .i64 s.job):=J2.out.st.cell 1
              have d2:w9.cell? ⟨sp,2,none⟩=some (.bool s.ok):=J2.out.st.cell 2
              have d3:w9.cell? ⟨sp,3,none⟩=some (.int .i64 s.now):=J2.out.st.cell 3
              have T:=hid (pl_give J2.out s.job s.ok s.now HE2.out)
              go_wp2_with fail
              refine (T.out).mono ?_
              rintro e_ X2 ⟨rfl,h⟩
              have J3:=hid h
              clear h T d1 d2 d3 J2
              have d1:X2.cell? ⟨sp,1,none⟩=some (.int .i64 s.job):=J3.out.st.cell 1
              have d2:X2.cell? ⟨sp,2,none⟩=some (.bool s.ok):=J3.out.st.cell 2
              have d3:X2.cell? ⟨sp,3,none⟩=some (.int .i64 s.now):=J3.out.st.cell 3
              have T:=hid (pl_rgive J3.out s.job s.ok s.now HE2.out)
              go_wp2_with fail
              refine (T.out).mono ?_
              rintro e_ X3 ⟨rfl,h⟩
              have J4:=hid h
              clear h T d1 d2 d3 J3
              go_wp2_with fail
              refine ⟨⟨k+1,by omega,by go_num,x3,J4.out.t⟩,?_⟩
              simp [intA];omega
            ·obtain rfl:k=mm:=by omega
             have T:=hid (gall_ok J0.out.g)
             go_wp2_with fail
             refine (T.out).mono ?_
             rintro e_ X5 ⟨⟨v1,rfl,hs⟩,hb⟩
             have J5:=hid (J0.out.below hb)
             have S1:=hid hs.read
             clear hb hs T J0
             have T:=hid (rgall_ok J5.out.r)
             go_wp2_with fail
             refine (T.out).mono ?_
             rintro e_ X6 ⟨⟨v2,rfl,hs⟩,hb⟩
             have J6:=hid (J5.out.below hb)
             have S2:=hid (S1.out.below hb)
             have S3:=hid hs
             have T2:=hid (same_ok X6 S2.out S3.out (gt_lens J6.out.g))
             clear hb hs T J5 S1 S2 S3
             go_wp2_with fail
             refine (T2.out).mono ?_
             rintro e_ X7 ⟨rfl,hb⟩
             have J7:=hid (J6.out.bel.trans (hb.mono J6.out.bel.size))
             clear hb T2 J6
             have T:=hid (CW.out X7 J7.out)
             go_wp2_with fail
             refine (T.out).mono ?_
             rintro e_ X9 ⟨rfl,hb⟩
             have HB9:=hid (J7.out.trans (hb.mono J7.out.size))
             clear hb T
             go_wp2_with fail
             go_ret
             exact ⟨rfl,HB9.out⟩
end Go.Proofs.YtpgckpafjiojfaaGreatDoor.AD
