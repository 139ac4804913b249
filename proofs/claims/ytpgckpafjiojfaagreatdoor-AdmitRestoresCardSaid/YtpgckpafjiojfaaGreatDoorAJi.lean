/- Contract of admit's Restore. -/
import Derived.Test.YtpgckpafjiojfaaGreatDoorAJh
open Go.Lib (hid)
set_option maxRecDepth 16000
set_option maxHeartbeats 40000000
namespace Go.Proofs.YtpgckpafjiojfaaGreatDoor.AD
open Go Go.RowKit BW
open BK (Bx BoxAt Blk only_refl only_drew only_drewN only_setCell only_trans only_of_below only_alloc below_drewN)
def Q8(gp cb sb tb tf:Nat)(sl:Value)(t tau t0 now:Int)(i:Nat)(v:Value):Prop:=match i with
 | 0=>v=.pointer (some ⟨gp,0,none⟩)
 | 1=>v=.pointer (some ⟨cb,0,none⟩)
 | 2=>v=.pointer (some ⟨cb,5,none⟩)
 | 3=>v=.agg #[.int .i64 t,.int .i64 tau]
 | 4=>v=.pointer (some ⟨sb,1,none⟩)
 | 5=>v=sl
 | 6=>v=.pointer (some ⟨tb,tf,none⟩)
 | 7=>v=.int .i64 t0
 | 8=>v=.int .i64 now
 | 13=>v=.pointer (some ⟨gp,0,none⟩)
 | 14=>v=.pointer (some ⟨gp,2,none⟩)
 | _=>True
def Q15(db k jb sb tb tf:Nat)(sl:Value)(t tau t0 now:Int)(i:Nat)(v:Value):Prop:=match i with
 | 0=>v=.pointer (some ⟨db,k*2,none⟩)
 | 1=>v=.pointer (some ⟨jb,15,none⟩)
 | 2=>v=.pointer (some ⟨jb,21,none⟩)
 | 3=>v=.agg #[.int .i64 t,.int .i64 tau]
 | 4=>v=.pointer (some ⟨sb,1,none⟩)
 | 5=>v=sl
 | 6=>v=.int .i64 k
 | 7=>v=.int .i64 ((k:Int)+1)
 | 8=>v=.pointer (some ⟨tb,tf,none⟩)
 | 9=>v=.int .i64 t0
 | 10=>v=.int .i64 now
 | 15=>v=.pointer (some ⟨db,k*2,none⟩)
 | 16=>v=.pointer (some ⟨db,k*2,none⟩)
 | _=>True
theorem grest_ok(G:Gl)(LL:JL)(ja:Option Addr)(N jc:Nat)(a1 a2 a3:Option Addr)(rn q1 tn q2 bn q3:Nat)(rs ts:List Int)(bs:List BxQ)(now:Int)(w:World)(hLN:LL.length=N)(hA:CArg w ⟨G,ja,N,jc⟩ LL)(hrn:rs.length=rn)(htn:ts.length=tn)(hbn:bs.length=bn)(h1:Row1 w a1 rs)(h2:Row1 w a2 ts)(h3:Row4 w a3 bs) :
 Calls Tryz.prog 35 #[.agg #[.int .i64 G.cap,.int .i64 G.q,.int .i64 G.ar,.int .i64 G.ag,.int .u64 G.sd,.int .i64 G.t,.int .i64 G.tau,.slice ja N jc],.agg #[.slice a1 rn q1,.slice a2 tn q2,.slice a3 bn q3],.int .i64 now] w (ResGt w (rsR G LL rs ts bs now)):=by
 have HL:=hid hLN
 have HA:=hid (fun W (hb:Below w.heap.size w W)=>hA.below hb)
 have HR1:=hid (fun W (hb:Below w.heap.size w W)=>Row1.below h1 hb)
 have HR2:=hid (fun W (hb:Below w.heap.size w W)=>Row1.below h2 hb)
 have HR3:=hid (fun W (hb:Below w.heap.size w W)=>Row4.below h3 hb)
 have HRN:=hid (And.intro hrn (And.intro htn hbn))
 have HN9:Hid (N≤200):=hid hA.n9
 obtain ⟨W0,hW0⟩:∃W0,W0=(w.alloc (.cells #[.int .i64 G.cap,.int .i64 G.q,.int .i64 G.ar,.int .i64 G.ag,.int .u64 G.sd,.int .i64 G.t,.int .i64 G.tau,.slice ja N jc] 31)).alloc (.cells #[.slice a1 rn q1,.slice a2 tn q2,.slice a3 bn q3] 91):=⟨_,rfl⟩
 have hb0:Below w.heap.size w W0:=by rw [hW0];exact two_boxes w _ _
 have C0:Hid (Blk W0 w.heap.size 31 #[.int .i64 G.cap,.int .i64 G.q,.int .i64 G.ar,.int .i64 G.ag,.int .u64 G.sd,.int .i64 G.t,.int .i64 G.tau,.slice ja N jc]):=hid (by rw [hW0];exact (Blk.new _ _ _).alloc _)
 have S0:Hid (Blk W0 (w.heap.size+1) 91 #[.slice a1 rn q1,.slice a2 tn q2,.slice a3 bn q3]):=hid (by rw [hW0];exact blk_newAt (by simp))
 have B0:=hid hb0
 clear hA h1 h2 h3 hrn htn hbn hLN
 go_enter Tryz.func35,Tryz.ntmps35
 go_upto_region 1 with fail
 rw [←hW0]
 clear hW0
 obtain ⟨cb,hcb⟩:∃cb,cb=w.heap.size:=⟨_,rfl⟩
 obtain ⟨sb,hsb⟩:∃sb,sb=w.heap.size+1:=⟨_,rfl⟩
 have HCS:Hid (w.heap.size≤cb∧w.heap.size≤sb):=hid (by omega)
 rw [←hsb] at S0 ⊢
 rw [←hcb] at C0 ⊢
 clear hcb hsb
 have k0:W0.cell? ⟨cb,0,none⟩=some (.int .i64 G.cap):=C0.out.cell 0
 have k1:W0.cell? ⟨cb,1,none⟩=some (.int .i64 G.q):=C0.out.cell 1
 have k2:W0.cell? ⟨cb,2,none⟩=some (.int .i64 G.ar):=C0.out.cell 2
 have k3:W0.cell? ⟨cb,3,none⟩=some (.int .i64 G.ag):=C0.out.cell 3
 have k4:W0.cell? ⟨cb,4,none⟩=some (.int .u64 G.sd):=C0.out.cell 4
 have k5:W0.cell? ⟨cb,5,none⟩=some (.int .i64 G.t):=C0.out.cell 5
 have k6:W0.cell? ⟨cb,6,none⟩=some (.int .i64 G.tau):=C0.out.cell 6
 have k7:W0.cell? ⟨cb,7,none⟩=some (.slice ja N jc):=C0.out.cell 7
 by_cases hE:cfE G LL=0
 case neg =>
  have NW:=hid (gnew_no ⟨G,ja,N,jc⟩ LL W0 (HA.out W0 B0.out) hE)
  have HE:=hid hE
  obtain ⟨e,he⟩:∃e,cfE G LL=e:=⟨_,rfl⟩
  have qe:(e==0)=false:=by rw [beq_eq_false_iff_ne,←he];exact hE
  have qe2:(e != 0)=true:=by rw [bne,qe];rfl
  have HEE:=hid he
  simp only [he] at NW
  clear he hE hb0
  go_wp2_with fail
  refine (NW.out).mono ?_
  rintro e_ w1 ⟨rfl,hb⟩
  have HB:=hid (B0.out.trans (hb.mono B0.out.size))
  clear hb NW
  go_wp2_with fail
  go_ret2
  rw [←HEE.out]
  exact res_cf HE.out HB.out
 have HC:=hid (cfE_zero.1 hE)
 have HCE:=hid hE
 have NW:=hid (gnew_yes ⟨G,ja,N,jc⟩ LL W0 (HA.out W0 B0.out) HC.out)
 clear hE hb0
 go_wp2_with fail
 refine (NW.out).mono ?_
 rintro e_ w2 ⟨Y,rfl,hg,hs,hb⟩
 have I2:Hid (ReI w cb sb Y.g N #[.int .i64 G.cap,.int .i64 G.q,.int .i64 G.ar,.int .i64 G.ag,.int .u64 G.sd,.int .i64 G.t,.int .i64 G.tau,.slice ja N jc] #[.slice a1 rn q1,.slice a2 tn q2,.slice a3 bn q3] Y (g0 G LL) w2):=hid ⟨hg,by unfold g0;simp [HL.out],rfl,fun i hi=>Nat.le_trans B0.out.size (hs i (by rw [HL.out];exact hi)),C0.out.below hb C0.out.lt,S0.out.below hb S0.out.lt,B0.out.trans (hb.mono B0.out.size)⟩
 clear hg hs hb NW C0 S0 B0 k0 k1 k2 k3 k4 k5 k6 k7
 obtain ⟨gp,hgp⟩:∃gp,Y.g=gp:=⟨_,rfl⟩
 rw [hgp] at I2 ⊢
 clear hgp
 cases htm:timeB now
 case false =>
  have HTM:=hid htm
  by_cases hn0:now<0
  ·have qa1:decide (now<0)=true:=decide_eq_true hn0
   clear htm
   go_wp2_with fail
   go_ret2
   exact res_time HCE.out HTM.out I2.out.bel
  ·have qa1:decide (now<0)=false:=decide_eq_false hn0
   have qa2:decide (253402300799<now)=true:=decide_eq_true (by
    rcases Int.lt_or_le 253402300799 now with h|h
    ·exact h
    ·have:=timeB_iff.2 (show 0≤now∧now≤253402300799 by omega)
     rw [htm] at this
     cases this)
   clear htm
   go_wp2_with fail
   go_ret2
   exact res_time HCE.out HTM.out I2.out.bel
 have HTM:=hid htm
 have htb:=timeB_iff.1 htm
 clear htm
 have qa1:decide (now<0)=false:=decide_eq_false (by omega)
 have qa2:decide (253402300799<now)=false:=decide_eq_false (by omega)
 have k7:w2.cell? ⟨cb,7,none⟩=some (.slice ja N jc):=I2.out.c.cell 7
 have s0:w2.cell? ⟨sb,0,none⟩=some (.slice a1 rn q1):=I2.out.s.cell 0
 have s1:w2.cell? ⟨sb,1,none⟩=some (.slice a2 tn q2):=I2.out.s.cell 1
 have s2:w2.cell? ⟨sb,2,none⟩=some (.slice a3 bn q3):=I2.out.s.cell 2
 have hN9:N≤200:=HN9.out
 have hwn:IntKind.i64.wrap ((N:Int)+1)=(N:Int)+1:=IntWalk.i64_in _ (by omega)
 by_cases hr:rn=N
 case neg =>
  have e1:((rn:Int)==(N:Int))=false:=by rw [beq_eq_false_iff_ne];omega
  have e2:((rn:Int) != (N:Int))=true:=by rw [bne,e1];rfl
  go_wp2_with fail
  go_ret2
  exact res_no HCE.out HTM.out (rsG_len (.inl (by rw [HRN.out.1,HL.out];exact hr))) I2.out.bel
 subst hr
 by_cases hbN:bn=rn
 case neg =>
  have e1:((bn:Int)==(rn:Int))=false:=by rw [beq_eq_false_iff_ne];omega
  have e2:((bn:Int) != (rn:Int))=true:=by rw [bne,e1];rfl
  go_wp2_with fail
  go_ret2
  exact res_no HCE.out HTM.out (rsG_len (.inr (.inl (by rw [List.length_map,HRN.out.2.2,HL.out];exact hbN)))) I2.out.bel
 subst hbN
 by_cases htN:tn=bn+1
 case neg =>
  have e1:((tn:Int)==(bn:Int)+1)=false:=by rw [beq_eq_false_iff_ne];omega
  have e2:((tn:Int) != (bn:Int)+1)=true:=by rw [bne,e1];rfl
  go_wp2_with fail
  go_ret2
  exact res_no HCE.out HTM.out (rsG_len (.inr (.inr (by rw [HRN.out.2.1,HL.out];exact htN)))) I2.out.bel
 subst htN
 obtain ⟨N,hNN⟩:∃N,N=bn:=⟨_,rfl⟩
 subst hNN
 go_upto_region 8 with fail
 clear k7 s0 s1 s2 qa1 qa2 hwn
 obtain ⟨t0,ht0⟩:∃t0,ts[0]? = some t0:=⟨_,List.getElem?_eq_getElem (by have:=HRN.out.2.1;omega)⟩
 have HT00:Hid (ts.getD 0 0=t0):=hid (by rw [List.getD_eq_getElem?_getD,ht0];rfl)
 obtain ⟨tb,tf,rfl,-⟩:=HR2.out w (Below.refl _ _) 0 (List.getElem?_eq_some_iff.1 ht0).1
 have HT:Hid (∀wx,Below w.heap.size w wx→wx.cell? ⟨tb,tf,none⟩=some (.int .i64 t0)):=hid (fun wx hb=>by
  obtain ⟨b,o,e,h⟩:=HR2.out wx hb 0 (List.getElem?_eq_some_iff.1 ht0).1
  injection e with e
  injection e with e1 e2
  rw [(List.getElem?_eq_some_iff.1 ht0).2] at h
  rw [e1,e2]
  exact h)
 clear ht0
 obtain ⟨⟨ol,er⟩,hlr⟩:∃r,lmR G.t G.tau t0 now=r:=⟨_,rfl⟩
 have hgl:=(glB_parts HC.out.gl).2
 have HER:Hid (ol=none→er≠0):=hid (fun h=>by have:=lmR_no (t:=G.t) (tau:=G.tau) (tat:=t0) (now:=now) (by rw [hlr];exact h);rw [hlr] at this;exact this)
 have HLI:Hid (∀l,ol=some l→l.Inv∧er=0):=hid (fun l h=>by have:=lmR_inv (t:=G.t) (tau:=G.tau) (tat:=t0) (now:=now) hgl (x:=l) (by rw [hlr];exact h);rw [hlr] at this;exact this)
 have HLR2:Hid ((lmR G.t G.tau t0 now).1=ol):=hid (by rw [hlr])
 have HLR:Hid (∀wx:World,w2.heap.size≤wx.heap.size→Calls Tryz.prog 91 #[.agg #[.int .i64 G.t,.int .i64 G.tau],.int .i64 t0,.int .i64 now] wx fun e w'=>∃pv,e=.returned (.tuple #[pv,.int .i64 er])∧Below wx.heap.size wx w'∧LmV w' w2 ol pv):=hid (fun wx hz=>by have:=lr_ok (t:=G.t) (tau:=G.tau) (tat:=t0) (now:=now) hgl hz;rw [hlr] at this;exact this)
 clear hlr hgl
 have HNE:Hid (cb≠gp∧sb≠gp):=hid ⟨by rw [←I2.out.gp];exact blk_ne I2.out.c I2.out.g.gate (by decide),by rw [←I2.out.gp];exact blk_ne I2.out.s I2.out.g.gate (by decide)⟩
 have HGW:Hid (w.heap.size≤gp):=hid (by rw [←I2.out.gp];exact I2.out.sup _ (.inl (.inl rfl)))
 have HG0:Hid (Blk w2 gp 118 (Y.cells (g0 G LL))):=hid (by rw [←I2.out.gp];exact I2.out.g.gate)
 have HT0:Hid ((Y.cells (g0 G LL))[2]? = some (.pointer (some ⟨Y.lm,0,none⟩))):=hid rfl
 have HB0:=hid I2.out.bel
 refine wp_region_put (R:=RS 9 w w2 gp 118 (Y.cells (g0 G LL)) 2 er ol (Q8 gp cb sb tb tf (.slice (some ⟨tb,tf,none⟩) (N+1) q2) G.t G.tau t0 now)) (by kernel_rfl) (by kernel_rfl) (by kernel_rfl) (by kernel_rfl) ?_ ?_ ?_
 ·intro v
  exact ⟨fun i hi=>(rep_not hi).elim,fun hz=>(rep_not hz).elim,fun hz=>(rep_not hz).elim,fun hz=>(rep_not hz).elim,fun hz=>(rep_not hz).elim,fun hz=>(rep_not hz).elim,fun _=>HG0.out.drew,fun hz=>(rep_not hz).elim,fun hz=>(rep_not hz).elim,fun b _ _=>rfl,Nat.le_refl _,HB0.out.drew⟩
 ·intro Q' K_ listed v wx i o hsz ho hli ha hR hK
  have HV:=hid hR
  have dep:=fun d hd=>hR.pl d (dep_listed ha d hd)
  have hi:i<17:=(List.getElem?_eq_some_iff.1 ho).1
  clear hR hsz
  obtain rfl|rfl|rfl|rfl|rfl|rfl|rfl|rfl|rfl|rfl|rfl|rfl|rfl|rfl|rfl|rfl|rfl:i=0∨i=1∨i=2∨i=3∨i=4∨i=5∨i=6∨i=7∨i=8∨i=9∨i=10∨i=11∨i=12∨i=13∨i=14∨i=15∨i=16:=by omega
  ·-- operation 0
   cases ho
   simp only [pq] at hK ⊢
   go_simp
   exact hK _ _ (HV.out.plain (by decide) rfl)
  ·-- operation 1
   cases ho
   simp only [pq] at hK ⊢
   go_simp
   exact hK _ _ (HV.out.plain (by decide) rfl)
  ·-- operation 2
   cases ho
   have h1:v 1=_:=dep 1 (by kernel_rfl)
   simp only [pq,h1] at hK ⊢
   go_simp
   exact hK _ _ (HV.out.plain (by decide) rfl)
  ·-- operation 3
   cases ho
   have h2:v 2=_:=dep 2 (by kernel_rfl)
   have k5:wx.cell? ⟨cb,5,none⟩=some (.int .i64 G.t):=(HV.out.blk I2.out.c HNE.out.1).cell 5
   have k6:wx.cell? ⟨cb,6,none⟩=some (.int .i64 G.tau):=(HV.out.blk I2.out.c HNE.out.1).cell 6
   simp only [pq,h2] at hK ⊢
   go_simp
   exact hK _ _ (HV.out.plain (by decide) rfl)
  ·-- operation 4
   cases ho
   simp only [pq] at hK ⊢
   go_simp
   exact hK _ _ (HV.out.plain (by decide) rfl)
  ·-- operation 5
   cases ho
   have h4:v 4=_:=dep 4 (by kernel_rfl)
   have s1:wx.cell? ⟨sb,1,none⟩=some (.slice (some ⟨tb,tf,none⟩) (N+1) q2):=(HV.out.blk I2.out.s HNE.out.2).cell 1
   simp only [pq,h4] at hK ⊢
   go_simp
   exact hK _ _ (HV.out.plain (by decide) rfl)
  ·-- operation 6
   cases ho
   have h5:v 5=_:=dep 5 (by kernel_rfl)
   simp only [pq,h5] at hK ⊢
   go_simp
   exact hK _ _ (HV.out.plain (by decide) rfl)
  ·-- operation 7
   cases ho
   have h6:v 6=_:=dep 6 (by kernel_rfl)
   have hc:=HT.out wx HV.out.bel
   simp only [pq,h6] at hK ⊢
   go_simp
   exact hK _ _ (HV.out.plain (by decide) rfl)
  ·-- operation 8
   cases ho
   simp only [pq] at hK ⊢
   go_simp
   exact hK _ _ (HV.out.plain (by decide) rfl)
  ·-- operation 9
   cases ho
   have h3:v 3=_:=dep 3 (by kernel_rfl)
   have h7:v 7=_:=dep 7 (by kernel_rfl)
   have h8:v 8=_:=dep 8 (by kernel_rfl)
   have CP:=HLR.out wx HV.out.sz
   simp only [pq,h3,h7,h8] at hK ⊢
   go_simp
   refine CP.mono ?_
   rintro _ w5 ⟨pv,rfl,hb,hlm⟩
   exact hK _ _ (HV.out.call hli (fun _=>trivial) hb hlm (fun hz=>(HV.out.st0 hz).below hb (HV.out.st0 hz).lt) (fun b h1 _=>hb.block b (Nat.lt_of_lt_of_le h1 HV.out.sz)))
  ·-- operation 10
   cases ho
   simp only [pq] at hK ⊢
   go_simp
   exact hK _ _ (HV.out.move (fun _=>trivial) (dep_listed ha 9 (by kernel_rfl)))
  ·-- operation 11
   cases ho
   have h10:=(HV.out.mv (dep_listed ha 10 (by kernel_rfl))).1.trans (HV.out.tup (HV.out.mv (dep_listed ha 10 (by kernel_rfl))).2)
   replace h10:v 10=.tuple #[tupA (v 9),.int .i64 er]:=h10
   simp only [pq,h10] at hK ⊢
   go_simp
   exact hK _ _ (HV.out.first (fun _=>trivial) (dep_listed ha 10 (by kernel_rfl)))
  ·-- operation 12
   cases ho
   have h10:=(HV.out.mv (dep_listed ha 10 (by kernel_rfl))).1.trans (HV.out.tup (HV.out.mv (dep_listed ha 10 (by kernel_rfl))).2)
   replace h10:v 10=.tuple #[tupA (v 9),.int .i64 er]:=h10
   simp only [pq,h10] at hK ⊢
   go_simp
   exact hK _ _ (HV.out.second (fun _=>trivial))
  ·-- operation 13
   cases ho
   have h0:v 0=_:=dep 0 (by kernel_rfl)
   simp only [pq,h0] at hK ⊢
   go_simp
   exact hK _ _ (HV.out.plain (by decide) rfl)
  ·-- operation 14
   cases ho
   have h13:v 13=_:=dep 13 (by kernel_rfl)
   simp only [pq,h13] at hK ⊢
   go_simp
   exact hK _ _ (HV.out.plain (by decide) rfl)
  ·-- operation 15
   cases ho
   have h14:v 14=_:=dep 14 (by kernel_rfl)
   have hpv:=lmV_ptr (HV.out.lm (HV.out.mv (HV.out.ex0 (dep_listed ha 11 (by kernel_rfl))).2).2)
   have h11:=(HV.out.ex0 (dep_listed ha 11 (by kernel_rfl))).1
   generalize ptrO (tupA (v 9))=po at hpv
   replace h11:v 11=.pointer po:=h11.trans hpv
   have HPV:=hid hpv
   have hB:=HV.out.st0 hli
   have cT:=hB.cell 2
   have fT:=hB.frozen 2
   rw [HT0.out] at cT
   clear hpv hB
   simp only [pq,h14,h11] at hK ⊢
   go_simp
   refine hK undef _ ?_
   have hh:=HV.out.store (fun _=>trivial) hli (dep_listed ha 11 (by kernel_rfl)) HGW.out (by decide)
   rw [HPV.out] at hh
   exact hh
  ·-- operation 16
   cases ho
   have h12:=HV.out.ex1 (dep_listed ha 12 (by kernel_rfl))
   replace h12:v 12=.int .i64 er:=h12
   simp only [pq,h12] at hK ⊢
   go_simp
   exact hK _ _ (HV.out.keepE (fun _=>trivial))
 ·intro v listed w9 hall hR
  have h16:=hR.asg (hall 16 (by decide))
  replace h16:v 16=.int .i64 er:=h16
  have hst:=(hR.st1 (hall 15 (by decide))).1
  have hlm:=hR.lm (hall 9 (by decide))
  have HST:=hid hst
  have HLM:=hid hlm
  have HKP:=hid hR.keep
  have HB9:=hid hR.bel
  clear hR hst hlm
  generalize tupA (v 9)=rp at HST HLM
  simp only [pq,h16,Nat.zero_add,Nat.reduceAdd]
  clear h16 hall
  generalize v 0=v0
  generalize v 1=v1
  generalize v 2=v2
  generalize v 3=v3
  generalize v 4=v4
  generalize v 5=v5
  generalize v 6=v6
  generalize v 7=v7
  generalize v 8=v8
  generalize v 9=v9
  generalize v 10=v10
  generalize v 11=v11
  generalize v 12=v12
  generalize v 13=v13
  generalize v 14=v14
  clear v
  cases hol:ol
  ·have her:er≠0:=by
    have:=HER.out
    rw [hol] at this
    exact this rfl
   have qe:(er==0)=false:=by rw [beq_eq_false_iff_ne];exact her
   have qe2:(er != 0)=true:=by rw [bne,qe];rfl
   go_wp2_with fail
   go_ret2
   exact res_no HCE.out HTM.out (rsG_both (by rw [HT00.out,HLR2.out,hol])) HB9.out
  ·rename_i l
   subst hol
   have hli:=HLI.out _ rfl
   obtain rfl:er=0:=hli.2
   have I9:=hid (I2.out.both hli.1 HLM.out (by rw [I2.out.gp];exact HKP.out) (by rw [I2.out.gp];exact HST.out) HB9.out)
   clear HLM HST HKP hli I2 HG0 HB0 HLR HER HLI
   have HAL:=HLR2.out
   obtain ⟨tf0,htf0⟩:∃x,x=tf:=⟨_,rfl⟩
   clear htf0 tf0 HAL HGW HNE HT0 HT
   have k7:w9.cell? ⟨cb,7,none⟩=some (.slice ja N jc):=I9.out.c.cell 7
   have J0:Hid (∃js Y,rsL LL rs ts (bs.map bsT) now 0=some js∧sumR js≤G.cap∧ReI w cb sb gp N #[.int .i64 G.cap,.int .i64 G.q,.int .i64 G.ar,.int .i64 G.ag,.int .u64 G.sd,.int .i64 G.t,.int .i64 G.tau,.slice ja N jc] #[.slice a1 N q1,.slice (some ⟨tb,tf,none⟩) (N+1) q2,.slice a3 N q3] Y ⟨G.cap,l,js++(LL.drop 0).map jt0,0⟩ w9):=hid ⟨[],_,rfl,(by have:=(glB_parts HC.out.gl).1;show (0:Int)≤G.cap;omega),I9.out⟩
   clear I9
   go_wp2_with fail
   go_loopw [76] (fun s76 wr=>∃k:Nat,k≤N∧s76=.int .i64 k∧∃js Y,rsL LL rs ts (bs.map bsT) now k=some js∧sumR js≤G.cap∧ReI w cb sb gp N #[.int .i64 G.cap,.int .i64 G.q,.int .i64 G.ar,.int .i64 G.ag,.int .u64 G.sd,.int .i64 G.t,.int .i64 G.tau,.slice ja N jc] #[.slice a1 N q1,.slice (some ⟨tb,tf,none⟩) (N+1) q2,.slice a3 N q3] Y ⟨G.cap,l,js++(LL.drop k).map jt0,0⟩ wr) (fun s76 _=>N - intA s76)
   case atStart=>exact ⟨0,Nat.zero_le _,rfl,J0.out⟩
   case round =>
    obtain ⟨k,hk,rfl,js,Y2,hjs,hsum,hI⟩:=hrel
    have HI:=hid hI
    have HJS:=hid hjs
    have HSU:=hid hsum
    clear hI hjs hsum J0 k7
    rcases Nat.lt_or_ge k N with hlt|hge
    ·obtain ⟨⟨j,pl⟩,hjl⟩:∃x,LL[k]? = some x:=⟨_,List.getElem?_eq_getElem (by rw [HL.out];exact hlt)⟩
     have HJL:=hid hjl
     obtain ⟨jb_,joff,hca,hcl,-⟩:=(HA.out wr HI.out.bel).in_.at_ k (List.getElem?_eq_some_iff.1 hjl).1
     rw [(List.getElem?_eq_some_iff.1 hjl).2] at hcl
     have hca:ja=some ⟨jb_,joff,none⟩:=hca
     rw [hca]
     have HCA:=hid hca
     have LJ:=hid (jb_load hcl)
     have STJ:=hid (jb_store wr j)
     have hok:=okJ_parts (by have:=HC.out.all k (List.getElem?_eq_some_iff.1 hjl).1;rwa [(List.getElem?_eq_some_iff.1 hjl).2] at this)
     have HOK:=hid hok
     have hn9:N≤200:=HN9.out
     obtain ⟨db,ds,hda,hdb,hdc⟩:=HI.out.g.door (by rw [HI.out.n];omega)
     obtain ⟨hd0,hd1⟩:=hdc k (by rw [HI.out.n];exact hlt)
     have HDA:=hid hda
     have HDS:=hid hdb
     have HD0:=hid hd0
     clear hcl hok hjl hdc hdb hd0 hd1
     go_upto_region 14 with (first|(refine wpList_load_by rfl 57 _ rfl jb_ (joff+k*30) (.agg (jbV j)) rfl LJ.out ?_)|(refine wpList_store_by rfl 57 _ _ rfl wr.heap.size 0 (.agg (jbV j)) _ rfl rfl STJ.out ?_))
     obtain ⟨W5,hW5⟩:∃W5,W5=wr.alloc (.cells (jbV j) 57):=⟨_,rfl⟩
     have J5:Hid (Blk W5 wr.heap.size 57 (jbV j)):=hid (by rw [hW5];exact Blk.new wr _ _)
     have B5:Hid (Below wr.heap.size wr W5):=hid (by rw [hW5];exact (Below.refl _ _).alloc (Nat.le_refl _) _)
     have I5:=hid (HI.out.next B5.out)
     have D5:=hid (HDS.out.below B5.out HDS.out.lt)
     rw [←hW5]
     clear hW5 LJ STJ hca HI HDS B5
     generalize wr.heap.size=jb at *
     have c3:W5.cell? ⟨gp,3,none⟩=some (.slice (some ⟨db,0,none⟩) N Y2.dc):=by
      have h:=I5.out.g.gate.cell 3
      rw [I5.out.gp] at h
      rw [h]
      show some (Value.slice Y2.da _ Y2.dc)=_
      rw [hda,I5.out.n]
     clear hda
     go_upto_region 15 with fail
     clear c3
     obtain ⟨tk,htk⟩:∃tk,ts[k+1]? = some tk:=⟨_,List.getElem?_eq_getElem (by have:=HRN.out.2.1;omega)⟩
     have HTK:=hid htk
     obtain ⟨r,hrk⟩:∃r,rs[k]? = some r:=⟨_,List.getElem?_eq_getElem (by have:=HRN.out.1;omega)⟩
     obtain ⟨bk,hbk⟩:∃bk,bs[k]? = some bk:=⟨_,List.getElem?_eq_getElem (by have:=HRN.out.2.2;omega)⟩
     obtain ⟨rb,rf,ha1,-⟩:=HR1.out w (Below.refl _ _) k (List.getElem?_eq_some_iff.1 hrk).1
     obtain ⟨xb,xf,ha3,-⟩:=HR3.out w (Below.refl _ _) k (List.getElem?_eq_some_iff.1 hbk).1
     have HRC:Hid (∀wx,Below w.heap.size w wx→wx.cell? ⟨rb,rf+k,none⟩=some (.int .i64 r)):=hid (fun wx hb=>by
      obtain ⟨b,o,e,h⟩:=HR1.out wx hb k (List.getElem?_eq_some_iff.1 hrk).1
      rw [ha1] at e
      injection e with e
      injection e with e1 e2
      rw [(List.getElem?_eq_some_iff.1 hrk).2] at h
      rw [e1,e2]
      exact h)
     have HXC:Hid (∀wx,Below w.heap.size w wx→∀i,i<4→wx.cell? ⟨xb,xf+k*4+i,none⟩=(bxC bk)[i]?):=hid (fun wx hb i hi=>by
      obtain ⟨b,o,e,h⟩:=HR3.out wx hb k (List.getElem?_eq_some_iff.1 hbk).1
      rw [ha3] at e
      injection e with e
      injection e with e1 e2
      rw [(List.getElem?_eq_some_iff.1 hbk).2] at h
      rw [e1,e2]
      exact h i hi)
     have HNXT:Hid (rsL LL rs ts (bs.map bsT) now (k+1)=(rsJ j.y r tk (bsT bk) now).map (js++[·])):=hid (rsL_succ HJS.out HJL.out hrk htk (by rw [List.getElem?_map,hbk];rfl))
     have HNO:Hid (rsJ j.y r tk (bsT bk) now=none→rsL LL rs ts (bs.map bsT) now (k+1)=none):=hid (fun h=>by rw [HNXT.out,h];rfl)
     have HA13:=hid (And.intro ha1 ha3)
     clear hrk hbk ha1 ha3
     have HT:Hid (∀wx,Below w.heap.size w wx→wx.cell? ⟨tb,tf+(k+1),none⟩=some (.int .i64 tk)):=hid (fun wx hb=>by
      obtain ⟨b,o,e,h⟩:=HR2.out wx hb (k+1) (List.getElem?_eq_some_iff.1 htk).1
      injection e with e
      injection e with e1 e2
      rw [(List.getElem?_eq_some_iff.1 htk).2] at h
      rw [e1,e2]
      exact h)
     clear htk
     obtain ⟨⟨ol,er⟩,hlr⟩:∃r,lmR j.y.t j.y.tau tk now=r:=⟨_,rfl⟩
     have HER:Hid (ol=none→er≠0):=hid (fun h=>by have:=lmR_no (t:=j.y.t) (tau:=j.y.tau) (tat:=tk) (now:=now) (by rw [hlr];exact h);rw [hlr] at this;exact this)
     have HLI:Hid (∀l,ol=some l→l.Inv∧er=0):=hid (fun l h=>by have:=lmR_inv (t:=j.y.t) (tau:=j.y.tau) (tat:=tk) (now:=now) HOK.out.2.1 (x:=l) (by rw [hlr];exact h);rw [hlr] at this;exact this)
     have HLR3:Hid ((lmR j.y.t j.y.tau tk now).1=ol):=hid (by rw [hlr])
     have HLR:Hid (∀wx:World,W5.heap.size≤wx.heap.size→Calls Tryz.prog 91 #[.agg #[.int .i64 j.y.t,.int .i64 j.y.tau],.int .i64 tk,.int .i64 now] wx fun e w'=>∃pv,e=.returned (.tuple #[pv,.int .i64 er])∧Below wx.heap.size wx w'∧LmV w' W5 ol pv):=hid (fun wx hz=>by have:=lr_ok (t:=j.y.t) (tau:=j.y.tau) (tat:=tk) (now:=now) HOK.out.2.1 hz;rw [hlr] at this;exact this)
     clear hlr
     have HNE:Hid (jb≠db∧sb≠db):=hid ⟨blk_ne J5.out D5.out (by decide),blk_ne I5.out.s D5.out (by decide)⟩
     have HGW:Hid (w.heap.size≤db):=hid (I5.out.sup _ (.inr (.inl ⟨by omega,0,HDA.out⟩)))
     have HG0:=D5
     have HT0:=HD0
     have HB0:=hid I5.out.bel
     have hwk:IntKind.i64.wrap ((k:Int)+1)=(k:Int)+1:=IntWalk.i64_in _ (by omega)
     refine wp_region_put (R:=RS 11 w W5 db 125 ds (k*2) er ol (Q15 db k jb sb tb (tf+(k+1)) (.slice (some ⟨tb,tf,none⟩) (N+1) q2) j.y.t j.y.tau tk now)) (by kernel_rfl) (by kernel_rfl) (by kernel_rfl) (by kernel_rfl) ?_ ?_ ?_
     ·intro v
      exact ⟨fun i hi=>(rep_not hi).elim,fun hz=>(rep_not hz).elim,fun hz=>(rep_not hz).elim,fun hz=>(rep_not hz).elim,fun hz=>(rep_not hz).elim,fun hz=>(rep_not hz).elim,fun _=>HG0.out.drew,fun hz=>(rep_not hz).elim,fun hz=>(rep_not hz).elim,fun b _ _=>rfl,Nat.le_refl _,HB0.out.drew⟩
     ·intro Q' K_ listed v wx i o hsz ho hli ha hR hK
      have HV:=hid hR
      have dep:=fun d hd=>hR.pl d (dep_listed ha d hd)
      have hi:i<19:=(List.getElem?_eq_some_iff.1 ho).1
      clear hR hsz
      obtain rfl|rfl|rfl|rfl|rfl|rfl|rfl|rfl|rfl|rfl|rfl|rfl|rfl|rfl|rfl|rfl|rfl|rfl|rfl:i=0∨i=1∨i=2∨i=3∨i=4∨i=5∨i=6∨i=7∨i=8∨i=9∨i=10∨i=11∨i=12∨i=13∨i=14∨i=15∨i=16∨i=17∨i=18:=by omega
      ·-- operation 0
       cases ho
       simp only [pq] at hK ⊢
       go_simp
       exact hK _ _ (HV.out.plain (by decide) rfl)
      ·-- operation 1
       cases ho
       simp only [pq] at hK ⊢
       go_simp
       exact hK _ _ (HV.out.plain (by decide) rfl)
      ·-- operation 2
       cases ho
       have h1:v 1=_:=dep 1 (by kernel_rfl)
       simp only [pq,h1] at hK ⊢
       go_simp
       exact hK _ _ (HV.out.plain (by decide) rfl)
      ·-- operation 3
       cases ho
       have h2:v 2=_:=dep 2 (by kernel_rfl)
       have k5:wx.cell? ⟨jb,21,none⟩=some (.int .i64 j.y.t):=(HV.out.blk J5.out HNE.out.1).cell 21
       have k6:wx.cell? ⟨jb,22,none⟩=some (.int .i64 j.y.tau):=(HV.out.blk J5.out HNE.out.1).cell 22
       simp only [pq,h2] at hK ⊢
       go_simp
       exact hK _ _ (HV.out.plain (by decide) rfl)
      ·-- operation 4
       cases ho
       simp only [pq] at hK ⊢
       go_simp
       exact hK _ _ (HV.out.plain (by decide) rfl)
      ·-- operation 5
       cases ho
       have h4:v 4=_:=dep 4 (by kernel_rfl)
       have s1:wx.cell? ⟨sb,1,none⟩=some (.slice (some ⟨tb,tf,none⟩) (N+1) q2):=(HV.out.blk I5.out.s HNE.out.2).cell 1
       simp only [pq,h4] at hK ⊢
       go_simp
       exact hK _ _ (HV.out.plain (by decide) rfl)
      ·-- operation 6
       cases ho
       simp only [pq] at hK ⊢
       go_simp
       exact hK _ _ (HV.out.plain (by decide) rfl)
      ·-- operation 7
       cases ho
       have h6:v 6=_:=dep 6 (by kernel_rfl)
       simp only [pq,h6] at hK ⊢
       go_simp
       exact hK _ _ (HV.out.plain (by decide) rfl)
      ·-- operation 8
       cases ho
       have h5:v 5=_:=dep 5 (by kernel_rfl)
       have h7:v 7=_:=dep 7 (by kernel_rfl)
       simp only [pq,h5,h7] at hK ⊢
       go_simp
       exact hK _ _ (HV.out.plain (by decide) rfl)
      ·-- operation 9
       cases ho
       have h8:v 8=_:=dep 8 (by kernel_rfl)
       have hc:=HT.out wx HV.out.bel
       simp only [pq,h8] at hK ⊢
       go_simp
       exact hK _ _ (HV.out.plain (by decide) rfl)
      ·-- operation 10
       cases ho
       simp only [pq] at hK ⊢
       go_simp
       exact hK _ _ (HV.out.plain (by decide) rfl)
      ·-- operation 11
       cases ho
       have h3:v 3=_:=dep 3 (by kernel_rfl)
       have h9:v 9=_:=dep 9 (by kernel_rfl)
       have h10:v 10=_:=dep 10 (by kernel_rfl)
       have CP:=HLR.out wx HV.out.sz
       simp only [pq,h3,h9,h10] at hK ⊢
       go_simp
       refine CP.mono ?_
       rintro _ w5 ⟨pv,rfl,hb,hlm⟩
       exact hK _ _ (HV.out.call hli (fun _=>trivial) hb hlm (fun hz=>(HV.out.st0 hz).below hb (HV.out.st0 hz).lt) (fun b h1 _=>hb.block b (Nat.lt_of_lt_of_le h1 HV.out.sz)))
      ·-- operation 12
       cases ho
       simp only [pq] at hK ⊢
       go_simp
       exact hK _ _ (HV.out.move (fun _=>trivial) (dep_listed ha 11 (by kernel_rfl)))
      ·-- operation 13
       cases ho
       have h12:=(HV.out.mv (dep_listed ha 12 (by kernel_rfl))).1.trans (HV.out.tup (HV.out.mv (dep_listed ha 12 (by kernel_rfl))).2)
       replace h12:v 12=.tuple #[tupA (v 11),.int .i64 er]:=h12
       simp only [pq,h12] at hK ⊢
       go_simp
       exact hK _ _ (HV.out.first (fun _=>trivial) (dep_listed ha 12 (by kernel_rfl)))
      ·-- operation 14
       cases ho
       have h12:=(HV.out.mv (dep_listed ha 12 (by kernel_rfl))).1.trans (HV.out.tup (HV.out.mv (dep_listed ha 12 (by kernel_rfl))).2)
       replace h12:v 12=.tuple #[tupA (v 11),.int .i64 er]:=h12
       simp only [pq,h12] at hK ⊢
       go_simp
       exact hK _ _ (HV.out.second (fun _=>trivial))
      ·-- operation 15
       cases ho
       have h0:v 0=_:=dep 0 (by kernel_rfl)
       simp only [pq,h0] at hK ⊢
       go_simp
       exact hK _ _ (HV.out.plain (by decide) rfl)
      ·-- operation 16
       cases ho
       have h15:v 15=_:=dep 15 (by kernel_rfl)
       simp only [pq,h15] at hK ⊢
       go_simp
       exact hK _ _ (HV.out.plain (by decide) rfl)
      ·-- operation 17
       cases ho
       have h16:v 16=_:=dep 16 (by kernel_rfl)
       have hpv:=lmV_ptr (HV.out.lm (HV.out.mv (HV.out.ex0 (dep_listed ha 13 (by kernel_rfl))).2).2)
       have h13:=(HV.out.ex0 (dep_listed ha 13 (by kernel_rfl))).1
       generalize ptrO (tupA (v 11))=po at hpv
       replace h13:v 13=.pointer po:=h13.trans hpv
       have HPV:=hid hpv
       have hB:=HV.out.st0 hli
       have cT:=hB.cell (k*2)
       have fT:=hB.frozen (k*2)
       rw [HT0.out] at cT
       clear hpv hB
       simp only [pq,h16,h13] at hK ⊢
       go_simp
       refine hK undef _ ?_
       have hh:=HV.out.store (fun _=>trivial) hli (dep_listed ha 13 (by kernel_rfl)) HGW.out (by decide)
       rw [HPV.out] at hh
       exact hh
      ·-- operation 18
       cases ho
       have h14:=HV.out.ex1 (dep_listed ha 14 (by kernel_rfl))
       replace h14:v 14=.int .i64 er:=h14
       simp only [pq,h14] at hK ⊢
       go_simp
       exact hK _ _ (HV.out.keepE (fun _=>trivial))
     ·intro v listed w9 hall hR
      have h18:=hR.asg (hall 18 (by decide))
      replace h18:v 18=.int .i64 er:=h18
      have hst:=(hR.st1 (hall 17 (by decide))).1
      have hlm:=hR.lm (hall 11 (by decide))
      have HST:=hid hst
      have HLM:=hid hlm
      have HKP:=hid hR.keep
      have HB9:=hid hR.bel
      clear hR hst hlm
      generalize tupA (v 11)=rp2 at HST HLM
      simp only [pq,h18,Nat.zero_add,Nat.reduceAdd]
      clear h18 hall
      generalize v 0=v0
      generalize v 1=v1
      generalize v 2=v2
      generalize v 3=v3
      generalize v 4=v4
      generalize v 5=v5
      generalize v 6=v6
      generalize v 7=v7
      generalize v 8=v8
      generalize v 9=v9
      generalize v 10=v10
      generalize v 11=v11
      generalize v 12=v12
      generalize v 13=v13
      generalize v 14=v14
      generalize v 15=v15
      generalize v 16=v16
      clear v
      cases hol:ol
      ·have her:er≠0:=HER.out hol
       have qe:(er==0)=false:=by rw [beq_eq_false_iff_ne];exact her
       have qe2:(er != 0)=true:=by rw [bne,qe];rfl
       go_upto_region 16 with fail
       refine wp_region_quiet_below (by kernel_rfl) (by kernel_rfl) ?_
       repeat (go_big_quiet_step (fail))
       refine wpQuiet_nil ?_
       intro _ hw'
       obtain ⟨⟨dq,osq⟩,hw''⟩:=hw'
       subst hw''
       go_wp2_with fail
       go_ret2
       exact res_no HCE.out HTM.out (rsG_none (k:=k+1) (HNO.out (by unfold rsJ;rw [HLR3.out,hol])) (by rw [HL.out];omega)) (HB9.out.trans ((below_regrown w9 dq osq).mono HB9.out.size))
      ·rename_i l2
       subst hol
       have hli:=HLI.out _ rfl
       obtain rfl:er=0:=hli.2
       have I9:=hid (I5.out.lim (mid_get (rsL_len HJS.out) HJL.out) HDA.out D5.out hli.1 HLM.out HKP.out HST.out HB9.out)
       have J9:Hid (Blk w9 jb 57 (jbV j)):=hid ((HKP.out jb J5.out.lt HNE.out.1).trans J5.out)
       rw [mid_set (rsL_len HJS.out) HJL.out] at I9
       have HLI2:=hid hli.1
       clear HLM HST HKP hli I5 HG0 HB0 HLR HER HLI HT HT0 HGW HNE D5 J5 HD0
       have s0:w9.cell? ⟨sb,0,none⟩=some (.slice (some ⟨rb,rf,none⟩) N q1):=by have h:=I9.out.s.cell 0;rw [HA13.out.1] at h;exact h
       have s2:w9.cell? ⟨sb,2,none⟩=some (.slice (some ⟨xb,xf,none⟩) N q3):=by have h:=I9.out.s.cell 2;rw [HA13.out.2] at h;exact h
       have r0:=HRC.out w9 HB9.out
       have ks0:=cell_regrown s0
       have ks2:=cell_regrown s2
       have kr0:=cell_regrown r0
       by_cases hr0:r<0
       ·have qr:decide (r<0)=true:=decide_eq_true hr0
        go_upto_region 16 with fail
        refine wp_region_quiet_below (by kernel_rfl) (by kernel_rfl) ?_
        repeat (go_big_quiet_step (fail))
        refine wpQuiet_nil ?_
        intro _ hw'
        obtain ⟨⟨dq,osq⟩,hw''⟩:=hw'
        subst hw''
        go_wp2_with fail
        go_ret2
        exact res_no HCE.out HTM.out (rsG_none (k:=k+1) (HNO.out (by unfold rsJ;rw [HLR3.out];simp only;rw [if_pos (.inl hr0)])) (by rw [HL.out];omega)) (HB9.out.trans ((below_regrown w9 dq osq).mono HB9.out.size))
       have qr:decide (r<0)=false:=decide_eq_false hr0
       have j23:w9.cell? ⟨jb,23,none⟩=some (.int .i64 j.y.f):=J9.out.cell 23
       have j24:w9.cell? ⟨jb,24,none⟩=some (.int .i64 j.y.o):=J9.out.cell 24
       have j25:w9.cell? ⟨jb,25,none⟩=some (.int .i64 j.y.r):=J9.out.cell 25
       have hxc:=HXC.out w9 HB9.out
       have x0:w9.cell? ⟨xb,xf+k*4,none⟩=some (.int .i64 bk.1):=hxc 0 (by decide)
       have x1:w9.cell? ⟨xb,xf+k*4+1,none⟩=some (.int .i64 bk.2.1):=hxc 1 (by decide)
       have x2:w9.cell? ⟨xb,xf+k*4+2,none⟩=some (.int .i64 bk.2.2.1):=hxc 2 (by decide)
       have x3:w9.cell? ⟨xb,xf+k*4+3,none⟩=some (.int .i64 bk.2.2.2):=hxc 3 (by decide)
       clear hxc
       have kj23:=cell_regrown j23
       have kj24:=cell_regrown j24
       have kj25:=cell_regrown j25
       have kx0:=cell_regrown x0
       have kx1:=cell_regrown x1
       have kx2:=cell_regrown x2
       have kx3:=cell_regrown x3
       have hrul:(0≤j.y.o∧j.y.o≤68719476736)∧(0≤j.y.r∧j.y.r≤100):=by
        have:=HOK.out.2.2
        unfold BK.zero BK.ruled BK.maxSpan at this
        simp only [decide_eq_true_eq] at this
        omega
       have PO:=hid (fun d os=>Calls.regrown_of (poss_ok (f:=j.y.f) (un:=bk.1) (fa:=bk.2.1) (go:=bk.2.2.1) (ud:=bk.2.2.2) HTM.out hrul.1 hrul.2 (Sort.grow (redrawn w9 d) os)))
       clear hrul
       obtain ⟨pb,hpb⟩:∃pb,possB j.y.f j.y.o j.y.r ⟨bk.1,bk.2.1,bk.2.2.1,bk.2.2.2⟩ now=pb:=⟨_,rfl⟩
       have HPB:=hid hpb
       simp only [hpb] at PO
       clear hpb
       go_upto_region 16 with fail
       refine wp_region_quiet_below (by kernel_rfl) (by kernel_rfl) ?_
       repeat (go_big_quiet_step (fail))
       go_big_quiet_step ((go_at_call 92;exact PO.out _ _))
       repeat (go_big_quiet_step (fail))
       refine wpQuiet_nil ?_
       intro _ hw'
       obtain ⟨⟨dq,osq⟩,hw''⟩:=hw'
       subst hw''
       have hb16:=below_regrown w9 dq osq
       have I16:=hid (I9.out.next hb16)
       have J16:=hid (J9.out.below hb16 J9.out.lt)
       have B16:=hid (HB9.out.trans (hb16.mono HB9.out.size))
       clear hb16 s0 s2 r0 ks0 ks2 kr0 j23 j24 j25 x0 x1 x2 x3 kj23 kj24 kj25 kx0 kx1 kx2 kx3 I9 J9 PO HB9
       generalize Sort.grow (redrawn w9 dq) osq=W16 at *
       cases pb
       ·go_wp2_with fail
        go_ret2
        exact res_no HCE.out HTM.out (rsG_none (k:=k+1) (HNO.out (by unfold rsJ;rw [HLR3.out];simp only;rw [if_pos (.inr (.inr HPB.out))])) (by rw [HL.out];omega)) B16.out
       ·have dcell:W16.cell? ⟨db,k*2+1,none⟩=some (.pointer (some ⟨Y2.bo k,0,none⟩)):=by
         obtain ⟨db2,ds2,e,h1,h2⟩:=I16.out.g.door (by rw [I16.out.n];omega)
         have e2:some (⟨db,0,none⟩:Addr)=some ⟨db2,0,none⟩:=HDA.out.symm.trans e
         injection e2 with e2
         injection e2 with e2
         rw [e2,h1.cell]
         exact (h2 k (by rw [I16.out.n];exact hlt)).2
        have kdc:=cell_regrown dcell
        have j23:W16.cell? ⟨jb,23,none⟩=some (.int .i64 j.y.f):=J16.out.cell 23
        have j24:W16.cell? ⟨jb,24,none⟩=some (.int .i64 j.y.o):=J16.out.cell 24
        have j25:W16.cell? ⟨jb,25,none⟩=some (.int .i64 j.y.r):=J16.out.cell 25
        have kj23:=cell_regrown j23
        have kj24:=cell_regrown j24
        have kj25:=cell_regrown j25
        have hxc:=HXC.out W16 B16.out
        have x0:W16.cell? ⟨xb,xf+k*4,none⟩=some (.int .i64 bk.1):=hxc 0 (by decide)
        have x1:W16.cell? ⟨xb,xf+k*4+1,none⟩=some (.int .i64 bk.2.1):=hxc 1 (by decide)
        have x2:W16.cell? ⟨xb,xf+k*4+2,none⟩=some (.int .i64 bk.2.2.1):=hxc 2 (by decide)
        have x3:W16.cell? ⟨xb,xf+k*4+3,none⟩=some (.int .i64 bk.2.2.2):=hxc 3 (by decide)
        clear hxc
        have kx0:=cell_regrown x0
        have kx1:=cell_regrown x1
        have kx2:=cell_regrown x2
        have kx3:=cell_regrown x3
        have s2:W16.cell? ⟨sb,2,none⟩=some (.slice (some ⟨xb,xf,none⟩) N q3):=by have h:=I16.out.s.cell 2;rw [HA13.out.2] at h;exact h
        have ks2:=cell_regrown s2
        go_upto_region 18 with fail
        refine RK.wp_region_quiet_tail _ 13 _ (by rfl) (by kernel_rfl) (by kernel_rfl) (by kernel_rfl) (by kernel_rfl) (by kernel_rfl) (by kernel_rfl) (by kernel_rfl) ?_
        dsimp only [List.take_succ_cons,List.take_zero]
        repeat (go_big_quiet_step (fail))
        refine wpQuiet_nil ?_
        intro _ hw'
        obtain ⟨⟨dq2,osq2⟩,hw''⟩:=hw'
        subst hw''
        have hb18:=below_regrown W16 dq2 osq2
        have I18:=hid (I16.out.next hb18)
        clear hb18 dcell kdc j23 j24 j25 kj23 kj24 kj25 x0 x1 x2 x3 kx0 kx1 kx2 kx3 s2 ks2 I16 J16 B16
        generalize Sort.grow (redrawn W16 dq2) osq2=W18 at *
        have hmg:=mid_get2 (r:=(LL.drop (k+1)).map jt0) (rsL_len HJS.out) (⟨(jt0 (j,pl)).cap,(jt0 (j,pl)).runs,l2,(jt0 (j,pl)).bx⟩:Jt)
        have HMG:=hid hmg
        have BR:=hid (bring_ok (un:=bk.1) (fa:=bk.2.1) (go:=bk.2.2.1) (ud:=bk.2.2.2) (I18.out.g.job k _ hmg).2 HTM.out HOK.out.2.2 HPB.out)
        clear hmg
        go_wp2_with fail
        refine (BR.out).mono ?_
        rintro e_ w19 ⟨rfl,hB,hg⟩
        have I19:=hid (I18.out.box HMG.out hB hg (bring_inv HOK.out.2.2 HTM.out HPB.out))
        rw [mid_set2 (rsL_len HJS.out)] at I19
        clear hB hg BR I18 HMG
        obtain ⟨bx,hbx⟩:∃bx,bringB j.y.f j.y.o j.y.r ⟨bk.1,bk.2.1,bk.2.2.1,bk.2.2.2⟩ now=bx:=⟨_,rfl⟩
        have HBX:=hid hbx
        simp only [hbx] at I19
        clear hbx
        obtain ⟨rn,rfl⟩:∃rn:Nat,r=rn:=⟨r.toNat,by omega⟩
        obtain ⟨mm,hmm⟩:∃mm:Nat,Hid (mm=min rn 1001):=⟨_,hid rfl⟩
        have hm:min (rn:Int) 1001=(mm:Int):=by have:=hmm.out;omega
        have hmr:mm≤rn:=by have:=hmm.out;omega
        have s0:w19.cell? ⟨sb,0,none⟩=some (.slice (some ⟨rb,rf,none⟩) N q1):=by have h:=I19.out.s.cell 0;rw [HA13.out.1] at h;exact h
        have r0:=HRC.out w19 I19.out.bel
        go_wp2_with fail
        clear s0 r0 hm
        go_loopw [147] (fun s147 wy=>∃q:Nat,q≤mm∧s147=.int .i64 q∧sumR js+q≤G.cap∧ReI w cb sb gp N #[.int .i64 G.cap,.int .i64 G.q,.int .i64 G.ar,.int .i64 G.ag,.int .u64 G.sd,.int .i64 G.t,.int .i64 G.tau,.slice ja N jc] #[.slice a1 N q1,.slice (some ⟨tb,tf,none⟩) (N+1) q2,.slice a3 N q3] ⟨Y2.g,Y2.cp,Y2.lm,Y2.da,Y2.dc,Y2.ea,Y2.ec,fun i=>if i=k then blkQ rp2 else Y2.li i,Y2.bo⟩ ⟨G.cap,l,js++⟨j.y.cap,q,l2,bx⟩::(LL.drop (k+1)).map jt0,0⟩ wy) (fun s147 _=>mm - intA s147)
        case atStart=>exact ⟨0,Nat.zero_le _,rfl,by have:=HSU.out;omega,I19.out⟩
        case round =>
         obtain ⟨q,hq,rfl,hqs,hI⟩:=hrel
         have HI:=hid hI
         clear hI I19
         have hinv:=HI.out.g.inv.js _ (List.mem_of_getElem? (mid_get2 (rsL_len HJS.out) _))
         have hqc:(q:Int)≤j.y.cap∧j.y.cap≤1000:=⟨hinv.2.1.2,hinv.1.2⟩
         clear hinv
         rcases Nat.lt_or_ge q mm with hlq|hgq
         ·have hjk:=mid_get2 (r:=(LL.drop (k+1)).map jt0) (rsL_len HJS.out) (⟨j.y.cap,q,l2,bx⟩:Jt)
          have HJK:=hid hjk
          have hmost:=Gt.cp_most (x:=⟨G.cap,l,js++⟨j.y.cap,q,l2,bx⟩::(LL.drop (k+1)).map jt0,0⟩) hjk
          have hruns:=Gt.cp_runs (x:=⟨G.cap,l,js++⟨j.y.cap,q,l2,bx⟩::(LL.drop (k+1)).map jt0,0⟩) hjk
          have htot:(⟨G.cap,l,js++⟨j.y.cap,q,l2,bx⟩::(LL.drop (k+1)).map jt0,0⟩:Gt).cp.total=sumR js+q:=mid_sum _
          have hall:(⟨G.cap,l,js++⟨j.y.cap,q,l2,bx⟩::(LL.drop (k+1)).map jt0,0⟩:Gt).cp.all=G.cap:=rfl
          have c0:wr.cell? ⟨gp,0,none⟩=some (.pointer (some ⟨Y2.cp,0,none⟩)):=by
           have h:=HI.out.g.gate.cell 0
           rw [HI.out.gp] at h
           exact h
          have hkn:k<(⟨G.cap,l,js++⟨j.y.cap,q,l2,bx⟩::(LL.drop (k+1)).map jt0,0⟩:Gt).cp.n:=by have:=HI.out.n;show k<(js++⟨j.y.cap,q,l2,bx⟩::(LL.drop (k+1)).map jt0).length;rw [show (js++⟨j.y.cap,q,l2,bx⟩::(LL.drop (k+1)).map jt0).length=N from this];exact hlt
          by_cases hfr:(q:Int)<j.y.cap∧sumR js+q<G.cap
          ·have CT:=hid (ctake_ok HI.out.g.caps HI.out.g.inv.cp hkn (by
            rw [hmost,hruns,htot,hall]
            show 0<min (j.y.cap - (q:Int)) (G.cap - (sumR js+q))
            omega))
           clear hmost hruns htot hall hjk hkn
           go_wp2_with fail
           refine (CT.out).mono ?_
           rintro e_ wz ⟨rfl,hC,hg⟩
           have IZ:=hid (HI.out.run HJK.out hC hg (by show (q:Int)+1≤j.y.cap;omega))
           rw [mid_set2 (rsL_len HJS.out)] at IZ
           clear hC hg CT HI c0
           go_wp2_with fail
           refine ⟨⟨q+1,by omega,by go_num,by omega,?_⟩,?_⟩
           ·have:=IZ.out
            rwa [show ((q:Int)+1)=((q+1:Nat):Int) by omega] at this
           ·simp [intA];omega
          ·have CT:=hid (ctake_no HI.out.g.caps HI.out.g.inv.cp hkn (by
            rw [hmost,hruns,htot,hall]
            show ¬0<min (j.y.cap - (q:Int)) (G.cap - (sumR js+q))
            omega))
           have HFR:=hid hfr
           clear hmost hruns htot hall hjk hkn hfr
           go_wp2_with fail
           refine (CT.out).mono ?_
           rintro e_ wz ⟨rfl,hb⟩
           have HBZ:=hid (HI.out.bel.trans (hb.mono HI.out.bel.size))
           clear hb CT HI c0
           go_wp2_with fail
           go_ret2
           refine res_no HCE.out HTM.out ?_ HBZ.out
           by_cases hcap:(rn:Int)≤j.y.cap
           ·have hsome:rsJ j.y rn tk (bsT bk) now=some ⟨j.y.cap,rn,l2,bx⟩:=by rw [←HBX.out];exact rsJ_yes HLR3.out (by omega) (by omega) HPB.out
            refine rsG_many fun ks hks=>?_
            have h1:=HNXT.out
            rw [hsome] at h1
            have h2:=rsL_sum h1 hks (by rw [HL.out];omega)
            rw [sumR_snoc] at h2
            have h3:=HFR.out
            simp only at h2
            omega
           ·exact rsG_none (k:=k+1) (HNO.out (by unfold rsJ;rw [HLR3.out];simp only;rw [if_pos (.inr (.inl (by omega)))])) (by rw [HL.out];omega)
         ·obtain rfl:mm=q:=by omega
          obtain rfl:mm=rn:=by have:=hmm.out;omega
          have hsome:rsJ j.y mm tk (bsT bk) now=some ⟨j.y.cap,mm,l2,bx⟩:=by rw [←HBX.out];exact rsJ_yes HLR3.out (by omega) (by omega) HPB.out
          have HN1:Hid (rsL LL rs ts (bs.map bsT) now (k+1)=some (js++[⟨j.y.cap,mm,l2,bx⟩])):=hid (by rw [HNXT.out,hsome];rfl)
          clear hsome
          have IZ:=HI.out
          rw [List.append_cons] at IZ
          rw [HCA.out] at IZ
          have HIZ:=hid IZ
          clear IZ HI
          go_wp2_with fail
          refine ⟨⟨k+1,by omega,by go_num,_,_,HN1.out,by rw [sumR_snoc];exact hqs,HIZ.out⟩,?_⟩
          simp [intA];omega
    ·obtain rfl:N=k:=by omega
     have hd:LL.drop N=[]:=List.drop_eq_nil_of_le (by rw [HL.out];exact Nat.le_refl _)
     have IE:=HI.out
     rw [hd,List.map_nil,List.append_nil] at IE
     have HIE:=hid IE
     clear IE HI hd
     have g5:wr.cell? ⟨gp,5,none⟩=some (.int .i64 0):=by
      have h:=HIE.out.g.gate.cell 5
      rw [HIE.out.gp] at h
      exact h
     have f5:wr.frozen? ⟨gp,5,none⟩=false:=by
      have h:=HIE.out.g.gate.frozen 5
      rw [HIE.out.gp] at h
      exact h
     go_wp2_with fail
     go_ret2
     have hgl:=HIE.out.g.setLastN (now:=now) (timeB_iff.1 HTM.out)
     have hgw:w.heap.size≤Y2.g:=HIE.out.sup _ (.inl (.inl rfl))
     have hbe:=HIE.out.bel.setCell (p:=⟨Y2.g,5,none⟩) hgw (.int .i64 now)
     have hres:=res_yes (w:=w) (rs:=rs) (ts:=ts) (bs:=bs) HCE.out HTM.out (rsG_yes (by rw [HRN.out.1,HL.out]) (by rw [List.length_map,HRN.out.2.2,HL.out]) (by rw [HRN.out.2.1,HL.out]) (by rw [HT00.out,HLR2.out]) (by rw [HL.out];exact HJS.out) HSU.out) hbe hgl (fun i hi=>HIE.out.sup i (by have:=HIE.out.n;simp only at this hi;rwa [this] at hi))
     rw [HIE.out.gp] at hres
     exact hres
end Go.Proofs.YtpgckpafjiojfaaGreatDoor.AD
