/- Contract of the reference's Restore. -/
import Derived.Test.YtpgckpafjiojfaaGreatDoorAKP
import Derived.Test.YtpgckpafjiojfaaGreatDoorAKm
open Go.Lib (hid)
set_option maxRecDepth 16000
set_option maxHeartbeats 40000000
namespace Go.Proofs.YtpgckpafjiojfaaGreatDoor.AD
open Go Go.RowKit BW
open BK (Bx BoxAt RBoxAt Blk only_refl only_drew only_drewN only_setCell only_trans only_of_below only_alloc below_drewN)
theorem rlmV_ptr{W Z:World}{ol:Option Lm}{v:Value}(h:RLmV W Z ol v):v=.pointer (ptrO v):=by
 unfold RLmV at h
 cases ol with
 | none=>rw [show v=.pointer none from h];rfl
 | some l=>rw [h.1];rfl
theorem rbxV_ptr{W Z:World}{q:Bool}{y:Bx}{v:Value}(h:RBxV W Z q y v):v=.pointer (ptrO v):=by
 unfold RBxV at h
 cases q with
 | false=>rw [show v=.pointer none from h];rfl
 | true=>rw [h.1];rfl
structure RrI(w:World)(cb sb gp N:Nat)(cc sc:Array Value)(Y:RLy)(x:Gt)(W:World):Prop where
 g:RAt W Y x
 n:x.js.length=N
 gp:Y.g=gp
 sup:∀i,Y.sup N i→w.heap.size≤i
 jap:0<N→Y.jap
 c:Blk W cb 31 cc
 s:Blk W sb 95 sc
 bel:Below w.heap.size w W
section
variable{w W W':World}{cb sb gp N:Nat}{cc sc:Array Value}{Y:RLy}{x:Gt}
theorem RrI.next(h:RrI w cb sb gp N cc sc Y x W)(hb:Below W.heap.size W W'):RrI w cb sb gp N cc sc Y x W':=⟨h.g.below hb,h.n,h.gp,h.sup,h.jap,h.c.below hb h.c.lt,h.s.below hb h.s.lt,h.bel.trans (hb.mono h.bel.size)⟩
theorem RrI.both(h:RrI w cb sb gp N cc sc Y x W)(hb:Below W.heap.size W W'){l:Lm}{v:Value}(hi:l.Inv)(hl:RLmV W' W (some l) v):RrI w cb sb gp N cc sc ⟨Y.g,blkQ v,Y.c,Y.ja,Y.jc,Y.ra,Y.rc,Y.oa,Y.oc,Y.ba,Y.bc,Y.li,Y.bo⟩ ⟨x.cap,l,x.js,x.last⟩ (W'.setCell ⟨gp,10,none⟩ v):=by
 have h':=h.next hb
 have hgp:=h.gp
 subst hgp
 have hle:w.heap.size≤Y.g:=h.sup _ (.inl (.inl rfl))
 have hnew:∀i,Y.sup x.js.length i→i≠blkQ v:=fun i hi=>by have:=h.g.lt hi;have:=hl.2.2;omega
 have hg:=h'.g.newBoth hl.2.1 hi hnew
 rw [←hl.1] at hg
 refine ⟨hg,h.n,rfl,fun i hi=>?_,h.jap,Blk.far h'.c (blk_ne h'.c h'.g.gate (by decide)) _,Blk.far h'.s (blk_ne h'.s h'.g.gate (by decide)) _,h'.bel.setCell hle _⟩
 rcases hi with (rfl|rfl|hi|hi)|hi
 ·exact hle
 ·exact Nat.le_trans h.bel.size hl.2.2
 ·exact h.sup _ (.inl (.inr (.inr (.inl hi))))
 ·exact h.sup _ (.inl (.inr (.inr (.inr hi))))
 ·exact h.sup _ (.inr hi)
theorem RrI.run(h:RrI w cb sb gp N cc sc Y x W){k:Nat}{j:Jt}(hj:x.js[k]? = some j){rb:Nat}(he:Y.ra=some ⟨rb,0,none⟩){r:Int}(hr:0≤r∧r≤j.cap):RrI w cb sb gp N cc sc Y ⟨x.cap,x.both,x.js.set k ⟨j.cap,r,j.lm,j.bx⟩,x.last⟩ (W.setCell ⟨rb,k,none⟩ (.int .i64 r)):=by
 obtain ⟨hg,ht⟩:=h.g.newRun hj he hr
 exact ⟨hg,List.length_set.trans h.n,h.gp,h.sup,h.jap,h.g.keepB ht h.c (by decide) (by decide) (by decide) (by decide),h.g.keepB ht h.s (by decide) (by decide) (by decide) (by decide),ht.below (fun i hi=>h.sup i (.inl (by rw [←h.n];exact hi))) h.bel (Nat.le_refl _)⟩
theorem RrI.lim(h:RrI w cb sb gp N cc sc Y x W)(hb:Below W.heap.size W W'){k:Nat}{j:Jt}(hj:x.js[k]? = some j){ob:Nat}{os:Array Value}(ho:Y.oa=some ⟨ob,0,none⟩)(hos:Blk W ob 146 os){l:Lm}{v:Value}(hi:l.Inv)(hl:RLmV W' W (some l) v):RrI w cb sb gp N cc sc ⟨Y.g,Y.lm,Y.c,Y.ja,Y.jc,Y.ra,Y.rc,Y.oa,Y.oc,Y.ba,Y.bc,fun i=>if i=k then blkQ v else Y.li i,Y.bo⟩ ⟨x.cap,x.both,x.js.set k ⟨j.cap,j.runs,l,j.bx⟩,x.last⟩ (W'.setCell ⟨ob,k,none⟩ v):=by
 have h':=h.next hb
 have hk:k<N:=by have:=(List.getElem?_eq_some_iff.1 hj).1;rw [h.n] at this;exact this
 have hle:w.heap.size≤ob:=h.sup _ (.inr (.inl ⟨by omega,0,ho⟩))
 have hnew:∀i,Y.sup x.js.length i→i≠blkQ v:=fun i hi=>by have:=h.g.lt hi;have:=hl.2.2;omega
 have hos':=hos.below hb hos.lt
 have hg:=h'.g.newLim hj ho hos' hl.2.1 hi hnew (fun b o h0 e=>h.jap (by omega) b o ob 0 e (.inl ho))
 rw [←hl.1] at hg
 refine ⟨hg,List.length_set.trans h.n,h.gp,fun i hi=>?_,h.jap,Blk.far h'.c (blk_ne h'.c hos' (by decide)) _,Blk.far h'.s (blk_ne h'.s hos' (by decide)) _,h'.bel.setCell hle _⟩
 rcases hi with (rfl|rfl|hi|⟨q,hq,hi⟩)|hi
 ·exact h.sup _ (.inl (.inl rfl))
 ·exact h.sup _ (.inl (.inr (.inl rfl)))
 ·exact h.sup _ (.inl (.inr (.inr (.inl hi))))
 ·rcases hi with rfl|rfl
  ·show w.heap.size≤(if q=k then blkQ v else Y.li q)
   split
   ·exact Nat.le_trans h.bel.size hl.2.2
   ·exact h.sup _ (.inl (.inr (.inr (.inr ⟨q,hq,.inl rfl⟩))))
  ·exact h.sup _ (.inl (.inr (.inr (.inr ⟨q,hq,.inr rfl⟩))))
 ·exact h.sup _ (.inr hi)
theorem RrI.box(h:RrI w cb sb gp N cc sc Y x W)(hb:Below W.heap.size W W'){k:Nat}{j:Jt}(hj:x.js[k]? = some j){bb:Nat}{os:Array Value}(ho:Y.ba=some ⟨bb,0,none⟩)(hos:Blk W bb 153 os){y:Bx}{v:Value}(hi:BK.Inv y)(hl:RBxV W' W true y v):RrI w cb sb gp N cc sc ⟨Y.g,Y.lm,Y.c,Y.ja,Y.jc,Y.ra,Y.rc,Y.oa,Y.oc,Y.ba,Y.bc,Y.li,fun i=>if i=k then blkQ v else Y.bo i⟩ ⟨x.cap,x.both,x.js.set k ⟨j.cap,j.runs,j.lm,y⟩,x.last⟩ (W'.setCell ⟨bb,k,none⟩ v):=by
 have h':=h.next hb
 have hk:k<N:=by have:=(List.getElem?_eq_some_iff.1 hj).1;rw [h.n] at this;exact this
 have hle:w.heap.size≤bb:=h.sup _ (.inr (.inr (.inl ⟨by omega,0,ho⟩)))
 have hnew:∀i,Y.sup x.js.length i→i≠blkQ v:=fun i hi=>by have:=h.g.lt hi;have:=hl.2.2;omega
 have hos':=hos.below hb hos.lt
 have hg:=h'.g.newBox hj ho hos' hl.2.1 hi hnew (fun b o h0 e=>h.jap (by omega) b o bb 0 e (.inr ho))
 rw [←hl.1] at hg
 refine ⟨hg,List.length_set.trans h.n,h.gp,fun i hi=>?_,h.jap,Blk.far h'.c (blk_ne h'.c hos' (by decide)) _,Blk.far h'.s (blk_ne h'.s hos' (by decide)) _,h'.bel.setCell hle _⟩
 rcases hi with (rfl|rfl|hi|⟨q,hq,hi⟩)|hi
 ·exact h.sup _ (.inl (.inl rfl))
 ·exact h.sup _ (.inl (.inr (.inl rfl)))
 ·exact h.sup _ (.inl (.inr (.inr (.inl hi))))
 ·rcases hi with rfl|rfl
  ·exact h.sup _ (.inl (.inr (.inr (.inr ⟨q,hq,.inl rfl⟩))))
  ·show w.heap.size≤(if q=k then blkQ v else Y.bo q)
   split
   ·exact Nat.le_trans h.bel.size hl.2.2
   ·exact h.sup _ (.inl (.inr (.inr (.inr ⟨q,hq,.inr rfl⟩))))
 ·exact h.sup _ (.inr hi)
end
def Q9r(gp cb sb tb tf:Nat)(sl:Value)(t tau t0 now:Int)(i:Nat)(v:Value):Prop:=match i with
 | 0=>v=.pointer (some ⟨gp,0,none⟩)
 | 1=>v=.pointer (some ⟨cb,0,none⟩)
 | 2=>v=.pointer (some ⟨cb,5,none⟩)
 | 3=>v=.agg #[.int .i64 t,.int .i64 tau]
 | 4=>v=.pointer (some ⟨sb,1,none⟩)
 | 5=>v=sl
 | 6=>v=.pointer (some ⟨tb,tf,none⟩)
 | 7=>v=.int .i64 t0
 | 8=>v=.int .i64 now
 | 13=>v=.pointer (some ⟨gp,0,none⟩)
 | 14=>v=.pointer (some ⟨gp,10,none⟩)
 | _=>True
def Q19r(gp k pb sb tb tf ob:Nat)(ol sl:Value)(t tau t0 now:Int)(i:Nat)(v:Value):Prop:=match i with
 | 0=>v=.pointer (some ⟨gp,0,none⟩)
 | 1=>v=.pointer (some ⟨gp,0,none⟩)
 | 2=>v=.pointer (some ⟨gp,11,none⟩)
 | 3=>v=ol
 | 4=>v=.int .i64 k
 | 5=>v=.pointer (some ⟨pb,6,none⟩)
 | 6=>v=.agg #[.int .i64 t,.int .i64 tau]
 | 7=>v=.pointer (some ⟨sb,1,none⟩)
 | 8=>v=sl
 | 9=>v=.int .i64 k
 | 10=>v=.int .i64 ((k:Int)+1)
 | 11=>v=.pointer (some ⟨tb,tf,none⟩)
 | 12=>v=.int .i64 t0
 | 13=>v=.int .i64 now
 | 18=>v=.pointer (some ⟨ob,k,none⟩)
 | _=>True
def Q20r(gp k pb sb xb xf:Nat)(ol sl:Value)(f o r:Int)(b:BxQ)(now:Int)(i:Nat)(v:Value):Prop:=match i with
 | 0=>v=.pointer (some ⟨gp,0,none⟩)
 | 1=>v=.pointer (some ⟨gp,0,none⟩)
 | 2=>v=.pointer (some ⟨gp,12,none⟩)
 | 3=>v=ol
 | 4=>v=.int .i64 k
 | 5=>v=.pointer (some ⟨pb,8,none⟩)
 | 6=>v=.agg #[.int .i64 f,.int .i64 o,.int .i64 r]
 | 7=>v=.pointer (some ⟨sb,2,none⟩)
 | 8=>v=sl
 | 9=>v=.int .i64 k
 | 10=>v=.pointer (some ⟨xb,xf,none⟩)
 | 11=>v=.agg #[.int .i64 b.1,.int .i64 b.2.1,.int .i64 b.2.2.1,.int .i64 b.2.2.2]
 | 12=>v=.int .i64 now
 | _=>True
theorem rgrest_ok(G:Gl)(LL:JL)(ja:Option Addr)(N jc:Nat)(a1 a2 a3:Option Addr)(rn q1 tn q2 bn q3:Nat)(rs ts:List Int)(bs:List BxQ)(now:Int)(w:World)(hLN:LL.length=N)(hA:CArg w ⟨G,ja,N,jc⟩ LL)(hrn:rs.length=rn)(htn:ts.length=tn)(hbn:bs.length=bn)(h1:Row1 w a1 rs)(h2:Row1 w a2 ts)(h3:Row4 w a3 bs) :
 Calls Tryz.prog 36 #[.agg #[.int .i64 G.cap,.int .i64 G.q,.int .i64 G.ar,.int .i64 G.ag,.int .u64 G.sd,.int .i64 G.t,.int .i64 G.tau,.slice ja N jc],.agg #[.slice a1 rn q1,.slice a2 tn q2,.slice a3 bn q3],.int .i64 now] w (RResGt w (rsR G LL rs ts bs now)):=by
 have HL:=hid hLN
 have HA:=hid (fun W (hb:Below w.heap.size w W)=>hA.below hb)
 have HR1:=hid (fun W (hb:Below w.heap.size w W)=>Row1.below h1 hb)
 have HR2:=hid (fun W (hb:Below w.heap.size w W)=>Row1.below h2 hb)
 have HR3:=hid (fun W (hb:Below w.heap.size w W)=>Row4.below h3 hb)
 have HRN:=hid (And.intro hrn (And.intro htn hbn))
 have HN9:Hid (N≤200):=hid hA.n9
 obtain ⟨W0,hW0⟩:∃W0,W0=(w.alloc (.cells #[.int .i64 G.cap,.int .i64 G.q,.int .i64 G.ar,.int .i64 G.ag,.int .u64 G.sd,.int .i64 G.t,.int .i64 G.tau,.slice ja N jc] 31)).alloc (.cells #[.slice a1 rn q1,.slice a2 tn q2,.slice a3 bn q3] 95):=⟨_,rfl⟩
 have hb0:Below w.heap.size w W0:=by rw [hW0];exact two_boxes w _ _
 have C0:Hid (Blk W0 w.heap.size 31 #[.int .i64 G.cap,.int .i64 G.q,.int .i64 G.ar,.int .i64 G.ag,.int .u64 G.sd,.int .i64 G.t,.int .i64 G.tau,.slice ja N jc]):=hid (by rw [hW0];exact (Blk.new _ _ _).alloc _)
 have S0:Hid (Blk W0 (w.heap.size+1) 95 #[.slice a1 rn q1,.slice a2 tn q2,.slice a3 bn q3]):=hid (by rw [hW0];exact blk_newAt (by simp))
 have B0:=hid hb0
 clear hA h1 h2 h3 hrn htn hbn hLN
 go_enter Tryz.func36,Tryz.ntmps36
 go_upto_region 1 with fail
 rw [←hW0]
 clear hW0
 obtain ⟨cb,hcb⟩:∃cb,cb=w.heap.size:=⟨_,rfl⟩
 obtain ⟨sb,hsb⟩:∃sb,sb=w.heap.size+1:=⟨_,rfl⟩
 rw [←hsb] at S0 ⊢
 rw [←hcb] at C0 ⊢
 clear hcb hsb
 have k0:W0.cell? ⟨cb,0,none⟩=some (.int .i64 G.cap):=C0.out.cell 0
 have k1:W0.cell? ⟨cb,1,none⟩=some (.int .i64 G.q):=C0.out.cell 1
 have k2:W0.cell? ⟨cb,2,none⟩=some (.int .i64 G.ar):=C0.out.cell 2
 have k3:W0.cell? ⟨cb,3,none⟩=some (.int .i64 G.ag):=C0.out.cell 3
 have k4:W0.cell? ⟨cb,4,none⟩=some (.int .u64 G.sd):=C0.out.cell 4
 have k5:W0.cell? ⟨cb,5,none⟩=some (.int .i64 G.t):=C0.out.cell 5
 have k6:W0.cell? ⟨cb,6,none⟩=some (.int .i64 G.tau):=C0.out.cell 6
 have k7:W0.cell? ⟨cb,7,none⟩=some (.slice ja N jc):=C0.out.cell 7
 by_cases hE:cfE G LL=0
 case neg =>
  have NW:=hid (rgnew_no ⟨G,ja,N,jc⟩ LL W0 (HA.out W0 B0.out) hE)
  have HE:=hid hE
  obtain ⟨e,he⟩:∃e,cfE G LL=e:=⟨_,rfl⟩
  have qe:(e==0)=false:=by rw [beq_eq_false_iff_ne,←he];exact hE
  have qe2:(e != 0)=true:=by rw [bne,qe];rfl
  have HEE:=hid he
  simp only [he] at NW
  clear he hE hb0
  go_wp2_with fail
  refine (NW.out).mono ?_
  rintro e_ w1 ⟨rfl,hb⟩
  have HB:=hid (B0.out.trans (hb.mono B0.out.size))
  clear hb NW
  go_wp2_with fail
  go_ret2
  rw [←HEE.out]
  exact rres_cf HE.out HB.out
 have HC:=hid (cfE_zero.1 hE)
 have HCE:=hid hE
 have NW:=hid (rgnew_yes ⟨G,ja,N,jc⟩ LL W0 (HA.out W0 B0.out) HC.out)
 clear hE hb0
 go_wp2_with fail
 refine (NW.out).mono ?_
 rintro e_ w2 ⟨Y,rfl,hg,hs,hb,hjp⟩
 have I2:Hid (RrI w cb sb Y.g N #[.int .i64 G.cap,.int .i64 G.q,.int .i64 G.ar,.int .i64 G.ag,.int .u64 G.sd,.int .i64 G.t,.int .i64 G.tau,.slice ja N jc] #[.slice a1 rn q1,.slice a2 tn q2,.slice a3 bn q3] Y (g0 G LL) w2):=hid ⟨hg,by unfold g0;simp [HL.out],rfl,fun i hi=>Nat.le_trans B0.out.size (hs i (by rw [HL.out];exact hi)),fun h0=>hjp (by rw [HL.out];exact h0),C0.out.below hb C0.out.lt,S0.out.below hb S0.out.lt,B0.out.trans (hb.mono B0.out.size)⟩
 clear hg hs hb hjp NW C0 S0 B0 k0 k1 k2 k3 k4 k5 k6 k7
 obtain ⟨gp,hgp⟩:∃gp,Y.g=gp:=⟨_,rfl⟩
 rw [hgp] at I2 ⊢
 clear hgp
 cases htm:timeB now
 case false =>
  have HTM:=hid htm
  by_cases hn0:now<0
  ·have qa1:decide (now<0)=true:=decide_eq_true hn0
   clear htm
   go_wp2_with fail
   go_ret2
   exact rres_time HCE.out HTM.out I2.out.bel
  ·have qa1:decide (now<0)=false:=decide_eq_false hn0
   have qa2:decide (253402300799<now)=true:=decide_eq_true (by
    rcases Int.lt_or_le 253402300799 now with h|h
    ·exact h
    ·have:=timeB_iff.2 (show 0≤now∧now≤253402300799 by omega)
     rw [htm] at this
     cases this)
   clear htm
   go_wp2_with fail
   go_ret2
   exact rres_time HCE.out HTM.out I2.out.bel
 have HTM:=hid htm
 have htb:=timeB_iff.1 htm
 clear htm
 have qa1:decide (now<0)=false:=decide_eq_false (by omega)
 have qa2:decide (253402300799<now)=false:=decide_eq_false (by omega)
 have k7:w2.cell? ⟨cb,7,none⟩=some (.slice ja N jc):=I2.out.c.cell 7
 have s0:w2.cell? ⟨sb,0,none⟩=some (.slice a1 rn q1):=I2.out.s.cell 0
 have s1:w2.cell? ⟨sb,1,none⟩=some (.slice a2 tn q2):=I2.out.s.cell 1
 have s2:w2.cell? ⟨sb,2,none⟩=some (.slice a3 bn q3):=I2.out.s.cell 2
 have hN9:N≤200:=HN9.out
 have hwn:IntKind.i64.wrap ((N:Int)+1)=(N:Int)+1:=IntWalk.i64_in _ (by omega)
 by_cases hr:rn=N
 case neg =>
  have e1:((rn:Int)==(N:Int))=false:=by rw [beq_eq_false_iff_ne];omega
  have e2:((rn:Int) != (N:Int))=true:=by rw [bne,e1];rfl
  go_wp2_with fail
  go_ret2
  exact rres_no HCE.out HTM.out (rsG_len (.inl (by rw [HRN.out.1,HL.out];exact hr))) I2.out.bel
 subst hr
 by_cases hbN:bn=rn
 case neg =>
  have e1:((bn:Int)==(rn:Int))=false:=by rw [beq_eq_false_iff_ne];omega
  have e2:((bn:Int) != (rn:Int))=true:=by rw [bne,e1];rfl
  go_wp2_with fail
  go_ret2
  exact rres_no HCE.out HTM.out (rsG_len (.inr (.inl (by rw [List.length_map,HRN.out.2.2,HL.out];exact hbN)))) I2.out.bel
 subst hbN
 by_cases htN:tn=bn+1
 case neg =>
  have e1:((tn:Int)==(bn:Int)+1)=false:=by rw [beq_eq_false_iff_ne];omega
  have e2:((tn:Int) != (bn:Int)+1)=true:=by rw [bne,e1];rfl
  go_wp2_with fail
  go_ret2
  exact rres_no HCE.out HTM.out (rsG_len (.inr (.inr (by rw [HRN.out.2.1,HL.out];exact htN)))) I2.out.bel
 subst htN
 obtain ⟨N,hNN⟩:∃N,N=bn:=⟨_,rfl⟩
 subst hNN
 go_upto_region 9 with fail
 clear k7 s0 s1 s2 qa1 qa2 hwn
 obtain ⟨t0,ht0⟩:∃t0,ts[0]? = some t0:=⟨_,List.getElem?_eq_getElem (by have:=HRN.out.2.1;omega)⟩
 have HT00:Hid (ts.getD 0 0=t0):=hid (by rw [List.getD_eq_getElem?_getD,ht0];rfl)
 obtain ⟨tb,tf,rfl,-⟩:=HR2.out w (Below.refl _ _) 0 (List.getElem?_eq_some_iff.1 ht0).1
 have HT:Hid (∀wx,Below w.heap.size w wx→wx.cell? ⟨tb,tf,none⟩=some (.int .i64 t0)):=hid (fun wx hb=>by
  obtain ⟨b,o,e,h⟩:=HR2.out wx hb 0 (List.getElem?_eq_some_iff.1 ht0).1
  injection e with e
  injection e with e1 e2
  rw [(List.getElem?_eq_some_iff.1 ht0).2] at h
  rw [e1,e2]
  exact h)
 clear ht0
 obtain ⟨⟨ol,er⟩,hlr⟩:∃r,lmR G.t G.tau t0 now=r:=⟨_,rfl⟩
 have hgl:=(glB_parts HC.out.gl).2
 have HER:Hid (ol=none→er≠0):=hid (fun h=>by have:=lmR_no (t:=G.t) (tau:=G.tau) (tat:=t0) (now:=now) (by rw [hlr];exact h);rw [hlr] at this;exact this)
 have HLI:Hid (∀l,ol=some l→l.Inv∧er=0):=hid (fun l h=>by have:=lmR_inv (t:=G.t) (tau:=G.tau) (tat:=t0) (now:=now) hgl (x:=l) (by rw [hlr];exact h);rw [hlr] at this;exact this)
 have HLR2:Hid ((lmR G.t G.tau t0 now).1=ol):=hid (by rw [hlr])
 have HLR:Hid (∀wx:World,w2.heap.size≤wx.heap.size→Calls Tryz.prog 94 #[.agg #[.int .i64 G.t,.int .i64 G.tau],.int .i64 t0,.int .i64 now] wx fun e w'=>∃pv,e=.returned (.tuple #[pv,.int .i64 er])∧Below wx.heap.size wx w'∧RLmV w' w2 ol pv):=hid (fun wx hz=>by have:=rlr_ok (t:=G.t) (tau:=G.tau) (tat:=t0) (now:=now) hgl hz;rw [hlr] at this;exact this)
 clear hlr hgl
 refine wp_region_put (R:=RH2 w2 9 15 gp 10 er ol (Q9r gp cb sb tb tf (.slice (some ⟨tb,tf,none⟩) (N+1) q2) G.t G.tau t0 now)) (by kernel_rfl) (by kernel_rfl) (by kernel_rfl) (by kernel_rfl) ?_ ?_ ?_
 ·intro v
  exact ⟨fun i hi=>(rep_not hi).elim,fun hz=>(rep_not hz).elim,fun hz=>(rep_not hz).elim,fun hz=>(rep_not hz).elim,fun hz=>(rep_not hz).elim,fun hz=>(rep_not hz).elim,fun hz=>(rep_not hz).elim,fun _=>(Below.refl _ _).drew,fun hz=>(rep_not hz).elim,fun hz=>(rep_not hz).elim⟩
 ·intro Q' K_ listed v wx i o hsz ho hli ha hR hK
  have HV:=hid hR
  have HSZ:=hid (show listed.size=17 from hsz)
  have dep:=fun d hd=>HV.out.pl d (dep_listed ha d hd)
  have hi:i<17:=(List.getElem?_eq_some_iff.1 ho).1
  clear hR hsz
  obtain rfl|rfl|rfl|rfl|rfl|rfl|rfl|rfl|rfl|rfl|rfl|rfl|rfl|rfl|rfl|rfl|rfl:i=0∨i=1∨i=2∨i=3∨i=4∨i=5∨i=6∨i=7∨i=8∨i=9∨i=10∨i=11∨i=12∨i=13∨i=14∨i=15∨i=16:=by omega
  ·-- operation 0
   cases ho
   simp only [pq] at hK ⊢
   go_simp
   exact hK _ _ (HV.out.step (by decide) (by decide) rfl)
  ·-- operation 1
   cases ho
   simp only [pq] at hK ⊢
   go_simp
   exact hK _ _ (HV.out.step (by decide) (by decide) rfl)
  ·-- operation 2
   cases ho
   have h1:v 1=_:=dep 1 (by kernel_rfl)
   simp only [pq,h1] at hK ⊢
   go_simp
   exact hK _ _ (HV.out.step (by decide) (by decide) rfl)
  ·-- operation 3
   cases ho
   have h2:v 2=_:=dep 2 (by kernel_rfl)
   have hz:=HV.out.z (HV.out.noS (by rw [HSZ.out];decide) (show 3≤9+2 by decide) hli)
   have k5:wx.cell? ⟨cb,5,none⟩=some (.int .i64 G.t):=(I2.out.c.below hz I2.out.c.lt).cell 5
   have k6:wx.cell? ⟨cb,6,none⟩=some (.int .i64 G.tau):=(I2.out.c.below hz I2.out.c.lt).cell 6
   simp only [pq,h2] at hK ⊢
   go_simp
   exact hK _ _ (HV.out.step (by decide) (by decide) rfl)
  ·-- operation 4
   cases ho
   simp only [pq] at hK ⊢
   go_simp
   exact hK _ _ (HV.out.step (by decide) (by decide) rfl)
  ·-- operation 5
   cases ho
   have h4:v 4=_:=dep 4 (by kernel_rfl)
   have hz:=HV.out.z (HV.out.noS (by rw [HSZ.out];decide) (show 5≤9+2 by decide) hli)
   have s1:wx.cell? ⟨sb,1,none⟩=some (.slice (some ⟨tb,tf,none⟩) (N+1) q2):=(I2.out.s.below hz I2.out.s.lt).cell 1
   simp only [pq,h4] at hK ⊢
   go_simp
   exact hK _ _ (HV.out.step (by decide) (by decide) rfl)
  ·-- operation 6
   cases ho
   have h5:v 5=_:=dep 5 (by kernel_rfl)
   simp only [pq,h5] at hK ⊢
   go_simp
   exact hK _ _ (HV.out.step (by decide) (by decide) rfl)
  ·-- operation 7
   cases ho
   have h6:v 6=_:=dep 6 (by kernel_rfl)
   have hz:=HV.out.z (HV.out.noS (by rw [HSZ.out];decide) (show 7≤9+2 by decide) hli)
   have hc:=HT.out wx (I2.out.bel.trans (hz.mono I2.out.bel.size))
   simp only [pq,h6] at hK ⊢
   go_simp
   exact hK _ _ (HV.out.step (by decide) (by decide) rfl)
  ·-- operation 8
   cases ho
   simp only [pq] at hK ⊢
   go_simp
   exact hK _ _ (HV.out.step (by decide) (by decide) rfl)
  ·-- operation 9
   cases ho
   have h3:v 3=_:=dep 3 (by kernel_rfl)
   have h7:v 7=_:=dep 7 (by kernel_rfl)
   have h8:v 8=_:=dep 8 (by kernel_rfl)
   have hs:=HV.out.noS (by rw [HSZ.out];decide) (show 9≤9+2 by decide) hli
   have CP:=HLR.out wx (HV.out.z hs).size
   simp only [pq,h3,h7,h8] at hK ⊢
   go_simp
   refine CP.mono ?_
   rintro _ w5 ⟨pv,rfl,hb,hlm⟩
   exact hK _ _ (HV.out.call (by decide) hli hs trivial hlm hb)
  ·-- operation 10
   cases ho
   simp only [pq] at hK ⊢
   go_simp
   exact hK _ _ (HV.out.move (by decide) trivial (dep_listed ha 9 (by kernel_rfl)))
  ·-- operation 11
   cases ho
   have hm1:=HV.out.mv (dep_listed ha 10 (by kernel_rfl))
   have h10:=hm1.1.trans (HV.out.cl hm1.2)
   replace h10:v 10=.tuple #[tupA (v 9),.int .i64 er]:=h10
   simp only [pq,h10] at hK ⊢
   go_simp
   exact hK _ _ (HV.out.first (by decide) trivial (dep_listed ha 10 (by kernel_rfl)))
  ·-- operation 12
   cases ho
   have hm1:=HV.out.mv (dep_listed ha 10 (by kernel_rfl))
   have h10:=hm1.1.trans (HV.out.cl hm1.2)
   replace h10:v 10=.tuple #[tupA (v 9),.int .i64 er]:=h10
   simp only [pq,h10] at hK ⊢
   go_simp
   exact hK _ _ (HV.out.second (by decide) trivial)
  ·-- operation 13
   cases ho
   have h0:v 0=_:=dep 0 (by kernel_rfl)
   simp only [pq,h0] at hK ⊢
   go_simp
   exact hK _ _ (HV.out.step (by decide) (by decide) rfl)
  ·-- operation 14
   cases ho
   have h13:v 13=_:=dep 13 (by kernel_rfl)
   simp only [pq,h13] at hK ⊢
   go_simp
   exact hK _ _ (HV.out.step (by decide) (by decide) rfl)
  ·-- operation 15
   cases ho
   have h14:v 14=_:=dep 14 (by kernel_rfl)
   have hx:=HV.out.e0 (dep_listed ha 11 (by kernel_rfl))
   have h11:=hx.1
   have hpv:=rlmV_ptr (HV.out.lm (HV.out.mv hx.2).2 hli)
   generalize ptrO (tupA (v 9))=po at hpv
   replace h11:v 11=.pointer po:=h11.trans hpv
   have HPV:=hid hpv
   have hz:=HV.out.z hli
   have cT:=(I2.out.g.below hz).c10
   have fT:=Blk.frozen (I2.out.g.below hz).gate 10
   rw [I2.out.gp] at cT fT
   clear hpv hx
   simp only [pq,h14,h11] at hK ⊢
   go_simp
   refine hK undef _ ?_
   have hh:=HV.out.store (by decide) hli trivial (fun q hq=>by
    obtain rfl|rfl|rfl|rfl|rfl|rfl|rfl|rfl|rfl|rfl|rfl|rfl:q=0∨q=1∨q=2∨q=3∨q=4∨q=5∨q=6∨q=7∨q=8∨q=9∨q=10∨q=11:=by omega
    all_goals exact dep_listed ha _ (by kernel_rfl))
   rw [HPV.out] at hh
   exact hh
  ·-- operation 16
   cases ho
   have h12:=HV.out.e1 (dep_listed ha 12 (by kernel_rfl))
   replace h12:v 12=.int .i64 er:=h12
   simp only [pq,h12] at hK ⊢
   go_simp
   exact hK _ _ (HV.out.keepE (by decide) trivial)
 ·intro v listed w9_ hall hR
  have h16:=hR.as_ (hall 16 (by decide))
  replace h16:v 16=.int .i64 er:=h16
  obtain ⟨w9,hz,hlm,rfl⟩:=hR.zs (hall 15 (by decide))
  have hpv:=rlmV_ptr hlm
  generalize ptrO (tupA (v 9))=po at hpv
  rw [hpv] at hlm ⊢
  have HLM:=hid hlm
  have HB9:=hid hz
  clear hlm hpv hR hz
  simp only [pq,Nat.zero_add,Nat.reduceAdd,h16]
  clear h16 hall
  generalize v 0=v0
  generalize v 1=v1
  generalize v 2=v2
  generalize v 3=v3
  generalize v 4=v4
  generalize v 5=v5
  generalize v 6=v6
  generalize v 7=v7
  generalize v 8=v8
  generalize v 9=v9
  generalize v 10=v10
  generalize v 11=v11
  generalize v 12=v12
  generalize v 13=v13
  generalize v 14=v14
  generalize v 15=v15
  clear v
  have hgw:w.heap.size≤gp:=by rw [←I2.out.gp];exact I2.out.sup _ (.inl (.inl rfl))
  have HBX:Hid (Below w.heap.size w (w9.setCell ⟨gp,10,none⟩ (.pointer po))):=hid ((I2.out.bel.trans (HB9.out.mono I2.out.bel.size)).setCell hgw _)
  clear hgw
  cases hol:ol
  ·have her:er≠0:=HER.out hol
   have qe:(er==0)=false:=by rw [beq_eq_false_iff_ne];exact her
   have qe2:(er != 0)=true:=by rw [bne,qe];rfl
   go_wp2_with fail
   go_ret2
   exact rres_no HCE.out HTM.out (rsG_both (by rw [HT00.out,HLR2.out,hol])) HBX.out
  ·rename_i l
   subst hol
   have hli:=HLI.out _ rfl
   obtain rfl:er=0:=hli.2
   have I9:=hid (I2.out.both HB9.out hli.1 HLM.out)
   clear HLM hli HLR HER HLI HT HB9 HBX
   go_upto_region 12 with fail
   clear I2
   generalize blkQ (.pointer po)=lm9 at *
   obtain ⟨W9,hW9⟩:∃W9,W9=w9.setCell ⟨gp,10,none⟩ (.pointer po):=⟨_,rfl⟩
   rw [←hW9] at I9 ⊢
   clear hW9
   have J0:Hid (∃js Y,rsL LL rs ts (bs.map bsT) now 0=some js∧RrI w cb sb gp N #[.int .i64 G.cap,.int .i64 G.q,.int .i64 G.ar,.int .i64 G.ag,.int .u64 G.sd,.int .i64 G.t,.int .i64 G.tau,.slice ja N jc] #[.slice a1 N q1,.slice (some ⟨tb,tf,none⟩) (N+1) q2,.slice a3 N q3] Y ⟨G.cap,l,js++(LL.drop 0).map jt0,0⟩ W9):=hid ⟨[],_,rfl,I9.out⟩
   clear I9
   go_wp2_with fail
   go_loopw [9,11] (fun _ s11 wr=>∃k:Nat,k≤N∧s11=.int .i64 k∧∃js Y,rsL LL rs ts (bs.map bsT) now k=some js∧RrI w cb sb gp N #[.int .i64 G.cap,.int .i64 G.q,.int .i64 G.ar,.int .i64 G.ag,.int .u64 G.sd,.int .i64 G.t,.int .i64 G.tau,.slice ja N jc] #[.slice a1 N q1,.slice (some ⟨tb,tf,none⟩) (N+1) q2,.slice a3 N q3] Y ⟨G.cap,l,js++(LL.drop k).map jt0,0⟩ wr) (fun _ s11 _=>N - intA s11)
   case atStart=>exact ⟨0,Nat.zero_le _,rfl,J0.out⟩
   case round =>
    obtain ⟨k,hk,rfl,js,Y2,hjs,hI⟩:=hrel
    have HI:=hid hI
    have HJS:=hid hjs
    clear hI hjs J0
    rcases Nat.lt_or_ge k N with hlt|hge
    ·obtain ⟨⟨j,pl⟩,hjl⟩:∃x,LL[k]? = some x:=⟨_,List.getElem?_eq_getElem (by rw [HL.out];exact hlt)⟩
     have HJL:=hid hjl
     obtain ⟨jb_,joff,hca,hcl,-⟩:=(HA.out wr HI.out.bel).in_.at_ k (List.getElem?_eq_some_iff.1 hjl).1
     rw [(List.getElem?_eq_some_iff.1 hjl).2] at hcl
     have hca:ja=some ⟨jb_,joff,none⟩:=hca
     rw [hca]
     have HCA:=hid hca
     have LP:=hid (JbAt.pol (o:=joff+k*30) (j:=j) hcl)
     have SP:=hid (Go.run_storeVar_new (P:=Tryz.prog) wr 55 (poV zPo) (poV j.y) po_info rfl (by simp [poV,Value.oneCell']))
     have hok:=okJ_parts (by have:=HC.out.all k (List.getElem?_eq_some_iff.1 hjl).1;rwa [(List.getElem?_eq_some_iff.1 hjl).2] at this)
     have HOK:=hid hok
     have hn9:N≤200:=HN9.out
     have k7:wr.cell? ⟨cb,7,none⟩=some (.slice (some ⟨jb_,joff,none⟩) N jc):=by have h:wr.cell? ⟨cb,7,none⟩=some (.slice ja N jc):=HI.out.c.cell 7;rw [hca] at h;exact h
     clear hcl hok hjl
     go_upto_region 16 with (first|(refine wpList_load_by rfl 55 _ rfl jb_ (joff+k*30+15) (.agg (poV j.y)) rfl LP.out ?_)|(refine wpList_store_by rfl 55 _ _ rfl wr.heap.size 0 (.agg (poV j.y)) _ rfl rfl SP.out ?_))
     obtain ⟨W5,hW5⟩:∃W5,W5=wr.alloc (.cells (poV j.y) 55):=⟨_,rfl⟩
     have P5:Hid (Blk W5 wr.heap.size 55 (poV j.y)):=hid (by rw [hW5];exact Blk.new wr _ _)
     have B5:Hid (Below wr.heap.size wr W5):=hid (by rw [hW5];exact (Below.refl _ _).alloc (Nat.le_refl _) _)
     have I5:=hid (HI.out.next B5.out)
     rw [←hW5]
     simp only [Act.put]
     clear hW5 LP SP HI B5 k7
     generalize wr.heap.size=pb at *
     obtain ⟨tk,htk⟩:∃tk,ts[k+1]? = some tk:=⟨_,List.getElem?_eq_getElem (by have:=HRN.out.2.1;omega)⟩
     obtain ⟨r,hrk⟩:∃r,rs[k]? = some r:=⟨_,List.getElem?_eq_getElem (by have:=HRN.out.1;omega)⟩
     obtain ⟨bk,hbk⟩:∃bk,bs[k]? = some bk:=⟨_,List.getElem?_eq_getElem (by have:=HRN.out.2.2;omega)⟩
     obtain ⟨rb,rf,ha1,-⟩:=HR1.out w (Below.refl _ _) k (List.getElem?_eq_some_iff.1 hrk).1
     obtain ⟨xb,xf,ha3,-⟩:=HR3.out w (Below.refl _ _) k (List.getElem?_eq_some_iff.1 hbk).1
     have HRC:Hid (∀wx,Below w.heap.size w wx→wx.cell? ⟨rb,rf+k,none⟩=some (.int .i64 r)):=hid (fun wx hb=>by
      obtain ⟨b,o,e,h⟩:=HR1.out wx hb k (List.getElem?_eq_some_iff.1 hrk).1
      rw [ha1] at e
      injection e with e
      injection e with e1 e2
      rw [(List.getElem?_eq_some_iff.1 hrk).2] at h
      rw [e1,e2]
      exact h)
     have HXC:Hid (∀wx,Below w.heap.size w wx→∀i,i<4→wx.cell? ⟨xb,xf+k*4+i,none⟩=(bxC bk)[i]?):=hid (fun wx hb i hi=>by
      obtain ⟨b,o,e,h⟩:=HR3.out wx hb k (List.getElem?_eq_some_iff.1 hbk).1
      rw [ha3] at e
      injection e with e
      injection e with e1 e2
      rw [(List.getElem?_eq_some_iff.1 hbk).2] at h
      rw [e1,e2]
      exact h i hi)
     have HNXT:Hid (rsL LL rs ts (bs.map bsT) now (k+1)=(rsJ j.y r tk (bsT bk) now).map (js++[·])):=hid (rsL_succ HJS.out HJL.out hrk htk (by rw [List.getElem?_map,hbk];rfl))
     have HNO:Hid (rsJ j.y r tk (bsT bk) now=none→rsL LL rs ts (bs.map bsT) now (k+1)=none):=hid (fun h=>by rw [HNXT.out,h];rfl)
     have HS2:Hid ((#[.slice a1 N q1,.slice (some ⟨tb,tf,none⟩) (N+1) q2,.slice a3 N q3]:Array Value)[2]? = some (.slice (some ⟨xb,xf,none⟩) N q3)):=hid (by rw [←ha3];rfl)
     have HS0:Hid ((#[.slice a1 N q1,.slice (some ⟨tb,tf,none⟩) (N+1) q2,.slice a3 N q3]:Array Value)[0]? = some (.slice (some ⟨rb,rf,none⟩) N q1)):=hid (by rw [←ha1];rfl)
     clear hrk hbk ha1 ha3
     have HT:Hid (∀wx,Below w.heap.size w wx→wx.cell? ⟨tb,tf+(k+1),none⟩=some (.int .i64 tk)):=hid (fun wx hb=>by
      obtain ⟨b,o,e,h⟩:=HR2.out wx hb (k+1) (List.getElem?_eq_some_iff.1 htk).1
      injection e with e
      injection e with e1 e2
      rw [(List.getElem?_eq_some_iff.1 htk).2] at h
      rw [e1,e2]
      exact h)
     clear htk
     have s0:W5.cell? ⟨sb,0,none⟩=some (.slice (some ⟨rb,rf,none⟩) N q1):=(I5.out.s.cell 0).trans HS0.out
     have r0:=HRC.out W5 I5.out.bel
     have p0:W5.cell? ⟨pb,0,none⟩=some (.int .i64 j.y.cap):=P5.out.cell 0
     have ks0:=cell_regrown s0
     have kr0:=cell_regrown r0
     have kp0:=cell_regrown p0
     by_cases hr0:r<0
     ·have qr:decide (r<0)=true:=decide_eq_true hr0
      go_upto_region 16 with fail
      refine wp_region_quiet_below (by kernel_rfl) (by kernel_rfl) ?_
      repeat (go_big_quiet_step (fail))
      refine wpQuiet_nil ?_
      intro _ hw'
      obtain ⟨⟨dq,osq⟩,hw''⟩:=hw'
      subst hw''
      go_wp2_with fail
      go_ret2
      exact rres_no HCE.out HTM.out (rsG_none (k:=k+1) (HNO.out (by cases hz:(lmR j.y.t j.y.tau tk now).1<;>(unfold rsJ;rw [hz])<;>(try (simp only;rw [if_pos (.inl hr0)])))) (by rw [HL.out];omega)) (I5.out.bel.trans ((below_regrown W5 dq osq).mono I5.out.bel.size))
     have qr:decide (r<0)=false:=decide_eq_false hr0
     by_cases hrc:j.y.cap<r
     ·have qr2:decide (j.y.cap<r)=true:=decide_eq_true hrc
      go_upto_region 16 with fail
      refine wp_region_quiet_below (by kernel_rfl) (by kernel_rfl) ?_
      repeat (go_big_quiet_step (fail))
      refine wpQuiet_nil ?_
      intro _ hw'
      obtain ⟨⟨dq,osq⟩,hw''⟩:=hw'
      subst hw''
      go_wp2_with fail
      go_ret2
      exact rres_no HCE.out HTM.out (rsG_none (k:=k+1) (HNO.out (by cases hz:(lmR j.y.t j.y.tau tk now).1<;>(unfold rsJ;rw [hz])<;>(try (simp only;rw [if_pos (.inr (.inl hrc))])))) (by rw [HL.out];omega)) (I5.out.bel.trans ((below_regrown W5 dq osq).mono I5.out.bel.size))
     have qr2:decide (j.y.cap<r)=false:=decide_eq_false hrc
     go_upto_region 16 with fail
     refine wp_region_quiet_below (by kernel_rfl) (by kernel_rfl) ?_
     repeat (go_big_quiet_step (fail))
     refine wpQuiet_nil ?_
     intro _ hw'
     obtain ⟨⟨dq,osq⟩,hw''⟩:=hw'
     subst hw''
     have hb16:=below_regrown W5 dq osq
     have I16:=hid (I5.out.next hb16)
     have P16:=hid (P5.out.below hb16 P5.out.lt)
     clear hb16 s0 r0 p0 ks0 kr0 kp0 qr qr2 I5 P5
     generalize Sort.grow (redrawn W5 dq) osq=W16 at *
     have s0:W16.cell? ⟨sb,0,none⟩=some (.slice (some ⟨rb,rf,none⟩) N q1):=(I16.out.s.cell 0).trans HS0.out
     have r0:=HRC.out W16 I16.out.bel
     have hjk:=mid_get (rsL_len HJS.out) HJL.out
     obtain ⟨gb,e9,c9,ck9,-⟩:=I16.out.g.rr hjk
     have HE9:=hid e9
     rw [I16.out.gp,I16.out.n] at c9
     have ks0:=cell_regrown s0
     have kr0:=cell_regrown r0
     have kc9:=cell_regrown c9
     clear e9 ck9 hjk
     go_upto_region 18 with fail
     refine RK.wp_region_quiet_tail _ 10 _ (by rfl) (by kernel_rfl) (by kernel_rfl) (by kernel_rfl) (by kernel_rfl) (by kernel_rfl) (by kernel_rfl) (by kernel_rfl) ?_
     dsimp only [List.take_succ_cons,List.take_zero]
     repeat (go_big_quiet_step (fail))
     refine wpQuiet_nil ?_
     intro _ hw'
     obtain ⟨⟨dq2,osq2⟩,hw''⟩:=hw'
     subst hw''
     have hb17:=below_regrown W16 dq2 osq2
     have I17:=hid (I16.out.next hb17)
     have P17:=hid (P16.out.below hb17 P16.out.lt)
     clear hb17 s0 r0 c9 ks0 kr0 kc9 I16 P16
     generalize Sort.grow (redrawn W16 dq2) osq2=W17 at *
     have hjk:=mid_get (rsL_len HJS.out) HJL.out
     obtain ⟨gb2,e92,c9,ck9,fk9⟩:=I17.out.g.rr hjk
     obtain rfl:gb=gb2:=by have e:=HE9.out.symm.trans e92;injection e with e;injection e with e
     have I18:=I17.out.run hjk HE9.out (r:=r) (by show 0≤r∧r≤j.y.cap;omega)
     rw [mid_set (rsL_len HJS.out) HJL.out] at I18
     have P18:Hid (Blk (W17.setCell ⟨gb,k,none⟩ (.int .i64 r)) pb 55 (poV j.y)):=hid (by
      obtain ⟨b,cs,e,a1,-⟩:=I17.out.g.runs (by rw [I17.out.n];omega)
      rw [HE9.out] at e
      injection e with e
      injection e with e
      subst e
      exact Blk.far P17.out (blk_ne P17.out a1 (by decide)) _)
     go_upto_region 19 with fail
     obtain ⟨W18,hW18⟩:∃W18,W18=W17.setCell ⟨gb,k,none⟩ (.int .i64 r):=⟨_,rfl⟩
     rw [←hW18] at I18 P18 ⊢
     have I18:=hid I18
     clear hW18 hjk c9 ck9 fk9 e92 I17 P17 HE9
     have hjk:=mid_get2 (r:=(LL.drop (k+1)).map jt0) (rsL_len HJS.out) (⟨(jt0 (j,pl)).cap,r,(jt0 (j,pl)).lm,(jt0 (j,pl)).bx⟩:Jt)
     obtain ⟨ob,os_,hoa,hob,hok2⟩:=I18.out.g.ones (by rw [I18.out.n];omega)
     obtain ⟨bb,bs_,hba,hbb,hbk2⟩:=I18.out.g.boxs (by rw [I18.out.n];omega)
     have HOA:=hid hoa
     have HBA:=hid hba
     have OBS:=hid hob
     have BBS:=hid hbb
     have HOK2:Hid (os_[k]? = some (.pointer (some ⟨Y2.li k,0,none⟩))):=hid (hok2 k (by rw [I18.out.n];exact hlt))
     have HBK:Hid (bs_[k]? = some (.pointer (some ⟨Y2.bo k,0,none⟩))):=hid (hbk2 k (by rw [I18.out.n];exact hlt))
     obtain ⟨gcs,hgcs⟩:∃gcs,gcs=Y2.cells ⟨G.cap,l,js++⟨(jt0 (j,pl)).cap,r,(jt0 (j,pl)).lm,(jt0 (j,pl)).bx⟩::(LL.drop (k+1)).map jt0,0⟩:=⟨_,rfl⟩
     have GT:Hid (Blk W18 gp 150 gcs):=hid (by rw [hgcs,←I18.out.gp];exact I18.out.g.gate)
     have HC11:Hid (gcs[11]? = some (.slice (some ⟨ob,0,none⟩) N Y2.oc)):=hid (by
      rw [hgcs]
      show some (Value.slice Y2.oa _ Y2.oc)=_
      rw [hoa,I18.out.n])
     have HC12:Hid (gcs[12]? = some (.slice (some ⟨bb,0,none⟩) N Y2.bc)):=hid (by
      rw [hgcs]
      show some (Value.slice Y2.ba _ Y2.bc)=_
      rw [hba,I18.out.n])
     have HOW:Hid (w.heap.size≤ob):=hid (I18.out.sup _ (.inr (.inl ⟨by omega,0,hoa⟩)))
     have HBW:Hid (w.heap.size≤bb):=hid (I18.out.sup _ (.inr (.inr (.inl ⟨by omega,0,hba⟩))))
     clear hgcs hoa hob hok2 hba hbb hbk2 hjk
     obtain ⟨⟨ol,er⟩,hlr⟩:∃r,lmR j.y.t j.y.tau tk now=r:=⟨_,rfl⟩
     have HER:Hid (ol=none→er≠0):=hid (fun h=>by have:=lmR_no (t:=j.y.t) (tau:=j.y.tau) (tat:=tk) (now:=now) (by rw [hlr];exact h);rw [hlr] at this;exact this)
     have HLI:Hid (∀l,ol=some l→l.Inv∧er=0):=hid (fun l h=>by have:=lmR_inv (t:=j.y.t) (tau:=j.y.tau) (tat:=tk) (now:=now) HOK.out.2.1 (x:=l) (by rw [hlr];exact h);rw [hlr] at this;exact this)
     have HLR3:Hid ((lmR j.y.t j.y.tau tk now).1=ol):=hid (by rw [hlr])
     have HLR:Hid (∀wx:World,W18.heap.size≤wx.heap.size→Calls Tryz.prog 94 #[.agg #[.int .i64 j.y.t,.int .i64 j.y.tau],.int .i64 tk,.int .i64 now] wx fun e w'=>∃pv,e=.returned (.tuple #[pv,.int .i64 er])∧Below wx.heap.size wx w'∧RLmV w' W18 ol pv):=hid (fun wx hz=>by have:=rlr_ok (t:=j.y.t) (tau:=j.y.tau) (tat:=tk) (now:=now) HOK.out.2.1 hz;rw [hlr] at this;exact this)
     clear hlr
     have hwk:IntKind.i64.wrap ((k:Int)+1)=(k:Int)+1:=IntWalk.i64_in _ (by omega)
     refine wp_region_put (R:=RH2 W18 14 19 ob k er ol (Q19r gp k pb sb tb (tf+(k+1)) ob (.slice (some ⟨ob,0,none⟩) N Y2.oc) (.slice (some ⟨tb,tf,none⟩) (N+1) q2) j.y.t j.y.tau tk now)) (by kernel_rfl) (by kernel_rfl) (by kernel_rfl) (by kernel_rfl) ?_ ?_ ?_
     ·intro v
      exact ⟨fun i hi=>(rep_not hi).elim,fun hz=>(rep_not hz).elim,fun hz=>(rep_not hz).elim,fun hz=>(rep_not hz).elim,fun hz=>(rep_not hz).elim,fun hz=>(rep_not hz).elim,fun hz=>(rep_not hz).elim,fun _=>(Below.refl _ _).drew,fun hz=>(rep_not hz).elim,fun hz=>(rep_not hz).elim⟩
     ·intro Q' K_ listed v wx i o hsz ho hli ha hR hK
      have HV:=hid hR
      have HSZ:=hid (show listed.size=21 from hsz)
      have dep:=fun d hd=>HV.out.pl d (dep_listed ha d hd)
      have hi:i<21:=(List.getElem?_eq_some_iff.1 ho).1
      clear hR hsz
      obtain rfl|rfl|rfl|rfl|rfl|rfl|rfl|rfl|rfl|rfl|rfl|rfl|rfl|rfl|rfl|rfl|rfl|rfl|rfl|rfl|rfl:i=0∨i=1∨i=2∨i=3∨i=4∨i=5∨i=6∨i=7∨i=8∨i=9∨i=10∨i=11∨i=12∨i=13∨i=14∨i=15∨i=16∨i=17∨i=18∨i=19∨i=20:=by omega
      ·-- operation 0
       cases ho
       simp only [pq] at hK ⊢
       go_simp
       exact hK _ _ (HV.out.step (by decide) (by decide) rfl)
      ·-- operation 1
       cases ho
       have h0:v 0=_:=dep 0 (by kernel_rfl)
       simp only [pq,h0] at hK ⊢
       go_simp
       exact hK _ _ (HV.out.step (by decide) (by decide) rfl)
      ·-- operation 2
       cases ho
       have h1:v 1=_:=dep 1 (by kernel_rfl)
       simp only [pq,h1] at hK ⊢
       go_simp
       exact hK _ _ (HV.out.step (by decide) (by decide) rfl)
      ·-- operation 3
       cases ho
       have h2:v 2=_:=dep 2 (by kernel_rfl)
       have hz:=HV.out.z (HV.out.noS (by rw [HSZ.out];decide) (show 3≤14+2 by decide) hli)
       have c11:wx.cell? ⟨gp,11,none⟩=some (.slice (some ⟨ob,0,none⟩) N Y2.oc):=(GT.out.below hz GT.out.lt).cell 11 |>.trans HC11.out
       simp only [pq,h2] at hK ⊢
       go_simp
       exact hK _ _ (HV.out.step (by decide) (by decide) rfl)
      ·-- operation 4
       cases ho
       simp only [pq] at hK ⊢
       go_simp
       exact hK _ _ (HV.out.step (by decide) (by decide) rfl)
      ·-- operation 5
       cases ho
       simp only [pq] at hK ⊢
       go_simp
       exact hK _ _ (HV.out.step (by decide) (by decide) rfl)
      ·-- operation 6
       cases ho
       have h5:v 5=_:=dep 5 (by kernel_rfl)
       have hz:=HV.out.z (HV.out.noS (by rw [HSZ.out];decide) (show 6≤14+2 by decide) hli)
       have p6:wx.cell? ⟨pb,6,none⟩=some (.int .i64 j.y.t):=(P18.out.below hz P18.out.lt).cell 6
       have p7:wx.cell? ⟨pb,7,none⟩=some (.int .i64 j.y.tau):=(P18.out.below hz P18.out.lt).cell 7
       simp only [pq,h5] at hK ⊢
       go_simp
       exact hK _ _ (HV.out.step (by decide) (by decide) rfl)
      ·-- operation 7
       cases ho
       simp only [pq] at hK ⊢
       go_simp
       exact hK _ _ (HV.out.step (by decide) (by decide) rfl)
      ·-- operation 8
       cases ho
       have h7:v 7=_:=dep 7 (by kernel_rfl)
       have hz:=HV.out.z (HV.out.noS (by rw [HSZ.out];decide) (show 8≤14+2 by decide) hli)
       have s1:wx.cell? ⟨sb,1,none⟩=some (.slice (some ⟨tb,tf,none⟩) (N+1) q2):=(I18.out.s.below hz I18.out.s.lt).cell 1
       simp only [pq,h7] at hK ⊢
       go_simp
       exact hK _ _ (HV.out.step (by decide) (by decide) rfl)
      ·-- operation 9
       cases ho
       simp only [pq] at hK ⊢
       go_simp
       exact hK _ _ (HV.out.step (by decide) (by decide) rfl)
      ·-- operation 10
       cases ho
       have h9:v 9=_:=dep 9 (by kernel_rfl)
       simp only [pq,h9] at hK ⊢
       go_simp
       exact hK _ _ (HV.out.step (by decide) (by decide) rfl)
      ·-- operation 11
       cases ho
       have h8:v 8=_:=dep 8 (by kernel_rfl)
       have h10:v 10=_:=dep 10 (by kernel_rfl)
       simp only [pq,h8,h10] at hK ⊢
       go_simp
       exact hK _ _ (HV.out.step (by decide) (by decide) rfl)
      ·-- operation 12
       cases ho
       have h11:v 11=_:=dep 11 (by kernel_rfl)
       have hz:=HV.out.z (HV.out.noS (by rw [HSZ.out];decide) (show 12≤14+2 by decide) hli)
       have hc:=HT.out wx (I18.out.bel.trans (hz.mono I18.out.bel.size))
       simp only [pq,h11] at hK ⊢
       go_simp
       exact hK _ _ (HV.out.step (by decide) (by decide) rfl)
      ·-- operation 13
       cases ho
       simp only [pq] at hK ⊢
       go_simp
       exact hK _ _ (HV.out.step (by decide) (by decide) rfl)
      ·-- operation 14
       cases ho
       have h6:v 6=_:=dep 6 (by kernel_rfl)
       have h12:v 12=_:=dep 12 (by kernel_rfl)
       have h13:v 13=_:=dep 13 (by kernel_rfl)
       have hs:=HV.out.noS (by rw [HSZ.out];decide) (show 14≤14+2 by decide) hli
       have CP:=HLR.out wx (HV.out.z hs).size
       simp only [pq,h6,h12,h13] at hK ⊢
       go_simp
       refine CP.mono ?_
       rintro _ w5 ⟨pv,rfl,hb,hlm⟩
       exact hK _ _ (HV.out.call (by decide) hli hs trivial hlm hb)
      ·-- operation 15
       cases ho
       simp only [pq] at hK ⊢
       go_simp
       exact hK _ _ (HV.out.move (by decide) trivial (dep_listed ha 14 (by kernel_rfl)))
      ·-- operation 16
       cases ho
       have hm1:=HV.out.mv (dep_listed ha 15 (by kernel_rfl))
       have h15:=hm1.1.trans (HV.out.cl hm1.2)
       replace h15:v 15=.tuple #[tupA (v 14),.int .i64 er]:=h15
       simp only [pq,h15] at hK ⊢
       go_simp
       exact hK _ _ (HV.out.first (by decide) trivial (dep_listed ha 15 (by kernel_rfl)))
      ·-- operation 17
       cases ho
       have hm1:=HV.out.mv (dep_listed ha 15 (by kernel_rfl))
       have h15:=hm1.1.trans (HV.out.cl hm1.2)
       replace h15:v 15=.tuple #[tupA (v 14),.int .i64 er]:=h15
       simp only [pq,h15] at hK ⊢
       go_simp
       exact hK _ _ (HV.out.second (by decide) trivial)
      ·-- operation 18
       cases ho
       have h3:v 3=_:=dep 3 (by kernel_rfl)
       have h4:v 4=_:=dep 4 (by kernel_rfl)
       simp only [pq,h3,h4] at hK ⊢
       go_simp
       exact hK _ _ (HV.out.step (by decide) (by decide) rfl)
      ·-- operation 19
       cases ho
       have h18:v 18=_:=dep 18 (by kernel_rfl)
       have hx:=HV.out.e0 (dep_listed ha 16 (by kernel_rfl))
       have h16:=hx.1
       have hpv:=rlmV_ptr (HV.out.lm (HV.out.mv hx.2).2 hli)
       generalize ptrO (tupA (v 14))=po at hpv
       replace h16:v 16=.pointer po:=h16.trans hpv
       have HPV:=hid hpv
       have hz:=HV.out.z hli
       have hob2:=OBS.out.below hz OBS.out.lt
       have fT:wx.frozen? ⟨ob,k,none⟩=false:=hob2.frozen k
       have cT:wx.cell? ⟨ob,k,none⟩=some (.pointer (some ⟨Y2.li k,0,none⟩)):=by rw [hob2.cell];exact HOK2.out
       clear hob2
       clear hpv hx
       simp only [pq,h18,h16] at hK ⊢
       go_simp
       refine hK undef _ ?_
       have hh:=HV.out.store (by decide) hli trivial (fun q hq=>by
        obtain rfl|rfl|rfl|rfl|rfl|rfl|rfl|rfl|rfl|rfl|rfl|rfl|rfl|rfl|rfl|rfl|rfl:q=0∨q=1∨q=2∨q=3∨q=4∨q=5∨q=6∨q=7∨q=8∨q=9∨q=10∨q=11∨q=12∨q=13∨q=14∨q=15∨q=16:=by omega
        all_goals exact dep_listed ha _ (by kernel_rfl))
       rw [HPV.out] at hh
       exact hh
      ·-- operation 20
       cases ho
       have h17:=HV.out.e1 (dep_listed ha 17 (by kernel_rfl))
       replace h17:v 17=.int .i64 er:=h17
       simp only [pq,h17] at hK ⊢
       go_simp
       exact hK _ _ (HV.out.keepE (by decide) trivial)
     ·intro v listed w9_ hall hR
      have h20:=hR.as_ (hall 20 (by decide))
      replace h20:v 20=.int .i64 er:=h20
      obtain ⟨w9,hz,hlm,rfl⟩:=hR.zs (hall 19 (by decide))
      have hpv:=rlmV_ptr hlm
      generalize ptrO (tupA (v 14))=po at hpv
      rw [hpv] at hlm ⊢
      have HLM:=hid hlm
      have HB9:=hid hz
      clear hlm hpv hR hz
      simp only [pq,Nat.zero_add,Nat.reduceAdd,h20]
      clear h20 hall
      generalize v 0=v0
      generalize v 1=v1
      generalize v 2=v2
      generalize v 3=v3
      generalize v 4=v4
      generalize v 5=v5
      generalize v 6=v6
      generalize v 7=v7
      generalize v 8=v8
      generalize v 9=v9
      generalize v 10=v10
      generalize v 11=v11
      generalize v 12=v12
      generalize v 13=v13
      generalize v 14=v14
      generalize v 15=v15
      generalize v 16=v16
      generalize v 17=v17
      generalize v 18=v18
      generalize v 19=v19
      clear v
      have hobs:=OBS.out.below HB9.out OBS.out.lt
      go_upto_region 20 with fail
      obtain ⟨W19,hW19⟩:∃W19,W19=w9.setCell ⟨ob,k,none⟩ (.pointer po):=⟨_,rfl⟩
      have far19:∀{g:Nat} {t:TypeId} {cs:Array Value},Blk W18 g t cs→t≠146→Blk W19 g t cs:=fun hb hne=>by
       rw [hW19]
       have h:=hb.below HB9.out hb.lt
       exact Blk.far h (blk_ne h hobs hne) _
      have P19:=hid (far19 P18.out (by decide))
      have S19:=hid (far19 I18.out.s (by decide))
      have GT19:=hid (far19 GT.out (by decide))
      have BBS19:=hid (far19 BBS.out (by decide))
      have B19:Hid (Below w.heap.size w W19):=hid (by rw [hW19];exact (I18.out.bel.trans (HB9.out.mono I18.out.bel.size)).setCell HOW.out _)
      obtain ⟨lmk,hlmk⟩:∃lmk,lmk=blkQ (.pointer po):=⟨_,rfl⟩
      have RR:Hid (∀l2,ol=some l2→RrI w cb sb gp N #[.int .i64 G.cap,.int .i64 G.q,.int .i64 G.ar,.int .i64 G.ag,.int .u64 G.sd,.int .i64 G.t,.int .i64 G.tau,.slice ja N jc] #[.slice a1 N q1,.slice (some ⟨tb,tf,none⟩) (N+1) q2,.slice a3 N q3] ⟨Y2.g,Y2.lm,Y2.c,Y2.ja,Y2.jc,Y2.ra,Y2.rc,Y2.oa,Y2.oc,Y2.ba,Y2.bc,fun i=>if i=k then lmk else Y2.li i,Y2.bo⟩ ⟨G.cap,l,js++⟨j.y.cap,r,l2,BK.fresh j.y.f j.y.o j.y.r⟩::(LL.drop (k+1)).map jt0,0⟩ W19):=hid (fun l2 e=>by
       have hb:=HLM.out
       rw [e] at hb
       have h:=I18.out.lim HB9.out (mid_get2 (rsL_len HJS.out) _) HOA.out OBS.out (HLI.out l2 e).1 hb
       rw [mid_set2 (rsL_len HJS.out)] at h
       rw [hW19,hlmk]
       exact h)
      rw [←hW19]
      clear hW19 far19 hobs hlmk GT BBS OBS I18 P18 HB9 HLM HLR
      have GT:=GT19
      have BBS:=BBS19
      clear GT19 BBS19
      have hpo:(possB j.y.f j.y.o j.y.r (bsT bk) now)=(possB j.y.f j.y.o j.y.r ⟨bk.1,bk.2.1,bk.2.2.1,bk.2.2.2⟩ now):=rfl
      obtain ⟨pbb,hpbb⟩:∃pbb,possB j.y.f j.y.o j.y.r (bsT bk) now=pbb:=⟨_,rfl⟩
      have HPB:=hid hpbb
      have HLR:Hid (∀wx:World,W19.heap.size≤wx.heap.size→Calls Tryz.prog 95 #[.agg #[.int .i64 j.y.f,.int .i64 j.y.o,.int .i64 j.y.r],.agg #[.int .i64 bk.1,.int .i64 bk.2.1,.int .i64 bk.2.2.1,.int .i64 bk.2.2.2],.int .i64 now] wx fun e w'=>∃pv,e=.returned pv∧Below wx.heap.size wx w'∧RBxV w' W19 pbb (bringB j.y.f j.y.o j.y.r (bsT bk) now) pv):=hid (fun wx hz=>by
       have h:=rbx_ok (f:=j.y.f) (o:=j.y.o) (p:=j.y.r) (un:=bk.1) (fa:=bk.2.1) (go:=bk.2.2.1) (ud:=bk.2.2.2) HOK.out.2.2 HTM.out hz
       rw [←hpbb]
       exact h)
      clear hpo hpbb
      refine wp_region_put_tail2 _ 14 _ (R:=RH W19 13 0 (Q20r gp k pb sb xb (xf+k*4) (.slice (some ⟨bb,0,none⟩) N Y2.bc) (.slice (some ⟨xb,xf,none⟩) N q3) j.y.f j.y.o j.y.r bk now) (fun u W=>RBxV W W19 pbb (bringB j.y.f j.y.o j.y.r (bsT bk) now) u)) (by rfl) (by kernel_rfl) (by kernel_rfl) (by kernel_rfl) (by kernel_rfl) (by kernel_rfl) (by kernel_rfl) (by kernel_rfl) (by kernel_rfl) ?_ ?_ ?_
      ·intro v _
       exact ⟨fun i hi=>(rep_not hi).elim,fun hz=>(rep_not hz).elim,fun hz=>(rep_not hz).elim,fun hz=>(rep_not hz).elim,fun hz=>(rep_not hz).elim,(Below.refl _ _).drew⟩
      ·intro Q' K_ listed v wx i o hsz ho hli ha hR hK
       have HV:=hid hR
       have dep:=fun d hd=>HV.out.pl d (dep_listed ha d hd)
       have hi:i<14:=(List.getElem?_eq_some_iff.1 ho).1
       clear hR hsz
       obtain rfl|rfl|rfl|rfl|rfl|rfl|rfl|rfl|rfl|rfl|rfl|rfl|rfl|rfl:i=0∨i=1∨i=2∨i=3∨i=4∨i=5∨i=6∨i=7∨i=8∨i=9∨i=10∨i=11∨i=12∨i=13:=by omega
       ·-- operation 0
        cases ho
        simp only [pt] at hK ⊢
        go_simp
        exact hK _ _ (HV.out.step (by decide) rfl)
       ·-- operation 1
        cases ho
        have h0:v 0=_:=dep 0 (by kernel_rfl)
        simp only [pt,h0] at hK ⊢
        go_simp
        exact hK _ _ (HV.out.step (by decide) rfl)
       ·-- operation 2
        cases ho
        have h1:v 1=_:=dep 1 (by kernel_rfl)
        simp only [pt,h1] at hK ⊢
        go_simp
        exact hK _ _ (HV.out.step (by decide) rfl)
       ·-- operation 3
        cases ho
        have h2:v 2=_:=dep 2 (by kernel_rfl)
        have c12:wx.cell? ⟨gp,12,none⟩=some (.slice (some ⟨bb,0,none⟩) N Y2.bc):=(GT.out.below HV.out.z GT.out.lt).cell 12 |>.trans HC12.out
        simp only [pt,h2] at hK ⊢
        go_simp
        exact hK _ _ (HV.out.step (by decide) rfl)
       ·-- operation 4
        cases ho
        simp only [pt] at hK ⊢
        go_simp
        exact hK _ _ (HV.out.step (by decide) rfl)
       ·-- operation 5
        cases ho
        simp only [pt] at hK ⊢
        go_simp
        exact hK _ _ (HV.out.step (by decide) rfl)
       ·-- operation 6
        cases ho
        have h5:v 5=_:=dep 5 (by kernel_rfl)
        have p8:wx.cell? ⟨pb,8,none⟩=some (.int .i64 j.y.f):=(P19.out.below HV.out.z P19.out.lt).cell 8
        have p9:wx.cell? ⟨pb,9,none⟩=some (.int .i64 j.y.o):=(P19.out.below HV.out.z P19.out.lt).cell 9
        have p10:wx.cell? ⟨pb,10,none⟩=some (.int .i64 j.y.r):=(P19.out.below HV.out.z P19.out.lt).cell 10
        simp only [pt,h5] at hK ⊢
        go_simp
        exact hK _ _ (HV.out.step (by decide) rfl)
       ·-- operation 7
        cases ho
        simp only [pt] at hK ⊢
        go_simp
        exact hK _ _ (HV.out.step (by decide) rfl)
       ·-- operation 8
        cases ho
        have h7:v 7=_:=dep 7 (by kernel_rfl)
        have s2:wx.cell? ⟨sb,2,none⟩=some (.slice (some ⟨xb,xf,none⟩) N q3):=(S19.out.below HV.out.z S19.out.lt).cell 2 |>.trans HS2.out
        simp only [pt,h7] at hK ⊢
        go_simp
        exact hK _ _ (HV.out.step (by decide) rfl)
       ·-- operation 9
        cases ho
        simp only [pt] at hK ⊢
        go_simp
        exact hK _ _ (HV.out.step (by decide) rfl)
       ·-- operation 10
        cases ho
        have h8:v 8=_:=dep 8 (by kernel_rfl)
        have h9:v 9=_:=dep 9 (by kernel_rfl)
        simp only [pt,h8,h9] at hK ⊢
        go_simp
        exact hK _ _ (HV.out.step (by decide) rfl)
       ·-- operation 11
        cases ho
        have h10:v 10=_:=dep 10 (by kernel_rfl)
        have hxc:=HXC.out wx (B19.out.trans (HV.out.z.mono B19.out.size))
        have x0:wx.cell? ⟨xb,xf+k*4,none⟩=some (.int .i64 bk.1):=hxc 0 (by decide)
        have x1:wx.cell? ⟨xb,xf+k*4+1,none⟩=some (.int .i64 bk.2.1):=hxc 1 (by decide)
        have x2:wx.cell? ⟨xb,xf+k*4+2,none⟩=some (.int .i64 bk.2.2.1):=hxc 2 (by decide)
        have x3:wx.cell? ⟨xb,xf+k*4+3,none⟩=some (.int .i64 bk.2.2.2):=hxc 3 (by decide)
        clear hxc
        simp only [pt,h10] at hK ⊢
        go_simp
        exact hK _ _ (HV.out.step (by decide) rfl)
       ·-- operation 12
        cases ho
        simp only [pt] at hK ⊢
        go_simp
        exact hK _ _ (HV.out.step (by decide) rfl)
       ·-- operation 13
        cases ho
        have h6:v 6=_:=dep 6 (by kernel_rfl)
        have h11:v 11=_:=dep 11 (by kernel_rfl)
        have h12:v 12=_:=dep 12 (by kernel_rfl)
        have CP:=HLR.out wx HV.out.z.size
        simp only [pt,h6,h11,h12] at hK ⊢
        go_simp
        refine CP.mono ?_
        rintro _ w5 ⟨pv,rfl,hb,hlm⟩
        exact hK _ _ (HV.out.call hli trivial hlm hb)
      ·intro v listed w10 hall hR
       have h3:=hR.pl 3 (hall 3 (by decide))
       replace h3:v 3=.slice (some ⟨bb,0,none⟩) N Y2.bc:=h3
       have h4:=hR.pl 4 (hall 4 (by decide))
       replace h4:v 4=.int .i64 k:=h4
       have hbx:=hR.cl (hall 13 (by decide))
       have hpv:=rbxV_ptr hbx
       have HB10:=hid hR.z
       clear hR
       generalize ptrO (v 13)=po2 at hpv
       rw [hpv] at hbx
       have HBX:=hid hbx
       clear hbx
       simp only [pt,Nat.zero_add,Nat.reduceAdd,h3,h4,hpv]
       clear h3 h4 hpv hall
       generalize v 0=v0
       generalize v 1=v1
       generalize v 2=v2
       generalize v 3=v3
       generalize v 4=v4
       generalize v 5=v5
       generalize v 6=v6
       generalize v 7=v7
       generalize v 8=v8
       generalize v 9=v9
       generalize v 10=v10
       generalize v 11=v11
       generalize v 12=v12
       generalize v 13=v13
       clear v
       have hbbs:=BBS.out.below HB10.out BBS.out.lt
       have f12:w10.frozen? ⟨bb,k,none⟩=false:=hbbs.frozen k
       have dk:w10.cell? ⟨bb,k,none⟩=some (.pointer (some ⟨Y2.bo k,0,none⟩)):=by rw [hbbs.cell];exact HBK.out
       go_upto_region 21 with fail
       have hset:=hbbs.set_ k (.pointer po2)
       have GT2:Blk (w10.setCell ⟨bb,k,none⟩ (.pointer po2)) gp 150 gcs:=Blk.far (GT.out.below HB10.out GT.out.lt) (blk_ne (GT.out.below HB10.out GT.out.lt) hbbs (by decide)) _
       have HBE:Hid (Below w.heap.size w (w10.setCell ⟨bb,k,none⟩ (.pointer po2))):=hid ((B19.out.trans (HB10.out.mono B19.out.size)).setCell HBW.out _)
       have c12:(w10.setCell ⟨bb,k,none⟩ (.pointer po2)).cell? ⟨gp,12,none⟩=some (.slice (some ⟨bb,0,none⟩) N Y2.bc):=(GT2.cell 12).trans HC12.out
       have ck:(w10.setCell ⟨bb,k,none⟩ (.pointer po2)).cell? ⟨bb,k,none⟩=some (.pointer po2):=by
        rw [hset.cell,Array.getElem?_setIfInBounds_self_of_lt (Array.getElem?_eq_some_iff.1 HBK.out).1]
       have HRB:Hid (∀l2,ol=some l2→∀y,RBxV w10 W19 true y (.pointer po2)→BK.Inv y→RrI w cb sb gp N #[.int .i64 G.cap,.int .i64 G.q,.int .i64 G.ar,.int .i64 G.ag,.int .u64 G.sd,.int .i64 G.t,.int .i64 G.tau,.slice ja N jc] #[.slice a1 N q1,.slice (some ⟨tb,tf,none⟩) (N+1) q2,.slice a3 N q3] ⟨Y2.g,Y2.lm,Y2.c,Y2.ja,Y2.jc,Y2.ra,Y2.rc,Y2.oa,Y2.oc,Y2.ba,Y2.bc,fun i=>if i=k then lmk else Y2.li i,fun i=>if i=k then blkQ (.pointer po2) else Y2.bo i⟩ ⟨G.cap,l,js++⟨j.y.cap,r,l2,y⟩::(LL.drop (k+1)).map jt0,0⟩ (w10.setCell ⟨bb,k,none⟩ (.pointer po2))):=hid (fun l2 e y hy hi=>by
        have h:=(RR.out l2 e).box HB10.out (mid_get2 (rsL_len HJS.out) _) HBA.out BBS.out hi hy
        rw [mid_set2 (rsL_len HJS.out)] at h
        exact h)
       clear hset GT2 dk f12 hbbs GT BBS RR P19 S19 B19 HB10
       generalize w10.setCell ⟨bb,k,none⟩ (.pointer po2)=W21 at *
       cases hol:ol
       ·have her:er≠0:=HER.out hol
        have qe:(er==0)=false:=by rw [beq_eq_false_iff_ne];exact her
        have qe2:(er != 0)=true:=by rw [bne,qe];rfl
        clear HRB
        go_wp2_with fail
        go_ret2
        exact rres_no HCE.out HTM.out (rsG_none (k:=k+1) (HNO.out (by unfold rsJ;rw [HLR3.out,hol])) (by rw [HL.out];omega)) HBE.out
       ·rename_i l2
        obtain rfl:er=0:=(HLI.out _ hol).2
        cases hpb:pbb
        ·have hb:=HBX.out
         rw [hpb] at hb
         obtain rfl:po2=none:=by have h:(Value.pointer po2)=.pointer none:=hb;injection h
         clear hb HRB
         go_wp2_with fail
         go_ret2
         exact rres_no HCE.out HTM.out (rsG_none (k:=k+1) (HNO.out (by unfold rsJ;rw [HLR3.out,hol];simp only;rw [if_pos (.inr (.inr (HPB.out.trans hpb)))])) (by rw [HL.out];omega)) HBE.out
        ·have hb:=HBX.out
         rw [hpb] at hb
         have hpt:HBX.out=HBX.out:=rfl
         obtain ⟨pa,rfl⟩:∃pa,po2=some pa:=by have h:=hb.1;injection h with h;exact ⟨_,h⟩
         have IN:=hid (HRB.out l2 hol _ hb (bring_inv HOK.out.2.2 HTM.out (HPB.out.trans hpb)))
         have HN1:Hid (rsL LL rs ts (bs.map bsT) now (k+1)=some (js++[⟨j.y.cap,r,l2,bringB j.y.f j.y.o j.y.r (bsT bk) now⟩])):=hid (by rw [HNXT.out,rsJ_yes (HLR3.out.trans hol) (by omega) (by omega) (HPB.out.trans hpb)];rfl)
         clear hb hpt HRB HBX HBE
         go_wp2_with fail
         have IZ:=IN.out
         rw [List.append_cons,HCA.out] at IZ
         refine ⟨⟨k+1,by omega,by go_num,_,_,HN1.out,IZ⟩,?_⟩
         simp [intA];omega
    ·obtain rfl:N=k:=by omega
     have hd:LL.drop N=[]:=List.drop_eq_nil_of_le (by rw [HL.out];exact Nat.le_refl _)
     have IE:=HI.out
     rw [hd,List.map_nil,List.append_nil] at IE
     have HIE:=hid IE
     clear IE HI hd
     have gpe:=HIE.out.gp
     have TT:=rgtotal_ok HIE.out.g
     rw [gpe] at TT
     have htl:(⟨G.cap,l,js,0⟩:Gt).total=sumR js:=rfl
     rw [htl] at TT
     have TT':=hid (fun d os=>Calls.regrown_of ((rgtotal_ok (HIE.out.next (below_regrown wr d os)).g).mono fun e w' ⟨h1,h2⟩=>⟨h1,h2▸Below.refl _ _⟩))
     simp only [gpe,htl] at TT'
     have k0:wr.cell? ⟨cb,0,none⟩=some (.int .i64 G.cap):=HIE.out.c.cell 0
     have kk0:=cell_regrown k0
     clear TT htl
     generalize hS:sumR js=S at *
     have HSS:=hid hS
     clear hS
     go_upto_region 23 with fail
     refine wp_region_quiet_below (by kernel_rfl) (by kernel_rfl) ?_
     repeat (go_big_quiet_step (fail))
     go_big_quiet_step ((go_at_call 96;exact TT'.out _ _))
     repeat (go_big_quiet_step (fail))
     refine wpQuiet_nil ?_
     intro _ hw'
     obtain ⟨⟨dq,osq⟩,hw''⟩:=hw'
     subst hw''
     have IZ:=hid (HIE.out.next (below_regrown wr dq osq))
     clear TT' k0 kk0 HIE
     generalize Sort.grow (redrawn wr dq) osq=WZ at *
     by_cases hcp:G.cap<S
     ·have qc:decide (G.cap<S)=true:=decide_eq_true hcp
      go_wp2_with fail
      go_ret2
      refine rres_no HCE.out HTM.out (rsG_many fun ks hks=>?_) IZ.out.bel
      rw [HL.out,HJS.out] at hks
      injection hks with hks
      rw [←hks,HSS.out]
      exact hcp
     ·have qc:decide (G.cap<S)=false:=decide_eq_false hcp
      have f13:WZ.frozen? ⟨gp,13,none⟩=false:=by
       have h:=Blk.frozen IZ.out.g.gate 13
       rw [gpe] at h
       exact h
      have d13:WZ.cell? ⟨gp,13,none⟩=some (.int .i64 0):=by
       have h:=IZ.out.g.c13
       rw [gpe] at h
       exact h
      have htb2:=timeB_iff.1 HTM.out
      go_wp2_with fail
      go_ret2
      have hg:=IZ.out.g.newLast htb2
      have hgw:w.heap.size≤Y2.g:=IZ.out.sup _ (.inl (.inl rfl))
      have hbe:=IZ.out.bel.setCell (p:=⟨Y2.g,13,none⟩) hgw (.int .i64 now)
      have hres:=rres_yes (w:=w) (rs:=rs) (ts:=ts) (bs:=bs) HCE.out HTM.out (rsG_yes (by rw [HRN.out.1,HL.out]) (by rw [List.length_map,HRN.out.2.2,HL.out]) (by rw [HRN.out.2.1,HL.out]) (by rw [HT00.out,HLR2.out]) (by rw [HL.out];exact HJS.out) (by rw [HSS.out];omega)) hbe hg (fun i hi=>IZ.out.sup i (by have:=IZ.out.n;simp only at this hi;rwa [this] at hi))
      rw [gpe] at hres
      exact hres
end Go.Proofs.YtpgckpafjiojfaaGreatDoor.AD
