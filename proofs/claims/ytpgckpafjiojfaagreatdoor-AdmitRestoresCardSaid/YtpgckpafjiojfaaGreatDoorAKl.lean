/- A gate and the reference's gate show the same: slices.Equal over rows that are the same, wakemanlaw35.same, wakemanlaw35.agree. -/
import Derived.Test.YtpgckpafjiojfaaGreatDoorAKJ
import Derived.Test.YtpgckpafjiojfaaGreatDoorAJi
open Go.Lib (hid)
set_option maxRecDepth 16000
set_option maxHeartbeats 40000000
namespace Go.Proofs.YtpgckpafjiojfaaGreatDoor.AD
open Go Go.RowKit BW
open BK (Bx BoxAt RBoxAt Blk only_refl only_drew only_drewN only_setCell only_trans only_of_below only_alloc below_drewN)
theorem rbxs_run(x:BxQ)(w:World):(binOp .neq 102 (.agg #[.int .i64 x.1,.int .i64 x.2.1,.int .i64 x.2.2.1,.int .i64 x.2.2.2]) (.agg #[.int .i64 x.1,.int .i64 x.2.1,.int .i64 x.2.2.1,.int .i64 x.2.2.2])).run Tryz.prog w=.ok (.bool false) w:=by
 obtain ⟨a,b,c,d⟩:=x
 have h1:Tryz.prog.underlying 102 = some (.struct (Tryz.prog.fieldsOf 102)):=by kernel_rfl
 have h2:Tryz.prog.stoodInHeld 102 = false:=by kernel_rfl
 rw [run_neq_struct,run_equalIn_agg _ _ _ _ _ h1 h2]
 simp [go_sem]
theorem StR.below{W W':World}{v:Value}{rs ts:List Int}{bs:List BxQ}(h:StR W v rs ts bs)(hb:Below W.heap.size W W'):StR W' v rs ts bs:=by
 obtain ⟨a1,c1,a2,c2,a3,c3,e,h1,h2,h3⟩:=h
 exact ⟨a1,c1,a2,c2,a3,c3,e,h1.below hb,h2.below hb,h3.below hb⟩
theorem StAt.read{W:World}{B:Nat}{v:Value}{rs ts:List Int}{bs:List BxQ}(h:StAt W B v rs ts bs):StR W v rs ts bs:=by
 obtain ⟨a1,c1,a2,c2,a3,c3,e,h1,h2,h3⟩:=h.e
 exact ⟨a1,c1,a2,c2,a3,c3,e,.ofI h1,.of h2,.of h3⟩
theorem eqr_int(l:List Int)(a b:Option Addr)(c c2 n:Nat)(hn:l.length=n)(h9:n≤1000)(w:World)(h:Row1 w a l)(h2:Row1 w b l):Calls Tryz.prog 82 #[.slice a n c,.slice b n c2] w fun e w'=>e=.returned (.bool true)∧Below w.heap.size w w':=by
 have HN:=hid hn
 have HA:=hid h
 have HB:=hid h2
 clear hn h h2
 go_enter Tryz.func82,Tryz.ntmps82
 go_wp2_with fail
 go_loopw [13] (fun s13 wr=>∃k:Nat,s13=.int .i64 k∧k≤n∧Below w.heap.size w wr) (fun s13 _=>n - (intOf s13).toNat)
 case atStart=>exact ⟨0,rfl,Nat.zero_le _,Below.refl _ _⟩
 case round =>
  obtain ⟨k,rfl,hk,hB⟩:=hrel
  have HW:=hid hB
  have HA':=hid (HA.out.below hB)
  have HB':=hid (HB.out.below hB)
  clear hB
  by_cases hkn:k<n
  ·have hk1:k<l.length:=by rw [HN.out];exact hkn
   obtain ⟨b1,o1,rfl,p1⟩:=HA'.out k hk1
   obtain ⟨b2,o2,rfl,p2⟩:=HB'.out k hk1
   generalize l[k]=x at *
   have hq:(x != x)=false:=by simp
   clear hk1
   go_wp2_with fail
   go_quiet (fail)
   go_wp2_with fail
   refine ⟨⟨k+1,by go_num,by omega,below_drewN HW.out nq⟩,?_⟩
   simp [intOf];omega
  ·obtain rfl:k=n:=by omega
   go_wp2_with fail
   go_ret
   exact ⟨rfl,HW.out⟩
theorem eqr_i64(l:List Int)(a b:Option Addr)(c c2 n:Nat)(hn:l.length=n)(h9:n≤1000)(w:World)(h:Row1 w a l)(h2:Row1 w b l):Calls Tryz.prog 83 #[.slice a n c,.slice b n c2] w fun e w'=>e=.returned (.bool true)∧Below w.heap.size w w':=by
 have HN:=hid hn
 have HA:=hid h
 have HB:=hid h2
 clear hn h h2
 go_enter Tryz.func83,Tryz.ntmps83
 go_wp2_with fail
 go_loopw [13] (fun s13 wr=>∃k:Nat,s13=.int .i64 k∧k≤n∧Below w.heap.size w wr) (fun s13 _=>n - (intOf s13).toNat)
 case atStart=>exact ⟨0,rfl,Nat.zero_le _,Below.refl _ _⟩
 case round =>
  obtain ⟨k,rfl,hk,hB⟩:=hrel
  have HW:=hid hB
  have HA':=hid (HA.out.below hB)
  have HB':=hid (HB.out.below hB)
  clear hB
  by_cases hkn:k<n
  ·have hk1:k<l.length:=by rw [HN.out];exact hkn
   obtain ⟨b1,o1,rfl,p1⟩:=HA'.out k hk1
   obtain ⟨b2,o2,rfl,p2⟩:=HB'.out k hk1
   generalize l[k]=x at *
   have hq:(x != x)=false:=by simp
   clear hk1
   go_wp2_with fail
   go_quiet (fail)
   go_wp2_with fail
   refine ⟨⟨k+1,by go_num,by omega,below_drewN HW.out nq⟩,?_⟩
   simp [intOf];omega
  ·obtain rfl:k=n:=by omega
   go_wp2_with fail
   go_ret
   exact ⟨rfl,HW.out⟩
theorem same_ok{v v':Value}{rs ts:List Int}{bs:List BxQ}(w:World)(h:StR w v rs ts bs)(h':StR w v' rs ts bs)(hl:rs.length≤1000∧ts.length≤1000∧bs.length≤1000) :
 Calls Tryz.prog 30 #[v,v'] w fun e w'=>e=.returned (.bool true)∧Below w.heap.size w w':=by
 obtain ⟨a1,c1,a2,c2,a3,c3,rfl,h1,h2,h3⟩:=h
 obtain ⟨d1,e1,d2,e2,d3,e3,rfl,k1,k2,k3⟩:=h'
 have E1:=hid (fun W (hb:Below w.heap.size w W)=>eqr_int rs a1 d1 c1 e1 rs.length rfl hl.1 W (h1.below hb) (k1.below hb))
 have E2:=hid (fun W (hb:Below w.heap.size w W)=>eqr_i64 ts a2 d2 c2 e2 ts.length rfl hl.2.1 W (h2.below hb) (k2.below hb))
 have H3:=hid (fun W (hb:Below w.heap.size w W)=>h3.below hb)
 have K3:=hid (fun W (hb:Below w.heap.size w W)=>k3.below hb)
 have hn3:=hl.2.2
 obtain ⟨n3,hn⟩:∃n,n=bs.length:=⟨_,rfl⟩
 have HN:=hid hn
 rw [←hn] at hn3 ⊢
 generalize rs.length=n1 at *
 generalize ts.length=n2 at *
 obtain ⟨W1,hW1⟩:∃W1,W1=(w.alloc (.cells #[.slice a1 n1 c1,.slice a2 n2 c2,.slice a3 n3 c3] 91)).alloc (.cells #[.slice d1 n1 e1,.slice d2 n2 e2,.slice d3 n3 e3] 95):=⟨_,rfl⟩
 have BA:=hid (show Blk W1 w.heap.size 91 #[.slice a1 n1 c1,.slice a2 n2 c2,.slice a3 n3 c3] by rw [hW1];exact (Blk.new _ _ _).alloc _)
 have BB:=hid (show Blk W1 (w.heap.size+1) 95 #[.slice d1 n1 e1,.slice d2 n2 e2,.slice d3 n3 e3] by rw [hW1];exact blk_newAt (by simp))
 have HB:=hid (show Below w.heap.size w W1 by rw [hW1];exact two_boxes w _ _)
 clear hn h1 h2 h3 k1 k2 k3 hl
 go_enter Tryz.func30,Tryz.ntmps30
 go_upto_region 1 with fail
 rw [←hW1]
 clear hW1
 obtain ⟨ab,hab⟩:∃ab,ab=w.heap.size:=⟨_,rfl⟩
 obtain ⟨bb,hbb⟩:∃bb,bb=w.heap.size+1:=⟨_,rfl⟩
 rw [←hbb] at BB ⊢
 rw [←hab] at BA ⊢
 clear hab hbb
 have p0:W1.cell? ⟨ab,2,none⟩=some (.slice a3 n3 c3):=BA.out.cell 2
 have p1:W1.cell? ⟨bb,2,none⟩=some (.slice d3 n3 e3):=BB.out.cell 2
 go_wp2_with fail
 go_loopw [17] (fun s17 wr=>∃k:Nat,s17=.int .i64 k∧k≤n3∧Below W1.heap.size W1 wr) (fun s17 _=>n3 - (intOf s17).toNat)
 case atStart=>exact ⟨0,rfl,Nat.zero_le _,Below.refl _ _⟩
 case round =>
  clear p0 p1
  obtain ⟨k,rfl,hk,hB⟩:=hrel
  have HW:=hid (HB.out.trans (hB.mono HB.out.size))
  have HX:=hid hB
  have BA2:=hid (BA.out.below hB BA.out.lt)
  have BB2:=hid (BB.out.below hB BB.out.lt)
  clear hB
  by_cases hkn:k<n3
  ·have hk1:k<bs.length:=by rw [←HN.out];exact hkn
   obtain ⟨b1,o1,rfl,q1⟩:=H3.out wr HW.out k hk1
   obtain ⟨b2,o2,rfl,q2⟩:=K3.out wr HW.out k hk1
   generalize bs[k]=x at *
   have Q2:=hid q2
   have q1c0:wr.cell? ⟨b1,o1+k*4,none⟩=some (.int .i64 x.1):=q1 0 (by decide)
   have q1c1:wr.cell? ⟨b1,o1+k*4+1,none⟩=some (.int .i64 x.2.1):=q1 1 (by decide)
   have q1c2:wr.cell? ⟨b1,o1+k*4+2,none⟩=some (.int .i64 x.2.2.1):=q1 2 (by decide)
   have q1c3:wr.cell? ⟨b1,o1+k*4+3,none⟩=some (.int .i64 x.2.2.2):=q1 3 (by decide)
   have hq:=rbxs_run x
   have hg:Tryz.prog.eqGuardType Tryz.prog.depth 102 = false:=by kernel_rfl
   clear hk1 q1 q2
   go_upto_region 6 with fail
   obtain ⟨W5,hW5⟩:∃W5,W5=wr.alloc (.cells #[.int .i64 x.1,.int .i64 x.2.1,.int .i64 x.2.2.1,.int .i64 x.2.2.2] 101):=⟨_,rfl⟩
   have hb5:Below wr.heap.size wr W5:=by rw [hW5];exact (Below.refl _ _).alloc (Nat.le_refl _) _
   have XB:Blk W5 wr.heap.size 101 #[.int .i64 x.1,.int .i64 x.2.1,.int .i64 x.2.2.1,.int .i64 x.2.2.2]:=by rw [hW5];exact Blk.new _ _ _
   rw [←hW5]
   have H5:=hid (HX.out.trans (hb5.mono HX.out.size))
   have BB5:=hid (BB2.out.below hb5 BB2.out.lt)
   have x0:W5.cell? ⟨wr.heap.size,0,none⟩=some (.int .i64 x.1):=XB.cell 0
   have x1:W5.cell? ⟨wr.heap.size,1,none⟩=some (.int .i64 x.2.1):=XB.cell 1
   have x2:W5.cell? ⟨wr.heap.size,2,none⟩=some (.int .i64 x.2.2.1):=XB.cell 2
   have x3:W5.cell? ⟨wr.heap.size,3,none⟩=some (.int .i64 x.2.2.2):=XB.cell 3
   have q2:∀i,i<4→W5.cell? ⟨b2,o2+k*4+i,none⟩=(bxC x)[i]?:=fun i hi=>by
    have h1:=Q2.out i hi
    have h2:(bxC x)[i]? = some ((bxC x)[i]'(show i<(bxC x).length from hi)):=List.getElem?_eq_getElem _
    rw [h2] at h1 ⊢
    exact (hb5.cell (World.block_lt_of_cell? wr _ h1)).trans h1
   generalize wr.heap.size=xb at *
   have p1:W5.cell? ⟨bb,2,none⟩=some (.slice (some ⟨b2,o2,none⟩) n3 e3):=BB5.out.cell 2
   clear XB hb5 hW5 q1c0 q1c1 q1c2 q1c3
   have q2c0:W5.cell? ⟨b2,o2+k*4,none⟩=some (.int .i64 x.1):=q2 0 (by decide)
   have q2c1:W5.cell? ⟨b2,o2+k*4+1,none⟩=some (.int .i64 x.2.1):=q2 1 (by decide)
   have q2c2:W5.cell? ⟨b2,o2+k*4+2,none⟩=some (.int .i64 x.2.2.1):=q2 2 (by decide)
   have q2c3:W5.cell? ⟨b2,o2+k*4+3,none⟩=some (.int .i64 x.2.2.2):=q2 3 (by decide)
   clear q2
   go_wp2_with fail
   go_quiet (fail)
   go_wp2_with fail
   refine ⟨⟨k+1,by go_num,by omega,below_drewN H5.out nq⟩,?_⟩
   simp [intOf];omega
  ·obtain rfl:k=n3:=by omega
   have p0:wr.cell? ⟨ab,0,none⟩=some (.slice a1 n1 c1):=BA2.out.cell 0
   have p1:wr.cell? ⟨bb,0,none⟩=some (.slice d1 n1 e1):=BB2.out.cell 0
   go_wp2_with fail
   refine (E1.out wr HW.out).mono ?_
   rintro e_ w2 ⟨rfl,hb⟩
   have BA3:=hid (BA2.out.below hb BA2.out.lt)
   have BB3:=hid (BB2.out.below hb BB2.out.lt)
   have HB3:=hid (HW.out.trans (hb.mono HW.out.size))
   clear hb p0 p1 BA2 BB2
   have p0:w2.cell? ⟨ab,1,none⟩=some (.slice a2 n2 c2):=BA3.out.cell 1
   have p1:w2.cell? ⟨bb,1,none⟩=some (.slice d2 n2 e2):=BB3.out.cell 1
   go_wp2_with fail
   refine (E2.out w2 HB3.out).mono ?_
   rintro e_ w3 ⟨rfl,hb⟩
   have HB4:=hid (HB3.out.trans (hb.mono HB3.out.size))
   clear hb p0 p1
   go_wp2_with fail
   go_ret
   exact ⟨rfl,HB4.out⟩
theorem agree_ok{w:World}{L:Ly}{R:RLy}{x:Gt}(hg:GAt w L x)(hr:RAt w R x)(job now:Int):Calls Tryz.prog 29 #[.pointer (some ⟨L.g,0,none⟩),.pointer (some ⟨R.g,0,none⟩),.int .i64 job,.int .i64 now] w fun e w'=>e=.returned (.bool true)∧Below w.heap.size w w':=by
 have HG:=hid (fun W (hb:Below w.heap.size w W)=>hg.below hb)
 have HR:=hid (fun W (hb:Below w.heap.size w W)=>hr.below hb)
 clear hg hr
 go_enter Tryz.func29,Tryz.ntmps29
 have C0:=hid (gwhy_ok (HG.out w (Below.refl _ _)) job now)
 go_wp2_with fail
 refine (C0.out).mono ?_
 rintro e_ w1 ⟨rfl,hb⟩
 have B1:=hid hb
 clear hb C0
 have C1:=hid (rgWhy_ok (HR.out w1 B1.out) job now)
 go_wp2_with fail
 refine (C1.out).mono ?_
 rintro e_ w2 ⟨rfl,nq,rfl⟩
 have B2:=hid (below_drewN B1.out nq)
 generalize World.drewN w1 nq=w2 at *
 clear C1
 have C2:=hid (gnext_ok (HG.out w2 B2.out) job now)
 go_wp2_with fail
 refine (C2.out).mono ?_
 rintro e_ w3 ⟨rfl,hb⟩
 have B3:=hid (B2.out.trans (hb.mono B2.out.size))
 clear hb C2
 have C3:=hid (rgnext_ok (HR.out w3 B3.out) job now)
 go_wp2_with fail
 refine (C3.out).mono ?_
 rintro e_ w4 ⟨rfl,nq,rfl⟩
 have B4:=hid (below_drewN B3.out nq)
 generalize World.drewN w3 nq=w4 at *
 clear C3
 have C4:=hid (gstate_ok (HG.out w4 B4.out) job now)
 go_wp2_with fail
 refine (C4.out).mono ?_
 rintro e_ w5 ⟨rfl,hb⟩
 have B5:=hid (B4.out.trans (hb.mono B4.out.size))
 clear hb C4
 have C5:=hid (rgstate_ok (HR.out w5 B5.out) job now)
 go_wp2_with fail
 refine (C5.out).mono ?_
 rintro e_ w6 ⟨rfl,nq,rfl⟩
 have B6:=hid (below_drewN B5.out nq)
 generalize World.drewN w5 nq=w6 at *
 clear C5
 have C6:=hid (guntil_ok (HG.out w6 B6.out) job)
 go_wp2_with fail
 refine (C6.out).mono ?_
 rintro e_ w7 ⟨rfl,rfl⟩
 clear C6
 have C7:=hid (rguntil_ok (HR.out w6 B6.out) job)
 go_wp2_with fail
 refine (C7.out).mono ?_
 rintro e_ w8 ⟨rfl,rfl⟩
 clear C7
 generalize x.Why job now=p1
 generalize x.next job now=p2
 generalize x.state job now=p3
 generalize x.until job=p4
 go_wp2_with fail
 go_ret
 exact ⟨retB (by simp),B6.out⟩
end Go.Proofs.YtpgckpafjiojfaaGreatDoor.AD
