/- Contract of admit's All. -/
import Derived.Test.YtpgckpafjiojfaaGreatDoorAJe
open Go.Lib (hid)
set_option maxRecDepth 16000
set_option maxHeartbeats 40000000
namespace Go.Proofs.YtpgckpafjiojfaaGreatDoor.AD
open Go Go.RowKit BW
open BK (Bx BoxAt Blk only_refl only_drew only_drewN only_setCell only_trans only_of_below only_alloc below_drewN)
theorem gall_ok{w:World}{L:Ly}{x:Gt}(h:GAt w L x):Calls Tryz.prog 31 #[.pointer (some ⟨L.g,0,none⟩)] w fun e w'=>(∃v,e=.returned v∧StAt w' w.heap.size v x.runsL x.tatsL x.boxesL)∧Below w.heap.size w w':=by
 have H:=hid h
 have HN:=hid h.inv.n
 have HI_:=hid h.inv
 obtain ⟨W0,hW0⟩:∃W0,W0=w.alloc (.cells #[.slice none 0 0,.slice none 0 0,.slice none 0 0] 91):=⟨_,rfl⟩
 have hb0:Below w.heap.size w W0:=by rw [hW0];exact (Below.refl _ _).alloc (Nat.le_refl _) _
 have Z0:Hid (Blk W0 w.heap.size 91 #[.slice none 0 0,.slice none 0 0,.slice none 0 0]):=hid (by rw [hW0];exact Blk.new _ _ _)
 have HB0:=hid hb0
 have M:=hid (gmade_ok (h.below hb0))
 have HG:=hid (fun wx (hb:Below w.heap.size w wx)=>H.out.below hb)
 clear h
 go_enter Tryz.func31,Tryz.ntmps31
 go_upto_region 1 with fail
 rw [←hW0]
 clear hW0
 go_wp2_with fail
 refine (M.out).mono ?_
 rintro e_ w_ ⟨rfl,rfl⟩
 clear M
 have c2:W0.cell? ⟨L.g,2,none⟩=some (.pointer (some ⟨L.lm,0,none⟩)):=(HG.out W0 hb0).gate.cell 2
 have HT0:=hid (ftat_ok (HG.out W0 hb0).lm)
 clear hb0
 go_wp2_with fail
 refine (HT0.out).mono ?_
 rintro e_ w1 ⟨rfl,hb⟩
 have HB1:=hid hb
 clear hb HT0 c2
 go_upto_region 5 with fail
 obtain ⟨W4,hW4⟩:∃W4,W4=(w1.alloc (.cells #[.int .i64 x.both.arr] 2)).alloc (.cells #[.slice none 0 0,.slice (some ⟨w1.heap.size,0,none⟩) 1 1,.slice none 0 0] 91):=⟨_,rfl⟩
 have I4:Hid (AlI w (w1.heap.size+1) (.slice none 0 0) (.slice (some ⟨w1.heap.size,0,none⟩) 1 1) (.slice none 0 0) [] [x.both.arr] [] W4):=hid (by
  have h1:=HB1.out.size
  have h2:=HB0.out.size
  have hb4:Below w1.heap.size w1 W4:=by rw [hW4];exact two_boxes w1 _ _
  have hz:Blk w1 w.heap.size 91 #[.slice none 0 0,.slice none 0 0,.slice none 0 0]:=Z0.out.below HB1.out Z0.out.lt
  have ht:Blk W4 w1.heap.size 2 #[.int .i64 x.both.arr]:=by rw [hW4];exact (Blk.new _ _ _).alloc _
  exact ⟨by rw [hW4];exact blk_newAt (by simp),⟨rfl,.inl ⟨rfl,rfl⟩⟩,own_one ht (by omega) rfl,⟨rfl,.inl ⟨rfl,rfl⟩⟩,hz.below hb4 hz.lt,by omega,HB0.out.trans ((HB1.out.trans (hb4.mono h1)).mono h2)⟩)
 rw [←hW4]
 generalize w1.heap.size=tb at *
 obtain ⟨S,hS⟩:∃S,S=tb+1:=⟨_,rfl⟩
 rw [←hS] at I4 ⊢
 clear hW4 hS Z0 HB0 HB1
 have c3:W4.cell? ⟨L.g,3,none⟩=some (.slice L.da x.js.length L.dc):=(HG.out W4 I4.out.bel).gate.cell 3
 go_wp2_with fail
 go_loopw [27] (fun s27 wr=>∃k:Nat,k≤x.js.length∧s27=.int .i64 k∧∃rv tv bv,AlI w S rv tv bv ((x.js.take k).map (·.runs)) (x.both.arr::(x.js.take k).map (·.lm.arr)) ((x.js.take k).map (bxT ·.bx)) wr) (fun s27 _=>x.js.length - intA s27)
 case atStart=>exact ⟨0,Nat.zero_le _,rfl,_,_,_,I4.out⟩
 case round =>
  obtain ⟨k,hk,rfl,rv,tv,bv,hI⟩:=hrel
  have HI:=hid hI
  clear hI I4 c3
  rcases Nat.lt_or_ge k x.js.length with hlt|hge
  ·obtain ⟨jt,hjt⟩:∃jt,x.js[k]? = some jt:=⟨_,List.getElem?_eq_getElem hlt⟩
   have HJT:=hid hjt
   have HTK:Hid (x.js.take (k+1)=x.js.take k++[jt]):=hid (by rw [List.take_add_one,hjt];rfl)
   obtain ⟨rs,hrs⟩:∃rs,(x.js.take k).map (·.runs)=rs:=⟨_,rfl⟩
   obtain ⟨ts,hts⟩:∃ts,x.both.arr::(x.js.take k).map (·.lm.arr)=ts:=⟨_,rfl⟩
   obtain ⟨bs,hbs_⟩:∃bs,(x.js.take k).map (bxT ·.bx)=bs:=⟨_,rfl⟩
   have HLS:=hid (And.intro hrs (And.intro hts hbs_))
   have HRL:Hid (rs.length=k∧ts.length=k+1∧bs.length=k):=hid (by
    have:(x.js.take k).length=k:=by rw [List.length_take];omega
    rw [←hrs,←hts,←hbs_]
    simp only [List.length_map,List.length_cons,this,and_self])
   have HII:Hid (AlI w S rv tv bv rs ts bs wr):=hid (by rw [←hrs,←hts,←hbs_];exact HI.out)
   clear hrs hts hbs_ HI
   obtain ⟨db,ds,hda,hdb,hdc⟩:=(HG.out wr HII.out.bel).door (by omega)
   obtain ⟨hd0,hd1⟩:=hdc k hlt
   rw [hda]
   have e0:wr.cell? ⟨db,k*2,none⟩=some (.pointer (some ⟨L.li k,0,none⟩)):=by rw [hdb.cell];exact hd0
   have e1:wr.cell? ⟨db,k*2+1,none⟩=some (.pointer (some ⟨L.bo k,0,none⟩)):=by rw [hdb.cell];exact hd1
   clear hdc hd0 hd1 hdb hda hjt
   go_upto_region 8 with fail
   obtain ⟨W1,hW1⟩:∃W1,W1=wr.alloc (.cells #[.pointer (some ⟨L.li k,0,none⟩),.pointer (some ⟨L.bo k,0,none⟩)] 125):=⟨_,rfl⟩
   have D1:Hid (Blk W1 wr.heap.size 125 #[.pointer (some ⟨L.li k,0,none⟩),.pointer (some ⟨L.bo k,0,none⟩)]):=hid (by rw [hW1];exact Blk.new _ _ _)
   have B1:Hid (Below wr.heap.size wr W1):=hid (by rw [hW1];exact (Below.refl _ _).alloc (Nat.le_refl _) _)
   have hg1:=HG.out W1 (HII.out.next B1.out).bel
   have q0:W1.cell? ⟨L.g,0,none⟩=some (.pointer (some ⟨L.cp,0,none⟩)):=hg1.gate.cell 0
   have CU:=hid (cused_ok hg1.caps hg1.inv.cp (j:=k) hlt)
   rw [←hW1]
   clear hW1 e0 e1 hg1
   rw [Gt.cp_runs HJT.out] at CU
   obtain ⟨D,hD⟩:∃D,D=wr.heap.size:=⟨_,rfl⟩
   rw [←hD] at D1 ⊢
   clear hD
   go_wp2_with fail
   refine (CU.out).mono ?_
   rintro e_ w2 ⟨rfl,hb⟩
   have B2:=hid (B1.out.trans (hb.mono B1.out.size))
   have D2:=hid (D1.out.below hb D1.out.lt)
   clear hb CU q0 D1 B1
   go_upto_region 10 with fail
   obtain ⟨W3,hW3⟩:∃W3,W3=w2.alloc (.cells #[.int .i64 0,.int .i64 0,.int .i64 0,.int .i64 0] 101):=⟨_,rfl⟩
   have hb3:Below w2.heap.size w2 W3:=by rw [hW3];exact (Below.refl _ _).alloc (Nat.le_refl _) _
   have X3:Hid (Blk W3 w2.heap.size 101 #[.int .i64 0,.int .i64 0,.int .i64 0,.int .i64 0]):=hid (by rw [hW3];exact Blk.new _ _ _)
   have D3:=hid (D2.out.below hb3 D2.out.lt)
   have B3:=hid (B2.out.trans (hb3.mono B2.out.size))
   have hlX:wr.heap.size≤w2.heap.size:=B2.out.size
   rw [←hW3]
   generalize w2.heap.size=X9 at *
   clear hW3 hb3 D2 B2
   have d1:W3.cell? ⟨D,1,none⟩=some (.pointer (some ⟨L.bo k,0,none⟩)):=D3.out.cell 1
   have UC:=hid (BK.until_ok ((HG.out W3 (HII.out.next B3.out).bel).job k jt HJT.out).2)
   go_wp2_with fail
   refine (UC.out).mono ?_
   rintro e_ w_ ⟨rfl,rfl⟩
   have x0:W3.cell? ⟨X9,0,none⟩=some (.int .i64 0):=X3.out.cell 0
   have f0:W3.frozen? ⟨X9,0,none⟩=false:=X3.out.frozen 0
   clear UC d1
   go_upto_region 11 with fail
   obtain ⟨W5,hW5⟩:∃W5,W5=W3.setCell ⟨X9,0,none⟩ (.int .i64 (BK.untilOf jt.bx)):=⟨_,rfl⟩
   have X5:Hid (Blk W5 X9 101 #[.int .i64 (BK.untilOf jt.bx),.int .i64 0,.int .i64 0,.int .i64 0]):=hid (by rw [hW5];exact X3.out.set_ 0 _)
   have D5:Hid (Blk W5 D 125 #[.pointer (some ⟨L.li k,0,none⟩),.pointer (some ⟨L.bo k,0,none⟩)]):=hid (by rw [hW5];exact D3.out.far (blk_ne D3.out X3.out (by decide)) _)
   have B5:Hid (Below wr.heap.size wr W5):=hid (by rw [hW5];exact B3.out.setCell hlX _)
   rw [←hW5]
   clear hW5 x0 f0 X3 D3 B3
   have d1:W5.cell? ⟨D,1,none⟩=some (.pointer (some ⟨L.bo k,0,none⟩)):=D5.out.cell 1
   have CC:=hid (BK.counts_ok ((HG.out W5 (HII.out.next B5.out).bel).job k jt HJT.out).2)
   go_wp2_with fail
   refine (CC.out).mono ?_
   rintro e_ w6 ⟨rfl,nd,hw6⟩
   have hb6:Below W5.heap.size W5 w6:=by rw [hw6];exact below_drewN (Below.refl _ _) nd
   have X6:=hid (X5.out.below hb6 X5.out.lt)
   have D6:=hid (D5.out.below hb6 D5.out.lt)
   have B6:=hid (B5.out.trans (hb6.mono B5.out.size))
   clear hw6 hb6 CC d1 X5 D5 B5
   have x1:w6.cell? ⟨X9,1,none⟩=some (.int .i64 0):=X6.out.cell 1
   have x2:w6.cell? ⟨X9,2,none⟩=some (.int .i64 0):=X6.out.cell 2
   have x3:w6.cell? ⟨X9,3,none⟩=some (.int .i64 0):=X6.out.cell 3
   have f1:w6.frozen? ⟨X9,1,none⟩=false:=X6.out.frozen 1
   have f2:w6.frozen? ⟨X9,2,none⟩=false:=X6.out.frozen 2
   have f3:w6.frozen? ⟨X9,3,none⟩=false:=X6.out.frozen 3
   go_upto_region 12 with fail
   obtain ⟨W9,hW9⟩:∃W9,W9=((w6.setCell ⟨X9,1,none⟩ (.int .i64 jt.bx.fails)).setCell ⟨X9,2,none⟩ (.int .i64 jt.bx.good)).setCell ⟨X9,3,none⟩ (.int .i64 jt.bx.under):=⟨_,rfl⟩
   have XX:Hid (Blk W9 X9 101 #[.int .i64 (bxT jt.bx).1,.int .i64 (bxT jt.bx).2.1,.int .i64 (bxT jt.bx).2.2.1,.int .i64 (bxT jt.bx).2.2.2]):=hid (by
    have h1:=((X6.out.set_ 1 (.int .i64 jt.bx.fails)).set_ 2 (.int .i64 jt.bx.good)).set_ 3 (.int .i64 jt.bx.under)
    have h2:Blk W9 X9 101 #[.int .i64 (BK.untilOf jt.bx),.int .i64 jt.bx.fails,.int .i64 jt.bx.good,.int .i64 jt.bx.under]:=by rw [hW9];simpa using h1
    exact h2)
   have DD:Hid (Blk W9 D 125 #[.pointer (some ⟨L.li k,0,none⟩),.pointer (some ⟨L.bo k,0,none⟩)]):=hid (by
    have hne:=blk_ne D6.out X6.out (by decide)
    rw [hW9]
    exact ((D6.out.far hne _).far hne _).far hne _)
   have B9:Hid (Below wr.heap.size wr W9):=hid (by rw [hW9];exact ((B6.out.setCell hlX _).setCell hlX _).setCell hlX _)
   have I9:=hid (HII.out.next B9.out)
   have HX9:Hid (w.heap.size≤X9∧some X9≠bv.ownBlock):=hid (by
    refine ⟨Nat.le_trans HII.out.bel.size hlX,fun e=>?_⟩
    have:=(HII.out.b.lt X9 e.symm).2
    omega)
   have HLM:=hid (fun wx (hb:Below w.heap.size w wx)=>((HG.out wx hb).job k jt HJT.out).1)
   rw [←hW9]
   clear hW9 x1 x2 x3 f1 f2 f3 X6 D6 B6 B9
   have hn9:x.js.length≤64:=HN.out
   have hml0:k+1≤maxLen:=by unfold maxLen;omega
   have hmb0:(k+1)*8≤140737488355328:=by omega
   have hml1:k+1+1≤maxLen:=by unfold maxLen;omega
   have hmb1:(k+1+1)*8≤140737488355328:=by omega
   have hml2:k+1≤maxLen:=by unfold maxLen;omega
   have hmb2:(k+1)*32≤140737488355328:=by omega
   obtain ⟨j0,a0,b0,c0,d0⟩:=info_parts info_int
   obtain ⟨j1,a1,b1,c1,d1⟩:=info_parts info_i64
   obtain ⟨j2,a2,b2,c2,d2⟩:=info_parts info_box
   refine wp_region_put_tail _ 19 _ (R:=R12 w W9 S D (L.li k) k rv tv bv rs ts bs jt.runs jt.lm.arr (bxT jt.bx)) (by rfl) (by kernel_rfl) (by kernel_rfl) (by kernel_rfl) (by kernel_rfl) (by kernel_rfl) (by kernel_rfl) (by kernel_rfl) (by kernel_rfl) ?_ ?_ ?_
   ·intro v
    have hd:=(Below.refl W9.heap.size W9).drew
    exact ⟨fun i hi=>(rep_not hi).elim,(I9.out.next hd).bel,fun g cs hc=>hc.below hd hc.lt,fun cs hc=>hc.below hd hc.lt,fun X cs _ _ h3=>.inl (h3.below hd h3.lt),⟨fun _=>by have:=(I9.out.next hd).r;rw [HRL.out.1] at this;exact this,fun _ hz=>(rep_not hz).elim,fun hz=>(rep_not hz).elim⟩,⟨fun _=>by have:=(I9.out.next hd).t;rw [HRL.out.2.1] at this;exact this,fun _ hz=>(rep_not hz).elim,fun hz=>(rep_not hz).elim⟩,⟨fun _=>by have:=(I9.out.next hd).b;rw [HRL.out.2.2] at this;exact this,fun _ hz=>(rep_not hz).elim,fun hz=>(rep_not hz).elim⟩,hd.size,⟨fun hz=>(rep_not hz).elim,fun hz=>(rep_not hz).elim,fun hz=>(rep_not hz).elim,fun hz=>(rep_not hz).elim⟩⟩
   ·intro Q' K_ listed v wx i o hsz ho hli ha hR hK
    have HV:=hid hR
    have dep:=fun d hd=>hR.all d (dep_listed ha d hd)
    have HSZ:=hid (show listed.size=24 from hsz)
    have hi:i<19:=(List.getElem?_eq_some_iff.1 ho).1
    clear hR hsz
    obtain rfl|rfl|rfl|rfl|rfl|rfl|rfl|rfl|rfl|rfl|rfl|rfl|rfl|rfl|rfl|rfl|rfl|rfl|rfl:i=0∨i=1∨i=2∨i=3∨i=4∨i=5∨i=6∨i=7∨i=8∨i=9∨i=10∨i=11∨i=12∨i=13∨i=14∨i=15∨i=16∨i=17∨i=18:=by omega
    ·-- operation 0
     cases ho
     simp only [pt] at hK ⊢
     go_simp
     exact hK _ _ (HV.out.step (by decide) (Below.refl _ _) rfl)
    ·-- operation 1
     cases ho
     have h0:v 0=_:=dep 0 (by kernel_rfl)
     have c0:wx.cell? ⟨S,0,none⟩=some rv:=(HV.out.st _ _ I9.out.st).cell 0
     simp only [pt,h0] at hK ⊢
     go_simp
     exact hK _ _ (HV.out.step (by decide) (Below.refl _ _) rfl)
    ·-- operation 2
     cases ho
     simp only [pt] at hK ⊢
     go_simp
     exact hK _ _ (HV.out.step (by decide) (Below.refl _ _) rfl)
    ·-- operation 3
     cases ho
     have h2:v 2=_:=dep 2 (by kernel_rfl)
     simp only [pt,h2] at hK ⊢
     go_simp
     exact hK _ _ (HV.out.new_r (not_yet HV.out.o.1 hli (by rw [HSZ.out];decide)) (by rw [HSZ.out];decide) rfl)
    ·-- operation 4
     cases ho
     have h1:v 1=_:=dep 1 (by kernel_rfl)
     have h3:v 3=.slice (some ⟨blkS (v 3),0,none⟩) 1 1:=dep 3 (by kernel_rfl)
     have hrow:=HV.out.r.new hli (dep_listed ha 3 (by kernel_rfl))
     have hown:=HV.out.r.cur hli
     have H6:=hid h3
     generalize blkS (v 3)=r6 at h3 hrow
     have hnew:=row_news hrow
     have hbs:w.heap.size≤wx.heap.size:=HV.out.bel.size
     clear hrow
     simp only [pt,h1,h3] at hK ⊢
     refine wp_append_lies _ _ _ _ rfl w.heap.size 3 j0 (.int .i64 0) 1 8 Tryz.underlying39 a0 b0 c0 d0 rfl (by decide) rv k _ rfl hown ⟨r6,0,none⟩ 1 1 [.int .i64 jt.runs] rfl rfl hnew (by simp [Value.oneCell']) (by decide) hml0 hmb0 hbs _ rfl ?_
     intro g8 cap8 w8 hown8 hgrow8 _ _
     exact hK _ _ (HV.out.app_r hli (dep_listed ha 3 (by kernel_rfl)) hgrow8 hown8)
    ·-- operation 5
     cases ho
     simp only [pt] at hK ⊢
     go_simp
     exact hK _ _ (HV.out.step (by decide) (Below.refl _ _) rfl)
    ·-- operation 6
     cases ho
     have h5:v 5=_:=dep 5 (by kernel_rfl)
     have c1:wx.cell? ⟨S,1,none⟩=some tv:=(HV.out.st _ _ I9.out.st).cell 1
     simp only [pt,h5] at hK ⊢
     go_simp
     exact hK _ _ (HV.out.step (by decide) (Below.refl _ _) rfl)
    ·-- operation 7
     cases ho
     simp only [pt] at hK ⊢
     go_simp
     exact hK _ _ (HV.out.step (by decide) (Below.refl _ _) rfl)
    ·-- operation 8
     cases ho
     simp only [pt] at hK ⊢
     go_simp
     exact hK _ _ (HV.out.step (by decide) (Below.refl _ _) rfl)
    ·-- operation 9
     cases ho
     have h8:v 8=_:=dep 8 (by kernel_rfl)
     have d0:wx.cell? ⟨D,0,none⟩=some (.pointer (some ⟨L.li k,0,none⟩)):=(HV.out.dr _ DD.out).cell 0
     simp only [pt,h8] at hK ⊢
     go_simp
     exact hK _ _ (HV.out.step (by decide) (Below.refl _ _) rfl)
    ·-- operation 10
     cases ho
     have h7:v 7=FT:=dep 7 (by kernel_rfl)
     have h9:v 9=_:=dep 9 (by kernel_rfl)
     have CP:=ftat_ok (HLM.out wx HV.out.bel)
     unfold FT at h7
     simp only [pt,h7,h9] at hK ⊢
     go_simp
     refine CP.mono ?_
     rintro _ w5 ⟨rfl,hb⟩
     exact hK _ _ (HV.out.step (by decide) hb rfl)
    ·-- operation 11
     cases ho
     have h10:v 10=_:=dep 10 (by kernel_rfl)
     simp only [pt,h10] at hK ⊢
     go_simp
     exact hK _ _ (HV.out.new_t (not_yet HV.out.o.2.1 hli (by rw [HSZ.out];decide)) (by rw [HSZ.out];decide) rfl)
    ·-- operation 12
     cases ho
     have h6:v 6=_:=dep 6 (by kernel_rfl)
     have h11:v 11=.slice (some ⟨blkS (v 11),0,none⟩) 1 1:=dep 11 (by kernel_rfl)
     have hrow:=HV.out.t.new hli (dep_listed ha 11 (by kernel_rfl))
     have hown:=HV.out.t.cur hli
     have H6:=hid h11
     generalize blkS (v 11)=r6 at h11 hrow
     have hnew:=row_news hrow
     have hbs:w.heap.size≤wx.heap.size:=HV.out.bel.size
     clear hrow
     simp only [pt,h6,h11] at hK ⊢
     refine wp_append_lies _ _ _ _ rfl w.heap.size 2 j1 (.int .i64 0) 1 8 Tryz.underlying40 a1 b1 c1 d1 rfl (by decide) tv (k+1) _ rfl hown ⟨r6,0,none⟩ 1 1 [.int .i64 jt.lm.arr] rfl rfl hnew (by simp [Value.oneCell']) (by decide) hml1 hmb1 hbs _ rfl ?_
     intro g8 cap8 w8 hown8 hgrow8 _ _
     exact hK _ _ (HV.out.app_t hli (dep_listed ha 11 (by kernel_rfl)) hgrow8 hown8)
    ·-- operation 13
     cases ho
     simp only [pt] at hK ⊢
     go_simp
     exact hK _ _ (HV.out.step (by decide) (Below.refl _ _) rfl)
    ·-- operation 14
     cases ho
     have h13:v 13=_:=dep 13 (by kernel_rfl)
     have c2:wx.cell? ⟨S,2,none⟩=some bv:=(HV.out.st _ _ I9.out.st).cell 2
     simp only [pt,h13] at hK ⊢
     go_simp
     exact hK _ _ (HV.out.step (by decide) (Below.refl _ _) rfl)
    ·-- operation 15
     cases ho
     have hX:=(HV.out.bx X9 _ HX9.out.1 HX9.out.2 XX.out).resolve_right (fun e=>by rw [HV.out.o.2.2.2 (HV.out.o.2.2.1 e)] at hli;cases hli)
     have x0:wx.cell? ⟨X9,0,none⟩=some (.int .i64 (bxT jt.bx).1):=hX.cell 0
     have x1:wx.cell? ⟨X9,1,none⟩=some (.int .i64 (bxT jt.bx).2.1):=hX.cell 1
     have x2:wx.cell? ⟨X9,2,none⟩=some (.int .i64 (bxT jt.bx).2.2.1):=hX.cell 2
     have x3:wx.cell? ⟨X9,3,none⟩=some (.int .i64 (bxT jt.bx).2.2.2):=hX.cell 3
     clear hX
     simp only [pt] at hK ⊢
     go_simp
     exact hK _ _ (HV.out.step (by decide) (Below.refl _ _) rfl)
    ·-- operation 16
     cases ho
     have h15:v 15=_:=dep 15 (by kernel_rfl)
     simp only [pt,h15] at hK ⊢
     go_simp
     exact hK _ _ (HV.out.new_b (not_yet HV.out.o.2.2.1 hli (by rw [HSZ.out];decide)) (by rw [HSZ.out];decide) (dep_listed ha 15 (by kernel_rfl)) rfl)
    ·-- operation 17
     cases ho
     have h14:v 14=_:=dep 14 (by kernel_rfl)
     have h16:v 16=.slice (some ⟨blkS (v 16),0,none⟩) 1 1:=dep 16 (by kernel_rfl)
     have hrow:=HV.out.b.new hli (dep_listed ha 16 (by kernel_rfl))
     have hown:=HV.out.b.cur hli
     have H6:=hid h16
     generalize blkS (v 16)=r6 at h16 hrow
     have hnew:=row_news hrow
     have hbs:w.heap.size≤wx.heap.size:=HV.out.bel.size
     clear hrow
     simp only [pt,h14,h16] at hK ⊢
     refine wp_append_lies _ _ _ _ rfl w.heap.size 101 j2 (.agg #[.int .i64 0,.int .i64 0,.int .i64 0,.int .i64 0]) 4 32 Tryz.underlying89 a2 b2 c2 d2 rfl (by decide) bv k _ rfl hown ⟨r6,0,none⟩ 1 1 (bxC (bxT jt.bx)) rfl rfl hnew (by simp [Value.oneCell',bxC]) (by decide) hml2 hmb2 hbs _ rfl ?_
     intro g8 cap8 w8 hown8 hgrow8 _ _
     exact hK _ _ (HV.out.app_b hli (dep_listed ha 16 (by kernel_rfl)) hgrow8 hown8)
    ·-- operation 18
     cases ho
     simp only [pt] at hK ⊢
     go_simp
     exact hK _ _ (HV.out.step (by decide) (Below.refl _ _) rfl)
   ·intro v listed w9 hall hR
    have h4:=hR.all 4 (hall 4 (by decide))
    replace h4:v 4=.slice (some ⟨blkS (v 4),0,none⟩) (k+1) (capS (v 4)):=h4
    have h12:=hR.all 12 (hall 12 (by decide))
    replace h12:v 12=.slice (some ⟨blkS (v 12),0,none⟩) (k+2) (capS (v 12)):=h12
    have h17:=hR.all 17 (hall 17 (by decide))
    replace h17:v 17=.slice (some ⟨blkS (v 17),0,none⟩) (k+1) (capS (v 17)):=h17
    have h18:=hR.all 18 (hall 18 (by decide))
    replace h18:v 18=.pointer (some ⟨S,0,none⟩):=h18
    have hr:=hR.r.app (hall 4 (by decide))
    have ht:=hR.t.app (hall 12 (by decide))
    have hb:=hR.b.app (hall 17 (by decide))
    rw [h4] at hr
    rw [h12] at ht
    rw [h17] at hb
    have HST:=hid (hR.st _ _ I9.out.st)
    have HZ:=hid (hR.st _ _ I9.out.z)
    have HB9:=hid hR.bel
    clear hR hall
    generalize blkS (v 4)=g4 at h4 hr
    generalize capS (v 4)=q4 at h4 hr
    generalize blkS (v 12)=g12 at h12 ht
    generalize capS (v 12)=q12 at h12 ht
    generalize blkS (v 17)=g17 at h17 hb
    generalize capS (v 17)=q17 at h17 hb
    have HR9:=hid hr
    have HT9:=hid ht
    have HBX:=hid hb
    clear hr ht hb
    simp only [pt,h4,h12,h17,h18]
    clear h4 h12 h17 h18
    have s0:w9.cell? ⟨S,0,none⟩=some rv:=HST.out.cell 0
    have s1:w9.cell? ⟨S,1,none⟩=some tv:=HST.out.cell 1
    have s2:w9.cell? ⟨S,2,none⟩=some bv:=HST.out.cell 2
    have f0:w9.frozen? ⟨S,0,none⟩=false:=HST.out.frozen 0
    have f1:w9.frozen? ⟨S,1,none⟩=false:=HST.out.frozen 1
    have f2:w9.frozen? ⟨S,2,none⟩=false:=HST.out.frozen 2
    go_wp2_with fail
    have HP:Hid (AlI w S (.slice (some ⟨g4,0,none⟩) (k+1) q4) (.slice (some ⟨g12,0,none⟩) (k+2) q12) (.slice (some ⟨g17,0,none⟩) (k+1) q17) (rs++[jt.runs]) (ts++[jt.lm.arr]) (bs++[bxT jt.bx]) (((w9.setCell ⟨S,0,none⟩ (.slice (some ⟨g4,0,none⟩) (k+1) q4)).setCell ⟨S,1,none⟩ (.slice (some ⟨g12,0,none⟩) (k+2) q12)).setCell ⟨S,2,none⟩ (.slice (some ⟨g17,0,none⟩) (k+1) q17))):=hid (by
     have b1:=HST.out
     have b2:=b1.set_ 0 (.slice (some ⟨g4,0,none⟩) (k+1) q4)
     have b3:=b2.set_ 1 (.slice (some ⟨g12,0,none⟩) (k+2) q12)
     have b4:=b3.set_ 2 (.slice (some ⟨g17,0,none⟩) (k+1) q17)
     have hlo:w.heap.size≠S:=Nat.ne_of_lt I9.out.lo
     have hle:w.heap.size≤S:=Nat.le_of_lt I9.out.lo
     refine ⟨by simpa using b4,?_,?_,?_,((HZ.out.far hlo _).far hlo _).far hlo _,I9.out.lo,((HB9.out.setCell hle _).setCell hle _).setCell hle _⟩
     ·have:=own_set (own_set (own_set HR9.out b1 (by decide) 0 (.slice (some ⟨g4,0,none⟩) (k+1) q4)) b2 (by decide) 1 (.slice (some ⟨g12,0,none⟩) (k+2) q12)) b3 (by decide) 2 (.slice (some ⟨g17,0,none⟩) (k+1) q17)
      rw [List.length_append,HRL.out.1,List.map_append]
      exact this
     ·have:=own_set (own_set (own_set HT9.out b1 (by decide) 0 (.slice (some ⟨g4,0,none⟩) (k+1) q4)) b2 (by decide) 1 (.slice (some ⟨g12,0,none⟩) (k+2) q12)) b3 (by decide) 2 (.slice (some ⟨g17,0,none⟩) (k+1) q17)
      rw [List.length_append,HRL.out.2.1,List.map_append]
      exact this
     ·have:=own_set (own_set (own_set HBX.out b1 (by decide) 0 (.slice (some ⟨g4,0,none⟩) (k+1) q4)) b2 (by decide) 1 (.slice (some ⟨g12,0,none⟩) (k+2) q12)) b3 (by decide) 2 (.slice (some ⟨g17,0,none⟩) (k+1) q17)
      rw [List.length_append,HRL.out.2.2,List.flatMap_append,List.flatMap_singleton]
      exact this)
    have HQ:Hid (AlI w S (.slice (some ⟨g4,0,none⟩) (k+1) q4) (.slice (some ⟨g12,0,none⟩) (k+2) q12) (.slice (some ⟨g17,0,none⟩) (k+1) q17) ((x.js.take (k+1)).map (·.runs)) (x.both.arr::(x.js.take (k+1)).map (·.lm.arr)) ((x.js.take (k+1)).map (bxT ·.bx)) (((w9.setCell ⟨S,0,none⟩ (.slice (some ⟨g4,0,none⟩) (k+1) q4)).setCell ⟨S,1,none⟩ (.slice (some ⟨g12,0,none⟩) (k+2) q12)).setCell ⟨S,2,none⟩ (.slice (some ⟨g17,0,none⟩) (k+1) q17))):=hid (by
     rw [HTK.out,List.map_append,List.map_append,List.map_append,←List.cons_append,HLS.out.1,HLS.out.2.1,HLS.out.2.2]
     exact HP.out)
    refine ⟨⟨k+1,by omega,by go_num,_,_,_,HQ.out⟩,?_⟩
    simp [intA];omega
  ·obtain rfl:x.js.length=k:=by omega
   rw [List.take_length] at HI
   have s0:wr.cell? ⟨S,0,none⟩=some rv:=HI.out.st.cell 0
   have s1:wr.cell? ⟨S,1,none⟩=some tv:=HI.out.st.cell 1
   have s2:wr.cell? ⟨S,2,none⟩=some bv:=HI.out.st.cell 2
   have z0:wr.cell? ⟨w.heap.size,0,none⟩=some (.slice none 0 0):=HI.out.z.cell 0
   have z1:wr.cell? ⟨w.heap.size,1,none⟩=some (.slice none 0 0):=HI.out.z.cell 1
   have z2:wr.cell? ⟨w.heap.size,2,none⟩=some (.slice none 0 0):=HI.out.z.cell 2
   have f0:wr.frozen? ⟨w.heap.size,0,none⟩=false:=HI.out.z.frozen 0
   have f1:wr.frozen? ⟨w.heap.size,1,none⟩=false:=HI.out.z.frozen 1
   have f2:wr.frozen? ⟨w.heap.size,2,none⟩=false:=HI.out.z.frozen 2
   obtain ⟨a1,q1,h1,r1⟩:=rowI_of HI.out.r
   obtain ⟨a2,q2,h2,r2⟩:=rowL_of HI.out.t
   obtain ⟨a3,q3,h3,r3⟩:=rowB_of HI.out.b
   have HRR:=hid (And.intro r1 (And.intro r2 r3))
   have HZ:=hid HI.out.z
   have HBB:=hid HI.out.bel
   subst h1 h2 h3
   clear r1 r2 r3 HI
   go_wp2_with fail
   have hz:=((HZ.out.set_ 0 (.slice a1 ((x.js).map (·.runs)).length q1)).set_ 1 (.slice a2 (x.both.arr::(x.js).map (·.lm.arr)).length q2)).set_ 2 (.slice a3 ((x.js).map (bxT ·.bx)).length q3)
   have hle:w.heap.size≤w.heap.size:=Nat.le_refl _
   have hbw:=((HBB.out.setCell (p:=⟨w.heap.size,0,none⟩) hle (.slice a1 ((x.js).map (·.runs)).length q1)).setCell (p:=⟨w.heap.size,1,none⟩) hle (.slice a2 (x.both.arr::(x.js).map (·.lm.arr)).length q2)).setCell (p:=⟨w.heap.size,2,none⟩) hle (.slice a3 ((x.js).map (bxT ·.bx)).length q3)
   simp only [List.length_map,List.length_cons] at hz hbw
   refine bodyPost_ret (results_cell_row rfl _ _ w.heap.size _ _ (0,0) _ rfl hz Tryz.underlying91 rfl (by kernel_rfl)) rfl ?_
   refine ⟨⟨_,rfl,⟨a1,q1,a2,q2,a3,q3,?_,?_,?_,?_⟩⟩,hbw⟩
   ·simp [Gt.runsL,Gt.tatsL,Gt.boxesL]
   ·have:=((HRR.out.1.set HZ.out 0 (.slice a1 x.js.length q1)).set (HZ.out.set_ 0 _) 1 (.slice a2 (x.js.length+1) q2)).set ((HZ.out.set_ 0 _).set_ 1 _) 2 (.slice a3 x.js.length q3)
    exact this
   ·have:=((HRR.out.2.1.set HZ.out 0 (.slice a1 x.js.length q1)).set (HZ.out.set_ 0 _) 1 (.slice a2 (x.js.length+1) q2)).set ((HZ.out.set_ 0 _).set_ 1 _) 2 (.slice a3 x.js.length q3)
    exact this
   ·have:=((HRR.out.2.2.set HZ.out 0 (.slice a1 x.js.length q1)).set (HZ.out.set_ 0 _) 1 (.slice a2 (x.js.length+1) q2)).set ((HZ.out.set_ 0 _).set_ 1 _) 2 (.slice a3 x.js.length q3)
    exact this
end Go.Proofs.YtpgckpafjiojfaaGreatDoor.AD
