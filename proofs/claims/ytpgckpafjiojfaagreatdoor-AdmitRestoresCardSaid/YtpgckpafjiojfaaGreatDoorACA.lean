/- Contracts of caps: a block of 132 cells. caps: Used, Left, Free, count, Take, Give, Copy. caps: Copy and New. -/
import Derived.Test.YtpgckpafjiojfaaGreatDoorAGD
import Derived.Test.YtpgckpafjiojfaaGreatDoorACfg
import Derived.Deep.WholeRow
import Derived.Laws.CopyOwn
open Go.Lib (hid)
set_option maxRecDepth 16000
set_option maxHeartbeats 40000000
namespace Go.Proofs.YtpgckpafjiojfaaGreatDoor.AD
open Go Go.RowKit
open BK (Blk only_refl only_drew only_drewN only_setCell only_trans only_of_below only_alloc below_drewN)
structure Cp where
 all:Int
 n:Nat
 most:Nat→Int
 runs:Nat→Int
 total:Int
def Cp.cell(c:Cp)(i:Nat):Value:=if i=0 then .bool true else if i=1 then .int .i64 c.all else if i=2 then .int .i64 c.n else if i<67 then .int .i64 (c.most (i - 3)) else if i<131 then .int .i64 (c.runs (i - 67)) else .int .i64 c.total
def Cp.cells(c:Cp):Array Value:=Array.ofFn (n:=132) fun i=>c.cell i.val
def CpAt(w:World)(b:Nat)(c:Cp):Prop:=Blk w b 174 c.cells
theorem Cp.cells_get(c:Cp){i:Nat}(h:i<132):c.cells[i]? = some (c.cell i):=by
 unfold Cp.cells
 simp [h]
theorem Cp.cells_at(c:Cp){i:Nat}(h:i<c.cells.size):c.cells[i]=c.cell i:=by simp [Cp.cells]
theorem CpAt.cell{w:World}{b:Nat}{c:Cp}(h:CpAt w b c){i:Nat}(hi:i<132):w.cell? ⟨b,i,none⟩=some (c.cell i):=by rw [Blk.cell h,c.cells_get hi]
theorem CpAt.run{w:World}{b:Nat}{c:Cp}(h:CpAt w b c){j:Nat}(hj:j<64):w.cell? ⟨b,67+j,none⟩=some (.int .i64 (c.runs j)):=by
 rw [h.cell (by omega)]
 unfold Cp.cell
 rw [if_neg (by omega),if_neg (by omega),if_neg (by omega),if_neg (by omega),if_pos (by omega),Nat.add_sub_cancel_left]
theorem CpAt.cap{w:World}{b:Nat}{c:Cp}(h:CpAt w b c){j:Nat}(hj:j<64):w.cell? ⟨b,3+j,none⟩=some (.int .i64 (c.most j)):=by
 rw [h.cell (by omega)]
 unfold Cp.cell
 rw [if_neg (by omega),if_neg (by omega),if_neg (by omega),if_pos (by omega),Nat.add_sub_cancel_left]
def Cp.put(c:Cp)(j:Nat)(by':Int):Cp:=⟨c.all,c.n,c.most,fun k=>if k=j then c.runs j+by' else c.runs k,c.total+by'⟩
theorem Cp.put_cells(c:Cp){j:Nat}(hj:j<64)(by':Int):(c.cells.setIfInBounds (67+j) (.int .i64 (c.runs j+by'))).setIfInBounds 131 (.int .i64 (c.total+by'))=(c.put j by').cells:=by
 apply Array.ext
 ·simp [Cp.cells]
 ·intro i h1 h2
  have h3:i<132:=by simpa [Cp.cells] using h2
  rw [Array.getElem_setIfInBounds (by simpa [Cp.cells] using h3),Array.getElem_setIfInBounds (by simpa [Cp.cells] using h3)]
  rw [Cp.cells_at,Cp.cells_at]
  unfold Cp.cell Cp.put
  by_cases h4:131=i
  ·subst h4
   simp
  ·rw [if_neg h4]
   by_cases h5:67+j=i
   ·subst h5
    simp only [if_true]
    rw [if_neg (by omega),if_neg (by omega),if_neg (by omega),if_neg (by omega),if_pos (by omega),if_pos (by omega)]
   ·rw [if_neg h5]
    simp only
    by_cases h6:i<67
    ·rw [if_pos h6,if_pos h6]
    ·by_cases h7:i<131
     ·rw [if_pos h7,if_pos h7,if_neg (show ¬(i - 67=j) by omega)]
     ·exact absurd h3 (by omega)
section
variable{w:World}{b:Nat}{c:Cp}
theorem ctotal_ok(h:CpAt w b c):Calls Tryz.prog 56 #[.pointer (some ⟨b,0,none⟩)] w fun e w'=>e=.returned (.int .i64 c.total)∧w=w':=by
 have c131:w.cell? ⟨b,131,none⟩=some (.int .i64 c.total):=h.cell (by decide)
 clear h
 go_enter Tryz.func56,Tryz.ntmps56
 go_wp2_with fail
 go_ret
 exact ⟨rfl,rfl⟩
theorem cused1_ok(h:CpAt w b c){q r j:Nat}(hj:j<64)(hq:w.cell? ⟨q,0,none⟩=some (.pointer (some ⟨b,0,none⟩)))(hr:w.cell? ⟨r,0,none⟩=some (.int .i64 j)) :
 Calls Tryz.prog 117 #[.pointer (some ⟨q,0,none⟩),.pointer (some ⟨r,0,none⟩)] w fun e w'=>e=.returned (.tuple #[.int .i64 (c.runs j),.int .i64 0])∧∃n,w'=w.drewN n:=by
 have c1:=h.run hj
 clear h
 go_enter Tryz.func117,Tryz.ntmps117
 go_wp2_with fail
 go_quiet (fail)
 go_wp2_with fail
 go_ret2
 exact ⟨rfl,_,rfl⟩
theorem cof_ok(h:CpAt w b c){j:Nat}(hj:j<c.n)(f q r:Nat)(he:∀args w,(callFunc f args).run Tryz.prog w=.ok (.enter f args) w)(x y:Value){P:World→Prop}(hf:Calls Tryz.prog f #[.pointer (some ⟨q,0,none⟩),.pointer (some ⟨r,0,none⟩)] w fun e w'=>e=.returned (.tuple #[x,y])∧P w') :
 Calls Tryz.prog 103 #[.pointer (some ⟨b,0,none⟩),.int .i64 j,.func (.func f) #[] #[.pointer (some ⟨q,0,none⟩),.pointer (some ⟨r,0,none⟩)]] w fun e w'=>e=.returned (.tuple #[x,y])∧P w':=by
 have c0:w.cell? ⟨b,0,none⟩=some (.bool true):=h.cell (by decide)
 have c2:w.cell? ⟨b,2,none⟩=some (.int .i64 c.n):=h.cell (by decide)
 have HF:=hid hf
 clear h hf
 have hj':(j:Int)<c.n:=by omega
 have hj0:(0:Int)≤j:=by omega
 go_enter Tryz.func103,Tryz.ntmps103
 go_wp2_with fail
 refine (HF.out).mono ?_
 rintro e w' ⟨rfl,hp⟩
 have HP:=hid hp
 clear hp
 go_wp2_with fail
 go_ret2
 exact ⟨rfl,HP.out⟩
end
structure Cp.Inv(c:Cp):Prop where
 n:c.n≤64
 all:0≤c.all∧c.all≤1000
 most:∀k,k<c.n→0≤c.most k∧c.most k≤1000
 runs:∀k,k<c.n→0≤c.runs k∧c.runs k≤1000
 total:0≤c.total∧c.total≤64000
theorem CpAt.below{w w':World}{b n:Nat}{c:Cp}(h:CpAt w b c)(hb:Below n w w')(hn:b<n):CpAt w' b c:=Blk.below h hb hn
theorem two_boxes(w:World)(x y:Obj):Below w.heap.size w ((w.alloc x).alloc y):=((Below.refl _ _).alloc (Nat.le_refl _) _).alloc (by simp) _
theorem run_load1{P:Program}{ty:TypeId}(h:∀w,(isAgg ty).run P w=.ok false w)(p:Addr)(v:Value)(w:World)(hc:w.cell? p=some v):(loadVar ty p).run P w=.ok v w:=by
 unfold loadVar
 simp only [Sem.run_bind,h w,Result.andThen_ok]
 simp [hc]
theorem wpQuiet_load1{P:Program}{ops:Array Oper}{C:World→Prop}{Q:Act→Prop}{rest:List Oper}{op:Oper}{a:Act}(hw:Region.wanted op (yielded ops a.tmps)=true)(ty:TypeId)(x:Operand)(ho:op.op=.load ty x)
 (b o:Nat) (v:Value) (hx:a.eval x=.pointer (some ⟨b,o,none⟩)) (hl:∀w,C w→(loadVar ty ⟨b,o,none⟩).run P w=.ok v w)
 (h:wpQuiet P ops C Q rest (a.put op.dst v)):wpQuiet P ops C Q (op::rest) a:=by
 refine wpQuiet_step fun K hK=>?_
 rw [if_pos hw]
 refine ⟨v,fun w hc=>?_,hK _ h⟩
 unfold Oper.quietAt execOp
 simp only [ho,hx,Instr.loadAt,Instr.sureAddr,Sem.run_bind,Sem.run_pure,Result.andThen_ok,hl w hc]
 exact ⟨rfl,rfl⟩
section
variable{w:World}{b:Nat}{c:Cp}
theorem CpAt.lt(h:CpAt w b c):b<w.heap.size:=Blk.lt h
theorem cused_ok(h:CpAt w b c)(hi:c.Inv){j:Nat}(hj:j<c.n):Calls Tryz.prog 52 #[.pointer (some ⟨b,0,none⟩),.int .i64 j] w fun e w'=>e=.returned (.tuple #[.int .i64 (c.runs j),.int .i64 0])∧Below w.heap.size w w':=by
 have hn:=hi.n
 have HX:=hid (fun (W:World) (hW:CpAt W b c) (q r:Nat) hq hr=>cof_ok hW hj 117 q r (fun _ _=>rfl) _ _ (cused1_ok hW (show j<64 by omega) hq hr))
 have HH:=hid h
 clear h hi hn
 go_enter Tryz.func52,Tryz.ntmps52
 go_wp2_with fail
 refine (HX.out _ ?_ _ _ ?_ ?_).mono ?_
 ·exact HH.out.below (two_boxes w _ _) HH.out.lt
 ·simp
 ·simp
 rintro e w' ⟨rfl,n,rfl⟩
 go_wp2_with fail
 go_ret2
 exact ⟨rfl,below_drewN (two_boxes w _ _) n⟩
theorem cleft1_ok(h:CpAt w b c)(hi:c.Inv){q r j:Nat}(hj:j<c.n)(hq:w.cell? ⟨q,0,none⟩=some (.pointer (some ⟨b,0,none⟩)))(hr:w.cell? ⟨r,0,none⟩=some (.int .i64 j)) :
 Calls Tryz.prog 171 #[.pointer (some ⟨q,0,none⟩),.pointer (some ⟨r,0,none⟩)] w fun e w'=>e=.returned (.tuple #[.int .i64 (min (c.most j - c.runs j) (c.all - c.total)),.int .i64 0])∧∃n,w'=w.drewN n:=by
 have hn:=hi.n
 have c1:=h.run (show j<64 by omega)
 have c2:=h.cap (show j<64 by omega)
 have c3:w.cell? ⟨b,1,none⟩=some (.int .i64 c.all):=h.cell (by decide)
 have c4:w.cell? ⟨b,131,none⟩=some (.int .i64 c.total):=h.cell (by decide)
 have h1:=hi.most j hj
 have h2:=hi.runs j hj
 have h3:=hi.all
 have h4:=hi.total
 have hj6:j<64:=by omega
 clear h hi
 have w1:IntKind.i64.wrap (c.most j - c.runs j)=c.most j - c.runs j:=IntWalk.i64_in _ (by omega)
 have w2:IntKind.i64.wrap (c.all - c.total)=c.all - c.total:=IntWalk.i64_in _ (by omega)
 go_enter Tryz.func171,Tryz.ntmps171
 go_wp2_with fail
 go_quiet (fail)
 go_wp2_with fail
 go_ret2
 exact ⟨rfl,_,rfl⟩
theorem cleft_ok(h:CpAt w b c)(hi:c.Inv){j:Nat}(hj:j<c.n):Calls Tryz.prog 148 #[.pointer (some ⟨b,0,none⟩),.int .i64 j] w fun e w'=>e=.returned (.tuple #[.int .i64 (min (c.most j - c.runs j) (c.all - c.total)),.int .i64 0])∧Below w.heap.size w w':=by
 have HX:=hid (fun (W:World) (hW:CpAt W b c) (q r:Nat) hq hr=>cof_ok hW hj 171 q r (fun _ _=>rfl) _ _ (cleft1_ok hW hi hj hq hr))
 have HH:=hid h
 clear h hi
 go_enter Tryz.func148,Tryz.ntmps148
 go_wp2_with fail
 refine (HX.out _ ?_ _ _ ?_ ?_).mono ?_
 ·exact HH.out.below (two_boxes w _ _) HH.out.lt
 ·simp
 ·simp
 rintro e w' ⟨rfl,n,rfl⟩
 go_wp2_with fail
 go_ret2
 exact ⟨rfl,below_drewN (two_boxes w _ _) n⟩
theorem cfree_ok(h:CpAt w b c)(hi:c.Inv){j:Nat}(hj:j<c.n):Calls Tryz.prog 114 #[.pointer (some ⟨b,0,none⟩),.int .i64 j] w fun e w'=>e=.returned (.bool (decide (0<min (c.most j - c.runs j) (c.all - c.total))))∧Below w.heap.size w w':=by
 have HL:=hid (cleft_ok h hi hj)
 generalize min (c.most j - c.runs j) (c.all - c.total)=m at *
 clear h hi
 go_enter Tryz.func114,Tryz.ntmps114
 go_wp2_with fail
 refine (HL.out).mono ?_
 rintro e w' ⟨rfl,hb⟩
 have HB:=hid hb
 clear hb
 go_wp2_with fail
 go_ret
 exact ⟨rfl,HB.out⟩
theorem ccount_ok(h:CpAt w b c)(hi:c.Inv){j:Nat}(hj:j<c.n)(d:Int)(hd:d=1∨d = -1):Calls Tryz.prog 105 #[.pointer (some ⟨b,0,none⟩),.int .i64 j,.int .i64 d] w fun e w'=>e=.returned (.tuple #[.int .i64 0,.int .i64 0])∧CpAt w' b (c.put j d)∧w.grownBy w' (some b):=by
 have hn:=hi.n
 have hj6:j<64:=by omega
 have HH:=hid h
 have c1:=h.run hj6
 have c4:w.cell? ⟨b,131,none⟩=some (.int .i64 c.total):=h.cell (by decide)
 have f1:w.frozen? ⟨b,67+j,none⟩=false:=Blk.frozen h _
 have f4:w.frozen? ⟨b,131,none⟩=false:=Blk.frozen h _
 have h2:=hi.runs j hj
 have h4:=hi.total
 clear h hi
 have w1:IntKind.i64.wrap (c.runs j+d)=c.runs j+d:=IntWalk.i64_in _ (by omega)
 have w2:IntKind.i64.wrap (c.total+d)=c.total+d:=IntWalk.i64_in _ (by omega)
 go_enter Tryz.func105,Tryz.ntmps105
 go_wp2_with fail
 refine RK.wp_region_quiet_tail _ 10 _ (by rfl) (by kernel_rfl) (by kernel_rfl) (by kernel_rfl) (by kernel_rfl) (by kernel_rfl) (by kernel_rfl) (by kernel_rfl) ?_
 dsimp only [List.take_succ_cons,List.take_zero]
 repeat (go_big_quiet_step (fail))
 refine wpQuiet_load1 (by rfl) 3 _ rfl b (67+j) (.int .i64 (c.runs j)) rfl (fun W hW=>?_) ?_
 ·obtain ⟨⟨dq,osq⟩,rfl⟩:=hW
  exact run_load1 (fun _=>rfl) _ _ _ ((HH.out.below (below_regrown w dq osq) HH.out.lt).run hj6)
 conv=>arg 6;simp only [Act.put,List.setIfInBounds_toArray,List.set_cons_succ,List.set_cons_zero]
 repeat (go_big_quiet_step (fail))
 refine wpQuiet_nil ?_
 intro _ hw'
 obtain ⟨⟨dq,osq⟩,hw''⟩:=hw'
 subst hw''
 have hb0:=below_regrown w dq osq
 generalize Sort.grow (redrawn w dq) osq=W at *
 have HB:=hid hb0
 have HH2:=hid (HH.out.below hb0 HH.out.lt)
 clear hb0 c1 c4 f1 f4
 have c1:=HH2.out.run hj6
 have c4:W.cell? ⟨b,131,none⟩=some (.int .i64 c.total):=HH2.out.cell (by decide)
 have f1:W.frozen? ⟨b,67+j,none⟩=false:=Blk.frozen HH2.out _
 have f4:W.frozen? ⟨b,131,none⟩=false:=Blk.frozen HH2.out _
 go_wp2_with fail
 go_ret2
 refine ⟨rfl,?_,?_⟩
 ·have h1:=((HH2.out.set_ (67+j) (.int .i64 (c.runs j+d))).set_ 131 (.int .i64 (c.total+d)))
  rw [Cp.put_cells c hj6 d] at h1
  exact h1
 ·(repeat (first|(with_reducible exact only_of_below HB.out _)|(with_reducible refine only_drew ?_)|(with_reducible refine only_setCell ?_ (.inl rfl) _)))
theorem ctake1_ok(h:CpAt w b c)(hi:c.Inv){q r j:Nat}(hj:j<c.n)(lq:q<w.heap.size)(lr:r<w.heap.size)(hq:w.cell? ⟨q,0,none⟩=some (.pointer (some ⟨b,0,none⟩)))(hr:w.cell? ⟨r,0,none⟩=some (.int .i64 j))(hf:0<min (c.most j - c.runs j) (c.all - c.total)) :
 Calls Tryz.prog 113 #[.pointer (some ⟨q,0,none⟩),.pointer (some ⟨r,0,none⟩)] w fun e w'=>e=.returned (.tuple #[.int .i64 0,.int .i64 0])∧CpAt w' b (c.put j 1)∧w.grownBy w' (some b):=by
 have HF:=cfree_ok h hi hj
 rw [decide_eq_true hf] at HF
 have HF':=hid HF
 have HC:=hid (fun W hW=>ccount_ok (w:=W) (b:=b) hW hi hj 1 (.inl rfl))
 have HH:=hid h
 have HQ:=hid (fun (W:World) (hW:Below w.heap.size w W)=>(show W.cell? ⟨q,0,none⟩=some (.pointer (some ⟨b,0,none⟩)) by rw [hW.cell (p:=⟨q,0,none⟩) lq];exact hq))
 have HR:=hid (fun (W:World) (hW:Below w.heap.size w W)=>(show W.cell? ⟨r,0,none⟩=some (.int .i64 j) by rw [hW.cell (p:=⟨r,0,none⟩) lr];exact hr))
 clear h hi HF hf
 go_enter Tryz.func113,Tryz.ntmps113
 go_wp2_with fail
 refine (HF'.out).mono ?_
 rintro e w1 ⟨rfl,hb⟩
 have HB:=hid hb
 have k1:=HQ.out _ hb
 have k2:=HR.out _ hb
 have hc1:=hid (HH.out.below hb HH.out.lt)
 clear hb hq hr
 go_wp2_with fail
 refine (HC.out _ hc1.out).mono ?_
 rintro e w2 ⟨rfl,h3,h4⟩
 have H3:=hid h3
 have H4:=hid h4
 clear h3 h4
 go_wp2_with fail
 go_ret2
 exact ⟨rfl,H3.out,only_trans (only_of_below HB.out _) H4.out⟩
theorem cgive1_ok(h:CpAt w b c)(hi:c.Inv){q r j:Nat}(hj:j<c.n)(hq:w.cell? ⟨q,0,none⟩=some (.pointer (some ⟨b,0,none⟩)))(hr:w.cell? ⟨r,0,none⟩=some (.int .i64 j))(hf:c.runs j≠0) :
 Calls Tryz.prog 104 #[.pointer (some ⟨q,0,none⟩),.pointer (some ⟨r,0,none⟩)] w fun e w'=>e=.returned (.tuple #[.int .i64 0,.int .i64 0])∧CpAt w' b (c.put j (-1))∧w.grownBy w' (some b):=by
 have HC:=hid (fun n=>ccount_ok (w:=w.drewN n) (b:=b) (Blk.drewN h n) hi hj (-1) (.inr rfl))
 have hn:=hi.n
 have hj6:j<64:=by omega
 have c1:=h.run hj6
 have q1:(c.runs j==0)=false:=by rw [beq_eq_false_iff_ne];exact hf
 clear h hi hf
 go_enter Tryz.func104,Tryz.ntmps104
 go_wp2_with fail
 go_quiet (fail)
 go_wp2_with fail
 refine (HC.out _).mono ?_
 rintro e w2 ⟨rfl,h3,h4⟩
 have H3:=hid h3
 have H4:=hid h4
 clear h3 h4
 go_wp2_with fail
 go_ret2
 exact ⟨rfl,H3.out,only_trans (only_drewN (only_refl w _) _) H4.out⟩
theorem ctake_ok(h:CpAt w b c)(hi:c.Inv){j:Nat}(hj:j<c.n)(hf:0<min (c.most j - c.runs j) (c.all - c.total)):Calls Tryz.prog 48 #[.pointer (some ⟨b,0,none⟩),.int .i64 j] w fun e w'=>e=.returned (.int .i64 0)∧CpAt w' b (c.put j 1)∧w.grownBy w' (some b):=by
 have HX:=hid (fun (W:World) (hW:CpAt W b c) (q r:Nat) (lq:q<W.heap.size) (lr:r<W.heap.size) hq hr=>cof_ok hW hj 113 q r (fun _ _=>rfl) _ _ (ctake1_ok hW hi hj lq lr hq hr hf))
 have HH:=hid h
 clear h hi hf
 go_enter Tryz.func48,Tryz.ntmps48
 go_wp2_with fail
 refine (HX.out _ ?_ _ _ ?_ ?_ ?_ ?_).mono ?_
 ·exact HH.out.below (two_boxes w _ _) HH.out.lt
 ·simp
  omega
 ·simp
 ·simp
 ·simp
 rintro e w' ⟨rfl,h3,h4⟩
 have H3:=hid h3
 have H4:=hid h4
 clear h3 h4
 go_wp2_with fail
 go_ret
 exact ⟨rfl,H3.out,only_trans (only_of_below (two_boxes w _ _) _) H4.out⟩
theorem cgive_ok(h:CpAt w b c)(hi:c.Inv){j:Nat}(hj:j<c.n)(hf:c.runs j≠0):Calls Tryz.prog 44 #[.pointer (some ⟨b,0,none⟩),.int .i64 j] w fun e w'=>e=.returned (.int .i64 0)∧CpAt w' b (c.put j (-1))∧w.grownBy w' (some b):=by
 have HX:=hid (fun (W:World) (hW:CpAt W b c) (q r:Nat) hq hr=>cof_ok hW hj 104 q r (fun _ _=>rfl) _ _ (cgive1_ok hW hi hj hq hr hf))
 have HH:=hid h
 clear h hi hf
 go_enter Tryz.func44,Tryz.ntmps44
 go_wp2_with fail
 refine (HX.out _ ?_ _ _ ?_ ?_).mono ?_
 ·exact HH.out.below (two_boxes w _ _) HH.out.lt
 ·simp
 ·simp
 rintro e w' ⟨rfl,h3,h4⟩
 have H3:=hid h3
 have H4:=hid h4
 clear h3 h4
 go_wp2_with fail
 go_ret
 exact ⟨rfl,H3.out,only_trans (only_of_below (two_boxes w _ _) _) H4.out⟩
theorem cnone_ok(h:CpAt w b c)(hi:c.Inv){j:Nat}(hj:j<c.n)(hf:c.runs j=0):Calls Tryz.prog 44 #[.pointer (some ⟨b,0,none⟩),.int .i64 j] w fun e w'=>e=.returned (.int .i64 5)∧Below w.heap.size w w':=by
 have hn:=hi.n
 have hj6:j<64:=by omega
 have HX:Hid (∀(W:World) (hW:CpAt W b c) (q r:Nat) (hq:W.cell? ⟨q,0,none⟩=some (.pointer (some ⟨b,0,none⟩))) (hr:W.cell? ⟨r,0,none⟩=some (.int .i64 j)),Calls Tryz.prog 104 #[.pointer (some ⟨q,0,none⟩),.pointer (some ⟨r,0,none⟩)] W fun e w'=>e=.returned (.tuple #[.int .i64 0,.int .i64 5])∧∃n,w'=W.drewN n):=by
  refine hid (fun W hW q r hq hr=>?_)
  have c1:=hW.run hj6
  rw [hf] at c1
  clear hW
  go_enter Tryz.func104,Tryz.ntmps104
  go_wp2_with fail
  go_quiet (fail)
  go_wp2_with fail
  go_ret2
  exact ⟨rfl,_,rfl⟩
 have HY:=hid (fun (W:World) (hW:CpAt W b c) (q r:Nat) hq hr=>cof_ok hW hj 104 q r (fun _ _=>rfl) _ _ (HX.out W hW q r hq hr))
 have HH:=hid h
 clear h hi hf HX
 go_enter Tryz.func44,Tryz.ntmps44
 go_wp2_with fail
 refine (HY.out _ ?_ _ _ ?_ ?_).mono ?_
 ·exact HH.out.below (two_boxes w _ _) HH.out.lt
 ·simp
 ·simp
 rintro e w' ⟨rfl,n,rfl⟩
 go_wp2_with fail
 go_ret
 exact ⟨rfl,below_drewN (two_boxes w _ _) n⟩
end
end Go.Proofs.YtpgckpafjiojfaaGreatDoor.AD
namespace Go.Proofs.YtpgckpafjiojfaaGreatDoor.AD
open Go Go.RowKit BW
open BK (Blk only_refl only_drew only_drewN only_setCell only_trans only_of_below only_alloc below_drewN)
def RowI(W:World)(B:Nat)(a:Option Addr)(es:List Int):Prop:=0<es.length→∃b cs,a=some ⟨b,0,none⟩∧B≤b∧Blk W b 3 cs∧∀k (hk:k<es.length),cs[k]? = some (.int .i64 es[k])
theorem rowI_of{B:Nat}{v:Value}{es:List Int}{W:World}(h:OwnsJ B v es W):∃a cap,v=.slice a es.length cap∧RowI W B a es:=by
 obtain ⟨hl,h⟩:=h
 rcases h with ⟨rfl,h0⟩|⟨g,cap,cur,rfl,hb,hg,hn,hc,hs,ht⟩
 ·have:es=[]:=List.eq_nil_of_length_eq_zero h0
  subst this
  exact ⟨none,0,rfl,fun hk=>by simp at hk⟩
 ·refine ⟨_,cap,rfl,fun _=>⟨g,cur,rfl,hb,hg,fun k hk=>?_⟩⟩
  have h1:(es.map tcell)[k]? = some (tcell es[k]):=by simp [hk]
  rw [←ht,List.getElem?_take,if_pos (by omega)] at h1
  simpa [tcell] using h1
theorem RowI.below{W W':World}{B:Nat}{a:Option Addr}{es:List Int}(h:RowI W B a es)(hb:Below W.heap.size W W'):RowI W' B a es:=fun h0=>by
 obtain ⟨b,cs,e,h1,h2,h3⟩:=h h0
 exact ⟨b,cs,e,h1,h2.below hb h2.lt,h3⟩
theorem beyond_ok{n:Int}(h:0≤n∧n≤1000)(w:World):Calls Tryz.prog 99 #[.int .i64 n] w fun e w'=>e=.returned (.bool false)∧w=w':=by
 obtain ⟨h0,h1⟩:=h
 go_enter Tryz.func99,Tryz.ntmps99
 go_wp2_with fail
 go_ret
 exact ⟨retB (by simp;omega),rfl⟩
theorem cindex_ok{B:Nat}(es:List Int)(a:Option Addr)(cap:Nat)(hn:es.length≤64)(hB:∀n∈es,0≤n∧n≤1000)(w:World)(h:RowI w B a es) :
 Calls Tryz.prog 146 #[.slice a es.length cap,.func (.func 99) #[] #[]] w fun e w'=>e=.returned (.int .i64 (-1))∧w=w':=by
 have HH:=hid h
 have HE:=hid (fun k (hk:k<es.length) W=>beyond_ok (hB es[k] (List.getElem_mem hk)) W)
 obtain ⟨n,hnn⟩:∃n,n=es.length:=⟨_,rfl⟩
 have HN:=hid hnn
 rw [←hnn] at hn ⊢
 clear hB h hnn
 go_enter Tryz.func146,Tryz.ntmps146
 go_wp2_with fail
 go_loop [8] (fun s8=>∃k:Nat,k≤n∧s8=.int .i64 k) (fun s8=>n - intJ s8)
 case atStart=>exact ⟨0,Nat.zero_le _,rfl⟩
 case round =>
  obtain ⟨k,hk,rfl⟩:=hrel
  rcases Nat.lt_or_ge k n with hlt|hge
  ·have hkl:k<es.length:=by have:=HN.out;omega
   obtain ⟨b,cs,rfl,-,h2,h3⟩:=HH.out (by omega)
   have hc:w.cell? ⟨b,k,none⟩=some (.int .i64 es[k]):=(h2.cell k).trans (h3 k hkl)
   have CC:=hid (HE.out k hkl w)
   generalize es[k]=v at *
   clear h2 h3 hkl
   go_wp2_with fail
   refine (CC.out).mono ?_
   rintro e_ w2 ⟨rfl,rfl⟩
   go_wp2_with fail
   go_round
   case rel=>exact ⟨k+1,by omega,by go_num⟩
   case measure=>simp [intJ];omega
  ·obtain rfl:n=k:=by omega
   go_wp2_with fail
   go_ret
   exact ⟨rfl,rfl⟩
theorem ccontains_ok{B:Nat}(es:List Int)(a:Option Addr)(cap:Nat)(hn:es.length≤64)(hB:∀n∈es,0≤n∧n≤1000)(w:World)(h:RowI w B a es) :
 Calls Tryz.prog 100 #[.slice a es.length cap,.func (.func 99) #[] #[]] w fun e w'=>e=.returned (.bool false)∧w=w':=by
 have C:=hid (cindex_ok es a cap hn hB w h)
 clear hB h
 generalize es.length=n at *
 go_enter Tryz.func100,Tryz.ntmps100
 go_wp2_with fail
 refine (C.out).mono ?_
 rintro e_ w2 ⟨rfl,rfl⟩
 go_wp2_with fail
 go_ret
 exact ⟨rfl,rfl⟩
def cp0(all:Int)(es:List Int):Cp:=⟨all,es.length,fun k=>es.getD k 0,fun _=>0,0⟩
def nC(all:Int)(n:Nat):List Value:=Value.bool true::Value.int .i64 all::Value.int .i64 n::List.replicate 129 (Value.int .i64 0)
theorem cp0_cells(all:Int)(es:List Int)(hn:es.length≤64):(splice (nC all es.length) 3 (es.map fun n=>Value.int .i64 n)).toArray=(cp0 all es).cells:=by
 have hl:(nC all es.length).length=132:=rfl
 apply Array.ext
 ·simp [Cp.cells,splice,hl]
  omega
 ·intro i h1 h2
  have hi:i<132:=by simpa [Cp.cells] using h2
  have key:((splice (nC all es.length) 3 (es.map fun n=>Value.int .i64 n)))[i]? = some ((cp0 all es).cell i):=by
   unfold splice cp0 Cp.cell
   by_cases h3:i<3
   ·rw [List.getElem?_append_left (by simp [hl];omega),List.getElem?_take_of_lt h3]
    obtain rfl|rfl|rfl:i=0∨i=1∨i=2:=by omega
    all_goals rfl
   ·rw [if_neg (by omega),if_neg (by omega),if_neg (by omega)]
    have hz:∀j,3≤j→j<132→(nC all es.length)[j]? = some (.int .i64 0):=by
     intro j h4 h5
     obtain ⟨m,rfl⟩:∃m,j=m+3:=⟨j - 3,by omega⟩
     unfold nC
     rw [List.getElem?_cons_succ,List.getElem?_cons_succ,List.getElem?_cons_succ,List.getElem?_replicate,if_pos (by omega)]
    by_cases h4:i<3+es.length
    ·have e:i - (List.take 3 (nC all es.length)).length=i - 3:=by simp [hl]
     rw [List.getElem?_append_right (by simp [hl];omega),e,List.getElem?_append_left (by simp;omega)]
     rw [List.getElem?_map,List.getElem?_eq_getElem (by omega)]
     rw [if_pos (by omega)]
     show some _=some (Value.int .i64 (es.getD (i - 3) 0))
     rw [List.getD_eq_getElem?_getD,List.getElem?_eq_getElem (by omega)]
     rfl
    ·have e:i - (List.take 3 (nC all es.length)).length=i - 3:=by simp [hl]
     rw [List.getElem?_append_right (by simp [hl];omega),e,List.getElem?_append_right (by simp;omega),List.getElem?_drop]
     have e2:3+(es.map fun n=>Value.int .i64 n).length+(i - 3 - (es.map fun n=>Value.int .i64 n).length)=i:=by simp;omega
     rw [e2,hz i (by omega) hi]
     by_cases h5:i<67
     ·rw [if_pos h5]
      show some _=some (Value.int .i64 (es.getD (i - 3) 0))
      rw [List.getD_eq_getElem?_getD,List.getElem?_eq_none (by omega)]
      rfl
     ·rw [if_neg h5]
      split<;>rfl
  have h3:i<(splice (nC all es.length) 3 (es.map fun n=>Value.int .i64 n)).length:=by simpa using h1
  rw [List.getElem?_eq_getElem h3] at key
  rw [Cp.cells_at]
  simpa using Option.some.inj key
noncomputable def cpZ(all:Int)(n:Nat):Array Value:=((Tryz.zeroCells174.setIfInBounds 0 (.bool true)).setIfInBounds 1 (.int .i64 all)).setIfInBounds 2 (.int .i64 n)
theorem cpZ_eq(all:Int)(n:Nat):cpZ all n=(nC all n).toArray:=by kernel_rfl
theorem int_size:(Tryz.prog.info? 3).map (·.size)=some 1:=by kernel_rfl
theorem cp0_copy{B:Nat}(all:Int)(es:List Int)(a:Option Addr)(cap:Nat)(hn:es.length≤64)(w:World)(h:RowI w B a es) :
 ∃W2,(Builtin.copy_ #[39,39] 3 #[.slice (some ⟨w.heap.size,3,none⟩) 64 64,.slice a es.length cap]).run Tryz.prog (w.alloc (.cells (cpZ all es.length) 174))=.ok (.int .i64 es.length) W2∧Blk W2 w.heap.size 174 (splice (nC all es.length) 3 (es.map fun n=>Value.int .i64 n)).toArray∧Below w.heap.size w W2∧w.heap.size<W2.heap.size:=by
 rw [cpZ_eq]
 have hb:Below w.heap.size w (w.alloc (.cells (nC all es.length).toArray 174)):=(Below.refl _ _).alloc (Nat.le_refl _) _
 have hk:Blk (w.alloc (.cells (nC all es.length).toArray 174)) w.heap.size 174 (nC all es.length).toArray:=Blk.new w _ _
 have hs:w.heap.size<(w.alloc (.cells (nC all es.length).toArray 174)).heap.size:=by simp
 by_cases h0:es.length=0
 ·obtain rfl:es=[]:=List.eq_nil_of_length_eq_zero h0
  refine ⟨_,run_copy_none _ _ _ _ 3 _ _ _ _ _ _ Tryz.underlying39 int_size rfl,?_,hb,hs⟩
  exact hk
 ·obtain ⟨b,cs,rfl,-,h2,h3⟩:=h (by omega)
  have hr:=run_copy_row (P:=Tryz.prog) (w.alloc (.cells (nC all es.length).toArray 174)) 39 39 3 3 w.heap.size 3 64 64 ⟨b,0,none⟩ es.length cap (nC all es.length).toArray 174 (es.map fun n=>Value.int .i64 n) Tryz.underlying39 int_size hk (by rw [List.length_map];exact (Nat.min_eq_left hn).symm)
   (fun j v hj=>by
    have hjl:j<es.length:=by simpa using (List.getElem?_eq_some_iff.1 hj).1
    have e:((⟨b,0,none⟩:Addr).add j)=⟨b,j,none⟩:=by unfold Addr.add;split<;>simp_all
    rw [e,Blk.cell (Blk.below h2 hb h2.lt),h3 j hjl,←hj]
    simp [hjl]) (by simp [nC];omega) (by simp [Value.oneCell'])
  rw [List.length_map] at hr
  refine ⟨_,hr,?_,below_setRow hb (Nat.le_refl _) _,by simp [World.setRow]⟩
  have:=setRow_heap (w.alloc (.cells (nC all es.length).toArray 174)) w.heap.size (nC all es.length).toArray ((nC all es.length).take 3++(es.map fun n=>Value.int .i64 n)++(nC all es.length).drop (3+es.length)).toArray 174 (0,0) hk
  unfold splice
  rw [List.length_map,←List.append_assoc]
  exact this
theorem cpnew_ok{B:Nat}(all:Int)(es:List Int)(a:Option Addr)(cap:Nat)(hall:0≤all∧all≤1000)(hn:es.length≤64)(hB:∀n∈es,0≤n∧n≤1000)(w:World)(h:RowI w B a es) :
 Calls Tryz.prog 40 #[.int .i64 all,.slice a es.length cap] w fun e w'=>e=.returned (.tuple #[.pointer (some ⟨w.heap.size,0,none⟩),.int .i64 0])∧CpAt w' w.heap.size (cp0 all es)∧Below w.heap.size w w'∧w.heap.size<w'.heap.size:=by
 have C1:=hid (beyond_ok hall w)
 have C2:=hid (ccontains_ok es a cap hn hB w h)
 obtain ⟨W2,hW2,hk,hb,hs⟩:=cp0_copy all es a cap hn w h
 unfold cpZ at hW2
 rw [cp0_cells all es hn] at hk
 have HK:=hid (show CpAt W2 w.heap.size (cp0 all es) from hk)
 have HB:=hid (And.intro hb hs)
 have hl:decide (64<es.length)=false:=by simp;omega
 have hl2:decide ((64:Int)<(es.length:Int))=false:=by simp;omega
 clear hall hn hB h hk hb hs
 go_enter Tryz.func40,Tryz.ntmps40
 go_wp2_with fail
 refine (C1.out).mono ?_
 rintro e_ w2 ⟨rfl,rfl⟩
 go_wp2_with fail
 refine (C2.out).mono ?_
 rintro e_ w2 ⟨rfl,rfl⟩
 go_wp2_with fail
 go_ret2
 exact ⟨rfl,HK.out,HB.out.1,HB.out.2⟩
end Go.Proofs.YtpgckpafjiojfaaGreatDoor.AD
