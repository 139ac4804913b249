/- Contracts of a gate's Give and Take. -/
import Derived.Test.YtpgckpafjiojfaaGreatDoorAGi
open Go.Lib (hid)
set_option maxRecDepth 16000
set_option maxHeartbeats 40000000
namespace Go.Proofs.YtpgckpafjiojfaaGreatDoor.AD
open Go Go.RowKit
open BK (Bx BoxAt Blk only_refl only_drew only_drewN only_setCell only_trans only_of_below only_alloc below_drewN)
structure Five(w:World)(L:Ly)(k:Nat)(gc:Array Value)(c:Cp)(m l:Lm)(bx:Bx)(t:Nat)(d:Array Value):Prop where
 g:Blk w L.g 118 gc
 c:CpAt w L.cp c
 m:LmAt w L.lm m
 l:LmAt w (L.li k) l
 b:BoxAt w (L.bo k) bx
 d:Blk w t 125 d
 ne:L.li k≠L.lm
theorem GAt.five{w:World}{L:Ly}{x:Gt}(h:GAt w L x){k:Nat}{j:Jt}(hk:x.js[k]? = some j):∃(b:Nat) (cs:Array Value),L.da=some ⟨b,0,none⟩∧Five w L k (L.cells x) x.cp x.both j.lm j.bx b cs∧cs[k*2]? = some (.pointer (some ⟨L.li k,0,none⟩))∧cs[k*2+1]? = some (.pointer (some ⟨L.bo k,0,none⟩)):=by
 have hl:k<x.js.length:=(List.getElem?_eq_some_iff.1 hk).1
 obtain ⟨b,cs,e,h1,h2⟩:=h.door (by omega)
 exact ⟨b,cs,e,⟨h.gate,h.caps,h.lm,(h.job k j hk).1,(h.job k j hk).2,h1,(h.one k hl).1⟩,(h2 k hl).1,(h2 k hl).2⟩
theorem some_ne{a b:Nat}(h:a≠b):some a≠some b:=fun e=>h (by injection e)
section
variable{w w':World}{L:Ly}{k:Nat}{gc:Array Value}{c c':Cp}{m m' l l':Lm}{bx bx':Bx}{t:Nat}{d:Array Value}
theorem Five.below(h:Five w L k gc c m l bx t d)(hb:Below w.heap.size w w'):Five w' L k gc c m l bx t d :=
 ⟨h.g.below hb h.g.lt,Blk.below h.c hb (Blk.lt h.c),Blk.below h.m hb (Blk.lt h.m),Blk.below h.l hb (Blk.lt h.l),Blk.below h.b hb (Blk.lt h.b),h.d.below hb h.d.lt,h.ne⟩
theorem Five.drew(h:Five w L k gc c m l bx t d):Five w.drew L k gc c m l bx t d:=h.below (Below.refl _ _).drew
theorem Five.row(h:Five w L k gc c m l bx t d){t':Nat}{d':Array Value}(hd:Blk w t' 125 d'):Five w L k gc c m l bx t' d':=⟨h.g,h.c,h.m,h.l,h.b,hd,h.ne⟩
theorem Five.stepC(h:Five w L k gc c m l bx t d)(hc:CpAt w' L.cp c')(hg:w.grownBy w' (some L.cp)):Five w' L k gc c' m l bx t d :=
 ⟨Blk.grown h.g hg (some_ne (blk_ne h.g h.c (by decide))),hc,Blk.grown h.m hg (some_ne (blk_ne h.m h.c (by decide))),Blk.grown h.l hg (some_ne (blk_ne h.l h.c (by decide))),Blk.grown h.b hg (some_ne (blk_ne h.b h.c (by decide))),Blk.grown h.d hg (some_ne (blk_ne h.d h.c (by decide))),h.ne⟩
theorem Five.stepM(h:Five w L k gc c m l bx t d)(hc:LmAt w' L.lm m')(hg:w.grownBy w' (some L.lm)):Five w' L k gc c m' l bx t d :=
 ⟨Blk.grown h.g hg (some_ne (blk_ne h.g h.m (by decide))),Blk.grown h.c hg (some_ne (blk_ne h.c h.m (by decide))),hc,Blk.grown h.l hg (some_ne h.ne),Blk.grown h.b hg (some_ne (blk_ne h.b h.m (by decide))),Blk.grown h.d hg (some_ne (blk_ne h.d h.m (by decide))),h.ne⟩
theorem Five.stepL(h:Five w L k gc c m l bx t d)(hc:LmAt w' (L.li k) l')(hg:w.grownBy w' (some (L.li k))):Five w' L k gc c m l' bx t d :=
 ⟨Blk.grown h.g hg (some_ne (blk_ne h.g h.l (by decide))),Blk.grown h.c hg (some_ne (blk_ne h.c h.l (by decide))),Blk.grown h.m hg (some_ne h.ne.symm),hc,Blk.grown h.b hg (some_ne (blk_ne h.b h.l (by decide))),Blk.grown h.d hg (some_ne (blk_ne h.d h.l (by decide))),h.ne⟩
theorem Five.stepB(h:Five w L k gc c m l bx t d)(hc:BoxAt w' (L.bo k) bx')(hg:w.grownBy w' (some (L.bo k))):Five w' L k gc c m l bx' t d :=
 ⟨Blk.grown h.g hg (some_ne (blk_ne h.g h.b (by decide))),Blk.grown h.c hg (some_ne (blk_ne h.c h.b (by decide))),Blk.grown h.m hg (some_ne (blk_ne h.m h.b (by decide))),Blk.grown h.l hg (some_ne (blk_ne h.l h.b (by decide))),hc,Blk.grown h.d hg (some_ne (blk_ne h.d h.b (by decide))),h.ne⟩
theorem Five.last(h:Five w L k gc c m l bx t d)(now:Int):Five (w.setCell ⟨L.g,5,none⟩ (.int .i64 now)) L k (gc.setIfInBounds 5 (.int .i64 now)) c m l bx t d :=
 ⟨Blk.set_ h.g 5 _,Blk.far h.c (blk_ne h.c h.g (by decide)) _,Blk.far h.m (blk_ne h.m h.g (by decide)) _,Blk.far h.l (blk_ne h.l h.g (by decide)) _,Blk.far h.b (blk_ne h.b h.g (by decide)) _,Blk.far h.d (blk_ne h.d h.g (by decide)) _,h.ne⟩
end
def Ly.five(L:Ly)(k i:Nat):Prop:=i=L.g∨i=L.cp∨i=L.lm∨i=L.li k∨i=L.bo k
theorem GAt.done{w w':World}{L:Ly}{x y:Gt}(h:GAt w L x){k:Nat}{j j':Jt}(hk:x.js[k]? = some j)(ht:Turn (L.five k) w w'){t:Nat}{d:Array Value}
 (hy:y.js=x.js.set k j') (hc:j'.cap=j.cap) (hi:y.Inv) (hf:Five w' L k (L.cells y) y.cp y.both j'.lm j'.bx t d):GAt w' L y∧Turn (L.own x.js.length) w w' :=
 h.upd hk ht hy hc hi hf.g hf.c hf.m hf.l hf.b
theorem Ly.cells_last(L:Ly)(x:Gt)(now:Int)(b:Lm)(js:List Jt)(hl:js.length=x.js.length):(L.cells x).setIfInBounds 5 (.int .i64 now)=L.cells ⟨x.cap,b,js,now⟩:=by unfold Ly.cells;simp [hl]
theorem turn_last{F:Nat→Prop}(w:World)(g:Nat)(v:Value)(h:F g):Turn F w (w.setCell ⟨g,5,none⟩ v):=Turn.of_only (only_setCell (only_refl w (some g)) (.inl rfl) v) h
theorem ggive_ok{w:World}{L:Ly}{x:Gt}(h:GAt w L x)(job:Int)(ok:Bool)(now:Int):Calls Tryz.prog 10 #[.pointer (some ⟨L.g,0,none⟩),.int .i64 job,.bool ok,.int .i64 now] w fun e w'=>e=.returned (.tuple #[.int .i64 (x.give job ok now).1,.int .i64 (x.give job ok now).2.1])∧GAt w' L (x.give job ok now).2.2∧Turn (L.own x.js.length) w w':=by
 have M:=hid (gcall_ok h job now)
 have HG:=hid h
 by_cases hE:x.call job now=0
 ·obtain ⟨hA,hlast⟩:=Gt.call_zero hE
  obtain ⟨ht,k,rfl,j,hk,hj⟩:=Gt.asked_zero hA
  have HT:=hid (timeB_iff.1 ht)
  have HK:=hid hk
  have HL:Hid (k<x.js.length):=hid (List.getElem?_eq_some_iff.1 hk).1
  have hi:=h.inv.of hk
  have HI:=hid hi
  have c0:=h.c0
  rw [hE] at M
  by_cases h0:j.runs=0
  ·have HR:Hid (x.give k ok now=(0,5,x)):=hid (by unfold Gt.give;rw [if_neg (by rw [hE];simp),hj];simp only;rw [if_pos h0])
   have C:=hid (cnone_ok h.caps h.inv.cp HL.out ((Gt.cp_runs hk).trans h0))
   generalize x.give k ok now=R at *
   clear hE hA hlast ht hk hj h hi h0
   go_enter Tryz.func10,Tryz.ntmps10
   go_wp2_with fail
   refine (M.out).mono ?_
   rintro e w' ⟨rfl,rfl⟩
   go_wp2_with fail
   refine (C.out).mono ?_
   rintro e w1 ⟨rfl,hb⟩
   have HB:=hid hb
   clear hb
   go_wp2_with fail
   go_ret2
   rw [HR.out]
   exact ⟨rfl,HG.out.below HB.out,Turn.of_below HB.out⟩
  ·have HR:Hid (x.give k ok now=((BK.report j.bx ok now).1,(BK.report j.bx ok now).2.1,⟨x.cap,x.both,x.js.set k ⟨j.cap,j.runs - 1,j.lm,(BK.report j.bx ok now).2.2⟩,now⟩)):=hid (by
    unfold Gt.give;rw [if_neg (by rw [hE];simp),hj];simp only [Int.toNat_natCast];rw [if_neg h0])
   have C:=hid (cgive_ok h.caps h.inv.cp HL.out (by rw [Gt.cp_runs hk];exact h0))
   obtain ⟨b,cs,hda,hf,e0,e1⟩:=h.five hk
   have HF:=hid hf
   have HD:=hid hda
   have HE1:=hid e1
   have HN:Hid (1≤j.runs):=hid (by have:=hi.2.1;omega)
   have RP:=hid (fun W (hW:BoxAt W (L.bo k) j.bx)=>BK.report_ok hW hi.2.2.2 ok now)
   have HY:Hid (BK.Inv (BK.report j.bx ok now).2.2):=hid (BK.inv_report hi.2.2.2)
   generalize x.give k ok now=R at *
   generalize BK.report j.bx ok now=q at *
   clear hE hA hlast ht hk hj h hi h0 hda hf e0 e1
   go_enter Tryz.func10,Tryz.ntmps10
   go_wp2_with fail
   refine (M.out).mono ?_
   rintro e w' ⟨rfl,rfl⟩
   go_wp2_with fail
   refine (C.out).mono ?_
   rintro e w1 ⟨rfl,hc,hg⟩
   have H1:=hid (HF.out.stepC hc hg)
   have T1:=hid (show Turn (L.five k) w w1 from Turn.of_only hg (show L.five k _ from .inr (.inl rfl)))
   clear hc hg c0
   have p5:w1.cell? ⟨L.g,5,none⟩=some (.int .i64 x.last):=H1.out.g.cell 5
   have f5:w1.frozen? ⟨L.g,5,none⟩=false:=H1.out.g.frozen 5
   have c3:w1.cell? ⟨L.g,3,none⟩=some (.slice (some ⟨b,0,none⟩) x.js.length L.dc):=by
    have:=H1.out.g.cell 3
    rw [this]
    show some (Value.slice L.da x.js.length L.dc)=_
    rw [HD.out]
   have d1:w1.cell? ⟨b,k*2+1,none⟩=some (.pointer (some ⟨L.bo k,0,none⟩)):=(H1.out.d.cell _).trans HE1.out
   have hbg:b≠L.g:=blk_ne H1.out.d H1.out.g (by decide)
   have hl:=HL.out
   have RR:=hid (RP.out _ (H1.out.last now).b)
   go_wp2_with fail
   refine (RR.out).mono ?_
   rintro e w3 ⟨rfl,hb,hg⟩
   have H3:=hid ((H1.out.last now).stepB hb hg)
   have T3:=hid ((T1.out.trans (turn_last w1 L.g (.int .i64 now) (show L.five k _ from .inl rfl))).trans (Turn.of_only hg (show L.five k _ from .inr (.inr (.inr (.inr rfl))))))
   clear hb hg
   go_wp2_with fail
   go_ret2
   rw [HR.out]
   refine ⟨rfl,?_⟩
   have HI':=HI.out
   have HN':=HN.out
   refine HG.out.done HK.out (j':=⟨j.cap,j.runs - 1,j.lm,q.2.2⟩) T3.out rfl rfl (HG.out.inv.set (j':=⟨j.cap,j.runs - 1,j.lm,q.2.2⟩) ⟨HI'.1,by show 0≤j.runs - 1∧j.runs - 1≤j.cap;omega,HI'.2.2.1,HY.out⟩ HG.out.inv.both HT.out) (t:=b) (d:=cs) ?_
   have h4:=H3.out
   rw [L.cells_last x now x.both (x.js.set k ⟨j.cap,j.runs - 1,j.lm,q.2.2⟩) (by simp)] at h4
   rw [Gt.cp_put (j':=⟨j.cap,j.runs - 1,j.lm,q.2.2⟩) HK.out rfl]
   have e:j.runs - 1 - j.runs = -1:=by omega
   rw [e]
   exact h4
 ·have HR:Hid (x.give job ok now=(0,x.call job now,x)):=hid (by unfold Gt.give;rw [if_pos hE])
  generalize x.give job ok now=R at *
  generalize x.call job now=E at *
  have q1:(E==0)=false:=by rw [beq_eq_false_iff_ne];exact hE
  have q2:(E != 0)=true:=by rw [bne,q1];rfl
  clear hE h
  go_enter Tryz.func10,Tryz.ntmps10
  go_wp2_with fail
  refine (M.out).mono ?_
  rintro e w' ⟨rfl,rfl⟩
  go_wp2_with fail
  go_ret2
  rw [HR.out]
  exact ⟨rfl,HG.out,Turn.refl _ _⟩
theorem whyJ_zero{x:Gt}{j:Jt}{now:Int}(h:x.whyJ j now=0):x.total<x.cap∧x.both.allows now=true∧j.runs<j.cap∧j.lm.allows now=true∧BK.allows j.bx now=true:=by
 unfold Gt.whyJ at h
 by_cases h1:x.cap≤x.total<;>cases h2:x.both.allows now<;>by_cases h3:j.cap≤j.runs<;>cases h4:j.lm.allows now<;>cases h5:BK.allows j.bx now<;>simp [h1,h2,h3,h4,h5,bit] at h
 exact ⟨by omega,rfl,by omega,rfl,rfl⟩
theorem Lm.take_ok{x:Lm}{now:Int}(h:x.allows now=true):x.take now=(0,x.count now):=by
 unfold Lm.allows at h
 unfold Lm.take
 rw [if_pos (of_decide_eq_true h)]
theorem Gt.take_eq{x:Gt}{job now:Int}:x.take job now=if (x.Why job now).2≠0 then ((x.Why job now).2,x) else if (x.Why job now).1≠0 then (9,x) else match x.job job with|some j=>(0,x.took job j now)|none=>(0,x):=by
 unfold Gt.take Gt.Why Gt.why
 by_cases h:x.call job now≠0
 ·rw [if_pos h,if_pos h];simp only;rw [if_pos h]
 ·rw [if_neg h,if_neg h]
  simp only [ne_eq,not_true_eq_false,if_false]
  cases x.job job with
  | none=>simp
  | some j=>rfl
theorem gtake_ok{w:World}{L:Ly}{x:Gt}(h:GAt w L x)(job now:Int):Calls Tryz.prog 13 #[.pointer (some ⟨L.g,0,none⟩),.int .i64 job,.int .i64 now] w fun e w'=>e=.returned (.int .i64 (x.take job now).1)∧GAt w' L (x.take job now).2∧Turn (L.own x.js.length) w w':=by
 have M:=hid (gwhy_ok h job now)
 have HG:=hid h
 have HV:=hid (Gt.take_eq (x:=x) (job:=job) (now:=now))
 by_cases hE:x.call job now=0
 ·obtain ⟨hA,hlast⟩:=Gt.call_zero hE
  obtain ⟨ht,k,rfl,j,hk,hj⟩:=Gt.asked_zero hA
  have hW:x.Why k now=(x.whyJ j now,0):=by unfold Gt.Why Gt.why;rw [if_neg (by rw [hE];simp),hj]
  have hv:=HV.out
  rw [hW] at M hv
  simp only [ne_eq,not_true_eq_false,if_false] at hv
  rw [hj] at hv
  clear HV
  by_cases hn:x.whyJ j now=0
  ·obtain ⟨w1,w2,w3,w4,w5⟩:=whyJ_zero hn
   have HR:Hid (x.take k now=(0,x.took k j now)):=hid (by rw [hv];simp [hn])
   rw [hn] at M
   have HT:=hid (timeB_iff.1 ht)
   have HK:=hid hk
   have HL:Hid (k<x.js.length):=hid (List.getElem?_eq_some_iff.1 hk).1
   have hi:=h.inv.of hk
   have HI:=hid hi
   have HN:Hid (j.runs<j.cap):=hid w3
   have hcheck:x.both.check now=0∧j.lm.check now=0:=⟨of_decide_eq_true w2,of_decide_eq_true w4⟩
   have HC:=hid hcheck
   have HD:=hid (fun W (hb:Below w.heap.size w W)=>(h.below hb).five hk)
   have CT:=hid (fun W (hc:CpAt W L.cp x.cp)=>ctake_ok hc h.inv.cp HL.out (by rw [Gt.cp_runs hk,Gt.cp_most hk];show 0<min (j.cap - j.runs) (x.cap - x.total);omega))
   have LM:=hid (fun W (hc:LmAt W L.lm x.both)=>(ltake_ok hc h.inv.both now))
   have LI:=hid (fun W (hc:LmAt W (L.li k) j.lm)=>(ltake_ok hc hi.2.2.1 now))
   rw [Lm.take_ok w2] at LM
   rw [Lm.take_ok w4] at LI
   have BT:=hid (fun W (hc:BoxAt W (L.bo k) j.bx)=>BK.take_ok hc hi.2.2.2 now)
   have HY:Hid (BK.Inv (BK.take j.bx now).2):=hid (BK.inv_take hi.2.2.2)
   have HTK:Hid (x.took k j now=⟨x.cap,x.both.count now,x.js.set k ⟨j.cap,j.runs+1,j.lm.count now,(BK.take j.bx now).2⟩,now⟩):=hid rfl
   generalize x.take k now=R at *
   generalize x.took k j now=Y at *
   generalize BK.take j.bx now=q at *
   clear hE hA hlast ht hk hj h hi hv hn w1 w2 w3 w4 w5 hW hcheck
   go_enter Tryz.func13,Tryz.ntmps13
   go_wp2_with fail
   refine (M.out).mono ?_
   rintro e w1 ⟨rfl,hb⟩
   have HB:=hid hb
   obtain ⟨b,cs,hda,hf,e0,e1⟩:=HD.out w1 hb
   have HF:=hid hf
   have c3:w1.cell? ⟨L.g,3,none⟩=some (.slice (some ⟨b,0,none⟩) x.js.length L.dc):=by
    have:=hf.g.cell 3
    rw [this]
    show some (Value.slice L.da x.js.length L.dc)=_
    rw [hda]
   have d0:w1.cell? ⟨b,k*2,none⟩=some (.pointer (some ⟨L.li k,0,none⟩)):=(hf.d.cell _).trans e0
   have d1:w1.cell? ⟨b,k*2+1,none⟩=some (.pointer (some ⟨L.bo k,0,none⟩)):=(hf.d.cell _).trans e1
   have hl:=HL.out
   clear hb hda hf e0 e1 HD M
   go_wp2_with fail
   obtain ⟨W2,hW2⟩:∃W2,W2=w1.alloc (.cells #[.pointer (some ⟨L.li k,0,none⟩),.pointer (some ⟨L.bo k,0,none⟩)] 125):=⟨_,rfl⟩
   have hb2:Below w1.heap.size w1 W2:=by rw [hW2];exact (Below.refl _ _).alloc (Nat.le_refl _) _
   have F2:=hid (((HF.out.below hb2).row (t':=w1.heap.size) (d':=#[.pointer (some ⟨L.li k,0,none⟩),.pointer (some ⟨L.bo k,0,none⟩)]) (by rw [hW2];exact Blk.new _ _ _)).drew)
   have HB2:=hid (HB.out.trans (hb2.mono HB.out.size))
   rw [←hW2]
   generalize w1.heap.size=t9 at *
   have g0:W2.cell? ⟨L.g,0,none⟩=some (.pointer (some ⟨L.cp,0,none⟩)):=F2.out.g.cell 0
   have g2:W2.cell? ⟨L.g,2,none⟩=some (.pointer (some ⟨L.lm,0,none⟩)):=F2.out.g.cell 2
   have t0:W2.cell? ⟨t9,0,none⟩=some (.pointer (some ⟨L.li k,0,none⟩)):=F2.out.d.cell 0
   have t1:W2.cell? ⟨t9,1,none⟩=some (.pointer (some ⟨L.bo k,0,none⟩)):=F2.out.d.cell 1
   have C1:=hid (CT.out _ F2.out.c)
   clear hW2 hb2 c3 d0 d1 HB CT HF
   go_region_held3 (fun w'=>w'.cell? ⟨L.g,0,none⟩=some (.pointer (some ⟨L.cp,0,none⟩))∧w'.cell? ⟨L.g,2,none⟩=some (.pointer (some ⟨L.lm,0,none⟩))∧w'.cell? ⟨t9,0,none⟩=some (.pointer (some ⟨L.li k,0,none⟩))∧w'.cell? ⟨t9,1,none⟩=some (.pointer (some ⟨L.bo k,0,none⟩))) (go_keep)
    (first
     | (go_at_call 48;(with_reducible refine C1.out.mono ?_);rintro e w3 ⟨rfl,hc,hg⟩;have F3:=hid (F2.out.stepC hc hg);have T3:=hid (show Turn (L.five k) W2.drew w3 from Turn.of_only hg (show L.five k _ from .inr (.inl rfl)));have a0:w3.cell? ⟨L.g,0,none⟩=some (.pointer (some ⟨L.cp,0,none⟩)):=F3.out.g.cell 0;have a2:w3.cell? ⟨L.g,2,none⟩=some (.pointer (some ⟨L.lm,0,none⟩)):=F3.out.g.cell 2;have b0:w3.cell? ⟨t9,0,none⟩=some (.pointer (some ⟨L.li k,0,none⟩)):=F3.out.d.cell 0;have b1:w3.cell? ⟨t9,1,none⟩=some (.pointer (some ⟨L.bo k,0,none⟩)):=F3.out.d.cell 1;have C2:=hid (LM.out _ F3.out.m);clear hc hg)
     | (go_at_call 49;(with_reducible refine C2.out.mono ?_);rintro e w4 ⟨rfl,hc,hg⟩;have F4:=hid (F3.out.stepM hc hg);have T4:=hid (T3.out.trans (Turn.of_only hg (show L.five k _ from .inr (.inr (.inl rfl)))));have a0':w4.cell? ⟨L.g,0,none⟩=some (.pointer (some ⟨L.cp,0,none⟩)):=F4.out.g.cell 0;have a2':w4.cell? ⟨L.g,2,none⟩=some (.pointer (some ⟨L.lm,0,none⟩)):=F4.out.g.cell 2;have b0':w4.cell? ⟨t9,0,none⟩=some (.pointer (some ⟨L.li k,0,none⟩)):=F4.out.d.cell 0;have b1':w4.cell? ⟨t9,1,none⟩=some (.pointer (some ⟨L.bo k,0,none⟩)):=F4.out.d.cell 1;have C3:=hid (LI.out _ F4.out.l);clear hc hg)
     | (go_at_call 49;(with_reducible refine C3.out.mono ?_);rintro e w5 ⟨rfl,hc,hg⟩;have F5:=hid (F4.out.stepL hc hg);have T5:=hid (T4.out.trans (Turn.of_only hg (show L.five k _ from .inr (.inr (.inr (.inl rfl))))));have a0'':w5.cell? ⟨L.g,0,none⟩=some (.pointer (some ⟨L.cp,0,none⟩)):=F5.out.g.cell 0;have a2'':w5.cell? ⟨L.g,2,none⟩=some (.pointer (some ⟨L.lm,0,none⟩)):=F5.out.g.cell 2;have b0'':w5.cell? ⟨t9,0,none⟩=some (.pointer (some ⟨L.li k,0,none⟩)):=F5.out.d.cell 0;have b1'':w5.cell? ⟨t9,1,none⟩=some (.pointer (some ⟨L.bo k,0,none⟩)):=F5.out.d.cell 1;have C4:=hid (BT.out _ F5.out.b);clear hc hg)
     | (go_at_call 50;(with_reducible refine C4.out.mono ?_);rintro e w6 ⟨rfl,hc,hg⟩;have F6:=hid (F5.out.stepB hc hg);have T6:=hid (T5.out.trans (Turn.of_only hg (show L.five k _ from .inr (.inr (.inr (.inr rfl))))));have c0:w6.cell? ⟨L.g,0,none⟩=some (.pointer (some ⟨L.cp,0,none⟩)):=F6.out.g.cell 0;have c2:w6.cell? ⟨L.g,2,none⟩=some (.pointer (some ⟨L.lm,0,none⟩)):=F6.out.g.cell 2;have s0:w6.cell? ⟨t9,0,none⟩=some (.pointer (some ⟨L.li k,0,none⟩)):=F6.out.d.cell 0;have s1:w6.cell? ⟨t9,1,none⟩=some (.pointer (some ⟨L.bo k,0,none⟩)):=F6.out.d.cell 1;clear hc hg))
   have p5:w6.cell? ⟨L.g,5,none⟩=some (.int .i64 x.last):=F6.out.g.cell 5
   have f5:w6.frozen? ⟨L.g,5,none⟩=false:=F6.out.g.frozen 5
   clear C1 C2 C3 C4 F2 F3 F4 F5 T3 T4 T5 LM LI BT
   go_wp2_with fail
   go_ret
   rw [HR.out,HTK.out]
   refine ⟨rfl,?_⟩
   have HI':=HI.out
   have HN':=HN.out
   have tu:Turn (L.five k) w (w6.setCell ⟨L.g,5,none⟩ (.int .i64 now)):=((Turn.of_below HB2.out.drew).trans T6.out).trans (turn_last w6 L.g (.int .i64 now) (show L.five k _ from .inl rfl))
   refine HG.out.done HK.out (j':=⟨j.cap,j.runs+1,j.lm.count now,q.2⟩) tu rfl rfl ?_ (t:=t9) (d:=#[.pointer (some ⟨L.li k,0,none⟩),.pointer (some ⟨L.bo k,0,none⟩)]) ?_
   ·exact HG.out.inv.set (j':=⟨j.cap,j.runs+1,j.lm.count now,q.2⟩) ⟨HI'.1,by show 0≤j.runs+1∧j.runs+1≤j.cap;omega,HI'.2.2.1.count HC.out.2,HY.out⟩ (HG.out.inv.both.count HC.out.1) HT.out
   ·have h4:=F6.out.last now
    rw [L.cells_last x now (x.both.count now) (x.js.set k ⟨j.cap,j.runs+1,j.lm.count now,q.2⟩) (by simp)] at h4
    rw [Gt.cp_put (j':=⟨j.cap,j.runs+1,j.lm.count now,q.2⟩) HK.out rfl]
    have e:j.runs+1 - j.runs=1:=by omega
    rw [e]
    exact h4
  ·have HR:Hid (x.take k now=(9,x)):=hid (by rw [hv];simp [hn])
   generalize x.take k now=R at *
   generalize x.whyJ j now=E at *
   have q1:(E==0)=false:=by rw [beq_eq_false_iff_ne];exact hn
   have q2:(E != 0)=true:=by rw [bne,q1];rfl
   clear hE hA hlast ht hk hj h hv hn hW
   go_enter Tryz.func13,Tryz.ntmps13
   go_wp2_with fail
   refine (M.out).mono ?_
   rintro e w1 ⟨rfl,hb⟩
   have HB:=hid hb
   clear hb
   go_wp2_with fail
   go_ret
   rw [HR.out]
   exact ⟨rfl,HG.out.below HB.out,Turn.of_below HB.out⟩
 ·have hW:x.Why job now=(0,x.call job now):=by unfold Gt.Why;rw [if_pos hE]
  have HR:Hid (x.take job now=(x.call job now,x)):=hid (by unfold Gt.take;rw [if_pos hE])
  rw [hW] at M
  clear HV hW
  generalize x.take job now=R at *
  generalize x.call job now=E at *
  have q1:(E==0)=false:=by rw [beq_eq_false_iff_ne];exact hE
  have q2:(E != 0)=true:=by rw [bne,q1];rfl
  clear hE h
  go_enter Tryz.func13,Tryz.ntmps13
  go_wp2_with fail
  refine (M.out).mono ?_
  rintro e w1 ⟨rfl,hb⟩
  have HB:=hid hb
  clear hb
  go_wp2_with fail
  go_ret
  rw [HR.out]
  exact ⟨rfl,HG.out.below HB.out,Turn.of_below HB.out⟩
end Go.Proofs.YtpgckpafjiojfaaGreatDoor.AD
