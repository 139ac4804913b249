/- Contracts of the reference's schedules with a period. Contracts of the reference's Is, Next and Count of schedules with a period: they answer as the layer every does. Contract of the reference's Count of schedules with a period. The sort of the borders of spans. Contract of blackout.borders. The iterator of the borders: its contract. A range over an iterator whose rounds lay the loop's variable in a new block. The iterator of the borders as such a sequence. Contract of blackout.join. Contracts of blackout.both, Union, Meet, Normal and Free, for valid spans. The iterator of a plan's times: its contract. Contract of plan.Next. Contract of plan.List. Contract of plan.Count. Contracts of the reference's Check of plans, and of check. Contracts of the reference's check and Is. Contracts of the reference's next and Next. Contract of the reference's List. Contracts of the reference's count and Count. Contracts of plan.Due and the reference's Due. The chapter's examples, plainly. Contracts of ever, daily, ints and works: the chapter's examples hold. A plan in a box of the caller's, through calls. Contracts of the copies of plans. Contracts of the comparisons of plans. -/
import Derived.Test.YtpgckpafjiojfaaGreatDoorPFj
import Derived.Lib.SliceRun
open Go.Lib (hid)
set_option maxRecDepth 16000
set_option maxHeartbeats 40000000
namespace Go.Proofs.YtpgckpafjiojfaaGreatDoor.BW
open Go.RowKit BM Go.Shelf MC
open BK hiding ret_bool ret_i64
theorem recheck_ok(e:Ev)(w:World):Calls Tryz.prog 153 #[.agg (evV e)] w fun r w'=>r=.returned (.int .i64 e.err)∧Below w.heap.size w w':=by
 obtain ⟨s,p,c⟩:=e
 have hE:Ev.err ⟨s,p,c⟩=if 0≤s∧s≤253402300799∧1≤p∧p≤68719476736∧0≤c∧c≤1000000 then 0 else 16:=by unfold Ev.err Ev.ok;simp
 have HE:=hid hE
 generalize Ev.err ⟨s,p,c⟩=r at *
 have HB:=hid (show Below w.heap.size w (w.alloc (.cells (evV ⟨s,p,c⟩) 46)) from (Below.refl _ w).alloc (Nat.le_refl _) _)
 unfold evV at *
 clear hE
 by_cases h1:s<0
 ·have HR:Hid (r=16):=hid (by rw [HE.out,if_neg (by omega)])
  have d1:decide (s<0)=true:=decide_eq_true h1
  clear h1
  go_enter Tryz.func153,Tryz.ntmps153
  go_wp2_with fail
  go_ret
  exact ⟨ret_i64 HR.out.symm,HB.out⟩
 ·have d1:decide (s<0)=false:=decide_eq_false h1
  by_cases h2:253402300799<s
  ·have HR:Hid (r=16):=hid (by rw [HE.out,if_neg (by omega)])
   have d2:decide (253402300799<s)=true:=decide_eq_true h2
   clear h1 h2
   go_enter Tryz.func153,Tryz.ntmps153
   go_wp2_with fail
   go_ret
   exact ⟨ret_i64 HR.out.symm,HB.out⟩
  ·have d2:decide (253402300799<s)=false:=decide_eq_false h2
   by_cases h3:p<1
   ·have HR:Hid (r=16):=hid (by rw [HE.out,if_neg (by omega)])
    have d3:decide (p<1)=true:=decide_eq_true h3
    clear h1 h2 h3
    go_enter Tryz.func153,Tryz.ntmps153
    go_wp2_with fail
    go_ret
    exact ⟨ret_i64 HR.out.symm,HB.out⟩
   ·have d3:decide (p<1)=false:=decide_eq_false h3
    by_cases h4:68719476736<p
    ·have HR:Hid (r=16):=hid (by rw [HE.out,if_neg (by omega)])
     have d4:decide (68719476736<p)=true:=decide_eq_true h4
     clear h1 h2 h3 h4
     go_enter Tryz.func153,Tryz.ntmps153
     go_wp2_with fail
     go_ret
     exact ⟨ret_i64 HR.out.symm,HB.out⟩
    ·have d4:decide (68719476736<p)=false:=decide_eq_false h4
     by_cases h5:c<0
     ·have HR:Hid (r=16):=hid (by rw [HE.out,if_neg (by omega)])
      have d5:decide (c<0)=true:=decide_eq_true h5
      clear h1 h2 h3 h4 h5
      go_enter Tryz.func153,Tryz.ntmps153
      go_wp2_with fail
      go_ret
      exact ⟨ret_i64 HR.out.symm,HB.out⟩
     ·have d5:decide (c<0)=false:=decide_eq_false h5
      by_cases h6:1000000<c
      ·have HR:Hid (r=16):=hid (by rw [HE.out,if_neg (by omega)])
       have d6:decide (1000000<c)=true:=decide_eq_true h6
       clear h1 h2 h3 h4 h5 h6
       go_enter Tryz.func153,Tryz.ntmps153
       go_wp2_with fail
       go_ret
       exact ⟨ret_i64 HR.out.symm,HB.out⟩
      ·have HR:Hid (r=0):=hid (by rw [HE.out,if_pos (by omega)])
       have d6:decide (1000000<c)=false:=decide_eq_false h6
       clear h1 h2 h3 h4 h5 h6
       go_enter Tryz.func153,Tryz.ntmps153
       go_wp2_with fail
       go_ret
       exact ⟨ret_i64 HR.out.symm,HB.out⟩
end Go.Proofs.YtpgckpafjiojfaaGreatDoor.BW
namespace Go.Proofs
end Go.Proofs
namespace Go.Proofs.YtpgckpafjiojfaaGreatDoor.BW
open Go.RowKit BM Go.Shelf MC Go.Sort
open BK hiding ret_bool ret_i64
end Go.Proofs.YtpgckpafjiojfaaGreatDoor.BW
namespace Go.Proofs.YtpgckpafjiojfaaGreatDoor.BW
open Go.RowKit BM Go.Shelf MC
open BK hiding ret_bool ret_i64
end Go.Proofs.YtpgckpafjiojfaaGreatDoor.BW
namespace Go.Proofs.YtpgckpafjiojfaaGreatDoor.BW
open Go.RowKit BM Go.Shelf MC RK
open BK hiding ret_bool ret_i64
attribute [local go_sem] Oper.semAt_some
end Go.Proofs.YtpgckpafjiojfaaGreatDoor.BW
namespace Go.Proofs.YtpgckpafjiojfaaGreatDoor.RK
open Go Go.RowKit
variable{F:Fence}{n:Nat}{P:Program}
end Go.Proofs.YtpgckpafjiojfaaGreatDoor.RK
namespace Go.Proofs.YtpgckpafjiojfaaGreatDoor.BW
open Go.RowKit BM Go.Shelf MC RK
open BK hiding ret_bool ret_i64
def encS(x:Int × Int):List Value:=[.int .i64 x.1,.int .i64 x.2]
def cellsS(L:List (Int × Int)):List Value:=L.flatMap encS
theorem cellsS_snoc(L:List (Int × Int))(x:Int × Int):cellsS (L++[x])=cellsS L++[.int .i64 x.1,.int .i64 x.2]:=by simp [cellsS,encS]
theorem cellsS_get:∀(L:List (Int × Int)) (k:Nat) (hk:k<L.length),(cellsS L)[k*2]? = some (.int .i64 L[k].1)∧(cellsS L)[k*2+1]? = some (.int .i64 L[k].2):=by
 intro L
 induction L with
 | nil=>intro k hk;cases hk
 | cons x L ih =>
  intro k hk
  rw [show cellsS (x::L)=encS x++cellsS L from by simp [cellsS]]
  cases k with
  | zero=>exact ⟨rfl,rfl⟩
  | succ k =>
   obtain ⟨h1,h2⟩:=ih k (by simpa using hk)
   constructor
   ·rw [List.getElem?_append_right (by simp [encS];omega),show (k+1)*2 - (encS x).length=k*2 from by simp [encS];omega];exact h1
   ·rw [List.getElem?_append_right (by simp [encS];omega),show (k+1)*2+1 - (encS x).length=k*2+1 from by simp [encS];omega];exact h2
def OwnsS(B:Nat)(v:Value)(ys:List (Int × Int))(w:World):Prop:=w.ownsRow B 218 2 v ys.length (cellsS ys)
theorem OwnsS.shape{B:Nat}{v:Value}{ys:List (Int × Int)}{w:World}(h:OwnsS B v ys w):∃a cap,v=.slice a ys.length cap∧SpansAt w a ys:=by
 obtain ⟨hl,h⟩:=h
 rcases h with ⟨rfl,h0⟩|⟨g,cap,cur,rfl,hb,hg,hn,hc,hs,ht⟩
 ·have:ys=[]:=List.eq_nil_of_length_eq_zero h0
  subst this
  exact ⟨none,0,rfl,fun k hk=>by simp at hk⟩
 ·refine ⟨_,cap,rfl,fun k hk=>⟨g,0,rfl,?_⟩⟩
  obtain ⟨h1,h2⟩:=cellsS_get ys k hk
  rw [←ht,List.getElem?_take,if_pos (by omega)] at h1 h2
  rw [Nat.zero_add,cell_of_row w g _ cur _ (0,0) hg,cell_of_row w g _ cur _ (0,0) hg]
  exact ⟨by simpa using h1,by simpa using h2⟩
attribute [local go_sem] Oper.semAt_some
theorem info_sp:(Tryz.prog.info? 218).map (fun i=>(i.zero,i.size,i.bytes))=some (some (.agg #[.int .i64 0,.int .i64 0]),2,16):=by kernel_rfl
theorem read2(w:World)(a b:Int)(T:TypeId):∀(j:Nat) (u:Value),[Value.int .i64 a,.int .i64 b][j]? = some u→(w.alloc (.cells #[.int .i64 a,.int .i64 b] T)).cell? ((⟨w.heap.size,0,none⟩:Addr).add j)=some u:=by
 intro j u hj
 match j,hj with
 | 0,hj=>simp at hj;subst hj;simp [Addr.add]
 | 1,hj=>simp at hj;subst hj;simp [Addr.add]
theorem one2(a b:Int):∀u∈[Value.int .i64 a,.int .i64 b],u.oneCell'=true:=by
 intro u hu;simp at hu;rcases hu with rfl|rfl<;>rfl
theorem blk_app{W w1:World}{k base:Nat}{t e:TypeId}{size n:Nat}{v:Value}{cs:Array Value}{xs:List Value}{tmp:Obj}(h:Blk W k t cs)(hk:k<base)(hrow:W.ownsRow base e size v n xs)(hgrow:(W.alloc tmp).grownBy w1 v.ownBlock):Blk w1 k t cs :=
 (hgrow.block k (by simp;have:=h.lt;omega) (own_ge hrow hk)).trans (h.alloc tmp)
theorem OwnsS.far{B:Nat}{v:Value}{ys:List (Int × Int)}{W:World}(h:OwnsS B v ys W){b j:Nat}(hb:b<B)(u:Value):OwnsS B v ys (W.setCell ⟨b,j,none⟩ u) :=
 ⟨h.1,h.2.imp id fun ⟨g,cap,cur,h1,h2,h3,h4⟩=>⟨g,cap,cur,h1,h2,(Below.heap_setCell W _ u g (by simp;omega)).trans h3,h4⟩⟩
theorem OwnsS.below{B:Nat}{v:Value}{ys:List (Int × Int)}{W X:World}(h:OwnsS B v ys W)(hb:Below W.heap.size W X):OwnsS B v ys X :=
 ⟨h.1,h.2.imp id fun ⟨g,cap,cur,h1,h2,h3,h4⟩=>⟨g,cap,cur,h1,h2,(hb.block g (Array.getElem?_eq_some_iff.1 h3).1).trans h3,h4⟩⟩
theorem OwnsS.mono{B C:Nat}{v:Value}{ys:List (Int × Int)}{w:World}(h:OwnsS C v ys w)(hB:B≤C):OwnsS B v ys w:=ownsRow_mono h hB
theorem SpansAt.nil(w:World)(a:Option Addr):SpansAt w a []:=fun _ hk=>absurd hk (Nat.not_lt_zero _)
attribute [local go_sem] Oper.semAt_some
section
variable{w0:World}{p:Pl}{V:Array Value}{pb kb fb:Nat}{f:Int}{X Y:World}
end
attribute [local go_sem] Oper.semAt_some
attribute [local go_sem] Oper.semAt_some
end Go.Proofs.YtpgckpafjiojfaaGreatDoor.BW
namespace Go.Proofs.YtpgckpafjiojfaaGreatDoor.BW
open Go.RowKit BM Go.Shelf MC
open BK hiding ret_bool ret_i64
theorem plE_bad{p:Pl}{l:List (Int × Int)}(h:plK p=false):plE p l=16:=by unfold plE;rw [h];rfl
theorem noX_iff{x:Ex}:noX x=true↔(x.s=0∧x.mi=0∧x.h=0∧x.d=0∧x.mo=0∧x.w=0)∧x.ad=false∧x.aw=false:=by
 unfold noX
 simp [and_assoc]
theorem noE_iff{e:Ev}:noE e=true↔e.s=0∧e.p=0∧e.c=0:=by unfold noE;simp
theorem rck_x(p:Pl)(w:World)(hk:p.k≠1)(hX:noX p.x=false):Calls Tryz.prog 123 #[.agg (plV p)] w fun r w'=>r=.returned (.int .i64 16)∧Below w.heap.size w w':=by
 have HX:Hid (¬((p.x.s=0∧p.x.mi=0∧p.x.h=0∧p.x.d=0∧p.x.mo=0∧p.x.w=0)∧p.x.ad=false∧p.x.aw=false)):=hid (fun h=>by rw [noX_iff.2 h] at hX;cases hX)
 have h1:(p.k==1)=false:=by rw [beq_eq_false_iff_ne];exact hk
 have h2:(p.k != 1)=true:=by rw [bne,h1];rfl
 clear hX hk
 unfold plV
 go_enter Tryz.func123,Tryz.ntmps123
 go_wp2_with fail
 all_goals
  first
   | (
    go_ret
    exact ⟨rfl,(Below.refl _ w).alloc (Nat.le_refl _) _⟩)
   | exact (HX.out ⟨⟨by assumption,by assumption,by assumption,by assumption,by assumption,by assumption⟩,by first|assumption|simp_all,by first|assumption|simp_all⟩).elim
theorem rck_z(p:Pl)(w:World)(hk:p.k≠1)(hX:noX p.x=true)(hz:p.z≠0):Calls Tryz.prog 123 #[.agg (plV p)] w fun r w'=>r=.returned (.int .i64 16)∧Below w.heap.size w w':=by
 have h1:(p.k==1)=false:=by rw [beq_eq_false_iff_ne];exact hk
 have h2:(p.k != 1)=true:=by rw [bne,h1];rfl
 have h3:(p.z==0)=false:=by rw [beq_eq_false_iff_ne];exact hz
 have h4:(p.z != 0)=true:=by rw [bne,h3];rfl
 have hx':=noX_iff.1 hX
 clear hk hX hz
 obtain ⟨pk,⟨s,mi,h,d,mo,wk,ad,aw⟩,pz,⟨es,ep,ec⟩,pa,pn,pc⟩:=p
 unfold plV
 simp only at *
 obtain ⟨⟨rfl,rfl,rfl,rfl,rfl,rfl⟩,rfl,rfl⟩:=hx'
 go_enter Tryz.func123,Tryz.ntmps123
 go_wp2_with fail
 go_ret
 exact ⟨rfl,(Below.refl _ w).alloc (Nat.le_refl _) _⟩
theorem rck_e1(p:Pl)(w:World)(hk:p.k=1)(hE:noE p.e=false):Calls Tryz.prog 123 #[.agg (plV p)] w fun r w'=>r=.returned (.int .i64 16)∧Below w.heap.size w w':=by
 have HX:Hid (¬(p.e.s=0∧p.e.p=0∧p.e.c=0)):=hid (fun h=>by rw [noE_iff.2 h] at hE;cases hE)
 clear hE
 obtain ⟨pk,⟨s,mi,h,d,mo,wk,ad,aw⟩,pz,⟨es,ep,ec⟩,pa,pn,pc⟩:=p
 unfold plV
 simp only at *
 subst hk
 go_enter Tryz.func123,Tryz.ntmps123
 go_wp2_with fail
 all_goals
  first
   | (
    go_ret
    exact ⟨rfl,(Below.refl _ w).alloc (Nat.le_refl _) _⟩)
   | exact (HX.out ⟨by assumption,by assumption,by assumption⟩).elim
theorem rck_e2(p:Pl)(w:World)(hk:p.k≠1)(hk2:p.k≠2)(hX:noX p.x=true)(hz:p.z=0)(hE:noE p.e=false):Calls Tryz.prog 123 #[.agg (plV p)] w fun r w'=>r=.returned (.int .i64 16)∧Below w.heap.size w w':=by
 have HX:Hid (¬(p.e.s=0∧p.e.p=0∧p.e.c=0)):=hid (fun h=>by rw [noE_iff.2 h] at hE;cases hE)
 have h1:(p.k==1)=false:=by rw [beq_eq_false_iff_ne];exact hk
 have h2:(p.k != 1)=true:=by rw [bne,h1];rfl
 have h3:(p.k==2)=false:=by rw [beq_eq_false_iff_ne];exact hk2
 have h4:(p.k != 2)=true:=by rw [bne,h3];rfl
 have hx':=noX_iff.1 hX
 clear hk hk2 hX hE
 obtain ⟨pk,⟨s,mi,h,d,mo,wk,ad,aw⟩,pz,⟨es,ep,ec⟩,pa,pn,pc⟩:=p
 unfold plV
 simp only at *
 obtain ⟨⟨rfl,rfl,rfl,rfl,rfl,rfl⟩,rfl,rfl⟩:=hx'
 subst hz
 go_enter Tryz.func123,Tryz.ntmps123
 go_wp2_with fail
 all_goals
  first
   | (
    go_ret
    exact ⟨rfl,(Below.refl _ w).alloc (Nat.le_refl _) _⟩)
   | exact (HX.out ⟨by assumption,by assumption,by assumption⟩).elim
theorem rck_1(p:Pl)(l:List (Int × Int))(w:World)(h:PArg w p l)(hk:p.k=1)(hE:noE p.e=true):Calls Tryz.prog 123 #[.agg (plV p)] w fun r w'=>r=.returned (.int .i64 (plE p l))∧Below w.heap.size w w':=by
 have hB1:Below w.heap.size w (w.alloc (.cells (plV p) 49)):=(Below.refl _ w).alloc (Nat.le_refl _) _
 have hbx:=Blk.new w 49 (plV p)
 have CS:=hid (rspcheck_ok l p.a p.n p.c h.n (by have:=h.n9;omega) _ (h.at_.below hB1))
 have CX:=hid (fun W=>rcheck_ok p.x h.x W)
 have CZ:=hid (fun W=>rzone_ok p.z W)
 have HR:Hid (plE p l=if (decide (ckR p.x=0)&&decide (zoneR p.z=0))&&decide (spE l=0) then 0 else 16):=hid (by
  have e:plK p=(true&&decide (ckR p.x=0)&&decide (zoneR p.z=0)):=by unfold plK;rw [if_neg (by omega),if_pos hk,hE]
  unfold plE;rw [e];rfl)
 have HB1:=hid hB1
 have hx':=noE_iff.1 hE
 have cx:=ckR_cases p.x
 have cz:=zoneR_cases p.z
 generalize plE p l=R at *
 generalize ckR p.x=ca at *
 generalize zoneR p.z=za at *
 generalize spE l=sa at *
 clear h hB1 hE
 obtain ⟨pk,⟨s,mi,h,d,mo,wk,ad,aw⟩,pz,⟨es,ep,ec⟩,pa,pn,pc⟩:=p
 unfold exV at CX
 unfold plV at *
 simp only at *
 obtain ⟨rfl,rfl,rfl⟩:=hx'
 subst hk
 go_enter Tryz.func123,Tryz.ntmps123
 go_wp2_with fail
 refine (CS.out).mono ?_
 rintro e_ w2 ⟨rfl,hb⟩
 have HB2:=hid (HB1.out.trans (Below.mono (w:=w.alloc _) hb HB1.out.size))
 have hx2:=hbx.below hb hbx.lt
 have c0:w2.cell? ⟨w.heap.size,0,none⟩=some (.int .i64 1):=hx2.cell 0
 have c1:w2.cell? ⟨w.heap.size,1,none⟩=some (.int .u64 s):=hx2.cell 1
 have c2:w2.cell? ⟨w.heap.size,2,none⟩=some (.int .u64 mi):=hx2.cell 2
 have c3:w2.cell? ⟨w.heap.size,3,none⟩=some (.int .u64 h):=hx2.cell 3
 have c4:w2.cell? ⟨w.heap.size,4,none⟩=some (.int .u64 d):=hx2.cell 4
 have c5:w2.cell? ⟨w.heap.size,5,none⟩=some (.int .u64 mo):=hx2.cell 5
 have c6:w2.cell? ⟨w.heap.size,6,none⟩=some (.int .u64 wk):=hx2.cell 6
 have c7:w2.cell? ⟨w.heap.size,7,none⟩=some (.bool ad):=hx2.cell 7
 have c8:w2.cell? ⟨w.heap.size,8,none⟩=some (.bool aw):=hx2.cell 8
 have HX2:=hid hx2
 clear hb hbx hx2 CS
 by_cases hs:sa=0
 ·subst hs
  go_wp2_with fail
  refine (CX.out _).mono ?_
  rintro e_ w3 ⟨rfl,hb⟩
  have HB3:=hid (HB2.out.trans (hb.mono HB2.out.size))
  have hx3:=HX2.out.below hb HX2.out.lt
  have d0:w3.cell? ⟨w.heap.size,0,none⟩=some (.int .i64 1):=hx3.cell 0
  have d9:w3.cell? ⟨w.heap.size,9,none⟩=some (.int .i64 pz):=hx3.cell 9
  clear hb hx3 HX2 c0 c1 c2 c3 c4 c5 c6 c7 c8
  rcases cx with rfl|rfl
  ·go_wp2_with fail
   refine (CZ.out _).mono ?_
   rintro e_ w4 ⟨rfl,rfl⟩
   rcases cz with rfl|rfl
   ·have HE:Hid (R=0):=hid (by rw [HR.out];rfl)
    go_wp2_with fail
    go_ret
    exact ⟨ret_i64 HE.out.symm,HB3.out⟩
   ·have HE:Hid (R=16):=hid (by rw [HR.out];rfl)
    go_wp2_with fail
    go_ret
    exact ⟨ret_i64 HE.out.symm,HB3.out⟩
  ·have HE:Hid (R=16):=hid (by rw [HR.out];rfl)
   go_wp2_with fail
   go_ret
   exact ⟨ret_i64 HE.out.symm,HB3.out⟩
 ·have hs1:(sa==0)=false:=by rw [beq_eq_false_iff_ne];exact hs
  have hs2:(sa != 0)=true:=by rw [bne,hs1];rfl
  have HE:Hid (R=16):=hid (by rw [HR.out,decide_eq_false hs,Bool.and_false];rfl)
  clear hs
  go_wp2_with fail
  go_ret
  exact ⟨ret_i64 HE.out.symm,HB2.out⟩
theorem rck_2(p:Pl)(l:List (Int × Int))(w:World)(h:PArg w p l)(hk:p.k=2)(hX:noX p.x=true)(hz:p.z=0):Calls Tryz.prog 123 #[.agg (plV p)] w fun r w'=>r=.returned (.int .i64 (plE p l))∧Below w.heap.size w w':=by
 have hB1:Below w.heap.size w (w.alloc (.cells (plV p) 49)):=(Below.refl _ w).alloc (Nat.le_refl _) _
 have hbx:=Blk.new w 49 (plV p)
 have CS:=hid (rspcheck_ok l p.a p.n p.c h.n (by have:=h.n9;omega) _ (h.at_.below hB1))
 have CE:=hid (fun W=>recheck_ok p.e W)
 have HR:Hid (plE p l=if decide (p.e.err=0)&&decide (spE l=0) then 0 else 16):=hid (by
  have e:plK p=(true&&true&&decide (p.e.err=0)):=by unfold plK;rw [if_neg (by omega),if_neg (by omega),if_pos hk,hX,decide_eq_true hz]
  unfold plE;rw [e];rfl)
 have HB1:=hid hB1
 have hx':=noX_iff.1 hX
 have ce:p.e.err=0∨p.e.err=16:=by unfold Ev.err;split<;>simp
 generalize plE p l=R at *
 generalize p.e.err=ea at *
 generalize spE l=sa at *
 clear h hB1 hX
 obtain ⟨pk,⟨s,mi,h,d,mo,wk,ad,aw⟩,pz,⟨es,ep,ec⟩,pa,pn,pc⟩:=p
 unfold evV at CE
 unfold plV at *
 simp only at *
 obtain ⟨⟨rfl,rfl,rfl,rfl,rfl,rfl⟩,rfl,rfl⟩:=hx'
 subst hk hz
 go_enter Tryz.func123,Tryz.ntmps123
 go_wp2_with fail
 refine (CS.out).mono ?_
 rintro e_ w2 ⟨rfl,hb⟩
 have HB2:=hid (HB1.out.trans (Below.mono (w:=w.alloc _) hb HB1.out.size))
 have hx2:=hbx.below hb hbx.lt
 have c0:w2.cell? ⟨w.heap.size,0,none⟩=some (.int .i64 2):=hx2.cell 0
 have c10:w2.cell? ⟨w.heap.size,10,none⟩=some (.int .i64 es):=hx2.cell 10
 have c11:w2.cell? ⟨w.heap.size,11,none⟩=some (.int .i64 ep):=hx2.cell 11
 have c12:w2.cell? ⟨w.heap.size,12,none⟩=some (.int .i64 ec):=hx2.cell 12
 clear hb hbx hx2 CS
 by_cases hs:sa=0
 ·subst hs
  go_wp2_with fail
  refine (CE.out _).mono ?_
  rintro e_ w3 ⟨rfl,hb⟩
  have HB3:=hid (HB2.out.trans (hb.mono HB2.out.size))
  clear hb
  rcases ce with rfl|rfl
  ·have HE:Hid (R=0):=hid (by rw [HR.out];rfl)
   go_wp2_with fail
   go_ret
   exact ⟨ret_i64 HE.out.symm,HB3.out⟩
  ·have HE:Hid (R=16):=hid (by rw [HR.out];rfl)
   go_wp2_with fail
   go_ret
   exact ⟨ret_i64 HE.out.symm,HB3.out⟩
 ·have hs1:(sa==0)=false:=by rw [beq_eq_false_iff_ne];exact hs
  have hs2:(sa != 0)=true:=by rw [bne,hs1];rfl
  have HE:Hid (R=16):=hid (by rw [HR.out,decide_eq_false hs,Bool.and_false];rfl)
  clear hs
  go_wp2_with fail
  go_ret
  exact ⟨ret_i64 HE.out.symm,HB2.out⟩
theorem rck_0(p:Pl)(l:List (Int × Int))(w:World)(h:PArg w p l)(hk1:p.k≠1)(hk2:p.k≠2)(hX:noX p.x=true)(hz:p.z=0)(hE:noE p.e=true):Calls Tryz.prog 123 #[.agg (plV p)] w fun r w'=>r=.returned (.int .i64 (plE p l))∧Below w.heap.size w w':=by
 have hB1:Below w.heap.size w (w.alloc (.cells (plV p) 49)):=(Below.refl _ w).alloc (Nat.le_refl _) _
 have hbx:=Blk.new w 49 (plV p)
 have CS:=hid (rspcheck_ok l p.a p.n p.c h.n (by have:=h.n9;omega) _ (h.at_.below hB1))
 have HR:Hid (plE p l=if (decide (p.k=0)&&decide (p.n=0))&&decide (spE l=0) then 0 else 16):=hid (by
  have e:plK p=(decide (p.k=0)&&decide (p.n=0)):=by
   unfold plK
   by_cases h0:p.k=0
   ·rw [if_pos h0,hX,hE,decide_eq_true hz,decide_eq_true h0];simp
   ·rw [if_neg h0,if_neg hk1,if_neg hk2,decide_eq_false h0];rfl
  unfold plE;rw [e])
 have HB1:=hid hB1
 have hx':=noX_iff.1 hX
 have he':=noE_iff.1 hE
 have h1:(p.k==1)=false:=by rw [beq_eq_false_iff_ne];exact hk1
 have h2:(p.k != 1)=true:=by rw [bne,h1];rfl
 have h3:(p.k==2)=false:=by rw [beq_eq_false_iff_ne];exact hk2
 have h4:(p.k != 2)=true:=by rw [bne,h3];rfl
 generalize plE p l=R at *
 generalize spE l=sa at *
 clear h hB1 hX hE hk1 hk2
 obtain ⟨pk,⟨s,mi,h,d,mo,wk,ad,aw⟩,pz,⟨es,ep,ec⟩,pa,pn,pc⟩:=p
 unfold plV at *
 simp only at *
 obtain ⟨⟨rfl,rfl,rfl,rfl,rfl,rfl⟩,rfl,rfl⟩:=hx'
 obtain ⟨rfl,rfl,rfl⟩:=he'
 subst hz
 go_enter Tryz.func123,Tryz.ntmps123
 go_wp2_with fail
 refine (CS.out).mono ?_
 rintro e_ w2 ⟨rfl,hb⟩
 have HB2:=hid (HB1.out.trans (Below.mono (w:=w.alloc _) hb HB1.out.size))
 have hx2:=hbx.below hb hbx.lt
 have c0:w2.cell? ⟨w.heap.size,0,none⟩=some (.int .i64 pk):=hx2.cell 0
 have c13:w2.cell? ⟨w.heap.size,13,none⟩=some (.slice pa pn pc):=hx2.cell 13
 clear hb hbx hx2 CS
 by_cases hs:sa=0
 ·subst hs
  by_cases h0:pk=0
  ·subst h0
   by_cases hn:pn=0
   ·subst hn
    have HE:Hid (R=0):=hid (by rw [HR.out];rfl)
    go_wp2_with fail
    go_ret
    exact ⟨ret_i64 HE.out.symm,HB2.out⟩
   ·have HE:Hid (R=16):=hid (by rw [HR.out,decide_eq_false hn];rfl)
    have hn1:((pn:Int)==0)=false:=by rw [beq_eq_false_iff_ne];omega
    have hn2:¬((pn:Int)=0):=by omega
    go_wp2_with fail
    go_ret
    exact ⟨ret_i64 HE.out.symm,HB2.out⟩
  ·have h5:(pk==0)=false:=by rw [beq_eq_false_iff_ne];exact h0
   have HE:Hid (R=16):=hid (by rw [HR.out,decide_eq_false h0];rfl)
   clear h0
   go_wp2_with fail
   go_ret
   exact ⟨ret_i64 HE.out.symm,HB2.out⟩
 ·have hs1:(sa==0)=false:=by rw [beq_eq_false_iff_ne];exact hs
  have hs2:(sa != 0)=true:=by rw [bne,hs1];rfl
  have HE:Hid (R=16):=hid (by rw [HR.out,decide_eq_false hs,Bool.and_false];rfl)
  clear hs
  go_wp2_with fail
  go_ret
  exact ⟨ret_i64 HE.out.symm,HB2.out⟩
theorem rplck_ok(p:Pl)(l:List (Int × Int))(w:World)(h:PArg w p l):Calls Tryz.prog 123 #[.agg (plV p)] w fun r w'=>r=.returned (.int .i64 (plE p l))∧Below w.heap.size w w':=by
 by_cases hk1:p.k=1
 ·cases hE:noE p.e with
  | true=>exact rck_1 p l w h hk1 hE
  | false =>
   rw [plE_bad (by unfold plK;rw [if_neg (by omega),if_pos hk1,hE];rfl)]
   exact rck_e1 p w hk1 hE
 ·cases hX:noX p.x with
  | false =>
   rw [plE_bad (by unfold plK;rw [hX,if_neg hk1];simp)]
   exact rck_x p w hk1 hX
  | true =>
   by_cases hz:p.z=0
   ·by_cases hk2:p.k=2
    ·exact rck_2 p l w h hk2 hX hz
    ·cases hE:noE p.e with
     | true=>exact rck_0 p l w h hk1 hk2 hX hz hE
     | false =>
      rw [plE_bad (by unfold plK;rw [hE,if_neg hk1,if_neg hk2];simp)]
      exact rck_e2 p w hk1 hk2 hX hz hE
   ·rw [plE_bad (by unfold plK;rw [decide_eq_false hz,if_neg hk1];simp)]
    exact rck_z p w hk1 hX hz
end Go.Proofs.YtpgckpafjiojfaaGreatDoor.BW
namespace Go.Proofs.YtpgckpafjiojfaaGreatDoor.BW
open Go.RowKit BM Go.Shelf MC RK
open BK hiding ret_bool ret_i64
end Go.Proofs.YtpgckpafjiojfaaGreatDoor.BW
namespace Go.Proofs.YtpgckpafjiojfaaGreatDoor.BW
open Go.RowKit BM Go.Shelf MC
open BK hiding ret_bool ret_i64
end Go.Proofs.YtpgckpafjiojfaaGreatDoor.BW
namespace Go.Proofs.YtpgckpafjiojfaaGreatDoor.BW
open Go.RowKit BM Go.Shelf MC RK
open BK hiding ret_bool ret_i64
def OwnsJ(B:Nat)(v:Value)(ys:List Int)(w:World):Prop:=w.ownsRow B 3 1 v ys.length (ys.map tcell)
theorem OwnsJ.below{B:Nat}{v:Value}{ys:List Int}{X Y:World}(h:OwnsJ B v ys X)(hb:Below X.heap.size X Y):OwnsJ B v ys Y :=
 ⟨h.1,h.2.imp id fun ⟨g,cap,cur,h1,h2,h3,h4⟩=>⟨g,cap,cur,h1,h2,(hb.block g (Array.getElem?_eq_some_iff.1 h3).1).trans h3,h4⟩⟩
structure PIn(w:World)(p:Pl)(l:List (Int × Int)):Prop where
 x:U64s p.x
 n:l.length=p.n
 at_:SpansAt w p.a l
theorem PIn.arg{w:World}{p:Pl}{l:List (Int × Int)}(h:PIn w p l)(hn:p.n≤200)(hT:SpTab w)(hTab:Tab w):PArg w p l:=⟨h.x,h.n,by omega,h.at_,hT,hTab⟩
def Pl.withS(p:Pl)(a:Option Addr)(c:Nat):Pl:=⟨p.k,p.x,p.z,p.e,a,p.n,c⟩
theorem blk14{w:World}{b:Nat}{T:TypeId}{cs:Array Value}(h:Blk w b T cs)(hs:cs.size=14)(v0 v1 v2 v3 v4 v5 v6 v7 v8 v9 v10 v11 v12 v13:Value) :
 Blk ((((((((((((((w.setCell ⟨b,0,none⟩ v0).setCell ⟨b,1,none⟩ v1).setCell ⟨b,2,none⟩ v2).setCell ⟨b,3,none⟩ v3).setCell ⟨b,4,none⟩ v4).setCell ⟨b,5,none⟩ v5).setCell ⟨b,6,none⟩ v6).setCell ⟨b,7,none⟩ v7).setCell ⟨b,8,none⟩ v8).setCell ⟨b,9,none⟩ v9).setCell ⟨b,10,none⟩ v10).setCell ⟨b,11,none⟩ v11).setCell ⟨b,12,none⟩ v12).setCell ⟨b,13,none⟩ v13) b T #[v0,v1,v2,v3,v4,v5,v6,v7,v8,v9,v10,v11,v12,v13]:=by
 obtain ⟨c0,c1,c2,c3,c4,c5,c6,c7,c8,c9,c10,c11,c12,c13,rfl⟩:∃c0 c1 c2 c3 c4 c5 c6 c7 c8 c9 c10 c11 c12 c13,cs=#[c0,c1,c2,c3,c4,c5,c6,c7,c8,c9,c10,c11,c12,c13]:=by
  obtain ⟨l⟩:=cs
  match l,hs with
  | [c0,c1,c2,c3,c4,c5,c6,c7,c8,c9,c10,c11,c12,c13],_=>exact ⟨c0,c1,c2,c3,c4,c5,c6,c7,c8,c9,c10,c11,c12,c13,rfl⟩
 have h':=(((((((((((((h.set_ 0 v0).set_ 1 v1).set_ 2 v2).set_ 3 v3).set_ 4 v4).set_ 5 v5).set_ 6 v6).set_ 7 v7).set_ 8 v8).set_ 9 v9).set_ 10 v10).set_ 11 v11).set_ 12 v12).set_ 13 v13
 simpa using h'
structure CpI(p:Pl)(w:World)(v:Value)(ys:List (Int × Int))(W:World):Prop where
 bx:Blk W w.heap.size 49 (plV p)
 bz:Blk W (w.heap.size+1) 49 #[.int .i64 0,.int .u64 0,.int .u64 0,.int .u64 0,.int .u64 0,.int .u64 0,.int .u64 0,.bool false,.bool false,.int .i64 0,.int .i64 0,.int .i64 0,.int .i64 0,.slice none 0 0]
 own:OwnsS (w.heap.size+2) v ys W
 below:Below w.heap.size w W
 size:w.heap.size+2≤W.heap.size
theorem CpI.push{p:Pl}{w:World}{v v':Value}{ys:List (Int × Int)}{s:Int × Int}{X Y:World}{tmp:Obj}(h:CpI p w v ys X)
 (hown':Y.ownsRow (w.heap.size+2) 218 2 v' (ys.length+1) (cellsS ys++[.int .i64 s.1,.int .i64 s.2])) (hgrow:(X.alloc tmp).grownBy Y v.ownBlock):CpI p w v' (ys++[s]) Y:=by
 have hrow:X.ownsRow (w.heap.size+2) 218 2 v ys.length (cellsS ys):=h.own
 have hs:X.heap.size+1≤Y.heap.size:=by have:=hgrow.size;simpa using this
 refine ⟨blk_app h.bx (by omega) hrow hgrow,blk_app h.bz (by omega) hrow hgrow,by unfold OwnsS;rw [cellsS_snoc];simpa using hown',?_,by have:=h.size;omega⟩
 refine h.below.trans (((Below.refl w.heap.size X).alloc (by have:=h.below.size;omega) tmp).grown hgrow (by simp;have:=h.below.size;omega) fun j ej=>?_)
 rcases Nat.lt_or_ge j (w.heap.size+2) with h'|h'
 ·exact absurd ej.symm (own_ge hrow h')
 ·omega
theorem rcopy_ok(p:Pl)(l:List (Int × Int))(w:World)(hp:PIn w p l)(hn:p.n≤200):Calls Tryz.prog 125 #[.agg (plV p)] w fun e w'=>∃a c,e=.returned (.agg (plV (p.withS a c)))∧OwnsS w.heap.size (.slice a p.n c) l w'∧Below w.heap.size w w':=by
 obtain ⟨i0,hi0,hz0,hz1,hz2⟩:=info_parts info_sp
 obtain ⟨W1,hW1⟩:∃W1,W1=(w.alloc (.cells (plV p) 49)).alloc (.cells #[.int .i64 0,.int .u64 0,.int .u64 0,.int .u64 0,.int .u64 0,.int .u64 0,.int .u64 0,.bool false,.bool false,.int .i64 0,.int .i64 0,.int .i64 0,.int .i64 0,.slice none 0 0] 49):=⟨_,rfl⟩
 have H1:Hid (CpI p w (.slice none 0 0) [] W1):=hid (by
  rw [hW1]
  exact ⟨(Blk.new w _ _).alloc _,Blk.newAt (by simp),⟨rfl,.inl ⟨rfl,rfl⟩⟩,((Below.refl _ w).alloc (Nat.le_refl _) _).alloc (by simp) _,by simp⟩)
 have HP:=hid hp
 have HLN:=hid hp.n
 have e0:plV p=#[.int .i64 p.k,.int .u64 p.x.s,.int .u64 p.x.mi,.int .u64 p.x.h,.int .u64 p.x.d,.int .u64 p.x.mo,.int .u64 p.x.w,.bool p.x.ad,.bool p.x.aw,.int .i64 p.z,.int .i64 p.e.s,.int .i64 p.e.p,.int .i64 p.e.c,.slice p.a p.n p.c]:=rfl
 rw [hW1] at H1
 rw [e0] at H1 ⊢
 clear hW1 hp e0
 go_enter Tryz.func125,Tryz.ntmps125
 go_wp2_with fail
 go_loopw [3,4] (fun s3 s4 wr=>∃k:Nat,s4=.int .i64 k∧k≤p.n∧CpI p w s3 (l.take k) wr) (fun _ s4 _=>p.n - (intOf s4).toNat)
 case atStart=>exact ⟨0,rfl,Nat.zero_le _,H1.out⟩
 case round =>
  clear H1
  obtain ⟨k,rfl,hk,hI⟩:=hrel
  have HI:=hid hI
  have hrow:wr.ownsRow (w.heap.size+2) 218 2 u3 (l.take k).length (cellsS (l.take k)):=hI.own
  have hlt:(l.take k).length=k:=by rw [List.length_take,HLN.out];omega
  rw [hlt] at hrow
  have hrv:(u3=.slice none 0 0∧k=0)∨∃g cap,u3=.slice (some ⟨g,0,none⟩) k cap:=hrow.2.imp id (fun ⟨g,cap,_,h,_⟩=>⟨g,cap,h⟩)
  have HROW:=hid hrow
  have HSP:=hid (HP.out.at_.below hI.below)
  have p13:wr.cell? ⟨w.heap.size,13,none⟩=some (.slice p.a p.n p.c):=hI.bx.cell 13
  have hlt3:=hI.size
  by_cases hkn:k<p.n
  ·have hkl:k<l.length:=by rw [HLN.out];exact hkn
   obtain ⟨b,off,ha,h1,h2⟩:=HSP.out k hkl
   rw [ha] at p13
   have hbr:=World.block_lt_of_cell? wr _ h1
   have hml1:k+1≤maxLen:=by unfold maxLen;omega
   have hml2:(k+1)*16≤140737488355328:=by omega
   have hml3:w.heap.size+2≤(wr.alloc (.cells #[.int .i64 l[k].1,.int .i64 l[k].2] 218)).heap.size:=by simp;omega
   have HTK:Hid (l.take (k+1)=l.take k++[l[k]]):=hid (by rw [List.take_add_one,List.getElem?_eq_getElem hkl];rfl)
   have HLT:=hid hlt
   have HLL:=hid hkl
   generalize hs:l[k]=s at *
   have hw1:IntKind.i64.wrap ((k:Int)+1)=(k:Int)+1:=IntWalk.i64_in _ (by omega)
   clear hI hrow hlt hkl hs
   rcases hrv with ⟨rfl,hl0⟩|⟨g,cap,rfl⟩
   ·subst hl0
    simp only [Nat.zero_mul,Nat.add_zero] at h1 h2
    go_wp2_with (at_builtin;refine wpList_append_own _ rfl _ _ 47 rfl (w.heap.size+2) 218 i0 (.agg #[.int .i64 0,.int .i64 0]) 2 16 Tryz.underlying47 hi0 hz0 hz1 hz2 rfl (by decide) _ _ _ rfl (own_alloc HROW.out _) ⟨wr.heap.size,0,none⟩ 1 1 [.int .i64 s.1,.int .i64 s.2] rfl rfl (read2 wr _ _ _) (one2 _ _) hml1 hml2 hml3 ?_;intro v' w4 hown' hgrow _;have HQ:=hid (HI.out.push (s:=s) (by rw [HLT.out];exact hown') hgrow);clear hown' hgrow)
    refine ⟨⟨1,rfl,by omega,by have h:=HQ.out;rw [←HTK.out] at h;exact h⟩,?_⟩
    show p.n - 1<p.n - 0
    omega
   ·go_wp2_with (at_builtin;refine wpList_append_own _ rfl _ _ 47 rfl (w.heap.size+2) 218 i0 (.agg #[.int .i64 0,.int .i64 0]) 2 16 Tryz.underlying47 hi0 hz0 hz1 hz2 rfl (by decide) _ _ _ rfl (own_alloc HROW.out _) ⟨wr.heap.size,0,none⟩ 1 1 [.int .i64 s.1,.int .i64 s.2] rfl rfl (read2 wr _ _ _) (one2 _ _) hml1 hml2 hml3 ?_;intro v' w4 hown' hgrow _;have HQ:=hid (HI.out.push (s:=s) (by rw [HLT.out];exact hown') hgrow);clear hown' hgrow)
    refine ⟨⟨k+1,rfl,by omega,by rw [HTK.out];exact HQ.out⟩,?_⟩
    show p.n - (k+1)<p.n - k
    omega
  ·obtain rfl:k=p.n:=by omega
   have HO:Hid (OwnsS (w.heap.size+2) u3 l wr):=hid (by have:=hI.own;rwa [List.take_of_length_le (by rw [HLN.out];exact Nat.le_refl _)] at this)
   have HB:=hid hI.below
   have HZ2:=hid hI.bz
   have hx2:=hI.bx
   have hz2:=hI.bz
   obtain ⟨ad,cap,he,_⟩:=HO.out.shape
   rw [HLN.out] at he
   subst he
   have p0:wr.cell? ⟨w.heap.size,0,none⟩=some (.int .i64 p.k):=hx2.cell 0
   have p1:wr.cell? ⟨w.heap.size,1,none⟩=some (.int .u64 p.x.s):=hx2.cell 1
   have p2:wr.cell? ⟨w.heap.size,2,none⟩=some (.int .u64 p.x.mi):=hx2.cell 2
   have p3:wr.cell? ⟨w.heap.size,3,none⟩=some (.int .u64 p.x.h):=hx2.cell 3
   have p4:wr.cell? ⟨w.heap.size,4,none⟩=some (.int .u64 p.x.d):=hx2.cell 4
   have p5:wr.cell? ⟨w.heap.size,5,none⟩=some (.int .u64 p.x.mo):=hx2.cell 5
   have p6:wr.cell? ⟨w.heap.size,6,none⟩=some (.int .u64 p.x.w):=hx2.cell 6
   have p7:wr.cell? ⟨w.heap.size,7,none⟩=some (.bool p.x.ad):=hx2.cell 7
   have p8:wr.cell? ⟨w.heap.size,8,none⟩=some (.bool p.x.aw):=hx2.cell 8
   have p9:wr.cell? ⟨w.heap.size,9,none⟩=some (.int .i64 p.z):=hx2.cell 9
   have p10:wr.cell? ⟨w.heap.size,10,none⟩=some (.int .i64 p.e.s):=hx2.cell 10
   have p11:wr.cell? ⟨w.heap.size,11,none⟩=some (.int .i64 p.e.p):=hx2.cell 11
   have p12:wr.cell? ⟨w.heap.size,12,none⟩=some (.int .i64 p.e.c):=hx2.cell 12
   have p13:wr.cell? ⟨w.heap.size,13,none⟩=some (.slice p.a p.n p.c):=hx2.cell 13
   have q0:wr.cell? ⟨w.heap.size+1,0,none⟩=some (.int .i64 0):=hz2.cell 0
   have q1:wr.cell? ⟨w.heap.size+1,1,none⟩=some (.int .u64 0):=hz2.cell 1
   have q2:wr.cell? ⟨w.heap.size+1,2,none⟩=some (.int .u64 0):=hz2.cell 2
   have q3:wr.cell? ⟨w.heap.size+1,3,none⟩=some (.int .u64 0):=hz2.cell 3
   have q4:wr.cell? ⟨w.heap.size+1,4,none⟩=some (.int .u64 0):=hz2.cell 4
   have q5:wr.cell? ⟨w.heap.size+1,5,none⟩=some (.int .u64 0):=hz2.cell 5
   have q6:wr.cell? ⟨w.heap.size+1,6,none⟩=some (.int .u64 0):=hz2.cell 6
   have q7:wr.cell? ⟨w.heap.size+1,7,none⟩=some (.bool false):=hz2.cell 7
   have q8:wr.cell? ⟨w.heap.size+1,8,none⟩=some (.bool false):=hz2.cell 8
   have q9:wr.cell? ⟨w.heap.size+1,9,none⟩=some (.int .i64 0):=hz2.cell 9
   have q10:wr.cell? ⟨w.heap.size+1,10,none⟩=some (.int .i64 0):=hz2.cell 10
   have q11:wr.cell? ⟨w.heap.size+1,11,none⟩=some (.int .i64 0):=hz2.cell 11
   have q12:wr.cell? ⟨w.heap.size+1,12,none⟩=some (.int .i64 0):=hz2.cell 12
   have q13:wr.cell? ⟨w.heap.size+1,13,none⟩=some (.slice none 0 0):=hz2.cell 13
   have f0:wr.frozen? ⟨w.heap.size+1,0,none⟩=false:=hz2.frozen 0
   have f1:wr.frozen? ⟨w.heap.size+1,1,none⟩=false:=hz2.frozen 1
   have f2:wr.frozen? ⟨w.heap.size+1,2,none⟩=false:=hz2.frozen 2
   have f3:wr.frozen? ⟨w.heap.size+1,3,none⟩=false:=hz2.frozen 3
   have f4:wr.frozen? ⟨w.heap.size+1,4,none⟩=false:=hz2.frozen 4
   have f5:wr.frozen? ⟨w.heap.size+1,5,none⟩=false:=hz2.frozen 5
   have f6:wr.frozen? ⟨w.heap.size+1,6,none⟩=false:=hz2.frozen 6
   have f7:wr.frozen? ⟨w.heap.size+1,7,none⟩=false:=hz2.frozen 7
   have f8:wr.frozen? ⟨w.heap.size+1,8,none⟩=false:=hz2.frozen 8
   have f9:wr.frozen? ⟨w.heap.size+1,9,none⟩=false:=hz2.frozen 9
   have f10:wr.frozen? ⟨w.heap.size+1,10,none⟩=false:=hz2.frozen 10
   have f11:wr.frozen? ⟨w.heap.size+1,11,none⟩=false:=hz2.frozen 11
   have f12:wr.frozen? ⟨w.heap.size+1,12,none⟩=false:=hz2.frozen 12
   have f13:wr.frozen? ⟨w.heap.size+1,13,none⟩=false:=hz2.frozen 13
   have g13:wr.frozen? ⟨w.heap.size,13,none⟩=false:=hx2.frozen 13
   clear hI HI hrow HROW hrv hx2 hz2 HSP
   go_wp2_with fail
   have HZ3:=blk14 (HZ2.out.far (p:=⟨w.heap.size,13,none⟩) (by simp) (.slice ad p.n cap)) rfl (.int .i64 p.k) (.int .u64 p.x.s) (.int .u64 p.x.mi) (.int .u64 p.x.h) (.int .u64 p.x.d) (.int .u64 p.x.mo) (.int .u64 p.x.w) (.bool p.x.ad) (.bool p.x.aw) (.int .i64 p.z) (.int .i64 p.e.s) (.int .i64 p.e.p) (.int .i64 p.e.c) (.slice ad p.n cap)
   refine bodyPost_ret (results_cell_row rfl _ _ (w.heap.size+1) _ _ (0,0) _ rfl HZ3 Tryz.underlying49 rfl (by kernel_rfl)) rfl ?_
   refine ⟨ad,cap,rfl,?_,?_⟩
   ·refine OwnsS.mono (C:=w.heap.size+2) ?_ (by omega)
    repeat refine OwnsS.far ?_ (by omega) _
    exact HO.out
   ·repeat refine Below.setCell ?_ (by first|exact Nat.le_refl _|exact Nat.le_succ _) _
    exact HB.out
section
attribute [local go_sem] Oper.semAt_some
end
theorem PIn.below{w w':World}{p:Pl}{l:List (Int × Int)}(h:PIn w p l)(hb:Below w.heap.size w w'):PIn w' p l:=⟨h.x,h.n,h.at_.below hb⟩
end Go.Proofs.YtpgckpafjiojfaaGreatDoor.BW
