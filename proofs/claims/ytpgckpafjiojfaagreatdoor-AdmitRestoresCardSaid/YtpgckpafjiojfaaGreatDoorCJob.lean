/- Configurations: jobs and globals as cells, what the checks answer; slices.IndexFunc over jobs. Contracts of config.rules, its functions, config.CheckGlobals and config.Check. Contracts of config.Find and of the reference's Find. -/
import Derived.Test.YtpgckpafjiojfaaGreatDoorAPlan
import Derived.Test.YtpgckpafjiojfaaGreatDoorCPol
import Derived.Deep.MidRow
import Derived.Maps.Own
import Derived.Maps.OwnOps
import Derived.Maps.Views
open Go.Lib (hid)
set_option maxRecDepth 16000
set_option maxHeartbeats 40000000
namespace Go.Proofs.YtpgckpafjiojfaaGreatDoor.BW
open Go.RowKit BM Go.Shelf MC RK
open BK hiding ret_bool ret_i64
structure Jb where
 nm:ByteArray
 p:Pl
 y:Po
def jbV(j:Jb):Array Value:=#[.string j.nm,.int .i64 j.p.k,.int .u64 j.p.x.s,.int .u64 j.p.x.mi,.int .u64 j.p.x.h,.int .u64 j.p.x.d,.int .u64 j.p.x.mo,.int .u64 j.p.x.w,.bool j.p.x.ad,.bool j.p.x.aw,.int .i64 j.p.z,.int .i64 j.p.e.s,.int .i64 j.p.e.p,.int .i64 j.p.e.c,.slice j.p.a j.p.n j.p.c,.int .i64 j.y.cap,.int .i64 j.y.pri,.int .i64 j.y.spl,.int .i64 j.y.ddl,.int .i64 j.y.mis,.int .i64 j.y.keep,.int .i64 j.y.t,.int .i64 j.y.tau,.int .i64 j.y.f,.int .i64 j.y.o,.int .i64 j.y.r,.int .i64 j.y.m,.int .i64 j.y.b,.int .i64 j.y.c,.int .i64 j.y.j]
abbrev JL:=List (Jb × List (Int × Int))
structure Gl where
 cap:Int
 q:Int
 ar:Int
 ag:Int
 sd:Nat
 t:Int
 tau:Int
def glV(g:Gl):Array Value:=#[.int .i64 g.cap,.int .i64 g.q,.int .i64 g.ar,.int .i64 g.ag,.int .u64 g.sd,.int .i64 g.t,.int .i64 g.tau]
structure Cf where
 g:Gl
 a:Option Addr
 n:Nat
 c:Nat
def cfV(c:Cf):Array Value:=#[.int .i64 c.g.cap,.int .i64 c.g.q,.int .i64 c.g.ar,.int .i64 c.g.ag,.int .u64 c.g.sd,.int .i64 c.g.t,.int .i64 c.g.tau,.slice c.a c.n c.c]
def JobsAt(w:World)(a:Option Addr)(L:JL):Prop:=∀k (hk:k<L.length),∃b off,a=some ⟨b,off,none⟩∧(∀i,i<30→w.cell? ⟨b,off+k*30+i,none⟩=(jbV L[k].1)[i]?)∧PIn w L[k].1.p L[k].2
theorem JobsAt.below{w w':World}{a:Option Addr}{L:JL}(h:JobsAt w a L)(hb:Below w.heap.size w w'):JobsAt w' a L:=fun k hk=>by
 obtain ⟨b,off,e,h1,h2⟩:=h k hk
 refine ⟨b,off,e,fun i hi=>?_,h2.below hb⟩
 have hc:=h1 i hi
 obtain ⟨v,hv⟩:∃v,(jbV L[k].1)[i]? = some v:=⟨_,Array.getElem?_eq_getElem (show i<(jbV L[k].1).size from hi)⟩
 rw [hv] at hc ⊢
 exact (hb.cell (p:=⟨b,off+k*30+i,none⟩) (World.block_lt_of_cell? w _ hc)).trans hc
structure CIn(w:World)(c:Cf)(L:JL):Prop where
 n:L.length=c.n
 at_:JobsAt w c.a L
 sd:c.g.sd<18446744073709551616
structure CArg(w:World)(c:Cf)(L:JL):Prop where
 in_:CIn w c L
 n9:c.n≤200
 p9:∀k (hk:k<L.length),L[k].1.p.n≤200
 st:SpTab w
 tab:Tab w
theorem CIn.below{w w':World}{c:Cf}{L:JL}(h:CIn w c L)(hb:Below w.heap.size w w'):CIn w' c L:=⟨h.n,h.at_.below hb,h.sd⟩
theorem CArg.below{w w':World}{c:Cf}{L:JL}(h:CArg w c L)(hb:Below w.heap.size w w'):CArg w' c L:=⟨h.in_.below hb,h.n9,h.p9,h.st.below hb,tab_below h.tab hb (tab_lt h.tab)⟩
theorem wpList_load_by{P:Program}{ops:Array Oper}{rest:List Oper}{op:Oper}{a:Act}{w:World}{Q:Exit→Act→World→Prop}(hgd:op.guard=none)(ty:TypeId)(x:Operand)(ho:op.op=.load ty x)
 (b o:Nat) (v:Value) (hx:a.eval x=.pointer (some ⟨b,o,none⟩)) (hl:(loadVar ty ⟨b,o,none⟩).run P w=.ok v w)
 (h:wpList P ops Q rest (a.put op.dst v) w):wpList P ops Q (op::rest) a w:=by
 refine wpList_plain hgd fun K hK=>?_
 unfold Oper.wp execOp
 simp only [ho,hx,Instr.loadAt,Instr.sureAddr,Sem.run_bind,Sem.run_pure,Result.andThen_ok,hl]
 exact hK _ _ h
theorem jb_info:(Tryz.prog.info? 57).map (·.size)=some 30:=by kernel_rfl
theorem jb_load{w:World}{b o:Nat}{j:Jb}(h:∀i,i<30→w.cell? ⟨b,o+i,none⟩=(jbV j)[i]?):(loadVar 57 ⟨b,o,none⟩).run Tryz.prog w=.ok (.agg (jbV j)) w :=
 run_loadVar_mid w b o 57 (jbV j).toList (.struct (Tryz.prog.fieldsOf 57)) (fun i v hv=>by
  have hi:i<30:=(List.getElem?_eq_some_iff.1 hv).1
  rw [h i hi,←Array.getElem?_toList];exact hv) (by kernel_rfl) rfl jb_info
theorem JobsAt.load{w:World}{a:Option Addr}{L:JL}(h:JobsAt w a L)(k:Nat)(j:Jb)(l:List (Int × Int))(hk:L[k]? = some (j,l)):∃b off,a=some ⟨b,off,none⟩∧(loadVar 57 ⟨b,off+k*30,none⟩).run Tryz.prog w=.ok (.agg (jbV j)) w∧PIn w j.p l:=by
 obtain ⟨hk',hx⟩:=List.getElem?_eq_some_iff.1 hk
 obtain ⟨b,off,e,h1,h2⟩:=h k hk'
 rw [hx] at h1 h2
 exact ⟨b,off,e,jb_load h1,h2⟩
def glB(g:Gl):Bool:=inB g.cap 1 1000&&(inB g.q 1 1024&&(inB g.ar 0 4096&&(inB g.ag 1 68719476736&&limB g.t g.tau)))
def okJ(x:Jb × List (Int × Int)):Bool:=decide (plE x.1.p x.2=0)&&poB x.1.y
def nmsOk(L:JL):Prop:=∀k (hk:k<L.length),nameB L[k].1.nm=true
def newN(L:JL)(i:Nat):Prop:=∀k (hk:k<L.length) (hi:i<L.length),k<i→L[k].1.nm≠L[i].1.nm
def allOk(L:JL):Prop:=∀k (hk:k<L.length),okJ L[k]=true
open Classical in
noncomputable def cfE(g:Gl)(L:JL):Int:=if glB g=false then 16 else if 64<L.length then 12 else if ¬nmsOk L then 15 else if ¬(∀i,i<L.length→newN L i) then 6 else if allOk L then 0 else 16
theorem cfE_g{g:Gl}{L:JL}(h:glB g=false):cfE g L=16:=by unfold cfE;rw [if_pos h]
theorem cfE_many{g:Gl}{L:JL}(h:glB g=true)(hn:64<L.length):cfE g L=12:=by unfold cfE;rw [if_neg (by rw [h];simp),if_pos hn]
theorem cfE_name{g:Gl}{L:JL}(h:glB g=true)(hn:¬64<L.length)(h1:¬nmsOk L):cfE g L=15:=by unfold cfE;rw [if_neg (by rw [h];simp),if_neg hn,if_pos h1]
theorem cfE_have{g:Gl}{L:JL}(h:glB g=true)(hn:¬64<L.length)(h1:nmsOk L){i:Nat}(hi:i<L.length)(h2:¬newN L i):cfE g L=6:=by unfold cfE;rw [if_neg (by rw [h];simp),if_neg hn,if_neg (not_not_intro h1),if_pos (fun hh=>h2 (hh i hi))]
theorem cfE_rule{g:Gl}{L:JL}(h:glB g=true)(hn:¬64<L.length)(h1:nmsOk L)(h2:∀i,i<L.length→newN L i)(h3:¬allOk L):cfE g L=16:=by unfold cfE;rw [if_neg (by rw [h];simp),if_neg hn,if_neg (not_not_intro h1),if_neg (not_not_intro h2),if_neg h3]
theorem cfE_ok{g:Gl}{L:JL}(h:glB g=true)(hn:¬64<L.length)(h1:nmsOk L)(h2:∀i,i<L.length→newN L i)(h3:allOk L):cfE g L=0:=by unfold cfE;rw [if_neg (by rw [h];simp),if_neg hn,if_neg (not_not_intro h1),if_neg (not_not_intro h2),if_pos h3]
structure CfOk(g:Gl)(L:JL):Prop where
 gl:glB g=true
 many:L.length≤64
 nms:nmsOk L
 new:∀i,i<L.length→newN L i
 all:allOk L
theorem cfE_zero{g:Gl}{L:JL}:cfE g L=0↔CfOk g L:=by
 constructor
 ·intro h
  unfold cfE at h
  by_cases h0:glB g=false
  ·rw [if_pos h0] at h;cases h
  ·rw [if_neg h0] at h
   by_cases h1:64<L.length
   ·rw [if_pos h1] at h;cases h
   ·rw [if_neg h1] at h
    by_cases h2:nmsOk L
    ·rw [if_neg (not_not_intro h2)] at h
     by_cases h3:∀i,i<L.length→newN L i
     ·rw [if_neg (not_not_intro h3)] at h
      by_cases h4:allOk L
      ·exact ⟨by simpa using h0,by omega,h2,h3,h4⟩
      ·rw [if_neg h4] at h;cases h
     ·rw [if_pos h3] at h;cases h
    ·rw [if_pos h2] at h;cases h
 ·intro h
  exact cfE_ok h.gl (by have:=h.many;omega) h.nms h.new h.all
def intJ:Value→Nat
 | .int _ m=>m.toNat
 | _=>0
theorem ixj_ok(L:JL)(a:Option Addr)(n c:Nat)(hn:L.length=n)(hn9:n≤200)(cf q:Nat)(he:∀args w,(callFunc cf args).run Tryz.prog w=.ok (.enter cf args) w)(I:Nat→World→Prop)(Q:Nat→Bool)(hI:∀k W,I k W→JobsAt W a L)
 (hC:∀k j l W,L[k]? = some (j,l)→I k W→Calls Tryz.prog cf #[.agg (jbV j),.pointer (some ⟨q,0,none⟩)] W fun e w'=>e=.returned (.bool (Q k))∧I (k+1) w') (w:World) (h0:I 0 w) :
 Calls Tryz.prog 170 #[.slice a n c,.func (.func cf) #[] #[.pointer (some ⟨q,0,none⟩)]] w fun e w'=>∃r:Int,e=.returned (.int .i64 r)∧((∃k:Nat,k<n∧r=k∧Q k=true∧(∀i,i<k→Q i=false)∧I (k+1) w')∨(r = -1∧(∀i,i<n→Q i=false)∧I n w')):=by
 have HN:=hid hn
 have HI:=hid hI
 have HC:=hid hC
 have H0:=hid h0
 clear hn hI hC h0
 go_enter Tryz.func170,Tryz.ntmps170
 go_wp2_with fail
 go_loopw [8] (fun s8 wr=>∃k:Nat,k≤n∧s8=.int .i64 k∧I k wr∧∀i,i<k→Q i=false) (fun s8 _=>n - intJ s8)
 case atStart=>exact ⟨0,Nat.zero_le _,rfl,H0.out,fun i h=>absurd h (Nat.not_lt_zero _)⟩
 case round =>
  obtain ⟨k,hk,rfl,hi,hno⟩:=hrel
  have HNO:=hid hno
  have HIK:=hid hi
  clear hno hi
  rcases Nat.lt_or_ge k n with hlt|hge
  ·obtain ⟨⟨j,l⟩,hjl⟩:∃x,L[k]? = some x:=⟨_,List.getElem?_eq_getElem (by have:=HN.out;omega)⟩
   obtain ⟨b,off,rfl,hld,-⟩:=(HI.out k _ HIK.out).load k j l hjl
   have HLD:=hid hld
   clear hld
   have CC:=hid (HC.out k j l wr hjl HIK.out)
   obtain ⟨d,hd⟩:∃d,Q k=d:=⟨_,rfl⟩
   have HD:=hid hd
   rw [hd] at CC
   clear hd hjl
   cases d
   ·go_wp2_with (refine wpList_load_by rfl 57 _ rfl b (off+k*30) (.agg (jbV j)) rfl HLD.out ?_)
    refine (CC.out).mono ?_
    rintro e_ w2 ⟨rfl,hi⟩
    have HI2:=hid hi
    clear hi
    go_wp2_with fail
    refine ⟨⟨k+1,by omega,by go_num,HI2.out,fun i h=>?_⟩,?_⟩
    ·rcases Nat.lt_or_ge i k with h4|h4
     ·exact HNO.out i h4
     ·obtain rfl:i=k:=by omega
      exact HD.out
    ·simp [intJ];omega
   ·go_wp2_with (refine wpList_load_by rfl 57 _ rfl b (off+k*30) (.agg (jbV j)) rfl HLD.out ?_)
    refine (CC.out).mono ?_
    rintro e_ w2 ⟨rfl,hi⟩
    have HI2:=hid hi
    clear hi
    go_wp2_with fail
    go_ret
    exact ⟨(k:Int),rfl,.inl ⟨k,hlt,rfl,HD.out,HNO.out,HI2.out⟩⟩
  ·obtain rfl:n=k:=by omega
   go_wp2_with fail
   go_ret
   exact ⟨-1,rfl,.inr ⟨rfl,HNO.out,HIK.out⟩⟩
def JbAt(w:World)(b o:Nat)(j:Jb):Prop:=∀i,i<30→w.cell? ⟨b,o+i,none⟩=(jbV j)[i]?
theorem JbAt.box{w:World}{b:Nat}{j:Jb}(h:Blk w b 57 (jbV j)):JbAt w b 0 j:=fun i _=>by rw [Nat.zero_add];exact h.cell i
theorem pl_info:(Tryz.prog.info? 49).map (·.size)=some 14:=by kernel_rfl
theorem po_info:(Tryz.prog.info? 55).map (·.size)=some 15:=by kernel_rfl
theorem JbAt.name{w:World}{b o:Nat}{j:Jb}(h:JbAt w b o j):w.cell? ⟨b,o,none⟩=some (.string j.nm):=h 0 (by decide)
theorem JbAt.plan{w:World}{b o:Nat}{j:Jb}(h:JbAt w b o j):(loadVar 49 ⟨b,o+1,none⟩).run Tryz.prog w=.ok (.agg (plV j.p)) w :=
 run_loadVar_mid w b (o+1) 49 (plV j.p).toList (.struct (Tryz.prog.fieldsOf 49)) (fun i v hv=>by
  have hi:i<14:=(List.getElem?_eq_some_iff.1 hv).1
  rw [Nat.add_assoc,h _ (by omega)]
  have e:(jbV j)[1+i]? = (plV j.p).toList[i]?:=by
   rw [←Array.getElem?_toList,Nat.add_comm]
   obtain rfl|rfl|rfl|rfl|rfl|rfl|rfl|rfl|rfl|rfl|rfl|rfl|rfl|rfl:i=0∨i=1∨i=2∨i=3∨i=4∨i=5∨i=6∨i=7∨i=8∨i=9∨i=10∨i=11∨i=12∨i=13:=by omega
   all_goals rfl
  rw [e];exact hv) (by kernel_rfl) rfl pl_info
theorem JbAt.pol{w:World}{b o:Nat}{j:Jb}(h:JbAt w b o j):(loadVar 55 ⟨b,o+15,none⟩).run Tryz.prog w=.ok (.agg (poV j.y)) w :=
 run_loadVar_mid w b (o+15) 55 (poV j.y).toList (.struct (Tryz.prog.fieldsOf 55)) (fun i v hv=>by
  have hi:i<15:=(List.getElem?_eq_some_iff.1 hv).1
  rw [Nat.add_assoc,h _ (by omega)]
  have e:(jbV j)[15+i]? = (poV j.y).toList[i]?:=by
   rw [←Array.getElem?_toList,Nat.add_comm]
   obtain rfl|rfl|rfl|rfl|rfl|rfl|rfl|rfl|rfl|rfl|rfl|rfl|rfl|rfl|rfl:i=0∨i=1∨i=2∨i=3∨i=4∨i=5∨i=6∨i=7∨i=8∨i=9∨i=10∨i=11∨i=12∨i=13∨i=14:=by omega
   all_goals rfl
  rw [e];exact hv) (by kernel_rfl) rfl po_info
theorem JbAt.below{w w':World}{b o B:Nat}{j:Jb}(h:JbAt w b o j)(hb:Below B w w')(hB:b<B):JbAt w' b o j:=fun i hi=>(hb.cell (p:=⟨b,o+i,none⟩) hB).trans (h i hi)
theorem rule1_ok(j:Jb)(w:World):Calls Tryz.prog 164 #[.agg (jbV j)] w fun e w'=>e=.returned (.bool (nameB j.nm))∧Below w.heap.size w w':=by
 have C:=hid (fun W=>name_ok j.nm W)
 have HX:=hid (Blk.new w 57 (jbV j))
 have HB:=hid ((Below.refl _ w).alloc (Nat.le_refl _) (.cells (jbV j) 57))
 generalize nameB j.nm=b at *
 have c0:=(JbAt.box HX.out).name
 have e0:(jbV j)[0]? = some (.string j.nm):=rfl
 go_enter Tryz.func164,Tryz.ntmps164
 go_wp2_with fail
 refine (C.out _).mono ?_
 rintro e_ w2 ⟨rfl,rfl⟩
 go_wp2_with fail
 go_ret
 exact ⟨rfl,HB.out⟩
theorem wpList_load_if{P:Program}{ops:Array Oper}{rest:List Oper}{op:Oper}{a:Act}{w:World}{Q:Exit→Act→World→Prop}(hw:Region.wanted op (yielded ops a.tmps)=true)(ty:TypeId)(x:Operand)(ho:op.op=.load ty x)
 (b o:Nat) (v:Value) (hx:a.eval x=.pointer (some ⟨b,o,none⟩)) (hl:(loadVar ty ⟨b,o,none⟩).run P w=.ok v w)
 (h:wpList P ops Q rest (a.put op.dst v) w):wpList P ops Q (op::rest) a w:=by
 refine wpList_step fun K hK=>?_
 rw [if_pos hw]
 unfold Oper.wp execOp
 simp only [ho,hx,Instr.loadAt,Instr.sureAddr,Sem.run_bind,Sem.run_pure,Result.andThen_ok,hl]
 exact hK _ _ h
theorem eB_zero(b:Bool):(eB b==0)=b:=by cases b<;>rfl
theorem eB_zero'(b:Bool):decide (eB b=0)=b:=by cases b<;>rfl
theorem rule3_ok(j:Jb)(l:List (Int × Int))(w:World)(hp:PArg w j.p l):Calls Tryz.prog 167 #[.agg (jbV j)] w fun e w'=>e=.returned (.bool (okJ (j,l)))∧Below w.heap.size w w':=by
 obtain ⟨W1,hW1⟩:∃W1,W1=w.alloc (.cells (jbV j) 57):=⟨_,rfl⟩
 have hX:Blk W1 w.heap.size 57 (jbV j):=by rw [hW1];exact Blk.new w _ _
 have hB:Below w.heap.size w W1:=by rw [hW1];exact (Below.refl _ w).alloc (Nat.le_refl _) _
 have C1:=hid (plcheck_ok j.p l W1 (hp.below hB))
 have C2:=hid (fun W=>pol_ok j.y W)
 have HX:=hid hX
 have HB:=hid hB
 have LP:=hid ((JbAt.box hX).plan)
 have HV:Hid (okJ (j,l)=(decide (plE j.p l=0)&&poB j.y)):=hid rfl
 have hcs:=plE_cases j.p l
 generalize okJ (j,l)=R at *
 generalize poB j.y=y at *
 rw [hW1] at C1 LP
 have HW1:=hid hW1
 clear hX hB hW1 hp
 rcases hcs with he|he
 ·rw [he] at C1 HV
  clear he
  go_enter Tryz.func167,Tryz.ntmps167
  go_wp2_with (refine wpList_load_by rfl 49 _ rfl w.heap.size (0+1) (.agg (plV j.p)) rfl LP.out ?_)
  refine (C1.out).mono ?_
  rintro e_ w2 ⟨rfl,hb⟩
  have hb:Below W1.heap.size W1 w2:=by rw [HW1.out];exact hb
  have HX2:=hid (HX.out.below hb HX.out.lt)
  have HB2:=hid (HB.out.trans (hb.mono HB.out.size))
  have LY:=hid ((JbAt.box HX2.out).pol)
  clear hb
  go_wp2_with (refine wpList_load_if (by rfl) 55 _ rfl w.heap.size (0+15) (.agg (poV j.y)) rfl LY.out ?_)
  refine (C2.out _).mono ?_
  rintro e_ w3 ⟨rfl,hb⟩
  have HB3:=hid (HB2.out.trans (hb.mono HB2.out.size))
  clear hb
  have e1:=eB_zero y
  have e2:=eB_zero' y
  go_wp2_with fail
  go_ret
  exact ⟨ret_bool (by rw [HV.out];simp),HB3.out⟩
 ·rw [he] at C1 HV
  clear he
  go_enter Tryz.func167,Tryz.ntmps167
  go_wp2_with (refine wpList_load_by rfl 49 _ rfl w.heap.size (0+1) (.agg (plV j.p)) rfl LP.out ?_)
  refine (C1.out).mono ?_
  rintro e_ w2 ⟨rfl,hb⟩
  have hb:Below W1.heap.size W1 w2:=by rw [HW1.out];exact hb
  have HB2:=hid (HB.out.trans (hb.mono HB.out.size))
  clear hb
  go_wp2_with fail
  go_ret
  exact ⟨ret_bool (by rw [HV.out];rfl),HB2.out⟩
open Classical in
noncomputable def memB(s:ByteArray)(S:List ByteArray):Bool:=decide (s∈S)
open Classical in
theorem memB_iff{s:ByteArray}{S:List ByteArray}:memB s S=true↔s∈S:=by unfold memB;exact decide_eq_true_iff
open Classical in
theorem memB_not{s:ByteArray}{S:List ByteArray}(h:s ∉ S):memB s S=false:=by unfold memB;exact decide_eq_false h
def SetAt(w:World)(mb:Nat)(S:List ByteArray):Prop:=∃D:DataW Unit,World.ownsMap w Tryz.prog 9 (plainElem Tryz.prog 4) mb S.length D∧∀s:ByteArray,s.size≤24→D.atKey (.string s.data.toList) (.lit (.bool false))=.lit (.bool (memB s S))
theorem str_keyed:Go.Maps.Keyed Tryz.prog 9:=Go.Maps.string_keyed Tryz.underlying9
theorem SetAt.made(w:World):SetAt (w.alloc (.map #[] 0)) w.heap.size []:=⟨.map [],World.ownsMap_made w _ _ _,fun s _=>by rw [memB_not (by simp)];simp [DataW.atKey]⟩
theorem SetAt.kept{w w':World}{mb:Nat}{S:List ByteArray}{row:Option Nat}(h:SetAt w mb S)(hg:w.grownBy w' row)(hne:some mb≠row):SetAt w' mb S:=by
 obtain ⟨D,h1,h2⟩:=h
 exact ⟨D,h1.kept hg hne,h2⟩
theorem SetAt.lt{w:World}{mb:Nat}{S:List ByteArray}(h:SetAt w mb S):mb<w.heap.size:=by
 obtain ⟨D,h1,_⟩:=h
 exact h1.lt
theorem SetAt.below{w w':World}{mb:Nat}{S:List ByteArray}(h:SetAt w mb S)(hb:Below w.heap.size w w'):SetAt w' mb S:=h.kept (only_of_below hb none) (by simp)
theorem str_key{s:ByteArray}(hs:s.size≤24):keyOf Tryz.prog 9 (.string s)=some (.string s.data.toList):=Go.WideMaps.keyOf_string_mk Tryz.underlying9 (Nat.le_trans hs (by decide))
theorem plainElem_bool_inv{H:Type}{P:Program}{e:TypeId}(he:P.underlying e=some .bool){v:Value}{z:DataW H × List MemPlace}(h:plainElem P e v=some z):∃b,v=.bool b∧z=(.lit (.bool b),[]):=by
 unfold plainElem at h
 rw [he] at h
 cases v<;>simp at h
 exact ⟨_,rfl,h.symm⟩
theorem SetAt.look{w:World}{mb:Nat}{S:List ByteArray}(h:SetAt w mb S){s:ByteArray}(hs:s.size≤24):(Instr.lookup 220 (.map (some mb)) (.string s) false).run Tryz.prog w=.ok (.bool (memB s S)) w:=by
 obtain ⟨D,h1,h2⟩:=h
 obtain ⟨v,ps,hrun,hv⟩:=h1.lookup str_keyed Tryz.underlying220 (z:=.bool false) (by kernel_rfl) (plainElem_bool Tryz.underlying4 false) (str_key hs)
 rw [h2 s hs] at hv
 obtain ⟨b,rfl,hz⟩:=plainElem_bool_inv Tryz.underlying4 hv
 injection hz with hz _
 injection hz with hz
 injection hz with hz
 rw [hrun,hz]
theorem SetAt.put{w:World}{mb:Nat}{S:List ByteArray}(h:SetAt w mb S)(hn:S.length≤1000){s:ByteArray}(hs:s.size≤24):∃w',(Instr.mapUpdate 220 (.map (some mb)) (.string s) (.bool true)).run Tryz.prog w=.ok () w'∧SetAt w' mb (s::S)∧w.grownBy w' (some mb):=by
 obtain ⟨D,h1,h2⟩:=h
 obtain ⟨w',hrun,h3,hg⟩:=h1.update str_keyed Tryz.underlying220 (Nat.lt_of_le_of_lt hn (by decide)) (str_key hs) (plainElem_bool Tryz.underlying4 true)
 obtain ⟨es,clock,_,_,_,hD⟩:=h1
 have hM:Go.Maps.IsMap D:=⟨_,hD⟩
 refine ⟨w',hrun,⟨_,h3,fun t ht=>?_⟩,hg⟩
 by_cases he:t=s
 ·subst he
  rw [Go.Maps.atKey_put_same hM (by trivial),memB_iff.2 (by simp)]
 ·have hne:Lit.string t.data.toList≠Lit.string s.data.toList:=by
   intro h
   injection h with h
   apply he
   obtain ⟨td⟩:=t
   obtain ⟨sd⟩:=s
   exact congrArg ByteArray.mk (Array.ext' h)
  rw [Go.Maps.atKey_put_other hne,h2 t ht]
  have:memB t (s::S)=memB t S:=by
   rw [Bool.eq_iff_iff,memB_iff,memB_iff,List.mem_cons]
   exact ⟨fun h=>h.resolve_left he,.inr⟩
  rw [this]
theorem rule2_ok(j:Jb)(pb mb:Nat)(S:List ByteArray)(w:World)(hj:nameB j.nm=true)(hn:S.length≤1000)(hp:Blk w pb 220 #[.map (some mb)])(hs:SetAt w mb S) :
 Calls Tryz.prog 166 #[.agg (jbV j),.pointer (some ⟨pb,0,none⟩)] w fun e w'=>e=.returned (.bool (!memB j.nm S))∧SetAt w' mb (j.nm::S)∧w.grownBy w' (some mb):=by
 have h24:j.nm.size≤24:=by unfold nameB at hj;simp at hj;exact hj.1.2
 have hg1:w.grownBy (w.alloc (.cells (jbV j) 57)) (some mb):=World.grownBy_alloc w _ _
 have hs1:SetAt (w.alloc (.cells (jbV j) 57)) mb S:=hs.below ((Below.refl _ w).alloc (Nat.le_refl _) _)
 have hp1:=hp.alloc (.cells (jbV j) 57)
 have hlk:=hs1.look h24
 obtain ⟨w3,hup,hs3,hg3⟩:=hs1.put hn h24
 have HR:=hid (And.intro hs3 (only_trans hg1 hg3))
 have hpc:(w.alloc (.cells (jbV j) 57)).cell? ⟨pb,0,none⟩=some (.map (some mb)):=hp1.cell 0
 have hpc0:w.cell? ⟨pb,0,none⟩=some (.map (some mb)):=hp.cell 0
 have hlt:=hp.lt
 have hnw:¬pb=w.heap.size:=by omega
 have e0:(jbV j)[0]? = some (.string j.nm):=rfl
 generalize memB j.nm S=b at *
 clear hg1 hs1 hp1 hs3 hg3 hj hn hp hs h24
 go_enter Tryz.func166,Tryz.ntmps166
 go_wp2_with fail
 go_ret
 exact ⟨rfl,HR.out.1,HR.out.2⟩
def f1V:Value:=.func (.func 164) #[] #[]
def f2V(pb:Nat):Value:=.func (.func 166) #[] #[.pointer (some ⟨pb,0,none⟩)]
def f3V:Value:=.func (.func 167) #[] #[]
def rulesV(pb:Nat):Array Value:=#[f1V,.int .i64 15,f2V pb,.int .i64 6,f3V,.int .i64 16]
theorem rules_ok(w:World):Calls Tryz.prog 143 #[] w fun e w'=>e=.returned (.slice (some ⟨w.heap.size+2,0,none⟩) 3 3)∧Blk w' (w.heap.size+2) 206 (rulesV (w.heap.size+1))∧Blk w' (w.heap.size+1) 220 #[.map (some w.heap.size)]∧SetAt w' w.heap.size []∧Below w.heap.size w w':=by
 have hmm:=@run_makeMap Tryz.prog
 go_enter Tryz.func143,Tryz.ntmps143
 go_wp2_with fail
 go_ret
 have h3:Blk (((w.alloc (.map #[] 0)).alloc (.cells #[.map (some w.heap.size)] 220)).alloc (.cells (rulesV (w.heap.size+1)) 206)) (w.heap.size+2) 206 (rulesV (w.heap.size+1)):=Blk.newAt (by simp)
 have h2:Blk ((w.alloc (.map #[] 0)).alloc (.cells #[.map (some w.heap.size)] 220)) (w.heap.size+1) 220 #[.map (some w.heap.size)]:=Blk.newAt (by simp)
 have b1:Below w.heap.size w (w.alloc (.map #[] 0)):=(Below.refl _ w).alloc (Nat.le_refl _) _
 have b2:=b1.alloc b1.size (.cells #[.map (some w.heap.size)] 220)
 have s1:=SetAt.made w
 have s2:=s1.kept (World.grownBy_alloc _ (.cells #[.map (some w.heap.size)] 220) none) (by simp)
 exact ⟨rfl,h3,h2.alloc _,s2.kept (World.grownBy_alloc _ (.cells (rulesV (w.heap.size+1)) 206) none) (by simp),b2.alloc b2.size _⟩
theorem chk1a_ok(j:Jb)(q f:Nat)(ev:Int)(he:∀args w,(callFunc f args).run Tryz.prog w=.ok (.enter f args) w)(b:Bool)(R:World→Prop)(w:World)(hq:Blk w q 206 #[.func (.func f) #[] #[],.int .i64 ev])
 (hC:Calls Tryz.prog f #[.agg (jbV j)] (w.alloc (.cells (jbV j) 57)) fun e w'=>e=.returned (.bool b)∧R w') :
 Calls Tryz.prog 145 #[.agg (jbV j),.pointer (some ⟨q,0,none⟩)] w fun e w'=>e=.returned (.bool (!b))∧R w':=by
 have hlt:=hq.lt
 have hnw:¬q=w.heap.size:=by omega
 have hc:(w.alloc (.cells (jbV j) 57)).cell? ⟨q,0,none⟩=some (.func (.func f) #[] #[]):=(hq.alloc _).cell 0
 have hc0:w.cell? ⟨q,0,none⟩=some (.func (.func f) #[] #[]):=hq.cell 0
 have LJ:=hid (jb_load (b:=w.heap.size) (o:=0) (w:=w.alloc (.cells (jbV j) 57)) (j:=j) (fun i _=>by rw [Nat.zero_add];exact (Blk.new w _ _).cell i))
 have C:=hid hC
 clear hC hq
 go_enter Tryz.func145,Tryz.ntmps145
 go_wp2_with (refine wpList_load_by rfl 57 _ rfl w.heap.size 0 (.agg (jbV j)) rfl LJ.out ?_)
 refine (C.out).mono ?_
 rintro e_ w2 ⟨rfl,hr⟩
 have HR:=hid hr
 clear hr
 go_wp2_with fail
 go_ret
 exact ⟨rfl,HR.out⟩
theorem chk1b_ok(j:Jb)(q f pb:Nat)(ev:Int)(he:∀args w,(callFunc f args).run Tryz.prog w=.ok (.enter f args) w)(b:Bool)(R:World→Prop)(w:World)(hq:Blk w q 206 #[.func (.func f) #[] #[.pointer (some ⟨pb,0,none⟩)],.int .i64 ev])
 (hC:Calls Tryz.prog f #[.agg (jbV j),.pointer (some ⟨pb,0,none⟩)] (w.alloc (.cells (jbV j) 57)) fun e w'=>e=.returned (.bool b)∧R w') :
 Calls Tryz.prog 145 #[.agg (jbV j),.pointer (some ⟨q,0,none⟩)] w fun e w'=>e=.returned (.bool (!b))∧R w':=by
 have hlt:=hq.lt
 have hnw:¬q=w.heap.size:=by omega
 have hc:(w.alloc (.cells (jbV j) 57)).cell? ⟨q,0,none⟩=some (.func (.func f) #[] #[.pointer (some ⟨pb,0,none⟩)]):=(hq.alloc _).cell 0
 have hc0:w.cell? ⟨q,0,none⟩=some (.func (.func f) #[] #[.pointer (some ⟨pb,0,none⟩)]):=hq.cell 0
 have LJ:=hid (jb_load (b:=w.heap.size) (o:=0) (w:=w.alloc (.cells (jbV j) 57)) (j:=j) (fun i _=>by rw [Nat.zero_add];exact (Blk.new w _ _).cell i))
 have C:=hid hC
 clear hC hq
 go_enter Tryz.func145,Tryz.ntmps145
 go_wp2_with (refine wpList_load_by rfl 57 _ rfl w.heap.size 0 (.agg (jbV j)) rfl LJ.out ?_)
 refine (C.out).mono ?_
 rintro e_ w2 ⟨rfl,hr⟩
 have HR:=hid hr
 clear hr
 go_wp2_with fail
 go_ret
 exact ⟨rfl,HR.out⟩
theorem cfj_ok(L:JL)(a:Option Addr)(n c:Nat)(hn:L.length=n)(hn9:n≤200)(cf q:Nat)(he:∀args w,(callFunc cf args).run Tryz.prog w=.ok (.enter cf args) w)(I:Nat→World→Prop)(Q:Nat→Bool)(hI:∀k W,I k W→JobsAt W a L)
 (hC:∀k j l W,L[k]? = some (j,l)→I k W→Calls Tryz.prog cf #[.agg (jbV j),.pointer (some ⟨q,0,none⟩)] W fun e w'=>e=.returned (.bool (Q k))∧I (k+1) w') (w:World) (h0:I 0 w) :
 Calls Tryz.prog 144 #[.slice a n c,.func (.func cf) #[] #[.pointer (some ⟨q,0,none⟩)]] w fun e w'=>(e=.returned (.bool true)∧∃k:Nat,k<n∧Q k=true∧(∀i,i<k→Q i=false)∧I (k+1) w')∨(e=.returned (.bool false)∧(∀i,i<n→Q i=false)∧I n w'):=by
 have C:=hid (ixj_ok L a n c hn hn9 cf q he I Q hI hC w h0)
 clear hn he hI hC h0
 go_enter Tryz.func144,Tryz.ntmps144
 go_wp2_with fail
 refine (C.out).mono ?_
 rintro e_ w2 ⟨r,rfl,⟨k,hk,rfl,h1,h2,h3⟩|⟨rfl,h1,h2⟩⟩
 ·have HH:=hid (And.intro h1 (And.intro h2 h3))
  have hd:decide ((0:Int)≤(k:Int))=true:=decide_eq_true (by omega)
  clear h1 h2 h3
  go_wp2_with fail
  go_ret
  exact .inl ⟨rfl,k,hk,HH.out.1,HH.out.2.1,HH.out.2.2⟩
 ·have HH:=hid (And.intro h1 h2)
  clear h1 h2
  go_wp2_with fail
  go_ret
  exact .inr ⟨rfl,HH.out.1,HH.out.2⟩
theorem gin_ok(n lo hi:Int)(w:World):Calls Tryz.prog 162 #[.int .i64 n,.int .i64 lo,.int .i64 hi] w fun e w'=>e=.returned (.bool (inB n lo hi))∧w'=w:=by
 unfold inB
 by_cases h1:lo≤n
 ·go_enter Tryz.func162,Tryz.ntmps162
  go_wp2
  go_ret
  exact ⟨ret_bool (by simp;omega),rfl⟩
 ·go_enter Tryz.func162,Tryz.ntmps162
  go_wp2
  go_ret
  exact ⟨ret_bool (by simp;omega),rfl⟩
theorem glob_ok(g:Gl)(w:World):Calls Tryz.prog 142 #[.agg (glV g)] w fun e w'=>e=.returned (.int .i64 (eB (glB g)))∧Below w.heap.size w w':=by
 have C0:=hid (fun W=>gin_ok g.cap 1 1000 W)
 have C1:=hid (fun W=>gin_ok g.q 1 1024 W)
 have C2:=hid (fun W=>gin_ok g.ar 0 4096 W)
 have C3:=hid (fun W=>gin_ok g.ag 1 68719476736 W)
 have C4:=hid (fun W=>limit_ok g.t g.tau W)
 have HV:Hid (glB g=(inB g.cap 1 1000&&(inB g.q 1 1024&&(inB g.ar 0 4096&&(inB g.ag 1 68719476736&&limB g.t g.tau))))):=hid rfl
 generalize inB g.cap 1 1000=b0 at *
 generalize inB g.q 1 1024=b1 at *
 generalize inB g.ar 0 4096=b2 at *
 generalize inB g.ag 1 68719476736=b3 at *
 generalize limB g.t g.tau=b4 at *
 generalize glB g=b at *
 have HB:=hid ((Below.refl _ w).alloc (Nat.le_refl _) (.cells (glV g) 28))
 unfold glV at HB ⊢
 cases b0
 ·have HR:Hid (b=false):=hid (by rw [HV.out];simp)
  clear HV
  go_enter Tryz.func142,Tryz.ntmps142
  go_wp2_with fail
  refine (C0.out _).mono ?_
  rintro r_ w0' ⟨rfl,rfl⟩
  go_wp2_with fail
  go_ret
  exact ⟨ret_i64 (by rw [HR.out];rfl),HB.out⟩
 ·cases b1
  ·have HR:Hid (b=false):=hid (by rw [HV.out];simp)
   clear HV
   go_enter Tryz.func142,Tryz.ntmps142
   go_wp2_with fail
   refine (C0.out _).mono ?_
   rintro r_ w0' ⟨rfl,rfl⟩
   go_wp2_with fail
   refine (C1.out _).mono ?_
   rintro r_ w1' ⟨rfl,rfl⟩
   go_wp2_with fail
   go_ret
   exact ⟨ret_i64 (by rw [HR.out];rfl),HB.out⟩
  ·cases b2
   ·have HR:Hid (b=false):=hid (by rw [HV.out];simp)
    clear HV
    go_enter Tryz.func142,Tryz.ntmps142
    go_wp2_with fail
    refine (C0.out _).mono ?_
    rintro r_ w0' ⟨rfl,rfl⟩
    go_wp2_with fail
    refine (C1.out _).mono ?_
    rintro r_ w1' ⟨rfl,rfl⟩
    go_wp2_with fail
    refine (C2.out _).mono ?_
    rintro r_ w2' ⟨rfl,rfl⟩
    go_wp2_with fail
    go_ret
    exact ⟨ret_i64 (by rw [HR.out];rfl),HB.out⟩
   ·cases b3
    ·have HR:Hid (b=false):=hid (by rw [HV.out];simp)
     clear HV
     go_enter Tryz.func142,Tryz.ntmps142
     go_wp2_with fail
     refine (C0.out _).mono ?_
     rintro r_ w0' ⟨rfl,rfl⟩
     go_wp2_with fail
     refine (C1.out _).mono ?_
     rintro r_ w1' ⟨rfl,rfl⟩
     go_wp2_with fail
     refine (C2.out _).mono ?_
     rintro r_ w2' ⟨rfl,rfl⟩
     go_wp2_with fail
     refine (C3.out _).mono ?_
     rintro r_ w3' ⟨rfl,rfl⟩
     go_wp2_with fail
     go_ret
     exact ⟨ret_i64 (by rw [HR.out];rfl),HB.out⟩
    ·have HR:Hid (b=b4):=hid (by rw [HV.out];rfl)
     clear HV
     cases b4
     ·skip
      go_enter Tryz.func142,Tryz.ntmps142
      go_wp2_with fail
      refine (C0.out _).mono ?_
      rintro r_ w0' ⟨rfl,rfl⟩
      go_wp2_with fail
      refine (C1.out _).mono ?_
      rintro r_ w1' ⟨rfl,rfl⟩
      go_wp2_with fail
      refine (C2.out _).mono ?_
      rintro r_ w2' ⟨rfl,rfl⟩
      go_wp2_with fail
      refine (C3.out _).mono ?_
      rintro r_ w3' ⟨rfl,rfl⟩
      go_wp2_with fail
      refine (C4.out _).mono ?_
      rintro r_ w5 ⟨rfl,hb⟩
      have HB5:=hid (HB.out.trans (Below.mono (w:=w.alloc _) hb HB.out.size))
      clear hb
      have e0:eB false=16:=rfl
      rw [e0]
      go_wp2_with fail
      go_ret
      exact ⟨ret_i64 (by rw [HR.out];rfl),HB5.out⟩
     ·skip
      go_enter Tryz.func142,Tryz.ntmps142
      go_wp2_with fail
      refine (C0.out _).mono ?_
      rintro r_ w0' ⟨rfl,rfl⟩
      go_wp2_with fail
      refine (C1.out _).mono ?_
      rintro r_ w1' ⟨rfl,rfl⟩
      go_wp2_with fail
      refine (C2.out _).mono ?_
      rintro r_ w2' ⟨rfl,rfl⟩
      go_wp2_with fail
      refine (C3.out _).mono ?_
      rintro r_ w3' ⟨rfl,rfl⟩
      go_wp2_with fail
      refine (C4.out _).mono ?_
      rintro r_ w5 ⟨rfl,hb⟩
      have HB5:=hid (HB.out.trans (Below.mono (w:=w.alloc _) hb HB.out.size))
      clear hb
      have e0:eB true=0:=rfl
      rw [e0]
      go_wp2_with fail
      go_ret
      exact ⟨ret_i64 (by rw [HR.out];rfl),HB5.out⟩
def sEq(a b:ByteArray):Bool:=a.toList==b.toList
theorem sEq_iff{a b:ByteArray}:sEq a b=true↔a=b:=by
 unfold sEq
 rw [beq_iff_eq,Lib.toList_data,Lib.toList_data]
 constructor
 ·intro h
  obtain ⟨d⟩:=a
  obtain ⟨e⟩:=b
  exact congrArg ByteArray.mk (Array.ext' h)
 ·rintro rfl;rfl
theorem cfV_eq(c:Cf):cfV c=#[.int .i64 c.g.cap,.int .i64 c.g.q,.int .i64 c.g.ar,.int .i64 c.g.ag,.int .u64 c.g.sd,.int .i64 c.g.t,.int .i64 c.g.tau,.slice c.a c.n c.c]:=rfl
end Go.Proofs.YtpgckpafjiojfaaGreatDoor.BW
