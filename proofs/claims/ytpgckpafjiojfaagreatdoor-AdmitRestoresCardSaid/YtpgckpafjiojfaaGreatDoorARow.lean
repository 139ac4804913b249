/- The tables as the rows lay them. A plan as an argument, and a list of plans: their cells, opened. A configuration as an argument: its cells, opened. -/
import Derived.Test.YtpgckpafjiojfaaGreatDoorRows
import Derived.Lay
import Derived.LaidMore
import Derived.Lib.LaidTab
import Derived.Lib.SmallJoins
import Derived.Deep.Slices
import Derived.Deep.Fields
import Derived.Test.YtpgckpafjiojfaaGreatDoorCJob
set_option maxRecDepth 16000
set_option maxHeartbeats 40000000
namespace Go.Proofs.YtpgckpafjiojfaaGreatDoor.BW
open Go.ChangeShapes Go.WideShapes Go.ChangeAt Go.WideMaps Go.WideElems Go.RowKit
theorem own:ownKnob Tryz.prog.godebug=none:=by kernel_rfl
def lay:List (String × DataW Unit):=[("math/bits.deBruijn64tab",Rows.laid_math_bits_deBruijn64tab),("unicode/utf8.acceptRanges",Rows.laid_unicode_utf8_acceptRanges),("unicode.White_Space",Rows.laid_unicode_White_Space),("strings.asciiSpace",Rows.laid_strings_asciiSpace),("unicode/utf8.first",Rows.laid_unicode_utf8_first)]
theorem lay_plain(w:World):laidMetH Tryz.prog lay w=laidMet Tryz.prog lay w:=MakeChecks.laidMetH_plain _ _ _ (by kernel_rfl)
theorem ascii_data:Rows.laid_strings_asciiSpace=Lib.tabData (H:=Unit) .u8 Lib.asciiSpaceTab:=by kernel_rfl
def dbT:List Int:=Lib.deBruijn64tab.map fun (n:Nat)=>((n:Nat):Int)
theorem db_data:Rows.laid_math_bits_deBruijn64tab=Lib.tabData (H:=Unit) .u8 dbT:=by kernel_rfl
theorem gTab:Tryz.prog.globalNamed "math/bits.deBruijn64tab" = some 1:=by kernel_rfl
theorem tTab:(Tryz.prog.globals[1]?).map (·.type)=some 293:=by kernel_rfl
theorem gSp:Tryz.prog.globalNamed "strings.asciiSpace" = some 0:=by kernel_rfl
theorem tSp:(Tryz.prog.globals[0]?).map (·.type)=some 290:=by kernel_rfl
theorem c5:Tryz.prog.cellsOf 5 = 1:=by kernel_rfl
theorem of_laid{W:World}(h:laidMetH Tryz.prog lay W):Tab W∧SpTab W:=by
 rw [lay_plain] at h
 constructor
 ·have ht:Lib.TabIs Tryz.prog W "math/bits.deBruijn64tab" .u8 dbT:=by
   unfold lay at h
   rw [db_data] at h
   exact Lib.tabIs_of_head gTab tTab Tryz.underlying293 Tryz.underlying5 c5 (by kernel_rfl) h
  intro j hj
  have:=ht.cell gTab j (by simpa [dbT] using (show j<Lib.deBruijn64tab.length from hj))
  rw [this]
  unfold dbT
  congr 2
  have hj2:j<Lib.deBruijn64tab.length:=hj
  simp [List.getD,hj2]
 ·obtain ⟨ps,hv,_,_⟩:=h
  obtain ⟨g0,t0,cs0,f0,p0,q0,hg0,ht0,hv0,hd0,r1,_⟩:=hv
  obtain ⟨g1,t1,cs1,f1,p1,q1,hg1,ht1,hv1,hd1,r2,_⟩:=r1
  obtain ⟨g2,t2,cs2,f2,p2,q2,hg2,ht2,hv2,hd2,r3,_⟩:=r2
  obtain ⟨g3,t3,cs3,f3,p3,q3,hg3,ht3,hv3,hd3,_,_⟩:=r3
  obtain rfl:=Option.some.inj (gSp.symm.trans hg3)
  obtain rfl:=Option.some.inj (tSp.symm.trans ht3)
  rw [ascii_data] at hd3
  unfold SpTab Lib.TabIs
  rw [hv3,←Lib.cells_of_tab Tryz.underlying290 Tryz.underlying5 c5 (by kernel_rfl) hd3]
end Go.Proofs.YtpgckpafjiojfaaGreatDoor.BW
namespace Go.Proofs.YtpgckpafjiojfaaGreatDoor.BW
open Go.ChangeShapes Go.WideShapes Go.ChangeAt Go.WideMaps Go.WideElems Go.RowKit BM MC RK Go.Joins Go.Deep
theorem expr_cells:Tryz.prog.cellsOf 44 = 8:=by kernel_rfl
theorem plan_cells:Tryz.prog.cellsOf 49 = 14:=by kernel_rfl
theorem every_cells:Tryz.prog.cellsOf 46 = 3:=by kernel_rfl
theorem c1u:Tryz.prog.cellsOf 24 = 1:=by kernel_rfl
theorem c1b:Tryz.prog.cellsOf 4 = 1:=by kernel_rfl
theorem c1i:Tryz.prog.cellsOf 3 = 1:=by kernel_rfl
theorem c1l:Tryz.prog.cellsOf 2 = 1:=by kernel_rfl
theorem c1s:Tryz.prog.cellsOf 47 = 1:=by kernel_rfl
section
variable{H:Type}{enc:TypeId × Value→H}{P:Program}{w:World}{base:Nat}{spare:Nat→Bool}{held:Bool}
theorem open_slice_fields{t e:TypeId}{fs:Array Field}{fuel:Nat}{cs:List Value}{x:DataW H × List MemPlace}(ht:P.underlying t=some (.slice e))(he:P.underlying e=some (.struct fs))
 (hone:oneCellFields P fs=true) (hC:P.cellsOf e=fs.size) (h:DataW.trod enc P w base spare held fuel t cs=some x) :
 (cs=[.slice none 0 0]∧x=(.nil,[])) ∨
 ∃(a:Addr) (len cap m:Nat) (D:Nat→DataW H) (Pl:Nat→List MemPlace),cs=[.slice (some a) len cap]∧base≤a.block∧len≤cap∧cap≤maxLen∧m=(if spare a.block then cap else len) ∧
  x=(.slice ((List.range len).map D) ((List.range (m - len)).map fun j=>D (len+j)),MemPlace.row a (m*fs.size)++(List.range m).flatMap Pl) ∧
  ∀i,i<m→∃(ys:List (DataW H × List MemPlace)) (n:Nat),D i=.agg (ys.map (·.1))∧Pl i=ys.flatMap (·.2)∧ys.length=fs.size ∧
   ∀(j:Nat) (f:Field),fs[j]? = some f→∃(v:Value) (y:DataW H × List MemPlace),w.cell? (a.add (i*fs.size+j))=some v∧ys[j]? = some y∧DataW.trod enc P w base spare held n f.type [v]=some y:=by
 rcases open_slice ht h with h0|⟨a,len,cap,m,n,D,Pl,hcs,hb,hl,hm,hmm,hx,hi⟩
 ·exact .inl h0
 ·refine .inr ⟨a,len,cap,m,D,Pl,hcs,hb,hl,hm,hmm,by rw [hC] at hx;exact hx,fun i him=>?_⟩
  obtain ⟨cs',hc,ht'⟩:=hi i him
  rw [hC] at hc
  obtain ⟨ys,n',hn',hy,hlen,hyl,hf⟩:=DataW.trod_struct he ht'
  obtain ⟨_,hcl,hat⟩:=World.cells?_some hc
  simp only [Prod.mk.injEq] at hy
  refine ⟨ys,n',hy.1,hy.2,hyl,fun j f hj=>?_⟩
  obtain ⟨ho,hk⟩:=hone_of hone j f hj
  have hjl:j<fs.size:=(Array.getElem?_eq_some_iff.1 hj).1
  have hcell:=hat j hjl
  have hv:cs'[j]? = some (cs'[j]'(by omega)):=List.getElem?_eq_getElem (by omega)
  have h1:=hf j f hj
  rw [ho,hk] at h1
  have hone':(cs'.drop j).take 1=[cs'[j]'(by omega)]:=by
   rw [List.drop_eq_getElem_cons (by omega)]
   rfl
  rw [hone'] at h1
  have hys:ys[j]? = some (ys[j]'(by omega)):=List.getElem?_eq_getElem (by omega)
  refine ⟨_,_,?_,hys,h1.trans hys⟩
  rw [←Go.Deep.add_add,hcell,hv]
end
section
variable{H:Type}{enc:TypeId × Value→H}{w:World}{base:Nat}{spare:Nat→Bool}{held:Bool}
theorem u64_cellP{n:Nat}{v:Value}{y:DataW H × List MemPlace}(h:DataW.trod enc Tryz.prog w base spare held n 24 [v]=some y):∃s:Nat,v=.int .u64 s∧s<18446744073709551616:=by
 obtain ⟨k,h1,hx,hw⟩:=DataW.trod_int Tryz.underlying24 h
 obtain ⟨s,rfl,hs⟩:=u64_nat hw
 exact ⟨s,by simpa using h1,hs⟩
theorem bool_cellP{n:Nat}{v:Value}{y:DataW H × List MemPlace}(h:DataW.trod enc Tryz.prog w base spare held n 4 [v]=some y):∃b:Bool,v=.bool b:=by
 obtain ⟨b,h1,hx⟩:=DataW.trod_bool Tryz.underlying4 h
 exact ⟨b,by simpa using h1⟩
theorem int_cellP{n:Nat}{v:Value}{y:DataW H × List MemPlace}(h:DataW.trod enc Tryz.prog w base spare held n 3 [v]=some y):∃b:Int,v=.int .i64 b:=by
 obtain ⟨b,h1,-,-⟩:=DataW.trod_int Tryz.underlying3 h
 exact ⟨b,by simpa using h1⟩
theorem i64_cellP{n:Nat}{v:Value}{y:DataW H × List MemPlace}(h:DataW.trod enc Tryz.prog w base spare held n 2 [v]=some y):∃b:Int,v=.int .i64 b:=by
 obtain ⟨b,h1,-,-⟩:=DataW.trod_int Tryz.underlying2 h
 exact ⟨b,by simpa using h1⟩
def rdSp(W:World)(bb off i:Nat):Int × Int :=
 ⟨match W.cell? ⟨bb,off+i*2,none⟩ with|some (.int _ n)=>n|_=>0,match W.cell? ⟨bb,off+i*2+1,none⟩ with|some (.int _ n)=>n|_=>0⟩
theorem spans_openP{n:Nat}{v:Value}{y:DataW H × List MemPlace}(h:DataW.trod enc Tryz.prog w base spare held n 47 [v]=some y) :
 ∃(a:Option Addr) (m c:Nat) (l:List (Int × Int)),v=.slice a m c∧l.length=m∧SpansAt w a l:=by
 rcases open_slice_fields Tryz.underlying47 Tryz.underlying218 (by kernel_rfl) (by kernel_rfl) h with ⟨hcs,_⟩|⟨x,len,c,m,D,Pl,hcs,_,hl,hm,hmm,_,hel⟩
 ·exact ⟨none,0,0,[],by simpa using hcs,rfl,SpansAt.nil _ _⟩
 ·have hml:len≤m:=by rw [hmm];split<;>omega
  obtain ⟨bb,off,spot⟩:=x
  have hspot:0<len→spot=none:=fun h0=>by
   obtain ⟨ys,n,-,-,-,hfs⟩:=hel 0 (by omega)
   obtain ⟨v0,y0,c0,-,-⟩:=hfs 0 _ rfl
   simpa [Addr.add] using World.cell?_spot c0
  refine ⟨some ⟨bb,off,spot⟩,len,c,(List.range len).map fun i=>rdSp w bb off i,by simpa using hcs,by simp,fun k hk=>?_⟩
  have hk':k<len:=by simpa using hk
  obtain rfl:=hspot (by omega)
  have hadd:∀j,(⟨bb,off,none⟩:Addr).add j=⟨bb,off+j,none⟩:=fun j=>by unfold Addr.add;split<;>simp_all
  obtain ⟨ys,n,-,-,-,hfs⟩:=hel k (by omega)
  obtain ⟨v0,y0,c0,-,t0⟩:=hfs 0 _ rfl
  obtain ⟨v1,y1,c1,-,t1⟩:=hfs 1 _ rfl
  obtain ⟨k0,rfl⟩:=i64_cellP t0
  obtain ⟨k1,rfl⟩:=i64_cellP t1
  rw [hadd] at c0 c1
  have c0:w.cell? ⟨bb,off+k*2,none⟩=some (.int .i64 k0):=c0
  have c1:w.cell? ⟨bb,off+k*2+1,none⟩=some (.int .i64 k1):=by rw [Nat.add_assoc];exact c1
  have hr:((List.range len).map fun i=>rdSp w bb off i)[k]=(k0,k1):=by
   rw [List.getElem_map,List.getElem_range]
   simp only [rdSp,c0,c1]
  rw [hr]
  exact ⟨bb,off,rfl,c0,c1⟩
theorem plan_cellsP{fuel:Nat}{c0 c1 c2 c3 c4 c5 c6 c7 c8 c9 c10 c11 c12 c13:Value}{y:DataW H × List MemPlace}(hf:DataW.trod enc Tryz.prog w base spare held fuel 49 [c0,c1,c2,c3,c4,c5,c6,c7,c8,c9,c10,c11,c12,c13]=some y) :
 ∃(p:Pl) (l:List (Int × Int)),#[c0,c1,c2,c3,c4,c5,c6,c7,c8,c9,c10,c11,c12,c13]=plV p∧PIn w p l:=by
 obtain ⟨xs,n,-,-,_,hlen,hel⟩:=DataW.trod_struct Tryz.underlying49 hf
 match xs,hlen with
 | [z0,z1,z2,z3,z4],_ =>
  obtain ⟨k,rfl⟩:=int_cellP (by simpa [c1i] using hel 0 _ rfl)
  have hx:DataW.trod enc Tryz.prog w base spare held n 44 [c1,c2,c3,c4,c5,c6,c7,c8]=some z1:=by simpa [expr_cells] using hel 1 _ rfl
  obtain ⟨z,rfl⟩:=int_cellP (by simpa [c1i] using hel 2 _ rfl)
  have he:DataW.trod enc Tryz.prog w base spare held n 46 [c10,c11,c12]=some z3:=by simpa [every_cells] using hel 3 _ rfl
  obtain ⟨a,m,c,l,rfl,hl,hs⟩:=spans_openP (by simpa [c1s] using hel 4 _ rfl)
  obtain ⟨us,n2,-,-,_,hlen2,hel2⟩:=DataW.trod_struct Tryz.underlying44 hx
  obtain ⟨vs,n3,-,-,_,hlen3,hel3⟩:=DataW.trod_struct Tryz.underlying46 he
  match us,hlen2,vs,hlen3 with
  | [u0,u1,u2,u3,u4,u5,u6,u7],_,[v0,v1,v2],_ =>
   obtain ⟨s0,rfl,b0⟩:=u64_cellP (by simpa [c1u] using hel2 0 _ rfl)
   obtain ⟨s1,rfl,b1⟩:=u64_cellP (by simpa [c1u] using hel2 1 _ rfl)
   obtain ⟨s2,rfl,b2⟩:=u64_cellP (by simpa [c1u] using hel2 2 _ rfl)
   obtain ⟨s3,rfl,b3⟩:=u64_cellP (by simpa [c1u] using hel2 3 _ rfl)
   obtain ⟨s4,rfl,b4⟩:=u64_cellP (by simpa [c1u] using hel2 4 _ rfl)
   obtain ⟨s5,rfl,b5⟩:=u64_cellP (by simpa [c1u] using hel2 5 _ rfl)
   obtain ⟨e6,rfl⟩:=bool_cellP (by simpa [c1b] using hel2 6 _ rfl)
   obtain ⟨e7,rfl⟩:=bool_cellP (by simpa [c1b] using hel2 7 _ rfl)
   obtain ⟨g0,rfl⟩:=i64_cellP (by simpa [c1l] using hel3 0 _ rfl)
   obtain ⟨g1,rfl⟩:=i64_cellP (by simpa [c1l] using hel3 1 _ rfl)
   obtain ⟨g2,rfl⟩:=int_cellP (by simpa [c1i] using hel3 2 _ rfl)
   exact ⟨⟨k,⟨s0,s1,s2,s3,s4,s5,e6,e7⟩,z,⟨g0,g1,g2⟩,a,m,c⟩,l,rfl,⟨⟨b0,b1,b2,b3,b4,b5⟩,hl,hs⟩⟩
end
theorem door_met(os:Os)(args:Array Value):laidMetH Tryz.prog lay ((World.laidAll Tryz.prog os lay).forCall (fun _ _=>0) ⟨#[],args,[]⟩).memory:=by
 rw [lay_plain]
 exact laidMet_laidAll _ (by kernel_rfl) (by kernel_rfl)
theorem lim_cells:Tryz.prog.cellsOf 26 = 2:=by kernel_rfl
theorem brk_cells:Tryz.prog.cellsOf 51 = 3:=by kernel_rfl
theorem rty_cells:Tryz.prog.cellsOf 53 = 4:=by kernel_rfl
theorem pol_cells:Tryz.prog.cellsOf 55 = 15:=by kernel_rfl
theorem job_cells:Tryz.prog.cellsOf 57 = 30:=by kernel_rfl
theorem glo_cells:Tryz.prog.cellsOf 28 = 7:=by kernel_rfl
theorem cfg_cells:Tryz.prog.cellsOf 31 = 8:=by kernel_rfl
theorem c1str:Tryz.prog.cellsOf 9 = 1:=by kernel_rfl
theorem c1jobs:Tryz.prog.cellsOf 29 = 1:=by kernel_rfl
theorem arr8'{α:Type}{cs:Array α}(h:cs.size=8):∃c0 c1 c2 c3 c4 c5 c6 c7,cs=#[c0,c1,c2,c3,c4,c5,c6,c7]:=by
 obtain ⟨l⟩:=cs
 match l,h with
 | [c0,c1,c2,c3,c4,c5,c6,c7],_=>exact ⟨c0,c1,c2,c3,c4,c5,c6,c7,rfl⟩
theorem lst30{α:Type}{cs:List α}(h:cs.length=30):∃c0 c1 c2 c3 c4 c5 c6 c7 c8 c9 c10 c11 c12 c13 c14 c15 c16 c17 c18 c19 c20 c21 c22 c23 c24 c25 c26 c27 c28 c29,cs=[c0,c1,c2,c3,c4,c5,c6,c7,c8,c9,c10,c11,c12,c13,c14,c15,c16,c17,c18,c19,c20,c21,c22,c23,c24,c25,c26,c27,c28,c29]:=by
 match cs,h with
 | [c0,c1,c2,c3,c4,c5,c6,c7,c8,c9,c10,c11,c12,c13,c14,c15,c16,c17,c18,c19,c20,c21,c22,c23,c24,c25,c26,c27,c28,c29],_=>exact ⟨c0,c1,c2,c3,c4,c5,c6,c7,c8,c9,c10,c11,c12,c13,c14,c15,c16,c17,c18,c19,c20,c21,c22,c23,c24,c25,c26,c27,c28,c29,rfl⟩
section
variable{H:Type}{enc:TypeId × Value→H}{w:World}{base:Nat}{spare:Nat→Bool}{held:Bool}
theorem lim_open{n:Nat}{c0 c1:Value}{y:DataW H × List MemPlace}(h:DataW.trod enc Tryz.prog w base spare held n 26 [c0,c1]=some y):∃a b:Int,c0=.int .i64 a∧c1=.int .i64 b:=by
 obtain ⟨us,n2,-,-,_,hlen,hel⟩:=DataW.trod_struct Tryz.underlying26 h
 match us,hlen with
 | [u0,u1],_ =>
  obtain ⟨a,rfl⟩:=i64_cellP (by simpa [c1l] using hel 0 _ rfl)
  obtain ⟨b,rfl⟩:=i64_cellP (by simpa [c1l] using hel 1 _ rfl)
  exact ⟨a,b,rfl,rfl⟩
theorem brk_open{n:Nat}{c0 c1 c2:Value}{y:DataW H × List MemPlace}(h:DataW.trod enc Tryz.prog w base spare held n 51 [c0,c1,c2]=some y):∃a b c:Int,c0=.int .i64 a∧c1=.int .i64 b∧c2=.int .i64 c:=by
 obtain ⟨us,n2,-,-,_,hlen,hel⟩:=DataW.trod_struct Tryz.underlying51 h
 match us,hlen with
 | [u0,u1,u2],_ =>
  obtain ⟨a,rfl⟩:=int_cellP (by simpa [c1i] using hel 0 _ rfl)
  obtain ⟨b,rfl⟩:=i64_cellP (by simpa [c1l] using hel 1 _ rfl)
  obtain ⟨c,rfl⟩:=int_cellP (by simpa [c1i] using hel 2 _ rfl)
  exact ⟨a,b,c,rfl,rfl,rfl⟩
theorem rty_open{n:Nat}{c0 c1 c2 c3:Value}{y:DataW H × List MemPlace}(h:DataW.trod enc Tryz.prog w base spare held n 53 [c0,c1,c2,c3]=some y):∃a b c d:Int,c0=.int .i64 a∧c1=.int .i64 b∧c2=.int .i64 c∧c3=.int .i64 d:=by
 obtain ⟨us,n2,-,-,_,hlen,hel⟩:=DataW.trod_struct Tryz.underlying53 h
 match us,hlen with
 | [u0,u1,u2,u3],_ =>
  obtain ⟨a,rfl⟩:=int_cellP (by simpa [c1i] using hel 0 _ rfl)
  obtain ⟨b,rfl⟩:=i64_cellP (by simpa [c1l] using hel 1 _ rfl)
  obtain ⟨c,rfl⟩:=i64_cellP (by simpa [c1l] using hel 2 _ rfl)
  obtain ⟨d,rfl⟩:=i64_cellP (by simpa [c1l] using hel 3 _ rfl)
  exact ⟨a,b,c,d,rfl,rfl,rfl,rfl⟩
theorem pol_open{n:Nat}{c0 c1 c2 c3 c4 c5 c6 c7 c8 c9 c10 c11 c12 c13 c14:Value}{y:DataW H × List MemPlace}(h:DataW.trod enc Tryz.prog w base spare held n 55 [c0,c1,c2,c3,c4,c5,c6,c7,c8,c9,c10,c11,c12,c13,c14]=some y):∃y:Po,[c0,c1,c2,c3,c4,c5,c6,c7,c8,c9,c10,c11,c12,c13,c14]=(poV y).toList:=by
 obtain ⟨us,n2,-,-,_,hlen,hel⟩:=DataW.trod_struct Tryz.underlying55 h
 match us,hlen with
 | [u0,u1,u2,u3,u4,u5,u6,u7,u8],_ =>
  obtain ⟨a0,rfl⟩:=int_cellP (by simpa [c1i] using hel 0 _ rfl)
  obtain ⟨a1,rfl⟩:=int_cellP (by simpa [c1i] using hel 1 _ rfl)
  obtain ⟨a2,rfl⟩:=i64_cellP (by simpa [c1l] using hel 2 _ rfl)
  obtain ⟨a3,rfl⟩:=i64_cellP (by simpa [c1l] using hel 3 _ rfl)
  obtain ⟨a4,rfl⟩:=int_cellP (by simpa [c1i] using hel 4 _ rfl)
  obtain ⟨a5,rfl⟩:=int_cellP (by simpa [c1i] using hel 5 _ rfl)
  obtain ⟨a6,a7,rfl,rfl⟩:=lim_open (by simpa [lim_cells] using hel 6 _ rfl)
  obtain ⟨a8,a9,a10,rfl,rfl,rfl⟩:=brk_open (by simpa [brk_cells] using hel 7 _ rfl)
  obtain ⟨a11,a12,a13,a14,rfl,rfl,rfl,rfl⟩:=rty_open (by simpa [rty_cells] using hel 8 _ rfl)
  exact ⟨⟨a0,a1,a2,a3,a4,a5,a6,a7,a8,a9,a10,a11,a12,a13,a14⟩,rfl⟩
theorem job_open{n:Nat}{c0 c1 c2 c3 c4 c5 c6 c7 c8 c9 c10 c11 c12 c13 c14 c15 c16 c17 c18 c19 c20 c21 c22 c23 c24 c25 c26 c27 c28 c29:Value}{y:DataW H × List MemPlace}(h:DataW.trod enc Tryz.prog w base spare held n 57 [c0,c1,c2,c3,c4,c5,c6,c7,c8,c9,c10,c11,c12,c13,c14,c15,c16,c17,c18,c19,c20,c21,c22,c23,c24,c25,c26,c27,c28,c29]=some y):∃(j:Jb) (l:List (Int × Int)),[c0,c1,c2,c3,c4,c5,c6,c7,c8,c9,c10,c11,c12,c13,c14,c15,c16,c17,c18,c19,c20,c21,c22,c23,c24,c25,c26,c27,c28,c29]=(jbV j).toList∧PIn w j.p l∧j.nm.size≤maxLen:=by
 obtain ⟨us,n2,-,-,_,hlen,hel⟩:=DataW.trod_struct Tryz.underlying57 h
 match us,hlen with
 | [u0,u1,u2],_ =>
  obtain ⟨s,e0,_,hs⟩:=DataW.trod_string Tryz.underlying9 (by simpa [c1str] using hel 0 _ rfl:DataW.trod enc Tryz.prog w base spare held n2 9 [c0]=some u0)
  obtain rfl:c0=.string s:=by simpa using e0
  obtain ⟨p,l,e1,hp⟩:=plan_cellsP (by simpa [plan_cells] using hel 1 _ rfl:DataW.trod enc Tryz.prog w base spare held n2 49 [c1,c2,c3,c4,c5,c6,c7,c8,c9,c10,c11,c12,c13,c14]=some u1)
  obtain ⟨y,e2⟩:=pol_open (by simpa [pol_cells] using hel 2 _ rfl:DataW.trod enc Tryz.prog w base spare held n2 55 [c15,c16,c17,c18,c19,c20,c21,c22,c23,c24,c25,c26,c27,c28,c29]=some u2)
  refine ⟨⟨s,p,y⟩,l,?_,hp,hs⟩
  have e1':[c1,c2,c3,c4,c5,c6,c7,c8,c9,c10,c11,c12,c13,c14]=(plV p).toList:=congrArg Array.toList e1
  show Value.string s::([c1,c2,c3,c4,c5,c6,c7,c8,c9,c10,c11,c12,c13,c14]++[c15,c16,c17,c18,c19,c20,c21,c22,c23,c24,c25,c26,c27,c28,c29])=_
  rw [e1',e2]
  rfl
theorem list_choice'{α:Type}{Q:Nat→α→Prop}:∀n:Nat,(∀i,i<n→∃x,Q i x)→∃L:List α,L.length=n∧∀i (hi:i<L.length),Q i L[i]
 | 0,_=>⟨[],rfl,fun _ hi=>absurd hi (Nat.not_lt_zero _)⟩
 | n+1,h=>by
  obtain ⟨L,hl,hq⟩:=list_choice' n (fun i hi=>h i (by omega))
  obtain ⟨x,hx⟩:=h n (by omega)
  refine ⟨L++[x],by simp [hl],fun i hi=>?_⟩
  rcases Nat.lt_or_ge i L.length with h1|h1
  ·rw [List.getElem_append_left h1];exact hq i h1
  ·obtain rfl:i=L.length:=by simp at hi;omega
   rw [List.getElem_append_right (Nat.le_refl _)]
   simpa [hl] using hx
theorem jobs_open{fuel:Nat}{v:Value}{y:DataW H × List MemPlace}(hf:DataW.trod enc Tryz.prog w base spare held fuel 29 [v]=some y) :
 ∃(L:JL) (a:Option Addr) (n c:Nat),v=.slice a n c∧L.length=n∧JobsAt w a L∧n≤9223372036854775807∧n≤c:=by
 rcases open_slice Tryz.underlying29 hf with ⟨hcs,_⟩|⟨x,len,cap,m,n,D,Pl',hcs,hb,hl,hm,hmm,hx,hi⟩
 ·refine ⟨[],none,0,0,by simpa using hcs,rfl,fun k hk=>absurd hk (Nat.not_lt_zero _),by decide,Nat.le_refl _⟩
 ·have hml:len≤m:=by rw [hmm];split<;>omega
  have hmax:maxLen≤9223372036854775807:=by decide
  obtain ⟨bb,off,spot⟩:=x
  have hstep:∀i,i<len→∃y:Jb × List (Int × Int),(∀j,j<30→w.cell? (((⟨bb,off,spot⟩:Addr).add (i*30)).add j)=(jbV y.1)[j]?)∧PIn w y.1.p y.2:=fun i hil=>by
   obtain ⟨cs',hc,ht'⟩:=hi i (by omega)
   rw [job_cells] at hc
   obtain ⟨_,hcl,hat⟩:=World.cells?_some hc
   obtain ⟨c0,c1,c2,c3,c4,c5,c6,c7,c8,c9,c10,c11,c12,c13,c14,c15,c16,c17,c18,c19,c20,c21,c22,c23,c24,c25,c26,c27,c28,c29,rfl⟩:=lst30 hcl
   obtain ⟨j,l,e,hp,_⟩:=job_open ht'
   refine ⟨(j,l),fun q hq=>?_,hp⟩
   rw [hat q hq,e,Array.getElem?_toList]
  obtain ⟨L,hL,hq⟩:=list_choice' len hstep
  have hspot:0<len→spot=none:=fun h0=>by
   have h1:=(hq 0 (by omega)).1 0 (by decide)
   have h2:(jbV L[0].1)[0]? = some (.string L[0].1.nm):=rfl
   rw [h2] at h1
   simpa [Addr.add] using World.cell?_spot h1
  refine ⟨L,some ⟨bb,off,spot⟩,len,cap,by simpa using hcs,hL,fun k hk=>?_,by omega,by omega⟩
  obtain rfl:=hspot (by omega)
  obtain ⟨h1,h2⟩:=hq k hk
  refine ⟨bb,off,rfl,fun i hi'=>?_,h2⟩
  have:=h1 i hi'
  rw [Go.Deep.add_add] at this
  rw [←this]
  congr 1
  unfold Addr.add
  split<;>simp_all<;>omega
theorem open_cfg2{r:Reach}{b0:Nat}{v:Value}{d:DataW H}{q:List MemPlace}(hv:Value.okWide Tryz.prog w r b0 31 v)(h:DataW.Trod enc Tryz.prog w base spare held 31 v d q) :
 ∃(c:Cf) (L:JL),v=.agg (cfV c)∧CIn w c L∧c.n≤9223372036854775807∧c.n≤c.c:=by
 obtain ⟨cs,rfl,hsz⟩:=okWide_struct Tryz.underlying31 hv
 obtain ⟨c0,c1,c2,c3,c4,c5,c6,c7,rfl⟩:=arr8' (hsz.trans cfg_cells)
 obtain ⟨fuel,hf⟩:=h
 obtain ⟨us,n2,-,-,_,hlen,hel⟩:=DataW.trod_struct Tryz.underlying31 hf
 match us,hlen with
 | [u0,u1],_ =>
  have hg:DataW.trod enc Tryz.prog w base spare held n2 28 [c0,c1,c2,c3,c4,c5,c6]=some u0:=by simpa [glo_cells,Value.cells] using hel 0 _ rfl
  obtain ⟨L,a,n,c,rfl,hL,hj,hn⟩:=jobs_open (by simpa [c1jobs,Value.cells] using hel 1 _ rfl:DataW.trod enc Tryz.prog w base spare held n2 29 [c7]=some u1)
  obtain ⟨vs,n3,-,-,_,hlen3,hel3⟩:=DataW.trod_struct Tryz.underlying28 hg
  match vs,hlen3 with
  | [v0,v1,v2,v3,v4,v5],_ =>
   obtain ⟨a0,rfl⟩:=int_cellP (by simpa [c1i] using hel3 0 _ rfl)
   obtain ⟨a1,rfl⟩:=int_cellP (by simpa [c1i] using hel3 1 _ rfl)
   obtain ⟨a2,rfl⟩:=int_cellP (by simpa [c1i] using hel3 2 _ rfl)
   obtain ⟨a3,rfl⟩:=i64_cellP (by simpa [c1l] using hel3 3 _ rfl)
   obtain ⟨a4,rfl,hb4⟩:=u64_cellP (by simpa [c1u] using hel3 4 _ rfl)
   obtain ⟨a5,a6,rfl,rfl⟩:=lim_open (by simpa [lim_cells] using hel3 5 _ rfl)
   exact ⟨⟨⟨a0,a1,a2,a3,a4,a5,a6⟩,a,n,c⟩,L,rfl,⟨hL,hj,hb4⟩,hn⟩
theorem open_cfg{r:Reach}{b0:Nat}{v:Value}{d:DataW H}{q:List MemPlace}(hv:Value.okWide Tryz.prog w r b0 31 v)(h:DataW.Trod enc Tryz.prog w base spare held 31 v d q) :
 ∃(c:Cf) (L:JL),v=.agg (cfV c)∧CIn w c L∧c.n≤9223372036854775807:=by
 obtain ⟨c,L,h1,h2,h3,_⟩:=open_cfg2 hv h
 exact ⟨c,L,h1,h2,h3⟩
end
end Go.Proofs.YtpgckpafjiojfaaGreatDoor.BW
