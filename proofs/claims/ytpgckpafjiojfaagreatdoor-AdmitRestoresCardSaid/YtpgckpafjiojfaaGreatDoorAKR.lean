/- Rules and moves as arguments: their cells, opened. The steps of a play as an argument: their cells, opened. A gate's state as an argument: its cells, opened. -/
import Derived.Test.YtpgckpafjiojfaaGreatDoorARow
import Derived.Test.YtpgckpafjiojfaaGreatDoorAJh
namespace Go.Proofs.YtpgckpafjiojfaaGreatDoor.AD
open Go.ChangeShapes Go.WideShapes Go.ChangeAt Go.WideMaps Go.WideElems Go.RowKit Go.Joins BW RK
theorem u8_natA{a:Int}(w:(Lit.int .u8 a).wf=true):∃n:Nat,a=n∧n<256:=by
 have h:(0≤a∧a≤255):=by simpa [Lit.wf,IntKind.min,IntKind.max,IntKind.signed,IntKind.bits] using w
 exact ⟨a.toNat,by omega,by omega⟩
section
variable{H:Type}{enc:TypeId × Value→H}{w:World}{base:Nat}{spare:Nat→Bool}{held:Bool}
theorem u8_cell{n:Nat}{v:Value}{y:DataW H × List MemPlace}(h:DataW.trod enc Tryz.prog w base spare held n 5 [v]=some y):∃s:Nat,v=.int .u8 s∧s<256:=by
 obtain ⟨k,h1,hx,hw⟩:=DataW.trod_int Tryz.underlying5 h
 obtain ⟨s,rfl,hs⟩:=u8_natA hw
 exact ⟨s,by simpa using h1,hs⟩
end
set_option maxRecDepth 16000
set_option maxHeartbeats 40000000
structure Stp where
 kind:Nat
 job:Int
 ok:Bool
 now:Int
def stC(s:Stp):Array Value:=#[.int .u8 s.kind,.int .i64 s.job,.bool s.ok,.int .i64 s.now]
def StepsAt(W:World)(a:Option Addr)(ms:List Stp):Prop:=∀k (hk:k<ms.length),∃b off,a=some ⟨b,off,none⟩∧(∀i,i<4→W.cell? ⟨b,off+k*4+i,none⟩=(stC ms[k])[i]?)∧ms[k].kind<256
theorem StepsAt.below{W W':World}{a:Option Addr}{ms:List Stp}(h:StepsAt W a ms)(hb:Below W.heap.size W W'):StepsAt W' a ms:=fun k hk=>by
 obtain ⟨b,off,e,h1,h2⟩:=h k hk
 refine ⟨b,off,e,fun i hi=>?_,h2⟩
 have hc:=h1 i hi
 obtain ⟨v,hv⟩:∃v,(stC ms[k])[i]? = some v:=⟨_,Array.getElem?_eq_getElem (show i<(stC ms[k]).size from hi)⟩
 rw [hv] at hc ⊢
 exact (hb.cell (p:=⟨b,off+k*4+i,none⟩) (World.block_lt_of_cell? W _ hc)).trans hc
section
variable{H:Type}{enc:TypeId × Value→H}{w:World}{base:Nat}{spare:Nat→Bool}{held:Bool}
theorem int_cell{t:TypeId}(ht:Tryz.prog.underlying t=some (.int .i64)){n:Nat}{v:Value}{y:DataW H × List MemPlace}(h:DataW.trod enc Tryz.prog w base spare held n t [v]=some y):∃s:Int,v=.int .i64 s:=by
 obtain ⟨k,h1,-,-⟩:=DataW.trod_int ht h
 exact ⟨k,by simpa using h1⟩
theorem bool_cell{n:Nat}{v:Value}{y:DataW H × List MemPlace}(h:DataW.trod enc Tryz.prog w base spare held n 4 [v]=some y):∃s:Bool,v=.bool s:=by
 obtain ⟨k,h1,-⟩:=DataW.trod_bool Tryz.underlying4 h
 exact ⟨k,by simpa using h1⟩
theorem open_steps{r:Reach}{b0:Nat}{v:Value}{d:DataW H}{q:List MemPlace}(hv:Value.okWide Tryz.prog w r b0 80 v)(h:DataW.Trod enc Tryz.prog w base spare held 80 v d q) :
 ∃(L:List Stp) (a:Option Addr) (n c:Nat),v=.slice a n c∧StepsAt w a L∧L.length=n∧n≤c∧n≤9223372036854775807:=by
 obtain ⟨a0,len0,cap0,rfl⟩:=okWide_slice Tryz.underlying80 hv
 obtain ⟨fuel,hf⟩:=h
 rcases open_slice_fields Tryz.underlying80 Tryz.underlying86 (by kernel_rfl) (by kernel_rfl) hf with ⟨hcs,_⟩|⟨x,l,c,m,D,Pl,hcs,_,hl,hm,hmm,_,hel⟩
 ·simp [Value.cells] at hcs
  obtain ⟨rfl,rfl,rfl⟩:=hcs
  exact ⟨[],none,0,0,rfl,fun k hk=>by simp at hk,rfl,Nat.le_refl _,by decide⟩
 ·simp [Value.cells] at hcs
  obtain ⟨rfl,rfl,rfl⟩:=hcs
  have hml:len0≤m:=by rw [hmm];split<;>omega
  have hmax:maxLen≤9223372036854775807:=by decide
  obtain ⟨bb,off,spot⟩:=x
  have hspot:0<len0→spot=none:=fun h0=>by
   obtain ⟨ys,n,-,-,-,hfs⟩:=hel 0 (by omega)
   obtain ⟨v0,y0,c0,-,-⟩:=hfs 0 _ rfl
   simpa [Addr.add] using World.cell?_spot c0
  have hstep:∀i,i<len0→∃y:Stp,(∀j,j<4→w.cell? ⟨bb,off+i*4+j,none⟩=(stC y)[j]?)∧y.kind<256:=fun i hil=>by
   obtain rfl:=hspot (by omega)
   have hadd:∀j,(⟨bb,off,none⟩:Addr).add j=⟨bb,off+j,none⟩:=fun j=>by unfold Addr.add;split<;>simp_all
   obtain ⟨ys,n,-,-,-,hfs⟩:=hel i (by omega)
   obtain ⟨v0,y0,c0,-,t0⟩:=hfs 0 _ rfl
   obtain ⟨v1,y1,c1,-,t1⟩:=hfs 1 _ rfl
   obtain ⟨v2,y2,c2,-,t2⟩:=hfs 2 _ rfl
   obtain ⟨v3,y3,c3,-,t3⟩:=hfs 3 _ rfl
   obtain ⟨s0,rfl,b0⟩:=u8_cell t0
   obtain ⟨s1,rfl⟩:=int_cell Tryz.underlying3 t1
   obtain ⟨s2,rfl⟩:=bool_cell t2
   obtain ⟨s3,rfl⟩:=int_cell Tryz.underlying2 t3
   rw [hadd] at c0 c1 c2 c3
   refine ⟨⟨s0,s1,s2,s3⟩,fun j hj=>?_,b0⟩
   rw [Nat.add_assoc]
   match j,hj with
   | 0,_=>exact c0
   | 1,_=>exact c1
   | 2,_=>exact c2
   | 3,_=>exact c3
  obtain ⟨L,hL,hq⟩:=list_choice' len0 hstep
  refine ⟨L,some ⟨bb,off,spot⟩,len0,cap0,rfl,fun k hk=>?_,hL,hl,by omega⟩
  obtain rfl:=hspot (by omega)
  obtain ⟨h1,h2⟩:=hq k hk
  exact ⟨bb,off,rfl,h1,h2⟩
end
theorem c1s1:Tryz.prog.cellsOf 39 = 1:=by kernel_rfl
theorem c1s2:Tryz.prog.cellsOf 40 = 1:=by kernel_rfl
theorem c1s3:Tryz.prog.cellsOf 89 = 1:=by kernel_rfl
theorem c3st:Tryz.prog.cellsOf 91 = 3:=by kernel_rfl
theorem array3{α:Type}{cs:Array α}(h:cs.size=3):∃c0 c1 c2,cs=#[c0,c1,c2]:=by
 obtain ⟨l⟩:=cs
 match l,h with
 | [c0,c1,c2],_=>exact ⟨c0,c1,c2,rfl⟩
section
variable{H:Type}{enc:TypeId × Value→H}{w:World}{base:Nat}{spare:Nat→Bool}{held:Bool}
theorem int_row{t e:TypeId}(ht:Tryz.prog.underlying t=some (.slice e))(he:Tryz.prog.underlying e=some (.int .i64))(hc:Tryz.prog.cellsOf e=1){n:Nat}{v:Value}{y:DataW H × List MemPlace}(h:DataW.trod enc Tryz.prog w base spare held n t [v]=some y) :
 ∃(l:List Int) (a:Option Addr) (c:Nat),v=.slice a l.length c∧Row1 w a l:=by
 rcases Go.ChangeShapes.open_ints ht he hc h with ⟨hcs,_⟩|⟨a,len,cap,zs,hcs,_,hl,hm,hz,_,hcell,_⟩
 ·obtain rfl:v=.slice none 0 0:=by simpa using hcs
  exact ⟨[],none,0,rfl,fun k hk=>by simp at hk⟩
 ·obtain rfl:v=.slice (some a) len cap:=by simpa using hcs
  have hlz:len≤zs.length:=by rw [hz];split<;>omega
  obtain ⟨bb,off,spot⟩:=a
  refine ⟨zs.take len,some ⟨bb,off,spot⟩,cap,by rw [List.length_take,Nat.min_eq_left hlz],fun k hk=>?_⟩
  rw [List.length_take,Nat.min_eq_left hlz] at hk
  have hs:spot=none:=by
   have c0:=hcell 0 (by omega)
   simpa [Addr.add] using World.cell?_spot c0
  subst hs
  have hck:=hcell k (by omega)
  have hadd:(⟨bb,off,none⟩:Addr).add k=⟨bb,off+k,none⟩:=by unfold Addr.add;split<;>simp_all
  rw [hadd] at hck
  refine ⟨bb,off,rfl,?_⟩
  rw [hck,List.getElem_take,List.getD_eq_getElem?_getD,List.getElem?_eq_getElem (show k<zs.length by omega)]
  rfl
theorem box_row{n:Nat}{v:Value}{y:DataW H × List MemPlace}(hf:DataW.trod enc Tryz.prog w base spare held n 89 [v]=some y) :
 ∃(l:List BxQ) (a:Option Addr) (c:Nat),v=.slice a l.length c∧Row4 w a l:=by
 rcases open_slice_fields Tryz.underlying89 Tryz.underlying101 (by kernel_rfl) (by kernel_rfl) hf with ⟨hcs,_⟩|⟨x,len,c,m,D,Pl,hcs,_,hl,hm,hmm,_,hel⟩
 ·obtain rfl:v=.slice none 0 0:=by simpa using hcs
  exact ⟨[],none,0,rfl,fun k hk=>by simp at hk⟩
 ·obtain rfl:v=.slice (some x) len c:=by simpa using hcs
  have hml:len≤m:=by rw [hmm];split<;>omega
  obtain ⟨bb,off,spot⟩:=x
  have hspot:0<len→spot=none:=fun h0=>by
   obtain ⟨ys,n,-,-,-,hfs⟩:=hel 0 (by omega)
   obtain ⟨v0,y0,c0,-,-⟩:=hfs 0 _ rfl
   simpa [Addr.add] using World.cell?_spot c0
  have hstep:∀i,i<len→∃y:BxQ,(∀j,j<4→w.cell? ⟨bb,off+i*4+j,none⟩=(bxC y)[j]?)∧True:=fun i hil=>by
   obtain rfl:=hspot (by omega)
   have hadd:∀j,(⟨bb,off,none⟩:Addr).add j=⟨bb,off+j,none⟩:=fun j=>by unfold Addr.add;split<;>simp_all
   obtain ⟨ys,n,-,-,-,hfs⟩:=hel i (by omega)
   obtain ⟨v0,y0,c0,-,t0⟩:=hfs 0 _ rfl
   obtain ⟨v1,y1,c1,-,t1⟩:=hfs 1 _ rfl
   obtain ⟨v2,y2,c2,-,t2⟩:=hfs 2 _ rfl
   obtain ⟨v3,y3,c3,-,t3⟩:=hfs 3 _ rfl
   obtain ⟨s0,rfl⟩:=int_cell Tryz.underlying2 t0
   obtain ⟨s1,rfl⟩:=int_cell Tryz.underlying3 t1
   obtain ⟨s2,rfl⟩:=int_cell Tryz.underlying3 t2
   obtain ⟨s3,rfl⟩:=int_cell Tryz.underlying3 t3
   rw [hadd] at c0 c1 c2 c3
   refine ⟨(s0,s1,s2,s3),fun j hj=>?_,trivial⟩
   rw [Nat.add_assoc]
   match j,hj with
   | 0,_=>exact c0
   | 1,_=>exact c1
   | 2,_=>exact c2
   | 3,_=>exact c3
  obtain ⟨L,hL,hq⟩:=list_choice' len hstep
  refine ⟨L,some ⟨bb,off,spot⟩,c,by rw [hL],fun k hk=>?_⟩
  obtain rfl:=hspot (by omega)
  obtain ⟨h1,-⟩:=hq k hk
  exact ⟨bb,off,rfl,h1⟩
theorem open_state{r:Reach}{b0:Nat}{v:Value}{d:DataW H}{p:List MemPlace}(hv:Value.okWide Tryz.prog w r b0 91 v)(h:DataW.Trod enc Tryz.prog w base spare held 91 v d p) :
 ∃(rs ts:List Int) (bs:List BxQ) (a1:Option Addr) (q1:Nat) (a2:Option Addr) (q2:Nat) (a3:Option Addr) (q3:Nat),v=.agg #[.slice a1 rs.length q1,.slice a2 ts.length q2,.slice a3 bs.length q3]∧Row1 w a1 rs∧Row1 w a2 ts∧Row4 w a3 bs:=by
 obtain ⟨cs,rfl,hsz⟩:=okWide_struct Tryz.underlying91 hv
 obtain ⟨c0,c1,c2,rfl⟩:=array3 (hsz.trans c3st)
 obtain ⟨fuel,hf⟩:=h
 obtain ⟨xs,n,rfl,hx,_,hlen,hel⟩:=DataW.trod_struct Tryz.underlying91 hf
 match xs,hlen with
 | [y0,y1,y2],_ =>
  obtain ⟨rs,a1,q1,rfl,h1⟩:=int_row Tryz.underlying39 Tryz.underlying3 (by kernel_rfl) (by simpa [Value.cells,c1s1] using hel 0 _ rfl)
  obtain ⟨ts,a2,q2,rfl,h2⟩:=int_row Tryz.underlying40 Tryz.underlying2 (by kernel_rfl) (by simpa [Value.cells,c1s2] using hel 1 _ rfl)
  obtain ⟨bs,a3,q3,rfl,h3⟩:=box_row (by simpa [Value.cells,c1s3] using hel 2 _ rfl)
  exact ⟨rs,ts,bs,a1,q1,a2,q2,a3,q3,rfl,h1,h2,h3⟩
end
end Go.Proofs.YtpgckpafjiojfaaGreatDoor.AD
