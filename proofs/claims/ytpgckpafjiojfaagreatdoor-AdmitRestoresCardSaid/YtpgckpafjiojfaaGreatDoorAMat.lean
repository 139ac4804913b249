/- Contracts of the reference's date, matches, clock. Contracts of the two tests of a day: the reference's matches, match's matcher. Contract of match.first. The iterator of the matched days: its contract. Makers of the iterators; results that lie in cells; contract of match.Ever. Contract of match.Ever. -/
import Derived.RangeFuncLeaves
import Derived.TacticsInMore
import Derived.LoopNIn
import Derived.LoopIn
import Derived.Test.YtpgckpafjiojfaaGreatDoorMChk
open Go.Lib (hid)
set_option maxRecDepth 16000
set_option maxHeartbeats 40000000
namespace Go.Proofs.YtpgckpafjiojfaaGreatDoor.BW
open Go.RowKit BM Go.Shelf MC
open BK hiding ret_bool ret_i64
theorem has_nat(s i:Nat)(hi:i<64):has s (i:Int)=s.testBit i:=by
 unfold has;simp;intro _;omega
theorem regrown_same{P:Program}{f:FuncId}{args:Array Value}{w:World}{d:Nat}{os:Array Obj}{v:Value}
 (h:Calls P f args (Sort.grow (redrawn w d) os) fun e w'=>e=.returned v∧Sort.grow (redrawn w d) os=w'):Calls P f args (Sort.grow (redrawn w d) os) fun e w''=>e=.returned v∧∃p:Regrown,w''=Sort.grow (redrawn w p.d) p.os :=
 h.mono fun _ _ ⟨he,hb⟩=>⟨he,⟨d,os⟩,hb.symm⟩
theorem ymd_small(n:Nat):(ymd n).2.1<64∧(ymd n).2.2<64:=by
 obtain ⟨⟨h1,h2,h3,h4,h5⟩,_⟩:=ymd_spec n
 have:=mlen_bounds (ymd n).1 (ymd n).2.1
 omega
theorem matcher_ok(x:Ex)(hx:U64s x)(n:Nat)(hn:n≤2932896)(b:Nat)(w:World)(hb:Blk w b 44 (exV x)) :
 Calls Tryz.prog 237 #[.int .i64 n,.pointer (some ⟨b,0,none⟩)] w fun e w'=>e=.returned (.bool (M x n))∧Below w.heap.size w w':=by
 obtain ⟨y1,y2⟩:=ymd_small n
 have CD:=hid (date_ok n hn w)
 rw [←ymd_eq n] at CD
 have C1:=hid (fun W=>has_ok x.mo ((ymd n).2.1:Nat) hx.mo W)
 have C2:=hid (fun W=>has_ok x.d ((ymd n).2.2:Nat) hx.d W)
 have C3:=hid (fun W=>has_ok x.w ((n+4) % 7:Nat) hx.w W)
 rw [has_nat _ _ y1] at C1
 rw [has_nat _ _ y2] at C2
 rw [has_nat _ _ (by omega)] at C3
 have e7:(((n+4) % 7:Nat):Int)=((n:Int)+4) % 7:=by omega
 rw [e7] at C3
 clear e7
 unfold M
 have c4:w.cell? ⟨b,4,none⟩=some (.int .u64 x.mo):=hb.cell 4
 have k3:=cell_regrown (show w.cell? ⟨b,3,none⟩=some (.int .u64 x.d) from hb.cell 3)
 have k5:=cell_regrown (show w.cell? ⟨b,5,none⟩=some (.int .u64 x.w) from hb.cell 5)
 have k6:=cell_regrown (show w.cell? ⟨b,6,none⟩=some (.bool x.ad) from hb.cell 6)
 have k7:=cell_regrown (show w.cell? ⟨b,7,none⟩=some (.bool x.aw) from hb.cell 7)
 clear hb y1 y2
 obtain ⟨s,mi,h,d,mo,wk,ad,aw⟩:=x
 simp only at C1 C2 C3 c4 k3 k5 k6 k7
 have HRL:Hid (dayRule ⟨s,mi,h,d,mo,wk,ad,aw⟩ (ymd n).2.2 ((n+4) % 7)=if ad&&aw then true else if ad then wk.testBit ((n+4) % 7) else if aw then d.testBit (ymd n).2.2 else d.testBit (ymd n).2.2||wk.testBit ((n+4) % 7)):=hid rfl
 generalize dayRule ⟨s,mi,h,d,mo,wk,ad,aw⟩ (ymd n).2.2 ((n+4) % 7)=R at *
 simp only
 generalize mo.testBit (ymd n).2.1=b1 at *
 generalize d.testBit (ymd n).2.2=b2 at *
 generalize wk.testBit ((n+4) % 7)=b3 at *
 generalize (ymd n).1=q0 at *
 generalize (ymd n).2.1=q1 at *
 generalize (ymd n).2.2=q2 at *
 have D2:=hid (fun d os=>regrown_same (w:=w) (C2.out (Sort.grow (redrawn w d) os)))
 have D3:=hid (fun d os=>regrown_same (w:=w) (C3.out (Sort.grow (redrawn w d) os)))
 cases b1
 ·go_enter Tryz.func237,Tryz.ntmps237
  go_wp2_with fail
  refine (CD.out).mono ?_
  rintro e w1 ⟨rfl,rfl⟩
  go_wp2_with fail
  refine (C1.out _).mono ?_
  rintro e w1 ⟨rfl,rfl⟩
  go_wp2_with fail
  go_ret
  exact ⟨rfl,Below.refl _ _⟩
 ·cases ad<;>cases aw<;>cases b2<;>cases b3
  all_goals
   have HR:=HRL.out
   simp only [Bool.and_self,Bool.and_true,Bool.and_false,Bool.or_self,Bool.or_true,Bool.or_false,if_true,if_false,Bool.false_eq_true] at HR
   have HR':=hid HR
   clear HR HRL
   go_enter Tryz.func237,Tryz.ntmps237
   go_wp2_with fail
   refine (CD.out).mono ?_
   rintro e w1 ⟨rfl,rfl⟩
   go_wp2_with fail
   refine (C1.out _).mono ?_
   rintro e w1 ⟨rfl,rfl⟩
   go_wp2_with fail
   refine wp_region_quiet_below (by kernel_rfl) (by kernel_rfl) ?_
   repeat (go_big_quiet_step (fail))
   go_big_quiet_step ((go_at_call 233;exact D2.out _ _))
   repeat (go_big_quiet_step (fail))
   go_big_quiet_step ((go_at_call 233;exact D3.out _ _))
   repeat (go_big_quiet_step (fail))
   refine wpQuiet_nil ?_
   intro _ hw'
   obtain ⟨⟨dq,osq⟩,hw''⟩:=hw'
   subst hw''
   go_wp2_with fail
   go_ret
   exact ⟨by rw [HR'.out];rfl,below_regrown _ dq osq⟩
theorem bit_lt{s n i:Nat}(hs:s<2^n)(h:s.testBit i=true):i<n:=by
 rcases Nat.lt_or_ge i n with h1|h1
 ·exact h1
 ·rw [Nat.testBit_lt_two_pow (Nat.lt_of_lt_of_le hs (Nat.pow_le_pow_right (by decide) h1))] at h;cases h
theorem nx_high{s n:Nat}{v:Int}(hs:s<2^n)(h:(n:Int)≤v):nx s v=none:=nx_none.2 fun i _ hv=>by
 cases hb:s.testBit i
 ·rfl
 ·have:=bit_lt hs hb;omega
def okM:Value→Int→Nat
 | .bool true,v=>(100 - v).toNat
 | _,_=>0
theorem okM_lt(s h:Nat)(hh:h<64):okM (.bool (nx s ((h:Int)+1)).isSome) (num (nx s ((h:Int)+1)))<okM (.bool true) (h:Int):=by
 cases hn:nx s ((h:Int)+1) with
 | none=>simp [okM];omega
 | some k =>
  obtain ⟨h1,h2,_⟩:=nx_some.1 hn
  simp [okM,num];omega
theorem cs1(h:Nat):((h+1:Nat):Int)=(h:Int)+1:=by omega
def iOf:Value→Int
 | .int _ v=>v
 | _=>0
theorem first_ok(x:Ex)(hu:U64s x)(hx:x.Ok)(a:Nat)(ha:a<86400)(w:World)(hT:Tab w) :
 Calls Tryz.prog 215 #[.agg (exV x),.int .i64 a] w fun e w'=>e=.returned (.tuple #[.int .i64 (num (fst x a)),.bool (fst x a).isSome])∧Below w.heap.size w w':=by
 have hB0:Below w.heap.size w (w.alloc (.cells (exV x) 44)):=(Below.refl _ w).alloc (Nat.le_refl _) _
 have hT1:=tab_below hT hB0 (World.block_lt_of_cell? w _ (hT 0 (by decide)))
 have CH:=hid (fun v=>next_ok x.h v hu.h _ hT1)
 have CM:=hid (fun v=>next_ok x.mi v hu.mi _ hT1)
 have CS:=hid (fun v=>next_ok x.s v hu.s _ hT1)
 have HB0:=hid hB0
 have HX:=hid hx
 clear hT hT1 hB0 hx hu
 obtain ⟨R,hR⟩:∃R,R=fst x a:=⟨_,rfl⟩
 rw [←hR]
 have HR:=hid hR
 clear hR
 have e0:exV x=#[.int .u64 x.s,.int .u64 x.mi,.int .u64 x.h,.int .u64 x.d,.int .u64 x.mo,.int .u64 x.w,.bool x.ad,.bool x.aw]:=rfl
 rw [e0]
 clear e0
 unfold exV at CH CM CS HB0
 go_enter Tryz.func215,Tryz.ntmps215
 go_wp2_with fail
 refine (CH.out _).mono ?_
 rintro e w' ⟨rfl,rfl⟩
 obtain ⟨c0,hc0⟩:∃c0:Nat,c0=a / 3600:=⟨_,rfl⟩
 rw [show (a:Int) / 3600=(c0:Int) from by omega]
 have hc1:c0*3600≤a:=by omega
 clear hc0
 go_wp2_with fail
 go_loop [6,7] (fun s6 s7=>∃c:Nat,c≤24∧s6=.int .i64 (num (nx x.h c))∧s7=.bool (nx x.h c).isSome∧NoC x a (c*3600)) (fun s6 s7=>okM s7 (iOf s6))
 case atStart=>exact ⟨c0,by omega,rfl,rfl,NoC.start (by omega)⟩
 case round =>
  obtain ⟨c,hc,rfl,rfl,hno⟩:=hrel
  have HNO:=hid hno
  clear hno
  cases hh:nx x.h c with
  | none =>
   have HE:Hid (R=none):=hid (by
    rw [HR.out]
    refine NoC.none (HNO.out.hours (h:=24) fun j h1 h2=>?_)
    exact nx_none.1 hh j (by omega) (by omega))
   clear hh
   simp only [num,Option.getD_none,Option.isSome_none]
   go_wp2_with fail
   go_ret2
   exact ⟨by rw [HE.out];rfl,HB0.out⟩
  | some h =>
   obtain ⟨g1,g2,g3,g4⟩:=nx_some.1 hh
   have hh24:h<24:=bit_lt HX.out.h24 g3
   have HG3:=hid g3
   have HN1:=hid (HNO.out.hours (h:=h) fun j h1 h2=>g4 j h2 (by omega))
   have hch:c≤h:=by omega
   clear hh g2 g3 g4 HNO g1
   simp only [num,Option.getD_some,Option.isSome_some]
   go_wp2_with fail
   refine (CM.out _).mono ?_
   rintro e w' ⟨rfl,rfl⟩
   obtain ⟨e0,he0⟩:∃e0:Nat,e0=(a - h*3600) / 60:=⟨_,rfl⟩
   rw [show max 0 ((a:Int) - h*3600) / 60=(e0:Int) from by omega]
   have he1:h*3600+e0*60≤a∨e0<1:=by omega
   clear he0
   go_wp2_with fail
   go_loop [8,9] (fun s8 s9=>∃e:Nat,e≤60∧s8=.int .i64 (num (nx x.mi e))∧s9=.bool (nx x.mi e).isSome∧NoC x a (h*3600+e*60)) (fun s8 s9=>okM s9 (iOf s8))
   case atStart =>
    rcases Nat.lt_or_ge e0 60 with h1|h1
    ·exact ⟨e0,by omega,rfl,rfl,HN1.out.skip (by omega)⟩
    ·have n1:=nx_high HX.out.mi60 (show ((60:Nat):Int)≤(e0:Int) from by omega)
     have n2:=nx_high HX.out.mi60 (show ((60:Nat):Int)≤((60:Nat):Int) from by omega)
     exact ⟨60,by omega,by rw [n1,n2],by rw [n1,n2],HN1.out.skip (by omega)⟩
   case round =>
    obtain ⟨e,he,rfl,rfl,hno⟩:=hrel
    have HNO:=hid hno
    clear hno
    cases hm:nx x.mi e with
    | none =>
     have HN2:=hid (HNO.out.mins (m:=60) (by omega) fun j h1 h2=>nx_none.1 hm j (by omega) (by omega))
     clear hm
     simp only [num,Option.getD_none,Option.isSome_none]
     go_wp2_with fail
     refine (CH.out _).mono ?_
     rintro e w' ⟨rfl,rfl⟩
     go_wp2_with fail
     exact ⟨⟨h+1,by omega,by rw [cs1];rfl,by rw [cs1],(show (h+1)*3600=h*3600+60*60 from by omega)▸HN2.out⟩,okM_lt x.h h (by omega)⟩
    | some m =>
     obtain ⟨m1,m2,m3,m4⟩:=nx_some.1 hm
     have hm60:m<60:=bit_lt HX.out.mi60 m3
     have HM3:=hid m3
     have HN2:=hid (HNO.out.mins (m:=m) (by omega) fun j h1 h2=>m4 j h2 (by omega))
     have hem:e≤m:=by omega
     clear hm m1 m2 m3 m4
     simp only [num,Option.getD_some,Option.isSome_some]
     go_wp2_with fail
     refine (CS.out _).mono ?_
     rintro e1 w' ⟨rfl,rfl⟩
     obtain ⟨v0,hv0⟩:∃v0:Nat,v0=a - (h*3600+m*60):=⟨_,rfl⟩
     rw [show max 0 ((a:Int) - h*3600 - m*60)=(v0:Int) from by omega]
     have hv1:v0<1∨v0+(h*3600+m*60)≤a:=by omega
     have hv2:a≤v0+(h*3600+m*60):=by omega
     clear hv0
     cases hs:nx x.s (v0:Int) with
     | none =>
      have HN3:=hid ((show NoC x a (h*3600+m*60+0) from HN2.out).secs (s:=60) (by omega) fun j h1 h2 h3=>nx_none.1 hs j (by omega) (by omega))
      clear hs
      simp only [num,Option.getD_none,Option.isSome_none]
      go_wp2_with fail
      refine (CM.out _).mono ?_
      rintro e2 w' ⟨rfl,rfl⟩
      go_wp2_with fail
      exact ⟨⟨m+1,by omega,by rw [cs1];rfl,by rw [cs1],(show h*3600+(m+1)*60=h*3600+m*60+60 from by omega)▸HN3.out⟩,okM_lt x.mi m (by omega)⟩
     | some s =>
      obtain ⟨q1,q2,q3,q4⟩:=nx_some.1 hs
      have hs60:s<60:=bit_lt HX.out.s60 q3
      have HE:Hid (R=some (h*3600+m*60+s)):=hid (by
       rw [HR.out]
       refine NoC.found ?_ (by omega) (by omega) ?_
       ·exact (show NoC x a (h*3600+m*60+0) from HN2.out).secs (s:=s) (by omega) fun j h1 h2 h3=>q4 j h2 (by omega)
       ·rw [clk_hms _ _ _ _ hm60 hs60,HG3.out,HM3.out,q3];rfl)
      clear hs q1 q2 q3 q4
      simp only [num,Option.getD_some,Option.isSome_some]
      go_wp2_with fail
      go_ret2
      exact ⟨by rw [HE.out];simp [num],HB0.out⟩
end Go.Proofs.YtpgckpafjiojfaaGreatDoor.BW
namespace Go.Proofs.YtpgckpafjiojfaaGreatDoor.BW
open Go.RowKit BM Go.Shelf MC RK
open BK hiding ret_bool ret_i64
attribute [local go_sem] Oper.semAt_some
theorem steps_blk{own:Nat→Prop}{B:Nat}{X Y:World}(h:RK.Steps own B X Y){g:Nat}{t:TypeId}{cs:Array Value}(hg:Blk X g t cs)(ho:¬own g):Blk Y g t cs:=h.same g _ hg ho (fun _=>rfl)
theorem matcher_mk(x:Ex)(w:World):Calls Tryz.prog 227 #[.agg (exV x)] w fun e w'=>e=.returned (.func (.func 237) #[] #[.pointer (some ⟨w.heap.size,0,none⟩)])∧w'=w.alloc (.cells (exV x) 44):=by
 obtain ⟨V,hV⟩:∃V,V=exV x:=⟨_,rfl⟩
 rw [←hV]
 clear hV
 go_enter Tryz.func227,Tryz.ntmps227
 go_wp2
 go_ret
 exact ⟨rfl,rfl⟩
structure Walk(D:Nat→Nat)(N:Nat)(a b st:Int):Prop where
 at_:∀j,j≤N→(D j:Int)=a+st*j
 last:(D N:Int)=b
 le:∀j,j≤N→D j≤2932896
 dir:st=1∧a≤b∨st = -1∧b<a
noncomputable def daysL(x:Ex)(D:Nat→Nat)(n:Nat):List Nat:=((List.range n).map D).filter (M x)
theorem daysL_succ(x:Ex)(D:Nat→Nat)(n:Nat):daysL x D (n+1)=if M x (D n) then daysL x D n++[D n] else daysL x D n:=by
 unfold daysL
 rw [List.range_succ,List.map_append,List.filter_append]
 cases h:M x (D n)<;>simp [h]
theorem daysL_prefix(x:Ex)(D:Nat→Nat){n m:Nat}(h:n≤m):daysL x D n <+: daysL x D m:=by
 obtain ⟨k,rfl⟩:∃k,m=n+k:=⟨m - n,by omega⟩
 unfold daysL
 rw [List.range_add,List.map_append,List.filter_append]
 exact List.prefix_append _ _
theorem daysL_none{x:Ex}(h:∀m,M x m=false)(D:Nat→Nat)(n:Nat):daysL x D n=[]:=by
 unfold daysL
 rw [List.filter_eq_nil_iff]
 intro a _
 simp [h a]
theorem Walk.never{x:Ex}{D:Nat→Nat}{N:Nat}{a b st:Int}(W:Walk D N a b st){j k:Nat}(hj:j≤N)(hk:2921≤k)(hkj:k≤j)(h:∀i,j - k≤i→i<j→M x (D i)=false):∀m,M x m=false:=by
 rcases W.dir with ⟨h1,h2⟩|⟨h1,h2⟩
 ·have e:∀i,i≤N→(D i:Int)=a+i:=fun i hi=>by have:=W.at_ i hi;rw [h1] at this;omega
  refine M_never (k:=D (j - k)) fun n hn1 hn2=>?_
  have e0:=e (j - k) (by omega)
  have e1:=e (j - k+(n - D (j - k))) (by omega)
  have:=h (j - k+(n - D (j - k))) (by omega) (by omega)
  rwa [show D (j - k+(n - D (j - k)))=n from by omega] at this
 ·have e:∀i,i≤N→(D i:Int)=a - i:=fun i hi=>by have:=W.at_ i hi;rw [h1] at this;omega
  refine M_never (k:=D (j - 1)) fun n hn1 hn2=>?_
  have e0:=e (j - 1) (by omega)
  have e1:=e (j - 1 - (n - D (j - 1))) (by omega)
  have:=h (j - 1 - (n - D (j - 1))) (by omega) (by omega)
  rwa [show D (j - 1 - (n - D (j - 1)))=n from by omega] at this
def KeepS(K:Nat→Prop)(X Y:World):Prop:=∀k,K k→Y.heap[k]? = X.heap[k]?
theorem KeepS.trans{K:Nat→Prop}{X Y Z:World}(h:KeepS K X Y)(h':KeepS K Y Z):KeepS K X Z:=fun k hk=>(h' k hk).trans (h k hk)
theorem KeepS.blk{K:Nat→Prop}{X Y:World}(h:KeepS K X Y){g:Nat}{t:TypeId}{cs:Array Value}(hg:Blk X g t cs)(hk:K g):Blk Y g t cs:=(h g hk).trans hg
def KD(bx bf bt m:Nat)(k:Nat):Prop:=k=bx∨k=bf∨k=bt∨k=m
theorem days_in(n:Nat)(x:Ex)(hx:U64s x)(D:Nat→Nat)(N:Nat)(a b st:Int)(HW:Hid (Walk D N a b st))(bx bf bt B0:Nat)(l:Nat)(J Jx:List Nat→World→Prop)(W:World)
 (hBx:Blk W bx 44 (exV x)) (hBf:Blk W bf 2 #[.int .i64 a]) (hBt:Blk W bt 2 #[.int .i64 b]) (hJ:Closed (fun _=>False) B0 J)
 (hY:∀pre d W1,J pre W1→(pre++[d]) <+: daysL x D (N+1)→W.heap.size+1≤W1.heap.size→YieldAt Fence.wide (n - 1) Tryz.prog l #[.int .i64 (d:Nat)] W1 fun e W' =>
  (e=.returned (.bool true)∧J (pre++[d]) W'∧KeepS (KD bx bf bt W.heap.size) W1 W')∨(e=.returned (.bool false)∧Jx (pre++[d]) W'))
 (h0:J [] W) :
 CallsIn Fence.wide n Tryz.prog 230 #[.func (.yield l) #[] #[],.pointer (some ⟨bx,0,none⟩),.pointer (some ⟨bf,0,none⟩),.pointer (some ⟨bt,0,none⟩)] W fun e W'=>(∃v,e=.returned v) ∧
  (J (daysL x D (N+1)) W'∨(∃pre,pre <+: daysL x D (N+1)∧Jx pre W')):=by
 refine callsIn_of_wp Tryz.func230 rfl trivial ?_ rfl
 simp only [Tryz.ntmps230,List.size_toArray,List.length_cons,List.length_nil,Nat.reduceAdd,Nat.reduceSub,Array.replicate_succ,Array.replicate_zero,List.push_toArray,List.append_toArray,List.nil_append,List.cons_append]
 have cx:∀i,W.cell? ⟨bx,i,none⟩=(exV x)[i]?:=hBx.cell
 have c0:W.cell? ⟨bx,0,none⟩=some (.int .u64 x.s):=hBx.cell 0
 have c1:W.cell? ⟨bx,1,none⟩=some (.int .u64 x.mi):=hBx.cell 1
 have c2:W.cell? ⟨bx,2,none⟩=some (.int .u64 x.h):=hBx.cell 2
 have c3:W.cell? ⟨bx,3,none⟩=some (.int .u64 x.d):=hBx.cell 3
 have c4:W.cell? ⟨bx,4,none⟩=some (.int .u64 x.mo):=hBx.cell 4
 have c5:W.cell? ⟨bx,5,none⟩=some (.int .u64 x.w):=hBx.cell 5
 have c6:W.cell? ⟨bx,6,none⟩=some (.bool x.ad):=hBx.cell 6
 have c7:W.cell? ⟨bx,7,none⟩=some (.bool x.aw):=hBx.cell 7
 have CM:=hid (matcher_mk x W)
 unfold exV at CM
 clear cx
 gi_wp2_with fail
 refine ⟨trivial,fun h=>by simp [Fence.wide] at h,(callsIn_wide.2 CM.out).mono ?_⟩
 rintro e w' ⟨rfl,rfl⟩
 have hM:Blk (W.alloc (.cells (exV x) 44)) W.heap.size 44 (exV x):=Blk.new W _ _
 have hF:Blk (W.alloc (.cells (exV x) 44)) bf 2 #[.int .i64 a]:=hBf.alloc _
 have hT:Blk (W.alloc (.cells (exV x) 44)) bt 2 #[.int .i64 b]:=hBt.alloc _
 have hJ1:J [] (W.alloc (.cells (exV x) 44)):=hJ _ _ _ h0 (RK.Steps.alloc _ _ _ _)
 have hS1:W.heap.size+1≤(W.alloc (.cells (exV x) 44)).heap.size:=by simp
 unfold exV at hF hT hJ1 hS1 hM
 generalize W.alloc _=W1 at *
 clear CM c0 c1 c2 c3 c4 c5 c6 c7
 have cf:W1.cell? ⟨bf,0,none⟩=some (.int .i64 a):=hF.cell 0
 have ct:W1.cell? ⟨bt,0,none⟩=some (.int .i64 b):=hT.cell 0
 have hdir:=HW.out.dir
 have HJM:=hid (And.intro hJ1 (And.intro hM (And.intro hF hT)))
 clear hM hF hT hJ1 hBx hBf hBt h0
 rcases hdir with ⟨hst,hab⟩|⟨hst,hab⟩
 all_goals
  subst hst
  gi_wp2_with fail
  gi_loopw [7,8] (fun s7 s8 wr=>∃(j k:Nat),j≤N∧k≤2930∧k≤j∧s7=.int .i64 k∧s8=.int .i64 (D j:Nat)∧(∀i,j - k≤i→i<j→M x (D i)=false)∧J (daysL x D j) wr∧Blk wr W.heap.size 44 (exV x)∧Blk wr bf 2 #[.int .i64 a]∧Blk wr bt 2 #[.int .i64 b]) (fun s7 s8 wr=>(b - iOf s8).natAbs)
  case atStart=>exact ⟨0,0,Nat.zero_le _,by omega,by omega,rfl,by have:=HW.out.at_ 0 (Nat.zero_le _);rw [this];simp,fun i h1 h2=>by omega,HJM.out.1,HJM.out.2.1,HJM.out.2.2.1,HJM.out.2.2.2⟩
  case round =>
   clear cf ct HJM
   obtain ⟨j,k,hj,hk,hkj,rfl,rfl,hno,hJr,hMr,hFr,hTr⟩:=hrel
   have ct:wr.cell? ⟨bt,0,none⟩=some (.int .i64 b):=hTr.cell 0
   have HNO:=hid hno
   have HJM:=hid (And.intro hJr (And.intro hMr (And.intro hFr hTr)))
   clear hno hJr hMr hFr hTr
   have hdj:=HW.out.le j hj
   by_cases hk2:k=2930
   ·subst hk2
    have hnv:=HW.out.never hj (by omega) hkj HNO.out
    gi_wp2_with fail
    go_end0
    exact ⟨⟨_,rfl⟩,.inl (by have h:=HJM.out.1;rw [daysL_none hnv] at h ⊢;exact h)⟩
   ·have CMt:=hid (fun W' hb=>matcher_ok x hx (D j) hdj W.heap.size W' hb)
    have HPF:=hid (daysL_prefix x D (n:=j+1) (m:=N+1) (by omega))
    have HSC:=hid (daysL_succ x D j)
    have HAT:=hid (fun i hi=>HW.out.at_ i hi)
    have HEQ:Hid (j=N→(D j:Int)=b):=hid (by rintro rfl;exact HW.out.last)
    have HNE:Hid (j≠N→(D j:Int)≠b):=hid (fun hne=>by have h1:=HW.out.at_ j hj;have h2:=HW.out.at_ N (Nat.le_refl _);have h3:=HW.out.last;omega)
    have HD1:Hid (j≠N→((D (j+1):Nat):Int)=(D j:Int)+_):=hid (fun hne=>by have h1:=HW.out.at_ j hj;have h2:=HW.out.at_ (j+1) (by omega);rw [h2,h1,Int.natCast_add,Int.mul_add,Int.natCast_one,Int.mul_one,Int.add_assoc])
    have HAB1:Hid (j≠N→(b - ((D (j+1):Nat):Int)).natAbs<(b - (D j:Int)).natAbs):=hid (fun hne=>by have h1:=HW.out.at_ j hj;have h4:=HW.out.at_ (j+1) (by omega);have h2:=HW.out.at_ N (Nat.le_refl _);have h3:=HW.out.last;omega)
    have HAB:Hid ((b - (D j:Int)).natAbs=N - j):=hid (by have h1:=HW.out.at_ j hj;have h2:=HW.out.at_ N (Nat.le_refl _);have h3:=HW.out.last;omega)
    cases hm:M x (D j) with
    | false =>
     have HM:=hid hm
     rw [hm] at CMt HSC
     clear hm
     gi_wp2_with fail
     refine ⟨trivial,fun h=>by simp [Fence.wide] at h,(callsIn_wide.2 (CMt.out _ HJM.out.2.1)).mono ?_⟩
     rintro e w2 ⟨rfl,hb2⟩
     have HJ2:=hid (And.intro (hJ _ _ _ HJM.out.1 (RK.Steps.of_below hb2)) (And.intro (HJM.out.2.1.below hb2 HJM.out.2.1.lt) (And.intro (HJM.out.2.2.1.below hb2 HJM.out.2.2.1.lt) (HJM.out.2.2.2.below hb2 HJM.out.2.2.2.lt))))
     have ct2:w2.cell? ⟨bt,0,none⟩=some (.int .i64 b):=HJ2.out.2.2.2.cell 0
     clear hb2 ct
     by_cases hN:j=N
     ·have hq:(((D j:Nat):Int)==b)=true:=by rw [HEQ.out hN];simp
      have hq3:((D j:Nat):Int)=b:=HEQ.out hN
      have HN:=hid hN
      clear hN
      gi_wp2_with fail
      refine bodyPost_ret (results_none rfl _ _ _) rfl ?_
      refine ⟨⟨_,rfl⟩,.inl ?_⟩
      have h:=HJ2.out.1
      have hs:=HSC.out
      rw [if_neg (by simp)] at hs
      rw [←HN.out,hs]
      exact h
     ·have hq:(((D j:Nat):Int)==b)=false:=by rw [beq_eq_false_iff_ne];exact HNE.out hN
      have hq2:¬(((D j:Nat):Int)=b):=HNE.out hN
      gi_wp2_with fail
      refine ⟨⟨j+1,k+1,by omega,by omega,by omega,by go_num,by rw [HD1.out hN],?_,?_,HJ2.out.2⟩,by have:=HAB1.out hN;rwa [HD1.out hN] at this⟩
      ·intro i h1 h2
       rcases Nat.lt_or_ge i j with h3|h3
       ·exact HNO.out i (by omega) h3
       ·obtain rfl:i=j:=by omega
        exact HM.out
      ·have h:=HJ2.out.1
       have hs:=HSC.out
       rw [if_neg (by simp)] at hs
       rw [hs]
       exact h
    | true =>
     rw [hm] at CMt HSC
     clear hm
     have hs:daysL x D (j+1)=daysL x D j++[D j]:=by have:=HSC.out;rwa [if_pos rfl] at this
     have HS:=hid hs
     clear hs HSC
     gi_wp2_with fail
     refine ⟨trivial,fun h=>by simp [Fence.wide] at h,(callsIn_wide.2 (CMt.out _ HJM.out.2.1)).mono ?_⟩
     rintro e w2 ⟨rfl,hb2⟩
     have HJ2:=hid (And.intro (hJ _ _ _ HJM.out.1 (RK.Steps.of_below hb2)) (And.intro (HJM.out.2.1.below hb2 HJM.out.2.1.lt) (And.intro (HJM.out.2.2.1.below hb2 HJM.out.2.2.1.lt) (HJM.out.2.2.2.below hb2 HJM.out.2.2.2.lt))))
     obtain ⟨fn,tmps,assign,body,hy,hR⟩:=hY (daysL x D j) (D j) w2 HJ2.out.1 (by rw [←HS.out];exact HPF.out) HJ2.out.2.1.lt
     clear hb2 ct
     gi_wp2_with fail
     refine ⟨fun h=>by simp [Fence.wide] at h,hR.mono ?_⟩
     rintro e W3 (⟨rfl,hJ3,hk3⟩|⟨rfl,hJx3⟩)
     ·have HJ3:=hid (And.intro hJ3 (And.intro (hk3.blk HJ2.out.2.1 (.inr (.inr (.inr rfl)))) (And.intro (hk3.blk HJ2.out.2.2.1 (.inr (.inl rfl))) (hk3.blk HJ2.out.2.2.2 (.inr (.inr (.inl rfl)))))))
      have ct3:W3.cell? ⟨bt,0,none⟩=some (.int .i64 b):=HJ3.out.2.2.2.cell 0
      clear hJ3 hk3 hR hy
      by_cases hN:j=N
      ·have hq:(((D j:Nat):Int)==b)=true:=by rw [HEQ.out hN];simp
       have hq3:((D j:Nat):Int)=b:=HEQ.out hN
       have HN:=hid hN
       clear hN
       gi_wp2_with fail
       refine bodyPost_ret (results_none rfl _ _ _) rfl ?_
       refine ⟨⟨_,rfl⟩,.inl ?_⟩
       rw [←HN.out,HS.out]
       exact HJ3.out.1
      ·have hq:(((D j:Nat):Int)==b)=false:=by rw [beq_eq_false_iff_ne];exact HNE.out hN
       have hq2:¬(((D j:Nat):Int)=b):=HNE.out hN
       gi_wp2_with fail
       refine ⟨⟨j+1,0,by omega,by omega,by omega,rfl,by rw [HD1.out hN],fun i h1 h2=>by omega,by rw [HS.out];exact HJ3.out.1,HJ3.out.2⟩,by have:=HAB1.out hN;rwa [HD1.out hN] at this⟩
     ·gi_wp2_with fail
      refine bodyPost_ret (results_none rfl _ _ _) rfl ?_
      exact ⟨⟨_,rfl⟩,.inr ⟨_,by rw [←HS.out];exact HPF.out,hJx3⟩⟩
attribute [local go_sem] Oper.semAt_some
theorem days_mk(x:Ex)(a b:Int)(w:World):Calls Tryz.prog 219 #[.agg (exV x),.int .i64 a,.int .i64 b] w fun e w'=>e=.returned (.func (.func 230) #[] #[.pointer (some ⟨w.heap.size,0,none⟩),.pointer (some ⟨w.heap.size+1,0,none⟩),.pointer (some ⟨w.heap.size+2,0,none⟩)]) ∧
 w'=((w.alloc (.cells (exV x) 44)).alloc (.cells #[.int .i64 a] 2)).alloc (.cells #[.int .i64 b] 2):=by
 obtain ⟨V,hV⟩:∃V,V=exV x:=⟨_,rfl⟩
 rw [←hV]
 clear hV
 go_enter Tryz.func219,Tryz.ntmps219
 go_wp2
 go_ret
 exact ⟨rfl,rfl⟩
theorem all_mk(x:Ex)(z a b:Int)(w:World):Calls Tryz.prog 217 #[.agg (exV x),.int .i64 z,.int .i64 a,.int .i64 b] w fun e w'=>e=.returned (.func (.func 229) #[] #[.pointer (some ⟨w.heap.size+1,0,none⟩),.pointer (some ⟨w.heap.size+2,0,none⟩),.pointer (some ⟨w.heap.size+3,0,none⟩),.pointer (some ⟨w.heap.size,0,none⟩)]) ∧
 w'=(((w.alloc (.cells (exV x) 44)).alloc (.cells #[.int .i64 z] 3)).alloc (.cells #[.int .i64 a] 2)).alloc (.cells #[.int .i64 b] 2):=by
 obtain ⟨V,hV⟩:∃V,V=exV x:=⟨_,rfl⟩
 rw [←hV]
 clear hV
 go_enter Tryz.func217,Tryz.ntmps217
 go_wp2
 go_ret
 exact ⟨rfl,rfl⟩
theorem run_loadVar_one{P:Program}{ty:TypeId}(h:∀w,(isAgg ty).run P w=.ok false w)(g:Nat)(t:TypeId)(v:Value)(w:World)(hb:Blk w g t #[v]):(loadVar ty ⟨g,0,none⟩).run P w=.ok v w:=by
 have hc:w.cell? ⟨g,0,none⟩=some v:=hb.cell 0
 simp [loadVar,h,hc,go_sem]
theorem results_cell3{fn:Func}{P:Program}{p q r:Tmp}{tp tq tr:TypeId}(h:fn.results=#[.cell p tp,.cell q tq,.cell r tr])(tmps:Array Value)(w:World)(a b c:Addr)(v u t:Value)(hp:tmps.getD p undef=.pointer (some a))(hq:tmps.getD q undef=.pointer (some b))(hr:tmps.getD r undef=.pointer (some c))
 (la:(loadVar tp a).run P w=.ok v w) (lb:(loadVar tq b).run P w=.ok u w) (lc:(loadVar tr c).run P w=.ok t w):(results fn tmps).run P w=.ok (.tuple #[v,u,t]) w:=by
 have hp':tmps[p]?.getD undef=.pointer (some a):=by simpa using hp
 have hq':tmps[q]?.getD undef=.pointer (some b):=by simpa using hq
 have hr':tmps[r]?.getD undef=.pointer (some c):=by simpa using hr
 simp [results,h,hp',hq',hr',asAddr,la,lb,lc]
theorem below_steps{B C:Nat}{w X Y:World}(h:Below B w X)(hs:RK.Steps (fun _=>False) C X Y)(hB:B≤C)(hw:B≤w.heap.size):Below B w Y :=
 h.trans ⟨hs.os,hs.tape,hs.output,hs.size,fun k hk=>by
  have hlt:k<X.heap.size:=Nat.lt_of_lt_of_le hk (Nat.le_trans hw h.size)
  rw [hs.same k X.heap[k] (Array.getElem?_eq_getElem hlt) (fun h=>h) (fun h=>by omega),Array.getElem?_eq_getElem hlt]⟩
theorem days_seq(n:Nat)(x:Ex)(hx:U64s x)(D:Nat→Nat)(N:Nat)(a b st:Int)(HW:Hid (Walk D N a b st))(bx bf bt:Nat)(w:World)
 (hBx:Blk w bx 44 (exV x)) (hBf:Blk w bf 2 #[.int .i64 a]) (hBt:Blk w bt 2 #[.int .i64 b]) :
 SeqL Fence.wide n Tryz.prog 230 #[.pointer (some ⟨bx,0,none⟩),.pointer (some ⟨bf,0,none⟩),.pointer (some ⟨bt,0,none⟩)] (fun d:Nat=>#[Value.int .i64 (d:Nat)]) (fun _=>False) (KeepS (KD bx bf bt (w.heap.size+2))) (daysL x D (N+1)) 1 w :=
 fun l J Jx W hsz hW hJ _ hY h0=>days_in n x hx D N a b st HW bx bf bt W.heap.size l J Jx W (hBx.below hW hBx.lt) (hBf.below hW hBf.lt) (hBt.below hW hBt.lt) hJ
  (fun pre d W1 hj hp hs=>by rw [hsz];exact yieldAt_mono (hY pre d W1 hj hp (by omega)) (fun e w' h=>h.imp id (fun h=>⟨h.1,h.2.1⟩))) h0
attribute [local go_sem] Oper.semAt_some
theorem keepsFrom_set{B:Nat}{X Y:World}(h:KeepsFrom B X Y){b i:Nat}(hb:b<B)(u:Value):KeepsFrom B X (Y.setCell ⟨b,i,none⟩ u) :=
 h.trans ⟨(KeepsWalks.setCell Y _ u).size,fun k o hB hk _=>(Below.heap_setCell Y _ u k (by simp;omega)).trans hk⟩
theorem blk_put{X:World}{g D:Nat}{t:TypeId}{cs:Array Value}{o:Obj}(h:Blk X g t cs)(hD:g≠D):Blk (X.putObj D o) g t cs:=(World.putObj_heap_other hD).trans h
theorem below_put{B D:Nat}{w X:World}{o:Obj}(h:Below B w X)(hD:B≤D):Below B w (X.putObj D o):=h.trans ⟨rfl,rfl,rfl,by simp,fun k hk=>World.putObj_heap_other (by omega)⟩
theorem heap_set{X:World}{D b i:Nat}{o:Option Obj}(h:X.heap[D]? = o)(hb:D≠b)(u:Value):(X.setCell ⟨b,i,none⟩ u).heap[D]? = o:=(Below.heap_setCell X _ u D hb).trans h
end Go.Proofs.YtpgckpafjiojfaaGreatDoor.BW
