/- Schedules with a period, plainly. Contracts of the layer every. Contracts of the layer every: before, has. Contracts of the layer every: of. Contracts of every.Is, every.Next, every.Count. -/
import Derived.Test.YtpgckpafjiojfaaGreatDoorMChk
open Go.Lib (hid)
set_option maxRecDepth 16000
set_option maxHeartbeats 40000000
namespace Go.Proofs.YtpgckpafjiojfaaGreatDoor.BW
open Go.RowKit
structure Ev where
 s:Int
 p:Int
 c:Int
def Ev.ok(e:Ev):Bool:=decide (0≤e.s∧e.s≤253402300799∧1≤e.p∧e.p≤68719476736∧0≤e.c∧e.c≤1000000)
def Ev.err(e:Ev):Int:=if e.ok then 0 else 16
structure Ev.Ok(e:Ev):Prop where
 s0:0≤e.s
 s1:e.s≤253402300799
 p0:1≤e.p
 p1:e.p≤68719476736
 c0:0≤e.c
 c1:e.c≤1000000
theorem Ev.ok_iff{e:Ev}:e.ok=true↔e.Ok:=by
 unfold Ev.ok
 rw [decide_eq_true_eq]
 exact ⟨fun ⟨a,b,c,d,f,g⟩=>⟨a,b,c,d,f,g⟩,fun h=>⟨h.s0,h.s1,h.p0,h.p1,h.c0,h.c1⟩⟩
def Ev.size(e:Ev):Int:=if 0<e.c then min (1+(253402300799 - e.s) / e.p) e.c else 1+(253402300799 - e.s) / e.p
def Ev.before(e:Ev)(t:Int):Int:=if t≤e.s then 0 else min e.size ((t - e.s - 1) / e.p+1)
def Ev.has(e:Ev)(t:Int):Bool:=decide (e.s≤t)&&decide ((t - e.s) % e.p=0)&&decide ((t - e.s) / e.p<e.size)
theorem Ev.Ok.size{e:Ev}(h:e.Ok):1≤e.size∧e.size≤1+(253402300799 - e.s) / e.p:=by
 have h1:0≤(253402300799 - e.s) / e.p:=Int.ediv_nonneg (by have:=h.s1;omega) (by have:=h.p0;omega)
 unfold Ev.size
 split<;>omega
theorem Ev.Ok.quot{e:Ev}(h:e.Ok):0≤(253402300799 - e.s) / e.p∧(253402300799 - e.s) / e.p≤253402300799 - e.s:=by
 have h1:=h.s1
 exact ⟨Int.ediv_nonneg (by omega) (by have:=h.p0;omega),Int.ediv_le_self _ (by omega)⟩
theorem Ev.Ok.nth{e:Ev}(h:e.Ok){n:Int}(h0:0≤n)(h1:n<e.size):0≤n*e.p∧n*e.p≤253402300799 - e.s:=by
 have h2:=h.size.2
 refine ⟨Int.mul_nonneg h0 (by have:=h.p0;omega),?_⟩
 exact (Int.le_ediv_iff_mul_le (by have:=h.p0;omega)).1 (by omega)
theorem Ev.Ok.has_before{e:Ev}(h:e.Ok)(t:Int):e.has t=(decide (e.before t<e.size)&&decide (e.s+e.before t*e.p=t)):=by
 have hp:=h.p0
 have hs:=h.size.1
 unfold Ev.has Ev.before
 by_cases h1:t≤e.s
 ·rw [if_pos h1]
  by_cases h2:t=e.s
  ·subst h2
   simp
  ·rw [decide_eq_false (by omega:¬e.s≤t),decide_eq_false (by omega:¬e.s+0*e.p=t)]
   simp
 ·rw [if_neg h1,decide_eq_true (by omega:e.s≤t),Bool.true_and]
  obtain ⟨d,hd⟩:∃d,d=t - e.s:=⟨_,rfl⟩
  have e1:t - e.s - 1=d - 1:=by omega
  rw [e1,←hd]
  have hd1:1≤d:=by omega
  obtain ⟨q,hq⟩:∃q,q=d / e.p:=⟨_,rfl⟩
  obtain ⟨r,hr⟩:∃r,r=d % e.p:=⟨_,rfl⟩
  have hdq:d=e.p*q+r:=by rw [hq,hr];exact (Int.mul_ediv_add_emod d e.p).symm
  have hr0:0≤r:=by rw [hr];exact Int.emod_nonneg _ (by omega)
  have hr1:r<e.p:=by rw [hr];exact Int.emod_lt_of_pos _ (by omega)
  rw [←hq,←hr]
  by_cases hz:r=0
  ·have hk:(d - 1) / e.p=q - 1:=by
    have:d - 1=(e.p - 1)+(q - 1)*e.p:=by rw [hdq,hz];rw [Int.sub_mul,Int.mul_comm];omega
    rw [this,Int.add_mul_ediv_right _ _ (by omega),Int.ediv_eq_zero_of_lt (by omega) (by omega)]
    omega
   rw [hk,show q - 1+1=q from by omega,decide_eq_true hz,Bool.true_and]
   by_cases hqs:q<e.size
   ·rw [decide_eq_true hqs,show min e.size q=q from by omega,decide_eq_true hqs,Bool.true_and,decide_eq_true]
    rw [Int.mul_comm];omega
   ·rw [decide_eq_false hqs,show min e.size q=e.size from by omega,decide_eq_false (by omega)]
    rfl
  ·have hk:(d - 1) / e.p=q:=by
    have:d - 1=(r - 1)+q*e.p:=by rw [hdq,Int.mul_comm];omega
    rw [this,Int.add_mul_ediv_right _ _ (by omega),Int.ediv_eq_zero_of_lt (by omega) (by omega)]
    omega
   rw [hk,decide_eq_false hz,Bool.false_and]
   by_cases hqs:q+1<e.size
   ·rw [show min e.size (q+1)=q+1 from by omega,decide_eq_true hqs,Bool.true_and]
    refine (decide_eq_false fun hh=>?_).symm
    have:(q+1)*e.p=q*e.p+e.p:=by rw [Int.add_mul,Int.one_mul]
    have:e.p*q=q*e.p:=Int.mul_comm _ _
    omega
   ·rw [show min e.size (q+1)=e.size from by omega,decide_eq_false (by omega)]
    rfl
end Go.Proofs.YtpgckpafjiojfaaGreatDoor.BW
namespace Go.Proofs.YtpgckpafjiojfaaGreatDoor.BW
open Go.RowKit BM Go.Shelf
open BK hiding ret_bool ret_i64
def evV(e:Ev):Array Value:=#[.int .i64 e.s,.int .i64 e.p,.int .i64 e.c]
def srV(e:Ev):Array Value:=#[.int .i64 e.s,.int .i64 e.p,.int .i64 e.c,.int .i64 e.size]
theorem echeck_ok(e:Ev)(w:World):Calls Tryz.prog 203 #[.agg (evV e)] w fun r w'=>r=.returned (.int .i64 e.err)∧Below w.heap.size w w':=by
 obtain ⟨s,p,c⟩:=e
 have hE:Ev.err ⟨s,p,c⟩=if 0≤s∧s≤253402300799∧1≤p∧p≤68719476736∧0≤c∧c≤1000000 then 0 else 16:=by unfold Ev.err Ev.ok;simp
 have HE:=hid hE
 generalize Ev.err ⟨s,p,c⟩=r at *
 have HB:=hid (show Below w.heap.size w (w.alloc (.cells (evV ⟨s,p,c⟩) 46)) from (Below.refl _ w).alloc (Nat.le_refl _) _)
 unfold evV at *
 clear hE
 by_cases h1:s<0
 ·have HR:Hid (r=16):=hid (by rw [HE.out,if_neg (by omega)])
  have d1:decide (s<0)=true:=decide_eq_true h1
  clear h1
  go_enter Tryz.func203,Tryz.ntmps203
  go_wp2_with fail
  go_ret
  exact ⟨ret_i64 HR.out.symm,HB.out⟩
 ·have d1:decide (s<0)=false:=decide_eq_false h1
  by_cases h2:253402300799<s
  ·have HR:Hid (r=16):=hid (by rw [HE.out,if_neg (by omega)])
   have d2:decide (253402300799<s)=true:=decide_eq_true h2
   clear h1 h2
   go_enter Tryz.func203,Tryz.ntmps203
   go_wp2_with fail
   go_ret
   exact ⟨ret_i64 HR.out.symm,HB.out⟩
  ·have d2:decide (253402300799<s)=false:=decide_eq_false h2
   by_cases h3:p<1
   ·have HR:Hid (r=16):=hid (by rw [HE.out,if_neg (by omega)])
    have d3:decide (p<1)=true:=decide_eq_true h3
    clear h1 h2 h3
    go_enter Tryz.func203,Tryz.ntmps203
    go_wp2_with fail
    go_ret
    exact ⟨ret_i64 HR.out.symm,HB.out⟩
   ·have d3:decide (p<1)=false:=decide_eq_false h3
    by_cases h4:68719476736<p
    ·have HR:Hid (r=16):=hid (by rw [HE.out,if_neg (by omega)])
     have d4:decide (68719476736<p)=true:=decide_eq_true h4
     clear h1 h2 h3 h4
     go_enter Tryz.func203,Tryz.ntmps203
     go_wp2_with fail
     go_ret
     exact ⟨ret_i64 HR.out.symm,HB.out⟩
    ·have d4:decide (68719476736<p)=false:=decide_eq_false h4
     by_cases h5:c<0
     ·have HR:Hid (r=16):=hid (by rw [HE.out,if_neg (by omega)])
      have d5:decide (c<0)=true:=decide_eq_true h5
      clear h1 h2 h3 h4 h5
      go_enter Tryz.func203,Tryz.ntmps203
      go_wp2_with fail
      go_ret
      exact ⟨ret_i64 HR.out.symm,HB.out⟩
     ·have d5:decide (c<0)=false:=decide_eq_false h5
      by_cases h6:1000000<c
      ·have HR:Hid (r=16):=hid (by rw [HE.out,if_neg (by omega)])
       have d6:decide (1000000<c)=true:=decide_eq_true h6
       clear h1 h2 h3 h4 h5 h6
       go_enter Tryz.func203,Tryz.ntmps203
       go_wp2_with fail
       go_ret
       exact ⟨ret_i64 HR.out.symm,HB.out⟩
      ·have HR:Hid (r=0):=hid (by rw [HE.out,if_pos (by omega)])
       have d6:decide (1000000<c)=false:=decide_eq_false h6
       clear h1 h2 h3 h4 h5 h6
       go_enter Tryz.func203,Tryz.ntmps203
       go_wp2_with fail
       go_ret
       exact ⟨ret_i64 HR.out.symm,HB.out⟩
theorem eat_ok(e:Ev)(he:e.Ok)(n:Int)(w:World):Calls Tryz.prog 223 #[.agg (srV e),.int .i64 n] w fun r w'=>r=.returned (if 0≤n∧n<e.size then .tuple #[.int .i64 (e.s+n*e.p),.bool true] else .tuple #[.int .i64 0,.bool false])∧Below w.heap.size w w':=by
 have HB:=hid (show Below w.heap.size w (w.alloc (.cells (srV e) 267)) from (Below.refl _ w).alloc (Nat.le_refl _) _)
 have hs:=he.s0
 have hs1:=he.s1
 have HN:=hid (fun h0 h1=>he.nth (n:=n) h0 h1)
 unfold srV at *
 by_cases h0:n<0
 ·have d1:decide (n<0)=true:=decide_eq_true h0
  rw [if_neg (by omega)]
  clear h0
  go_enter Tryz.func223,Tryz.ntmps223
  go_wp2_with fail
  go_ret2
  exact ⟨rfl,HB.out⟩
 ·have d1:decide (n<0)=false:=decide_eq_false h0
  by_cases h1:e.size≤n
  ·have d2:decide (e.size≤n)=true:=decide_eq_true h1
   rw [if_neg (by omega)]
   clear h0 h1
   go_enter Tryz.func223,Tryz.ntmps223
   go_wp2_with fail
   go_ret2
   exact ⟨rfl,HB.out⟩
  ·have d2:decide (e.size≤n)=false:=decide_eq_false h1
   obtain ⟨n1,n2⟩:=HN.out (by omega) (by omega)
   rw [if_pos (by omega)]
   clear h0 h1
   generalize e.size=z at *
   go_enter Tryz.func223,Tryz.ntmps223
   go_wp2_with fail
   go_ret2
   exact ⟨rfl,HB.out⟩
theorem Ev.Ok.before_range{e:Ev}(h:e.Ok)(t:Int):0≤e.before t∧e.before t≤e.size:=by
 have hs:=h.size.1
 unfold Ev.before
 split
 ·omega
 ·have:0≤(t - e.s - 1) / e.p:=Int.ediv_nonneg (by omega) (by have:=h.p0;omega)
  omega
theorem ebefore_ok(e:Ev)(he:e.Ok)(t:Int)(ht:0≤t∧t≤253402300800)(w:World):Calls Tryz.prog 224 #[.agg (srV e),.int .i64 t] w fun r w'=>r=.returned (.int .i64 (e.before t))∧Below w.heap.size w w':=by
 have HB:=hid (show Below w.heap.size w (w.alloc (.cells (srV e) 267)) from (Below.refl _ w).alloc (Nat.le_refl _) _)
 have hbx:=Blk.new w 267 (srV e)
 have hs:=he.s0
 have hs1:=he.s1
 have hp:=he.p0
 have hE:e.before t=if t≤e.s then 0 else min e.size ((t - e.s - 1) / e.p+1):=rfl
 have hz:=he.size.1
 have HE:=hid hE
 generalize e.before t=r at *
 clear hE
 unfold srV at *
 obtain ⟨s,p,c⟩:=e
 generalize Ev.size ⟨s,p,c⟩=z at *
 simp only at *
 by_cases h0:t≤s
 ·have d1:decide (t≤s)=true:=decide_eq_true h0
  have HR:Hid (r=0):=hid (by rw [HE.out,if_pos h0])
  clear h0 hbx
  go_enter Tryz.func224,Tryz.ntmps224
  go_wp2_with fail
  go_ret
  exact ⟨ret_i64 HR.out.symm,HB.out⟩
 ·have d1:decide (t≤s)=false:=decide_eq_false h0
  have HR:Hid (r=min z ((t - s - 1) / p+1)):=hid (by rw [HE.out,if_neg h0])
  have hq:0≤(t - s - 1) / p∧(t - s - 1) / p≤t - s - 1:=⟨Int.ediv_nonneg (by omega) (by omega),Int.ediv_le_self _ (by omega)⟩
  have hq2:(t - s - 1).tdiv p=(t - s - 1) / p:=Int.tdiv_eq_ediv_of_nonneg (by omega)
  have hp0:(p==0)=false:=by rw [beq_eq_false_iff_ne];omega
  obtain ⟨W,hW⟩:∃W,W=w.alloc (.cells #[.int .i64 s,.int .i64 p,.int .i64 c,.int .i64 z] 267):=⟨_,rfl⟩
  rw [←hW] at hbx HB
  have k0:=cell_regrown (show W.cell? ⟨w.heap.size,0,none⟩=some (.int .i64 s) from hbx.cell 0)
  have k1:=cell_regrown (show W.cell? ⟨w.heap.size,1,none⟩=some (.int .i64 p) from hbx.cell 1)
  have k3:=cell_regrown (show W.cell? ⟨w.heap.size,3,none⟩=some (.int .i64 z) from hbx.cell 3)
  clear h0 hbx
  go_enter Tryz.func224,Tryz.ntmps224
  go_wp2_with fail
  rw [←hW]
  clear hW
  refine wp_region_quiet_below (by kernel_rfl) (by kernel_rfl) ?_
  repeat (go_big_quiet_step (fail))
  refine wpQuiet_nil ?_
  intro _ hw'
  obtain ⟨⟨dq,osq⟩,hw''⟩:=hw'
  subst hw''
  go_wp2_with fail
  go_ret
  exact ⟨ret_i64 HR.out.symm,HB.out.trans ((below_regrown W dq osq).mono HB.out.size)⟩
def Ev.at_(e:Ev)(n:Int):Option Int:=if 0≤n∧n<e.size then some (e.s+n*e.p) else none
theorem eat_at(e:Ev)(he:e.Ok)(n:Int)(w:World):Calls Tryz.prog 223 #[.agg (srV e),.int .i64 n] w fun r w'=>r=.returned (.tuple #[.int .i64 ((e.at_ n).getD 0),.bool (e.at_ n).isSome])∧Below w.heap.size w w' :=
 (eat_ok e he n w).mono fun r w' ⟨h1,h2⟩=>⟨by rw [h1];unfold Ev.at_;split<;>rfl,h2⟩
theorem ehas_ok(e:Ev)(he:e.Ok)(t:Int)(ht:0≤t∧t≤253402300799)(w:World):Calls Tryz.prog 222 #[.agg (srV e),.int .i64 t] w fun r w'=>r=.returned (.bool (e.has t))∧Below w.heap.size w w':=by
 have hr:=he.before_range t
 have HH:=hid (he.has_before t)
 obtain ⟨W,hW⟩:∃W,W=w.alloc (.cells (srV e) 267):=⟨_,rfl⟩
 have HB:Hid (Below w.heap.size w W):=hid (by rw [hW];exact (Below.refl _ w).alloc (Nat.le_refl _) _)
 have hbx:Blk W w.heap.size 267 (srV e):=by rw [hW];exact Blk.new w _ _
 have C1:=hid (fun d os=>Calls.regrown_of (ebefore_ok e he t ⟨ht.1,by omega⟩ (Sort.grow (redrawn W d) os)))
 have C2:=hid (fun d os=>Calls.regrown_of (eat_at e he (e.before t) (Sort.grow (redrawn W d) os)))
 have hat:e.at_ (e.before t)=if e.before t<e.size then some (e.s+e.before t*e.p) else none:=by
  unfold Ev.at_
  by_cases h:e.before t<e.size
  ·rw [if_pos h,if_pos ⟨hr.1,h⟩]
  ·rw [if_neg h,if_neg (fun hh=>h hh.2)]
 have HA:=hid hat
 generalize e.at_ (e.before t)=o at *
 generalize e.has t=R at *
 have k0:=cell_regrown (show W.cell? ⟨w.heap.size,0,none⟩=some (.int .i64 e.s) from hbx.cell 0)
 have k1:=cell_regrown (show W.cell? ⟨w.heap.size,1,none⟩=some (.int .i64 e.p) from hbx.cell 1)
 have k2:=cell_regrown (show W.cell? ⟨w.heap.size,2,none⟩=some (.int .i64 e.c) from hbx.cell 2)
 have k3:=cell_regrown (show W.cell? ⟨w.heap.size,3,none⟩=some (.int .i64 e.size) from hbx.cell 3)
 clear hbx hat hr
 unfold srV at *
 go_enter Tryz.func222,Tryz.ntmps222
 go_wp2_with fail
 rw [←hW]
 clear hW
 refine wp_region_quiet_below (by kernel_rfl) (by kernel_rfl) ?_
 repeat (go_big_quiet_step (fail))
 go_big_quiet_step ((go_at_call 224;exact C1.out _ _))
 repeat (go_big_quiet_step (fail))
 go_big_quiet_step ((go_at_call 223;exact C2.out _ _))
 repeat (go_big_quiet_step (fail))
 refine wpQuiet_nil ?_
 intro _ hw'
 obtain ⟨⟨dq,osq⟩,hw''⟩:=hw'
 subst hw''
 have HB2:=hid (HB.out.trans ((below_regrown W dq osq).mono HB.out.size))
 clear C1 C2 k0 k1 k2 k3
 by_cases h:e.before t<e.size
 ·have ho:=HA.out
  rw [if_pos h] at ho
  subst ho
  have HR:Hid (R=(e.s+e.before t*e.p==t)):=hid (by rw [HH.out,decide_eq_true h,Bool.true_and];rfl)
  clear HA HH h
  go_wp2_with fail
  go_ret
  exact ⟨by rw [HR.out];rfl,HB2.out⟩
 ·have ho:=HA.out
  rw [if_neg h] at ho
  subst ho
  have HR:Hid (R=false):=hid (by rw [HH.out,decide_eq_false h];rfl)
  clear HA HH h
  go_wp2_with fail
  go_ret
  exact ⟨by rw [HR.out];rfl,HB2.out⟩
end Go.Proofs.YtpgckpafjiojfaaGreatDoor.BW
namespace Go.Proofs.YtpgckpafjiojfaaGreatDoor.BW
open Go.RowKit BM Go.Shelf MC
open BK hiding ret_bool ret_i64
def Ev.ofE(e:Ev)(ts:List Int):Int:=if e.ok then timesR ts else 16
def Ev.ofV(e:Ev)(ts:List Int):Array Value:=if e.ofE ts=0 then srV e else #[.int .i64 0,.int .i64 0,.int .i64 0,.int .i64 0]
theorem results_row_tmp{fn:Func}{P:Program}{p q:Tmp}{tp:TypeId}(h:fn.results=#[.cell p tp,.tmp q])(tmps:Array Value)(w:World)(g:Nat)(t:TypeId)(cs:Array Value)(fr:Nat × Nat)(d:TypeDesc)
 (hp:tmps.getD p undef=.pointer (some ⟨g,0,none⟩)) (hg:w.heap[g]? = some (.cells cs t fr))
 (hu:P.underlying tp=some d) (hd:(match d with|.struct _|.array _ _=>true|_=>false)=true) (hi:(P.info? tp).map (·.size)=some cs.size) :
 (results fn tmps).run P w=.ok (.tuple #[.agg cs,tmps.getD q undef]) w:=by
 have hp':tmps[p]?.getD undef=.pointer (some ⟨g,0,none⟩):=by simpa using hp
 simp [results,h,hp',asAddr,run_loadVar_row w g t tp cs fr d hg hu hd hi]
theorem ret_row{V V':Array Value}{c d:Int}(h:V=V')(h':c=d):Ending.returned (.tuple #[.agg V,.int .i64 c])=.returned (.tuple #[.agg V',.int .i64 d]):=by rw [h,h']
theorem Blk.four{w:World}{g:Nat}{t:TypeId}{a b c d:Value}(h:Blk w g t #[a,b,c,d])(a' b' c' d':Value):Blk ((((w.setCell ⟨g,0,none⟩ a').setCell ⟨g,1,none⟩ b').setCell ⟨g,2,none⟩ c').setCell ⟨g,3,none⟩ d') g t #[a',b',c',d']:=(((h.set_ 0 a').set_ 1 b').set_ 2 c').set_ 3 d'
theorem below_four{B:Nat}{w W:World}{g:Nat}(h:Below B w W)(hg:B≤g)(a' b' c' d':Value):Below B w ((((W.setCell ⟨g,0,none⟩ a').setCell ⟨g,1,none⟩ b').setCell ⟨g,2,none⟩ c').setCell ⟨g,3,none⟩ d'):=(((h.setCell hg _).setCell hg _).setCell hg _).setCell hg _
theorem eof_ok(e:Ev)(ts:List Int)(g n c:Nat)(hn:ts.length=n)(hn9:n≤9)(w:World)
 (hc:∀k (hk:k<ts.length),w.cell? ⟨g,k,none⟩=some (.int .i64 ts[k])) :
 Calls Tryz.prog 221 #[.agg (evV e),.slice (some ⟨g,0,none⟩) n c] w fun r w'=>r=.returned (.tuple #[.agg (e.ofV ts),.int .i64 (e.ofE ts)])∧Below w.heap.size w w':=by
 obtain ⟨W1,hW1⟩:∃W1,W1=(w.alloc (.cells (evV e) 46)).alloc (.cells #[.int .i64 0,.int .i64 0,.int .i64 0,.int .i64 0] 267):=⟨_,rfl⟩
 have hbx:Blk W1 w.heap.size 46 (evV e):=by rw [hW1];exact (Blk.new w _ _).alloc _
 have hrs:Blk W1 (w.heap.size+1) 267 #[.int .i64 0,.int .i64 0,.int .i64 0,.int .i64 0]:=by rw [hW1];exact Blk.newAt (by simp)
 have hB1:Below w.heap.size w W1:=by rw [hW1];exact ((Below.refl _ w).alloc (Nat.le_refl _) _).alloc (by simp) _
 have CE:=hid (echeck_ok e W1)
 have HC:=hid (fun k (hk:k<ts.length)=>(hB1.cell (p:=⟨g,k,none⟩) (World.block_lt_of_cell? w _ (hc k hk))).trans (hc k hk))
 have hgl:∀k (hk:k<ts.length),g<w.heap.size:=fun k hk=>World.block_lt_of_cell? w _ (hc k hk)
 have HGL:=hid hgl
 have HV:Hid (e.ofE ts=(if e.err=0 then timesR ts else 16)∧e.ofV ts=if e.ofE ts=0 then srV e else #[.int .i64 0,.int .i64 0,.int .i64 0,.int .i64 0]):=hid ⟨by unfold Ev.ofE Ev.err;cases e.ok<;>simp,rfl⟩
 have hcases:e.err=0∨e.err=16:=by unfold Ev.err;split<;>simp
 have HOK:Hid (e.err=0→e.Ok):=hid (fun h=>Ev.ok_iff.1 (by unfold Ev.err at h;by_cases hh:e.ok=true;exact hh;rw [if_neg hh] at h;cases h))
 generalize e.ofV ts=V at *
 generalize e.ofE ts=E at *
 generalize e.err=er at *
 have HW1:=hid hW1
 rw [hW1] at CE
 clear hW1 hc hgl
 unfold evV at *
 go_enter Tryz.func221,Tryz.ntmps221
 go_wp2_with fail
 refine (CE.out).mono ?_
 rintro e_ w2 ⟨rfl,hb⟩
 have hb:Below W1.heap.size W1 w2:=by rw [HW1.out];exact hb
 have HX2:=hid (hbx.below hb hbx.lt)
 have HR2:=hid (hrs.below hb hrs.lt)
 have HB2:=hid (hB1.trans (hb.mono hB1.size))
 have HC2:Hid (∀k (hk:k<ts.length),w2.cell? ⟨g,k,none⟩=some (.int .i64 ts[k])):=hid (fun k hk=>(hb.cell (p:=⟨g,k,none⟩) (World.block_lt_of_cell? W1 _ (HC.out k hk))).trans (HC.out k hk))
 clear hb hbx hrs hB1 CE HW1 HC
 have f0:w2.frozen? ⟨w.heap.size+1,0,none⟩=false:=HR2.out.frozen 0
 have f1:w2.frozen? ⟨w.heap.size+1,1,none⟩=false:=HR2.out.frozen 1
 have f2:w2.frozen? ⟨w.heap.size+1,2,none⟩=false:=HR2.out.frozen 2
 have f3:w2.frozen? ⟨w.heap.size+1,3,none⟩=false:=HR2.out.frozen 3
 have d0:w2.cell? ⟨w.heap.size+1,0,none⟩=some (.int .i64 0):=HR2.out.cell 0
 have d1:w2.cell? ⟨w.heap.size+1,1,none⟩=some (.int .i64 0):=HR2.out.cell 1
 have d2:w2.cell? ⟨w.heap.size+1,2,none⟩=some (.int .i64 0):=HR2.out.cell 2
 have d3:w2.cell? ⟨w.heap.size+1,3,none⟩=some (.int .i64 0):=HR2.out.cell 3
 rcases hcases with rfl|rfl
 ·have hok:=HOK.out rfl
  have c0:w2.cell? ⟨w.heap.size,0,none⟩=some (.int .i64 e.s):=HX2.out.cell 0
  have c1:w2.cell? ⟨w.heap.size,1,none⟩=some (.int .i64 e.p):=HX2.out.cell 1
  have c2:w2.cell? ⟨w.heap.size,2,none⟩=some (.int .i64 e.c):=HX2.out.cell 2
  have HE:=hid (show E=timesR ts from HV.out.1)
  have HVV:=hid HV.out.2
  clear HV HOK
  go_wp2_with fail
  go_loop [8,18] (fun _ s=>∃k:Nat,k≤n∧s=.int .i64 k∧∀i (hi:i<ts.length),i<k→tOk ts[i]=true) (fun _ s=>n - intM s)
  case atStart=>exact ⟨0,by omega,rfl,fun i _ hi=>absurd hi (Nat.not_lt_zero _)⟩
  case round =>
   obtain ⟨k,hk,rfl,hok2⟩:=hrel
   have HO:=hid hok2
   clear hok2
   rcases Nat.lt_or_ge k n with hlt|hge
   ·have hlt':k<ts.length:=by omega
    have hck:=HC2.out k hlt'
    have HF:=hid (show ∀b,tOk ts[k]=b→(b=false→timesR ts=14)∧(b=true→∀i (hi:i<ts.length),i<k+1→tOk ts[i]=true) from fun b hb=>⟨fun h=>timesR_bad hlt' (by rw [hb,h]),fun h i hi h2=>by
     rcases Nat.lt_or_ge i k with h3|h3
     ·exact HO.out i hi h3
     ·obtain rfl:i=k:=by omega
      rw [hb,h]⟩)
    generalize ts[k]=t at *
    by_cases h0:t<0
    ·have HT:=hid ((HF.out false (by unfold tOk;rw [decide_eq_false (by omega)];rfl)).1 rfl)
     have HE':Hid (E=14):=hid (HE.out.trans HT.out)
     have HV':Hid (V=#[.int .i64 0,.int .i64 0,.int .i64 0,.int .i64 0]):=hid (by rw [HVV.out,HE'.out];rfl)
     clear HF
     go_wp2_with fail
     refine bodyPost_ret (results_row_tmp rfl _ _ (w.heap.size+1) 267 _ (0,0) _ rfl (BW.Blk.four HR2.out _ _ _ _) Tryz.underlying267 rfl (by kernel_rfl)) rfl ?_
     exact ⟨ret_row HV'.out.symm HE'.out.symm,below_four HB2.out (by omega) _ _ _ _⟩
    ·by_cases h1:253402300799<t
     ·have HT:=hid ((HF.out false (by unfold tOk;rw [decide_eq_false (p:=t≤_) (by omega)];simp)).1 rfl)
      have HE':Hid (E=14):=hid (HE.out.trans HT.out)
      have HV':Hid (V=#[.int .i64 0,.int .i64 0,.int .i64 0,.int .i64 0]):=hid (by rw [HVV.out,HE'.out];rfl)
      clear HF
      go_wp2_with fail
      refine bodyPost_ret (results_row_tmp rfl _ _ (w.heap.size+1) 267 _ (0,0) _ rfl (BW.Blk.four HR2.out _ _ _ _) Tryz.underlying267 rfl (by kernel_rfl)) rfl ?_
      exact ⟨ret_row HV'.out.symm HE'.out.symm,below_four HB2.out (by omega) _ _ _ _⟩
     ·have HT:=hid ((HF.out true (by unfold tOk;rw [decide_eq_true (by omega),decide_eq_true (by omega)];rfl)).2 rfl)
      clear HF
      go_wp2_with fail
      go_round
      case rel=>exact ⟨k+1,by omega,by go_num,HT.out⟩
      case measure=>simp [intM];omega
   ·obtain rfl:n=k:=by omega
    have HT:=hid (timesR_ok (ts:=ts) (fun i hi=>HO.out i hi (by omega)))
    have HE':Hid (E=0):=hid (HE.out.trans HT.out)
    have HV':Hid (V=srV e):=hid (by rw [HVV.out,HE'.out];rfl)
    have hs0:=hok.s0
    have hs1:=hok.s1
    have hp0:=hok.p0
    have hq:=hok.quot
    have hq2:(253402300799 - e.s).tdiv e.p=(253402300799 - e.s) / e.p:=Int.tdiv_eq_ediv_of_nonneg (by omega)
    have hcc:=hok.c0
    have hcm:=hok.c1
    have hsz:Hid (e.size=if 0<e.c then min (1+(253402300799 - e.s) / e.p) e.c else 1+(253402300799 - e.s) / e.p):=hid rfl
    clear HO HE HVV hge hk
    go_wp2_with fail
    obtain ⟨q,hqq⟩:∃q,(253402300799 - e.s) / e.p=q:=⟨_,rfl⟩
    rw [hqq] at hq hq2 hsz
    have hp0':(e.p==0)=false:=by rw [beq_eq_false_iff_ne];omega
    have hp0'':¬e.p=0:=by omega
    have hwr:IntKind.i64.wrap (1+q)=1+q:=IntWalk.i64_in _ (by omega)
    have hwr1:IntKind.i64.wrap (253402300799 - e.s)=253402300799 - e.s:=IntWalk.i64_in _ (by omega)
    have hwr2:IntKind.i64.wrap q=q:=IntWalk.i64_in _ (by omega)
    have HQ:=hid (fun (v:Int) (h:v=e.size)=>show (#[.int .i64 e.s,.int .i64 e.p,.int .i64 e.c,.int .i64 v]:Array Value)=srV e by rw [h];rfl)
    have H5:Hid (∀W5,W5=(w2.alloc (.cells #[.int .i64 e.s,.int .i64 e.p,.int .i64 e.c,.int .i64 (1+q)] 267)).drew→Below w2.heap.size w2 W5∧Blk W5 w2.heap.size 267 #[.int .i64 e.s,.int .i64 e.p,.int .i64 e.c,.int .i64 (1+q)]):=hid (by
     rintro W5 rfl
     exact ⟨below_drewN ((Below.refl _ w2).alloc (Nat.le_refl _) _) 1,Blk.new _ _ _⟩)
    have hw12:w.heap.size+1<w2.heap.size:=HR2.out.lt
    clear d0 d1 d2 d3 f0 f1 f2 f3
    go_region_held3 (fun w'=>w'.cell? ⟨w.heap.size,0,none⟩=some (.int .i64 e.s)∧w'.cell? ⟨w.heap.size,1,none⟩=some (.int .i64 e.p)∧w'.cell? ⟨w.heap.size,2,none⟩=some (.int .i64 e.c)) (go_keep) (fail)
    all_goals
     obtain ⟨W5,hW5⟩:∃W5,W5=(w2.alloc (.cells #[.int .i64 e.s,.int .i64 e.p,.int .i64 e.c,.int .i64 (1+q)] 267)).drew:=⟨_,rfl⟩
     obtain ⟨b5,s5⟩:=H5.out W5 hW5
     rw [←hW5]
     have HS5:=hid s5
     have HR5:=hid (HR2.out.below b5 HR2.out.lt)
     have HB5:=hid (HB2.out.trans (b5.mono HB2.out.size))
     have HX5:=HX2.out.below b5 HX2.out.lt
     have c0':W5.cell? ⟨w.heap.size,0,none⟩=some (.int .i64 e.s):=HX5.cell 0
     have c1':W5.cell? ⟨w.heap.size,1,none⟩=some (.int .i64 e.p):=HX5.cell 1
     have c2':W5.cell? ⟨w.heap.size,2,none⟩=some (.int .i64 e.c):=HX5.cell 2
     have s0:W5.cell? ⟨w2.heap.size,0,none⟩=some (.int .i64 e.s):=s5.cell 0
     have s1:W5.cell? ⟨w2.heap.size,1,none⟩=some (.int .i64 e.p):=s5.cell 1
     have s2:W5.cell? ⟨w2.heap.size,2,none⟩=some (.int .i64 e.c):=s5.cell 2
     have s3:W5.cell? ⟨w2.heap.size,3,none⟩=some (.int .i64 (1+q)):=s5.cell 3
     have g3:W5.frozen? ⟨w2.heap.size,3,none⟩=false:=s5.frozen 3
     have f0:W5.frozen? ⟨w.heap.size+1,0,none⟩=false:=HR5.out.frozen 0
     have f1:W5.frozen? ⟨w.heap.size+1,1,none⟩=false:=HR5.out.frozen 1
     have f2:W5.frozen? ⟨w.heap.size+1,2,none⟩=false:=HR5.out.frozen 2
     have f3:W5.frozen? ⟨w.heap.size+1,3,none⟩=false:=HR5.out.frozen 3
     have d0:W5.cell? ⟨w.heap.size+1,0,none⟩=some (.int .i64 0):=HR5.out.cell 0
     have d1:W5.cell? ⟨w.heap.size+1,1,none⟩=some (.int .i64 0):=HR5.out.cell 1
     have d2:W5.cell? ⟨w.heap.size+1,2,none⟩=some (.int .i64 0):=HR5.out.cell 2
     have d3:W5.cell? ⟨w.heap.size+1,3,none⟩=some (.int .i64 0):=HR5.out.cell 3
     clear b5 s5 HX5 H5 hW5 c0 c1 c2 HX2 HR2 HB2 HC2
     by_cases hc0:0<e.c
     ·have dc:decide (0<e.c)=true:=decide_eq_true hc0
      have hne:¬w2.heap.size=w.heap.size+1:=by omega
      have hne':¬w.heap.size+1=w2.heap.size:=by omega
      obtain ⟨m,hm⟩:∃m,min (1+q) e.c=m:=⟨_,rfl⟩
      have HM:Hid (m=e.size):=hid (by rw [hsz.out,if_pos hc0];exact hm.symm)
      have HRR:=hid (HR5.out.far (p:=⟨w2.heap.size,3,none⟩) (by exact hne') (.int .i64 m))
      have HBB:=hid (HB5.out.setCell (p:=⟨w2.heap.size,3,none⟩) (by show w.heap.size≤w2.heap.size;omega) (.int .i64 m))
      clear hc0
      go_wp2_with fail
      refine bodyPost_ret (results_row_tmp rfl _ _ (w.heap.size+1) 267 _ (0,0) _ rfl (BW.Blk.four HRR.out _ _ _ _) Tryz.underlying267 rfl (by kernel_rfl)) rfl ?_
      exact ⟨ret_row ((HQ.out m HM.out).trans HV'.out.symm) HE'.out.symm,below_four HBB.out (by omega) _ _ _ _⟩
     ·have dc:decide (0<e.c)=false:=decide_eq_false hc0
      have HM:Hid (1+q=e.size):=hid (by rw [hsz.out,if_neg hc0])
      clear hc0
      go_wp2_with fail
      refine bodyPost_ret (results_row_tmp rfl _ _ (w.heap.size+1) 267 _ (0,0) _ rfl (BW.Blk.four HR5.out _ _ _ _) Tryz.underlying267 rfl (by kernel_rfl)) rfl ?_
      exact ⟨ret_row ((HQ.out _ HM.out).trans HV'.out.symm) HE'.out.symm,below_four HB5.out (by omega) _ _ _ _⟩
 ·have HE:Hid (E=16):=hid (by rw [HV.out.1];rfl)
  have HVV:Hid (V=#[.int .i64 0,.int .i64 0,.int .i64 0,.int .i64 0]):=hid (by rw [HV.out.2,HE.out];rfl)
  go_wp2_with fail
  refine bodyPost_ret (results_row_tmp rfl _ _ (w.heap.size+1) 267 _ (0,0) _ rfl (BW.Blk.four HR2.out _ _ _ _) Tryz.underlying267 rfl (by kernel_rfl)) rfl ?_
  exact ⟨ret_row HVV.out.symm HE.out.symm,below_four HB2.out (by omega) _ _ _ _⟩
theorem Ev.ofE_ok{e:Ev}{ts:List Int}(h:e.ofE ts=0):e.Ok∧∀t∈ts,0≤t∧t≤253402300799:=by
 unfold Ev.ofE at h
 by_cases hk:e.ok=true
 ·rw [if_pos hk] at h
  refine ⟨Ev.ok_iff.1 hk,fun t ht=>?_⟩
  unfold timesR at h
  by_cases ha:ts.all tOk=true
  ·have:=List.all_eq_true.1 ha t ht
   unfold tOk at this
   simpa using this
  ·rw [if_neg ha] at h;cases h
 ·rw [if_neg hk] at h;cases h
theorem Ev.ofV_ok{e:Ev}{ts:List Int}(h:e.ofE ts=0):e.ofV ts=srV e:=if_pos h
theorem Ev.ofV_bad{e:Ev}{ts:List Int}(h:e.ofE ts≠0):e.ofV ts=#[.int .i64 0,.int .i64 0,.int .i64 0,.int .i64 0]:=if_neg h
def Ev.isV(e:Ev)(t:Int):Bool:=decide (e.ofE [t]=0)&&e.has t
def Ev.nxV(e:Ev)(t:Int):Option Int:=if e.ofE [t]=0 then e.at_ (e.before (t+1)) else none
def Ev.ctV(e:Ev)(a b:Int):Int:=if e.ofE [a,b]=0 then max 0 (e.before (b+1) - e.before a) else 0
theorem ret_beX{a b:Bool}{c d:Int}(h:a=b)(h':c=d):Ending.returned (.tuple #[.bool a,.int .i64 c])=.returned (.tuple #[.bool b,.int .i64 d]):=by rw [h,h']
theorem ret_ibeX{u v:Int}{a b:Bool}{c d:Int}(h0:u=v)(h:a=b)(h':c=d):Ending.returned (.tuple #[.int .i64 u,.bool a,.int .i64 c])=.returned (.tuple #[.int .i64 v,.bool b,.int .i64 d]):=by rw [h0,h,h']
theorem of_at(e:Ev)(ts:List Int)(w:World)(hn:ts.length≤9):Calls Tryz.prog 221 #[.agg (evV e),.slice (some ⟨w.heap.size+1,0,none⟩) ts.length ts.length] ((w.alloc (.cells (evV e) 46)).alloc (.cells (ts.map (Value.int .i64)).toArray 2)) fun r w'=>r=.returned (.tuple #[.agg (e.ofV ts),.int .i64 (e.ofE ts)])∧Below w.heap.size w w':=by
 have hB:Below w.heap.size w ((w.alloc (.cells (evV e) 46)).alloc (.cells (ts.map (Value.int .i64)).toArray 2)):=((Below.refl _ w).alloc (Nat.le_refl _) _).alloc (by simp) _
 have hts:Blk ((w.alloc (.cells (evV e) 46)).alloc (.cells (ts.map (Value.int .i64)).toArray 2)) (w.heap.size+1) 2 (ts.map (Value.int .i64)).toArray:=Blk.newAt (by simp)
 refine (eof_ok e ts (w.heap.size+1) ts.length ts.length rfl hn _ (fun k hk=>?_)).mono fun _ _ ⟨h1,h2⟩=>⟨h1,hB.trans (h2.mono hB.size)⟩
 rw [hts.cell k]
 simp [hk]
theorem eis_ok(e:Ev)(t:Int)(w:World):Calls Tryz.prog 205 #[.agg (evV e),.int .i64 t] w fun r w'=>r=.returned (.tuple #[.bool (e.isV t),.int .i64 (e.ofE [t])])∧Below w.heap.size w w':=by
 have CE:=hid (of_at e [t] w (by simp))
 have HI:Hid (e.isV t=(decide (e.ofE [t]=0)&&e.has t)):=hid rfl
 by_cases hE:e.ofE [t]=0
 ·obtain ⟨hok,ht⟩:=Ev.ofE_ok hE
  have C2:=hid (fun w=>ehas_ok e hok t (ht t (by simp)) w)
  rw [Ev.ofV_ok hE,hE] at CE
  rw [hE] at HI ⊢
  generalize e.isV t=R at *
  generalize e.has t=H at *
  clear hok ht hE
  unfold srV at CE C2
  unfold evV at *
  simp only [List.length_singleton,List.map_cons,List.map_nil] at CE
  go_enter Tryz.func205,Tryz.ntmps205
  go_wp2_with fail
  refine (CE.out).mono ?_
  rintro e_ w2 ⟨rfl,hb⟩
  have HB:=hid hb
  clear hb CE
  go_wp2_with fail
  refine (C2.out _).mono ?_
  rintro e_ w3 ⟨rfl,hb⟩
  go_wp2_with fail
  go_ret2
  have hb2:Below w.heap.size w (w2.alloc (.cells #[.int .i64 e.s,.int .i64 e.p,.int .i64 e.c,.int .i64 e.size] 267)):=HB.out.alloc HB.out.size _
  exact ⟨ret_beX (by rw [HI.out];simp) rfl,hb2.trans (hb.mono hb2.size)⟩
 ·have HE:Hid (e.isV t=false):=hid (by rw [HI.out,decide_eq_false hE];rfl)
  rw [Ev.ofV_bad hE] at CE
  have hne:(e.ofE [t]==0)=false:=by rw [beq_eq_false_iff_ne];exact hE
  have hne':(e.ofE [t] != 0)=true:=by rw [bne,hne];rfl
  generalize e.isV t=R at *
  generalize e.ofE [t]=E at *
  clear HI hE
  unfold evV at *
  simp only [List.length_singleton,List.map_cons,List.map_nil] at CE
  go_enter Tryz.func205,Tryz.ntmps205
  go_wp2_with fail
  refine (CE.out).mono ?_
  rintro e_ w2 ⟨rfl,hb⟩
  have HB:=hid hb
  clear hb CE
  go_wp2_with fail
  go_ret2
  exact ⟨ret_beX HE.out.symm rfl,HB.out.alloc HB.out.size _⟩
theorem enext_ok(e:Ev)(t:Int)(w:World):Calls Tryz.prog 207 #[.agg (evV e),.int .i64 t] w fun r w'=>r=.returned (.tuple #[.int .i64 ((e.nxV t).getD 0),.bool (e.nxV t).isSome,.int .i64 (e.ofE [t])])∧Below w.heap.size w w':=by
 have CE:=hid (of_at e [t] w (by simp))
 by_cases hE:e.ofE [t]=0
 ·obtain ⟨hok,ht⟩:=Ev.ofE_ok hE
  have ht:=ht t (by simp)
  have HI:Hid (e.nxV t=e.at_ (e.before (t+1))):=hid (if_pos hE)
  rw [Ev.ofV_ok hE,hE] at CE
  rw [hE]
  have C1:=hid (fun w2 d os=>Calls.regrown_of (ebefore_ok e hok (t+1) ⟨by omega,by omega⟩ (Sort.grow (redrawn w2 d) os)))
  have C2:=hid (fun w2 d os=>Calls.regrown_of (eat_at e hok (e.before (t+1)) (Sort.grow (redrawn w2 d) os)))
  generalize e.nxV t=R at *
  generalize e.at_ (e.before (t+1))=o at *
  clear hok hE
  unfold srV at CE C1 C2
  unfold evV at *
  simp only [List.length_singleton,List.map_cons,List.map_nil] at CE
  go_enter Tryz.func207,Tryz.ntmps207
  go_wp2_with fail
  refine (CE.out).mono ?_
  rintro e_ w2 ⟨rfl,hb⟩
  obtain ⟨W,hW⟩:∃W,W=w2.alloc (.cells #[.int .i64 e.s,.int .i64 e.p,.int .i64 e.c,.int .i64 e.size] 267):=⟨_,rfl⟩
  have hbx:Blk W w2.heap.size 267 #[.int .i64 e.s,.int .i64 e.p,.int .i64 e.c,.int .i64 e.size]:=by rw [hW];exact Blk.new w2 _ _
  have HB:Hid (Below w.heap.size w W):=hid (by rw [hW];exact hb.alloc hb.size _)
  have k0:=cell_regrown (show W.cell? ⟨w2.heap.size,0,none⟩=some (.int .i64 e.s) from hbx.cell 0)
  have k1:=cell_regrown (show W.cell? ⟨w2.heap.size,1,none⟩=some (.int .i64 e.p) from hbx.cell 1)
  have k2:=cell_regrown (show W.cell? ⟨w2.heap.size,2,none⟩=some (.int .i64 e.c) from hbx.cell 2)
  have k3:=cell_regrown (show W.cell? ⟨w2.heap.size,3,none⟩=some (.int .i64 e.size) from hbx.cell 3)
  clear hb CE hbx
  go_wp2_with fail
  rw [←hW]
  clear hW
  refine wp_region_quiet_below (by kernel_rfl) (by kernel_rfl) ?_
  repeat (go_big_quiet_step (fail))
  go_big_quiet_step ((go_at_call 224;exact C1.out _ _ _))
  repeat (go_big_quiet_step (fail))
  go_big_quiet_step ((go_at_call 223;exact C2.out _ _ _))
  repeat (go_big_quiet_step (fail))
  refine wpQuiet_nil ?_
  intro _ hw'
  obtain ⟨⟨dq,osq⟩,hw''⟩:=hw'
  subst hw''
  go_wp2_with fail
  go_ret3
  exact ⟨ret_ibeX (by rw [HI.out]) (by rw [HI.out]) rfl,HB.out.trans ((below_regrown W dq osq).mono HB.out.size)⟩
 ·have HE:Hid (e.nxV t=none):=hid (if_neg hE)
  rw [Ev.ofV_bad hE] at CE
  have hne:(e.ofE [t]==0)=false:=by rw [beq_eq_false_iff_ne];exact hE
  have hne':(e.ofE [t] != 0)=true:=by rw [bne,hne];rfl
  generalize e.nxV t=R at *
  generalize e.ofE [t]=E at *
  clear hE
  unfold evV at *
  simp only [List.length_singleton,List.map_cons,List.map_nil] at CE
  go_enter Tryz.func207,Tryz.ntmps207
  go_wp2_with fail
  refine (CE.out).mono ?_
  rintro e_ w2 ⟨rfl,hb⟩
  have HB:=hid hb
  clear hb CE
  go_wp2_with fail
  go_ret3
  exact ⟨ret_ibeX (by rw [HE.out];rfl) (by rw [HE.out];rfl) rfl,HB.out.alloc HB.out.size _⟩
theorem ecount_ok(e:Ev)(a b:Int)(w:World):Calls Tryz.prog 209 #[.agg (evV e),.int .i64 a,.int .i64 b] w fun r w'=>r=.returned (.tuple #[.int .i64 (e.ctV a b),.int .i64 (e.ofE [a,b])])∧Below w.heap.size w w':=by
 have CE:=hid (of_at e [a,b] w (by simp))
 by_cases hE:e.ofE [a,b]=0
 ·obtain ⟨hok,ht⟩:=Ev.ofE_ok hE
  have ha:=ht a (by simp)
  have hbb:=ht b (by simp)
  have HI:Hid (e.ctV a b=max 0 (e.before (b+1) - e.before a)):=hid (if_pos hE)
  rw [Ev.ofV_ok hE,hE] at CE
  rw [hE]
  have C1:=hid (fun w2 d os=>Calls.regrown_of (ebefore_ok e hok (b+1) ⟨by omega,by omega⟩ (Sort.grow (redrawn w2 d) os)))
  have C2:=hid (fun w2 d os=>Calls.regrown_of (ebefore_ok e hok a ⟨by omega,by omega⟩ (Sort.grow (redrawn w2 d) os)))
  have r1:=hok.before_range (b+1)
  have r2:=hok.before_range a
  have r3:=hok.size
  have r4:=hok.quot
  have s0:=hok.s0
  generalize e.ctV a b=R at *
  generalize e.before (b+1)=p at *
  generalize e.before a=q at *
  generalize (253402300799 - e.s) / e.p=zz at *
  have hz9:e.size≤253402300800:=by omega
  have hw:IntKind.i64.wrap (p - q)=p - q:=IntWalk.i64_in _ (by omega)
  clear hok hE ht r3 r4
  unfold srV at CE C1 C2
  unfold evV at *
  simp only [List.length_cons,List.length_nil,Nat.zero_add,Nat.reduceAdd,List.map_cons,List.map_nil] at CE
  go_enter Tryz.func209,Tryz.ntmps209
  go_wp2_with fail
  refine (CE.out).mono ?_
  rintro e_ w2 ⟨rfl,hb⟩
  obtain ⟨W,hW⟩:∃W,W=w2.alloc (.cells #[.int .i64 e.s,.int .i64 e.p,.int .i64 e.c,.int .i64 e.size] 267):=⟨_,rfl⟩
  have hbx:Blk W w2.heap.size 267 #[.int .i64 e.s,.int .i64 e.p,.int .i64 e.c,.int .i64 e.size]:=by rw [hW];exact Blk.new w2 _ _
  have HB:Hid (Below w.heap.size w W):=hid (by rw [hW];exact hb.alloc hb.size _)
  have k0:=cell_regrown (show W.cell? ⟨w2.heap.size,0,none⟩=some (.int .i64 e.s) from hbx.cell 0)
  have k1:=cell_regrown (show W.cell? ⟨w2.heap.size,1,none⟩=some (.int .i64 e.p) from hbx.cell 1)
  have k2:=cell_regrown (show W.cell? ⟨w2.heap.size,2,none⟩=some (.int .i64 e.c) from hbx.cell 2)
  have k3:=cell_regrown (show W.cell? ⟨w2.heap.size,3,none⟩=some (.int .i64 e.size) from hbx.cell 3)
  clear hb CE hbx
  go_wp2_with fail
  rw [←hW]
  clear hW
  refine wp_region_quiet_below (by kernel_rfl) (by kernel_rfl) ?_
  repeat (go_big_quiet_step (fail))
  go_big_quiet_step ((go_at_call 224;exact C1.out _ _ _))
  repeat (go_big_quiet_step (fail))
  go_big_quiet_step ((go_at_call 224;exact C2.out _ _ _))
  repeat (go_big_quiet_step (fail))
  refine wpQuiet_nil ?_
  intro _ hw'
  obtain ⟨⟨dq,osq⟩,hw''⟩:=hw'
  subst hw''
  go_wp2_with fail
  go_ret2
  exact ⟨ret_ii HI.out.symm rfl,HB.out.trans ((below_regrown W dq osq).mono HB.out.size)⟩
 ·have HE:Hid (e.ctV a b=0):=hid (if_neg hE)
  rw [Ev.ofV_bad hE] at CE
  have hne:(e.ofE [a,b]==0)=false:=by rw [beq_eq_false_iff_ne];exact hE
  have hne':(e.ofE [a,b] != 0)=true:=by rw [bne,hne];rfl
  generalize e.ctV a b=R at *
  generalize e.ofE [a,b]=E at *
  clear hE
  unfold evV at *
  simp only [List.length_cons,List.length_nil,Nat.zero_add,Nat.reduceAdd,List.map_cons,List.map_nil] at CE
  go_enter Tryz.func209,Tryz.ntmps209
  go_wp2_with fail
  refine (CE.out).mono ?_
  rintro e_ w2 ⟨rfl,hb⟩
  have HB:=hid hb
  clear hb CE
  go_wp2_with fail
  go_ret2
  exact ⟨ret_ii HE.out.symm rfl,HB.out.alloc HB.out.size _⟩
end Go.Proofs.YtpgckpafjiojfaaGreatDoor.BW
