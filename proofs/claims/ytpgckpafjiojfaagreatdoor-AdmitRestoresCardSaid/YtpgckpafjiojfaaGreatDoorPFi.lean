/- Contract of plan.kinds: the map of the kinds. Plans as cells; what the kinds' checks answer. The times of a plan's kind, plainly. Contract of plan.find, case 2. Contract of plan.find, case 0. Contract of plan.find, case 1 and no kind. -/
import Derived.Test.YtpgckpafjiojfaaGreatDoorPSp
import Derived.MapKept
import Derived.Carry
import Derived.Test.YtpgckpafjiojfaaGreatDoorAMatch
import Derived.Laws.EntriesVeiled
open Go.Lib (hid)
set_option maxRecDepth 16000
set_option maxHeartbeats 40000000
namespace Go.Proofs.YtpgckpafjiojfaaGreatDoor.BW
open Go.RowKit BM Go.Shelf MC
open BK hiding ret_bool ret_i64
def kd0:Array Value:=#[.func (.func 189) #[] #[],.func (.func 190) #[] #[],.func (.func 191) #[] #[],.func (.func 192) #[] #[]]
def kd1:Array Value:=#[.func (.func 193) #[] #[],.func (.func 196) #[] #[],.func (.func 198) #[] #[],.func (.func 200) #[] #[]]
def kd2:Array Value:=#[.func (.func 202) #[] #[],.func (.func 204) #[] #[],.func (.func 206) #[] #[],.func (.func 208) #[] #[]]
def kdM:Obj:=.map #[⟨.int .i64 0,.agg kd0,0⟩,⟨.int .i64 1,.agg kd1,1⟩,⟨.int .i64 2,.agg kd2,2⟩] 3
theorem makeMap_run(w:World):(Instr.makeMap 240 none).run Tryz.prog w=.ok (.map (some w.heap.size)) (w.alloc (.map #[] 0)):=run_makeMap _ _
theorem int_key(k:Int):Go.MapKept.IsKey (.int .i64) (.int .i64 k):=by simp [Go.MapKept.IsKey]
theorem insert_run(w:World)(es:Array MapEntry)(cl:Nat)(k:Int)(v:Value)(hf:Instr.findNow (.int .i64) (.int .i64 k) es.toList 0=some none) :
 (Instr.mapUpdate 240 (.map (some w.heap.size)) (.int .i64 k) v).run Tryz.prog (w.alloc (.map es cl))=.ok () (w.alloc (.map (es.push ⟨.int .i64 k,v,cl⟩) (cl+1))):=by
 have hb:(w.alloc (.map es cl)).heap[w.heap.size]? = some (.map es cl):=heap_alloc_new w _
 simp only [Instr.mapUpdate,Sem.run_bind,run_underlying Tryz.underlying240,Result.andThen_ok,Go.MapKept.run_getObj_map hb,Go.MapKept.run_checkKey Tryz.underlying3 (int_key k),Go.MapKept.run_findKey Tryz.underlying3 hf,Go.MapKept.run_setObj_map _ hb]
 have e:(w.heap.push (.map es cl)).setIfInBounds w.heap.size (.map (es.push ⟨.int .i64 k,v,cl⟩) (cl+1))=w.heap.push (.map (es.push ⟨.int .i64 k,v,cl⟩) (cl+1)):=by
  apply Array.ext'
  simp
 exact congrArg (fun h=>Result.ok () { w with heap:=h }) e
theorem kinds_ok(w:World):Calls Tryz.prog 186 #[] w fun r w'=>r=.returned (.map (some w.heap.size))∧w'=w.alloc kdM:=by
 have M0:=makeMap_run w
 have I0:(Instr.mapUpdate 240 (.map (some w.heap.size)) (.int .i64 0) (.agg kd0)).run Tryz.prog (w.alloc (.map #[] 0))=.ok () (w.alloc (.map #[⟨.int .i64 0,.agg kd0,0⟩] 1)):=insert_run w #[] 0 0 (.agg kd0) rfl
 have I1:(Instr.mapUpdate 240 (.map (some w.heap.size)) (.int .i64 1) (.agg kd1)).run Tryz.prog (w.alloc (.map #[⟨.int .i64 0,.agg kd0,0⟩] 1))=.ok () (w.alloc (.map #[⟨.int .i64 0,.agg kd0,0⟩,⟨.int .i64 1,.agg kd1,1⟩] 2)):=insert_run w #[⟨.int .i64 0,.agg kd0,0⟩] 1 1 (.agg kd1) rfl
 have I2:(Instr.mapUpdate 240 (.map (some w.heap.size)) (.int .i64 2) (.agg kd2)).run Tryz.prog (w.alloc (.map #[⟨.int .i64 0,.agg kd0,0⟩,⟨.int .i64 1,.agg kd1,1⟩] 2))=.ok () (w.alloc kdM):=insert_run w #[⟨.int .i64 0,.agg kd0,0⟩,⟨.int .i64 1,.agg kd1,1⟩] 2 2 (.agg kd2) rfl
 unfold kd0 kd1 at *
 unfold kd2 at *
 go_enter Tryz.func186,Tryz.ntmps186
 go_wp2_with fail
 go_ret
 exact ⟨rfl,rfl⟩
def kdV(k:Int):Array Value:=if k=0 then kd0 else if k=1 then kd1 else if k=2 then kd2 else #[.nilFunc,.nilFunc,.nilFunc,.nilFunc]
def kdH(k:Int):Bool:=decide (k=0∨k=1∨k=2)
theorem kd_find(k:Int):Instr.findNow (.int .i64) (.int .i64 k) [⟨.int .i64 0,.agg kd0,0⟩,⟨.int .i64 1,.agg kd1,1⟩,⟨.int .i64 2,.agg kd2,2⟩] 0=some (if k=0 then some (0,.agg kd0) else if k=1 then some (1,.agg kd1) else if k=2 then some (2,.agg kd2) else none):=by
 by_cases h0:k=0
 ·subst h0;rfl
 ·by_cases h1:k=1
  ·subst h1;rfl
  ·by_cases h2:k=2
   ·subst h2;rfl
   ·rw [if_neg h0,if_neg h1,if_neg h2]
    have b0:(k==0)=false:=by rw [beq_eq_false_iff_ne];exact h0
    have b1:(k==1)=false:=by rw [beq_eq_false_iff_ne];exact h1
    have b2:(k==2)=false:=by rw [beq_eq_false_iff_ne];exact h2
    simp [Instr.findNow,Instr.sameNow,b0,b1,b2]
theorem kd_lookup(w:World)(m:Nat)(k:Int)(hb:w.heap[m]? = some kdM):(Instr.lookup 240 (.map (some m)) (.int .i64 k) true).run Tryz.prog w=.ok (.tuple #[.agg (kdV k),.bool (kdH k)]) w:=by
 have hb':w.heap[m]? = some (.map #[⟨.int .i64 0,.agg kd0,0⟩,⟨.int .i64 1,.agg kd1,1⟩,⟨.int .i64 2,.agg kd2,2⟩] 3):=hb
 have hz:(zeroValue 231).run Tryz.prog w=.ok (.agg #[.nilFunc,.nilFunc,.nilFunc,.nilFunc]) w:=by
  have hzz:Tryz.t231.zero=some (.agg #[.nilFunc,.nilFunc,.nilFunc,.nilFunc]):=by kernel_rfl
  simp [zeroValue,go_sem,hzz]
 simp only [Instr.lookup,Sem.run_bind,run_underlying Tryz.underlying240,Result.andThen_ok,Go.MapKept.run_getObj_map hb',Sem.run_pure,Go.MapKept.run_checkKey Tryz.underlying3 (int_key k),Go.MapKept.run_findKey Tryz.underlying3 (kd_find k)]
 unfold kdV kdH
 by_cases h0:k=0
 ·subst h0;rfl
 ·by_cases h1:k=1
  ·subst h1;rfl
  ·by_cases h2:k=2
   ·subst h2;rfl
   ·rw [if_neg h0,if_neg h1,if_neg h2,if_neg h0,if_neg h1,if_neg h2,decide_eq_false (by omega)]
    simp [hz]
structure Pl where
 k:Int
 x:Ex
 z:Int
 e:Ev
 a:Option Addr
 n:Nat
 c:Nat
def plV(p:Pl):Array Value:=#[.int .i64 p.k,.int .u64 p.x.s,.int .u64 p.x.mi,.int .u64 p.x.h,.int .u64 p.x.d,.int .u64 p.x.mo,.int .u64 p.x.w,.bool p.x.ad,.bool p.x.aw,.int .i64 p.z,.int .i64 p.e.s,.int .i64 p.e.p,.int .i64 p.e.c,.slice p.a p.n p.c]
def noX(x:Ex):Bool:=decide (x.s=0∧x.mi=0∧x.h=0∧x.d=0∧x.mo=0∧x.w=0)&&!x.ad&&!x.aw
def noE(e:Ev):Bool:=decide (e.s=0∧e.p=0∧e.c=0)
theorem kind1_ok(p:Pl)(w:World):Calls Tryz.prog 189 #[.agg (plV p)] w fun r w'=>r=.returned (.bool (decide (p.n=0)&&noE p.e&&noX p.x&&decide (p.z=0)))∧Below w.heap.size w w':=by
 unfold plV
 go_enter Tryz.func189,Tryz.ntmps189
 go_wp2_with fail
 all_goals
  go_ret
  refine ⟨ret_bool ?_,(Below.refl _ w).alloc (Nat.le_refl _) _⟩
  simp_all [noE,noX]<;>rfl
theorem kind5_ok(p:Pl)(hx:U64s p.x)(w:World)(hT:SpTab w):Calls Tryz.prog 193 #[.agg (plV p)] w fun r w'=>r=.returned (.bool (noE p.e&&decide (ckR p.x=0)&&decide (zoneR p.z=0)))∧Below w.heap.size w w':=by
 have hB1:Below w.heap.size w (w.alloc (.cells (plV p) 49)):=(Below.refl _ w).alloc (Nat.le_refl _) _
 have CX:=hid (check_ok p.x hx (w.alloc (.cells (plV p) 49)) (hT.below hB1))
 have CZ:=hid (fun w=>zone_ok p.z w)
 have hbx:=Blk.new w 49 (plV p)
 have HB1:=hid hB1
 have cx:=ckR_cases p.x
 have cz:=zoneR_cases p.z
 have HR:Hid (noE p.e=decide (p.e.s=0∧p.e.p=0∧p.e.c=0)):=hid rfl
 generalize ckR p.x=a at *
 generalize zoneR p.z=b at *
 generalize noE p.e=ne at *
 clear hx hT hB1
 unfold exV at CX
 obtain ⟨pk,px,pz,⟨s,per,cnt⟩,pa,pn,pc⟩:=p
 unfold plV at *
 simp only at *
 by_cases hs:s=0∧per=0∧cnt=0
 ·obtain ⟨rfl,rfl,rfl⟩:=hs
  obtain rfl:ne=true:=by rw [HR.out];rfl
  clear HR
  go_enter Tryz.func193,Tryz.ntmps193
  go_wp2_with fail
  refine (CX.out).mono ?_
  rintro e_ w2 ⟨rfl,hb⟩
  have HB2:=hid (HB1.out.trans (Below.mono (w:=w.alloc _) hb HB1.out.size))
  have hx2:=hbx.below hb hbx.lt
  have c9:w2.cell? ⟨w.heap.size,9,none⟩=some (.int .i64 pz):=hx2.cell 9
  clear hb hbx hx2 CX
  rcases cx with rfl|rfl
  ·go_wp2_with fail
   refine (CZ.out _).mono ?_
   rintro e_ w3 ⟨rfl,rfl⟩
   rcases cz with rfl|rfl
   ·go_wp2_with fail
    go_ret
    exact ⟨ret_bool (by first|rfl|simp),HB2.out⟩
   ·go_wp2_with fail
    go_ret
    exact ⟨ret_bool (by first|rfl|simp),HB2.out⟩
  ·go_wp2_with fail
   go_ret
   exact ⟨ret_bool (by first|rfl|simp),HB2.out⟩
 ·obtain rfl:ne=false:=by rw [HR.out];exact decide_eq_false hs
  have HS:=hid hs
  clear HR hs
  go_enter Tryz.func193,Tryz.ntmps193
  go_wp2_with fail
  all_goals
   first
    | exact (HS.out ⟨by assumption,by assumption,by assumption⟩).elim
    | (
     go_ret
     exact ⟨ret_bool (by first|rfl|simp),(Below.refl _ w).alloc (Nat.le_refl _) _⟩)
theorem kind9_ok(p:Pl)(w:World):Calls Tryz.prog 202 #[.agg (plV p)] w fun r w'=>r=.returned (.bool (noX p.x&&decide (p.z=0)&&decide (p.e.err=0)))∧Below w.heap.size w w':=by
 have hB1:Below w.heap.size w (w.alloc (.cells (plV p) 49)):=(Below.refl _ w).alloc (Nat.le_refl _) _
 have CE:=hid (echeck_ok p.e (w.alloc (.cells (plV p) 49)))
 have HB1:=hid hB1
 have hcases:p.e.err=0∨p.e.err=16:=by unfold Ev.err;split<;>simp
 generalize p.e.err=er at *
 clear hB1
 unfold evV at CE
 by_cases hx:noX p.x=true
 ·have hx':(p.x.s=0∧p.x.mi=0∧p.x.h=0∧p.x.d=0∧p.x.mo=0∧p.x.w=0)∧p.x.ad=false∧p.x.aw=false:=by
   unfold noX at hx
   simpa [and_assoc] using hx
  obtain ⟨pk,⟨s,mi,h,d,mo,wk,ad,aw⟩,pz,⟨es,ep,ec⟩,pa,pn,pc⟩:=p
  unfold plV at *
  simp only at *
  obtain ⟨⟨rfl,rfl,rfl,rfl,rfl,rfl⟩,rfl,rfl⟩:=hx'
  rw [hx]
  clear hx
  by_cases hz:pz=0
  ·subst hz
   go_enter Tryz.func202,Tryz.ntmps202
   go_wp2_with fail
   refine (CE.out).mono ?_
   rintro e_ w2 ⟨rfl,hb⟩
   have HB2:=hid (HB1.out.trans (Below.mono (w:=w.alloc _) hb HB1.out.size))
   clear hb CE
   rcases hcases with rfl|rfl
   ·go_wp2_with fail
    go_ret
    exact ⟨ret_bool (by first|rfl|simp),HB2.out⟩
   ·go_wp2_with fail
    go_ret
    exact ⟨ret_bool (by first|rfl|simp),HB2.out⟩
  ·have hz':(pz==0)=false:=by rw [beq_eq_false_iff_ne];exact hz
   have hz'':decide (pz=0)=false:=decide_eq_false hz
   rw [hz'']
   clear CE hz''
   go_enter Tryz.func202,Tryz.ntmps202
   go_wp2_with fail
   go_ret
   exact ⟨ret_bool (by first|rfl|simp),HB1.out⟩
 ·have hx2:noX p.x=false:=by simpa using hx
  have HX:Hid (¬((p.x.s=0∧p.x.mi=0∧p.x.h=0∧p.x.d=0∧p.x.mo=0∧p.x.w=0)∧p.x.ad=false∧p.x.aw=false)):=hid (fun h=>by
   apply hx
   unfold noX
   simp [h])
  rw [hx2]
  clear hx hx2 CE
  unfold plV at *
  go_enter Tryz.func202,Tryz.ntmps202
  go_wp2_with fail
  all_goals
   first
    | (
     go_ret
     exact ⟨ret_bool (by first|rfl|simp),(Below.refl _ w).alloc (Nat.le_refl _) _⟩)
    | exact (HX.out ⟨⟨by assumption,by assumption,by assumption,by assumption,by assumption,by assumption⟩,by first|assumption|simp_all,by first|assumption|simp_all⟩).elim
theorem Ev.Ok.lt_before{e:Ev}(h:e.Ok){j:Int}(h0:0≤j)(h1:j<e.size)(t:Int):j<e.before t↔e.s+j*e.p<t:=by
 have hp:=h.p0
 have hj:0≤j*e.p:=Int.mul_nonneg h0 (by omega)
 unfold Ev.before
 by_cases ht:t≤e.s
 ·rw [if_pos ht];omega
 ·rw [if_neg ht]
  have:=Int.le_ediv_iff_mul_le (a:=j) (b:=t - e.s - 1) (c:=e.p) (by omega)
  omega
theorem Ev.Ok.has_iff{e:Ev}(h:e.Ok){t:Int}:e.has t=true↔∃j,0≤j∧j<e.size∧t=e.s+j*e.p:=by
 have hp:=h.p0
 unfold Ev.has
 simp only [Bool.and_eq_true,decide_eq_true_eq]
 constructor
 ·rintro ⟨⟨h1,h2⟩,h3⟩
  refine ⟨(t - e.s) / e.p,Int.ediv_nonneg (by omega) (by omega),h3,?_⟩
  have:=Int.mul_ediv_add_emod (t - e.s) e.p
  rw [h2,Int.mul_comm] at this
  omega
 ·rintro ⟨j,h1,h2,rfl⟩
  have hj:0≤j*e.p:=Int.mul_nonneg h1 (by omega)
  rw [show e.s+j*e.p - e.s=j*e.p by omega,Int.mul_emod_left,Int.mul_ediv_cancel _ (by omega)]
  exact ⟨⟨by omega,rfl⟩,h2⟩
theorem Ev.Ok.before_le{e:Ev}(h:e.Ok)(t:Int):0≤e.before t∧e.before t≤e.size:=by
 have hs:=h.size.1
 have hp:=h.p0
 unfold Ev.before
 by_cases ht:t≤e.s
 ·rw [if_pos ht];omega
 ·rw [if_neg ht]
  have:0≤(t - e.s - 1) / e.p:=Int.ediv_nonneg (by omega) (by omega)
  omega
def nxP(q:Int→Bool)(t:Int):Option Int:=(tmsP q (t+1) 253402300799).head?
theorem Ev.nxV_eq{e:Ev}(h:e.Ok){t:Int}(hE:e.ofE [t]=0):e.nxV t=nxP e.has t:=by
 have hp:=h.p0
 unfold Ev.nxV nxP
 rw [if_pos hE]
 unfold Ev.at_
 obtain ⟨i,hi⟩:∃i,i=e.before (t+1):=⟨_,rfl⟩
 have hr:=h.before_le (t+1)
 have hlt:=fun j h0 h1=>h.lt_before (j:=j) h0 h1 (t+1)
 rw [←hi] at hr hlt ⊢
 by_cases hs:i<e.size
 ·rw [if_pos ⟨hr.1,hs⟩]
  refine ((head_some tmsP_inc).2 ⟨tmsP_mem.2 ⟨?_,?_,h.has_iff.2 ⟨i,hr.1,hs,rfl⟩⟩,fun m hm=>?_⟩).symm
  ·have:=hlt i hr.1 hs;omega
  ·have:=h.nth hr.1 hs;omega
  ·obtain ⟨m1,m2,m3⟩:=tmsP_mem.1 hm
   obtain ⟨j,j0,j1,rfl⟩:=h.has_iff.1 m3
   have:=hlt j j0 j1
   have hij:i≤j:=by omega
   have:=Int.mul_le_mul_of_nonneg_right hij (show 0≤e.p by omega)
   omega
 ·rw [if_neg (by omega),tmsP_nil (fun m m1 _=>?_)]
  ·rfl
  ·rw [←Bool.not_eq_true]
   intro hm
   obtain ⟨j,j0,j1,rfl⟩:=h.has_iff.1 hm
   have:=hlt j j0 j1
   omega
theorem Ev.ctV_eq{e:Ev}(h:e.Ok){a b:Int}(hE:e.ofE [a,b]=0):e.ctV a b=ctP e.has a b:=by
 have hp:=h.p0
 have ha:=h.before_le a
 have hb:=h.before_le (b+1)
 have hla:=fun j h0 h1=>h.lt_before (j:=j) h0 h1 a
 have hlb:=fun j h0 h1=>h.lt_before (j:=j) h0 h1 (b+1)
 unfold Ev.ctV ctP
 rw [if_pos hE]
 obtain ⟨i,hi⟩:∃i,i=e.before a:=⟨_,rfl⟩
 obtain ⟨k,hk⟩:∃k,k=e.before (b+1):=⟨_,rfl⟩
 rw [←hi] at ha hla ⊢
 rw [←hk] at hb hlb ⊢
 have:tmsP e.has a b=(List.range (k - i).toNat).map (fun n:Nat=>e.s+(i+n)*e.p):=by
  refine inc_ext tmsP_inc ?_ (fun t=>?_)
  ·rw [List.pairwise_map]
   refine List.pairwise_lt_range.imp (fun {x y} hxy=>?_)
   have:=Int.mul_lt_mul_of_pos_right (show i+(x:Int)<i+(y:Int) by omega) (show 0<e.p by omega)
   omega
  ·rw [tmsP_mem,h.has_iff,List.mem_map]
   constructor
   ·rintro ⟨t1,t2,j,j0,j1,rfl⟩
    have h1:=hla j j0 j1
    have h2:=hlb j j0 j1
    refine ⟨(j - i).toNat,List.mem_range.2 (by omega),?_⟩
    rw [show i+((j - i).toNat:Int)=j by omega]
   ·rintro ⟨n,hn,rfl⟩
    have hn:=List.mem_range.1 hn
    have h1:=hla (i+n) (by omega) (by omega)
    have h2:=hlb (i+n) (by omega) (by omega)
    exact ⟨by omega,by omega,i+n,by omega,by omega,rfl⟩
 rw [this,List.length_map,List.length_range]
 omega
theorem Ev.isV_eq{e:Ev}{t:Int}(hE:e.ofE [t]=0):e.isV t=e.has t:=by
 unfold Ev.isV
 rw [decide_eq_true hE,Bool.true_and]
theorem times_tmsP{x:Ex}{z a b:Int}(hz : -840≤z∧z≤840):timesL x z a b=tmsP (At x z) a b :=
 inc_ext (timesL_sorted ..) tmsP_inc (fun t=>by rw [timesL_mem hz,tmsP_mem])
theorem nxV_eq{x:Ex}{z t:Int}(h:chk x z [t]=0):nxV x z t=nxP (At x z) t:=by
 unfold nxV nxP
 rw [if_pos h,times_tmsP (chk_zero h).2.1]
theorem mem_cnt_p(p:Nat→Bool)(n:Nat):((List.range n).filter p).length=cnt p n:=by
 induction n with
 | zero=>rfl
 | succ n ih =>
  rw [List.range_succ,List.filter_append,List.length_append,ih,cnt]
  cases h:p n<;>simp [h]
theorem rest_len(x:Ex)(c hi:Nat)(h:c≤hi+1):(rest x c hi).length+cnt (T x) c=cnt (T x) (hi+1):=by
 unfold rest
 have e:List.range' c (hi+1 - c)=(List.range (hi+1 - c)).map (c+·):=by rw [List.range'_eq_map_range]
 rw [e,List.filter_map,List.length_map]
 have h1:=mem_cnt_p (fun i=>T x (c+i)) (hi+1 - c)
 have h2:=cnt_add (T x) c (hi+1 - c)
 rw [show c+(hi+1 - c)=hi+1 from by omega] at h2
 have h3:((List.range (hi+1 - c)).filter (T x ∘ fun b=>c+b)).length=cnt (fun i=>T x (c+i)) (hi+1 - c):=h1
 omega
theorem ctR_eq{x:Ex}{z a b:Int}(h:chk x z [a,b]=0):(ctR x z a b:Int)=ctP (At x z) a b:=by
 have e:ctR x z a b=(timesL x z a b).length:=by
  unfold ctR timesL
  by_cases hlt:hiI z b<loI z a
  ·rw [if_neg (fun hh=>hh.2 hlt),if_pos hlt];rfl
  ·rw [if_pos ⟨h,hlt⟩,if_neg hlt,List.length_map]
   unfold ctV
   have h0:0≤loI z a:=by unfold loI;omega
   have:=rest_len x (loI z a).toNat (hiI z b).toNat (by omega)
   omega
 rw [e,times_tmsP (chk_zero h).2.1]
 rfl
noncomputable def qK(p:Pl)(t:Int):Bool:=if p.k=1 then At p.x p.z t else if p.k=2 then p.e.has t else false
theorem timesR_one{t:Int}(h:0≤t∧t≤253402300799):timesR [t]=0:=by
 unfold timesR tOk
 rw [if_pos]
 simp;omega
theorem timesR_two{a b:Int}(h:0≤a∧a≤253402300799)(h2:0≤b∧b≤253402300799):timesR [a,b]=0:=by
 unfold timesR tOk
 rw [if_pos]
 simp;omega
def plK(p:Pl):Bool:=if p.k=0 then decide (p.n=0)&&noE p.e&&noX p.x&&decide (p.z=0) else if p.k=1 then noE p.e&&decide (ckR p.x=0)&&decide (zoneR p.z=0) else if p.k=2 then noX p.x&&decide (p.z=0)&&decide (p.e.err=0) else false
def plE(p:Pl)(l:List (Int × Int)):Int:=if plK p&&decide (spE l=0) then 0 else 16
def finE(p:Pl)(l:List (Int × Int))(ts:List Int):Int:=if plE p l=0 then timesR ts else 16
def zeroK:Array Value:=#[.nilFunc,.nilFunc,.nilFunc,.nilFunc]
def finV(p:Pl)(l:List (Int × Int))(ts:List Int):Array Value:=if finE p l ts=0 then kdV p.k else zeroK
theorem ints_below{w w':World}{a:Option Addr}{xs:List Int}(h:IntsAt w a xs)(hb:Below w.heap.size w w'):IntsAt w' a xs:=fun k hk=>by
 obtain ⟨b,off,e,hc⟩:=h k hk
 exact ⟨b,off,e,(hb.cell (p:=⟨b,off+k,none⟩) (World.block_lt_of_cell? w _ hc)).trans hc⟩
theorem find2(p:Pl)(h2:p.k=2)(_:U64s p.x)(l:List (Int × Int))(hn:l.length=p.n)(hn9:p.n<9223372036854775807)(ts:List Int)(ga:Option Addr)(n c:Nat)(hts:ts.length=n)(hts9:n≤9)(w:World)(_:SpTab w)(hl:SpansAt w p.a l)(hc:IntsAt w ga ts)(V:Array Value)(hV0:finV p l ts=V)(E:Int)(hE0:finE p l ts=E) :
 Calls Tryz.prog 177 #[.agg (plV p),.slice ga n c] w fun r w'=>r=.returned (.tuple #[.agg V,.int .i64 E])∧Below w.heap.size w w':=by
 obtain ⟨W1,hW1⟩:∃W1,W1=(w.alloc (.cells (plV p) 49)).alloc (.cells zeroK 231):=⟨_,rfl⟩
 have hbx:Blk W1 w.heap.size 49 (plV p):=by rw [hW1];exact (Blk.new w _ _).alloc _
 have hrs:Blk W1 (w.heap.size+1) 231 zeroK:=by rw [hW1];exact Blk.newAt (by simp)
 have hB1:Below w.heap.size w W1:=by rw [hW1];exact ((Below.refl _ w).alloc (Nat.le_refl _) _).alloc (by simp) _
 have LK:=hid (fun w m hb=>kd_lookup w m p.k hb)
 have CK:=hid (fun w=>kinds_ok w)
 have HW1:=hid hW1
 have HSZ:=hid (show W1.heap.size=w.heap.size+2 by rw [hW1];simp)
 have HK2:=hid h2
 have HV0:=hid hV0
 have HE0:=hid hE0
 clear hW1 h2 hV0 hE0
 unfold plV zeroK at *
 have k0:W1.cell? ⟨w.heap.size,0,none⟩=some (.int .i64 p.k):=hbx.cell 0
 have hV:kdV p.k=kd2:=by unfold kdV;rw [if_neg (by have:=HK2.out;omega),if_neg (by have:=HK2.out;omega),if_pos HK2.out]
 have hH:kdH p.k=true:=by unfold kdH;exact decide_eq_true (by have:=HK2.out;omega)
 rw [hV,hH] at LK
 have LKa:(Instr.lookup 240 (.map (some W1.heap.size)) (.int .i64 p.k) true).run Tryz.prog (W1.alloc kdM)=.ok (.tuple #[.agg kd2,.bool true]) (W1.alloc kdM):=LK.out _ _ (heap_alloc_new W1 _)
 have LKd:(Instr.lookup 240 (.map (some W1.heap.size)) (.int .i64 p.k) true).run Tryz.prog (W1.alloc kdM).drew=.ok (.tuple #[.agg kd2,.bool true]) (W1.alloc kdM).drew:=LK.out _ _ (heap_alloc_new W1 _)
 have LKe:(Instr.lookup 240 (.map (some W1.heap.size)) (.int .i64 p.k) true).run Tryz.prog ((W1.alloc kdM).alloc (.cells #[.nilFunc,.nilFunc,.nilFunc,.nilFunc] 231))=.ok (.tuple #[.agg kd2,.bool true]) ((W1.alloc kdM).alloc (.cells #[.nilFunc,.nilFunc,.nilFunc,.nilFunc] 231)):=LK.out _ _ (by rw [Below.heap_alloc _ _ _ (by simp)];exact heap_alloc_new W1 _)
 have LKf:(Instr.lookup 240 (.map (some W1.heap.size)) (.int .i64 p.k) true).run Tryz.prog ((W1.alloc kdM).alloc (.cells #[.nilFunc,.nilFunc,.nilFunc,.nilFunc] 231)).drew=.ok (.tuple #[.agg kd2,.bool true]) ((W1.alloc kdM).alloc (.cells #[.nilFunc,.nilFunc,.nilFunc,.nilFunc] 231)).drew:=LK.out _ _ (show ((W1.alloc kdM).alloc (.cells #[.nilFunc,.nilFunc,.nilFunc,.nilFunc] 231)).heap[W1.heap.size]? = some kdM from by rw [Below.heap_alloc _ _ _ (by simp)];exact heap_alloc_new W1 _)
 have LKg:(Instr.lookup 240 (.map (some (W1.heap.size+1))) (.int .i64 p.k) true).run Tryz.prog ((W1.alloc (.cells #[.nilFunc,.nilFunc,.nilFunc,.nilFunc] 231)).alloc kdM)=.ok (.tuple #[.agg kd2,.bool true]) ((W1.alloc (.cells #[.nilFunc,.nilFunc,.nilFunc,.nilFunc] 231)).alloc kdM):=LK.out _ _ (show ((W1.alloc (.cells #[.nilFunc,.nilFunc,.nilFunc,.nilFunc] 231)).alloc kdM).heap[W1.heap.size+1]? = some kdM from by have h:=heap_alloc_new (W1.alloc (.cells #[.nilFunc,.nilFunc,.nilFunc,.nilFunc] 231)) kdM;simpa using h)
 have LKh:(Instr.lookup 240 (.map (some (W1.heap.size+1))) (.int .i64 p.k) true).run Tryz.prog ((W1.alloc (.cells #[.nilFunc,.nilFunc,.nilFunc,.nilFunc] 231)).alloc kdM).drew=.ok (.tuple #[.agg kd2,.bool true]) ((W1.alloc (.cells #[.nilFunc,.nilFunc,.nilFunc,.nilFunc] 231)).alloc kdM).drew:=LK.out _ _ (show ((W1.alloc (.cells #[.nilFunc,.nilFunc,.nilFunc,.nilFunc] 231)).alloc kdM).heap[W1.heap.size+1]? = some kdM from by have h:=heap_alloc_new (W1.alloc (.cells #[.nilFunc,.nilFunc,.nilFunc,.nilFunc] 231)) kdM;simpa using h)
 unfold kd2 at LKd LKa LKe LKf LKg LKh
 clear LK hV hH
 have HW3:Hid (∀(W3:World) (q:Nat),(W3=((W1.alloc kdM).alloc (.cells kd2 231)).drew∧q=W1.heap.size+1)∨(W3=((W1.alloc (.cells kd2 231)).alloc kdM).drew∧q=W1.heap.size)→Blk W3 q 231 kd2∧Below W1.heap.size W1 W3):=hid (by
  rintro W3 q (⟨rfl,rfl⟩|⟨rfl,rfl⟩)
  ·exact ⟨Blk.newAt (by simp),below_drewN (((Below.refl _ W1).alloc (Nat.le_refl _) _).alloc (by simp) _) 1⟩
  ·exact ⟨(Blk.new W1 231 kd2).alloc kdM,below_drewN (((Below.refl _ W1).alloc (Nat.le_refl _) _).alloc (by simp) _) 1⟩)
 unfold kd2 at HW3
 go_enter Tryz.func177,Tryz.ntmps177
 go_upto_region 1 with fail
 go_cut [6,7] from 10 to 16 (fun s6 s7 wx=>∃q:Nat,W1.heap.size≤q∧s6=.pointer (some ⟨q,0,none⟩)∧s7=.bool true∧Blk wx q 231 kd2∧Below W1.heap.size W1 wx)
 case first =>
  rw [←HW1.out]
  go_region_held3 (fun w'=>w'.cell? ⟨w.heap.size,0,none⟩=some (.int .i64 p.k)) (go_keep) ((go_at_call 186;refine (CK.out _).mono ?_;rintro _ _ ⟨rfl,rfl⟩))
  all_goals
   go_wp2_with fail
   go_meet
   first
    | exact ⟨_,by omega,rfl,rfl,HW3.out _ _ (.inl ⟨rfl,rfl⟩)⟩
    | exact ⟨_,by omega,rfl,rfl,HW3.out _ _ (.inr ⟨rfl,rfl⟩)⟩
 case rest =>
  obtain ⟨q,hq,rfl,rfl,hbq,hbl⟩:=hcut
  have HQ:=hid hbq
  have HB:=hid (hB1.trans (hbl.mono hB1.size))
  have hxc:=hbx.below hbl hbx.lt
  have HX:=hid hxc
  have HR:=hid (hrs.below hbl hrs.lt)
  have fn0:wc.cell? ⟨q,0,none⟩=some (.func (.func 202) #[] #[]):=hbq.cell 0
  have c0:wc.cell? ⟨w.heap.size,0,none⟩=some (.int .i64 p.k):=hxc.cell 0
  have c1:wc.cell? ⟨w.heap.size,1,none⟩=some (.int .u64 p.x.s):=hxc.cell 1
  have c2:wc.cell? ⟨w.heap.size,2,none⟩=some (.int .u64 p.x.mi):=hxc.cell 2
  have c3:wc.cell? ⟨w.heap.size,3,none⟩=some (.int .u64 p.x.h):=hxc.cell 3
  have c4:wc.cell? ⟨w.heap.size,4,none⟩=some (.int .u64 p.x.d):=hxc.cell 4
  have c5:wc.cell? ⟨w.heap.size,5,none⟩=some (.int .u64 p.x.mo):=hxc.cell 5
  have c6:wc.cell? ⟨w.heap.size,6,none⟩=some (.int .u64 p.x.w):=hxc.cell 6
  have c7:wc.cell? ⟨w.heap.size,7,none⟩=some (.bool p.x.ad):=hxc.cell 7
  have c8:wc.cell? ⟨w.heap.size,8,none⟩=some (.bool p.x.aw):=hxc.cell 8
  have c9:wc.cell? ⟨w.heap.size,9,none⟩=some (.int .i64 p.z):=hxc.cell 9
  have c10:wc.cell? ⟨w.heap.size,10,none⟩=some (.int .i64 p.e.s):=hxc.cell 10
  have c11:wc.cell? ⟨w.heap.size,11,none⟩=some (.int .i64 p.e.p):=hxc.cell 11
  have c12:wc.cell? ⟨w.heap.size,12,none⟩=some (.int .i64 p.e.c):=hxc.cell 12
  have c13:wc.cell? ⟨w.heap.size,13,none⟩=some (.slice p.a p.n p.c):=hxc.cell 13
  have C9:=hid (kind9_ok p wc)
  have CB:=hid (fun w h=>bcheck_ok l p.a p.n p.c hn (by omega) w h)
  have HL:=hid (hl.below HB.out)
  have hq2:w.heap.size+1<q:=by have:=HSZ.out;omega
  have HPK:Hid (plK p=(noX p.x&&decide (p.z=0)&&decide (p.e.err=0))):=hid (by unfold plK;rw [if_neg (by have:=HK2.out;omega),if_neg (by have:=HK2.out;omega),if_pos HK2.out])
  have HKV:Hid (kdV p.k=kd2):=hid (by unfold kdV;rw [if_neg (by have:=HK2.out;omega),if_neg (by have:=HK2.out;omega),if_pos HK2.out])
  have HFE:Hid (finE p l ts=if plK p&&decide (spE l=0) then timesR ts else 16):=hid (by
   unfold finE plE
   cases plK p&&decide (spE l=0)<;>rfl)
  have HFV:Hid (finV p l ts=if finE p l ts=0 then kd2 else #[.nilFunc,.nilFunc,.nilFunc,.nilFunc]):=hid (by unfold finV zeroK;rw [HKV.out])
  rw [HE0.out] at HFV HFE
  rw [HV0.out] at HFV
  clear HE0 HV0
  rw [←HPK.out] at C9
  obtain ⟨kk,hkk⟩:∃kk,plK p=kk:=⟨_,rfl⟩
  rw [hkk] at C9 HFE
  unfold plV at C9
  clear hbx hrs hB1 hbl hxc hbq HPK HKV hkk LKa LKd LKe LKf LKg LKh CK HW3 k0
  cases kk
  ·have HE:Hid (E=16):=hid (by rw [HFE.out];rfl)
   have HV:Hid (V=#[.nilFunc,.nilFunc,.nilFunc,.nilFunc]):=hid (by rw [HFV.out,HE.out];rfl)
   go_wp2_with fail
   refine (C9.out).mono ?_
   rintro e_ w3 ⟨rfl,hb⟩
   have HR3:=hid (HR.out.below hb HR.out.lt)
   have HB3:=hid (HB.out.trans (hb.mono HB.out.size))
   clear c0 c1 c2 c3 c4 c5 c6 c7 c8 c9 c10 c11 c12 c13 fn0 hb
   have d0:w3.cell? ⟨w.heap.size+1,0,none⟩=some .nilFunc:=HR3.out.cell 0
   have f0:w3.frozen? ⟨w.heap.size+1,0,none⟩=false:=HR3.out.frozen 0
   have d1:w3.cell? ⟨w.heap.size+1,1,none⟩=some .nilFunc:=HR3.out.cell 1
   have f1:w3.frozen? ⟨w.heap.size+1,1,none⟩=false:=HR3.out.frozen 1
   have d2:w3.cell? ⟨w.heap.size+1,2,none⟩=some .nilFunc:=HR3.out.cell 2
   have f2:w3.frozen? ⟨w.heap.size+1,2,none⟩=false:=HR3.out.frozen 2
   have d3:w3.cell? ⟨w.heap.size+1,3,none⟩=some .nilFunc:=HR3.out.cell 3
   have f3:w3.frozen? ⟨w.heap.size+1,3,none⟩=false:=HR3.out.frozen 3
   go_wp2_with fail
   refine bodyPost_ret (results_row_tmp rfl _ _ (w.heap.size+1) 231 _ (0,0) _ rfl (BW.Blk.four HR3.out _ _ _ _) Tryz.underlying231 rfl (by kernel_rfl)) rfl ?_
   exact ⟨ret_row HV.out.symm HE.out.symm,below_four HB3.out (by omega) _ _ _ _⟩
  ·go_wp2_with fail
   refine (C9.out).mono ?_
   rintro e_ w3 ⟨rfl,hb⟩
   have HR3:=hid (HR.out.below hb HR.out.lt)
   have HB3:=hid (HB.out.trans (hb.mono HB.out.size))
   have HX3:=hid (HX.out.below hb HX.out.lt)
   have HQ3:=hid (HQ.out.below hb HQ.out.lt)
   have HL3:=hid (HL.out.below hb)
   clear c0 c1 c2 c3 c4 c5 c6 c7 c8 c9 c10 c11 c12 c13 fn0 hb HR HB HX HQ HL C9
   have c13:w3.cell? ⟨w.heap.size,13,none⟩=some (.slice p.a p.n p.c):=HX3.out.cell 13
   go_wp2_with fail
   refine (CB.out _ HL3.out).mono ?_
   rintro e_ w4 ⟨rfl,hb⟩
   have HR4:=hid (HR3.out.below hb HR3.out.lt)
   have HB4:=hid (HB3.out.trans (hb.mono HB3.out.size))
   have HQ4:=hid (HQ3.out.below hb HQ3.out.lt)
   clear c13 hb HR3 HB3 HX3 HQ3 HL3 CB
   have d0:w4.cell? ⟨w.heap.size+1,0,none⟩=some .nilFunc:=HR4.out.cell 0
   have f0:w4.frozen? ⟨w.heap.size+1,0,none⟩=false:=HR4.out.frozen 0
   have d1:w4.cell? ⟨w.heap.size+1,1,none⟩=some .nilFunc:=HR4.out.cell 1
   have f1:w4.frozen? ⟨w.heap.size+1,1,none⟩=false:=HR4.out.frozen 1
   have d2:w4.cell? ⟨w.heap.size+1,2,none⟩=some .nilFunc:=HR4.out.cell 2
   have f2:w4.frozen? ⟨w.heap.size+1,2,none⟩=false:=HR4.out.frozen 2
   have d3:w4.cell? ⟨w.heap.size+1,3,none⟩=some .nilFunc:=HR4.out.cell 3
   have f3:w4.frozen? ⟨w.heap.size+1,3,none⟩=false:=HR4.out.frozen 3
   by_cases hs:spE l=0
   ·have HE:Hid (E=timesR ts):=hid (by rw [HFE.out,hs];rfl)
    have HC4:Hid (IntsAt w4 ga ts):=hid (ints_below hc HB4.out)
    have HN:=hid hts
    have g0:w4.cell? ⟨q,0,none⟩=some (.func (.func 202) #[] #[]):=HQ4.out.cell 0
    have g1:w4.cell? ⟨q,1,none⟩=some (.func (.func 204) #[] #[]):=HQ4.out.cell 1
    have g2:w4.cell? ⟨q,2,none⟩=some (.func (.func 206) #[] #[]):=HQ4.out.cell 2
    have g3:w4.cell? ⟨q,3,none⟩=some (.func (.func 208) #[] #[]):=HQ4.out.cell 3
    clear HFE hc hts
    go_wp2_with fail
    go_loop [9,35] (fun _ s=>∃k:Nat,k≤n∧s=.int .i64 k∧∀i (hi:i<ts.length),i<k→tOk ts[i]=true) (fun _ s=>n - intM s)
    case atStart=>exact ⟨0,by omega,rfl,fun i _ hi=>absurd hi (Nat.not_lt_zero _)⟩
    case round =>
     obtain ⟨k,hk,rfl,hok2⟩:=hrel
     have HO:=hid hok2
     clear hok2
     have hts:=HN.out
     rcases Nat.lt_or_ge k n with hlt|hge
     ·have hlt':k<ts.length:=by omega
      obtain ⟨gb,go,rfl,hck⟩:=HC4.out k hlt'
      have HF:=hid (show ∀b,tOk ts[k]=b→(b=false→timesR ts=14)∧(b=true→∀i (hi:i<ts.length),i<k+1→tOk ts[i]=true) from fun b hb=>⟨fun h=>timesR_bad hlt' (by rw [hb,h]),fun h i hi h2=>by
       rcases Nat.lt_or_ge i k with h3|h3
       ·exact HO.out i hi h3
       ·obtain rfl:i=k:=by omega
        rw [hb,h]⟩)
      generalize ts[k]=t at *
      by_cases h0:t<0
      ·have HT:=hid ((HF.out false (by unfold tOk;rw [decide_eq_false (by omega)];rfl)).1 rfl)
       have HE':Hid (E=14):=hid (HE.out.trans HT.out)
       have HV':Hid (V=#[.nilFunc,.nilFunc,.nilFunc,.nilFunc]):=hid (by rw [HFV.out,HE'.out];rfl)
       clear HF
       go_wp2_with fail
       refine bodyPost_ret (results_row_tmp rfl _ _ (w.heap.size+1) 231 _ (0,0) _ rfl (BW.Blk.four HR4.out _ _ _ _) Tryz.underlying231 rfl (by kernel_rfl)) rfl ?_
       exact ⟨ret_row HV'.out.symm HE'.out.symm,below_four HB4.out (by omega) _ _ _ _⟩
      ·by_cases h1:253402300799<t
       ·have HT:=hid ((HF.out false (by unfold tOk;rw [decide_eq_false (p:=t≤_) (by omega)];simp)).1 rfl)
        have HE':Hid (E=14):=hid (HE.out.trans HT.out)
        have HV':Hid (V=#[.nilFunc,.nilFunc,.nilFunc,.nilFunc]):=hid (by rw [HFV.out,HE'.out];rfl)
        clear HF
        go_wp2_with fail
        refine bodyPost_ret (results_row_tmp rfl _ _ (w.heap.size+1) 231 _ (0,0) _ rfl (BW.Blk.four HR4.out _ _ _ _) Tryz.underlying231 rfl (by kernel_rfl)) rfl ?_
        exact ⟨ret_row HV'.out.symm HE'.out.symm,below_four HB4.out (by omega) _ _ _ _⟩
       ·have HT:=hid ((HF.out true (by unfold tOk;rw [decide_eq_true (by omega),decide_eq_true (by omega)];rfl)).2 rfl)
        clear HF
        go_wp2_with fail
        go_round
        case rel=>exact ⟨k+1,by omega,by go_num,HT.out⟩
        case measure=>simp [intM];omega
     ·obtain rfl:n=k:=by omega
      have HT:=hid (timesR_ok (ts:=ts) (fun i hi=>HO.out i hi (by omega)))
      have HE':Hid (E=0):=hid (HE.out.trans HT.out)
      have HV':Hid (V=kd2):=hid (by rw [HFV.out,HE'.out];rfl)
      unfold kd2 at HV'
      go_wp2_with fail
      refine bodyPost_ret (results_row_tmp rfl _ _ (w.heap.size+1) 231 _ (0,0) _ rfl (BW.Blk.four HR4.out _ _ _ _) Tryz.underlying231 rfl (by kernel_rfl)) rfl ?_
      exact ⟨ret_row HV'.out.symm HE'.out.symm,below_four HB4.out (by omega) _ _ _ _⟩
   ·have HE:Hid (E=16):=hid (by rw [HFE.out,decide_eq_false hs];rfl)
    have HV:Hid (V=#[.nilFunc,.nilFunc,.nilFunc,.nilFunc]):=hid (by rw [HFV.out,HE.out];rfl)
    have hne:(spE l==0)=false:=by rw [beq_eq_false_iff_ne];exact hs
    have hne':(spE l != 0)=true:=by rw [bne,hne];rfl
    generalize spE l=sp at *
    clear hs HFE
    go_wp2_with fail
    refine bodyPost_ret (results_row_tmp rfl _ _ (w.heap.size+1) 231 _ (0,0) _ rfl (BW.Blk.four HR4.out _ _ _ _) Tryz.underlying231 rfl (by kernel_rfl)) rfl ?_
    exact ⟨ret_row HV.out.symm HE.out.symm,below_four HB4.out (by omega) _ _ _ _⟩
theorem find0(p:Pl)(h2:p.k=0)(_:U64s p.x)(l:List (Int × Int))(hn:l.length=p.n)(hn9:p.n<9223372036854775807)(ts:List Int)(ga:Option Addr)(n c:Nat)(hts:ts.length=n)(hts9:n≤9)(w:World)(_:SpTab w)(hl:SpansAt w p.a l)(hc:IntsAt w ga ts)(V:Array Value)(hV0:finV p l ts=V)(E:Int)(hE0:finE p l ts=E) :
 Calls Tryz.prog 177 #[.agg (plV p),.slice ga n c] w fun r w'=>r=.returned (.tuple #[.agg V,.int .i64 E])∧Below w.heap.size w w':=by
 obtain ⟨W1,hW1⟩:∃W1,W1=(w.alloc (.cells (plV p) 49)).alloc (.cells zeroK 231):=⟨_,rfl⟩
 have hbx:Blk W1 w.heap.size 49 (plV p):=by rw [hW1];exact (Blk.new w _ _).alloc _
 have hrs:Blk W1 (w.heap.size+1) 231 zeroK:=by rw [hW1];exact Blk.newAt (by simp)
 have hB1:Below w.heap.size w W1:=by rw [hW1];exact ((Below.refl _ w).alloc (Nat.le_refl _) _).alloc (by simp) _
 have LK:=hid (fun w m hb=>kd_lookup w m p.k hb)
 have CK:=hid (fun w=>kinds_ok w)
 have HW1:=hid hW1
 have HSZ:=hid (show W1.heap.size=w.heap.size+2 by rw [hW1];simp)
 have HK2:=hid h2
 have HV0:=hid hV0
 have HE0:=hid hE0
 clear hW1 h2 hV0 hE0
 unfold plV zeroK at *
 have k0:W1.cell? ⟨w.heap.size,0,none⟩=some (.int .i64 p.k):=hbx.cell 0
 have hV:kdV p.k=kd0:=by unfold kdV;rw [if_pos HK2.out]
 have hH:kdH p.k=true:=by unfold kdH;exact decide_eq_true (by have:=HK2.out;omega)
 rw [hV,hH] at LK
 have LKa:(Instr.lookup 240 (.map (some W1.heap.size)) (.int .i64 p.k) true).run Tryz.prog (W1.alloc kdM)=.ok (.tuple #[.agg kd0,.bool true]) (W1.alloc kdM):=LK.out _ _ (heap_alloc_new W1 _)
 have LKd:(Instr.lookup 240 (.map (some W1.heap.size)) (.int .i64 p.k) true).run Tryz.prog (W1.alloc kdM).drew=.ok (.tuple #[.agg kd0,.bool true]) (W1.alloc kdM).drew:=LK.out _ _ (heap_alloc_new W1 _)
 have LKe:(Instr.lookup 240 (.map (some W1.heap.size)) (.int .i64 p.k) true).run Tryz.prog ((W1.alloc kdM).alloc (.cells #[.nilFunc,.nilFunc,.nilFunc,.nilFunc] 231))=.ok (.tuple #[.agg kd0,.bool true]) ((W1.alloc kdM).alloc (.cells #[.nilFunc,.nilFunc,.nilFunc,.nilFunc] 231)):=LK.out _ _ (by rw [Below.heap_alloc _ _ _ (by simp)];exact heap_alloc_new W1 _)
 have LKf:(Instr.lookup 240 (.map (some W1.heap.size)) (.int .i64 p.k) true).run Tryz.prog ((W1.alloc kdM).alloc (.cells #[.nilFunc,.nilFunc,.nilFunc,.nilFunc] 231)).drew=.ok (.tuple #[.agg kd0,.bool true]) ((W1.alloc kdM).alloc (.cells #[.nilFunc,.nilFunc,.nilFunc,.nilFunc] 231)).drew:=LK.out _ _ (show ((W1.alloc kdM).alloc (.cells #[.nilFunc,.nilFunc,.nilFunc,.nilFunc] 231)).heap[W1.heap.size]? = some kdM from by rw [Below.heap_alloc _ _ _ (by simp)];exact heap_alloc_new W1 _)
 have LKg:(Instr.lookup 240 (.map (some (W1.heap.size+1))) (.int .i64 p.k) true).run Tryz.prog ((W1.alloc (.cells #[.nilFunc,.nilFunc,.nilFunc,.nilFunc] 231)).alloc kdM)=.ok (.tuple #[.agg kd0,.bool true]) ((W1.alloc (.cells #[.nilFunc,.nilFunc,.nilFunc,.nilFunc] 231)).alloc kdM):=LK.out _ _ (show ((W1.alloc (.cells #[.nilFunc,.nilFunc,.nilFunc,.nilFunc] 231)).alloc kdM).heap[W1.heap.size+1]? = some kdM from by have h:=heap_alloc_new (W1.alloc (.cells #[.nilFunc,.nilFunc,.nilFunc,.nilFunc] 231)) kdM;simpa using h)
 have LKh:(Instr.lookup 240 (.map (some (W1.heap.size+1))) (.int .i64 p.k) true).run Tryz.prog ((W1.alloc (.cells #[.nilFunc,.nilFunc,.nilFunc,.nilFunc] 231)).alloc kdM).drew=.ok (.tuple #[.agg kd0,.bool true]) ((W1.alloc (.cells #[.nilFunc,.nilFunc,.nilFunc,.nilFunc] 231)).alloc kdM).drew:=LK.out _ _ (show ((W1.alloc (.cells #[.nilFunc,.nilFunc,.nilFunc,.nilFunc] 231)).alloc kdM).heap[W1.heap.size+1]? = some kdM from by have h:=heap_alloc_new (W1.alloc (.cells #[.nilFunc,.nilFunc,.nilFunc,.nilFunc] 231)) kdM;simpa using h)
 unfold kd0 at LKd LKa LKe LKf LKg LKh
 clear LK hV hH
 have HW3:Hid (∀(W3:World) (q:Nat),(W3=((W1.alloc kdM).alloc (.cells kd0 231)).drew∧q=W1.heap.size+1)∨(W3=((W1.alloc (.cells kd0 231)).alloc kdM).drew∧q=W1.heap.size)→Blk W3 q 231 kd0∧Below W1.heap.size W1 W3):=hid (by
  rintro W3 q (⟨rfl,rfl⟩|⟨rfl,rfl⟩)
  ·exact ⟨Blk.newAt (by simp),below_drewN (((Below.refl _ W1).alloc (Nat.le_refl _) _).alloc (by simp) _) 1⟩
  ·exact ⟨(Blk.new W1 231 kd0).alloc kdM,below_drewN (((Below.refl _ W1).alloc (Nat.le_refl _) _).alloc (by simp) _) 1⟩)
 unfold kd0 at HW3
 go_enter Tryz.func177,Tryz.ntmps177
 go_upto_region 1 with fail
 go_cut [6,7] from 10 to 16 (fun s6 s7 wx=>∃q:Nat,W1.heap.size≤q∧s6=.pointer (some ⟨q,0,none⟩)∧s7=.bool true∧Blk wx q 231 kd0∧Below W1.heap.size W1 wx)
 case first =>
  rw [←HW1.out]
  go_region_held3 (fun w'=>w'.cell? ⟨w.heap.size,0,none⟩=some (.int .i64 p.k)) (go_keep) ((go_at_call 186;refine (CK.out _).mono ?_;rintro _ _ ⟨rfl,rfl⟩))
  all_goals
   go_wp2_with fail
   go_meet
   first
    | exact ⟨_,by omega,rfl,rfl,HW3.out _ _ (.inl ⟨rfl,rfl⟩)⟩
    | exact ⟨_,by omega,rfl,rfl,HW3.out _ _ (.inr ⟨rfl,rfl⟩)⟩
 case rest =>
  obtain ⟨q,hq,rfl,rfl,hbq,hbl⟩:=hcut
  have HQ:=hid hbq
  have HB:=hid (hB1.trans (hbl.mono hB1.size))
  have hxc:=hbx.below hbl hbx.lt
  have HX:=hid hxc
  have HR:=hid (hrs.below hbl hrs.lt)
  have fn0:wc.cell? ⟨q,0,none⟩=some (.func (.func 189) #[] #[]):=hbq.cell 0
  have c0:wc.cell? ⟨w.heap.size,0,none⟩=some (.int .i64 p.k):=hxc.cell 0
  have c1:wc.cell? ⟨w.heap.size,1,none⟩=some (.int .u64 p.x.s):=hxc.cell 1
  have c2:wc.cell? ⟨w.heap.size,2,none⟩=some (.int .u64 p.x.mi):=hxc.cell 2
  have c3:wc.cell? ⟨w.heap.size,3,none⟩=some (.int .u64 p.x.h):=hxc.cell 3
  have c4:wc.cell? ⟨w.heap.size,4,none⟩=some (.int .u64 p.x.d):=hxc.cell 4
  have c5:wc.cell? ⟨w.heap.size,5,none⟩=some (.int .u64 p.x.mo):=hxc.cell 5
  have c6:wc.cell? ⟨w.heap.size,6,none⟩=some (.int .u64 p.x.w):=hxc.cell 6
  have c7:wc.cell? ⟨w.heap.size,7,none⟩=some (.bool p.x.ad):=hxc.cell 7
  have c8:wc.cell? ⟨w.heap.size,8,none⟩=some (.bool p.x.aw):=hxc.cell 8
  have c9:wc.cell? ⟨w.heap.size,9,none⟩=some (.int .i64 p.z):=hxc.cell 9
  have c10:wc.cell? ⟨w.heap.size,10,none⟩=some (.int .i64 p.e.s):=hxc.cell 10
  have c11:wc.cell? ⟨w.heap.size,11,none⟩=some (.int .i64 p.e.p):=hxc.cell 11
  have c12:wc.cell? ⟨w.heap.size,12,none⟩=some (.int .i64 p.e.c):=hxc.cell 12
  have c13:wc.cell? ⟨w.heap.size,13,none⟩=some (.slice p.a p.n p.c):=hxc.cell 13
  have C9:=hid (kind1_ok p wc)
  have CB:=hid (fun w h=>bcheck_ok l p.a p.n p.c hn (by omega) w h)
  have HL:=hid (hl.below HB.out)
  have hq2:w.heap.size+1<q:=by have:=HSZ.out;omega
  have HPK:Hid (plK p=(decide (p.n=0)&&noE p.e&&noX p.x&&decide (p.z=0))):=hid (by unfold plK;rw [if_pos HK2.out])
  have HKV:Hid (kdV p.k=kd0):=hid (by unfold kdV;rw [if_pos HK2.out])
  have HFE:Hid (finE p l ts=if plK p&&decide (spE l=0) then timesR ts else 16):=hid (by
   unfold finE plE
   cases plK p&&decide (spE l=0)<;>rfl)
  have HFV:Hid (finV p l ts=if finE p l ts=0 then kd0 else #[.nilFunc,.nilFunc,.nilFunc,.nilFunc]):=hid (by unfold finV zeroK;rw [HKV.out])
  rw [HE0.out] at HFV HFE
  rw [HV0.out] at HFV
  clear HE0 HV0
  rw [←HPK.out] at C9
  obtain ⟨kk,hkk⟩:∃kk,plK p=kk:=⟨_,rfl⟩
  rw [hkk] at C9 HFE
  unfold plV at C9
  clear hbx hrs hB1 hbl hxc hbq HPK HKV hkk LKa LKd LKe LKf LKg LKh CK HW3 k0
  cases kk
  ·have HE:Hid (E=16):=hid (by rw [HFE.out];rfl)
   have HV:Hid (V=#[.nilFunc,.nilFunc,.nilFunc,.nilFunc]):=hid (by rw [HFV.out,HE.out];rfl)
   go_wp2_with fail
   refine (C9.out).mono ?_
   rintro e_ w3 ⟨rfl,hb⟩
   have HR3:=hid (HR.out.below hb HR.out.lt)
   have HB3:=hid (HB.out.trans (hb.mono HB.out.size))
   clear c0 c1 c2 c3 c4 c5 c6 c7 c8 c9 c10 c11 c12 c13 fn0 hb
   have d0:w3.cell? ⟨w.heap.size+1,0,none⟩=some .nilFunc:=HR3.out.cell 0
   have f0:w3.frozen? ⟨w.heap.size+1,0,none⟩=false:=HR3.out.frozen 0
   have d1:w3.cell? ⟨w.heap.size+1,1,none⟩=some .nilFunc:=HR3.out.cell 1
   have f1:w3.frozen? ⟨w.heap.size+1,1,none⟩=false:=HR3.out.frozen 1
   have d2:w3.cell? ⟨w.heap.size+1,2,none⟩=some .nilFunc:=HR3.out.cell 2
   have f2:w3.frozen? ⟨w.heap.size+1,2,none⟩=false:=HR3.out.frozen 2
   have d3:w3.cell? ⟨w.heap.size+1,3,none⟩=some .nilFunc:=HR3.out.cell 3
   have f3:w3.frozen? ⟨w.heap.size+1,3,none⟩=false:=HR3.out.frozen 3
   go_wp2_with fail
   refine bodyPost_ret (results_row_tmp rfl _ _ (w.heap.size+1) 231 _ (0,0) _ rfl (BW.Blk.four HR3.out _ _ _ _) Tryz.underlying231 rfl (by kernel_rfl)) rfl ?_
   exact ⟨ret_row HV.out.symm HE.out.symm,below_four HB3.out (by omega) _ _ _ _⟩
  ·go_wp2_with fail
   refine (C9.out).mono ?_
   rintro e_ w3 ⟨rfl,hb⟩
   have HR3:=hid (HR.out.below hb HR.out.lt)
   have HB3:=hid (HB.out.trans (hb.mono HB.out.size))
   have HX3:=hid (HX.out.below hb HX.out.lt)
   have HQ3:=hid (HQ.out.below hb HQ.out.lt)
   have HL3:=hid (HL.out.below hb)
   clear c0 c1 c2 c3 c4 c5 c6 c7 c8 c9 c10 c11 c12 c13 fn0 hb HR HB HX HQ HL C9
   have c13:w3.cell? ⟨w.heap.size,13,none⟩=some (.slice p.a p.n p.c):=HX3.out.cell 13
   go_wp2_with fail
   refine (CB.out _ HL3.out).mono ?_
   rintro e_ w4 ⟨rfl,hb⟩
   have HR4:=hid (HR3.out.below hb HR3.out.lt)
   have HB4:=hid (HB3.out.trans (hb.mono HB3.out.size))
   have HQ4:=hid (HQ3.out.below hb HQ3.out.lt)
   clear c13 hb HR3 HB3 HX3 HQ3 HL3 CB
   have d0:w4.cell? ⟨w.heap.size+1,0,none⟩=some .nilFunc:=HR4.out.cell 0
   have f0:w4.frozen? ⟨w.heap.size+1,0,none⟩=false:=HR4.out.frozen 0
   have d1:w4.cell? ⟨w.heap.size+1,1,none⟩=some .nilFunc:=HR4.out.cell 1
   have f1:w4.frozen? ⟨w.heap.size+1,1,none⟩=false:=HR4.out.frozen 1
   have d2:w4.cell? ⟨w.heap.size+1,2,none⟩=some .nilFunc:=HR4.out.cell 2
   have f2:w4.frozen? ⟨w.heap.size+1,2,none⟩=false:=HR4.out.frozen 2
   have d3:w4.cell? ⟨w.heap.size+1,3,none⟩=some .nilFunc:=HR4.out.cell 3
   have f3:w4.frozen? ⟨w.heap.size+1,3,none⟩=false:=HR4.out.frozen 3
   by_cases hs:spE l=0
   ·have HE:Hid (E=timesR ts):=hid (by rw [HFE.out,hs];rfl)
    have HC4:Hid (IntsAt w4 ga ts):=hid (ints_below hc HB4.out)
    have HN:=hid hts
    have g0:w4.cell? ⟨q,0,none⟩=some (.func (.func 189) #[] #[]):=HQ4.out.cell 0
    have g1:w4.cell? ⟨q,1,none⟩=some (.func (.func 190) #[] #[]):=HQ4.out.cell 1
    have g2:w4.cell? ⟨q,2,none⟩=some (.func (.func 191) #[] #[]):=HQ4.out.cell 2
    have g3:w4.cell? ⟨q,3,none⟩=some (.func (.func 192) #[] #[]):=HQ4.out.cell 3
    clear HFE hc hts
    go_wp2_with fail
    go_loop [9,35] (fun _ s=>∃k:Nat,k≤n∧s=.int .i64 k∧∀i (hi:i<ts.length),i<k→tOk ts[i]=true) (fun _ s=>n - intM s)
    case atStart=>exact ⟨0,by omega,rfl,fun i _ hi=>absurd hi (Nat.not_lt_zero _)⟩
    case round =>
     obtain ⟨k,hk,rfl,hok2⟩:=hrel
     have HO:=hid hok2
     clear hok2
     have hts:=HN.out
     rcases Nat.lt_or_ge k n with hlt|hge
     ·have hlt':k<ts.length:=by omega
      obtain ⟨gb,go,rfl,hck⟩:=HC4.out k hlt'
      have HF:=hid (show ∀b,tOk ts[k]=b→(b=false→timesR ts=14)∧(b=true→∀i (hi:i<ts.length),i<k+1→tOk ts[i]=true) from fun b hb=>⟨fun h=>timesR_bad hlt' (by rw [hb,h]),fun h i hi h2=>by
       rcases Nat.lt_or_ge i k with h3|h3
       ·exact HO.out i hi h3
       ·obtain rfl:i=k:=by omega
        rw [hb,h]⟩)
      generalize ts[k]=t at *
      by_cases h0:t<0
      ·have HT:=hid ((HF.out false (by unfold tOk;rw [decide_eq_false (by omega)];rfl)).1 rfl)
       have HE':Hid (E=14):=hid (HE.out.trans HT.out)
       have HV':Hid (V=#[.nilFunc,.nilFunc,.nilFunc,.nilFunc]):=hid (by rw [HFV.out,HE'.out];rfl)
       clear HF
       go_wp2_with fail
       refine bodyPost_ret (results_row_tmp rfl _ _ (w.heap.size+1) 231 _ (0,0) _ rfl (BW.Blk.four HR4.out _ _ _ _) Tryz.underlying231 rfl (by kernel_rfl)) rfl ?_
       exact ⟨ret_row HV'.out.symm HE'.out.symm,below_four HB4.out (by omega) _ _ _ _⟩
      ·by_cases h1:253402300799<t
       ·have HT:=hid ((HF.out false (by unfold tOk;rw [decide_eq_false (p:=t≤_) (by omega)];simp)).1 rfl)
        have HE':Hid (E=14):=hid (HE.out.trans HT.out)
        have HV':Hid (V=#[.nilFunc,.nilFunc,.nilFunc,.nilFunc]):=hid (by rw [HFV.out,HE'.out];rfl)
        clear HF
        go_wp2_with fail
        refine bodyPost_ret (results_row_tmp rfl _ _ (w.heap.size+1) 231 _ (0,0) _ rfl (BW.Blk.four HR4.out _ _ _ _) Tryz.underlying231 rfl (by kernel_rfl)) rfl ?_
        exact ⟨ret_row HV'.out.symm HE'.out.symm,below_four HB4.out (by omega) _ _ _ _⟩
       ·have HT:=hid ((HF.out true (by unfold tOk;rw [decide_eq_true (by omega),decide_eq_true (by omega)];rfl)).2 rfl)
        clear HF
        go_wp2_with fail
        go_round
        case rel=>exact ⟨k+1,by omega,by go_num,HT.out⟩
        case measure=>simp [intM];omega
     ·obtain rfl:n=k:=by omega
      have HT:=hid (timesR_ok (ts:=ts) (fun i hi=>HO.out i hi (by omega)))
      have HE':Hid (E=0):=hid (HE.out.trans HT.out)
      have HV':Hid (V=kd0):=hid (by rw [HFV.out,HE'.out];rfl)
      unfold kd0 at HV'
      go_wp2_with fail
      refine bodyPost_ret (results_row_tmp rfl _ _ (w.heap.size+1) 231 _ (0,0) _ rfl (BW.Blk.four HR4.out _ _ _ _) Tryz.underlying231 rfl (by kernel_rfl)) rfl ?_
      exact ⟨ret_row HV'.out.symm HE'.out.symm,below_four HB4.out (by omega) _ _ _ _⟩
   ·have HE:Hid (E=16):=hid (by rw [HFE.out,decide_eq_false hs];rfl)
    have HV:Hid (V=#[.nilFunc,.nilFunc,.nilFunc,.nilFunc]):=hid (by rw [HFV.out,HE.out];rfl)
    have hne:(spE l==0)=false:=by rw [beq_eq_false_iff_ne];exact hs
    have hne':(spE l != 0)=true:=by rw [bne,hne];rfl
    generalize spE l=sp at *
    clear hs HFE
    go_wp2_with fail
    refine bodyPost_ret (results_row_tmp rfl _ _ (w.heap.size+1) 231 _ (0,0) _ rfl (BW.Blk.four HR4.out _ _ _ _) Tryz.underlying231 rfl (by kernel_rfl)) rfl ?_
    exact ⟨ret_row HV.out.symm HE.out.symm,below_four HB4.out (by omega) _ _ _ _⟩
theorem find1(p:Pl)(h2:p.k=1)(hx:U64s p.x)(l:List (Int × Int))(hn:l.length=p.n)(hn9:p.n<9223372036854775807)(ts:List Int)(ga:Option Addr)(n c:Nat)(hts:ts.length=n)(hts9:n≤9)(w:World)(hT:SpTab w)(hl:SpansAt w p.a l)(hc:IntsAt w ga ts)(V:Array Value)(hV0:finV p l ts=V)(E:Int)(hE0:finE p l ts=E) :
 Calls Tryz.prog 177 #[.agg (plV p),.slice ga n c] w fun r w'=>r=.returned (.tuple #[.agg V,.int .i64 E])∧Below w.heap.size w w':=by
 obtain ⟨W1,hW1⟩:∃W1,W1=(w.alloc (.cells (plV p) 49)).alloc (.cells zeroK 231):=⟨_,rfl⟩
 have hbx:Blk W1 w.heap.size 49 (plV p):=by rw [hW1];exact (Blk.new w _ _).alloc _
 have hrs:Blk W1 (w.heap.size+1) 231 zeroK:=by rw [hW1];exact Blk.newAt (by simp)
 have hB1:Below w.heap.size w W1:=by rw [hW1];exact ((Below.refl _ w).alloc (Nat.le_refl _) _).alloc (by simp) _
 have LK:=hid (fun w m hb=>kd_lookup w m p.k hb)
 have CK:=hid (fun w=>kinds_ok w)
 have HW1:=hid hW1
 have HSZ:=hid (show W1.heap.size=w.heap.size+2 by rw [hW1];simp)
 have HK2:=hid h2
 have HV0:=hid hV0
 have HE0:=hid hE0
 clear hW1 h2 hV0 hE0
 unfold plV zeroK at *
 have k0:W1.cell? ⟨w.heap.size,0,none⟩=some (.int .i64 p.k):=hbx.cell 0
 have hV:kdV p.k=kd1:=by unfold kdV;rw [if_neg (by have:=HK2.out;omega),if_pos HK2.out]
 have hH:kdH p.k=true:=by unfold kdH;exact decide_eq_true (by have:=HK2.out;omega)
 rw [hV,hH] at LK
 have LKa:(Instr.lookup 240 (.map (some W1.heap.size)) (.int .i64 p.k) true).run Tryz.prog (W1.alloc kdM)=.ok (.tuple #[.agg kd1,.bool true]) (W1.alloc kdM):=LK.out _ _ (heap_alloc_new W1 _)
 have LKd:(Instr.lookup 240 (.map (some W1.heap.size)) (.int .i64 p.k) true).run Tryz.prog (W1.alloc kdM).drew=.ok (.tuple #[.agg kd1,.bool true]) (W1.alloc kdM).drew:=LK.out _ _ (heap_alloc_new W1 _)
 have LKe:(Instr.lookup 240 (.map (some W1.heap.size)) (.int .i64 p.k) true).run Tryz.prog ((W1.alloc kdM).alloc (.cells #[.nilFunc,.nilFunc,.nilFunc,.nilFunc] 231))=.ok (.tuple #[.agg kd1,.bool true]) ((W1.alloc kdM).alloc (.cells #[.nilFunc,.nilFunc,.nilFunc,.nilFunc] 231)):=LK.out _ _ (by rw [Below.heap_alloc _ _ _ (by simp)];exact heap_alloc_new W1 _)
 have LKf:(Instr.lookup 240 (.map (some W1.heap.size)) (.int .i64 p.k) true).run Tryz.prog ((W1.alloc kdM).alloc (.cells #[.nilFunc,.nilFunc,.nilFunc,.nilFunc] 231)).drew=.ok (.tuple #[.agg kd1,.bool true]) ((W1.alloc kdM).alloc (.cells #[.nilFunc,.nilFunc,.nilFunc,.nilFunc] 231)).drew:=LK.out _ _ (show ((W1.alloc kdM).alloc (.cells #[.nilFunc,.nilFunc,.nilFunc,.nilFunc] 231)).heap[W1.heap.size]? = some kdM from by rw [Below.heap_alloc _ _ _ (by simp)];exact heap_alloc_new W1 _)
 have LKg:(Instr.lookup 240 (.map (some (W1.heap.size+1))) (.int .i64 p.k) true).run Tryz.prog ((W1.alloc (.cells #[.nilFunc,.nilFunc,.nilFunc,.nilFunc] 231)).alloc kdM)=.ok (.tuple #[.agg kd1,.bool true]) ((W1.alloc (.cells #[.nilFunc,.nilFunc,.nilFunc,.nilFunc] 231)).alloc kdM):=LK.out _ _ (show ((W1.alloc (.cells #[.nilFunc,.nilFunc,.nilFunc,.nilFunc] 231)).alloc kdM).heap[W1.heap.size+1]? = some kdM from by have h:=heap_alloc_new (W1.alloc (.cells #[.nilFunc,.nilFunc,.nilFunc,.nilFunc] 231)) kdM;simpa using h)
 have LKh:(Instr.lookup 240 (.map (some (W1.heap.size+1))) (.int .i64 p.k) true).run Tryz.prog ((W1.alloc (.cells #[.nilFunc,.nilFunc,.nilFunc,.nilFunc] 231)).alloc kdM).drew=.ok (.tuple #[.agg kd1,.bool true]) ((W1.alloc (.cells #[.nilFunc,.nilFunc,.nilFunc,.nilFunc] 231)).alloc kdM).drew:=LK.out _ _ (show ((W1.alloc (.cells #[.nilFunc,.nilFunc,.nilFunc,.nilFunc] 231)).alloc kdM).heap[W1.heap.size+1]? = some kdM from by have h:=heap_alloc_new (W1.alloc (.cells #[.nilFunc,.nilFunc,.nilFunc,.nilFunc] 231)) kdM;simpa using h)
 unfold kd1 at LKd LKa LKe LKf LKg LKh
 clear LK hV hH
 have HW3:Hid (∀(W3:World) (q:Nat),(W3=((W1.alloc kdM).alloc (.cells kd1 231)).drew∧q=W1.heap.size+1)∨(W3=((W1.alloc (.cells kd1 231)).alloc kdM).drew∧q=W1.heap.size)→Blk W3 q 231 kd1∧Below W1.heap.size W1 W3):=hid (by
  rintro W3 q (⟨rfl,rfl⟩|⟨rfl,rfl⟩)
  ·exact ⟨Blk.newAt (by simp),below_drewN (((Below.refl _ W1).alloc (Nat.le_refl _) _).alloc (by simp) _) 1⟩
  ·exact ⟨(Blk.new W1 231 kd1).alloc kdM,below_drewN (((Below.refl _ W1).alloc (Nat.le_refl _) _).alloc (by simp) _) 1⟩)
 unfold kd1 at HW3
 go_enter Tryz.func177,Tryz.ntmps177
 go_upto_region 1 with fail
 go_cut [6,7] from 10 to 16 (fun s6 s7 wx=>∃q:Nat,W1.heap.size≤q∧s6=.pointer (some ⟨q,0,none⟩)∧s7=.bool true∧Blk wx q 231 kd1∧Below W1.heap.size W1 wx)
 case first =>
  rw [←HW1.out]
  go_region_held3 (fun w'=>w'.cell? ⟨w.heap.size,0,none⟩=some (.int .i64 p.k)) (go_keep) ((go_at_call 186;refine (CK.out _).mono ?_;rintro _ _ ⟨rfl,rfl⟩))
  all_goals
   go_wp2_with fail
   go_meet
   first
    | exact ⟨_,by omega,rfl,rfl,HW3.out _ _ (.inl ⟨rfl,rfl⟩)⟩
    | exact ⟨_,by omega,rfl,rfl,HW3.out _ _ (.inr ⟨rfl,rfl⟩)⟩
 case rest =>
  obtain ⟨q,hq,rfl,rfl,hbq,hbl⟩:=hcut
  have HQ:=hid hbq
  have HB:=hid (hB1.trans (hbl.mono hB1.size))
  have hxc:=hbx.below hbl hbx.lt
  have HX:=hid hxc
  have HR:=hid (hrs.below hbl hrs.lt)
  have fn0:wc.cell? ⟨q,0,none⟩=some (.func (.func 193) #[] #[]):=hbq.cell 0
  have c0:wc.cell? ⟨w.heap.size,0,none⟩=some (.int .i64 p.k):=hxc.cell 0
  have c1:wc.cell? ⟨w.heap.size,1,none⟩=some (.int .u64 p.x.s):=hxc.cell 1
  have c2:wc.cell? ⟨w.heap.size,2,none⟩=some (.int .u64 p.x.mi):=hxc.cell 2
  have c3:wc.cell? ⟨w.heap.size,3,none⟩=some (.int .u64 p.x.h):=hxc.cell 3
  have c4:wc.cell? ⟨w.heap.size,4,none⟩=some (.int .u64 p.x.d):=hxc.cell 4
  have c5:wc.cell? ⟨w.heap.size,5,none⟩=some (.int .u64 p.x.mo):=hxc.cell 5
  have c6:wc.cell? ⟨w.heap.size,6,none⟩=some (.int .u64 p.x.w):=hxc.cell 6
  have c7:wc.cell? ⟨w.heap.size,7,none⟩=some (.bool p.x.ad):=hxc.cell 7
  have c8:wc.cell? ⟨w.heap.size,8,none⟩=some (.bool p.x.aw):=hxc.cell 8
  have c9:wc.cell? ⟨w.heap.size,9,none⟩=some (.int .i64 p.z):=hxc.cell 9
  have c10:wc.cell? ⟨w.heap.size,10,none⟩=some (.int .i64 p.e.s):=hxc.cell 10
  have c11:wc.cell? ⟨w.heap.size,11,none⟩=some (.int .i64 p.e.p):=hxc.cell 11
  have c12:wc.cell? ⟨w.heap.size,12,none⟩=some (.int .i64 p.e.c):=hxc.cell 12
  have c13:wc.cell? ⟨w.heap.size,13,none⟩=some (.slice p.a p.n p.c):=hxc.cell 13
  have C9:=hid (kind5_ok p hx wc (SpTab.below hT HB.out))
  have CB:=hid (fun w h=>bcheck_ok l p.a p.n p.c hn (by omega) w h)
  have HL:=hid (hl.below HB.out)
  have hq2:w.heap.size+1<q:=by have:=HSZ.out;omega
  have HPK:Hid (plK p=(noE p.e&&decide (ckR p.x=0)&&decide (zoneR p.z=0))):=hid (by unfold plK;rw [if_neg (by have:=HK2.out;omega),if_pos HK2.out])
  have HKV:Hid (kdV p.k=kd1):=hid (by unfold kdV;rw [if_neg (by have:=HK2.out;omega),if_pos HK2.out])
  have HFE:Hid (finE p l ts=if plK p&&decide (spE l=0) then timesR ts else 16):=hid (by
   unfold finE plE
   cases plK p&&decide (spE l=0)<;>rfl)
  have HFV:Hid (finV p l ts=if finE p l ts=0 then kd1 else #[.nilFunc,.nilFunc,.nilFunc,.nilFunc]):=hid (by unfold finV zeroK;rw [HKV.out])
  rw [HE0.out] at HFV HFE
  rw [HV0.out] at HFV
  clear HE0 HV0
  rw [←HPK.out] at C9
  obtain ⟨kk,hkk⟩:∃kk,plK p=kk:=⟨_,rfl⟩
  rw [hkk] at C9 HFE
  unfold plV at C9
  clear hbx hrs hB1 hbl hxc hbq HPK HKV hkk LKa LKd LKe LKf LKg LKh CK HW3 k0
  cases kk
  ·have HE:Hid (E=16):=hid (by rw [HFE.out];rfl)
   have HV:Hid (V=#[.nilFunc,.nilFunc,.nilFunc,.nilFunc]):=hid (by rw [HFV.out,HE.out];rfl)
   go_wp2_with fail
   refine (C9.out).mono ?_
   rintro e_ w3 ⟨rfl,hb⟩
   have HR3:=hid (HR.out.below hb HR.out.lt)
   have HB3:=hid (HB.out.trans (hb.mono HB.out.size))
   clear c0 c1 c2 c3 c4 c5 c6 c7 c8 c9 c10 c11 c12 c13 fn0 hb
   have d0:w3.cell? ⟨w.heap.size+1,0,none⟩=some .nilFunc:=HR3.out.cell 0
   have f0:w3.frozen? ⟨w.heap.size+1,0,none⟩=false:=HR3.out.frozen 0
   have d1:w3.cell? ⟨w.heap.size+1,1,none⟩=some .nilFunc:=HR3.out.cell 1
   have f1:w3.frozen? ⟨w.heap.size+1,1,none⟩=false:=HR3.out.frozen 1
   have d2:w3.cell? ⟨w.heap.size+1,2,none⟩=some .nilFunc:=HR3.out.cell 2
   have f2:w3.frozen? ⟨w.heap.size+1,2,none⟩=false:=HR3.out.frozen 2
   have d3:w3.cell? ⟨w.heap.size+1,3,none⟩=some .nilFunc:=HR3.out.cell 3
   have f3:w3.frozen? ⟨w.heap.size+1,3,none⟩=false:=HR3.out.frozen 3
   go_wp2_with fail
   refine bodyPost_ret (results_row_tmp rfl _ _ (w.heap.size+1) 231 _ (0,0) _ rfl (BW.Blk.four HR3.out _ _ _ _) Tryz.underlying231 rfl (by kernel_rfl)) rfl ?_
   exact ⟨ret_row HV.out.symm HE.out.symm,below_four HB3.out (by omega) _ _ _ _⟩
  ·go_wp2_with fail
   refine (C9.out).mono ?_
   rintro e_ w3 ⟨rfl,hb⟩
   have HR3:=hid (HR.out.below hb HR.out.lt)
   have HB3:=hid (HB.out.trans (hb.mono HB.out.size))
   have HX3:=hid (HX.out.below hb HX.out.lt)
   have HQ3:=hid (HQ.out.below hb HQ.out.lt)
   have HL3:=hid (HL.out.below hb)
   clear c0 c1 c2 c3 c4 c5 c6 c7 c8 c9 c10 c11 c12 c13 fn0 hb HR HB HX HQ HL C9
   have c13:w3.cell? ⟨w.heap.size,13,none⟩=some (.slice p.a p.n p.c):=HX3.out.cell 13
   go_wp2_with fail
   refine (CB.out _ HL3.out).mono ?_
   rintro e_ w4 ⟨rfl,hb⟩
   have HR4:=hid (HR3.out.below hb HR3.out.lt)
   have HB4:=hid (HB3.out.trans (hb.mono HB3.out.size))
   have HQ4:=hid (HQ3.out.below hb HQ3.out.lt)
   clear c13 hb HR3 HB3 HX3 HQ3 HL3 CB
   have d0:w4.cell? ⟨w.heap.size+1,0,none⟩=some .nilFunc:=HR4.out.cell 0
   have f0:w4.frozen? ⟨w.heap.size+1,0,none⟩=false:=HR4.out.frozen 0
   have d1:w4.cell? ⟨w.heap.size+1,1,none⟩=some .nilFunc:=HR4.out.cell 1
   have f1:w4.frozen? ⟨w.heap.size+1,1,none⟩=false:=HR4.out.frozen 1
   have d2:w4.cell? ⟨w.heap.size+1,2,none⟩=some .nilFunc:=HR4.out.cell 2
   have f2:w4.frozen? ⟨w.heap.size+1,2,none⟩=false:=HR4.out.frozen 2
   have d3:w4.cell? ⟨w.heap.size+1,3,none⟩=some .nilFunc:=HR4.out.cell 3
   have f3:w4.frozen? ⟨w.heap.size+1,3,none⟩=false:=HR4.out.frozen 3
   by_cases hs:spE l=0
   ·have HE:Hid (E=timesR ts):=hid (by rw [HFE.out,hs];rfl)
    have HC4:Hid (IntsAt w4 ga ts):=hid (ints_below hc HB4.out)
    have HN:=hid hts
    have g0:w4.cell? ⟨q,0,none⟩=some (.func (.func 193) #[] #[]):=HQ4.out.cell 0
    have g1:w4.cell? ⟨q,1,none⟩=some (.func (.func 196) #[] #[]):=HQ4.out.cell 1
    have g2:w4.cell? ⟨q,2,none⟩=some (.func (.func 198) #[] #[]):=HQ4.out.cell 2
    have g3:w4.cell? ⟨q,3,none⟩=some (.func (.func 200) #[] #[]):=HQ4.out.cell 3
    clear HFE hc hts
    go_wp2_with fail
    go_loop [9,35] (fun _ s=>∃k:Nat,k≤n∧s=.int .i64 k∧∀i (hi:i<ts.length),i<k→tOk ts[i]=true) (fun _ s=>n - intM s)
    case atStart=>exact ⟨0,by omega,rfl,fun i _ hi=>absurd hi (Nat.not_lt_zero _)⟩
    case round =>
     obtain ⟨k,hk,rfl,hok2⟩:=hrel
     have HO:=hid hok2
     clear hok2
     have hts:=HN.out
     rcases Nat.lt_or_ge k n with hlt|hge
     ·have hlt':k<ts.length:=by omega
      obtain ⟨gb,go,rfl,hck⟩:=HC4.out k hlt'
      have HF:=hid (show ∀b,tOk ts[k]=b→(b=false→timesR ts=14)∧(b=true→∀i (hi:i<ts.length),i<k+1→tOk ts[i]=true) from fun b hb=>⟨fun h=>timesR_bad hlt' (by rw [hb,h]),fun h i hi h2=>by
       rcases Nat.lt_or_ge i k with h3|h3
       ·exact HO.out i hi h3
       ·obtain rfl:i=k:=by omega
        rw [hb,h]⟩)
      generalize ts[k]=t at *
      by_cases h0:t<0
      ·have HT:=hid ((HF.out false (by unfold tOk;rw [decide_eq_false (by omega)];rfl)).1 rfl)
       have HE':Hid (E=14):=hid (HE.out.trans HT.out)
       have HV':Hid (V=#[.nilFunc,.nilFunc,.nilFunc,.nilFunc]):=hid (by rw [HFV.out,HE'.out];rfl)
       clear HF
       go_wp2_with fail
       refine bodyPost_ret (results_row_tmp rfl _ _ (w.heap.size+1) 231 _ (0,0) _ rfl (BW.Blk.four HR4.out _ _ _ _) Tryz.underlying231 rfl (by kernel_rfl)) rfl ?_
       exact ⟨ret_row HV'.out.symm HE'.out.symm,below_four HB4.out (by omega) _ _ _ _⟩
      ·by_cases h1:253402300799<t
       ·have HT:=hid ((HF.out false (by unfold tOk;rw [decide_eq_false (p:=t≤_) (by omega)];simp)).1 rfl)
        have HE':Hid (E=14):=hid (HE.out.trans HT.out)
        have HV':Hid (V=#[.nilFunc,.nilFunc,.nilFunc,.nilFunc]):=hid (by rw [HFV.out,HE'.out];rfl)
        clear HF
        go_wp2_with fail
        refine bodyPost_ret (results_row_tmp rfl _ _ (w.heap.size+1) 231 _ (0,0) _ rfl (BW.Blk.four HR4.out _ _ _ _) Tryz.underlying231 rfl (by kernel_rfl)) rfl ?_
        exact ⟨ret_row HV'.out.symm HE'.out.symm,below_four HB4.out (by omega) _ _ _ _⟩
       ·have HT:=hid ((HF.out true (by unfold tOk;rw [decide_eq_true (by omega),decide_eq_true (by omega)];rfl)).2 rfl)
        clear HF
        go_wp2_with fail
        go_round
        case rel=>exact ⟨k+1,by omega,by go_num,HT.out⟩
        case measure=>simp [intM];omega
     ·obtain rfl:n=k:=by omega
      have HT:=hid (timesR_ok (ts:=ts) (fun i hi=>HO.out i hi (by omega)))
      have HE':Hid (E=0):=hid (HE.out.trans HT.out)
      have HV':Hid (V=kd1):=hid (by rw [HFV.out,HE'.out];rfl)
      unfold kd1 at HV'
      go_wp2_with fail
      refine bodyPost_ret (results_row_tmp rfl _ _ (w.heap.size+1) 231 _ (0,0) _ rfl (BW.Blk.four HR4.out _ _ _ _) Tryz.underlying231 rfl (by kernel_rfl)) rfl ?_
      exact ⟨ret_row HV'.out.symm HE'.out.symm,below_four HB4.out (by omega) _ _ _ _⟩
   ·have HE:Hid (E=16):=hid (by rw [HFE.out,decide_eq_false hs];rfl)
    have HV:Hid (V=#[.nilFunc,.nilFunc,.nilFunc,.nilFunc]):=hid (by rw [HFV.out,HE.out];rfl)
    have hne:(spE l==0)=false:=by rw [beq_eq_false_iff_ne];exact hs
    have hne':(spE l != 0)=true:=by rw [bne,hne];rfl
    generalize spE l=sp at *
    clear hs HFE
    go_wp2_with fail
    refine bodyPost_ret (results_row_tmp rfl _ _ (w.heap.size+1) 231 _ (0,0) _ rfl (BW.Blk.four HR4.out _ _ _ _) Tryz.underlying231 rfl (by kernel_rfl)) rfl ?_
    exact ⟨ret_row HV.out.symm HE.out.symm,below_four HB4.out (by omega) _ _ _ _⟩
theorem findn(p:Pl)(h2:¬(p.k=0∨p.k=1∨p.k=2))(_:U64s p.x)(l:List (Int × Int))(_:l.length=p.n)(_:p.n<9223372036854775807)(ts:List Int)(ga:Option Addr)(n c:Nat)(_:ts.length=n)(_:n≤9)(w:World)(_:SpTab w)(_:SpansAt w p.a l)(_:IntsAt w ga ts)(V:Array Value)(hV0:finV p l ts=V)(E:Int)(hE0:finE p l ts=E) :
 Calls Tryz.prog 177 #[.agg (plV p),.slice ga n c] w fun r w'=>r=.returned (.tuple #[.agg V,.int .i64 E])∧Below w.heap.size w w':=by
 obtain ⟨W1,hW1⟩:∃W1,W1=(w.alloc (.cells (plV p) 49)).alloc (.cells zeroK 231):=⟨_,rfl⟩
 have hbx:Blk W1 w.heap.size 49 (plV p):=by rw [hW1];exact (Blk.new w _ _).alloc _
 have hrs:Blk W1 (w.heap.size+1) 231 zeroK:=by rw [hW1];exact Blk.newAt (by simp)
 have hB1:Below w.heap.size w W1:=by rw [hW1];exact ((Below.refl _ w).alloc (Nat.le_refl _) _).alloc (by simp) _
 have LK:=hid (fun w m hb=>kd_lookup w m p.k hb)
 have CK:=hid (fun w=>kinds_ok w)
 have HW1:=hid hW1
 have HSZ:=hid (show W1.heap.size=w.heap.size+2 by rw [hW1];simp)
 have HK2:=hid h2
 have HV0:=hid hV0
 have HE0:=hid hE0
 clear hW1 h2 hV0 hE0
 unfold plV zeroK at *
 have k0:W1.cell? ⟨w.heap.size,0,none⟩=some (.int .i64 p.k):=hbx.cell 0
 have hV:kdV p.k=#[.nilFunc,.nilFunc,.nilFunc,.nilFunc]:=by unfold kdV;rw [if_neg (by have:=HK2.out;omega),if_neg (by have:=HK2.out;omega),if_neg (by have:=HK2.out;omega)]
 have hH:kdH p.k=false:=by unfold kdH;exact decide_eq_false (by have:=HK2.out;omega)
 rw [hV,hH] at LK
 have LKa:(Instr.lookup 240 (.map (some W1.heap.size)) (.int .i64 p.k) true).run Tryz.prog (W1.alloc kdM)=.ok (.tuple #[.agg #[.nilFunc,.nilFunc,.nilFunc,.nilFunc],.bool false]) (W1.alloc kdM):=LK.out _ _ (heap_alloc_new W1 _)
 have LKd:(Instr.lookup 240 (.map (some W1.heap.size)) (.int .i64 p.k) true).run Tryz.prog (W1.alloc kdM).drew=.ok (.tuple #[.agg #[.nilFunc,.nilFunc,.nilFunc,.nilFunc],.bool false]) (W1.alloc kdM).drew:=LK.out _ _ (heap_alloc_new W1 _)
 have LKe:(Instr.lookup 240 (.map (some W1.heap.size)) (.int .i64 p.k) true).run Tryz.prog ((W1.alloc kdM).alloc (.cells #[.nilFunc,.nilFunc,.nilFunc,.nilFunc] 231))=.ok (.tuple #[.agg #[.nilFunc,.nilFunc,.nilFunc,.nilFunc],.bool false]) ((W1.alloc kdM).alloc (.cells #[.nilFunc,.nilFunc,.nilFunc,.nilFunc] 231)):=LK.out _ _ (by rw [Below.heap_alloc _ _ _ (by simp)];exact heap_alloc_new W1 _)
 have LKf:(Instr.lookup 240 (.map (some W1.heap.size)) (.int .i64 p.k) true).run Tryz.prog ((W1.alloc kdM).alloc (.cells #[.nilFunc,.nilFunc,.nilFunc,.nilFunc] 231)).drew=.ok (.tuple #[.agg #[.nilFunc,.nilFunc,.nilFunc,.nilFunc],.bool false]) ((W1.alloc kdM).alloc (.cells #[.nilFunc,.nilFunc,.nilFunc,.nilFunc] 231)).drew:=LK.out _ _ (show ((W1.alloc kdM).alloc (.cells #[.nilFunc,.nilFunc,.nilFunc,.nilFunc] 231)).heap[W1.heap.size]? = some kdM from by rw [Below.heap_alloc _ _ _ (by simp)];exact heap_alloc_new W1 _)
 have LKg:(Instr.lookup 240 (.map (some (W1.heap.size+1))) (.int .i64 p.k) true).run Tryz.prog ((W1.alloc (.cells #[.nilFunc,.nilFunc,.nilFunc,.nilFunc] 231)).alloc kdM)=.ok (.tuple #[.agg #[.nilFunc,.nilFunc,.nilFunc,.nilFunc],.bool false]) ((W1.alloc (.cells #[.nilFunc,.nilFunc,.nilFunc,.nilFunc] 231)).alloc kdM):=LK.out _ _ (show ((W1.alloc (.cells #[.nilFunc,.nilFunc,.nilFunc,.nilFunc] 231)).alloc kdM).heap[W1.heap.size+1]? = some kdM from by have h:=heap_alloc_new (W1.alloc (.cells #[.nilFunc,.nilFunc,.nilFunc,.nilFunc] 231)) kdM;simpa using h)
 have LKh:(Instr.lookup 240 (.map (some (W1.heap.size+1))) (.int .i64 p.k) true).run Tryz.prog ((W1.alloc (.cells #[.nilFunc,.nilFunc,.nilFunc,.nilFunc] 231)).alloc kdM).drew=.ok (.tuple #[.agg #[.nilFunc,.nilFunc,.nilFunc,.nilFunc],.bool false]) ((W1.alloc (.cells #[.nilFunc,.nilFunc,.nilFunc,.nilFunc] 231)).alloc kdM).drew:=LK.out _ _ (show ((W1.alloc (.cells #[.nilFunc,.nilFunc,.nilFunc,.nilFunc] 231)).alloc kdM).heap[W1.heap.size+1]? = some kdM from by have h:=heap_alloc_new (W1.alloc (.cells #[.nilFunc,.nilFunc,.nilFunc,.nilFunc] 231)) kdM;simpa using h)
 clear LK hV hH
 have HW3:Hid (∀(W3:World) (q:Nat),(W3=((W1.alloc kdM).alloc (.cells #[.nilFunc,.nilFunc,.nilFunc,.nilFunc] 231)).drew∧q=W1.heap.size+1)∨(W3=((W1.alloc (.cells #[.nilFunc,.nilFunc,.nilFunc,.nilFunc] 231)).alloc kdM).drew∧q=W1.heap.size)→Blk W3 q 231 #[.nilFunc,.nilFunc,.nilFunc,.nilFunc]∧Below W1.heap.size W1 W3):=hid (by
  rintro W3 q (⟨rfl,rfl⟩|⟨rfl,rfl⟩)
  ·exact ⟨Blk.newAt (by simp),below_drewN (((Below.refl _ W1).alloc (Nat.le_refl _) _).alloc (by simp) _) 1⟩
  ·exact ⟨(Blk.new W1 231 #[.nilFunc,.nilFunc,.nilFunc,.nilFunc]).alloc kdM,below_drewN (((Below.refl _ W1).alloc (Nat.le_refl _) _).alloc (by simp) _) 1⟩)
 go_enter Tryz.func177,Tryz.ntmps177
 go_upto_region 1 with fail
 go_cut [6,7] from 10 to 16 (fun s6 s7 wx=>∃q:Nat,W1.heap.size≤q∧s6=.pointer (some ⟨q,0,none⟩)∧s7=.bool false∧Blk wx q 231 #[.nilFunc,.nilFunc,.nilFunc,.nilFunc]∧Below W1.heap.size W1 wx)
 case first =>
  rw [←HW1.out]
  go_region_held3 (fun w'=>w'.cell? ⟨w.heap.size,0,none⟩=some (.int .i64 p.k)) (go_keep) ((go_at_call 186;refine (CK.out _).mono ?_;rintro _ _ ⟨rfl,rfl⟩))
  all_goals
   go_wp2_with fail
   go_meet
   first
    | exact ⟨_,by omega,rfl,rfl,HW3.out _ _ (.inl ⟨rfl,rfl⟩)⟩
    | exact ⟨_,by omega,rfl,rfl,HW3.out _ _ (.inr ⟨rfl,rfl⟩)⟩
 case rest =>
  obtain ⟨q,hq,rfl,rfl,hbq,hbl⟩:=hcut
  have HQ:=hid hbq
  have HB:=hid (hB1.trans (hbl.mono hB1.size))
  have hxc:=hbx.below hbl hbx.lt
  have HX:=hid hxc
  have HR:=hid (hrs.below hbl hrs.lt)
  have hq2:w.heap.size+1<q:=by have:=HSZ.out;omega
  have HPK:Hid (plK p=false):=hid (by unfold plK;rw [if_neg (by have:=HK2.out;omega),if_neg (by have:=HK2.out;omega),if_neg (by have:=HK2.out;omega)])
  have HKV:Hid (kdV p.k=#[.nilFunc,.nilFunc,.nilFunc,.nilFunc]):=hid (by unfold kdV;rw [if_neg (by have:=HK2.out;omega),if_neg (by have:=HK2.out;omega),if_neg (by have:=HK2.out;omega)])
  have HFE:Hid (finE p l ts=if plK p&&decide (spE l=0) then timesR ts else 16):=hid (by
   unfold finE plE
   cases plK p&&decide (spE l=0)<;>rfl)
  have HFV:Hid (finV p l ts=if finE p l ts=0 then #[.nilFunc,.nilFunc,.nilFunc,.nilFunc] else #[.nilFunc,.nilFunc,.nilFunc,.nilFunc]):=hid (by unfold finV zeroK;rw [HKV.out])
  rw [HE0.out] at HFV HFE
  rw [HV0.out] at HFV
  clear HE0 HV0
  have HE:Hid (E=16):=hid (by rw [HFE.out,HPK.out];rfl)
  have HV:Hid (V=#[.nilFunc,.nilFunc,.nilFunc,.nilFunc]):=hid (by rw [HFV.out,HE.out];rfl)
  clear hbx hrs hB1 hbl hxc hbq HPK HKV LKa LKd LKe LKf LKg LKh CK HW3 k0 HFE HFV
  have d0:wc.cell? ⟨w.heap.size+1,0,none⟩=some .nilFunc:=HR.out.cell 0
  have f0:wc.frozen? ⟨w.heap.size+1,0,none⟩=false:=HR.out.frozen 0
  have d1:wc.cell? ⟨w.heap.size+1,1,none⟩=some .nilFunc:=HR.out.cell 1
  have f1:wc.frozen? ⟨w.heap.size+1,1,none⟩=false:=HR.out.frozen 1
  have d2:wc.cell? ⟨w.heap.size+1,2,none⟩=some .nilFunc:=HR.out.cell 2
  have f2:wc.frozen? ⟨w.heap.size+1,2,none⟩=false:=HR.out.frozen 2
  have d3:wc.cell? ⟨w.heap.size+1,3,none⟩=some .nilFunc:=HR.out.cell 3
  have f3:wc.frozen? ⟨w.heap.size+1,3,none⟩=false:=HR.out.frozen 3
  go_wp2_with fail
  refine bodyPost_ret (results_row_tmp rfl _ _ (w.heap.size+1) 231 _ (0,0) _ rfl (BW.Blk.four HR.out _ _ _ _) Tryz.underlying231 rfl (by kernel_rfl)) rfl ?_
  exact ⟨ret_row HV.out.symm HE.out.symm,below_four HB.out (by omega) _ _ _ _⟩
theorem find_ok(p:Pl)(hx:U64s p.x)(l:List (Int × Int))(hn:l.length=p.n)(hn9:p.n<9223372036854775807)(ts:List Int)(ga:Option Addr)(n c:Nat)(hts:ts.length=n)(hts9:n≤9)(w:World)(hT:SpTab w)(hl:SpansAt w p.a l)(hc:IntsAt w ga ts) :
 Calls Tryz.prog 177 #[.agg (plV p),.slice ga n c] w fun r w'=>r=.returned (.tuple #[.agg (finV p l ts),.int .i64 (finE p l ts)])∧Below w.heap.size w w':=by
 by_cases h0:p.k=0
 ·exact find0 p h0 hx l hn hn9 ts ga n c hts hts9 w hT hl hc _ rfl _ rfl
 ·by_cases h1:p.k=1
  ·exact find1 p h1 hx l hn hn9 ts ga n c hts hts9 w hT hl hc _ rfl _ rfl
  ·by_cases h2:p.k=2
   ·exact find2 p h2 hx l hn hn9 ts ga n c hts hts9 w hT hl hc _ rfl _ rfl
   ·exact findn p (by omega) hx l hn hn9 ts ga n c hts hts9 w hT hl hc _ rfl _ rfl
end Go.Proofs.YtpgckpafjiojfaaGreatDoor.BW
