/- Contract of a gate's Why. -/
import Derived.Test.YtpgckpafjiojfaaGreatDoorAIv
open Go.Lib (hid)
set_option maxRecDepth 16000
set_option maxHeartbeats 40000000
namespace Go.Proofs.YtpgckpafjiojfaaGreatDoor.AD
open Go Go.RowKit
open BK (Bx BoxAt Blk only_refl only_drew only_drewN only_setCell only_trans only_of_below only_alloc below_drewN)
theorem quietL{P:Program}{f:FuncId}{args:Array Value}{w:World}{n:Nat}{v:Value}(h:Calls P f args (w.drewN n) fun e w'=>e=.returned v∧w.drewN n=w'):Calls P f args (w.drewN n) fun e w''=>e=.returned v∧∃m,w''=w.drewN m:=h.mono fun _ _ ⟨he,hm⟩=>⟨he,n,hm.symm⟩
theorem quietN{P:Program}{f:FuncId}{args:Array Value}{w:World}{n:Nat}{v:Value}(h:Calls P f args (w.drewN n) fun e w'=>e=.returned v∧∃m,w'=(w.drewN n).drewN m):Calls P f args (w.drewN n) fun e w''=>e=.returned v∧∃m,w''=w.drewN m:=h.mono fun _ _ ⟨he,m,hm⟩=>⟨he,n+m,by rw [hm,drewN_drewN]⟩
theorem blk_newAt{w:World}{n:Nat}{t:TypeId}{cs:Array Value}(h:w.heap.size=n):Blk (w.alloc (.cells cs t)) n t cs:=by subst h;exact Blk.new w t cs
structure WhyS(s:Nat)(L:Ly)(x:Gt)(k:Nat)(now:Int)(W:World):Prop where
 g:GAt W L x
 lt:∀i,L.sup x.js.length i→i<s
 b0:Blk W s 33 #[.pointer (some ⟨L.g,0,none⟩)]
 b1:Blk W (s+1) 3 #[.int .i64 k]
 b2:Blk W (s+1+1) 2 #[.int .i64 now]
 size:s+3≤W.heap.size
theorem WhyS.keep{s:Nat}{L:Ly}{x:Gt}{k:Nat}{now:Int}{W W':World}(h:WhyS s L x k now W)(hb:Below (s+3) W W'):WhyS s L x k now W' :=
 ⟨h.g.keep fun i hi=>hb.block i (by have:=h.lt i hi;omega),h.lt,h.b0.below hb (by omega),h.b1.below hb (by omega),h.b2.below hb (by omega),Nat.le_trans h.size hb.size⟩
structure WhyT(s b9 b11:Nat)(L:Ly)(x:Gt)(k:Nat)(j:Jt)(now:Int)(W:World):Prop where
 s:WhyS s L x k now W
 hk:x.js[k]? = some j
 u:Blk W b9 3 #[.int .i64 j.runs]
 d:Blk W b11 125 #[.pointer (some ⟨L.li k,0,none⟩),.pointer (some ⟨L.bo k,0,none⟩)]
theorem WhyT.drewN{s b9 b11:Nat}{L:Ly}{x:Gt}{k:Nat}{j:Jt}{now:Int}{W:World}(h:WhyT s b9 b11 L x k j now W)(n:Nat):WhyT s b9 b11 L x k j now (W.drewN n) :=
 ⟨h.s.keep (below_drewN (Below.refl _ _) n),h.hk,h.u.drewN n,h.d.drewN n⟩
section
variable{s b9 b11:Nat}{L:Ly}{x:Gt}{k:Nat}{j:Jt}{now:Int}{w:World}
theorem why1_ok(h:WhyT s b9 b11 L x k j now w):Calls Tryz.prog 55 #[.pointer (some ⟨s,0,none⟩)] w fun e w'=>e=.returned (.bool (decide (x.cap≤x.total)))∧∃n,w'=w.drewN n:=by
 have p0:w.cell? ⟨s,0,none⟩=some (.pointer (some ⟨L.g,0,none⟩)):=h.s.b0.cell 0
 have c0:=h.s.g.c0
 have c1:=h.s.g.c1
 have T:=hid (fun n=>(show Calls Tryz.prog 56 #[.pointer (some ⟨L.cp,0,none⟩)] (w.drewN n) fun e w'=>e=.returned (.int .i64 x.total)∧w.drewN n=w' from ctotal_ok (h.s.g.drewN n).caps))
 generalize x.total=t at *
 generalize x.cap=c at *
 clear h
 go_enter Tryz.func55,Tryz.ntmps55
 go_wp2_with fail
 go_quiet ((go_at_call 56;exact quietL (T.out _)))
 go_wp2_with fail
 go_ret
 exact ⟨rfl,_,rfl⟩
theorem why2_ok(h:WhyT s b9 b11 L x k j now w):Calls Tryz.prog 57 #[.pointer (some ⟨s,0,none⟩),.pointer (some ⟨s+1+1,0,none⟩)] w fun e w'=>e=.returned (.bool (!x.both.allows now))∧∃n,w'=w.drewN n:=by
 have p0:w.cell? ⟨s,0,none⟩=some (.pointer (some ⟨L.g,0,none⟩)):=h.s.b0.cell 0
 have p2:w.cell? ⟨s+1+1,0,none⟩=some (.int .i64 now):=h.s.b2.cell 0
 have c2:=h.s.g.c2
 have T:=hid (fun n=>allows_ok (h.s.g.drewN n).lm h.s.g.inv.both now)
 generalize x.both.allows now=t at *
 clear h
 go_enter Tryz.func57,Tryz.ntmps57
 go_wp2_with fail
 go_quiet ((go_at_call 58;exact quietN (T.out _)))
 go_wp2_with fail
 go_ret
 exact ⟨rfl,_,rfl⟩
theorem why3_ok(h:WhyT s b9 b11 L x k j now w):Calls Tryz.prog 59 #[.pointer (some ⟨b9,0,none⟩),.pointer (some ⟨s,0,none⟩),.pointer (some ⟨s+1,0,none⟩)] w fun e w'=>e=.returned (.bool (decide (j.cap≤j.runs)))∧∃n,w'=w.drewN n:=by
 have p0:w.cell? ⟨s,0,none⟩=some (.pointer (some ⟨L.g,0,none⟩)):=h.s.b0.cell 0
 have p1:w.cell? ⟨s+1,0,none⟩=some (.int .i64 k):=h.s.b1.cell 0
 have p9:w.cell? ⟨b9,0,none⟩=some (.int .i64 j.runs):=h.u.cell 0
 obtain ⟨b,c4,e0⟩:=h.s.g.er h.hk
 have hl:k<x.js.length:=(List.getElem?_eq_some_iff.1 h.hk).1
 clear h
 generalize x.js.length=n at *
 go_enter Tryz.func59,Tryz.ntmps59
 go_wp2_with fail
 go_quiet (fail)
 go_wp2_with fail
 go_ret
 exact ⟨rfl,_,rfl⟩
theorem why4_ok(h:WhyT s b9 b11 L x k j now w):Calls Tryz.prog 60 #[.pointer (some ⟨b11,0,none⟩),.pointer (some ⟨s+1+1,0,none⟩)] w fun e w'=>e=.returned (.bool (!j.lm.allows now))∧∃n,w'=w.drewN n:=by
 have p2:w.cell? ⟨s+1+1,0,none⟩=some (.int .i64 now):=h.s.b2.cell 0
 have d0:w.cell? ⟨b11,0,none⟩=some (.pointer (some ⟨L.li k,0,none⟩)):=h.d.cell 0
 have T:=hid (allows_ok (h.s.g.job k j h.hk).1 (h.s.g.inv.of h.hk).2.2.1 now)
 generalize j.lm.allows now=t at *
 clear h
 go_enter Tryz.func60,Tryz.ntmps60
 go_wp2_with fail
 refine (T.out).mono ?_
 rintro e w' ⟨rfl,n,rfl⟩
 go_wp2_with fail
 go_ret
 exact ⟨rfl,_,rfl⟩
theorem why5_ok(h:WhyT s b9 b11 L x k j now w):Calls Tryz.prog 61 #[.pointer (some ⟨b11,0,none⟩),.pointer (some ⟨s+1+1,0,none⟩)] w fun e w'=>e=.returned (.bool (!BK.allows j.bx now))∧∃n,w'=w.drewN n:=by
 have p2:w.cell? ⟨s+1+1,0,none⟩=some (.int .i64 now):=h.s.b2.cell 0
 have d1:w.cell? ⟨b11,1,none⟩=some (.pointer (some ⟨L.bo k,0,none⟩)):=h.d.cell 1
 have T:=hid (BK.allows_ok (h.s.g.job k j h.hk).2 (h.s.g.inv.of h.hk).2.2.2 now)
 generalize BK.allows j.bx now=t at *
 clear h
 go_enter Tryz.func61,Tryz.ntmps61
 go_wp2_with fail
 refine (T.out).mono ?_
 rintro e w' ⟨rfl,n,rfl⟩
 go_wp2_with fail
 go_ret
 exact ⟨rfl,_,rfl⟩
end
theorem three(w:World)(a b c:Obj):Below w.heap.size w (((w.alloc a).alloc b).alloc c):=(((Below.refl _ w).alloc (Nat.le_refl _) a).alloc (by simp) b).alloc (by simp;omega) c
def blkOf:Value→Nat
 | .pointer (some a)=>a.block
 | _=>0
def PV4(s:Nat)(L:Ly)(k:Nat)(rn:Int)(i:Nat)(v:Value):Prop:=match i with
 | 0=>v=.pointer (some ⟨L.g,0,none⟩)
 | 1=>v=.pointer (some ⟨L.g,0,none⟩)
 | 2=>v=.pointer (some ⟨L.g,0,none⟩)
 | 3=>v=.pointer (some ⟨L.cp,0,none⟩)
 | 4=>v=.int .i64 k
 | 5=>v=.tuple #[.int .i64 rn,.int .i64 0]
 | 6=>v=.tuple #[.int .i64 rn,.int .i64 0]
 | 7=>v=.int .i64 rn
 | 8=>v=.int .i64 0
 | 9=>v=.pointer (some ⟨blkOf v,0,none⟩)∧s+3≤blkOf v
 | 11=>v=.int .i64 0
 | _=>True
structure W4(w0:World)(s:Nat)(L:Ly)(x:Gt)(k:Nat)(now rn:Int)(listed:Array Bool)(v:Nat→Value)(W:World):Prop where
 all:∀i,listed[i]? = some true→PV4 s L k rn i (v i)
 st:WhyS s L x k now W
 bel:Below w0.heap.size w0 W
 hs:w0.heap.size≤s+3
 ord:listed[10]? = some true→listed[9]? = some true
 new:listed[9]? = some true→listed[10]? = some false→Blk W (blkOf (v 9)) 3 #[.int .i64 0]
 fin:listed[10]? = some true→Blk W (blkOf (v 9)) 3 #[.int .i64 rn]
theorem set_keep{listed:Array Bool}{i j:Nat}(h:listed[j]? = some true):(listed.setIfInBounds i true)[j]? = some true:=by
 by_cases e:i=j
 ·subst e
  have hl:=(Array.getElem?_eq_some_iff.1 h).1
  rw [Array.getElem?_setIfInBounds_self_of_lt hl]
 ·rw [Array.getElem?_setIfInBounds_ne e];exact h
theorem set_not{listed:Array Bool}{i j:Nat}(hi:i≠j)(h:(listed.setIfInBounds i true)[j]? = some false):listed[j]? = some false:=by
 rwa [Array.getElem?_setIfInBounds_ne hi] at h
theorem W4.step{w0:World}{s:Nat}{L:Ly}{x:Gt}{k:Nat}{now rn:Int}{listed:Array Bool}{v:Nat→Value}{w w':World}(h:W4 w0 s L x k now rn listed v w){i:Nat}{u:Value}(hi:i≠10)(hi9:i≠9)(hb:Below w.heap.size w w')(hp:PV4 s L k rn i u):W4 w0 s L x k now rn (listed.setIfInBounds i true) (updC v i u) w':=by
 have h10:(listed.setIfInBounds i true)[10]? = some true→listed[10]? = some true:=fun hz=>(set_at 10 hz).resolve_left (fun e=>hi e.symm)
 have h9:(listed.setIfInBounds i true)[9]? = some true→listed[9]? = some true:=fun hz=>(set_at 9 hz).resolve_left (fun e=>hi9 e.symm)
 refine ⟨fun m hm=>?_,h.st.keep (hb.mono h.st.size),h.bel.trans (hb.mono h.bel.size),h.hs,fun hz=>set_keep (h.ord (h10 hz)),fun hz hz2=>?_,fun hz=>?_⟩
 ·by_cases e:m=i
  ·subst e;rw [updC_eq];exact hp
  ·rw [updC_ne e];exact h.all m ((set_at m hm).resolve_left e)
 ·rw [updC_ne (fun e=>hi9 e.symm)]
  have:=h.new (h9 hz) (set_not hi hz2)
  exact this.below hb this.lt
 ·rw [updC_ne (fun e=>hi9 e.symm)]
  have:=h.fin (h10 hz)
  exact this.below hb this.lt
def nthI:Nat→Value
 | 0=>.int .i64 0
 | 1=>.int .i64 1
 | 2=>.int .i64 2
 | 3=>.int .i64 3
 | 4=>.int .i64 4
 | 5=>.int .i64 5
 | _=>undef
def intA:Value→Nat
 | .int _ m=>m.toNat
 | _=>0
theorem or_bit(p:Nat)(q:Int):(p<1→q=1→bits .or .i64 (p:Int) q=p+q)∧(p<2→q=2→bits .or .i64 (p:Int) q=p+q)∧(p<4→q=4→bits .or .i64 (p:Int) q=p+q)∧(p<8→q=8→bits .or .i64 (p:Int) q=p+q)∧(p<16→q=16→bits .or .i64 (p:Int) q=p+q):=by
 have h:∀(m:Nat) (q:Int),(∀x:Fin m,bits .or .i64 (x.val:Int) q=x.val+q)→∀p<m,bits .or .i64 (p:Int) q=p+q:=fun m q h p hp=>h ⟨p,hp⟩
 refine ⟨fun h1 h2=>?_,fun h1 h2=>?_,fun h1 h2=>?_,fun h1 h2=>?_,fun h1 h2=>?_⟩<;>subst h2
 ·exact h 1 1 (by decide +kernel) p h1
 ·exact h 2 2 (by decide +kernel) p h1
 ·exact h 4 4 (by decide +kernel) p h1
 ·exact h 8 8 (by decide +kernel) p h1
 ·exact h 16 16 (by decide +kernel) p h1
theorem pt_no{p q:Nat}(h:p=q∨(false=true)):Value.int .i64 (p:Int)=.int .i64 (q:Int):=by
 rcases h with h|h
 ·rw [h]
 ·cases h
theorem pt_yes{p q r:Nat}(h:p+r=q∨(true=false)):Value.int .i64 ((p:Int)+(r:Int))=.int .i64 (q:Int):=by
 rcases h with h|h
 ·rw [←h];rfl
 ·cases h
def partN(a b c d e:Bool)(i:Nat):Nat:=(if 0<i then a.toNat else 0)+(if 1<i then 2*b.toNat else 0)+(if 2<i then 4*c.toNat else 0)+(if 3<i then 8*d.toNat else 0)+(if 4<i then 16*e.toNat else 0)
theorem idx_why0(S b9 b11:Nat)(W:World):(Instr.index 136 (.agg #[.func (.func 55) #[] #[.pointer (some ⟨S,0,none⟩)],.func (.func 57) #[] #[.pointer (some ⟨S,0,none⟩),.pointer (some ⟨S+1+1,0,none⟩)],.func (.func 59) #[] #[.pointer (some ⟨b9,0,none⟩),.pointer (some ⟨S,0,none⟩),.pointer (some ⟨S+1,0,none⟩)],.func (.func 60) #[] #[.pointer (some ⟨b11,0,none⟩),.pointer (some ⟨S+1+1,0,none⟩)],.func (.func 61) #[] #[.pointer (some ⟨b11,0,none⟩),.pointer (some ⟨S+1+1,0,none⟩)]]) (.int .i64 0)).run Tryz.prog W=.ok (.func (.func 55) #[] #[.pointer (some ⟨S,0,none⟩)]) W:=by
 unfold Instr.index;simp [go_sem]
theorem idx_why1(S b9 b11:Nat)(W:World):(Instr.index 136 (.agg #[.func (.func 55) #[] #[.pointer (some ⟨S,0,none⟩)],.func (.func 57) #[] #[.pointer (some ⟨S,0,none⟩),.pointer (some ⟨S+1+1,0,none⟩)],.func (.func 59) #[] #[.pointer (some ⟨b9,0,none⟩),.pointer (some ⟨S,0,none⟩),.pointer (some ⟨S+1,0,none⟩)],.func (.func 60) #[] #[.pointer (some ⟨b11,0,none⟩),.pointer (some ⟨S+1+1,0,none⟩)],.func (.func 61) #[] #[.pointer (some ⟨b11,0,none⟩),.pointer (some ⟨S+1+1,0,none⟩)]]) (.int .i64 1)).run Tryz.prog W=.ok (.func (.func 57) #[] #[.pointer (some ⟨S,0,none⟩),.pointer (some ⟨S+1+1,0,none⟩)]) W:=by
 unfold Instr.index;simp [go_sem]
theorem idx_why2(S b9 b11:Nat)(W:World):(Instr.index 136 (.agg #[.func (.func 55) #[] #[.pointer (some ⟨S,0,none⟩)],.func (.func 57) #[] #[.pointer (some ⟨S,0,none⟩),.pointer (some ⟨S+1+1,0,none⟩)],.func (.func 59) #[] #[.pointer (some ⟨b9,0,none⟩),.pointer (some ⟨S,0,none⟩),.pointer (some ⟨S+1,0,none⟩)],.func (.func 60) #[] #[.pointer (some ⟨b11,0,none⟩),.pointer (some ⟨S+1+1,0,none⟩)],.func (.func 61) #[] #[.pointer (some ⟨b11,0,none⟩),.pointer (some ⟨S+1+1,0,none⟩)]]) (.int .i64 2)).run Tryz.prog W=.ok (.func (.func 59) #[] #[.pointer (some ⟨b9,0,none⟩),.pointer (some ⟨S,0,none⟩),.pointer (some ⟨S+1,0,none⟩)]) W:=by
 unfold Instr.index;simp [go_sem]
theorem idx_why3(S b9 b11:Nat)(W:World):(Instr.index 136 (.agg #[.func (.func 55) #[] #[.pointer (some ⟨S,0,none⟩)],.func (.func 57) #[] #[.pointer (some ⟨S,0,none⟩),.pointer (some ⟨S+1+1,0,none⟩)],.func (.func 59) #[] #[.pointer (some ⟨b9,0,none⟩),.pointer (some ⟨S,0,none⟩),.pointer (some ⟨S+1,0,none⟩)],.func (.func 60) #[] #[.pointer (some ⟨b11,0,none⟩),.pointer (some ⟨S+1+1,0,none⟩)],.func (.func 61) #[] #[.pointer (some ⟨b11,0,none⟩),.pointer (some ⟨S+1+1,0,none⟩)]]) (.int .i64 3)).run Tryz.prog W=.ok (.func (.func 60) #[] #[.pointer (some ⟨b11,0,none⟩),.pointer (some ⟨S+1+1,0,none⟩)]) W:=by
 unfold Instr.index;simp [go_sem]
theorem idx_why4(S b9 b11:Nat)(W:World):(Instr.index 136 (.agg #[.func (.func 55) #[] #[.pointer (some ⟨S,0,none⟩)],.func (.func 57) #[] #[.pointer (some ⟨S,0,none⟩),.pointer (some ⟨S+1+1,0,none⟩)],.func (.func 59) #[] #[.pointer (some ⟨b9,0,none⟩),.pointer (some ⟨S,0,none⟩),.pointer (some ⟨S+1,0,none⟩)],.func (.func 60) #[] #[.pointer (some ⟨b11,0,none⟩),.pointer (some ⟨S+1+1,0,none⟩)],.func (.func 61) #[] #[.pointer (some ⟨b11,0,none⟩),.pointer (some ⟨S+1+1,0,none⟩)]]) (.int .i64 4)).run Tryz.prog W=.ok (.func (.func 61) #[] #[.pointer (some ⟨b11,0,none⟩),.pointer (some ⟨S+1+1,0,none⟩)]) W:=by
 unfold Instr.index;simp [go_sem]
theorem gwhy_ok{w:World}{L:Ly}{x:Gt}(h:GAt w L x)(job now:Int):Calls Tryz.prog 19 #[.pointer (some ⟨L.g,0,none⟩),.int .i64 job,.int .i64 now] w fun e w'=>e=.returned (.tuple #[.int .i64 (x.Why job now).1,.int .i64 (x.Why job now).2])∧Below w.heap.size w w':=by
 by_cases hE:x.call job now=0
 ·obtain ⟨hA,hlast⟩:=Gt.call_zero hE
  obtain ⟨ht,k,rfl,j,hk,hj⟩:=Gt.asked_zero hA
  have HK:=hid hk
  have HR:Hid (x.Why k now=(x.whyJ j now,0)):=hid (by unfold Gt.Why Gt.why;rw [if_neg (by rw [hE];simp),hj])
  have HL:Hid (k<x.js.length):=hid ((List.getElem?_eq_some_iff.1 hk).1)
  have M:=(gcall_ok (h.below (three w (.cells #[.pointer (some ⟨L.g,0,none⟩)] 33) (.cells #[.int .i64 k] 3) (.cells #[.int .i64 now] 2))) k now).mono (R':=fun e w'=>e=.returned (.int .i64 0)∧WhyS w.heap.size L x k now w'∧Below w.heap.size w w') (fun e w' ⟨he,hw⟩=>⟨by rw [he,hE],by
   subst hw
   refine ⟨h.below (three w _ _ _),fun i hi=>h.lt hi,((Blk.new w _ _).alloc _).alloc _,?_,?_,by simp⟩
   ·exact (blk_newAt (by simp)).alloc _
   ·exact blk_newAt (by simp),by subst hw;exact three w _ _ _⟩)
  have MM:=hid M
  clear hE hA hlast ht hk hj h M
  go_enter Tryz.func19,Tryz.ntmps19
  go_wp2_with fail
  refine (MM.out).mono ?_
  rintro e w1 ⟨rfl,hS,hb⟩
  have HS:=hid hS
  have HB:=hid hb
  clear hS hb MM
  go_wp2_with fail
  refine wp_region_put (R:=W4 w w.heap.size L x k now j.runs) (by kernel_rfl) (by kernel_rfl) (by kernel_rfl) (by kernel_rfl) ?_ ?_ ?_
  ·intro v
   exact ⟨fun i hi=>(rep_not hi).elim,HS.out.keep (Below.refl _ _).drew,HB.out.drew,by omega,fun hz=>(rep_not hz).elim,fun hz=>(rep_not hz).elim,fun hz=>(rep_not hz).elim⟩
  ·intro Q' K listed v wx i o hsz ho hli ha hR hK
   have HV:=hid hR
   have dep:=fun d hd=>hR.all d (dep_listed ha d hd)
   have hi:i<12:=(List.getElem?_eq_some_iff.1 ho).1
   clear hR hsz
   obtain rfl|rfl|rfl|rfl|rfl|rfl|rfl|rfl|rfl|rfl|rfl|rfl:i=0∨i=1∨i=2∨i=3∨i=4∨i=5∨i=6∨i=7∨i=8∨i=9∨i=10∨i=11:=by omega
   ·-- operation 0
    cases ho
    have p0:wx.cell? ⟨w.heap.size,0,none⟩=some (.pointer (some ⟨L.g,0,none⟩)):=HV.out.st.b0.cell 0
    simp only [pq] at hK ⊢
    go_simp
    exact hK _ _ (HV.out.step (by decide) (by decide) (Below.refl _ _) rfl)
   ·-- operation 1
    cases ho
    have h0:v 0=_:=dep 0 (by kernel_rfl)
    simp only [pq,h0] at hK ⊢
    go_simp
    exact hK _ _ (HV.out.step (by decide) (by decide) (Below.refl _ _) rfl)
   ·-- operation 2
    cases ho
    have h1:v 1=_:=dep 1 (by kernel_rfl)
    simp only [pq,h1] at hK ⊢
    go_simp
    exact hK _ _ (HV.out.step (by decide) (by decide) (Below.refl _ _) rfl)
   ·-- operation 3
    cases ho
    have h2:v 2=_:=dep 2 (by kernel_rfl)
    have c0:=HV.out.st.g.c0
    simp only [pq,h2] at hK ⊢
    go_simp
    exact hK _ _ (HV.out.step (by decide) (by decide) (Below.refl _ _) rfl)
   ·-- operation 4
    cases ho
    have p1:wx.cell? ⟨w.heap.size+1,0,none⟩=some (.int .i64 k):=HV.out.st.b1.cell 0
    simp only [pq] at hK ⊢
    go_simp
    exact hK _ _ (HV.out.step (by decide) (by decide) (Below.refl _ _) rfl)
   ·-- operation 5
    cases ho
    have h3:v 3=_:=dep 3 (by kernel_rfl)
    have h4:v 4=_:=dep 4 (by kernel_rfl)
    have U:=cused_ok HV.out.st.g.caps HV.out.st.g.inv.cp (j:=k) HL.out
    rw [Gt.cp_runs HK.out] at U
    have UU:=hid U
    clear U
    simp only [pq,h3,h4] at hK ⊢
    go_simp
    refine (UU.out).mono ?_
    rintro _ w5 ⟨rfl,hb⟩
    exact hK _ _ (HV.out.step (by decide) (by decide) hb rfl)
   ·-- operation 6
    cases ho
    have h5:v 5=_:=dep 5 (by kernel_rfl)
    simp only [pq,h5] at hK ⊢
    go_simp
    exact hK _ _ (HV.out.step (by decide) (by decide) (Below.refl _ _) rfl)
   ·-- operation 7
    cases ho
    have h6:v 6=_:=dep 6 (by kernel_rfl)
    simp only [pq,h6] at hK ⊢
    go_simp
    exact hK _ _ (HV.out.step (by decide) (by decide) (Below.refl _ _) rfl)
   ·-- operation 8
    cases ho
    have h6:v 6=_:=dep 6 (by kernel_rfl)
    simp only [pq,h6] at hK ⊢
    go_simp
    exact hK _ _ (HV.out.step (by decide) (by decide) (Below.refl _ _) rfl)
   ·-- operation 9
    cases ho
    simp only [pq] at hK ⊢
    go_simp
    refine hK _ _ ?_
    have hba:Below wx.heap.size wx (wx.alloc (.cells #[.int .i64 0] 3)):=(Below.refl _ _).alloc (Nat.le_refl _) _
    refine ⟨fun m hm=>?_,HV.out.st.keep (hba.mono HV.out.st.size),HV.out.bel.trans (hba.mono HV.out.bel.size),HV.out.hs,fun _=>?_,fun _ _=>?_,fun hz=>?_⟩
    ·by_cases e:m=9
     ·subst e;rw [updC_eq];exact ⟨rfl,HV.out.st.size⟩
     ·rw [updC_ne e];exact HV.out.all m ((set_at m hm).resolve_left e)
    ·rw [Array.getElem?_setIfInBounds_self_of_lt (Array.getElem?_eq_some_iff.1 hli).1]
    ·rw [updC_eq];exact Blk.new _ _ _
    ·exfalso;have hz9:=HV.out.ord ((set_at 10 hz).resolve_left (by decide));rw [hli] at hz9;cases hz9
   ·-- operation 10
    cases ho
    have h7:v 7=_:=dep 7 (by kernel_rfl)
    have h9:v 9=.pointer (some ⟨blkOf (v 9),0,none⟩)∧w.heap.size+3≤blkOf (v 9):=dep 9 (by kernel_rfl)
    have hB9:=HV.out.new (dep_listed ha 9 (by kernel_rfl)) hli
    have HV9:=hid h9
    have h9e:=h9.1
    have hb9:=h9.2
    clear h9
    generalize hbq:blkOf (v 9)=b at h9e hb9 hB9
    have HBQ:=hid hbq
    clear hbq
    have c9:wx.cell? ⟨b,0,none⟩=some (.int .i64 0):=hB9.cell 0
    have f9:wx.frozen? ⟨b,0,none⟩=false:=hB9.frozen 0
    have HB9:=hid hB9
    clear hB9
    simp only [pq,h7,h9e] at hK ⊢
    go_simp
    refine hK undef _ ?_
    have hset:=HB9.out.set_ 0 (.int .i64 j.runs)
    replace hset:Blk (wx.setCell ⟨b,0,none⟩ (.int .i64 j.runs)) b 3 #[.int .i64 j.runs]:=hset
    have hbel:Below (w.heap.size+3) wx (wx.setCell ⟨b,0,none⟩ (.int .i64 j.runs)):=(Below.refl _ _).setCell hb9 _
    refine ⟨fun m hm=>?_,HV.out.st.keep hbel,HV.out.bel.trans (hbel.mono HV.out.hs),HV.out.hs,fun _=>set_keep (dep_listed ha 9 (by kernel_rfl)),fun _ hz=>?_,fun _=>by rw [updC_ne (by decide),HBQ.out];exact hset⟩
    ·by_cases e:m=10
     ·subst e;trivial
     ·rw [updC_ne e];exact HV.out.all m ((set_at m hm).resolve_left e)
    ·rw [Array.getElem?_setIfInBounds_self_of_lt (Array.getElem?_eq_some_iff.1 hli).1] at hz;cases hz
   ·-- operation 11
    cases ho
    have h8:v 8=_:=dep 8 (by kernel_rfl)
    simp only [pq,h8] at hK ⊢
    go_simp
    exact hK _ _ (HV.out.step (by decide) (by decide) (Below.refl _ _) rfl)
  ·intro v listed w2 hall hR
   have hB9:=hR.fin (hall 10 (by decide))
   have h9:=hR.all 9 (hall 9 (by decide))
   replace h9:v 9=.pointer (some ⟨blkOf (v 9),0,none⟩)∧w.heap.size+3≤blkOf (v 9):=h9
   have hb9:=h9.2
   replace h9:=h9.1
   generalize blkOf (v 9)=b9 at h9 hb9 hB9
   have h11:=hR.all 11 (hall 11 (by decide))
   replace h11:v 11=_:=h11
   have HS2:=hid hR.st
   have HB2:=hid hR.bel
   have HB9:=hid (And.intro hb9 hB9)
   simp only [pq,h9,h11]
   clear hR h9 h11 hb9 hB9 hall
   have q0:w2.cell? ⟨w.heap.size,0,none⟩=some (.pointer (some ⟨L.g,0,none⟩)):=HS2.out.b0.cell 0
   have q1:w2.cell? ⟨w.heap.size+1,0,none⟩=some (.int .i64 k):=HS2.out.b1.cell 0
   obtain ⟨bd,-,c3,d0,d1,hbd,hl⟩:=HS2.out.g.dr HK.out
   go_wp2_with fail
   go_region_held3 (fun w'=>w'.cell? ⟨w.heap.size,0,none⟩=some (.pointer (some ⟨L.g,0,none⟩))∧w'.cell? ⟨w.heap.size+1,0,none⟩=some (.int .i64 k)∧w'.cell? ⟨L.g,3,none⟩=some (.slice (some ⟨bd,0,none⟩) x.js.length L.dc)∧w'.cell? ⟨bd,k*2,none⟩=some (.pointer (some ⟨L.li k,0,none⟩))∧w'.cell? ⟨bd,k*2+1,none⟩=some (.pointer (some ⟨L.bo k,0,none⟩))) (go_keep) (fail)
   obtain ⟨W5,hW5⟩:∃W5,W5=(w2.alloc (.cells #[.pointer (some ⟨L.li k,0,none⟩),.pointer (some ⟨L.bo k,0,none⟩)] 125)).drew:=⟨_,rfl⟩
   have hb5:Below w2.heap.size w2 W5:=by rw [hW5];exact ((Below.refl _ _).alloc (Nat.le_refl _) _).drew
   have HT5:Hid (WhyT w.heap.size b9 w2.heap.size L x k j now W5):=hid ⟨HS2.out.keep (hb5.mono HS2.out.size),HK.out,HB9.out.2.below hb5 HB9.out.2.lt,by rw [hW5];exact (Blk.new w2 _ _).drew⟩
   have HB5:=hid (HB2.out.trans (hb5.mono HB2.out.size))
   have HW5:=hid (show w2.heap.size<W5.heap.size by rw [hW5];simp [World.drew])
   rw [←hW5]
   generalize w2.heap.size=b11 at *
   clear hW5 hb5 q0 q1 c3 d0 d1 hbd HS2 HB9
   obtain ⟨W6,hW6⟩:∃W6,W6=W5.alloc (.cells #[.func (.func 55) #[] #[.pointer (some ⟨w.heap.size,0,none⟩)],.func (.func 57) #[] #[.pointer (some ⟨w.heap.size,0,none⟩),.pointer (some ⟨w.heap.size+1+1,0,none⟩)],.func (.func 59) #[] #[.pointer (some ⟨b9,0,none⟩),.pointer (some ⟨w.heap.size,0,none⟩),.pointer (some ⟨w.heap.size+1,0,none⟩)],.func (.func 60) #[] #[.pointer (some ⟨b11,0,none⟩),.pointer (some ⟨w.heap.size+1+1,0,none⟩)],.func (.func 61) #[] #[.pointer (some ⟨b11,0,none⟩),.pointer (some ⟨w.heap.size+1+1,0,none⟩)]] 136):=⟨_,rfl⟩
   have hb6:Below W5.heap.size W5 W6:=by rw [hW6];exact (Below.refl _ _).alloc (Nat.le_refl _) _
   have HT6:Hid (WhyT w.heap.size b9 b11 L x k j now W6):=hid ⟨HT5.out.s.keep (hb6.mono HT5.out.s.size),HT5.out.hk,HT5.out.u.below hb6 HT5.out.u.lt,HT5.out.d.below hb6 HT5.out.d.lt⟩
   have HBB:=hid (HB5.out.trans (hb6.mono HB5.out.size))
   have HW6:=hid hW6
   clear hW6 hb6 HT5 HB5 HW5
   go_wp2_with fail
   have C1:=hid (fun W (h:WhyT w.heap.size b9 b11 L x k j now W)=>why1_ok h)
   have C2:=hid (fun W (h:WhyT w.heap.size b9 b11 L x k j now W)=>why2_ok h)
   have C3:=hid (fun W (h:WhyT w.heap.size b9 b11 L x k j now W)=>why3_ok h)
   have C4:=hid (fun W (h:WhyT w.heap.size b9 b11 L x k j now W)=>why4_ok h)
   have C5:=hid (fun W (h:WhyT w.heap.size b9 b11 L x k j now W)=>why5_ok h)
   have HR2:=HR.out
   have HWJ:x.whyJ j now=bit (decide (x.cap≤x.total)) 1+bit (!x.both.allows now) 2+bit (decide (j.cap≤j.runs)) 4+bit (!j.lm.allows now) 8+bit (!BK.allows j.bx now) 16:=rfl
   rw [HWJ] at HR2
   clear HWJ
   generalize decide (x.cap≤x.total)=a at C1 HR2
   generalize (!x.both.allows now)=b at C2 HR2
   generalize decide (j.cap≤j.runs)=c at C3 HR2
   generalize (!j.lm.allows now)=d at C4 HR2
   generalize (!BK.allows j.bx now)=e at C5 HR2
   have HRR:Hid (x.Why k now=(((partN a b c d e 5:Nat):Int),0)):=hid (by rw [HR2];cases a<;>cases b<;>cases c<;>cases d<;>cases e<;>rfl)
   clear HR2 HR
   go_loopw [13,46] (fun s13 s46 wr=>∃i,i≤5∧s46=nthI i∧s13=.int .i64 ((partN a b c d e i:Nat):Int)∧WhyT w.heap.size b9 b11 L x k j now wr∧Below w.heap.size w wr) (fun _ s46 _=>5 - intA s46)
   case atStart =>
    have hb6:=HBB.out
    have ht6:=HT6.out
    rw [HW6.out] at hb6 ht6
    exact ⟨0,by decide,rfl,rfl,ht6,hb6⟩
   case round =>
    obtain ⟨i,hi,h46,h13,hT,hB⟩:=hrel
    have HT:=hid hT
    have HB:=hid hB
    clear hT hB HT6 HBB
    obtain rfl|rfl|rfl|rfl|rfl|rfl:i=0∨i=1∨i=2∨i=3∨i=4∨i=5:=by omega
    ·have IX:=idx_why0 w.heap.size b9 b11 wr
     replace h46:=h46.trans (show nthI 0=.int .i64 0 from rfl)
     subst h46 h13
     have hP:partN a b c d e 0<1:=by cases a<;>cases b<;>cases c<;>cases d<;>cases e<;>decide
     have OR:=(or_bit (partN a b c d e 0) 1).1 hP rfl
     have HPT:Hid (partN a b c d e 0+1=partN a b c d e 1∨a=false):=hid (by cases a<;>cases b<;>cases c<;>cases d<;>cases e<;>decide)
     have HPF:Hid (partN a b c d e 0=partN a b c d e 1∨a=true):=hid (by cases a<;>cases b<;>cases c<;>cases d<;>cases e<;>decide)
     generalize partN a b c d e 0=P at *
     cases a
     ·go_wp2_with fail
      refine (C1.out wr HT.out).mono ?_
      rintro e_ w7 ⟨rfl,n,rfl⟩
      go_wp2_with fail
      refine ⟨⟨1,by decide,rfl,pt_no HPF.out,HT.out.drewN n,below_drewN HB.out n⟩,?_⟩
      simp [intA]
     ·go_wp2_with fail
      refine (C1.out wr HT.out).mono ?_
      rintro e_ w7 ⟨rfl,n,rfl⟩
      go_wp2_with fail
      refine ⟨⟨1,by decide,rfl,pt_yes HPT.out,HT.out.drewN n,below_drewN HB.out n⟩,?_⟩
      simp [intA]
    ·have IX:=idx_why1 w.heap.size b9 b11 wr
     replace h46:=h46.trans (show nthI 1=.int .i64 1 from rfl)
     subst h46 h13
     have hP:partN a b c d e 1<2:=by cases a<;>cases b<;>cases c<;>cases d<;>cases e<;>decide
     have OR:=(or_bit (partN a b c d e 1) 2).2.1 hP rfl
     have HPT:Hid (partN a b c d e 1+2=partN a b c d e 2∨b=false):=hid (by cases a<;>cases b<;>cases c<;>cases d<;>cases e<;>decide)
     have HPF:Hid (partN a b c d e 1=partN a b c d e 2∨b=true):=hid (by cases a<;>cases b<;>cases c<;>cases d<;>cases e<;>decide)
     generalize partN a b c d e 1=P at *
     cases b
     ·go_wp2_with fail
      refine (C2.out wr HT.out).mono ?_
      rintro e_ w7 ⟨rfl,n,rfl⟩
      go_wp2_with fail
      refine ⟨⟨2,by decide,rfl,pt_no HPF.out,HT.out.drewN n,below_drewN HB.out n⟩,?_⟩
      simp [intA]
     ·go_wp2_with fail
      refine (C2.out wr HT.out).mono ?_
      rintro e_ w7 ⟨rfl,n,rfl⟩
      go_wp2_with fail
      refine ⟨⟨2,by decide,rfl,pt_yes HPT.out,HT.out.drewN n,below_drewN HB.out n⟩,?_⟩
      simp [intA]
    ·have IX:=idx_why2 w.heap.size b9 b11 wr
     replace h46:=h46.trans (show nthI 2=.int .i64 2 from rfl)
     subst h46 h13
     have hP:partN a b c d e 2<4:=by cases a<;>cases b<;>cases c<;>cases d<;>cases e<;>decide
     have OR:=(or_bit (partN a b c d e 2) 4).2.2.1 hP rfl
     have HPT:Hid (partN a b c d e 2+4=partN a b c d e 3∨c=false):=hid (by cases a<;>cases b<;>cases c<;>cases d<;>cases e<;>decide)
     have HPF:Hid (partN a b c d e 2=partN a b c d e 3∨c=true):=hid (by cases a<;>cases b<;>cases c<;>cases d<;>cases e<;>decide)
     generalize partN a b c d e 2=P at *
     cases c
     ·go_wp2_with fail
      refine (C3.out wr HT.out).mono ?_
      rintro e_ w7 ⟨rfl,n,rfl⟩
      go_wp2_with fail
      refine ⟨⟨3,by decide,rfl,pt_no HPF.out,HT.out.drewN n,below_drewN HB.out n⟩,?_⟩
      simp [intA]
     ·go_wp2_with fail
      refine (C3.out wr HT.out).mono ?_
      rintro e_ w7 ⟨rfl,n,rfl⟩
      go_wp2_with fail
      refine ⟨⟨3,by decide,rfl,pt_yes HPT.out,HT.out.drewN n,below_drewN HB.out n⟩,?_⟩
      simp [intA]
    ·have IX:=idx_why3 w.heap.size b9 b11 wr
     replace h46:=h46.trans (show nthI 3=.int .i64 3 from rfl)
     subst h46 h13
     have hP:partN a b c d e 3<8:=by cases a<;>cases b<;>cases c<;>cases d<;>cases e<;>decide
     have OR:=(or_bit (partN a b c d e 3) 8).2.2.2.1 hP rfl
     have HPT:Hid (partN a b c d e 3+8=partN a b c d e 4∨d=false):=hid (by cases a<;>cases b<;>cases c<;>cases d<;>cases e<;>decide)
     have HPF:Hid (partN a b c d e 3=partN a b c d e 4∨d=true):=hid (by cases a<;>cases b<;>cases c<;>cases d<;>cases e<;>decide)
     generalize partN a b c d e 3=P at *
     cases d
     ·go_wp2_with fail
      refine (C4.out wr HT.out).mono ?_
      rintro e_ w7 ⟨rfl,n,rfl⟩
      go_wp2_with fail
      refine ⟨⟨4,by decide,rfl,pt_no HPF.out,HT.out.drewN n,below_drewN HB.out n⟩,?_⟩
      simp [intA]
     ·go_wp2_with fail
      refine (C4.out wr HT.out).mono ?_
      rintro e_ w7 ⟨rfl,n,rfl⟩
      go_wp2_with fail
      refine ⟨⟨4,by decide,rfl,pt_yes HPT.out,HT.out.drewN n,below_drewN HB.out n⟩,?_⟩
      simp [intA]
    ·have IX:=idx_why4 w.heap.size b9 b11 wr
     replace h46:=h46.trans (show nthI 4=.int .i64 4 from rfl)
     subst h46 h13
     have hP:partN a b c d e 4<16:=by cases a<;>cases b<;>cases c<;>cases d<;>cases e<;>decide
     have OR:=(or_bit (partN a b c d e 4) 16).2.2.2.2 hP rfl
     have HPT:Hid (partN a b c d e 4+16=partN a b c d e 5∨e=false):=hid (by cases a<;>cases b<;>cases c<;>cases d<;>cases e<;>decide)
     have HPF:Hid (partN a b c d e 4=partN a b c d e 5∨e=true):=hid (by cases a<;>cases b<;>cases c<;>cases d<;>cases e<;>decide)
     generalize partN a b c d e 4=P at *
     cases e
     ·go_wp2_with fail
      refine (C5.out wr HT.out).mono ?_
      rintro e_ w7 ⟨rfl,n,rfl⟩
      go_wp2_with fail
      refine ⟨⟨5,by decide,rfl,pt_no HPF.out,HT.out.drewN n,below_drewN HB.out n⟩,?_⟩
      simp [intA]
     ·go_wp2_with fail
      refine (C5.out wr HT.out).mono ?_
      rintro e_ w7 ⟨rfl,n,rfl⟩
      go_wp2_with fail
      refine ⟨⟨5,by decide,rfl,pt_yes HPT.out,HT.out.drewN n,below_drewN HB.out n⟩,?_⟩
      simp [intA]
    ·replace h46:=h46.trans (show nthI 5=.int .i64 5 from rfl)
     subst h46 h13
     have HRR2:=hid (And.intro (congrArg Prod.fst HRR.out) (congrArg Prod.snd HRR.out))
     generalize partN a b c d e 5=P at *
     go_wp2_with fail
     go_ret2
     exact ⟨retII HRR2.out.1.symm HRR2.out.2.symm,HB.out⟩
 ·have HR:Hid (x.Why job now=(0,x.call job now)):=hid (by unfold Gt.Why;rw [if_pos hE])
  have M:=hid (gcall_ok (h.below (three w (.cells #[.pointer (some ⟨L.g,0,none⟩)] 33) (.cells #[.int .i64 job] 3) (.cells #[.int .i64 now] 2))) job now)
  generalize x.Why job now=R at *
  generalize x.call job now=E at *
  have q1:(E==0)=false:=by rw [beq_eq_false_iff_ne];exact hE
  have q2:(E != 0)=true:=by rw [bne,q1];rfl
  clear hE h
  go_enter Tryz.func19,Tryz.ntmps19
  go_wp2_with fail
  refine (M.out).mono ?_
  rintro e w' ⟨rfl,rfl⟩
  go_wp2_with fail
  go_ret2
  exact ⟨retII (by rw [HR.out]) (by rw [HR.out]),three w _ _ _⟩
end Go.Proofs.YtpgckpafjiojfaaGreatDoor.AD
