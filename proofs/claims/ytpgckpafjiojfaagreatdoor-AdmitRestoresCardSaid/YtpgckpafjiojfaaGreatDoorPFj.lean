/- What the functions of the kinds of plans return. Contracts of plan.Check and plan.Is. Plain maths: the next time of a plan; what the loops over times and spans do. -/
import Derived.Test.YtpgckpafjiojfaaGreatDoorPFi
open Go.Lib (hid)
set_option maxRecDepth 16000
set_option maxHeartbeats 40000000
namespace Go.Proofs.YtpgckpafjiojfaaGreatDoor.BW
open Go.RowKit BM Go.Shelf MC
open BK hiding ret_bool ret_i64
theorem kd_2_ok(p:Pl)(t:Int)(w:World):Calls Tryz.prog 190 #[.agg (plV p),.int .i64 t] w fun r w'=>r=.returned (.tuple #[.bool false,.int .i64 0])∧Below w.heap.size w w':=by
 have HB:=hid (show Below w.heap.size w (w.alloc (.cells (plV p) 49)) from (Below.refl _ w).alloc (Nat.le_refl _) _)
 unfold plV at *
 go_enter Tryz.func190,Tryz.ntmps190
 go_wp2_with fail
 go_ret2
 exact ⟨rfl,HB.out⟩
theorem kd_3_ok(p:Pl)(t:Int)(w:World):Calls Tryz.prog 191 #[.agg (plV p),.int .i64 t] w fun r w'=>r=.returned (.tuple #[.int .i64 0,.bool false,.int .i64 0])∧Below w.heap.size w w':=by
 have HB:=hid (show Below w.heap.size w (w.alloc (.cells (plV p) 49)) from (Below.refl _ w).alloc (Nat.le_refl _) _)
 unfold plV at *
 go_enter Tryz.func191,Tryz.ntmps191
 go_wp2_with fail
 go_ret3
 exact ⟨rfl,HB.out⟩
theorem kd_4_ok(p:Pl)(a b:Int)(w:World):Calls Tryz.prog 192 #[.agg (plV p),.int .i64 a,.int .i64 b] w fun r w'=>r=.returned (.tuple #[.int .i64 0,.int .i64 0])∧Below w.heap.size w w':=by
 have HB:=hid (show Below w.heap.size w (w.alloc (.cells (plV p) 49)) from (Below.refl _ w).alloc (Nat.le_refl _) _)
 unfold plV at *
 go_enter Tryz.func192,Tryz.ntmps192
 go_wp2_with fail
 go_ret2
 exact ⟨rfl,HB.out⟩
theorem kd_6_ok(p:Pl)(t:Int)(w:World)(hx:U64s p.x)(hT:SpTab w)(hTab:Tab w):Calls Tryz.prog 196 #[.agg (plV p),.int .i64 t] w fun r w'=>r=.returned (.tuple #[.bool (isV p.x p.z t),.int .i64 (chk p.x p.z [t])])∧Below w.heap.size w w':=by
 have hB1:Below w.heap.size w (w.alloc (.cells (plV p) 49)):=(Below.refl _ w).alloc (Nat.le_refl _) _
 have CX:=hid (pis_ok p.x hx p.z t (w.alloc (.cells (plV p) 49)) (hT.below hB1) (tab_below hTab hB1 (World.block_lt_of_cell? w _ (hTab 0 (by decide)))))
 have HB1:=hid hB1
 generalize isV p.x p.z t=v1 at *
 generalize chk p.x p.z [t]=v2 at *
 clear hB1
 unfold exV at CX
 unfold plV at *
 go_enter Tryz.func196,Tryz.ntmps196
 go_wp2_with fail
 refine (CX.out).mono ?_
 rintro e_ w2 ⟨rfl,hb⟩
 have HB2:=hid (HB1.out.trans (Below.mono (w:=w.alloc _) hb HB1.out.size))
 clear hb
 go_wp2_with fail
 go_ret2
 exact ⟨rfl,HB2.out⟩
theorem kd_7_ok(p:Pl)(t:Int)(w:World)(hx:U64s p.x)(hT:SpTab w)(hTab:Tab w):Calls Tryz.prog 198 #[.agg (plV p),.int .i64 t] w fun r w'=>r=.returned (.tuple #[.int .i64 (optI (nxV p.x p.z t)),.bool (nxV p.x p.z t).isSome,.int .i64 (chk p.x p.z [t])])∧Below w.heap.size w w':=by
 have hB1:Below w.heap.size w (w.alloc (.cells (plV p) 49)):=(Below.refl _ w).alloc (Nat.le_refl _) _
 have CX:=hid (pnext_ok p.x hx p.z t (w.alloc (.cells (plV p) 49)) (hT.below hB1) (tab_below hTab hB1 (World.block_lt_of_cell? w _ (hTab 0 (by decide)))))
 have HB1:=hid hB1
 generalize (nxV p.x p.z t).isSome=v3 at *
 generalize optI (nxV p.x p.z t)=v1 at *
 generalize chk p.x p.z [t]=v2 at *
 clear hB1
 unfold exV at CX
 unfold plV at *
 go_enter Tryz.func198,Tryz.ntmps198
 go_wp2_with fail
 refine (CX.out).mono ?_
 rintro e_ w2 ⟨rfl,hb⟩
 have HB2:=hid (HB1.out.trans (Below.mono (w:=w.alloc _) hb HB1.out.size))
 clear hb
 go_wp2_with fail
 go_ret3
 exact ⟨rfl,HB2.out⟩
theorem kd_8_ok(p:Pl)(a b:Int)(w:World)(hx:U64s p.x)(hT:SpTab w):Calls Tryz.prog 200 #[.agg (plV p),.int .i64 a,.int .i64 b] w fun r w'=>r=.returned (.tuple #[.int .i64 (ctR p.x p.z a b:Nat),.int .i64 (chk p.x p.z [a,b])])∧Below w.heap.size w w':=by
 have hB1:Below w.heap.size w (w.alloc (.cells (plV p) 49)):=(Below.refl _ w).alloc (Nat.le_refl _) _
 have CX:=hid (pcount_ok p.x hx p.z a b (w.alloc (.cells (plV p) 49)) (hT.below hB1))
 have HB1:=hid hB1
 generalize (ctR p.x p.z a b:Int)=v1 at *
 generalize chk p.x p.z [a,b]=v2 at *
 clear hB1
 unfold exV at CX
 unfold plV at *
 go_enter Tryz.func200,Tryz.ntmps200
 go_wp2_with fail
 refine (CX.out).mono ?_
 rintro e_ w2 ⟨rfl,hb⟩
 have HB2:=hid (HB1.out.trans (Below.mono (w:=w.alloc _) hb HB1.out.size))
 clear hb
 go_wp2_with fail
 go_ret2
 exact ⟨rfl,HB2.out⟩
theorem kd_10_ok(p:Pl)(t:Int)(w:World):Calls Tryz.prog 204 #[.agg (plV p),.int .i64 t] w fun r w'=>r=.returned (.tuple #[.bool (p.e.isV t),.int .i64 (p.e.ofE [t])])∧Below w.heap.size w w':=by
 have hB1:Below w.heap.size w (w.alloc (.cells (plV p) 49)):=(Below.refl _ w).alloc (Nat.le_refl _) _
 have CX:=hid (eis_ok p.e t (w.alloc (.cells (plV p) 49)))
 have HB1:=hid hB1
 generalize p.e.isV t=v1 at *
 generalize p.e.ofE [t]=v2 at *
 clear hB1
 unfold evV at CX
 unfold plV at *
 go_enter Tryz.func204,Tryz.ntmps204
 go_wp2_with fail
 refine (CX.out).mono ?_
 rintro e_ w2 ⟨rfl,hb⟩
 have HB2:=hid (HB1.out.trans (Below.mono (w:=w.alloc _) hb HB1.out.size))
 clear hb
 go_wp2_with fail
 go_ret2
 exact ⟨rfl,HB2.out⟩
theorem kd_11_ok(p:Pl)(t:Int)(w:World):Calls Tryz.prog 206 #[.agg (plV p),.int .i64 t] w fun r w'=>r=.returned (.tuple #[.int .i64 ((p.e.nxV t).getD 0),.bool (p.e.nxV t).isSome,.int .i64 (p.e.ofE [t])])∧Below w.heap.size w w':=by
 have hB1:Below w.heap.size w (w.alloc (.cells (plV p) 49)):=(Below.refl _ w).alloc (Nat.le_refl _) _
 have CX:=hid (enext_ok p.e t (w.alloc (.cells (plV p) 49)))
 have HB1:=hid hB1
 generalize (p.e.nxV t).isSome=v3 at *
 generalize (p.e.nxV t).getD 0=v1 at *
 generalize p.e.ofE [t]=v2 at *
 clear hB1
 unfold evV at CX
 unfold plV at *
 go_enter Tryz.func206,Tryz.ntmps206
 go_wp2_with fail
 refine (CX.out).mono ?_
 rintro e_ w2 ⟨rfl,hb⟩
 have HB2:=hid (HB1.out.trans (Below.mono (w:=w.alloc _) hb HB1.out.size))
 clear hb
 go_wp2_with fail
 go_ret3
 exact ⟨rfl,HB2.out⟩
theorem kd_12_ok(p:Pl)(a b:Int)(w:World):Calls Tryz.prog 208 #[.agg (plV p),.int .i64 a,.int .i64 b] w fun r w'=>r=.returned (.tuple #[.int .i64 (p.e.ctV a b),.int .i64 (p.e.ofE [a,b])])∧Below w.heap.size w w':=by
 have hB1:Below w.heap.size w (w.alloc (.cells (plV p) 49)):=(Below.refl _ w).alloc (Nat.le_refl _) _
 have CX:=hid (ecount_ok p.e a b (w.alloc (.cells (plV p) 49)))
 have HB1:=hid hB1
 generalize p.e.ctV a b=v1 at *
 generalize p.e.ofE [a,b]=v2 at *
 clear hB1
 unfold evV at CX
 unfold plV at *
 go_enter Tryz.func208,Tryz.ntmps208
 go_wp2_with fail
 refine (CX.out).mono ?_
 rintro e_ w2 ⟨rfl,hb⟩
 have HB2:=hid (HB1.out.trans (Below.mono (w:=w.alloc _) hb HB1.out.size))
 clear hb
 go_wp2_with fail
 go_ret2
 exact ⟨rfl,HB2.out⟩
structure KFn(p:Pl)(f1 f2 f3:Nat):Prop where
 e1:∀args w,(callFunc f1 args).run Tryz.prog w=.ok (.enter f1 args) w
 e2:∀args w,(callFunc f2 args).run Tryz.prog w=.ok (.enter f2 args) w
 e3:∀args w,(callFunc f3 args).run Tryz.prog w=.ok (.enter f3 args) w
 c1:∀t w,0≤t∧t≤253402300799→SpTab w→Tab w→Calls Tryz.prog f1 #[.agg (plV p),.int .i64 t] w fun r w'=>r=.returned (.tuple #[.bool (qK p t),.int .i64 0])∧Below w.heap.size w w'
 c2:∀t w,0≤t∧t≤253402300799→SpTab w→Tab w→Calls Tryz.prog f2 #[.agg (plV p),.int .i64 t] w fun r w'=>r=.returned (.tuple #[.int .i64 (optI (nxP (qK p) t)),.bool (nxP (qK p) t).isSome,.int .i64 0])∧Below w.heap.size w w'
 c3:∀a b w,0≤a∧a≤253402300799→0≤b∧b≤253402300799→SpTab w→Tab w→Calls Tryz.prog f3 #[.agg (plV p),.int .i64 a,.int .i64 b] w fun r w'=>r=.returned (.tuple #[.int .i64 (ctP (qK p) a b),.int .i64 0])∧Below w.heap.size w w'
theorem err_ok{e:Ev}(h:e.err=0):e.ok=true:=by
 unfold Ev.err at h
 by_cases hh:e.ok=true
 ·exact hh
 ·rw [if_neg hh] at h;cases h
theorem kfn_ok(p:Pl)(hx:U64s p.x)(hv:plK p=true):∃f0 f1 f2 f3:Nat,kdV p.k=#[.func (.func f0) #[] #[],.func (.func f1) #[] #[],.func (.func f2) #[] #[],.func (.func f3) #[] #[]]∧KFn p f1 f2 f3:=by
 unfold plK at hv
 by_cases h0:p.k=0
 ·have hq:qK p=fun _=>false:=by
   funext t
   unfold qK
   rw [if_neg (by omega),if_neg (by omega)]
  refine ⟨_,190,191,192,by unfold kdV;rw [if_pos h0];rfl,enters_of Tryz.func190 (by kernel_rfl) rfl,enters_of Tryz.func191 (by kernel_rfl) rfl,enters_of Tryz.func192 (by kernel_rfl) rfl,?_,?_,?_⟩
  ·intro t w _ _ _
   rw [hq]
   exact kd_2_ok p t w
  ·intro t w _ _ _
   have:nxP (qK p) t=none:=by rw [hq];unfold nxP;rw [tmsP_nil (fun _ _ _=>rfl)];rfl
   rw [this]
   exact kd_3_ok p t w
  ·intro a b w _ _ _ _
   have:ctP (qK p) a b=0:=by rw [hq];exact ctP_nil (fun _ _ _=>rfl)
   rw [this]
   exact kd_4_ok p a b w
 ·rw [if_neg h0] at hv
  by_cases h1:p.k=1
  ·rw [if_pos h1] at hv
   simp only [Bool.and_eq_true,decide_eq_true_eq] at hv
   obtain ⟨⟨_,hc⟩,hz⟩:=hv
   have hq:qK p=At p.x p.z:=by
    funext t
    unfold qK
    rw [if_pos h1]
   have k1:∀t,0≤t∧t≤253402300799→chk p.x p.z [t]=0:=fun t ht=>(chk_times hc hz).trans (timesR_one ht)
   have k2:∀a b,0≤a∧a≤253402300799→0≤b∧b≤253402300799→chk p.x p.z [a,b]=0:=fun a b ha hb=>(chk_times hc hz).trans (timesR_two ha hb)
   refine ⟨_,196,198,200,by unfold kdV;rw [if_neg h0,if_pos h1];rfl,enters_of Tryz.func196 (by kernel_rfl) rfl,enters_of Tryz.func198 (by kernel_rfl) rfl,enters_of Tryz.func200 (by kernel_rfl) rfl,?_,?_,?_⟩
   ·intro t w ht hT hTab
    have:=kd_6_ok p t w hx hT hTab
    rwa [k1 t ht,isV_At (k1 t ht),←hq] at this
   ·intro t w ht hT hTab
    have:=kd_7_ok p t w hx hT hTab
    rwa [k1 t ht,nxV_eq (k1 t ht),←hq] at this
   ·intro a b w ha hb hT _
    have:=kd_8_ok p a b w hx hT
    rwa [k2 a b ha hb,ctR_eq (k2 a b ha hb),←hq] at this
  ·rw [if_neg h1] at hv
   by_cases h2:p.k=2
   ·rw [if_pos h2] at hv
    simp only [Bool.and_eq_true,decide_eq_true_eq] at hv
    have hok:=err_ok hv.2
    have hq:qK p=p.e.has:=by
     funext t
     unfold qK
     rw [if_neg h1,if_pos h2]
    have k1:∀t,0≤t∧t≤253402300799→p.e.ofE [t]=0:=fun t ht=>by unfold Ev.ofE;rw [if_pos hok,timesR_one ht]
    have k2:∀a b,0≤a∧a≤253402300799→0≤b∧b≤253402300799→p.e.ofE [a,b]=0:=fun a b ha hb=>by unfold Ev.ofE;rw [if_pos hok,timesR_two ha hb]
    have hOk:=Ev.ok_iff.1 hok
    refine ⟨_,204,206,208,by unfold kdV;rw [if_neg h0,if_neg h1,if_pos h2];rfl,enters_of Tryz.func204 (by kernel_rfl) rfl,enters_of Tryz.func206 (by kernel_rfl) rfl,enters_of Tryz.func208 (by kernel_rfl) rfl,?_,?_,?_⟩
    ·intro t w ht _ _
     have:=kd_10_ok p t w
     rwa [k1 t ht,Ev.isV_eq (k1 t ht),←hq] at this
    ·intro t w ht _ _
     have:=kd_11_ok p t w
     rw [k1 t ht,Ev.nxV_eq hOk (k1 t ht),←hq] at this
     exact this
    ·intro a b w ha hb _ _
     have:=kd_12_ok p a b w
     rwa [k2 a b ha hb,Ev.ctV_eq hOk (k2 a b ha hb),←hq] at this
   ·rw [if_neg h2] at hv;cases hv
structure PArg(w:World)(p:Pl)(l:List (Int × Int)):Prop where
 x:U64s p.x
 n:l.length=p.n
 n9:p.n<9223372036854775807
 at_:SpansAt w p.a l
 sp:SpTab w
 tab:Tab w
theorem PArg.below{w w':World}{p:Pl}{l:List (Int × Int)}(h:PArg w p l)(hb:Below w.heap.size w w'):PArg w' p l :=
 ⟨h.x,h.n,h.n9,h.at_.below hb,h.sp.below hb,tab_below h.tab hb (World.block_lt_of_cell? w _ (h.tab 0 (by decide)))⟩
noncomputable def isP(p:Pl)(l:List (Int × Int))(t:Int):Bool:=qK p t&&!l.any (inS t)
theorem plE_cases(p:Pl)(l:List (Int × Int)):plE p l=0∨plE p l=16:=by unfold plE;split<;>simp
theorem plE_ok{p:Pl}{l:List (Int × Int)}(h:plE p l=0):plK p=true∧spE l=0:=by
 unfold plE at h
 split at h
 ·rename_i h2
  simpa using h2
 ·cases h
theorem finE_nil(p:Pl)(l:List (Int × Int)):finE p l []=plE p l:=by
 unfold finE
 rcases plE_cases p l with h|h
 ·rw [h];rfl
 ·rw [h];rfl
theorem finV_bad{p:Pl}{l:List (Int × Int)}{ts:List Int}(h:finE p l ts≠0):finV p l ts=#[.nilFunc,.nilFunc,.nilFunc,.nilFunc]:=by
 unfold finV
 rw [if_neg h];rfl
theorem finV_ok{p:Pl}{l:List (Int × Int)}{ts:List Int}(h:finE p l ts=0):finV p l ts=kdV p.k:=by
 unfold finV
 rw [if_pos h]
theorem plcheck_ok(p:Pl)(l:List (Int × Int))(w:World)(h:PArg w p l):Calls Tryz.prog 168 #[.agg (plV p)] w fun r w'=>r=.returned (.int .i64 (plE p l))∧Below w.heap.size w w':=by
 have hB1:Below w.heap.size w (w.alloc (.cells (plV p) 49)):=(Below.refl _ w).alloc (Nat.le_refl _) _
 have CF:=hid (find_ok p h.x l h.n h.n9 [] none 0 0 rfl (by decide) (w.alloc (.cells (plV p) 49)) (h.sp.below hB1) (h.at_.below hB1) (fun k hk=>absurd hk (by simp)))
 have HB1:=hid hB1
 rw [finE_nil] at CF
 have HVK:=hid (fun hh:plE p l=0=>kfn_ok p h.x (plE_ok hh).1)
 have HV1:=hid (fun hh:plE p l=0=>finV_ok (ts:=[]) ((finE_nil p l).trans hh))
 have HV2:=hid (fun hh:plE p l≠0=>finV_bad (ts:=[]) (fun h3=>hh ((finE_nil p l).symm.trans h3)))
 generalize finV p l []=V at *
 clear h hB1
 unfold plV at *
 by_cases hE:plE p l=0
 ·obtain ⟨f0,f1,f2,f3,hk,_⟩:=HVK.out hE
  obtain rfl:V=_:=(HV1.out hE).trans hk
  generalize plE p l=E at *
  clear HVK HV1 HV2 hk hE
  go_enter Tryz.func168,Tryz.ntmps168
  go_wp2_with fail
  refine (CF.out).mono ?_
  rintro e_ w2 ⟨rfl,hb⟩
  have HB2:=hid (HB1.out.trans (Below.mono (w:=w.alloc _) hb HB1.out.size))
  clear hb CF HB1
  go_wp2_with fail
  go_ret
  exact ⟨rfl,HB2.out.alloc HB2.out.size _⟩
 ·obtain rfl:V=_:=HV2.out hE
  generalize plE p l=E at *
  clear HVK HV1 HV2 hE
  go_enter Tryz.func168,Tryz.ntmps168
  go_wp2_with fail
  refine (CF.out).mono ?_
  rintro e_ w2 ⟨rfl,hb⟩
  have HB2:=hid (HB1.out.trans (Below.mono (w:=w.alloc _) hb HB1.out.size))
  clear hb CF HB1
  go_wp2_with fail
  go_ret
  exact ⟨rfl,HB2.out.alloc HB2.out.size _⟩
def frP(q:Int→Bool)(a:Int):Option Int:=(tmsP q a 253402300799).head?
theorem frP_none{q:Int→Bool}{a:Int}:frP q a=none↔∀m,a≤m→m≤253402300799→q m=false:=by
 unfold frP
 rw [List.head?_eq_none_iff]
 constructor
 ·intro h m m1 m2
  rw [←Bool.not_eq_true]
  intro hm
  have:=tmsP_mem.2 ⟨m1,m2,hm⟩
  rw [h] at this;cases this
 ·exact fun h=>tmsP_nil h
theorem isP_no{p:Pl}{l:List (Int × Int)}{t:Int}(h:qK p t=false):isP p l t=false:=by unfold isP;rw [h];rfl
theorem nx_none{p:Pl}{l:List (Int × Int)}{t:Int}(h:nxP (qK p) t=none):nxP (isP p l) t=none :=
 frP_none.2 fun m m1 m2=>isP_no (frP_none.1 h m m1 m2)
end Go.Proofs.YtpgckpafjiojfaaGreatDoor.BW
