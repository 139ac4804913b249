/- Contract of config.Check. Contracts of the reference's CheckGlobals and Check. Contracts of config.Caps and of the reference's Caps. Contracts of config.Due and of the reference's Due. Contracts of config.Next and of the reference's Next. Contracts of config.Equal and of the reference's Equal. Contract of slices.Clone of jobs. Contract of config.Copy. The chapter's example of a configuration: what it holds, and wakemanlaw16.example. Contracts of wakemanlaw16.Few and ints. The chapter's examples of configurations hold: wakemanlaw16.works. A copy of a configuration: what holds of it. Walk of ConfigNames. Contracts of the reference's config.Copy and config.Equal. -/
import Derived.Test.YtpgckpafjiojfaaGreatDoorCJob
import Derived.OrdersHeld
open Go.Lib (hid)
set_option maxRecDepth 16000
set_option maxHeartbeats 40000000
namespace Go.Proofs.YtpgckpafjiojfaaGreatDoor.BW
open Go.RowKit BM Go.Shelf MC RK
open BK hiding ret_bool ret_i64
structure CkI(w:World)(c:Cf)(rb pb mb:Nat)(S:List ByteArray)(W:World):Prop where
 box:Blk W w.heap.size 31 (cfV c)
 rules:Blk W rb 206 (rulesV pb)
 pbk:Blk W pb 220 #[.map (some mb)]
 set_:SetAt W mb S
 below:Below w.heap.size w W
 hb:w.heap.size<mb
 h1:rb≠mb
 h2:pb≠mb
theorem CkI.next{w:World}{c:Cf}{rb pb mb:Nat}{S:List ByteArray}{X Y:World}(h:CkI w c rb pb mb S X)(hb:Below X.heap.size X Y):CkI w c rb pb mb S Y :=
 ⟨h.box.below hb h.box.lt,h.rules.below hb h.rules.lt,h.pbk.below hb h.pbk.lt,h.set_.below hb,h.below.trans (hb.mono h.below.size),h.hb,h.h1,h.h2⟩
theorem CkI.put{w:World}{c:Cf}{rb pb mb:Nat}{S S':List ByteArray}{X Y:World}(h:CkI w c rb pb mb S X)(hg:X.grownBy Y (some mb))(hs:SetAt Y mb S'):CkI w c rb pb mb S' Y :=
 ⟨h.box.grown hg (by have:=h.hb;simp;omega),h.rules.grown hg (by have:=h.h1;simpa using this),h.pbk.grown hg (by have:=h.h2;simpa using this),hs,h.below.trans (below_only hg h.below.size (Nat.le_of_lt h.hb)),h.hb,h.h1,h.h2⟩
def nmsR(L:JL)(k:Nat):List ByteArray:=((L.take k).map fun x=>x.1.nm).reverse
theorem nmsR_succ{L:JL}{k:Nat}{j:Jb}{l:List (Int × Int)}(h:L[k]? = some (j,l)):nmsR L (k+1)=j.nm::nmsR L k:=by
 obtain ⟨hk,hx⟩:=List.getElem?_eq_some_iff.1 h
 unfold nmsR
 rw [List.take_succ_eq_append_getElem hk,hx]
 simp
theorem nmsR_len{L:JL}{k:Nat}:(nmsR L k).length≤k:=by
 unfold nmsR
 simp
 omega
theorem mem_nmsR{L:JL}{k:Nat}{s:ByteArray}:s∈nmsR L k↔∃i,∃hi:i<L.length,i<k∧L[i].1.nm=s:=by
 unfold nmsR
 rw [List.mem_reverse,List.mem_map]
 constructor
 ·rintro ⟨x,hx,rfl⟩
  obtain ⟨i,hi,rfl⟩:=List.getElem_of_mem hx
  simp at hi
  exact ⟨i,by omega,by omega,by simp⟩
 ·rintro ⟨i,hi,hk,rfl⟩
  exact ⟨L[i],List.mem_take_iff_getElem.2 ⟨i,by omega,rfl⟩,rfl⟩
theorem new_iff{L:JL}{k:Nat}(hk:k<L.length):newN L k↔L[k].1.nm ∉ nmsR L k:=by
 rw [mem_nmsR]
 constructor
 ·rintro h ⟨i,hi,hik,e⟩
  exact h i hi hk hik e
 ·intro h i hi hk' hik e
  exact h ⟨i,hi,hik,e⟩
def Q1(L:JL)(k:Nat):Bool:=match L[k]? with|some x=>!nameB x.1.nm|none=>false
noncomputable def Q2(L:JL)(k:Nat):Bool:=match L[k]? with|some x=>memB x.1.nm (nmsR L k)|none=>false
def Q3(L:JL)(k:Nat):Bool:=match L[k]? with|some x=>!okJ x|none=>false
theorem Q1_all{L:JL}(h:∀i,i<L.length→Q1 L i=false):nmsOk L:=fun k hk=>by
 have:=h k hk
 unfold Q1 at this
 rw [List.getElem?_eq_getElem hk] at this
 simpa using this
theorem Q1_not{L:JL}{k:Nat}(hk:k<L.length)(h:Q1 L k=true):¬nmsOk L:=fun hh=>by
 have:=hh k hk
 unfold Q1 at h
 rw [List.getElem?_eq_getElem hk] at h
 simp [this] at h
theorem Q2_all{L:JL}(h:∀i,i<L.length→Q2 L i=false):∀i,i<L.length→newN L i:=fun k hk=>by
 have:=h k hk
 unfold Q2 at this
 rw [List.getElem?_eq_getElem hk] at this
 rw [new_iff hk]
 intro hm
 have this:memB L[k].1.nm (nmsR L k)=false:=this
 rw [memB_iff.2 hm] at this
 cases this
theorem Q2_not{L:JL}{k:Nat}(hk:k<L.length)(h:Q2 L k=true):¬newN L k:=fun hh=>by
 unfold Q2 at h
 rw [List.getElem?_eq_getElem hk] at h
 exact (new_iff hk).1 hh (memB_iff.1 h)
theorem Q3_all{L:JL}(h:∀i,i<L.length→Q3 L i=false):allOk L:=fun k hk=>by
 have:=h k hk
 unfold Q3 at this
 rw [List.getElem?_eq_getElem hk] at this
 simpa using this
theorem Q3_not{L:JL}{k:Nat}(hk:k<L.length)(h:Q3 L k=true):¬allOk L:=fun hh=>by
 have:=hh k hk
 unfold Q3 at h
 rw [List.getElem?_eq_getElem hk] at h
 simp [this] at h
theorem ent52:∀args w,(callFunc 145 args).run Tryz.prog w=.ok (.enter 145 args) w:=enters_of Tryz.func145 (by kernel_rfl) rfl
theorem ent83:∀args w,(callFunc 164 args).run Tryz.prog w=.ok (.enter 164 args) w:=enters_of Tryz.func164 (by kernel_rfl) rfl
theorem ent85:∀args w,(callFunc 166 args).run Tryz.prog w=.ok (.enter 166 args) w:=enters_of Tryz.func166 (by kernel_rfl) rfl
theorem ent86:∀args w,(callFunc 167 args).run Tryz.prog w=.ok (.enter 167 args) w:=enters_of Tryz.func167 (by kernel_rfl) rfl
theorem ask1_ok(c:Cf)(L:JL)(X:World)(q:Nat)(hA:CArg X c L)(hq:Blk X q 206 #[f1V,.int .i64 15]) :
 Calls Tryz.prog 144 #[.slice c.a c.n c.c,.func (.func 145) #[] #[.pointer (some ⟨q,0,none⟩)]] X fun e w'=>(e=.returned (.bool true)∧¬nmsOk L∧Below X.heap.size X w')∨(e=.returned (.bool false)∧nmsOk L∧Below X.heap.size X w'):=by
 refine (cfj_ok L c.a c.n c.c hA.in_.n hA.n9 _ q ent52 (fun _ W=>Below X.heap.size X W) (Q1 L) (fun k W h=>(hA.below h).in_.at_) (fun k j l W hjl h=>?_) X (Below.refl _ _)).mono ?_
 ·have hQ:Q1 L k=!nameB j.nm:=by unfold Q1;rw [hjl]
  rw [hQ]
  refine chk1a_ok j q _ 15 ent83 (nameB j.nm) _ W (hq.below h hq.lt) ((rule1_ok j _).mono ?_)
  rintro e w' ⟨rfl,hb⟩
  have h2:=h.alloc h.size (.cells (jbV j) 57)
  exact ⟨rfl,h2.trans (hb.mono h2.size)⟩
 ·rintro e w' (⟨rfl,k,hk,h1,_,h3⟩|⟨rfl,h1,h2⟩)
  ·exact .inl ⟨rfl,Q1_not (by rw [hA.in_.n];exact hk) h1,h3⟩
  ·exact .inr ⟨rfl,Q1_all (by rw [hA.in_.n];exact h1),h2⟩
theorem ask3_ok(c:Cf)(L:JL)(X:World)(q:Nat)(hA:CArg X c L)(hq:Blk X q 206 #[f3V,.int .i64 16]) :
 Calls Tryz.prog 144 #[.slice c.a c.n c.c,.func (.func 145) #[] #[.pointer (some ⟨q,0,none⟩)]] X fun e w'=>(e=.returned (.bool true)∧¬allOk L∧Below X.heap.size X w')∨(e=.returned (.bool false)∧allOk L∧Below X.heap.size X w'):=by
 refine (cfj_ok L c.a c.n c.c hA.in_.n hA.n9 _ q ent52 (fun _ W=>Below X.heap.size X W) (Q3 L) (fun k W h=>(hA.below h).in_.at_) (fun k j l W hjl h=>?_) X (Below.refl _ _)).mono ?_
 ·have hQ:Q3 L k=!okJ (j,l):=by unfold Q3;rw [hjl]
  rw [hQ]
  have h2:=h.alloc h.size (.cells (jbV j) 57)
  have hA2:=hA.below h2
  obtain ⟨hk,hx⟩:=List.getElem?_eq_some_iff.1 hjl
  obtain ⟨_,_,_,_,hpi⟩:=hA2.in_.at_ k hk
  have h9:=hA2.p9 k hk
  rw [hx] at hpi h9
  refine chk1a_ok j q _ 16 ent86 (okJ (j,l)) _ W (hq.below h hq.lt) ((rule3_ok j l _ (hpi.arg h9 hA2.st hA2.tab)).mono ?_)
  rintro e w' ⟨rfl,hb⟩
  exact ⟨rfl,h2.trans (hb.mono h2.size)⟩
 ·rintro e w' (⟨rfl,k,hk,h1,_,h3⟩|⟨rfl,h1,h2⟩)
  ·exact .inl ⟨rfl,Q3_not (by rw [hA.in_.n];exact hk) h1,h3⟩
  ·exact .inr ⟨rfl,Q3_all (by rw [hA.in_.n];exact h1),h2⟩
theorem ask2_ok(w:World)(c:Cf)(L:JL)(rb pb mb q:Nat)(X:World)(hA:CArg w c L)(hN:nmsOk L)(hI:CkI w c rb pb mb [] X)(hq:Blk X q 206 #[f2V pb,.int .i64 6])(hqm:q≠mb) :
 Calls Tryz.prog 144 #[.slice c.a c.n c.c,.func (.func 145) #[] #[.pointer (some ⟨q,0,none⟩)]] X fun e w'=>(e=.returned (.bool true)∧(∃k,k<L.length∧¬newN L k)∧Below w.heap.size w w'∧Blk w' q 206 #[f2V pb,.int .i64 6])∨(e=.returned (.bool false)∧(∀i,i<L.length→newN L i)∧∃S,CkI w c rb pb mb S w'):=by
 refine (cfj_ok L c.a c.n c.c hA.in_.n hA.n9 _ q ent52 (fun k W=>CkI w c rb pb mb (nmsR L k) W∧Blk W q 206 #[f2V pb,.int .i64 6]) (Q2 L) (fun k W h=>(hA.below h.1.below).in_.at_) (fun k j l W hjl h=>?_) X ⟨by unfold nmsR;simpa using hI,hq⟩).mono ?_
 ·have hQ:Q2 L k=!!memB j.nm (nmsR L k):=by unfold Q2;rw [hjl,Bool.not_not]
  rw [hQ,nmsR_succ hjl]
  obtain ⟨hk,hx⟩:=List.getElem?_eq_some_iff.1 hjl
  have hj:=hN k hk
  rw [hx] at hj
  have ha:=(Below.refl _ W).alloc (Nat.le_refl _) (.cells (jbV j) 57)
  have h1:=h.1.next ha
  have hq1:=h.2.below ha h.2.lt
  refine chk1b_ok j q _ pb 6 ent85 (!memB j.nm (nmsR L k)) _ W h.2 ((rule2_ok j pb mb (nmsR L k) _ hj (by have:=nmsR_len (L:=L) (k:=k);have:=hA.n9;have:=hA.in_.n;omega) h1.pbk h1.set_).mono ?_)
  rintro e w' ⟨rfl,hs,hg⟩
  exact ⟨rfl,h1.put hg hs,hq1.grown hg (by simpa using hqm)⟩
 ·rintro e w' (⟨rfl,k,hk,h1,_,h3⟩|⟨rfl,h1,h2⟩)
  ·exact .inl ⟨rfl,⟨k,by rw [hA.in_.n];exact hk,Q2_not (by rw [hA.in_.n];exact hk) h1⟩,h3.1.below,h3.2⟩
  ·exact .inr ⟨rfl,Q2_all (by rw [hA.in_.n];exact h1),_,h2.1⟩
theorem ccheck_ok(c:Cf)(L:JL)(w:World)(hA:CArg w c L):Calls Tryz.prog 98 #[.agg (cfV c)] w fun e w'=>e=.returned (.int .i64 (cfE c.g L))∧Below w.heap.size w w':=by
 have C0:=hid (fun W=>glob_ok c.g W)
 have CR:=hid (fun W=>rules_ok W)
 have HBX:=hid (Blk.new w 31 (cfV c))
 have HB:=hid ((Below.refl _ w).alloc (Nat.le_refl _) (.cells (cfV c) 31))
 have HA:=hid hA
 have HE:Hid (glB c.g=false→cfE c.g L=16):=hid cfE_g
 have HM:Hid (glB c.g=true→64<c.n→cfE c.g L=12):=hid (fun h hn=>cfE_many h (by rw [hA.in_.n];exact hn))
 have H15:Hid (glB c.g=true→¬64<c.n→¬nmsOk L→cfE c.g L=15):=hid (fun h hn=>cfE_name h (by rw [hA.in_.n];exact hn))
 have H6:Hid (glB c.g=true→¬64<c.n→nmsOk L→(∃k,k<L.length∧¬newN L k)→cfE c.g L=6):=hid (fun h hn h1 ⟨k,hk,h2⟩=>cfE_have h (by rw [hA.in_.n];exact hn) h1 hk h2)
 have H16:Hid (glB c.g=true→¬64<c.n→nmsOk L→(∀i,i<L.length→newN L i)→¬allOk L→cfE c.g L=16):=hid (fun h hn h1 h2 h3=>cfE_rule h (by rw [hA.in_.n];exact hn) h1 h2 h3)
 have HZ:Hid (glB c.g=true→¬64<c.n→nmsOk L→(∀i,i<L.length→newN L i)→allOk L→cfE c.g L=0):=hid (fun h hn h1 h2 h3=>cfE_ok h (by rw [hA.in_.n];exact hn) h1 h2 h3)
 generalize cfE c.g L=E at *
 generalize glB c.g=gb at *
 rw [cfV_eq] at HBX HB ⊢
 unfold glV at C0
 clear hA
 cases gb
 ·have HEE:=hid (HE.out rfl)
  have e0:eB false=16:=rfl
  rw [e0] at C0
  clear HE HM H15 H6 H16 HZ e0
  go_enter Tryz.func98,Tryz.ntmps98
  go_wp2_with fail
  refine (C0.out _).mono ?_
  rintro e w2 ⟨rfl,hb⟩
  have HB2:=hid (HB.out.trans (Below.mono (w:=w.alloc _) hb HB.out.size))
  clear hb
  go_wp2_with fail
  go_ret
  exact ⟨ret_i64 HEE.out.symm,HB2.out⟩
 ·have e0:eB true=0:=rfl
  rw [e0] at C0
  by_cases h64:64<c.n
  ·have d1:decide (64<c.n)=true:=decide_eq_true h64
   have d2:decide ((64:Int)<c.n)=true:=decide_eq_true (by omega)
   have HEE:=hid (HM.out rfl h64)
   clear HE HM H15 H6 H16 HZ e0 h64
   go_enter Tryz.func98,Tryz.ntmps98
   go_wp2_with fail
   refine (C0.out _).mono ?_
   rintro e w2 ⟨rfl,hb⟩
   have HBX2:=hid (Blk.below (w:=w.alloc _) HBX.out hb HBX.out.lt)
   have HB2:=hid (HB.out.trans (Below.mono (w:=w.alloc _) hb HB.out.size))
   have k7:w2.cell? ⟨w.heap.size,7,none⟩=some (.slice c.a c.n c.c):=HBX2.out.cell 7
   clear hb
   go_wp2_with fail
   go_ret
   exact ⟨ret_i64 HEE.out.symm,HB2.out⟩
  ·have d1:decide (64<c.n)=false:=decide_eq_false h64
   have d2:decide ((64:Int)<c.n)=false:=decide_eq_false (by omega)
   have JH15:=hid (H15.out rfl h64)
   have JH6:=hid (H6.out rfl h64)
   have JH16:=hid (H16.out rfl h64)
   have JHZ:=hid (HZ.out rfl h64)
   clear HE HM H15 H6 H16 HZ e0 h64
   go_enter Tryz.func98,Tryz.ntmps98
   go_wp2_with fail
   refine (C0.out _).mono ?_
   rintro e w2 ⟨rfl,hb⟩
   have HBX2:=hid (Blk.below (w:=w.alloc _) HBX.out hb HBX.out.lt)
   have HB2:=hid (HB.out.trans (Below.mono (w:=w.alloc _) hb HB.out.size))
   have k7:w2.cell? ⟨w.heap.size,7,none⟩=some (.slice c.a c.n c.c):=HBX2.out.cell 7
   clear hb
   go_wp2_with fail
   refine (CR.out _).mono ?_
   rintro e w3 ⟨rfl,hr,hp,hs,hb⟩
   have hlt:=HBX2.out.lt
   have HI:Hid (CkI w c (w2.heap.size+2) (w2.heap.size+1) w2.heap.size [] w3):=hid ⟨HBX2.out.below hb HBX2.out.lt,hr,hp,hs,HB2.out.trans (hb.mono HB2.out.size),hlt,by omega,by omega⟩
   generalize w2.heap.size+2=rb at *
   generalize w2.heap.size+1=pb at *
   generalize w2.heap.size=mb at *
   clear hr hp hs hb hlt k7
   go_wp2_with fail
   go_loopw [18] (fun s18 wr=>∃i:Nat,i≤3∧s18=.int .i64 i∧(∃S,CkI w c rb pb mb S wr∧(i≤1→S=[]))∧(1≤i→nmsOk L)∧(2≤i→∀k,k<L.length→newN L k)∧(3≤i→allOk L)) (fun s18 _=>3 - intJ s18)
   case atStart=>exact ⟨0,by omega,rfl,⟨[],HI.out,fun _=>rfl⟩,fun h=>by omega,fun h=>by omega,fun h=>by omega⟩
   case round =>
    obtain ⟨i,hi,rfl,⟨Sx,hI,hS⟩,h1,h2,h3⟩:=hrel
    have HX:=hid (And.intro h1 (And.intro h2 (And.intro h3 hS)))
    have HIx:=hid hI
    clear HI hI h1 h2 h3 hS
    have k7:wr.cell? ⟨w.heap.size,7,none⟩=some (.slice c.a c.n c.c):=HIx.out.box.cell 7
    have hl1:=HIx.out.box.lt
    have hl2:=HIx.out.rules.lt
    obtain rfl|rfl|rfl|rfl:i=0∨i=1∨i=2∨i=3:=by omega
    ·have r0:wr.cell? ⟨rb,0,none⟩=some (.func (.func 164) #[] #[]):=HIx.out.rules.cell 0
     have r1:wr.cell? ⟨rb,1,none⟩=some (.int .i64 15):=HIx.out.rules.cell 1
     have hal:=HIx.out.below.alloc HIx.out.below.size (.cells #[f1V,.int .i64 15] 206)
     have C1:=hid (ask1_ok c L (wr.alloc (.cells #[f1V,.int .i64 15] 206)) wr.heap.size (HA.out.below hal) (Blk.new wr _ _))
     have HQ:=hid (Blk.new wr 206 #[f1V,.int .i64 15])
     have HI2:=hid (HIx.out.next ((Below.refl _ wr).alloc (Nat.le_refl _) (.cells #[f1V,.int .i64 15] 206)))
     unfold f1V at C1 HQ HI2
     clear hal
     go_wp2_with fail
     refine (C1.out).mono ?_
     rintro e w5 (⟨rfl,hn,hb⟩|⟨rfl,hn,hb⟩)
     ·have HE2:=hid (JH15.out hn)
      have HB5:=hid (HI2.out.next hb).below
      have q1:w5.cell? ⟨wr.heap.size,1,none⟩=some (.int .i64 15):=(Blk.below (w:=wr.alloc _) HQ.out hb HQ.out.lt).cell 1
      clear hb hn
      go_wp2_with fail
      go_ret
      exact ⟨ret_i64 HE2.out.symm,HB5.out⟩
     ·have HI5:=hid (HI2.out.next hb)
      have HN:=hid hn
      clear hb hn
      go_wp2_with fail
      refine ⟨⟨1,by omega,by go_num,⟨Sx,HI5.out,fun _=>HX.out.2.2.2 (by omega)⟩,fun _=>HN.out,fun h=>by omega,fun h=>by omega⟩,?_⟩
      simp [intJ]
    ·have r0:wr.cell? ⟨rb,2,none⟩=some (.func (.func 166) #[] #[.pointer (some ⟨pb,0,none⟩)]):=HIx.out.rules.cell 2
     have r1:wr.cell? ⟨rb,3,none⟩=some (.int .i64 6):=HIx.out.rules.cell 3
     obtain rfl:Sx=[]:=HX.out.2.2.2 (by omega)
     have hmb:=HIx.out.set_.lt
     have HI2:=hid (HIx.out.next ((Below.refl _ wr).alloc (Nat.le_refl _) (.cells #[f2V pb,.int .i64 6] 206)))
     have C1:=hid (ask2_ok w c L rb pb mb wr.heap.size (wr.alloc (.cells #[f2V pb,.int .i64 6] 206)) HA.out (HX.out.1 (by omega)) HI2.out (Blk.new wr _ _) (by omega))
     unfold f2V at C1 HI2
     clear hmb
     go_wp2_with fail
     refine (C1.out).mono ?_
     rintro e w5 (⟨rfl,hn,hb,hq⟩|⟨rfl,hn,S5,hI5⟩)
     ·have HE2:=hid (JH6.out (HX.out.1 (by omega)) hn)
      have HB5:=hid hb
      have q1:w5.cell? ⟨wr.heap.size,1,none⟩=some (.int .i64 6):=hq.cell 1
      clear hb hn hq
      go_wp2_with fail
      go_ret
      exact ⟨ret_i64 HE2.out.symm,HB5.out⟩
     ·have HI5:=hid hI5
      have HN:=hid hn
      clear hI5 hn
      go_wp2_with fail
      refine ⟨⟨2,by omega,by go_num,⟨S5,HI5.out,fun h=>by omega⟩,fun _=>HX.out.1 (by omega),fun _=>HN.out,fun h=>by omega⟩,?_⟩
      simp [intJ]
    ·have r0:wr.cell? ⟨rb,4,none⟩=some (.func (.func 167) #[] #[]):=HIx.out.rules.cell 4
     have r1:wr.cell? ⟨rb,5,none⟩=some (.int .i64 16):=HIx.out.rules.cell 5
     have hal:=HIx.out.below.alloc HIx.out.below.size (.cells #[f3V,.int .i64 16] 206)
     have C1:=hid (ask3_ok c L (wr.alloc (.cells #[f3V,.int .i64 16] 206)) wr.heap.size (HA.out.below hal) (Blk.new wr _ _))
     have HQ:=hid (Blk.new wr 206 #[f3V,.int .i64 16])
     have HI2:=hid (HIx.out.next ((Below.refl _ wr).alloc (Nat.le_refl _) (.cells #[f3V,.int .i64 16] 206)))
     unfold f3V at C1 HQ HI2
     clear hal
     go_wp2_with fail
     refine (C1.out).mono ?_
     rintro e w5 (⟨rfl,hn,hb⟩|⟨rfl,hn,hb⟩)
     ·have HE2:=hid (JH16.out (HX.out.1 (by omega)) (HX.out.2.1 (by omega)) hn)
      have HB5:=hid (HI2.out.next hb).below
      have q1:w5.cell? ⟨wr.heap.size,1,none⟩=some (.int .i64 16):=(Blk.below (w:=wr.alloc _) HQ.out hb HQ.out.lt).cell 1
      clear hb hn
      go_wp2_with fail
      go_ret
      exact ⟨ret_i64 HE2.out.symm,HB5.out⟩
     ·have HI5:=hid (HI2.out.next hb)
      have HN:=hid hn
      clear hb hn
      go_wp2_with fail
      refine ⟨⟨3,by omega,by go_num,⟨Sx,HI5.out,fun h=>by omega⟩,fun _=>HX.out.1 (by omega),fun _=>HX.out.2.1 (by omega),fun _=>HN.out⟩,?_⟩
      simp [intJ]
    ·have HE2:=hid (JHZ.out (HX.out.1 (by omega)) (HX.out.2.1 (by omega)) (HX.out.2.2.1 (by omega)))
     have HB5:=hid HIx.out.below
     go_wp2_with fail
     go_ret
     exact ⟨ret_i64 HE2.out.symm,HB5.out⟩
theorem gl_bad{g:Gl}(h:g.cap<1∨1000<g.cap∨g.q<1∨1024<g.q∨g.ar<0∨4096<g.ar∨g.ag<1∨68719476736<g.ag):glB g=false:=by
 rw [←Bool.not_eq_true]
 intro hh
 unfold glB inB at hh
 simp only [Bool.and_eq_true,decide_eq_true_eq] at hh
 omega
theorem gl_in{g:Gl}(h:¬(g.cap<1∨1000<g.cap∨g.q<1∨1024<g.q∨g.ar<0∨4096<g.ar∨g.ag<1∨68719476736<g.ag)):glB g=limB g.t g.tau:=by
 unfold glB inB
 rw [decide_eq_true (show 1≤g.cap by omega),decide_eq_true (show g.cap≤1000 by omega),decide_eq_true (show 1≤g.q by omega),decide_eq_true (show g.q≤1024 by omega),decide_eq_true (show 0≤g.ar by omega),decide_eq_true (show g.ar≤4096 by omega),decide_eq_true (show 1≤g.ag by omega),decide_eq_true (show g.ag≤68719476736 by omega)]
 rfl
theorem rglob_ok(g:Gl)(w:World):Calls Tryz.prog 121 #[.agg (glV g)] w fun e w'=>e=.returned (.int .i64 (eB (glB g)))∧Below w.heap.size w w':=by
 have C4:=hid (fun W=>rlimit_ok g.t g.tau W)
 have HF:=hid (gl_bad (g:=g))
 have HI:=hid (gl_in (g:=g))
 generalize limB g.t g.tau=b4 at *
 generalize glB g=b at *
 have HB:=hid ((Below.refl _ w).alloc (Nat.le_refl _) (.cells (glV g) 28))
 unfold glV at HB ⊢
 by_cases h0:g.cap<1
 ·have HR:Hid (b=false):=hid (HF.out (by omega))
  have d0:decide (g.cap<1)=true:=decide_eq_true h0
  clear HF HI h0
  go_enter Tryz.func121,Tryz.ntmps121
  go_wp2_with fail
  go_ret
  exact ⟨ret_i64 (by rw [HR.out];rfl),HB.out⟩
 ·by_cases h1:1000<g.cap
  ·have HR:Hid (b=false):=hid (HF.out (by omega))
   have d0:decide (g.cap<1)=false:=decide_eq_false h0
   have d1:decide (1000<g.cap)=true:=decide_eq_true h1
   clear HF HI h0 h1
   go_enter Tryz.func121,Tryz.ntmps121
   go_wp2_with fail
   go_ret
   exact ⟨ret_i64 (by rw [HR.out];rfl),HB.out⟩
  ·by_cases h2:g.q<1
   ·have HR:Hid (b=false):=hid (HF.out (by omega))
    have d0:decide (g.cap<1)=false:=decide_eq_false h0
    have d1:decide (1000<g.cap)=false:=decide_eq_false h1
    have d2:decide (g.q<1)=true:=decide_eq_true h2
    clear HF HI h0 h1 h2
    go_enter Tryz.func121,Tryz.ntmps121
    go_wp2_with fail
    go_ret
    exact ⟨ret_i64 (by rw [HR.out];rfl),HB.out⟩
   ·by_cases h3:1024<g.q
    ·have HR:Hid (b=false):=hid (HF.out (by omega))
     have d0:decide (g.cap<1)=false:=decide_eq_false h0
     have d1:decide (1000<g.cap)=false:=decide_eq_false h1
     have d2:decide (g.q<1)=false:=decide_eq_false h2
     have d3:decide (1024<g.q)=true:=decide_eq_true h3
     clear HF HI h0 h1 h2 h3
     go_enter Tryz.func121,Tryz.ntmps121
     go_wp2_with fail
     go_ret
     exact ⟨ret_i64 (by rw [HR.out];rfl),HB.out⟩
    ·by_cases h4:g.ar<0
     ·have HR:Hid (b=false):=hid (HF.out (by omega))
      have d0:decide (g.cap<1)=false:=decide_eq_false h0
      have d1:decide (1000<g.cap)=false:=decide_eq_false h1
      have d2:decide (g.q<1)=false:=decide_eq_false h2
      have d3:decide (1024<g.q)=false:=decide_eq_false h3
      have d4:decide (g.ar<0)=true:=decide_eq_true h4
      clear HF HI h0 h1 h2 h3 h4
      go_enter Tryz.func121,Tryz.ntmps121
      go_wp2_with fail
      go_ret
      exact ⟨ret_i64 (by rw [HR.out];rfl),HB.out⟩
     ·by_cases h5:4096<g.ar
      ·have HR:Hid (b=false):=hid (HF.out (by omega))
       have d0:decide (g.cap<1)=false:=decide_eq_false h0
       have d1:decide (1000<g.cap)=false:=decide_eq_false h1
       have d2:decide (g.q<1)=false:=decide_eq_false h2
       have d3:decide (1024<g.q)=false:=decide_eq_false h3
       have d4:decide (g.ar<0)=false:=decide_eq_false h4
       have d5:decide (4096<g.ar)=true:=decide_eq_true h5
       clear HF HI h0 h1 h2 h3 h4 h5
       go_enter Tryz.func121,Tryz.ntmps121
       go_wp2_with fail
       go_ret
       exact ⟨ret_i64 (by rw [HR.out];rfl),HB.out⟩
      ·by_cases h6:g.ag<1
       ·have HR:Hid (b=false):=hid (HF.out (by omega))
        have d0:decide (g.cap<1)=false:=decide_eq_false h0
        have d1:decide (1000<g.cap)=false:=decide_eq_false h1
        have d2:decide (g.q<1)=false:=decide_eq_false h2
        have d3:decide (1024<g.q)=false:=decide_eq_false h3
        have d4:decide (g.ar<0)=false:=decide_eq_false h4
        have d5:decide (4096<g.ar)=false:=decide_eq_false h5
        have d6:decide (g.ag<1)=true:=decide_eq_true h6
        clear HF HI h0 h1 h2 h3 h4 h5 h6
        go_enter Tryz.func121,Tryz.ntmps121
        go_wp2_with fail
        go_ret
        exact ⟨ret_i64 (by rw [HR.out];rfl),HB.out⟩
       ·by_cases h7:68719476736<g.ag
        ·have HR:Hid (b=false):=hid (HF.out (by omega))
         have d0:decide (g.cap<1)=false:=decide_eq_false h0
         have d1:decide (1000<g.cap)=false:=decide_eq_false h1
         have d2:decide (g.q<1)=false:=decide_eq_false h2
         have d3:decide (1024<g.q)=false:=decide_eq_false h3
         have d4:decide (g.ar<0)=false:=decide_eq_false h4
         have d5:decide (4096<g.ar)=false:=decide_eq_false h5
         have d6:decide (g.ag<1)=false:=decide_eq_false h6
         have d7:decide (68719476736<g.ag)=true:=decide_eq_true h7
         clear HF HI h0 h1 h2 h3 h4 h5 h6 h7
         go_enter Tryz.func121,Tryz.ntmps121
         go_wp2_with fail
         go_ret
         exact ⟨ret_i64 (by rw [HR.out];rfl),HB.out⟩
        ·have HR:Hid (b=b4):=hid (HI.out (by omega))
         have d0:decide (g.cap<1)=false:=decide_eq_false h0
         have d1:decide (1000<g.cap)=false:=decide_eq_false h1
         have d2:decide (g.q<1)=false:=decide_eq_false h2
         have d3:decide (1024<g.q)=false:=decide_eq_false h3
         have d4:decide (g.ar<0)=false:=decide_eq_false h4
         have d5:decide (4096<g.ar)=false:=decide_eq_false h5
         have d6:decide (g.ag<1)=false:=decide_eq_false h6
         have d7:decide (68719476736<g.ag)=false:=decide_eq_false h7
         clear HF HI h0 h1 h2 h3 h4 h5 h6 h7
         cases b4
         ·go_enter Tryz.func121,Tryz.ntmps121
          go_wp2_with fail
          refine (C4.out _).mono ?_
          rintro r_ w5 ⟨rfl,hb⟩
          have HB5:=hid (HB.out.trans (Below.mono (w:=w.alloc _) hb HB.out.size))
          clear hb
          have e0:eB false=16:=rfl
          rw [e0]
          go_wp2_with fail
          go_ret
          exact ⟨ret_i64 (by rw [HR.out];rfl),HB5.out⟩
         ·go_enter Tryz.func121,Tryz.ntmps121
          go_wp2_with fail
          refine (C4.out _).mono ?_
          rintro r_ w5 ⟨rfl,hb⟩
          have HB5:=hid (HB.out.trans (Below.mono (w:=w.alloc _) hb HB.out.size))
          clear hb
          have e0:eB true=0:=rfl
          rw [e0]
          go_wp2_with fail
          go_ret
          exact ⟨ret_i64 (by rw [HR.out];rfl),HB5.out⟩
theorem rcchk_ok(c:Cf)(L:JL)(w:World)(hA:CArg w c L):Calls Tryz.prog 69 #[.agg (cfV c)] w fun e w'=>e=.returned (.int .i64 (cfE c.g L))∧Below w.heap.size w w':=by
 have C0:=hid (fun W=>rglob_ok c.g W)
 have CN:=hid (fun s W=>rname_ok s W)
 have HBX:=hid (Blk.new w 31 (cfV c))
 have HB:=hid ((Below.refl _ w).alloc (Nat.le_refl _) (.cells (cfV c) 31))
 have HA:=hid hA
 have HN:=hid hA.in_.n
 have HE:Hid (glB c.g=false→cfE c.g L=16):=hid cfE_g
 have HM:Hid (glB c.g=true→64<c.n→cfE c.g L=12):=hid (fun h hn=>cfE_many h (by rw [hA.in_.n];exact hn))
 have H15:Hid (glB c.g=true→¬64<c.n→¬nmsOk L→cfE c.g L=15):=hid (fun h hn=>cfE_name h (by rw [hA.in_.n];exact hn))
 have H6:Hid (glB c.g=true→¬64<c.n→nmsOk L→(∃k,k<L.length∧¬newN L k)→cfE c.g L=6):=hid (fun h hn h1 ⟨k,hk,h2⟩=>cfE_have h (by rw [hA.in_.n];exact hn) h1 hk h2)
 have H16:Hid (glB c.g=true→¬64<c.n→nmsOk L→(∀i,i<L.length→newN L i)→¬allOk L→cfE c.g L=16):=hid (fun h hn h1 h2 h3=>cfE_rule h (by rw [hA.in_.n];exact hn) h1 h2 h3)
 have HZ:Hid (glB c.g=true→¬64<c.n→nmsOk L→(∀i,i<L.length→newN L i)→allOk L→cfE c.g L=0):=hid (fun h hn h1 h2 h3=>cfE_ok h (by rw [hA.in_.n];exact hn) h1 h2 h3)
 generalize cfE c.g L=E at *
 generalize glB c.g=gb at *
 rw [cfV_eq] at HBX HB ⊢
 unfold glV at C0
 clear hA
 obtain ⟨cg,ca,cn,cc⟩:=c
 simp only at *
 cases gb
 ·have HEE:=hid (HE.out rfl)
  have e0:eB false=16:=rfl
  rw [e0] at C0
  clear HE HM H15 H6 H16 HZ e0
  go_enter Tryz.func69,Tryz.ntmps69
  go_wp2_with fail
  refine (C0.out _).mono ?_
  rintro e w2 ⟨rfl,hb⟩
  have HB2:=hid (HB.out.trans (Below.mono (w:=w.alloc _) hb HB.out.size))
  clear hb
  go_wp2_with fail
  go_ret
  exact ⟨ret_i64 HEE.out.symm,HB2.out⟩
 ·have e0:eB true=0:=rfl
  rw [e0] at C0
  by_cases h64:64<cn
  ·have d1:decide (64<cn)=true:=decide_eq_true h64
   have d2:decide ((64:Int)<cn)=true:=decide_eq_true (by omega)
   have HEE:=hid (HM.out rfl h64)
   clear HE HM H15 H6 H16 HZ e0 h64
   go_enter Tryz.func69,Tryz.ntmps69
   go_wp2_with fail
   refine (C0.out _).mono ?_
   rintro e w2 ⟨rfl,hb⟩
   have HBX2:=hid (Blk.below (w:=w.alloc _) HBX.out hb HBX.out.lt)
   have HB2:=hid (HB.out.trans (Below.mono (w:=w.alloc _) hb HB.out.size))
   have k7:w2.cell? ⟨w.heap.size,7,none⟩=some (.slice ca cn cc):=HBX2.out.cell 7
   clear hb
   go_wp2_with fail
   go_ret
   exact ⟨ret_i64 HEE.out.symm,HB2.out⟩
  ·have d1:decide (64<cn)=false:=decide_eq_false h64
   have d2:decide ((64:Int)<cn)=false:=decide_eq_false (by omega)
   have hn64:cn≤64:=by omega
   have J15:=hid (H15.out rfl h64)
   have J6:=hid (H6.out rfl h64)
   have J16:=hid (H16.out rfl h64)
   have JZ:=hid (HZ.out rfl h64)
   clear HE HM H15 H6 H16 HZ e0 h64
   go_enter Tryz.func69,Tryz.ntmps69
   go_wp2_with fail
   refine (C0.out _).mono ?_
   rintro e w2 ⟨rfl,hb⟩
   have HBX2:=hid (Blk.below (w:=w.alloc _) HBX.out hb HBX.out.lt)
   have HB2:=hid (HB.out.trans (Below.mono (w:=w.alloc _) hb HB.out.size))
   have k7:w2.cell? ⟨w.heap.size,7,none⟩=some (.slice ca cn cc):=HBX2.out.cell 7
   have HA2:=hid (HA.out.below HB2.out)
   clear hb HBX HB
   go_wp2_with fail
   go_loop [3] (fun s3=>∃k:Nat,k≤cn∧s3=.int .i64 k∧∀i (hi:i<L.length),i<k→nameB L[i].1.nm=true) (fun s3=>cn - intJ s3)
   case atStart=>exact ⟨0,Nat.zero_le _,rfl,fun i hi h=>absurd h (Nat.not_lt_zero _)⟩
   case round =>
    obtain ⟨k,hk,rfl,hok⟩:=hrel
    have HOK:=hid hok
    clear hok
    rcases Nat.lt_or_ge k cn with hlt|hge
    ·have hkl:k<L.length:=by have:=HN.out;omega
     obtain ⟨b,off,rfl,hcl,-⟩:=HA2.out.in_.at_ k hkl
     have c0:w2.cell? ⟨b,off+k*30,none⟩=some (.string L[k].1.nm):=hcl 0 (by decide)
     have HX:=hid (fun (he:nameB L[k].1.nm=false)=>J15.out (fun hh=>by have:=hh k hkl;rw [he] at this;cases this))
     have HY:=hid (fun (he:nameB L[k].1.nm=true) i (hi:i<L.length) (h:i<k+1)=>(by
      rcases Nat.lt_or_ge i k with h4|h4
      ·exact HOK.out i hi h4
      ·obtain rfl:i=k:=by omega
       exact he:nameB L[i].1.nm=true))
     have C1:=hid (CN.out L[k].1.nm w2)
     generalize nameB L[k].1.nm=d at *
     generalize L[k].1.nm=nm at *
     clear hcl
     cases d
     ·have HX2:=hid (HX.out rfl)
      clear HX HY
      go_wp2_with fail
      refine (C1.out).mono ?_
      rintro e_ w3 ⟨rfl,rfl⟩
      go_wp2_with fail
      go_ret
      exact ⟨ret_i64 HX2.out.symm,HB2.out⟩
     ·have HY2:=hid (HY.out rfl)
      clear HX HY
      go_wp2_with fail
      refine (C1.out).mono ?_
      rintro e_ w3 ⟨rfl,rfl⟩
      go_wp2_with fail
      refine ⟨⟨k+1,by omega,by go_num,HY2.out⟩,?_⟩
      simp [intJ];omega
    ·obtain rfl:cn=k:=by omega
     have HN1:Hid (nmsOk L):=hid (fun i hi=>HOK.out i hi (by have:=HN.out;omega))
     clear HOK
     go_wp2_with fail
     go_loopw [4,5] (fun s4 _ wr=>∃k:Nat,k≤cn∧s4=.int .i64 k∧Below w2.heap.size w2 wr∧∀i,i<k→newN L i) (fun s4 _ _=>cn - intJ s4)
     case atStart=>exact ⟨0,Nat.zero_le _,rfl,Below.refl _ _,fun i h=>absurd h (Nat.not_lt_zero _)⟩
     case round =>
      clear k7
      obtain ⟨k,hk,rfl,hbr,hok⟩:=hrel
      have HOK:=hid hok
      have HBR:=hid hbr
      have k7:wr.cell? ⟨w.heap.size,7,none⟩=some (.slice ca cn cc):=(HBX2.out.below hbr HBX2.out.lt).cell 7
      clear hok hbr
      rcases Nat.lt_or_ge k cn with hlt|hge
      ·have hkl:k<L.length:=by have:=HN.out;omega
       go_wp2_with fail
       go_loopw [5] (fun s5 wr=>∃i:Nat,i≤k∧s5=.int .i64 i∧Below w2.heap.size w2 wr∧∀m (hm:m<L.length),m<i→L[m].1.nm≠L[k].1.nm) (fun s5 _=>k - intJ s5)
       case atStart=>exact ⟨0,Nat.zero_le _,rfl,HBR.out,fun i _ h=>absurd h (Nat.not_lt_zero _)⟩
       case round =>
        clear k7
        obtain ⟨i,hi,rfl,hbv,hne⟩:=hrel
        have HNE:=hid hne
        have HBV:=hid hbv
        clear hne hbv
        rcases Nat.lt_or_ge i k with hik|hik
        ·have hil:i<L.length:=by omega
         have HAV:=hid (HA2.out.below HBV.out)
         obtain ⟨b,off,rfl,hcl,-⟩:=HAV.out.in_.at_ k hkl
         obtain ⟨b',off',ha',hcl',-⟩:=HAV.out.in_.at_ i hil
         injection ha' with ha'
         injection ha' with hb1 hb2
         subst hb1 hb2
         have k7:=cell_regrown (show wr.cell? ⟨w.heap.size,7,none⟩=some (.slice (some ⟨b,off,none⟩) cn cc) from (HBX2.out.below HBV.out HBX2.out.lt).cell 7)
         have c0:=cell_regrown (show wr.cell? ⟨b,off+k*30,none⟩=some (.string L[k].1.nm) from hcl 0 (by decide))
         have c1:=cell_regrown (show wr.cell? ⟨b,off+i*30,none⟩=some (.string L[i].1.nm) from hcl' 0 (by decide))
         have HX:=hid (fun (he:sEq L[k].1.nm L[i].1.nm=true)=>J6.out HN1.out ⟨k,hkl,fun hh=>hh i hil hkl hik (sEq_iff.1 he).symm⟩)
         have HY:=hid (fun (he:sEq L[k].1.nm L[i].1.nm=false) m (hm:m<L.length) (h:m<i+1)=>(by
          rcases Nat.lt_or_ge m i with h4|h4
          ·exact HNE.out m hm h4
          ·obtain rfl:m=i:=by omega
           exact fun h5=>by rw [sEq_iff.2 h5.symm] at he;exact absurd he (by decide):L[m].1.nm≠L[k].1.nm))
         obtain ⟨d,hd⟩:∃d,sEq L[k].1.nm L[i].1.nm=d:=⟨_,rfl⟩
         have HD:=hid hd
         unfold sEq at hd
         generalize L[k].1.nm=nk at *
         generalize L[i].1.nm=ni at *
         clear hcl hcl'
         cases d
         ·have HY2:=hid (HY.out HD.out)
          clear HX HY
          go_wp2_with fail
          refine wp_region_quiet_below (by kernel_rfl) (by kernel_rfl) ?_
          repeat (go_big_quiet_step (fail))
          refine wpQuiet_nil ?_
          intro _ hw'
          obtain ⟨⟨dq,osq⟩,hw''⟩:=hw'
          subst hw''
          have HBW:=hid (HBV.out.trans ((below_regrown wr dq osq).mono HBV.out.size))
          clear k7 c0 c1
          generalize Sort.grow (redrawn wr dq) osq=wq at *
          go_wp2_with fail
          refine ⟨⟨i+1,by omega,by go_num,HBW.out,HY2.out⟩,?_⟩
          simp [intJ];omega
         ·have HX2:=hid (HX.out HD.out)
          clear HX HY
          go_wp2_with fail
          refine wp_region_quiet_below (by kernel_rfl) (by kernel_rfl) ?_
          repeat (go_big_quiet_step (fail))
          refine wpQuiet_nil ?_
          intro _ hw'
          obtain ⟨⟨dq,osq⟩,hw''⟩:=hw'
          subst hw''
          have HBW:=hid (HBV.out.trans ((below_regrown wr dq osq).mono HBV.out.size))
          clear k7 c0 c1
          generalize Sort.grow (redrawn wr dq) osq=wq at *
          go_wp2_with fail
          go_ret
          exact ⟨ret_i64 HX2.out.symm,HB2.out.trans (HBW.out.mono HB2.out.size)⟩
        ·obtain hik2:i=k:=by omega
         have HY2:=hid (fun m (h:m<k+1)=>(by
          rcases Nat.lt_or_ge m k with h4|h4
          ·exact HOK.out m h4
          ·obtain rfl:m=k:=by omega
           exact fun q hq _ hqm=>HNE.out q hq (by omega):newN L m))
         subst hik2
         clear HOK HNE
         go_wp2_with fail
         refine ⟨⟨i+1,by omega,by go_num,HBV.out,HY2.out⟩,?_⟩
         simp [intJ];omega
      ·obtain hkn:k=cn:=by omega
       have HNW:Hid (∀i,i<L.length→newN L i):=hid (fun i hi=>HOK.out i (by have:=HN.out;omega))
       subst hkn
       clear HOK
       go_wp2_with fail
       go_loopw [6] (fun s6 wr=>∃i:Nat,i≤k∧s6=.int .i64 i∧Below w2.heap.size w2 wr∧∀m (hm:m<L.length),m<i→okJ L[m]=true) (fun s6 _=>k - intJ s6)
       case atStart=>exact ⟨0,Nat.zero_le _,rfl,HBR.out,fun i _ h=>absurd h (Nat.not_lt_zero _)⟩
       case round =>
        clear k7
        obtain ⟨i,hi,rfl,hbv,hne⟩:=hrel
        have HNE:=hid hne
        have HBV:=hid hbv
        clear hne hbv
        rcases Nat.lt_or_ge i k with hik|hik
        ·have hil:i<L.length:=by have:=HN.out;omega
         have HAV:=hid (HA2.out.below HBV.out)
         obtain ⟨⟨j,l⟩,hjl⟩:∃x,L[i]? = some x:=⟨_,List.getElem?_eq_getElem hil⟩
         obtain ⟨b,off,rfl,hcl,hpi⟩:=HAV.out.in_.at_ i hil
         have h9:=HAV.out.p9 i hil
         have hx:=(List.getElem?_eq_some_iff.1 hjl).2
         rw [hx] at hcl hpi h9
         have hja:JbAt wr b (off+i*30) j:=hcl
         have hpa:=hpi.arg h9 HAV.out.st HAV.out.tab
         have LP:=hid hja.plan
         have C1:=hid (rplck_ok j.p l wr hpa)
         have k7:wr.cell? ⟨w.heap.size,7,none⟩=some (.slice (some ⟨b,off,none⟩) k cc):=(HBX2.out.below HBV.out HBX2.out.lt).cell 7
         have hbl:b<wr.heap.size:=World.block_lt_of_cell? _ _ hja.name
         have HJA:=hid (fun W (h:Below wr.heap.size wr W)=>(hja.below h hbl).pol)
         have C2:=hid (fun W=>rpol_ok j.y W)
         have HOJ:Hid (okJ L[i]=(decide (plE j.p l=0)&&poB j.y)):=hid (by rw [hx];rfl)
         have HX:=hid (fun (he:okJ L[i]=false)=>J16.out HN1.out HNW.out (fun hh=>by have:=hh i hil;rw [he] at this;cases this))
         have HY:=hid (fun (he:okJ L[i]=true) m (hm:m<L.length) (h:m<i+1)=>(by
          rcases Nat.lt_or_ge m i with h4|h4
          ·exact HNE.out m hm h4
          ·obtain rfl:m=i:=by omega
           exact he:okJ L[m]=true))
         have hcs:=plE_cases j.p l
         generalize okJ L[i]=oj at *
         generalize poB j.y=py at *
         clear hcl hpi h9 hja hpa hx hjl
         rcases hcs with he|he
         ·rw [he] at C1 HOJ
          clear he
          go_wp2_with (refine wpList_load_by rfl 49 _ rfl b (off+i*30+1) (.agg (plV j.p)) rfl LP.out ?_)
          refine (C1.out).mono ?_
          rintro e_ w5 ⟨rfl,hb⟩
          have HB5:=hid (HBV.out.trans (hb.mono HBV.out.size))
          have LY:=hid (HJA.out _ hb)
          have k7:w5.cell? ⟨w.heap.size,7,none⟩=some (.slice (some ⟨b,off,none⟩) k cc):=(HBX2.out.below HB5.out HBX2.out.lt).cell 7
          clear hb
          cases py
          ·have HX2:=hid (HX.out (by rw [HOJ.out];simp))
           have e0:eB false=16:=rfl
           rw [e0] at C2
           clear HX HY e0
           go_wp2_with (refine wpList_load_if (by rfl) 55 _ rfl b (off+i*30+15) (.agg (poV j.y)) rfl LY.out ?_)
           refine (C2.out _).mono ?_
           rintro e_ w6 ⟨rfl,hb⟩
           have HB6:=hid (HB5.out.trans (hb.mono HB5.out.size))
           clear hb
           go_wp2_with fail
           go_ret
           exact ⟨ret_i64 HX2.out.symm,HB2.out.trans (HB6.out.mono HB2.out.size)⟩
          ·have HY2:=hid (HY.out (by rw [HOJ.out];simp))
           have e0:eB true=0:=rfl
           rw [e0] at C2
           clear HX HY e0
           go_wp2_with (refine wpList_load_if (by rfl) 55 _ rfl b (off+i*30+15) (.agg (poV j.y)) rfl LY.out ?_)
           refine (C2.out _).mono ?_
           rintro e_ w6 ⟨rfl,hb⟩
           have HB6:=hid (HB5.out.trans (hb.mono HB5.out.size))
           clear hb
           go_wp2_with fail
           refine ⟨⟨i+1,by omega,by go_num,HB6.out,HY2.out⟩,?_⟩
           simp [intJ];omega
         ·rw [he] at C1 HOJ
          clear he
          have HX2:=hid (HX.out (by rw [HOJ.out];rfl))
          clear HX HY
          go_wp2_with (refine wpList_load_by rfl 49 _ rfl b (off+i*30+1) (.agg (plV j.p)) rfl LP.out ?_)
          refine (C1.out).mono ?_
          rintro e_ w5 ⟨rfl,hb⟩
          have HB5:=hid (HBV.out.trans (hb.mono HBV.out.size))
          clear hb
          go_wp2_with fail
          go_ret
          exact ⟨ret_i64 HX2.out.symm,HB2.out.trans (HB5.out.mono HB2.out.size)⟩
        ·obtain hik2:i=k:=by omega
         have HAL:Hid (allOk L):=hid (fun m hm=>HNE.out m hm (by have:=HN.out;omega))
         have HZ2:=hid (JZ.out HN1.out HNW.out HAL.out)
         have k7:wr.cell? ⟨w.heap.size,7,none⟩=some (.slice ca k cc):=(HBX2.out.below HBV.out HBX2.out.lt).cell 7
         subst hik2
         clear HNE
         go_wp2_with fail
         go_ret
         exact ⟨ret_i64 HZ2.out.symm,HB2.out.trans (HBV.out.mono HB2.out.size)⟩
theorem wpList_store_by{P:Program}{ops:Array Oper}{rest:List Oper}{op:Oper}{a:Act}{w:World}{Q:Exit→Act→World→Prop}(hgd:op.guard=none)(ty:TypeId)(x y:Operand)(ho:op.op=.store ty x y)
 (b o:Nat) (v:Value) (w':World) (hx:a.eval x=.pointer (some ⟨b,o,none⟩)) (hy:a.eval y=v) (hl:(storeVar ty ⟨b,o,none⟩ v).run P w=.ok () w')
 (h:wpList P ops Q rest (a.put op.dst undef) w'):wpList P ops Q (op::rest) a w:=by
 refine wpList_plain hgd fun K hK=>?_
 unfold Oper.wp execOp
 simp only [ho,hx,hy,Instr.storeAt,Instr.sureAddr,Sem.run_bind,Sem.run_pure,Result.andThen_ok,hl]
 exact hK _ _ h
def zJ:Array Value:=#[.string ByteArray.empty,.int .i64 0,.int .u64 0,.int .u64 0,.int .u64 0,.int .u64 0,.int .u64 0,.int .u64 0,.bool false,.bool false,.int .i64 0,.int .i64 0,.int .i64 0,.int .i64 0,.slice none 0 0,.int .i64 0,.int .i64 0,.int .i64 0,.int .i64 0,.int .i64 0,.int .i64 0,.int .i64 0,.int .i64 0,.int .i64 0,.int .i64 0,.int .i64 0,.int .i64 0,.int .i64 0,.int .i64 0,.int .i64 0]
theorem jb_store(w:World)(j:Jb):(storeVar 57 ⟨w.heap.size,0,none⟩ (.agg (jbV j))).run Tryz.prog (w.alloc (.cells zJ 57))=.ok () (w.alloc (.cells (jbV j) 57)) :=
 Go.run_storeVar_new w 57 zJ (jbV j) jb_info rfl (by simp [jbV,Value.oneCell'])
structure BoxJ(w:World)(T:TypeId)(cs:Array Value)(v:Value)(ys:List Int)(W:World):Prop where
 box:Blk W w.heap.size T cs
 own:OwnsJ (w.heap.size+1) v ys W
 below:Below w.heap.size w W
 size:w.heap.size+1≤W.heap.size
theorem BoxJ.next{w:World}{T:TypeId}{cs:Array Value}{v:Value}{ys:List Int}{X Y:World}(h:BoxJ w T cs v ys X)(hb:Below X.heap.size X Y):BoxJ w T cs v ys Y :=
 ⟨h.box.below hb h.box.lt,h.own.below hb,h.below.trans (hb.mono h.below.size),Nat.le_trans h.size hb.size⟩
theorem BoxJ.push{w:World}{T:TypeId}{cs:Array Value}{v v':Value}{ys:List Int}{d:Int}{X Y:World}{tmp:Obj}(h:BoxJ w T cs v ys X)
 (hown':Y.ownsRow (w.heap.size+1) 3 1 v' (ys.length+1) (ys.map tcell++[.int .i64 d])) (hgrow:(X.alloc tmp).grownBy Y v.ownBlock):BoxJ w T cs v' (ys++[d]) Y:=by
 have hrow:X.ownsRow (w.heap.size+1) 3 1 v ys.length (ys.map tcell):=h.own
 have hs:X.heap.size+1≤Y.heap.size:=by have:=hgrow.size;simpa using this
 refine ⟨blk_app h.box (by omega) hrow hgrow,by unfold OwnsJ;simpa [tcell] using hown',?_,by have:=h.size;omega⟩
 refine h.below.trans (((Below.refl w.heap.size X).alloc (by have:=h.below.size;omega) tmp).grown hgrow (by simp;have:=h.below.size;omega) fun j ej=>?_)
 rcases Nat.lt_or_ge j (w.heap.size+1) with h'|h'
 ·exact absurd ej.symm (own_ge hrow h')
 ·omega
theorem BoxJ.new(w:World)(T:TypeId)(cs:Array Value):BoxJ w T cs (.slice none 0 0) [] (w.alloc (.cells cs T)):=⟨Blk.new w _ _,⟨rfl,.inl ⟨rfl,rfl⟩⟩,(Below.refl _ w).alloc (Nat.le_refl _) _,by simp⟩
theorem OwnsJ.mono{B C:Nat}{v:Value}{ys:List Int}{w:World}(h:OwnsJ C v ys w)(hB:B≤C):OwnsJ B v ys w :=
 ⟨h.1,h.2.imp id fun ⟨g,cap,cur,h1,h2,h3⟩=>⟨g,cap,cur,h1,Nat.le_trans hB h2,h3⟩⟩
theorem OwnsJ.nil(B:Nat)(w:World):OwnsJ B (.slice none 0 0) [] w:=⟨rfl,.inl ⟨rfl,rfl⟩⟩
def capsL(L:JL):List Int:=L.map fun x=>x.1.y.cap
theorem capsL_take{L:JL}{k:Nat}{j:Jb}{l:List (Int × Int)}(h:L[k]? = some (j,l)):(capsL L).take (k+1)=(capsL L).take k++[j.y.cap]:=by
 obtain ⟨hk,hx⟩:=List.getElem?_eq_some_iff.1 h
 unfold capsL
 rw [List.take_succ_eq_append_getElem (by simpa using hk),List.getElem_map,hx]
def cpC(g:Gl)(E:Int):Int:=if E=0 then g.cap else 0
def cpL(L:JL)(E:Int):List Int:=if E=0 then capsL L else []
theorem ret_ivi{a b:Int}{u v:Value}{c d:Int}(h:a=b)(h1:u=v)(h':c=d):Ending.returned (.tuple #[.int .i64 a,u,.int .i64 c])=.returned (.tuple #[.int .i64 b,v,.int .i64 d]):=by rw [h,h1,h']
theorem cell_one_new2(w:World)(H:Nat)(v:Value)(T:TypeId)(h:w.heap.size=H):∀j u,[v][j]? = some u→(w.alloc (.cells #[v] T)).cell? ((⟨H,0,none⟩:Addr).add j)=some u:=by subst h;exact cell_one_new w v T
theorem ccaps_ok(c:Cf)(L:JL)(w:World)(hA:CArg w c L):Calls Tryz.prog 39 #[.agg (cfV c)] w fun e w'=>∃v,e=.returned (.tuple #[.int .i64 (cpC c.g (cfE c.g L)),v,.int .i64 (cfE c.g L)])∧OwnsJ w.heap.size v (cpL L (cfE c.g L)) w'∧Below w.heap.size w w':=by
 obtain ⟨i0,hi0,hz0,hz1,hz2⟩:=info_parts info_int
 have HA:=hid hA
 have HN:=hid hA.in_.n
 have H9:=hid hA.n9
 have HBJ:=hid (BoxJ.new w 31 (cfV c))
 have hB:=(Below.refl _ w).alloc (Nat.le_refl _) (.cells (cfV c) 31)
 have C0:=hid (ccheck_ok c L _ (hA.below hB))
 have HC:Hid (cpC c.g (cfE c.g L)=if cfE c.g L=0 then c.g.cap else 0):=hid rfl
 have HL:Hid (cpL L (cfE c.g L)=if cfE c.g L=0 then capsL L else []):=hid rfl
 have HCL:Hid ((capsL L).length=c.n):=hid (by unfold capsL;rw [List.length_map];exact hA.in_.n)
 generalize cpC c.g (cfE c.g L)=RC at *
 generalize cpL L (cfE c.g L)=RL at *
 generalize cfE c.g L=E at *
 rw [cfV_eq] at HBJ C0 hB ⊢
 clear hA hB
 obtain ⟨cg,ca,cn,cc⟩:=c
 simp only at *
 by_cases hE:E=0
 ·subst hE
  have HC2:Hid (RC=cg.cap):=hid (by rw [HC.out,if_pos rfl])
  have HL2:Hid (RL=capsL L):=hid (by rw [HL.out,if_pos rfl])
  have hn9:cn≤200:=H9.out
  clear HC HL
  go_enter Tryz.func39,Tryz.ntmps39
  go_wp2_with fail
  refine (C0.out).mono ?_
  rintro e_ w2 ⟨rfl,hb⟩
  have HJ:=hid (BoxJ.next (X:=w.alloc _) HBJ.out hb)
  have k7:w2.cell? ⟨w.heap.size,7,none⟩=some (.slice ca cn cc):=HJ.out.box.cell 7
  clear hb HBJ C0
  go_wp2_with fail
  go_loopw [6,17] (fun so si wr=>∃k:Nat,k≤cn∧si=.int .i64 k∧BoxJ w 31 #[.int .i64 cg.cap,.int .i64 cg.q,.int .i64 cg.ar,.int .i64 cg.ag,.int .u64 cg.sd,.int .i64 cg.t,.int .i64 cg.tau,.slice ca cn cc] so ((capsL L).take k) wr) (fun _ si _=>cn - intJ si)
  case atStart=>exact ⟨0,Nat.zero_le _,rfl,by rw [List.take_zero];exact HJ.out⟩
  case round =>
   clear HJ k7
   obtain ⟨k,hk,rfl,hI⟩:=hrel
   have HI:=hid hI
   have hlen:((capsL L).take k).length=k:=by rw [List.length_take,HCL.out];omega
   have k7:wr.cell? ⟨w.heap.size,7,none⟩=some (.slice ca cn cc):=hI.box.cell 7
   rcases Nat.lt_or_ge k cn with hlt|hge
   ·obtain ⟨⟨j,l⟩,hjl⟩:∃x,L[k]? = some x:=⟨_,List.getElem?_eq_getElem (by have:=HN.out;omega)⟩
    have HTK:=hid (capsL_take hjl)
    have hav:=HA.out.below hI.below
    obtain ⟨b,off,rfl,hcl,-⟩:=hav.in_.at_ k (List.getElem?_eq_some_iff.1 hjl).1
    rw [(List.getElem?_eq_some_iff.1 hjl).2] at hcl
    have LJ:=hid (jb_load hcl)
    have ST:=hid (jb_store wr j)
    have c15:wr.cell? ⟨b,off+k*30+15,none⟩=some (.int .i64 j.y.cap):=hcl 15 (by decide)
    have e15:(jbV j)[15]? = some (.int .i64 j.y.cap):=rfl
    have HI2:=hid (HI.out.next ((Below.refl _ wr).alloc (Nat.le_refl _) (.cells (jbV j) 57)))
    have hrow0:wr.ownsRow (w.heap.size+1) 3 1 u6 ((capsL L).take k).length (((capsL L).take k).map tcell):=hI.own
    rw [hlen] at hrow0
    have hml1:k+1≤maxLen:=by unfold maxLen;omega
    have hml2:(k+1)*8≤140737488355328:=by omega
    have HLN:=hid hlen
    have hwsz:=hI.size
    clear hrow0 hcl hav hI hjl hlen
    generalize j.y.cap=cap0 at *
    generalize (capsL L).take k=ys at *
    have HROW:=hid (show (wr.alloc (.cells (jbV j) 57):World).ownsRow (w.heap.size+1) 3 1 _ ys.length (ys.map tcell) from HI2.out.own)
    rw [HLN.out] at HROW
    have hml3:w.heap.size+1≤((wr.alloc (.cells (jbV j) 57)).alloc (.cells #[.int .i64 cap0] 3):World).heap.size:=by simp;omega
    go_wp2_with (first|(refine wpList_load_by rfl 57 _ rfl b (off+k*30) (.agg (jbV j)) rfl LJ.out ?_)|(refine wpList_store_by rfl 57 _ _ rfl wr.heap.size 0 (.agg (jbV j)) _ rfl rfl ST.out ?_)|(at_builtin;refine wpList_append_own _ rfl _ _ 39 rfl (w.heap.size+1) 3 i0 (.int .i64 0) 1 8 Tryz.underlying39 hi0 hz0 hz1 hz2 rfl (by decide) _ _ _ rfl (own_alloc HROW.out _) ⟨wr.heap.size+1,0,none⟩ 1 1 [.int .i64 cap0] rfl rfl (cell_one_new2 _ _ _ _ (by simp)) (by simp [Value.oneCell']) hml1 hml2 hml3 ?_;intro v' w4 hown' hgrow _;have HP:=hid (HI2.out.push (d:=cap0) (by rw [HLN.out];exact hown') hgrow);clear hown' hgrow))
    refine ⟨⟨k+1,by omega,by go_num,by rw [HTK.out];exact HP.out⟩,?_⟩
    simp [intJ];omega
   ·obtain rfl:cn=k:=by omega
    have HO:Hid (OwnsJ w.heap.size u6 RL wr):=hid (by
     have h:=hI.own
     rw [List.take_of_length_le (by rw [HCL.out];exact Nat.le_refl _),←HL2.out] at h
     exact h.mono (Nat.le_succ _))
    have k0:wr.cell? ⟨w.heap.size,0,none⟩=some (.int .i64 cg.cap):=hI.box.cell 0
    clear hI
    go_wp2_with fail
    go_ret3
    exact ⟨_,ret_ivi HC2.out.symm rfl rfl,HO.out,HI.out.below⟩
 ·have h1:(E==0)=false:=by rw [beq_eq_false_iff_ne];exact hE
  have h2:(E != 0)=true:=by rw [bne,h1];rfl
  have h3:decide (E=0)=false:=decide_eq_false hE
  have HC2:Hid (RC=0):=hid (by rw [HC.out,if_neg hE])
  have HL2:Hid (RL=[]):=hid (by rw [HL.out,if_neg hE])
  clear HC HL hE
  go_enter Tryz.func39,Tryz.ntmps39
  go_wp2_with fail
  refine (C0.out).mono ?_
  rintro e_ w2 ⟨rfl,hb⟩
  have HJ:=hid (BoxJ.next (X:=w.alloc _) HBJ.out hb)
  clear hb HBJ C0
  go_wp2_with fail
  go_ret3
  exact ⟨_,ret_ivi HC2.out.symm rfl rfl,by rw [HL2.out];exact OwnsJ.nil _ _,HJ.out.below⟩
theorem row_new{W:World}{H:Nat}{cs:Array Value}{T:TypeId}(h:Blk W H T cs):∀j u,cs.toList[j]? = some u→W.cell? ((⟨H,0,none⟩:Addr).add j)=some u:=fun j u hj=>by
 rw [Addr.add_mid,Nat.zero_add,h.cell,←Array.getElem?_toList];exact hj
structure EqA(w:World)(a:Option Addr)(n:Nat)(L:JL):Prop where
 n:L.length=n
 at_:JobsAt w a L
 p9:∀k (hk:k<L.length),L[k].1.p.n≤200
theorem EqA.below{w w':World}{a:Option Addr}{n:Nat}{L:JL}(h:EqA w a n L)(hb:Below w.heap.size w w'):EqA w' a n L:=⟨h.n,h.at_.below hb,h.p9⟩
theorem EqA.get{w:World}{a:Option Addr}{n:Nat}{L:JL}(h:EqA w a n L){k:Nat}(hk:k<n):∃x l,L[k]? = some (x,l)∧(∃b off,a=some ⟨b,off,none⟩∧(loadVar 57 ⟨b,off+k*30,none⟩).run Tryz.prog w=.ok (.agg (jbV x)) w)∧PIn w x.p l∧x.p.n≤200:=by
 have hkl:k<L.length:=by rw [h.n];exact hk
 obtain ⟨b,off,e,hcl,hpi⟩:=h.at_ k hkl
 exact ⟨L[k].1,L[k].2,List.getElem?_eq_getElem hkl,⟨b,off,e,jb_load hcl⟩,hpi,h.p9 k hkl⟩
def cellsJ(L:JL):List Value:=L.flatMap fun x=>(jbV x.1).toList
theorem jbV_len(j:Jb):(jbV j).toList.length=30:=rfl
theorem cellsJ_get(L:JL):∀(k i:Nat) (hk:k<L.length),i<30→(cellsJ L)[k*30+i]? = (jbV L[k].1)[i]?:=by
 induction L with
 | nil=>intro k i hk;cases hk
 | cons x L ih =>
  intro k i hk hi
  have e:cellsJ (x::L)=(jbV x.1).toList++cellsJ L:=rfl
  rw [e]
  cases k with
  | zero =>
   rw [List.getElem?_append_left (by rw [jbV_len];omega),Nat.zero_mul,Nat.zero_add,Array.getElem?_toList]
   rfl
  | succ k =>
   rw [List.getElem?_append_right (by rw [jbV_len];omega),jbV_len,show (k+1)*30+i - 30=k*30+i by omega]
   have hk':k<L.length:=Nat.lt_of_succ_lt_succ hk
   exact ih k i hk' hi
theorem info_job:(Tryz.prog.info? 57).map (fun i=>(i.zero,i.size,i.bytes))=some (some (.agg zJ),30,256):=by kernel_rfl
def OwnsC(base:Nat)(v:Value)(L:JL)(W:World):Prop:=W.ownsRow base 57 30 v L.length (cellsJ L)
theorem OwnsC.shape{base:Nat}{v:Value}{L:JL}{W:World}(h:OwnsC base v L W):∃a c,v=.slice a L.length c∧(∀ad,a=some ad→∃g,ad=⟨g,0,none⟩∧base≤g)∧(0<L.length→∃g,a=some ⟨g,0,none⟩):=by
 rcases h.2 with ⟨h1,h2⟩|⟨g,cap,cur,h1,h2,_⟩
 ·exact ⟨none,0,by rw [h1,h2],fun ad e=>(by cases e),fun h=>by omega⟩
 ·exact ⟨some ⟨g,0,none⟩,cap,h1,fun ad e=>⟨g,by injection e with e;exact e.symm,h2⟩,fun _=>⟨g,rfl⟩⟩
theorem OwnsC.cell{base g n c:Nat}{L:JL}{W:World}(h:OwnsC base (.slice (some ⟨g,0,none⟩) n c) L W)(k i:Nat)(hk:k<L.length)(hi:i<30):W.cell? ⟨g,k*30+i,none⟩=(jbV L[k].1)[i]?:=by
 rcases h.2 with ⟨h1,_⟩|⟨g',cap,cur,h1,h2,h3,h4,h5,h6,h7⟩
 ·cases h1
 ·injection h1 with h1 _ _
  injection h1 with h1
  injection h1 with h1 _ _
  subst h1
  rw [←cellsJ_get L k i hk hi,←h7]
  rw [List.getElem?_take_of_lt (by omega)]
  unfold World.cell?
  rw [h3]
  simp
def Jb.withS(j:Jb)(a:Option Addr)(c:Nat):Jb:=⟨j.nm,j.p.withS a c,j.y⟩
theorem below_setCells{B b:Nat}{a:World}(hb:B≤b):∀(vs:List Value) (o:Nat) (w:World),Below B a w→Below B a (w.setCells b o vs)
 | [],_,_,h=>h
 | v::r,o,_,h=>below_setCells hb r (o+1) _ (h.setCell hb v)
theorem OwnsS.farS{B g:Nat}{v:Value}{ys:List (Int × Int)}(hb:g<B):∀(vs:List Value) (o:Nat) (W:World),OwnsS B v ys W→OwnsS B v ys (W.setCells g o vs)
 | [],_,_,h=>h
 | u::r,o,_,h=>OwnsS.farS hb r (o+1) _ (h.far hb u)
def RowC(W:World)(g:Nat)(L:JL):Prop:=∀i (h:i<L.length),∀j,j<30→W.cell? ⟨g,i*30+j,none⟩=(jbV L[i].1)[j]?∧W.frozen? ⟨g,i*30+j,none⟩=false
theorem RowC.lt{W:World}{g:Nat}{L:JL}(h:RowC W g L)(hL:0<L.length):g<W.heap.size:=by
 have:W.cell? ⟨g,0*30+0,none⟩=some (.string L[0].1.nm):=(h 0 hL 0 (by decide)).1
 exact World.block_lt_of_cell? W _ this
theorem RowC.store{W:World}{g:Nat}{L:JL}(h:RowC W g L)(k:Nat)(hk:k<L.length)(a:Option Addr)(c:Nat) :
 RowC (W.setCells g (k*30+1) (plV (L[k].1.p.withS a c)).toList) g (L.set k (L[k].1.withS a c,L[k].2)):=fun i hi j hj=>by
 have hi':i<L.length:=by simpa using hi
 refine ⟨?_,by rw [World.frozen?_setCells];exact (h i hi' j hj).2⟩
 by_cases e:i=k
 ·subst e
  rw [List.getElem_set_self]
  by_cases hj2:1≤j∧j<15
  ·obtain ⟨m,rfl⟩:∃m,j=1+m:=⟨j - 1,by omega⟩
   have hm:m<(plV (L[i].1.p.withS a c)).toList.length:=show m<14 by omega
   have:=World.cell?_setCells_in g (plV (L[i].1.p.withS a c)).toList (i*30+1) W (fun q hq=>by
    have hq14:q<14:=hq
    rw [Nat.add_assoc,(h i hi' (1+q) (by omega)).1,Array.getElem?_eq_getElem (show 1+q<(jbV L[i].1).size from show 1+q<30 by omega)];rfl) m hm
   rw [←Nat.add_assoc,this]
   have hm14:m<14:=hm
   obtain rfl|rfl|rfl|rfl|rfl|rfl|rfl|rfl|rfl|rfl|rfl|rfl|rfl|rfl:m=0∨m=1∨m=2∨m=3∨m=4∨m=5∨m=6∨m=7∨m=8∨m=9∨m=10∨m=11∨m=12∨m=13:=by omega
   all_goals rfl
  ·rw [World.cell?_setCells_out g _ _ _ _ (fun _ _=>by
    show i*30+j<i*30+1∨i*30+1+14≤i*30+j
    omega),(h i hi' j hj).1]
   obtain rfl|rfl|rfl|rfl|rfl|rfl|rfl|rfl|rfl|rfl|rfl|rfl|rfl|rfl|rfl|rfl:j=0∨j=15∨j=16∨j=17∨j=18∨j=19∨j=20∨j=21∨j=22∨j=23∨j=24∨j=25∨j=26∨j=27∨j=28∨j=29:=by omega
   all_goals rfl
 ·rw [List.getElem_set_ne (fun e'=>e e'.symm),World.cell?_setCells_out g _ _ _ _ (fun _ _=>by
   show i*30+j<k*30+1∨k*30+1+14≤i*30+j
   omega)]
  exact (h i hi' j hj).1
theorem OwnsC.row{base g n c:Nat}{L:JL}{W:World}(h:OwnsC base (.slice (some ⟨g,0,none⟩) n c) L W):RowC W g L:=fun i hi j hj=>⟨h.cell i j hi hj,by
 rcases h.2 with ⟨h1,_⟩|⟨g',cap,cur,h1,h2,h3,_⟩
 ·cases h1
 ·injection h1 with h1 _ _
  injection h1 with h1
  injection h1 with h1 _ _
  subst h1
  simp [World.frozen?,h3]⟩
theorem RowC.far{W:World}{g:Nat}{L:JL}(h:RowC W g L){b o:Nat}(hb:b≠g)(u:Value):RowC (W.setCell ⟨b,o,none⟩ u) g L:=fun i hi j hj=>by
 have:=h i hi j hj
 exact ⟨(World.cell?_setCell_other _ _ _ _ (by simp<;>omega)).trans this.1,by rw [World.frozen?_setCell];exact this.2⟩
theorem blk8{w:World}{b:Nat}{T:TypeId}{cs:Array Value}(h:Blk w b T cs)(hs:cs.size=8)(v0 v1 v2 v3 v4 v5 v6 v7:Value) :
 Blk ((((((((w.setCell ⟨b,0,none⟩ v0).setCell ⟨b,1,none⟩ v1).setCell ⟨b,2,none⟩ v2).setCell ⟨b,3,none⟩ v3).setCell ⟨b,4,none⟩ v4).setCell ⟨b,5,none⟩ v5).setCell ⟨b,6,none⟩ v6).setCell ⟨b,7,none⟩ v7) b T #[v0,v1,v2,v3,v4,v5,v6,v7]:=by
 obtain ⟨c0,c1,c2,c3,c4,c5,c6,c7,rfl⟩:∃c0 c1 c2 c3 c4 c5 c6 c7,cs=#[c0,c1,c2,c3,c4,c5,c6,c7]:=by
  obtain ⟨l⟩:=cs
  match l,hs with
  | [c0,c1,c2,c3,c4,c5,c6,c7],_=>exact ⟨c0,c1,c2,c3,c4,c5,c6,c7,rfl⟩
 have h':=(((((((h.set_ 0 v0).set_ 1 v1).set_ 2 v2).set_ 3 v3).set_ 4 v4).set_ 5 v5).set_ 6 v6).set_ 7 v7
 simpa using h'
def FewP(c:Cf)(L:JL):Prop:=c.n≤100∧∀k (hk:k<L.length),L[k].1.p.n≤100∧L[k].1.nm.size≤100
theorem FewP.arg{w:World}{c:Cf}{L:JL}(h:FewP c L)(hI:CIn w c L)(hT:SpTab w)(hTab:Tab w):CArg w c L:=⟨hI,by have:=h.1;omega,fun k hk=>Nat.le_trans (h.2 k hk).1 (by decide),hT,hTab⟩
theorem few_ok(c:Cf)(L:JL)(w:World)(hI:CIn w c L)(hn9:c.n≤9223372036854775807):Calls Tryz.prog 23 #[.agg (cfV c)] w fun e w'=>(e=.returned (.bool false)∧Below w.heap.size w w')∨(e=.returned (.bool true)∧FewP c L∧Below w.heap.size w w'):=by
 obtain ⟨W1,hW1⟩:∃W1,W1=w.alloc (.cells (cfV c) 31):=⟨_,rfl⟩
 have hB:Below w.heap.size w W1:=by rw [hW1];exact (Below.refl _ w).alloc (Nat.le_refl _) _
 have hx:Blk W1 w.heap.size 31 (cfV c):=by rw [hW1];exact Blk.new w _ _
 have k7:W1.cell? ⟨w.heap.size,7,none⟩=some (.slice c.a c.n c.c):=hx.cell 7
 have HJ:=hid (hI.at_.below hB)
 have HB:=hid hB
 have HN:=hid hI.n
 have HF:Hid (c.n≤100→(∀k (hk:k<L.length),L[k].1.p.n≤100∧L[k].1.nm.size≤100)→FewP c L):=hid (fun h1 h2=>⟨h1,h2⟩)
 have e0:cfV c=#[.int .i64 c.g.cap,.int .i64 c.g.q,.int .i64 c.g.ar,.int .i64 c.g.ag,.int .u64 c.g.sd,.int .i64 c.g.t,.int .i64 c.g.tau,.slice c.a c.n c.c]:=rfl
 rw [e0] at hW1 ⊢
 clear hB hx hI e0
 generalize hFP:FewP c L=FP at *
 clear hFP
 obtain ⟨cg,ca,cn,cc⟩:=c
 simp only at *
 by_cases h100:100<cn
 ·have d1:decide (100<cn)=true:=decide_eq_true h100
  have d2:decide ((100:Int)<cn)=true:=decide_eq_true (by omega)
  clear h100
  go_enter Tryz.func23,Tryz.ntmps23
  go_upto_region 1 with fail
  rw [←hW1]
  clear hW1
  go_wp2_with fail
  go_ret
  exact .inl ⟨rfl,HB.out⟩
 ·have d1:decide (100<cn)=false:=decide_eq_false h100
  have d2:decide ((100:Int)<cn)=false:=decide_eq_false (by omega)
  have hn1:cn≤100:=by omega
  have HF:=hid (HF.out hn1)
  clear h100 hn9
  go_enter Tryz.func23,Tryz.ntmps23
  go_upto_region 1 with fail
  rw [←hW1]
  clear hW1
  go_wp2_with fail
  go_loop [3] (fun s3=>∃k:Nat,k≤cn∧s3=.int .i64 k∧∀i (hi:i<L.length),i<k→L[i].1.p.n≤100∧L[i].1.nm.size≤100) (fun s3=>cn - intJ s3)
  case atStart=>exact ⟨0,Nat.zero_le _,rfl,fun i hi h=>absurd h (Nat.not_lt_zero _)⟩
  case round =>
   obtain ⟨k,hk,rfl,hok⟩:=hrel
   have HOK:=hid hok
   clear hok
   rcases Nat.lt_or_ge k cn with hlt|hge
   ·have hkl:k<L.length:=by have:=HN.out;omega
    obtain ⟨b,off,rfl,hcl,-⟩:=HJ.out k hkl
    have c0:W1.cell? ⟨b,off+k*30,none⟩=some (.string L[k].1.nm):=hcl 0 (by decide)
    have c14:W1.cell? ⟨b,off+k*30+14,none⟩=some (.slice L[k].1.p.a L[k].1.p.n L[k].1.p.c):=hcl 14 (by decide)
    have c14':W1.cell? ⟨b,off+k*30+1+13,none⟩=some (.slice L[k].1.p.a L[k].1.p.n L[k].1.p.c):=hcl 14 (by decide)
    have HY:=hid (fun (he:L[k].1.p.n≤100∧L[k].1.nm.size≤100) i (hi:i<L.length) (h:i<k+1)=>(by
     rcases Nat.lt_or_ge i k with h4|h4
     ·exact HOK.out i hi h4
     ·obtain rfl:i=k:=by omega
      exact he:L[i].1.p.n≤100∧L[i].1.nm.size≤100))
    clear hcl
    generalize L[k].1.p=p at *
    generalize L[k].1.nm=nm at *
    by_cases h1:100<p.n
    ·have g1:decide (100<p.n)=true:=decide_eq_true h1
     have g2:decide ((100:Int)<p.n)=true:=decide_eq_true (by omega)
     clear h1 HY
     go_wp2_with fail
     go_ret
     exact .inl ⟨rfl,HB.out⟩
    ·have g1:decide (100<p.n)=false:=decide_eq_false h1
     have g2:decide ((100:Int)<p.n)=false:=decide_eq_false (by omega)
     by_cases h2:100<nm.size
     ·have g3:decide (100<nm.size)=true:=decide_eq_true h2
      have g4:decide ((100:Int)<nm.size)=true:=decide_eq_true (by omega)
      clear h1 h2 HY
      go_wp2_with fail
      go_ret
      exact .inl ⟨rfl,HB.out⟩
     ·have g3:decide (100<nm.size)=false:=decide_eq_false h2
      have g4:decide ((100:Int)<nm.size)=false:=decide_eq_false (by omega)
      have HY2:=hid (HY.out ⟨by omega,by omega⟩)
      clear h1 h2 HY
      go_wp2_with fail
      refine ⟨⟨k+1,by omega,by go_num,HY2.out⟩,?_⟩
      simp [intJ];omega
   ·obtain rfl:cn=k:=by omega
    have HE:=hid (HF.out (fun i hi=>HOK.out i hi (by have:=HN.out;omega)))
    clear HOK
    go_wp2_with fail
    go_ret
    exact .inr ⟨rfl,HE.out,HB.out⟩
theorem OwnsS.other{B base:Nat}{v u:Value}{ys:List (Int × Int)}{L:JL}{W X:World}(h:OwnsS B v ys W)(ho:OwnsC base u L W)(hg:W.grownBy X u.ownBlock):OwnsS B v ys X :=
 ⟨h.1,h.2.imp id fun ⟨g,cap,cur,h1,h2,h3,h4⟩=>⟨g,cap,cur,h1,h2,(hg.block g (Array.getElem?_eq_some_iff.1 h3).1 (fun e=>by
  rcases ho.2 with ⟨rfl,_⟩|⟨g',cap',cur',rfl,_,k3,_⟩
  ·simp [Value.ownBlock] at e
  ·have:g=g':=by simpa [Value.ownBlock] using e
   subst this
   rw [h3] at k3
   injection k3 with k3
   injection k3 with _ k4
   exact absurd k4 (by decide))).trans h3,h4⟩⟩
theorem cellsJ_snoc(L:JL)(y:Jb × List (Int × Int)):cellsJ (L++[y])=cellsJ L++(jbV y.1).toList:=by
 unfold cellsJ
 rw [List.flatMap_append]
 simp
structure RcI(w:World)(c:Cf)(L:JL)(v:Value)(L':JL)(W:World):Prop where
 bx:Blk W w.heap.size 31 (cfV c)
 bz:Blk W (w.heap.size+1) 31 #[.int .i64 0,.int .i64 0,.int .i64 0,.int .i64 0,.int .u64 0,.int .i64 0,.int .i64 0,.slice none 0 0]
 own:OwnsC (w.heap.size+2) v L' W
 new:∀i (hi:i<L'.length),∃x l a' c',L[i]? = some (x,l)∧L'[i]=(x.withS a' c',l)∧OwnsS (w.heap.size+2) (.slice a' x.p.n c') l W
 below:Below w.heap.size w W
 size:w.heap.size+2≤W.heap.size
theorem OwnsC.below{B:Nat}{v:Value}{L:JL}{W X:World}(h:OwnsC B v L W)(hb:Below W.heap.size W X):OwnsC B v L X :=
 ⟨h.1,h.2.imp id fun ⟨g,cap,cur,h1,h2,h3,h4⟩=>⟨g,cap,cur,h1,h2,(hb.block g (Array.getElem?_eq_some_iff.1 h3).1).trans h3,h4⟩⟩
theorem RcI.next{w:World}{c:Cf}{L L':JL}{v:Value}{X Y:World}(h:RcI w c L v L' X)(hb:Below X.heap.size X Y):RcI w c L v L' Y :=
 ⟨h.bx.below hb h.bx.lt,h.bz.below hb h.bz.lt,h.own.below hb,fun i hi=>by
  obtain ⟨x,l,a',c',h1,h2,h3⟩:=h.new i hi
  exact ⟨x,l,a',c',h1,h2,h3.below hb⟩,h.below.trans (hb.mono h.below.size),Nat.le_trans h.size hb.size⟩
theorem RcI.push{w:World}{c:Cf}{L L':JL}{v v':Value}{X Y:World}{tmp:Obj}(h:RcI w c L v L' X){x:Jb}{l:List (Int × Int)}{a':Option Addr}{c':Nat}(hx:L[L'.length]? = some (x,l))(ho:OwnsS (w.heap.size+2) (.slice a' x.p.n c') l X)
 (hown':Y.ownsRow (w.heap.size+2) 57 30 v' (L'.length+1) (cellsJ L'++(jbV (x.withS a' c')).toList)) (hgrow:(X.alloc tmp).grownBy Y v.ownBlock):RcI w c L v' (L'++[(x.withS a' c',l)]) Y:=by
 have hrow:X.ownsRow (w.heap.size+2) 57 30 v L'.length (cellsJ L'):=h.own
 have hs:X.heap.size+1≤Y.heap.size:=by have:=hgrow.size;simpa using this
 have hba:=(Below.refl X.heap.size X).alloc (Nat.le_refl _) tmp
 have hra:OwnsC (w.heap.size+2) v L' (X.alloc tmp):=h.own.below hba
 refine ⟨blk_app h.bx (by omega) hrow hgrow,blk_app h.bz (by omega) hrow hgrow,by unfold OwnsC;rw [cellsJ_snoc];simpa using hown',fun i hi=>?_,?_,by have:=h.size;omega⟩
 ·rcases Nat.lt_or_ge i L'.length with hlt|hge
  ·obtain ⟨y,m,a2,c2,h1,h2,h3⟩:=h.new i hlt
   exact ⟨y,m,a2,c2,h1,by rw [List.getElem_append_left hlt];exact h2,(h3.below hba).other hra hgrow⟩
  ·have:i=L'.length:=by simp at hi;omega
   subst this
   exact ⟨x,l,a',c',hx,by simp,(ho.below hba).other hra hgrow⟩
 ·refine h.below.trans (((Below.refl w.heap.size X).alloc (by have:=h.below.size;omega) tmp).grown hgrow (by simp;have:=h.below.size;omega) fun j ej=>?_)
  rcases Nat.lt_or_ge j (w.heap.size+2) with h'|h'
  ·exact absurd ej.symm (own_ge hrow h')
  ·omega
structure CopyR(B:Nat)(W:World)(a:Option Addr)(L L':JL):Prop where
 len:L'.length=L.length
 at_:0<L.length→∃g,a=some ⟨g,0,none⟩∧B≤g∧RowC W g L'∧∀(i:Nat) (x:Jb) (l:List (Int × Int)),L[i]? = some (x,l)→∃a' c',L'[i]? = some (x.withS a' c',l)∧OwnsS B (.slice a' x.p.n c') l W
theorem CopyR.set{B:Nat}{W:World}{a:Option Addr}{L L':JL}(h:CopyR B W a L L'){b:Nat}(hb:b<B)(o:Nat)(u:Value):CopyR B (W.setCell ⟨b,o,none⟩ u) a L L' :=
 ⟨h.len,fun h0=>by
  obtain ⟨g,h1,h2,h3,h4⟩:=h.at_ h0
  exact ⟨g,h1,h2,h3.far (by omega) u,fun i x l hx=>by
   obtain ⟨a',c',h5,h6⟩:=h4 i x l hx
   exact ⟨a',c',h5,h6.far hb u⟩⟩⟩
theorem RcI.copy{w:World}{c:Cf}{L L':JL}{a:Option Addr}{n cap:Nat}{W:World}(h:RcI w c L (.slice a n cap) L' W)(hl:L'.length=L.length):CopyR (w.heap.size+2) W a L L':=by
 refine ⟨hl,fun h0=>?_⟩
 obtain ⟨a2,c2,he,hs,hs2⟩:=h.own.shape
 injection he with h1 h2 h3
 obtain ⟨g,hg⟩:=hs2 (by omega)
 subst h1
 obtain ⟨g',e1,e2⟩:=hs _ hg
 injection e1 with e1
 subst e1
 refine ⟨g,hg,e2,?_,fun i x l hx=>?_⟩
 ·have hr:=h.own
  rw [hg] at hr
  exact hr.row
 ·have hi:i<L'.length:=by rw [hl];exact (List.getElem?_eq_some_iff.1 hx).1
  obtain ⟨y,m,a',c',h4,h5,h6⟩:=h.new i hi
  rw [hx] at h4
  injection h4 with h4
  injection h4 with h7 h8
  subst h7 h8
  exact ⟨a',c',by rw [List.getElem?_eq_getElem hi,h5],h6⟩
theorem jb_plan_set{W:World}{b:Nat}{x:Jb}(h:Blk W b 57 (jbV x))(a':Option Addr)(c':Nat):JbAt (W.setCells b 1 (plV (x.p.withS a' c')).toList) b 0 (x.withS a' c'):=by
 have hr:RowC W b [(x,[])]:=fun i hi j hj=>by
  have:i=0:=by simpa using hi
  subst this
  exact ⟨by simpa using h.cell (0*30+j),h.frozen _⟩
 intro i hi
 have:=((hr.store 0 (by simp) a' c') 0 (by simp) i hi).1
 simpa using this
theorem jb_there{W:World}{b:Nat}{x:Jb}(h:Blk W b 57 (jbV x)):W.there b 1 14:=fun j hj=>⟨by
 rw [h.cell,Array.getElem?_eq_getElem (show 1+j<(jbV x).size from show 1+j<30 by omega)];rfl,h.frozen _⟩
theorem jbV_one(x:Jb):∀u∈(jbV x).toList,u.oneCell'=true:=by
 intro u hu
 have:((jbV x).toList.all (·.oneCell'))=true:=by simp [jbV,Value.oneCell']
 exact List.all_eq_true.1 this u hu
theorem rccopy_ok(c:Cf)(L:JL)(w:World)(h1:EqA w c.a c.n L)(hn9:c.n≤200):Calls Tryz.prog 70 #[.agg (cfV c)] w fun e w'=>∃a cap L',e=.returned (.agg (cfV ⟨c.g,a,c.n,cap⟩))∧CopyR w.heap.size w' a L L'∧Below w.heap.size w w':=by
 obtain ⟨i0,hi0,hz0,hz1,hz2⟩:=info_parts info_job
 obtain ⟨W1,hW1⟩:∃W1,W1=(w.alloc (.cells (cfV c) 31)).alloc (.cells #[.int .i64 0,.int .i64 0,.int .i64 0,.int .i64 0,.int .u64 0,.int .i64 0,.int .i64 0,.slice none 0 0] 31):=⟨_,rfl⟩
 have H1:Hid (RcI w c L (.slice none 0 0) [] W1):=hid (by
  rw [hW1]
  exact ⟨(Blk.new w _ _).alloc _,Blk.newAt (by simp),⟨rfl,.inl ⟨rfl,rfl⟩⟩,fun i hi=>absurd hi (Nat.not_lt_zero _),((Below.refl _ w).alloc (Nat.le_refl _) _).alloc (by simp) _,by simp⟩)
 have HA:=hid h1
 have HN:=hid h1.n
 rw [hW1,cfV_eq] at H1
 rw [cfV_eq]
 clear hW1 h1
 obtain ⟨cg,ca,cn,cc⟩:=c
 simp only at *
 go_enter Tryz.func70,Tryz.ntmps70
 go_wp2_with fail
 go_loopw [3,4,5] (fun s3 s4 _ wr=>∃k:Nat,k≤cn∧s4=.int .i64 k∧∃L',L'.length=k∧RcI w ⟨cg,ca,cn,cc⟩ L s3 L' wr) (fun _ s4 _ _=>cn - intJ s4)
 case atStart=>exact ⟨0,Nat.zero_le _,rfl,[],rfl,H1.out⟩
 case round =>
  clear H1
  obtain ⟨k,hk,rfl,L',hlen,hI⟩:=hrel
  have HI:=hid hI
  have HLN:=hid hlen
  have hsz:=hI.size
  have p7:wr.cell? ⟨w.heap.size,7,none⟩=some (.slice ca cn cc):=hI.bx.cell 7
  rcases Nat.lt_or_ge k cn with hlt|hge
  ·obtain ⟨x,l,hxl,⟨b,off,rfl,hld⟩,_,hx9⟩:=(HA.out.below hI.below).get hlt
   have hbl:Below wr.heap.size wr (wr.alloc (.cells (jbV x) 57)):=(Below.refl _ wr).alloc (Nat.le_refl _) _
   obtain ⟨x',l',hxl',_,hpx,_⟩:=(HA.out.below (hI.below.trans (hbl.mono hI.below.size))).get hlt
   obtain ⟨rfl,rfl⟩:x=x'∧l=l':=by rw [hxl] at hxl';injection hxl' with h;injection h with h1 h2;exact ⟨h1,h2⟩
   have LJ:=hid hld
   have ST:=hid (jb_store wr x)
   have hbk:Blk (wr.alloc (.cells (jbV x) 57)) wr.heap.size 57 (jbV x):=Blk.new wr _ _
   have LP:=hid (JbAt.box hbk).plan
   have CC:=hid (rcopy_ok x.p l _ hpx hx9)
   have HBK:=hid hbk
   have HBL:=hid hbl
   have HXL:=hid hxl
   have HHI:=hid (fun (w4:World) (hb:Below wr.heap.size wr w4)=>HI.out.next hb)
   have hbr:0<wr.heap.size:=by omega
   clear hI hlen hxl hxl' hpx hx9 hld hbl hbk
   go_wp2_with (first|(refine wpList_load_by rfl 57 _ rfl b (off+k*30) (.agg (jbV x)) rfl LJ.out ?_)|(refine wpList_store_by rfl 57 _ _ rfl wr.heap.size 0 (.agg (jbV x)) _ rfl rfl ST.out ?_)|(refine wpList_load_by rfl 49 _ rfl wr.heap.size (0+1) (.agg (plV x.p)) rfl LP.out ?_))
   refine (CC.out).mono ?_
   rintro e_ w3 ⟨a',c',rfl,ho,hb⟩
   obtain ⟨w4,hw4⟩:∃w4,w4=w3.setCells wr.heap.size 1 (plV (x.p.withS a' c')).toList:=⟨_,rfl⟩
   have hbk3:=HBK.out.below hb (by simp)
   have SP:Hid ((storeVar 49 ⟨wr.heap.size,1,none⟩ (.agg (plV (x.p.withS a' c')))).run Tryz.prog w3=.ok () w4):=hid (by
    rw [hw4]
    exact run_storeVar_mid w3 wr.heap.size 1 49 (plV (x.p.withS a' c')) (jb_there hbk3) pl_info (by simp [plV,Value.oneCell']))
   have hbk4:JbAt w4 wr.heap.size 0 (x.withS a' c'):=by rw [hw4];exact jb_plan_set hbk3 a' c'
   have LB:=hid (jb_load (o:=0) hbk4)
   have hb4:Below wr.heap.size wr w4:=by
    rw [hw4]
    exact below_setCells (Nat.le_refl _) _ _ _ (HBL.out.trans (hb.mono (by simp)))
   have HI4:=hid (HHI.out w4 hb4)
   have HO4:Hid (OwnsS (w.heap.size+2) (.slice a' x.p.n c') l w4):=hid (by
    rw [hw4]
    exact (ho.farS (g:=wr.heap.size) (by simp) _ _ _).mono (by simp;omega))
   have hsz4:wr.heap.size≤w4.heap.size:=hb4.size
   have e30:jbV (x.withS a' c')=#[.string x.nm,.int .i64 x.p.k,.int .u64 x.p.x.s,.int .u64 x.p.x.mi,.int .u64 x.p.x.h,.int .u64 x.p.x.d,.int .u64 x.p.x.mo,.int .u64 x.p.x.w,.bool x.p.x.ad,.bool x.p.x.aw,.int .i64 x.p.z,.int .i64 x.p.e.s,.int .i64 x.p.e.p,.int .i64 x.p.e.c,.slice a' x.p.n c',.int .i64 x.y.cap,.int .i64 x.y.pri,.int .i64 x.y.spl,.int .i64 x.y.ddl,.int .i64 x.y.mis,.int .i64 x.y.keep,.int .i64 x.y.t,.int .i64 x.y.tau,.int .i64 x.y.f,.int .i64 x.y.o,.int .i64 x.y.r,.int .i64 x.y.m,.int .i64 x.y.b,.int .i64 x.y.c,.int .i64 x.y.j]:=rfl
   rw [e30] at LB
   have hml1:k+1≤maxLen:=by unfold maxLen;omega
   have hml2:(k+1)*256≤140737488355328:=by omega
   have hml3:w.heap.size+2≤(w4.alloc (.cells #[.string x.nm,.int .i64 x.p.k,.int .u64 x.p.x.s,.int .u64 x.p.x.mi,.int .u64 x.p.x.h,.int .u64 x.p.x.d,.int .u64 x.p.x.mo,.int .u64 x.p.x.w,.bool x.p.x.ad,.bool x.p.x.aw,.int .i64 x.p.z,.int .i64 x.p.e.s,.int .i64 x.p.e.p,.int .i64 x.p.e.c,.slice a' x.p.n c',.int .i64 x.y.cap,.int .i64 x.y.pri,.int .i64 x.y.spl,.int .i64 x.y.ddl,.int .i64 x.y.mis,.int .i64 x.y.keep,.int .i64 x.y.t,.int .i64 x.y.tau,.int .i64 x.y.f,.int .i64 x.y.o,.int .i64 x.y.r,.int .i64 x.y.m,.int .i64 x.y.b,.int .i64 x.y.c,.int .i64 x.y.j] 57)).heap.size:=by simp;omega
   have HROW:=hid (show w4.ownsRow (w.heap.size+2) 57 30 _ L'.length (cellsJ L') from HI4.out.own)
   rw [HLN.out] at HROW
   have HRN:=hid (show ∀(i:Nat) (u:Value),([.string x.nm,.int .i64 x.p.k,.int .u64 x.p.x.s,.int .u64 x.p.x.mi,.int .u64 x.p.x.h,.int .u64 x.p.x.d,.int .u64 x.p.x.mo,.int .u64 x.p.x.w,.bool x.p.x.ad,.bool x.p.x.aw,.int .i64 x.p.z,.int .i64 x.p.e.s,.int .i64 x.p.e.p,.int .i64 x.p.e.c,.slice a' x.p.n c',.int .i64 x.y.cap,.int .i64 x.y.pri,.int .i64 x.y.spl,.int .i64 x.y.ddl,.int .i64 x.y.mis,.int .i64 x.y.keep,.int .i64 x.y.t,.int .i64 x.y.tau,.int .i64 x.y.f,.int .i64 x.y.o,.int .i64 x.y.r,.int .i64 x.y.m,.int .i64 x.y.b,.int .i64 x.y.c,.int .i64 x.y.j]:List Value)[i]? = some u→(w4.alloc (.cells #[.string x.nm,.int .i64 x.p.k,.int .u64 x.p.x.s,.int .u64 x.p.x.mi,.int .u64 x.p.x.h,.int .u64 x.p.x.d,.int .u64 x.p.x.mo,.int .u64 x.p.x.w,.bool x.p.x.ad,.bool x.p.x.aw,.int .i64 x.p.z,.int .i64 x.p.e.s,.int .i64 x.p.e.p,.int .i64 x.p.e.c,.slice a' x.p.n c',.int .i64 x.y.cap,.int .i64 x.y.pri,.int .i64 x.y.spl,.int .i64 x.y.ddl,.int .i64 x.y.mis,.int .i64 x.y.keep,.int .i64 x.y.t,.int .i64 x.y.tau,.int .i64 x.y.f,.int .i64 x.y.o,.int .i64 x.y.r,.int .i64 x.y.m,.int .i64 x.y.b,.int .i64 x.y.c,.int .i64 x.y.j] 57)).cell? ((⟨w4.heap.size,0,none⟩:Addr).add i)=some u from row_new (Blk.new w4 57 (jbV (x.withS a' c'))))
   have HPJ:=hid (show ∀u∈([.string x.nm,.int .i64 x.p.k,.int .u64 x.p.x.s,.int .u64 x.p.x.mi,.int .u64 x.p.x.h,.int .u64 x.p.x.d,.int .u64 x.p.x.mo,.int .u64 x.p.x.w,.bool x.p.x.ad,.bool x.p.x.aw,.int .i64 x.p.z,.int .i64 x.p.e.s,.int .i64 x.p.e.p,.int .i64 x.p.e.c,.slice a' x.p.n c',.int .i64 x.y.cap,.int .i64 x.y.pri,.int .i64 x.y.spl,.int .i64 x.y.ddl,.int .i64 x.y.mis,.int .i64 x.y.keep,.int .i64 x.y.t,.int .i64 x.y.tau,.int .i64 x.y.f,.int .i64 x.y.o,.int .i64 x.y.r,.int .i64 x.y.m,.int .i64 x.y.b,.int .i64 x.y.c,.int .i64 x.y.j]:List Value),u.oneCell'=true from jbV_one (x.withS a' c'))
   clear ho hb hw4 hbk3 hbk4 hb4 e30 HHI HBL HBK LJ ST LP CC
   go_wp2_with (first|(refine wpList_store_by rfl 49 _ _ rfl wr.heap.size 1 (.agg (plV (x.p.withS a' c'))) _ rfl rfl SP.out ?_)|(refine wpList_load_by rfl 57 _ rfl wr.heap.size 0 (.agg #[.string x.nm,.int .i64 x.p.k,.int .u64 x.p.x.s,.int .u64 x.p.x.mi,.int .u64 x.p.x.h,.int .u64 x.p.x.d,.int .u64 x.p.x.mo,.int .u64 x.p.x.w,.bool x.p.x.ad,.bool x.p.x.aw,.int .i64 x.p.z,.int .i64 x.p.e.s,.int .i64 x.p.e.p,.int .i64 x.p.e.c,.slice a' x.p.n c',.int .i64 x.y.cap,.int .i64 x.y.pri,.int .i64 x.y.spl,.int .i64 x.y.ddl,.int .i64 x.y.mis,.int .i64 x.y.keep,.int .i64 x.y.t,.int .i64 x.y.tau,.int .i64 x.y.f,.int .i64 x.y.o,.int .i64 x.y.r,.int .i64 x.y.m,.int .i64 x.y.b,.int .i64 x.y.c,.int .i64 x.y.j]) rfl LB.out ?_)|(at_builtin;refine wpList_append_own _ rfl _ _ 29 rfl (w.heap.size+2) 57 i0 (.agg zJ) 30 256 Tryz.underlying29 hi0 hz0 hz1 hz2 rfl (by decide) _ _ _ rfl (own_alloc HROW.out _) ⟨w4.heap.size,0,none⟩ 1 1 ([.string x.nm,.int .i64 x.p.k,.int .u64 x.p.x.s,.int .u64 x.p.x.mi,.int .u64 x.p.x.h,.int .u64 x.p.x.d,.int .u64 x.p.x.mo,.int .u64 x.p.x.w,.bool x.p.x.ad,.bool x.p.x.aw,.int .i64 x.p.z,.int .i64 x.p.e.s,.int .i64 x.p.e.p,.int .i64 x.p.e.c,.slice a' x.p.n c',.int .i64 x.y.cap,.int .i64 x.y.pri,.int .i64 x.y.spl,.int .i64 x.y.ddl,.int .i64 x.y.mis,.int .i64 x.y.keep,.int .i64 x.y.t,.int .i64 x.y.tau,.int .i64 x.y.f,.int .i64 x.y.o,.int .i64 x.y.r,.int .i64 x.y.m,.int .i64 x.y.b,.int .i64 x.y.c,.int .i64 x.y.j]:List Value) rfl rfl HRN.out HPJ.out hml1 hml2 hml3 ?_;intro v' w5 hown' hgrow _;have HP:=hid (HI4.out.push (x:=x) (l:=l) (a':=a') (c':=c') (by rw [HLN.out];exact HXL.out) HO4.out (by rw [HLN.out];exact hown') hgrow);clear hown' hgrow))
   refine ⟨⟨k+1,by omega,by go_num,_,by simp [HLN.out],HP.out⟩,?_⟩
   simp [intJ];omega
  ·obtain rfl:cn=k:=by omega
   obtain ⟨ad,cap,he,hs,_⟩:=hI.own.shape
   rw [hlen] at he
   subst he
   have HC:=hid (HI.out.copy (by rw [HLN.out,HN.out]))
   have hx2:=hI.bx
   have hz2':=hI.bz
   have p0:wr.cell? ⟨w.heap.size,0,none⟩=some (.int .i64 cg.cap):=hx2.cell 0
   have p1:wr.cell? ⟨w.heap.size,1,none⟩=some (.int .i64 cg.q):=hx2.cell 1
   have p2:wr.cell? ⟨w.heap.size,2,none⟩=some (.int .i64 cg.ar):=hx2.cell 2
   have p3:wr.cell? ⟨w.heap.size,3,none⟩=some (.int .i64 cg.ag):=hx2.cell 3
   have p4:wr.cell? ⟨w.heap.size,4,none⟩=some (.int .u64 cg.sd):=hx2.cell 4
   have p5:wr.cell? ⟨w.heap.size,5,none⟩=some (.int .i64 cg.t):=hx2.cell 5
   have p6:wr.cell? ⟨w.heap.size,6,none⟩=some (.int .i64 cg.tau):=hx2.cell 6
   have p7:wr.cell? ⟨w.heap.size,7,none⟩=some (.slice ca cn cc):=hx2.cell 7
   have q0:wr.cell? ⟨w.heap.size+1,0,none⟩=some (.int .i64 0):=hz2'.cell 0
   have f0:wr.frozen? ⟨w.heap.size+1,0,none⟩=false:=hz2'.frozen 0
   have q1:wr.cell? ⟨w.heap.size+1,1,none⟩=some (.int .i64 0):=hz2'.cell 1
   have f1:wr.frozen? ⟨w.heap.size+1,1,none⟩=false:=hz2'.frozen 1
   have q2:wr.cell? ⟨w.heap.size+1,2,none⟩=some (.int .i64 0):=hz2'.cell 2
   have f2:wr.frozen? ⟨w.heap.size+1,2,none⟩=false:=hz2'.frozen 2
   have q3:wr.cell? ⟨w.heap.size+1,3,none⟩=some (.int .i64 0):=hz2'.cell 3
   have f3:wr.frozen? ⟨w.heap.size+1,3,none⟩=false:=hz2'.frozen 3
   have q4:wr.cell? ⟨w.heap.size+1,4,none⟩=some (.int .u64 0):=hz2'.cell 4
   have f4:wr.frozen? ⟨w.heap.size+1,4,none⟩=false:=hz2'.frozen 4
   have q5:wr.cell? ⟨w.heap.size+1,5,none⟩=some (.int .i64 0):=hz2'.cell 5
   have f5:wr.frozen? ⟨w.heap.size+1,5,none⟩=false:=hz2'.frozen 5
   have q6:wr.cell? ⟨w.heap.size+1,6,none⟩=some (.int .i64 0):=hz2'.cell 6
   have f6:wr.frozen? ⟨w.heap.size+1,6,none⟩=false:=hz2'.frozen 6
   have q7:wr.cell? ⟨w.heap.size+1,7,none⟩=some (.slice none 0 0):=hz2'.cell 7
   have f7:wr.frozen? ⟨w.heap.size+1,7,none⟩=false:=hz2'.frozen 7
   have HZ:=hid hz2'
   have HB:=hid hI.below
   clear hI hlen hx2 hz2' hs hge hk HLN
   go_wp2_with fail
   have HZ3:=blk8 HZ.out rfl (.int .i64 cg.cap) (.int .i64 cg.q) (.int .i64 cg.ar) (.int .i64 cg.ag) (.int .u64 cg.sd) (.int .i64 cg.t) (.int .i64 cg.tau) (.slice ad cn cap)
   refine bodyPost_ret (results_cell_row rfl _ _ (w.heap.size+1) _ _ (0,0) _ rfl HZ3 Tryz.underlying31 rfl (by kernel_rfl)) rfl ?_
   have hl:w.heap.size+1<w.heap.size+2:=by omega
   have hf:=(((((((HC.out.set hl 0 (.int .i64 cg.cap)).set hl 1 (.int .i64 cg.q)).set hl 2 (.int .i64 cg.ar)).set hl 3 (.int .i64 cg.ag)).set hl 4 (.int .u64 cg.sd)).set hl 5 (.int .i64 cg.t)).set hl 6 (.int .i64 cg.tau)).set hl 7 (.slice ad cn cap)
   refine ⟨ad,cap,L',rfl,⟨hf.len,fun h0=>?_⟩,?_⟩
   ·obtain ⟨g,g1,g2,g3,g4⟩:=hf.at_ h0
    exact ⟨g,g1,by omega,g3,fun i x l hx=>by
     obtain ⟨a',c',g5,g6⟩:=g4 i x l hx
     exact ⟨a',c',g5,g6.mono (by omega)⟩⟩
   ·repeat refine Below.setCell ?_ (by exact Nat.le_succ _) _
    exact HB.out
end Go.Proofs.YtpgckpafjiojfaaGreatDoor.BW
