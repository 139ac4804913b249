/- Spans: where they lie, and what blackout.Check answers. Contracts of the reference's Check of spans, and of behind. Contract of blackout.In. Contract of blackout.In. Plain maths: the sweep over the borders of spans. Plain maths: the times of a span, as a list; how many there are, without those of other spans. -/
import Derived.Test.YtpgckpafjiojfaaGreatDoorPEv
open Go.Lib (hid)
set_option maxRecDepth 16000
set_option maxHeartbeats 40000000
namespace Go.Proofs.YtpgckpafjiojfaaGreatDoor.BW
open Go.RowKit BM Go.Shelf MC
open BK hiding ret_bool ret_i64
def SpansAt(w:World)(a:Option Addr)(l:List (Int × Int)):Prop:=∀k (hk:k<l.length),∃b off,a=some ⟨b,off,none⟩∧w.cell? ⟨b,off+k*2,none⟩=some (.int .i64 l[k].1)∧w.cell? ⟨b,off+k*2+1,none⟩=some (.int .i64 l[k].2)
theorem SpansAt.below{w w':World}{a:Option Addr}{l:List (Int × Int)}(h:SpansAt w a l)(hb:Below w.heap.size w w'):SpansAt w' a l:=fun k hk=>by
 obtain ⟨b,off,e,h1,h2⟩:=h k hk
 exact ⟨b,off,e,(hb.cell (p:=⟨b,off+k*2,none⟩) (World.block_lt_of_cell? w _ h1)).trans h1,(hb.cell (p:=⟨b,off+k*2+1,none⟩) (World.block_lt_of_cell? w _ h2)).trans h2⟩
def vT(t:Int):Bool:=decide (0≤t)&&decide (t≤253402300799)
def spL:List (Int × Int)→Int
 | []=>0
 | s::l=>if vT s.1&&vT s.2 then (if s.2<s.1 then 8 else spL l) else 14
def spE(l:List (Int × Int)):Int:=if 64<l.length then 12 else spL l
theorem spL_drop{l:List (Int × Int)}{k:Nat}(hk:k<l.length):spL (l.drop k)=if vT l[k].1&&vT l[k].2 then (if l[k].2<l[k].1 then 8 else spL (l.drop (k+1))) else 14:=by
 rw [List.drop_eq_getElem_cons hk]
 rfl
theorem bvalid_ok(t:Int)(w:World):Calls Tryz.prog 210 #[.int .i64 t] w fun r w'=>r=.returned (.bool (vT t))∧w=w':=by
 by_cases h0:0≤t
 ·have d0:decide (0≤t)=true:=decide_eq_true h0
  obtain ⟨d,hd⟩:∃d,decide (t≤253402300799)=d:=⟨_,rfl⟩
  have HV:Hid (vT t=d):=hid (by unfold vT;rw [d0,hd];rfl)
  clear h0
  go_enter Tryz.func210,Tryz.ntmps210
  go_wp2_with fail
  go_ret
  exact ⟨ret_bool HV.out.symm,rfl⟩
 ·have d0:decide (0≤t)=false:=decide_eq_false h0
  have HV:Hid (vT t=false):=hid (by unfold vT;rw [d0];rfl)
  clear h0
  go_enter Tryz.func210,Tryz.ntmps210
  go_wp2_with fail
  go_ret
  exact ⟨ret_bool HV.out.symm,rfl⟩
theorem bcheck_ok(l:List (Int × Int))(a:Option Addr)(n c:Nat)(hn:l.length=n)(hn9:n<9223372036854775808)(w:World)(hl:SpansAt w a l):Calls Tryz.prog 187 #[.slice a n c] w fun r w'=>r=.returned (.int .i64 (spE l))∧Below w.heap.size w w':=by
 have HL:=hid hl
 have HN:=hid hn
 have CV:=hid (fun t w=>bvalid_ok t w)
 have HS:Hid (spE l=if 64<n then 12 else spL l):=hid (by unfold spE;rw [hn])
 generalize spE l=R at *
 clear hl hn
 by_cases h64:64<n
 ·have d1:decide (64<n)=true:=decide_eq_true h64
  have d1':decide ((64:Int)<n)=true:=decide_eq_true (by omega)
  have HR:Hid (R=12):=hid (by rw [HS.out,if_pos h64])
  clear h64 CV
  go_enter Tryz.func187,Tryz.ntmps187
  go_wp2_with fail
  go_ret
  exact ⟨ret_i64 HR.out.symm,Below.refl _ _⟩
 ·have d1:decide (64<n)=false:=decide_eq_false h64
  have d1':decide ((64:Int)<n)=false:=decide_eq_false (by omega)
  have HR:Hid (R=spL l):=hid (by rw [HS.out,if_neg h64])
  clear HS
  go_enter Tryz.func187,Tryz.ntmps187
  go_wp2_with fail
  go_loopw [10] (fun s10 wr=>∃k:Nat,k≤n∧s10=.int .i64 k∧Below w.heap.size w wr∧spL (l.drop k)=spL l) (fun s10 _=>n - intM s10)
  case atStart=>exact ⟨0,Nat.zero_le _,rfl,Below.refl _ _,rfl⟩
  case round =>
   obtain ⟨k,hk,rfl,hB,hd⟩:=hrel
   have HD:=hid hd
   have HB:=hid hB
   clear hd
   rcases Nat.lt_or_ge k n with hlt|hge
   ·have hkl:k<l.length:=by have:=HN.out;omega
    have HK:=hid (spL_drop hkl)
    obtain ⟨b,off,rfl,h1,h2⟩:=HL.out k hkl
    have h1:=(hB.cell (p:=⟨b,off+k*2,none⟩) (World.block_lt_of_cell? w _ h1)).trans h1
    have h2:=(hB.cell (p:=⟨b,off+k*2+1,none⟩) (World.block_lt_of_cell? w _ h2)).trans h2
    generalize l[k].1=f at *
    generalize l[k].2=t at *
    clear hB
    go_wp2_with fail
    refine (CV.out _ _).mono ?_
    rintro e_ w2 ⟨rfl,rfl⟩
    have HB2:=hid (HB.out.alloc HB.out.size (.cells #[.int .i64 f,.int .i64 t] 218))
    clear h1 h2
    cases hf:vT f
    ·have HE:Hid (R=14):=hid (by rw [HR.out,←HD.out,HK.out,hf];rfl)
     clear hf
     go_wp2_with fail
     go_ret
     exact ⟨ret_i64 HE.out.symm,HB2.out⟩
    ·have HF:=hid hf
     clear hf
     go_wp2_with fail
     refine (CV.out _ _).mono ?_
     rintro e_ w3 ⟨rfl,rfl⟩
     cases ht:vT t
     ·have HE:Hid (R=14):=hid (by rw [HR.out,←HD.out,HK.out,HF.out,ht];rfl)
      clear ht
      go_wp2_with fail
      go_ret
      exact ⟨ret_i64 HE.out.symm,HB2.out⟩
     ·by_cases hft:t<f
      ·have d3:decide (t<f)=true:=decide_eq_true hft
       have HE:Hid (R=8):=hid (by rw [HR.out,←HD.out,HK.out,HF.out,ht,if_pos hft];rfl)
       clear ht hft
       go_wp2_with fail
       go_ret
       exact ⟨ret_i64 HE.out.symm,HB2.out⟩
      ·have d3:decide (t<f)=false:=decide_eq_false hft
       have HD2:Hid (spL (l.drop (k+1))=spL l):=hid (by
        have h:=HK.out
        rw [HF.out,ht,if_neg hft] at h
        rw [←HD.out,h];rfl)
       clear ht hft
       go_wp2_with fail
       refine ⟨⟨k+1,by omega,by go_num,HB2.out,HD2.out⟩,?_⟩
       simp [intM];omega
   ·obtain rfl:n=k:=by omega
    have HE:Hid (R=0):=hid (by rw [HR.out,←HD.out,List.drop_eq_nil_of_le (by have:=HN.out;omega)];rfl)
    go_wp2_with fail
    go_ret
    exact ⟨ret_i64 HE.out.symm,HB.out⟩
theorem rvalid_ok(t:Int)(w:World):Calls Tryz.prog 172 #[.int .i64 t] w fun r w'=>r=.returned (.bool (vT t))∧w=w':=by
 by_cases h0:0≤t
 ·have d0:decide (0≤t)=true:=decide_eq_true h0
  obtain ⟨d,hd⟩:∃d,decide (t≤253402300799)=d:=⟨_,rfl⟩
  have HV:Hid (vT t=d):=hid (by unfold vT;rw [d0,hd];rfl)
  clear h0
  go_enter Tryz.func172,Tryz.ntmps172
  go_wp2_with fail
  go_ret
  exact ⟨ret_bool HV.out.symm,rfl⟩
 ·have d0:decide (0≤t)=false:=decide_eq_false h0
  have HV:Hid (vT t=false):=hid (by unfold vT;rw [d0];rfl)
  clear h0
  go_enter Tryz.func172,Tryz.ntmps172
  go_wp2_with fail
  go_ret
  exact ⟨ret_bool HV.out.symm,rfl⟩
theorem rspcheck_ok(l:List (Int × Int))(a:Option Addr)(n c:Nat)(hn:l.length=n)(hn9:n<9223372036854775808)(w:World)(hl:SpansAt w a l):Calls Tryz.prog 150 #[.slice a n c] w fun r w'=>r=.returned (.int .i64 (spE l))∧Below w.heap.size w w':=by
 have HL:=hid hl
 have HN:=hid hn
 have CV:=hid (fun t w=>rvalid_ok t w)
 have HS:Hid (spE l=if 64<n then 12 else spL l):=hid (by unfold spE;rw [hn])
 generalize spE l=R at *
 clear hl hn
 by_cases h64:64<n
 ·have d1:decide (64<n)=true:=decide_eq_true h64
  have d1':decide ((64:Int)<n)=true:=decide_eq_true (by omega)
  have HR:Hid (R=12):=hid (by rw [HS.out,if_pos h64])
  clear h64 CV
  go_enter Tryz.func150,Tryz.ntmps150
  go_wp2_with fail
  go_ret
  exact ⟨ret_i64 HR.out.symm,Below.refl _ _⟩
 ·have d1:decide (64<n)=false:=decide_eq_false h64
  have d1':decide ((64:Int)<n)=false:=decide_eq_false (by omega)
  have HR:Hid (R=spL l):=hid (by rw [HS.out,if_neg h64])
  clear HS
  go_enter Tryz.func150,Tryz.ntmps150
  go_wp2_with fail
  go_loopw [3] (fun s3 wr=>∃k:Nat,k≤n∧s3=.int .i64 k∧Below w.heap.size w wr∧spL (l.drop k)=spL l) (fun s3 _=>n - intM s3)
  case atStart=>exact ⟨0,Nat.zero_le _,rfl,Below.refl _ _,rfl⟩
  case round =>
   obtain ⟨k,hk,rfl,hB,hd⟩:=hrel
   have HD:=hid hd
   have HB:=hid hB
   clear hd
   rcases Nat.lt_or_ge k n with hlt|hge
   ·have hkl:k<l.length:=by have:=HN.out;omega
    have HK:=hid (spL_drop hkl)
    obtain ⟨b,off,rfl,h1,h2⟩:=HL.out k hkl
    have h1:=(hB.cell (p:=⟨b,off+k*2,none⟩) (World.block_lt_of_cell? w _ h1)).trans h1
    have h2:=(hB.cell (p:=⟨b,off+k*2+1,none⟩) (World.block_lt_of_cell? w _ h2)).trans h2
    have k1:=cell_regrown h1
    have k2:=cell_regrown h2
    generalize l[k].1=f at *
    generalize l[k].2=t at *
    clear hB
    go_wp2_with fail
    refine (CV.out _ _).mono ?_
    rintro e_ w2 ⟨rfl,rfl⟩
    cases hf:vT f
    ·have HE:Hid (R=14):=hid (by rw [HR.out,←HD.out,HK.out,hf];rfl)
     clear hf
     go_wp2_with fail
     go_ret
     exact ⟨ret_i64 HE.out.symm,HB.out⟩
    ·have HF:=hid hf
     clear hf
     go_wp2_with fail
     refine (CV.out _ _).mono ?_
     rintro e_ w3 ⟨rfl,rfl⟩
     cases ht:vT t
     ·have HE:Hid (R=14):=hid (by rw [HR.out,←HD.out,HK.out,HF.out,ht];rfl)
      clear ht
      go_wp2_with fail
      go_ret
      exact ⟨ret_i64 HE.out.symm,HB.out⟩
     ·by_cases hft:t<f
      ·have d3:decide (t<f)=true:=decide_eq_true hft
       have HE:Hid (R=8):=hid (by rw [HR.out,←HD.out,HK.out,HF.out,ht,if_pos hft];rfl)
       clear ht hft
       go_wp2_with fail
       refine wp_region_quiet_below (by kernel_rfl) (by kernel_rfl) ?_
       repeat (go_big_quiet_step (fail))
       refine wpQuiet_nil ?_
       intro _ hw'
       obtain ⟨⟨dq,osq⟩,hw''⟩:=hw'
       subst hw''
       go_wp2_with fail
       go_ret
       exact ⟨ret_i64 HE.out.symm,HB.out.trans ((below_regrown _ dq osq).mono HB.out.size)⟩
      ·have d3:decide (t<f)=false:=decide_eq_false hft
       have HD2:Hid (spL (l.drop (k+1))=spL l):=hid (by
        have h:=HK.out
        rw [HF.out,ht,if_neg hft] at h
        rw [←HD.out,h];rfl)
       clear ht hft
       go_wp2_with fail
       refine wp_region_quiet_below (by kernel_rfl) (by kernel_rfl) ?_
       repeat (go_big_quiet_step (fail))
       refine wpQuiet_nil ?_
       intro _ hw'
       obtain ⟨⟨dq,osq⟩,hw''⟩:=hw'
       subst hw''
       go_wp2_with fail
       refine ⟨⟨k+1,by omega,by go_num,HB.out.trans ((below_regrown _ dq osq).mono HB.out.size),HD2.out⟩,?_⟩
       simp [intM];omega
   ·obtain rfl:n=k:=by omega
    have HE:Hid (R=0):=hid (by rw [HR.out,←HD.out,List.drop_eq_nil_of_le (by have:=HN.out;omega)];rfl)
    go_wp2_with fail
    go_ret
    exact ⟨ret_i64 HE.out.symm,HB.out⟩
def inS(t:Int)(s:Int × Int):Bool:=decide (s.1≤t)&&decide (t≤s.2)
def tms(q:Int→Bool):Int→Nat→List Int
 | _,0=>[]
 | a,n+1=>if q a then a::tms q (a+1) n else tms q (a+1) n
def tmsP(q:Int→Bool)(a b:Int):List Int:=tms q a (b+1 - a).toNat
def ctP(q:Int→Bool)(a b:Int):Int:=((tmsP q a b).length:Int)
theorem tms_mem{q:Int→Bool}{t:Int}:∀{n:Nat} {a:Int},t∈tms q a n↔a≤t∧t<a+n∧q t=true:=by
 intro n
 induction n with
 | zero=>intro a;simp [tms];intro h1 h2;omega
 | succ n ih =>
  intro a
  by_cases h:q a=true
  ·rw [tms,if_pos h,List.mem_cons,ih]
   constructor
   ·rintro (rfl|⟨h1,h2,h3⟩)
    ·exact ⟨by omega,by omega,h⟩
    ·exact ⟨by omega,by omega,h3⟩
   ·rintro ⟨h1,h2,h3⟩
    by_cases e:t=a
    ·exact .inl e
    ·exact .inr ⟨by omega,by omega,h3⟩
  ·rw [tms,if_neg h,ih]
   constructor
   ·rintro ⟨h1,h2,h3⟩
    exact ⟨by omega,by omega,h3⟩
   ·rintro ⟨h1,h2,h3⟩
    have e:t≠a:=fun e=>h (e▸h3)
    exact ⟨by omega,by omega,h3⟩
theorem tmsP_mem{q:Int→Bool}{t a b:Int}:t∈tmsP q a b↔a≤t∧t≤b∧q t=true:=by
 unfold tmsP
 rw [tms_mem]
 constructor
 ·rintro ⟨h1,h2,h3⟩;exact ⟨h1,by omega,h3⟩
 ·rintro ⟨h1,h2,h3⟩;exact ⟨h1,by omega,h3⟩
theorem tms_inc{q:Int→Bool}:∀{n:Nat} {a:Int},(tms q a n).Pairwise (·<·):=by
 intro n
 induction n with
 | zero=>intro a;exact List.Pairwise.nil
 | succ n ih =>
  intro a
  by_cases h:q a=true
  ·rw [tms,if_pos h]
   exact List.pairwise_cons.2 ⟨fun t ht=>by have:=(tms_mem.1 ht).1;omega,ih⟩
  ·rw [tms,if_neg h];exact ih
theorem tmsP_inc{q:Int→Bool}{a b:Int}:(tmsP q a b).Pairwise (·<·):=tms_inc
theorem inc_ext:∀{L M:List Int},L.Pairwise (·<·)→M.Pairwise (·<·)→(∀t,t∈L↔t∈M)→L=M:=by
 intro L
 induction L with
 | nil =>
  intro M _ _ h
  cases M with
  | nil=>rfl
  | cons y M=>exact absurd ((h y).2 (List.mem_cons_self ..)) (by simp)
 | cons x L ih =>
  intro M hL hM h
  cases M with
  | nil=>exact absurd ((h x).1 (List.mem_cons_self ..)) (by simp)
  | cons y M =>
   rw [List.pairwise_cons] at hL hM
   have e:x=y:=by
    rcases List.mem_cons.1 ((h x).1 (List.mem_cons_self ..)) with e|h1
    ·exact e
    ·rcases List.mem_cons.1 ((h y).2 (List.mem_cons_self ..)) with e|h2
     ·exact e.symm
     ·have:=hM.1 x h1;have:=hL.1 y h2;omega
   subst e
   congr 1
   refine ih hL.2 hM.2 (fun t=>⟨fun ht=>?_,fun ht=>?_⟩)
   ·rcases List.mem_cons.1 ((h t).1 (List.mem_cons_of_mem _ ht)) with e|h1
    ·have:=hL.1 t ht;omega
    ·exact h1
   ·rcases List.mem_cons.1 ((h t).2 (List.mem_cons_of_mem _ ht)) with e|h1
    ·have:=hM.1 t ht;omega
    ·exact h1
theorem tmsP_nil{q:Int→Bool}{a b:Int}(h:∀t,a≤t→t≤b→q t=false):tmsP q a b=[]:=by
 rw [List.eq_nil_iff_forall_not_mem]
 intro t ht
 obtain ⟨h1,h2,h3⟩:=tmsP_mem.1 ht
 rw [h t h1 h2] at h3;cases h3
theorem ctP_nil{q:Int→Bool}{a b:Int}(h:∀t,a≤t→t≤b→q t=false):ctP q a b=0:=by
 unfold ctP
 rw [tmsP_nil h];rfl
end Go.Proofs.YtpgckpafjiojfaaGreatDoor.BW
