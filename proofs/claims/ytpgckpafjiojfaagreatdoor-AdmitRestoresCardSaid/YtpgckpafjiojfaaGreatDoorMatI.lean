/- Contracts of expr.fields and expr.Check. -/
import Derived.Test.YtpgckpafjiojfaaGreatDoorMStr
import Derived.Test.YtpgckpafjiojfaaGreatDoorMTimes
import Derived.StillTailTactics
import Derived.Deep.RegionHeld3
open Go.Lib (hid)
set_option maxRecDepth 16000
set_option maxHeartbeats 40000000
namespace Go.Proofs.YtpgckpafjiojfaaGreatDoor.BW
open Go.RowKit BM Go.Shelf MC
open BK hiding ret_bool ret_i64
def exV(x:Ex):Array Value:=#[.int .u64 x.s,.int .u64 x.mi,.int .u64 x.h,.int .u64 x.d,.int .u64 x.mo,.int .u64 x.w,.bool x.ad,.bool x.aw]
def fl(x:Ex)(i:Nat):Nat:=[x.s,x.mi,x.h,x.d,x.mo,x.w].getD i 0
structure U64s(x:Ex):Prop where
 s:x.s<18446744073709551616
 mi:x.mi<18446744073709551616
 h:x.h<18446744073709551616
 d:x.d<18446744073709551616
 mo:x.mo<18446744073709551616
 w:x.w<18446744073709551616
theorem U64s.fl{x:Ex}(h:U64s x)(i:Nat):fl x i<18446744073709551616:=by
 obtain ⟨h0,h1,h2,h3,h4,h5⟩:=h
 unfold BW.fl
 match i with
 | 0=>exact h0
 | 1=>exact h1
 | 2=>exact h2
 | 3=>exact h3
 | 4=>exact h4
 | 5=>exact h5
 | i+6=>simp
def okF(i s:Nat):Bool:=!(s==0)&&sub s (fullN i)
def starsOk(x:Ex):Bool:=!(x.ad&&x.d != fullN 3)&&!(x.aw&&x.w != fullN 5)
def vx(x:Ex):Bool:=((List.range 6).all fun i=>okF i (fl x i))&&starsOk x
def ckR(x:Ex):Int:=if vx x then 0 else 16
theorem ckR_field{x:Ex}{i:Nat}(hi:i<6)(h:okF i (fl x i)=false):ckR x=16:=by
 unfold ckR vx
 rw [if_neg]
 intro hh
 rw [Bool.and_eq_true,List.all_eq_true] at hh
 have:=hh.1 i (List.mem_range.2 hi)
 rw [h] at this;cases this
theorem ckR_stars{x:Ex}(h:starsOk x=false):ckR x=16:=by unfold ckR vx;rw [h];simp
theorem ckR_ok{x:Ex}(h:∀i,i<6→okF i (fl x i)=true)(h2:starsOk x=true):ckR x=0:=by
 unfold ckR vx
 rw [if_pos]
 rw [Bool.and_eq_true,List.all_eq_true]
 exact ⟨fun i hi=>h i (List.mem_range.1 hi),h2⟩
def ptrs(b:Nat):Array Value:=#[.pointer (some ⟨b,0,none⟩),.pointer (some ⟨b,1,none⟩),.pointer (some ⟨b,2,none⟩),.pointer (some ⟨b,3,none⟩),.pointer (some ⟨b,4,none⟩),.pointer (some ⟨b,5,none⟩)]
theorem efields_ok(b:Nat)(w:World):Calls Tryz.prog 211 #[.pointer (some ⟨b,0,none⟩)] w fun e w'=>e=.returned (.agg (ptrs b))∧Below w.heap.size w w':=by
 go_enter Tryz.func211,Tryz.ntmps211
 go_wp2_with fail
 go_still_tail 19,(by kernel_rfl)
 change wpList _ _ _ _ _ (World.drew _)
 go_wp2_with fail
 (try simp only [Exit.inBlock,Exit.then])
 refine bodyPost_ret (results_cell_row rfl _ _ w.heap.size _ _ (0,0) _ rfl (Blk.new w _ _) Tryz.underlying252 rfl (by kernel_rfl)) rfl ?_
 exact ⟨rfl,below_drewN ((Below.refl _ w).alloc (Nat.le_refl _) _) 1⟩
theorem tab_below{B:Nat}{w w':World}(h:Tab w)(hb:Below B w w')(hB:1<B):Tab w':=fun j hj=>by
 rw [hb.cell (p:=⟨1,j,none⟩) hB];exact h j hj
theorem idx_ptr(b i:Nat)(hi:i<6)(W:World):(Instr.index 252 (.agg #[.pointer (some ⟨b,0,none⟩),.pointer (some ⟨b,1,none⟩),.pointer (some ⟨b,2,none⟩),.pointer (some ⟨b,3,none⟩),.pointer (some ⟨b,4,none⟩),.pointer (some ⟨b,5,none⟩)]) (.int .i64 (i:Int))).run Tryz.prog W=.ok (.pointer (some ⟨b,i,none⟩)) W:=by
 obtain rfl|rfl|rfl|rfl|rfl|rfl:i=0∨i=1∨i=2∨i=3∨i=4∨i=5:=by omega
 all_goals
  unfold Instr.index
  simp [go_sem]
def IdxAt(b:Nat)(i:Nat)(z:Int):Prop:=∀W:World,(Instr.index 252 (.agg #[.pointer (some ⟨b,0,none⟩),.pointer (some ⟨b,1,none⟩),.pointer (some ⟨b,2,none⟩),.pointer (some ⟨b,3,none⟩),.pointer (some ⟨b,4,none⟩),.pointer (some ⟨b,5,none⟩)]) (.int .i64 z)).run Tryz.prog W=.ok (.pointer (some ⟨b,i,none⟩)) W
theorem check_ok(x:Ex)(hx:U64s x)(w:World)(hT:SpTab w):Calls Tryz.prog 194 #[.agg (exV x)] w fun e w'=>e=.returned (.int .i64 (ckR x))∧Below w.heap.size w w':=by
 have HX:=hid hx
 have HT:=hid hT
 obtain ⟨V,hV⟩:∃V,V=exV x:=⟨_,rfl⟩
 have hBX:=Blk.new w 44 V
 have CF:=hid (efields_ok w.heap.size (w.alloc (.cells V 44)))
 unfold ptrs at CF
 rw [←hV]
 have HV:=hid hV
 clear hx hT hV
 go_enter Tryz.func194,Tryz.ntmps194
 go_wp2_with fail
 refine (CF.out).mono ?_
 rintro e w1 ⟨rfl,hB1⟩
 simp only [World.size_alloc] at hB1
 have HB1:=hid hB1
 go_wp2_with fail
 go_loopw [3,4,6] (fun _ _ s6 wr=>∃k:Nat,k≤6∧s6=.int .i64 k∧Below (w.heap.size+1) (w.alloc (.cells V 44)) wr∧∀i,i<k→okF i (fl x i)=true) (fun _ _ s6 _=>20 - intM s6)
 case atStart=>exact ⟨0,by omega,rfl,hB1,fun i hi=>absurd hi (Nat.not_lt_zero _)⟩
 case round =>
  obtain ⟨k,hk,rfl,hB,hok⟩:=hrel
  have hbox:Blk wr w.heap.size 44 V:=hBX.below hB (by omega)
  have HO:=hid hok
  clear hok
  rcases Nat.lt_or_ge k 6 with hlt|hge
  ·have hc:wr.cell? ⟨w.heap.size,k,none⟩=some (.int .u64 (fl x k:Nat)):=by
    rw [hbox.cell k,HV.out]
    obtain rfl|rfl|rfl|rfl|rfl|rfl:k=0∨k=1∨k=2∨k=3∨k=4∨k=5:=by omega
    all_goals rfl
   have HF:=hid (show ∀b,okF k (fl x k)=b→(b=true→∀i,i<k+1→okF i (fl x i)=true)∧(b=false→ckR x=16) from fun b hb=>⟨fun h i hi=>by
    rcases Nat.lt_or_ge i k with h1|h1
    ·exact HO.out i h1
    ·obtain rfl:i=k:=by omega
     rw [hb,h],fun h=>ckR_field hlt (by rw [hb,h])⟩)
   have hfb:=HX.out.fl k
   have HFB:=hid hfb
   have hsz:=hB.size
   simp only [World.size_alloc] at hsz
   have HSP:=hid (show ∀W,Below wr.heap.size wr W→SpTab W from fun W hW=>(HT.out).below ((((Below.refl _ w).alloc (Nat.le_refl _) _).trans (hB.mono (by omega))).trans (hW.mono (by omega))))
   generalize fl x k=f at *
   have hlw:w.heap.size<wr.heap.size:=by omega
   clear hsz hbox
   by_cases hz:f=0
   ·subst hz
    have HE:=hid ((HF.out false (by unfold okF;simp)).2 rfl)
    clear HF
    clear HFB HSP HT HX HB1
    obtain rfl|rfl|rfl|rfl|rfl|rfl:k=0∨k=1∨k=2∨k=3∨k=4∨k=5:=by omega
    ·have hI:IdxAt w.heap.size 0 0:=idx_ptr w.heap.size 0 (by decide)
     unfold IdxAt at hI
     go_wp2_with fail
     go_quiet (fail)
     go_wp2_with fail
     go_ret
     exact ⟨ret_i64 (by rw [HE.out]),below_drewN (((Below.refl _ w).alloc (Nat.le_refl _) _).trans (hB.mono (by omega))) _⟩
    ·have hI:IdxAt w.heap.size 1 1:=idx_ptr w.heap.size 1 (by decide)
     unfold IdxAt at hI
     go_wp2_with fail
     go_quiet (fail)
     go_wp2_with fail
     go_ret
     exact ⟨ret_i64 (by rw [HE.out]),below_drewN (((Below.refl _ w).alloc (Nat.le_refl _) _).trans (hB.mono (by omega))) _⟩
    ·have hI:IdxAt w.heap.size 2 2:=idx_ptr w.heap.size 2 (by decide)
     unfold IdxAt at hI
     go_wp2_with fail
     go_quiet (fail)
     go_wp2_with fail
     go_ret
     exact ⟨ret_i64 (by rw [HE.out]),below_drewN (((Below.refl _ w).alloc (Nat.le_refl _) _).trans (hB.mono (by omega))) _⟩
    ·have hI:IdxAt w.heap.size 3 3:=idx_ptr w.heap.size 3 (by decide)
     unfold IdxAt at hI
     go_wp2_with fail
     go_quiet (fail)
     go_wp2_with fail
     go_ret
     exact ⟨ret_i64 (by rw [HE.out]),below_drewN (((Below.refl _ w).alloc (Nat.le_refl _) _).trans (hB.mono (by omega))) _⟩
    ·have hI:IdxAt w.heap.size 4 4:=idx_ptr w.heap.size 4 (by decide)
     unfold IdxAt at hI
     go_wp2_with fail
     go_quiet (fail)
     go_wp2_with fail
     go_ret
     exact ⟨ret_i64 (by rw [HE.out]),below_drewN (((Below.refl _ w).alloc (Nat.le_refl _) _).trans (hB.mono (by omega))) _⟩
    ·have hI:IdxAt w.heap.size 5 5:=idx_ptr w.heap.size 5 (by decide)
     unfold IdxAt at hI
     go_wp2_with fail
     go_quiet (fail)
     go_wp2_with fail
     go_ret
     exact ⟨ret_i64 (by rw [HE.out]),below_drewN (((Below.refl _ w).alloc (Nat.le_refl _) _).trans (hB.mono (by omega))) _⟩
   ·have hz2:((f:Int)==0)=false:=by rw [beq_eq_false_iff_ne];omega
    have hz3:¬((f:Int)=0):=by omega
    have HC:=hid (fun (hlt:k<6)=>efull_ok k hlt wr.drew (HSP.out _ (below_drewN (Below.refl _ _) 1)))
    have HS:=hid (fun W=>sub_ok f (fullN k) HFB.out (by
     unfold fullN;obtain rfl|rfl|rfl|rfl|rfl|rfl:k=0∨k=1∨k=2∨k=3∨k=4∨k=5:=by omega
     all_goals decide) W)
    have HE:Hid (∀b,sub f (fullN k)=b→(b=true→∀i,i<k+1→okF i (fl x i)=true)∧(b=false→ckR x=16)):=hid (fun b hb=>HF.out b (by unfold okF;rw [hb];simp [hz]))
    clear HFB HSP HT HX HB1 HF hz
    obtain ⟨b,hb⟩:∃b,sub f (fullN k)=b:=⟨_,rfl⟩
    have HE':=hid (HE.out b hb)
    rw [hb] at HS
    clear HE hb
    cases b
    ·have HR:=hid (HE'.out.2 rfl)
     clear HE'
     obtain rfl|rfl|rfl|rfl|rfl|rfl:k=0∨k=1∨k=2∨k=3∨k=4∨k=5:=by omega
     ·have hI:IdxAt w.heap.size 0 0:=idx_ptr w.heap.size 0 (by decide)
      unfold IdxAt at hI
      go_wp2_with fail
      go_region_held3 (fun w'=>w'.cell? ⟨w.heap.size,0,none⟩=some (.int .u64 f)) (go_keep)
       (first
        | (go_at_call 213;refine (HC.out (by decide)).mono ?_;rintro e w5 ⟨rfl,hB5⟩;have hc5:w5.cell? ⟨w.heap.size,0,none⟩=some (.int .u64 f):=(hB5.cell (p:=⟨w.heap.size,0,none⟩) hlw).trans hc)
        | (go_at_call 212;refine (HS.out _).mono ?_;rintro e w6 ⟨rfl,rfl⟩))
      have hb5:Below (w.heap.size+1) (w.alloc (.cells V 44)) w5:=(below_drewN hB 1).trans (hB5.mono hlw)
      go_wp2_with fail
      go_ret
      exact ⟨ret_i64 (by rw [HR.out]),((Below.refl _ w).alloc (Nat.le_refl _) _).trans (hb5.mono (by omega))⟩
     ·have hI:IdxAt w.heap.size 1 1:=idx_ptr w.heap.size 1 (by decide)
      unfold IdxAt at hI
      go_wp2_with fail
      go_region_held3 (fun w'=>w'.cell? ⟨w.heap.size,1,none⟩=some (.int .u64 f)) (go_keep)
       (first
        | (go_at_call 213;refine (HC.out (by decide)).mono ?_;rintro e w5 ⟨rfl,hB5⟩;have hc5:w5.cell? ⟨w.heap.size,1,none⟩=some (.int .u64 f):=(hB5.cell (p:=⟨w.heap.size,1,none⟩) hlw).trans hc)
        | (go_at_call 212;refine (HS.out _).mono ?_;rintro e w6 ⟨rfl,rfl⟩))
      have hb5:Below (w.heap.size+1) (w.alloc (.cells V 44)) w5:=(below_drewN hB 1).trans (hB5.mono hlw)
      go_wp2_with fail
      go_ret
      exact ⟨ret_i64 (by rw [HR.out]),((Below.refl _ w).alloc (Nat.le_refl _) _).trans (hb5.mono (by omega))⟩
     ·have hI:IdxAt w.heap.size 2 2:=idx_ptr w.heap.size 2 (by decide)
      unfold IdxAt at hI
      go_wp2_with fail
      go_region_held3 (fun w'=>w'.cell? ⟨w.heap.size,2,none⟩=some (.int .u64 f)) (go_keep)
       (first
        | (go_at_call 213;refine (HC.out (by decide)).mono ?_;rintro e w5 ⟨rfl,hB5⟩;have hc5:w5.cell? ⟨w.heap.size,2,none⟩=some (.int .u64 f):=(hB5.cell (p:=⟨w.heap.size,2,none⟩) hlw).trans hc)
        | (go_at_call 212;refine (HS.out _).mono ?_;rintro e w6 ⟨rfl,rfl⟩))
      have hb5:Below (w.heap.size+1) (w.alloc (.cells V 44)) w5:=(below_drewN hB 1).trans (hB5.mono hlw)
      go_wp2_with fail
      go_ret
      exact ⟨ret_i64 (by rw [HR.out]),((Below.refl _ w).alloc (Nat.le_refl _) _).trans (hb5.mono (by omega))⟩
     ·have hI:IdxAt w.heap.size 3 3:=idx_ptr w.heap.size 3 (by decide)
      unfold IdxAt at hI
      go_wp2_with fail
      go_region_held3 (fun w'=>w'.cell? ⟨w.heap.size,3,none⟩=some (.int .u64 f)) (go_keep)
       (first
        | (go_at_call 213;refine (HC.out (by decide)).mono ?_;rintro e w5 ⟨rfl,hB5⟩;have hc5:w5.cell? ⟨w.heap.size,3,none⟩=some (.int .u64 f):=(hB5.cell (p:=⟨w.heap.size,3,none⟩) hlw).trans hc)
        | (go_at_call 212;refine (HS.out _).mono ?_;rintro e w6 ⟨rfl,rfl⟩))
      have hb5:Below (w.heap.size+1) (w.alloc (.cells V 44)) w5:=(below_drewN hB 1).trans (hB5.mono hlw)
      go_wp2_with fail
      go_ret
      exact ⟨ret_i64 (by rw [HR.out]),((Below.refl _ w).alloc (Nat.le_refl _) _).trans (hb5.mono (by omega))⟩
     ·have hI:IdxAt w.heap.size 4 4:=idx_ptr w.heap.size 4 (by decide)
      unfold IdxAt at hI
      go_wp2_with fail
      go_region_held3 (fun w'=>w'.cell? ⟨w.heap.size,4,none⟩=some (.int .u64 f)) (go_keep)
       (first
        | (go_at_call 213;refine (HC.out (by decide)).mono ?_;rintro e w5 ⟨rfl,hB5⟩;have hc5:w5.cell? ⟨w.heap.size,4,none⟩=some (.int .u64 f):=(hB5.cell (p:=⟨w.heap.size,4,none⟩) hlw).trans hc)
        | (go_at_call 212;refine (HS.out _).mono ?_;rintro e w6 ⟨rfl,rfl⟩))
      have hb5:Below (w.heap.size+1) (w.alloc (.cells V 44)) w5:=(below_drewN hB 1).trans (hB5.mono hlw)
      go_wp2_with fail
      go_ret
      exact ⟨ret_i64 (by rw [HR.out]),((Below.refl _ w).alloc (Nat.le_refl _) _).trans (hb5.mono (by omega))⟩
     ·have hI:IdxAt w.heap.size 5 5:=idx_ptr w.heap.size 5 (by decide)
      unfold IdxAt at hI
      go_wp2_with fail
      go_region_held3 (fun w'=>w'.cell? ⟨w.heap.size,5,none⟩=some (.int .u64 f)) (go_keep)
       (first
        | (go_at_call 213;refine (HC.out (by decide)).mono ?_;rintro e w5 ⟨rfl,hB5⟩;have hc5:w5.cell? ⟨w.heap.size,5,none⟩=some (.int .u64 f):=(hB5.cell (p:=⟨w.heap.size,5,none⟩) hlw).trans hc)
        | (go_at_call 212;refine (HS.out _).mono ?_;rintro e w6 ⟨rfl,rfl⟩))
      have hb5:Below (w.heap.size+1) (w.alloc (.cells V 44)) w5:=(below_drewN hB 1).trans (hB5.mono hlw)
      go_wp2_with fail
      go_ret
      exact ⟨ret_i64 (by rw [HR.out]),((Below.refl _ w).alloc (Nat.le_refl _) _).trans (hb5.mono (by omega))⟩
    ·have HR:=hid (HE'.out.1 rfl)
     clear HE'
     obtain rfl|rfl|rfl|rfl|rfl|rfl:k=0∨k=1∨k=2∨k=3∨k=4∨k=5:=by omega
     ·have hI:IdxAt w.heap.size 0 0:=idx_ptr w.heap.size 0 (by decide)
      unfold IdxAt at hI
      go_wp2_with fail
      go_region_held3 (fun w'=>w'.cell? ⟨w.heap.size,0,none⟩=some (.int .u64 f)) (go_keep)
       (first
        | (go_at_call 213;refine (HC.out (by decide)).mono ?_;rintro e w5 ⟨rfl,hB5⟩;have hc5:w5.cell? ⟨w.heap.size,0,none⟩=some (.int .u64 f):=(hB5.cell (p:=⟨w.heap.size,0,none⟩) hlw).trans hc)
        | (go_at_call 212;refine (HS.out _).mono ?_;rintro e w6 ⟨rfl,rfl⟩))
      have hb5:Below (w.heap.size+1) (w.alloc (.cells V 44)) w5:=(below_drewN hB 1).trans (hB5.mono hlw)
      go_wp2_with fail
      refine ⟨⟨1,by decide,by go_num,hb5,HR.out⟩,?_⟩
      simp [intM]
     ·have hI:IdxAt w.heap.size 1 1:=idx_ptr w.heap.size 1 (by decide)
      unfold IdxAt at hI
      go_wp2_with fail
      go_region_held3 (fun w'=>w'.cell? ⟨w.heap.size,1,none⟩=some (.int .u64 f)) (go_keep)
       (first
        | (go_at_call 213;refine (HC.out (by decide)).mono ?_;rintro e w5 ⟨rfl,hB5⟩;have hc5:w5.cell? ⟨w.heap.size,1,none⟩=some (.int .u64 f):=(hB5.cell (p:=⟨w.heap.size,1,none⟩) hlw).trans hc)
        | (go_at_call 212;refine (HS.out _).mono ?_;rintro e w6 ⟨rfl,rfl⟩))
      have hb5:Below (w.heap.size+1) (w.alloc (.cells V 44)) w5:=(below_drewN hB 1).trans (hB5.mono hlw)
      go_wp2_with fail
      refine ⟨⟨2,by decide,by go_num,hb5,HR.out⟩,?_⟩
      simp [intM]
     ·have hI:IdxAt w.heap.size 2 2:=idx_ptr w.heap.size 2 (by decide)
      unfold IdxAt at hI
      go_wp2_with fail
      go_region_held3 (fun w'=>w'.cell? ⟨w.heap.size,2,none⟩=some (.int .u64 f)) (go_keep)
       (first
        | (go_at_call 213;refine (HC.out (by decide)).mono ?_;rintro e w5 ⟨rfl,hB5⟩;have hc5:w5.cell? ⟨w.heap.size,2,none⟩=some (.int .u64 f):=(hB5.cell (p:=⟨w.heap.size,2,none⟩) hlw).trans hc)
        | (go_at_call 212;refine (HS.out _).mono ?_;rintro e w6 ⟨rfl,rfl⟩))
      have hb5:Below (w.heap.size+1) (w.alloc (.cells V 44)) w5:=(below_drewN hB 1).trans (hB5.mono hlw)
      go_wp2_with fail
      refine ⟨⟨3,by decide,by go_num,hb5,HR.out⟩,?_⟩
      simp [intM]
     ·have hI:IdxAt w.heap.size 3 3:=idx_ptr w.heap.size 3 (by decide)
      unfold IdxAt at hI
      go_wp2_with fail
      go_region_held3 (fun w'=>w'.cell? ⟨w.heap.size,3,none⟩=some (.int .u64 f)) (go_keep)
       (first
        | (go_at_call 213;refine (HC.out (by decide)).mono ?_;rintro e w5 ⟨rfl,hB5⟩;have hc5:w5.cell? ⟨w.heap.size,3,none⟩=some (.int .u64 f):=(hB5.cell (p:=⟨w.heap.size,3,none⟩) hlw).trans hc)
        | (go_at_call 212;refine (HS.out _).mono ?_;rintro e w6 ⟨rfl,rfl⟩))
      have hb5:Below (w.heap.size+1) (w.alloc (.cells V 44)) w5:=(below_drewN hB 1).trans (hB5.mono hlw)
      go_wp2_with fail
      refine ⟨⟨4,by decide,by go_num,hb5,HR.out⟩,?_⟩
      simp [intM]
     ·have hI:IdxAt w.heap.size 4 4:=idx_ptr w.heap.size 4 (by decide)
      unfold IdxAt at hI
      go_wp2_with fail
      go_region_held3 (fun w'=>w'.cell? ⟨w.heap.size,4,none⟩=some (.int .u64 f)) (go_keep)
       (first
        | (go_at_call 213;refine (HC.out (by decide)).mono ?_;rintro e w5 ⟨rfl,hB5⟩;have hc5:w5.cell? ⟨w.heap.size,4,none⟩=some (.int .u64 f):=(hB5.cell (p:=⟨w.heap.size,4,none⟩) hlw).trans hc)
        | (go_at_call 212;refine (HS.out _).mono ?_;rintro e w6 ⟨rfl,rfl⟩))
      have hb5:Below (w.heap.size+1) (w.alloc (.cells V 44)) w5:=(below_drewN hB 1).trans (hB5.mono hlw)
      go_wp2_with fail
      refine ⟨⟨5,by decide,by go_num,hb5,HR.out⟩,?_⟩
      simp [intM]
     ·have hI:IdxAt w.heap.size 5 5:=idx_ptr w.heap.size 5 (by decide)
      unfold IdxAt at hI
      go_wp2_with fail
      go_region_held3 (fun w'=>w'.cell? ⟨w.heap.size,5,none⟩=some (.int .u64 f)) (go_keep)
       (first
        | (go_at_call 213;refine (HC.out (by decide)).mono ?_;rintro e w5 ⟨rfl,hB5⟩;have hc5:w5.cell? ⟨w.heap.size,5,none⟩=some (.int .u64 f):=(hB5.cell (p:=⟨w.heap.size,5,none⟩) hlw).trans hc)
        | (go_at_call 212;refine (HS.out _).mono ?_;rintro e w6 ⟨rfl,rfl⟩))
      have hb5:Below (w.heap.size+1) (w.alloc (.cells V 44)) w5:=(below_drewN hB 1).trans (hB5.mono hlw)
      go_wp2_with fail
      refine ⟨⟨6,by decide,by go_num,hb5,HR.out⟩,?_⟩
      simp [intM]
  ·obtain rfl:k=6:=by omega
   have hlw:w.heap.size<wr.heap.size:=by have:=hB.size;simp only [World.size_alloc] at this;omega
   have hbk:∀i,i<6→okF i (fl x i)=true:=HO.out
   have HS:=hid (show ∀b,starsOk x=b→ckR x=if b then 0 else 16 from fun b h=>by
    cases b
    ·exact ckR_stars h
    ·exact ckR_ok hbk h)
   have hc3:wr.cell? ⟨w.heap.size,3,none⟩=some (.int .u64 x.d):=by rw [hbox.cell 3,HV.out];rfl
   have hc5:wr.cell? ⟨w.heap.size,5,none⟩=some (.int .u64 x.w):=by rw [hbox.cell 5,HV.out];rfl
   have hc6:wr.cell? ⟨w.heap.size,6,none⟩=some (.bool x.ad):=by rw [hbox.cell 6,HV.out];rfl
   have hc7:wr.cell? ⟨w.heap.size,7,none⟩=some (.bool x.aw):=by rw [hbox.cell 7,HV.out];rfl
   have HK:=hid (show ∀W,Below wr.heap.size wr W→W.cell? ⟨w.heap.size,3,none⟩=some (.int .u64 x.d)∧W.cell? ⟨w.heap.size,5,none⟩=some (.int .u64 x.w)∧W.cell? ⟨w.heap.size,6,none⟩=some (.bool x.ad)∧W.cell? ⟨w.heap.size,7,none⟩=some (.bool x.aw) from fun W hW =>
    ⟨(hW.cell (p:=⟨w.heap.size,3,none⟩) hlw).trans hc3,(hW.cell (p:=⟨w.heap.size,5,none⟩) hlw).trans hc5,(hW.cell (p:=⟨w.heap.size,6,none⟩) hlw).trans hc6,(hW.cell (p:=⟨w.heap.size,7,none⟩) hlw).trans hc7⟩)
   have HSP:=hid (show ∀W,Below wr.heap.size wr W→SpTab W from fun W hW=>(HT.out).below ((((Below.refl _ w).alloc (Nat.le_refl _) _).trans (hB.mono (by omega))).trans (hW.mono (by omega))))
   have C3:=hid (fun W h=>efull_ok 3 (by decide) W (HSP.out W h))
   have C5:=hid (fun W h=>efull_ok 5 (by decide) W (HSP.out W h))
   have HB:=hid (show ∀W,Below wr.heap.size wr W→Below w.heap.size w W from fun W hW=>(((Below.refl _ w).alloc (Nat.le_refl _) _).trans (hB.mono (by omega))).trans (hW.mono (by omega)))
   have k3:=cell_regrown hc3
   have k5:=cell_regrown hc5
   have k6:=cell_regrown hc6
   have k7:=cell_regrown hc7
   have D3:=hid (fun d os=>Calls.regrown_of (C3.out _ (below_regrown wr d os)))
   have D5:=hid (fun d os=>Calls.regrown_of (C5.out _ (below_regrown wr d os)))
   have hst:starsOk x=(!(x.ad&&x.d != fullN 3)&&!(x.aw&&x.w != fullN 5)):=rfl
   have cast3:((x.d:Int) != ((fullN 3:Nat):Int))=(x.d != fullN 3):=by
    rw [Bool.eq_iff_iff];simp [bne_iff_ne];omega
   have cast5:((x.w:Int) != ((fullN 5:Nat):Int))=(x.w != fullN 5):=by
    rw [Bool.eq_iff_iff];simp [bne_iff_ne];omega
   clear HO hbk hbox HX HB1 HT HSP HV hBX CF C3 C5 HK hc3 hc5 hc6 hc7
   generalize fullN 3=f3 at *
   generalize fullN 5=f5 at *
   obtain ⟨s,mi,h,d,mo,wk,ad,aw⟩:=x
   simp only at k3 k5 k6 k7 hst cast3 cast5
   obtain ⟨b3,hb3⟩:∃b,(d != f3)=b:=⟨_,rfl⟩
   obtain ⟨b5,hb5⟩:∃b,(wk != f5)=b:=⟨_,rfl⟩
   rw [hb3] at cast3 hst
   rw [hb5] at cast5 hst
   clear hb3 hb5
   have HS2:=hid (HS.out _ hst)
   clear HS hst
   cases ad<;>cases b3<;>cases aw<;>cases b5
   ·go_wp2_with fail
    refine wp_region_quiet_below (by kernel_rfl) (by kernel_rfl) ?_
    repeat (go_big_quiet_step (fail))
    refine wpQuiet_nil ?_
    intro _ hw'
    obtain ⟨⟨dq,osq⟩,hw''⟩:=hw'
    subst hw''
    go_wp2_with fail
    go_ret
    exact ⟨ret_i64 HS2.out.symm,HB.out _ (below_regrown wr dq osq)⟩
   ·go_wp2_with fail
    refine wp_region_quiet_below (by kernel_rfl) (by kernel_rfl) ?_
    repeat (go_big_quiet_step (fail))
    refine wpQuiet_nil ?_
    intro _ hw'
    obtain ⟨⟨dq,osq⟩,hw''⟩:=hw'
    subst hw''
    go_wp2_with fail
    go_ret
    exact ⟨ret_i64 HS2.out.symm,HB.out _ (below_regrown wr dq osq)⟩
   ·go_wp2_with fail
    refine wp_region_quiet_below (by kernel_rfl) (by kernel_rfl) ?_
    repeat (go_big_quiet_step (fail))
    go_big_quiet_step ((go_at_call 213;exact D5.out _ _))
    repeat (go_big_quiet_step (fail))
    refine wpQuiet_nil ?_
    intro _ hw'
    obtain ⟨⟨dq,osq⟩,hw''⟩:=hw'
    subst hw''
    go_wp2_with fail
    go_ret
    exact ⟨ret_i64 HS2.out.symm,HB.out _ (below_regrown wr dq osq)⟩
   ·go_wp2_with fail
    refine wp_region_quiet_below (by kernel_rfl) (by kernel_rfl) ?_
    repeat (go_big_quiet_step (fail))
    go_big_quiet_step ((go_at_call 213;exact D5.out _ _))
    repeat (go_big_quiet_step (fail))
    refine wpQuiet_nil ?_
    intro _ hw'
    obtain ⟨⟨dq,osq⟩,hw''⟩:=hw'
    subst hw''
    go_wp2_with fail
    go_ret
    exact ⟨ret_i64 HS2.out.symm,HB.out _ (below_regrown wr dq osq)⟩
   ·go_wp2_with fail
    refine wp_region_quiet_below (by kernel_rfl) (by kernel_rfl) ?_
    repeat (go_big_quiet_step (fail))
    refine wpQuiet_nil ?_
    intro _ hw'
    obtain ⟨⟨dq,osq⟩,hw''⟩:=hw'
    subst hw''
    go_wp2_with fail
    go_ret
    exact ⟨ret_i64 HS2.out.symm,HB.out _ (below_regrown wr dq osq)⟩
   ·go_wp2_with fail
    refine wp_region_quiet_below (by kernel_rfl) (by kernel_rfl) ?_
    repeat (go_big_quiet_step (fail))
    refine wpQuiet_nil ?_
    intro _ hw'
    obtain ⟨⟨dq,osq⟩,hw''⟩:=hw'
    subst hw''
    go_wp2_with fail
    go_ret
    exact ⟨ret_i64 HS2.out.symm,HB.out _ (below_regrown wr dq osq)⟩
   ·go_wp2_with fail
    refine wp_region_quiet_below (by kernel_rfl) (by kernel_rfl) ?_
    repeat (go_big_quiet_step (fail))
    go_big_quiet_step ((go_at_call 213;exact D5.out _ _))
    repeat (go_big_quiet_step (fail))
    refine wpQuiet_nil ?_
    intro _ hw'
    obtain ⟨⟨dq,osq⟩,hw''⟩:=hw'
    subst hw''
    go_wp2_with fail
    go_ret
    exact ⟨ret_i64 HS2.out.symm,HB.out _ (below_regrown wr dq osq)⟩
   ·go_wp2_with fail
    refine wp_region_quiet_below (by kernel_rfl) (by kernel_rfl) ?_
    repeat (go_big_quiet_step (fail))
    go_big_quiet_step ((go_at_call 213;exact D5.out _ _))
    repeat (go_big_quiet_step (fail))
    refine wpQuiet_nil ?_
    intro _ hw'
    obtain ⟨⟨dq,osq⟩,hw''⟩:=hw'
    subst hw''
    go_wp2_with fail
    go_ret
    exact ⟨ret_i64 HS2.out.symm,HB.out _ (below_regrown wr dq osq)⟩
   ·go_wp2_with fail
    refine wp_region_quiet_below (by kernel_rfl) (by kernel_rfl) ?_
    repeat (go_big_quiet_step (fail))
    go_big_quiet_step ((go_at_call 213;exact D3.out _ _))
    repeat (go_big_quiet_step (fail))
    refine wpQuiet_nil ?_
    intro _ hw'
    obtain ⟨⟨dq,osq⟩,hw''⟩:=hw'
    subst hw''
    go_wp2_with fail
    go_ret
    exact ⟨ret_i64 HS2.out.symm,HB.out _ (below_regrown wr dq osq)⟩
   ·go_wp2_with fail
    refine wp_region_quiet_below (by kernel_rfl) (by kernel_rfl) ?_
    repeat (go_big_quiet_step (fail))
    go_big_quiet_step ((go_at_call 213;exact D3.out _ _))
    repeat (go_big_quiet_step (fail))
    refine wpQuiet_nil ?_
    intro _ hw'
    obtain ⟨⟨dq,osq⟩,hw''⟩:=hw'
    subst hw''
    go_wp2_with fail
    go_ret
    exact ⟨ret_i64 HS2.out.symm,HB.out _ (below_regrown wr dq osq)⟩
   ·go_wp2_with fail
    refine wp_region_quiet_below (by kernel_rfl) (by kernel_rfl) ?_
    repeat (go_big_quiet_step (fail))
    go_big_quiet_step ((go_at_call 213;exact D3.out _ _))
    repeat (go_big_quiet_step (fail))
    go_big_quiet_step ((go_at_call 213;exact D5.out _ _))
    repeat (go_big_quiet_step (fail))
    refine wpQuiet_nil ?_
    intro _ hw'
    obtain ⟨⟨dq,osq⟩,hw''⟩:=hw'
    subst hw''
    go_wp2_with fail
    go_ret
    exact ⟨ret_i64 HS2.out.symm,HB.out _ (below_regrown wr dq osq)⟩
   ·go_wp2_with fail
    refine wp_region_quiet_below (by kernel_rfl) (by kernel_rfl) ?_
    repeat (go_big_quiet_step (fail))
    go_big_quiet_step ((go_at_call 213;exact D3.out _ _))
    repeat (go_big_quiet_step (fail))
    go_big_quiet_step ((go_at_call 213;exact D5.out _ _))
    repeat (go_big_quiet_step (fail))
    refine wpQuiet_nil ?_
    intro _ hw'
    obtain ⟨⟨dq,osq⟩,hw''⟩:=hw'
    subst hw''
    go_wp2_with fail
    go_ret
    exact ⟨ret_i64 HS2.out.symm,HB.out _ (below_regrown wr dq osq)⟩
   ·go_wp2_with fail
    refine wp_region_quiet_below (by kernel_rfl) (by kernel_rfl) ?_
    repeat (go_big_quiet_step (fail))
    go_big_quiet_step ((go_at_call 213;exact D3.out _ _))
    repeat (go_big_quiet_step (fail))
    refine wpQuiet_nil ?_
    intro _ hw'
    obtain ⟨⟨dq,osq⟩,hw''⟩:=hw'
    subst hw''
    go_wp2_with fail
    go_ret
    exact ⟨ret_i64 HS2.out.symm,HB.out _ (below_regrown wr dq osq)⟩
   ·go_wp2_with fail
    refine wp_region_quiet_below (by kernel_rfl) (by kernel_rfl) ?_
    repeat (go_big_quiet_step (fail))
    go_big_quiet_step ((go_at_call 213;exact D3.out _ _))
    repeat (go_big_quiet_step (fail))
    refine wpQuiet_nil ?_
    intro _ hw'
    obtain ⟨⟨dq,osq⟩,hw''⟩:=hw'
    subst hw''
    go_wp2_with fail
    go_ret
    exact ⟨ret_i64 HS2.out.symm,HB.out _ (below_regrown wr dq osq)⟩
   ·go_wp2_with fail
    refine wp_region_quiet_below (by kernel_rfl) (by kernel_rfl) ?_
    repeat (go_big_quiet_step (fail))
    go_big_quiet_step ((go_at_call 213;exact D3.out _ _))
    repeat (go_big_quiet_step (fail))
    refine wpQuiet_nil ?_
    intro _ hw'
    obtain ⟨⟨dq,osq⟩,hw''⟩:=hw'
    subst hw''
    go_wp2_with fail
    go_ret
    exact ⟨ret_i64 HS2.out.symm,HB.out _ (below_regrown wr dq osq)⟩
   ·go_wp2_with fail
    refine wp_region_quiet_below (by kernel_rfl) (by kernel_rfl) ?_
    repeat (go_big_quiet_step (fail))
    go_big_quiet_step ((go_at_call 213;exact D3.out _ _))
    repeat (go_big_quiet_step (fail))
    refine wpQuiet_nil ?_
    intro _ hw'
    obtain ⟨⟨dq,osq⟩,hw''⟩:=hw'
    subst hw''
    go_wp2_with fail
    go_ret
    exact ⟨ret_i64 HS2.out.symm,HB.out _ (below_regrown wr dq osq)⟩
end Go.Proofs.YtpgckpafjiojfaaGreatDoor.BW
