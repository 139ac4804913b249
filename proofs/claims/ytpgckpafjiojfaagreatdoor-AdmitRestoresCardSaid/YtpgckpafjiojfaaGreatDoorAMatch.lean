/- The iterator of the matched times: its contract. Contract of match.upTo: how many seconds of a day up to one are matched. Contract of match.Count. Contract of match.Next. Contract of match.List. The chapter's examples, plainly. Contracts of star, Same and works. Contract of works: the chapter's examples hold. Contracts of match.Day and match.Is. Contract of match.Is; star; Same. An expression in a box of the caller's, through calls of match.Day, match.Is and works. The times that are matched at a zone, and what next, previous and count say of them. -/
import Derived.Test.YtpgckpafjiojfaaGreatDoorAMat
import Derived.Scope
import Derived.Maps.AppendAt
open Go.Lib (hid)
set_option maxRecDepth 16000
set_option maxHeartbeats 40000000
namespace Go.Proofs.YtpgckpafjiojfaaGreatDoor.BW
open Go.RowKit BM Go.Shelf MC RK
open BK hiding ret_bool ret_i64
attribute [local go_sem] Oper.semAt_some
def loI(z a:Int):Int:=max (a+z*60) (max 0 (z*60))
def hiI(z b:Int):Int:=min (b+z*60) (min 253402300799 (253402300799+z*60))
theorem local_ok(z:Int)(h : -840≤z∧z≤840)(w:World):Calls Tryz.prog 218 #[.int .i64 z] w fun e w'=>e=.returned (.tuple #[.int .i64 (z*60),.int .i64 (max 0 (z*60)),.int .i64 (min 253402300799 (253402300799+z*60))])∧w=w':=by
 obtain ⟨h1,h2⟩:=h
 go_enter Tryz.func218,Tryz.ntmps218
 go_wp2
 go_ret3
 exact ⟨rfl,rfl⟩
def KA(B0 b N:Nat)(k:Nat):Prop:=k<B0∨b≤k∧k<b+4∨N≤k∧k<N+10
def KpA(B0 b N:Nat)(X Y:World):Prop:=KeepsFrom N X Y∧KeepS (KA B0 b N) X Y
theorem tab_steps{B:Nat}{X Y:World}(h:Tab X)(hs:RK.Steps (fun _=>False) B X Y)(hB:1<B):Tab Y:=fun j hj=>by
 have hlt:=World.block_lt_of_cell? X _ (h j hj)
 rw [World.cell?_of_block (w:=X) ((hs.same _ X.heap[1] (Array.getElem?_eq_getElem hlt) (fun h=>h) (fun h=>absurd hB (Nat.not_lt.2 h))).trans (Array.getElem?_eq_getElem hlt).symm)]
 exact h j hj
theorem tab_keep{K:Nat→Prop}{X Y:World}(h:Tab X)(hs:KeepS K X Y)(hB:K 1):Tab Y:=fun j hj=>by
 rw [World.cell?_of_block (w:=X) (hs _ hB)]
 exact h j hj
structure AllF(x:Ex)(b N l p q:Nat)(sh lo hi:Int)(W:World):Prop where
 yb:Blk W N 135 #[.func (.yield l) #[] #[]]
 sh:Blk W (N+1) 2 #[.int .i64 sh]
 lo:Blk W p 2 #[.int .i64 lo]
 hi:Blk W q 2 #[.int .i64 hi]
 pp:N+2≤p∧p<N+4
 qq:N+2≤q∧q<N+4
 xb:Blk W b 44 (exV x)
 tab:Tab W
section
variable{x:Ex}{b N l B p q:Nat}{sh lo hi:Int}{X Y:World}
theorem AllF.steps(h:AllF x b N l p q sh lo hi X)(hs:RK.Steps (fun _=>False) B X Y)(hB:1<B):AllF x b N l p q sh lo hi Y :=
 ⟨steps_blk hs h.yb (fun h=>h),steps_blk hs h.sh (fun h=>h),steps_blk hs h.lo (fun h=>h),steps_blk hs h.hi (fun h=>h),h.pp,h.qq,steps_blk hs h.xb (fun h=>h),tab_steps h.tab hs hB⟩
theorem AllF.keep{B0:Nat}(h:AllF x b N l p q sh lo hi X)(hs:KeepS (KA B0 b N) X Y)(hB:1<B0):AllF x b N l p q sh lo hi Y :=
 ⟨hs.blk h.yb (.inr (.inr ⟨by omega,by omega⟩)),hs.blk h.sh (.inr (.inr ⟨by omega,by omega⟩)),hs.blk h.lo (.inr (.inr ⟨by have:=h.pp;omega,by have:=h.pp;omega⟩)),hs.blk h.hi (.inr (.inr ⟨by have:=h.qq;omega,by have:=h.qq;omega⟩)),h.pp,h.qq,hs.blk h.xb (.inr (.inl ⟨by omega,by omega⟩)),tab_keep h.tab hs (.inl hB)⟩
end
theorem daysL_up(x:Ex)(s n:Nat):daysL x (fun j=>s+j) n=dUp x s n:=by
 unfold daysL dUp
 rw [List.range'_eq_map_range]
theorem keepsFrom_below{B:Nat}{X Y:World}(h:Below X.heap.size X Y):KeepsFrom B X Y:=⟨h.size,fun k _ _ hk _=>(h.block k (Array.getElem?_eq_some_iff.1 hk).1).trans hk⟩
theorem keepS_below{K:Nat→Prop}{X Y:World}(h:Below X.heap.size X Y)(hK:∀k,K k→k<X.heap.size):KeepS K X Y:=fun k hk=>h.block k (hK k hk)
theorem keepsFrom_mono{B C:Nat}{X Y:World}(h:KeepsFrom B X Y)(hC:B≤C):KeepsFrom C X Y:=⟨h.size,fun k o hk=>h.same k o (Nat.le_trans hC hk)⟩
structure Acc(B:Nat)(K:Nat→Prop)(X Y:World):Prop where
 from_:KeepsFrom B X Y
 keep:KeepS K X Y
theorem Acc.refl(B:Nat)(K:Nat→Prop)(X:World):Acc B K X X:=⟨KeepsFrom.refl _ _,fun _ _=>rfl⟩
theorem Acc.trans{B:Nat}{K:Nat→Prop}{X Y Z:World}(h:Acc B K X Y)(h':Acc B K Y Z):Acc B K X Z:=⟨h.from_.trans h'.from_,h.keep.trans h'.keep⟩
noncomputable def timesL(x:Ex)(z a b:Int):List Int:=if hiI z b<loI z a then [] else (rest x (loI z a).toNat (hiI z b).toNat).map fun (l:Nat)=>((l:Nat):Int) - z*60
theorem all_in(x:Ex)(hx:U64s x)(hok:x.Ok)(z a b:Int)(hz : -840≤z∧z≤840)(ha:0≤a∧a≤253402300800)(hb:0≤b∧b≤253402300799)(bb B0:Nat)(l:Nat)(J Jx:List Int→World→Prop)(W:World)
 (hB0:1<B0) (hB1:B0≤W.heap.size) (hTab:Tab W)
 (hBz:Blk W (bb+1) 3 #[.int .i64 z]) (hBa:Blk W (bb+2) 2 #[.int .i64 a]) (hBb:Blk W (bb+3) 2 #[.int .i64 b]) (hBx:Blk W bb 44 (exV x))
 (hJ:Closed (fun _=>False) W.heap.size J) (hJx:Closed (fun _=>False) W.heap.size Jx)
 (hY:∀pre d W1,J pre W1→(pre++[d]) <+: timesL x z a b→W.heap.size+10≤W1.heap.size→YieldAt Fence.wide 0 Tryz.prog l #[.int .i64 d] W1 fun e W' =>
  (e=.returned (.bool true)∧J (pre++[d]) W'∧KpA B0 bb W.heap.size W1 W')∨(e=.returned (.bool false)∧Jx (pre++[d]) W'∧KeepsFrom W.heap.size W1 W'))
 (h0:J [] W) :
 CallsIn Fence.wide 9 Tryz.prog 229 #[.func (.yield l) #[] #[],.pointer (some ⟨bb+1,0,none⟩),.pointer (some ⟨bb+2,0,none⟩),.pointer (some ⟨bb+3,0,none⟩),.pointer (some ⟨bb,0,none⟩)] W fun e W'=>(∃v,e=.returned v) ∧
  (J (timesL x z a b) W'∨(∃pre,pre <+: timesL x z a b∧Jx pre W')):=by
 have HTL:Hid (timesL x z a b=if hiI z b<loI z a then [] else (rest x (loI z a).toNat (hiI z b).toNat).map fun (l:Nat)=>((l:Nat):Int) - z*60):=hid rfl
 generalize timesL x z a b=L at *
 refine callsIn_of_wp_marks Tryz.func229 rfl trivial ?_ rfl
 simp only [Tryz.ntmps229,List.size_toArray,List.length_cons,List.length_nil,Nat.reduceAdd,Nat.reduceSub,Array.replicate_succ,Array.replicate_zero,List.push_toArray,List.append_toArray,List.nil_append,List.cons_append]
 have cz:W.cell? ⟨bb+1,0,none⟩=some (.int .i64 z):=hBz.cell 0
 have ca:W.cell? ⟨bb+2,0,none⟩=some (.int .i64 a):=hBa.cell 0
 have cb:W.cell? ⟨bb+3,0,none⟩=some (.int .i64 b):=hBb.cell 0
 have nz:=hBz.lt
 have na:=hBa.lt
 have nb:=hBb.lt
 refine wpIn_wide.2 ?_
 go_wp2_with fail
 refine wp_scope_straight ?_
 go_wp2_with fail
 refine (local_ok z hz _).mono ?_
 rintro e w1 ⟨rfl,rfl⟩
 go_upto_region 2 with fail
 obtain ⟨W2,hW2⟩:∃W2,W2=(W.alloc (.cells #[.func (.yield l) #[] #[]] 135)).alloc (.cells #[.int .i64 (z*60)] 2):=⟨_,rfl⟩
 have hb2:Below W.heap.size W W2:=by rw [hW2];exact ((Below.refl _ W).alloc (Nat.le_refl _) _).alloc (by simp) _
 have hs2:W2.heap.size=W.heap.size+2:=by rw [hW2];simp
 have hy2:Blk W2 W.heap.size 135 #[.func (.yield l) #[] #[]]:=by rw [hW2];exact (Blk.new W _ _).alloc _
 have hsh2:Blk W2 (W.heap.size+1) 2 #[.int .i64 (z*60)]:=by rw [hW2];exact Blk.newAt (by simp)
 rw [←hW2]
 clear hW2
 have ca2:W2.cell? ⟨bb+2,0,none⟩=some (.int .i64 a):=(hBa.below hb2 na).cell 0
 have cb2:W2.cell? ⟨bb+3,0,none⟩=some (.int .i64 b):=(hBb.below hb2 nb).cell 0
 have csh:W2.cell? ⟨W.heap.size+1,0,none⟩=some (.int .i64 (z*60)):=hsh2.cell 0
 clear cz ca cb
 have wa:IntKind.i64.wrap (a+z*60)=a+z*60:=IntWalk.i64_in _ (by omega)
 have wb:IntKind.i64.wrap (b+z*60)=b+z*60:=IntWalk.i64_in _ (by omega)
 go_cut [9,10] from 22 to 31 (fun s9 s10 wx=>∃p q:Nat,(W.heap.size+2≤p∧p<W.heap.size+4)∧(W.heap.size+2≤q∧q<W.heap.size+4)∧s9=.pointer (some ⟨p,0,none⟩)∧s10=.pointer (some ⟨q,0,none⟩)∧Blk wx p 2 #[.int .i64 (loI z a)]∧Blk wx q 2 #[.int .i64 (hiI z b)]∧Below W2.heap.size W2 wx∧wx.heap.size=W.heap.size+4)
 case first =>
  have HR1:Hid (∀W3,W3=(W2.alloc (.cells #[.int .i64 (loI z a)] 2)).alloc (.cells #[.int .i64 (hiI z b)] 2)→Blk W3.drew (W.heap.size+2) 2 #[.int .i64 (loI z a)]∧Blk W3.drew (W.heap.size+2+1) 2 #[.int .i64 (hiI z b)]∧Below W2.heap.size W2 W3.drew∧W3.drew.heap.size=W.heap.size+4):=hid (by
   rintro W3 rfl
   exact ⟨(Blk.newAt (by omega)).alloc _,Blk.newAt (by simp;omega),below_drewN (((Below.refl _ W2).alloc (Nat.le_refl _) _).alloc (by simp) _) 1,by show (World.alloc _ _).heap.size=_;simp;omega⟩)
  have HR2:Hid (∀W3,W3=(W2.alloc (.cells #[.int .i64 (hiI z b)] 2)).alloc (.cells #[.int .i64 (loI z a)] 2)→Blk W3.drew (W.heap.size+2+1) 2 #[.int .i64 (loI z a)]∧Blk W3.drew (W.heap.size+2) 2 #[.int .i64 (hiI z b)]∧Below W2.heap.size W2 W3.drew∧W3.drew.heap.size=W.heap.size+4):=hid (by
   rintro W3 rfl
   exact ⟨Blk.newAt (by simp;omega),(Blk.newAt (by omega)).alloc _,below_drewN (((Below.refl _ W2).alloc (Nat.le_refl _) _).alloc (by simp) _) 1,by show (World.alloc _ _).heap.size=_;simp;omega⟩)
  go_region_held3 (fun w'=>w'.cell? ⟨bb+2,0,none⟩=some (.int .i64 a)∧w'.cell? ⟨bb+3,0,none⟩=some (.int .i64 b)∧w'.cell? ⟨W.heap.size+1,0,none⟩=some (.int .i64 (z*60))) (go_keep) (fail)
  all_goals
   go_wp2_with fail
   go_meet
   first
    | exact ⟨W.heap.size+2,W.heap.size+2+1,by omega,by omega,rfl,rfl,HR1.out _ rfl⟩
    | exact ⟨W.heap.size+2+1,W.heap.size+2,by omega,by omega,rfl,rfl,HR2.out _ rfl⟩
 case rest =>
  obtain ⟨p,q,hp,hq,rfl,rfl,hlo,hhi,hb3,hs3⟩:=hcut
  have HS3:=hid hs3
  clear hs3
  have HA:Hid (AllF x bb W.heap.size l p q (z*60) (loI z a) (hiI z b) wc):=hid ⟨hy2.below hb3 hy2.lt,hsh2.below hb3 hsh2.lt,hlo,hhi,hp,hq,(hBx.below hb2 hBx.lt).below hb3 (Nat.lt_of_lt_of_le hBx.lt hb2.size),tab_below (tab_below hTab hb2 (by omega)) hb3 (by omega)⟩
  have HJ0:Hid (J [] wc):=hid (hJ _ _ _ (hJ _ _ _ h0 (RK.Steps.of_below hb2)) (RK.Steps.of_below hb3))
  have cl:wc.cell? ⟨p,0,none⟩=some (.int .i64 (loI z a)):=hlo.cell 0
  have ch:wc.cell? ⟨q,0,none⟩=some (.int .i64 (hiI z b)):=hhi.cell 0
  have hlo0:0≤loI z a:=by unfold loI;omega
  have hlo1:loI z a≤253402400000:=by unfold loI;omega
  have hhi1:hiI z b≤253402300799:=by unfold hiI;omega
  have hhi0 : -100000≤hiI z b:=by unfold hiI;omega
  have hNb:=HA.out.xb.lt
  generalize loI z a=lo at *
  generalize hiI z b=hi at *
  clear hlo hhi hb3 hb2 hy2 hsh2 ca2 cb2 csh wa wb hBx hBa hBb hBz nz na nb h0 hTab hs2 ha hb
  have c0:wc.cell? ⟨bb,0,none⟩=some (.int .u64 x.s):=HA.out.xb.cell 0
  have c1:wc.cell? ⟨bb,1,none⟩=some (.int .u64 x.mi):=HA.out.xb.cell 1
  have c2:wc.cell? ⟨bb,2,none⟩=some (.int .u64 x.h):=HA.out.xb.cell 2
  have c3:wc.cell? ⟨bb,3,none⟩=some (.int .u64 x.d):=HA.out.xb.cell 3
  have c4:wc.cell? ⟨bb,4,none⟩=some (.int .u64 x.mo):=HA.out.xb.cell 4
  have c5:wc.cell? ⟨bb,5,none⟩=some (.int .u64 x.w):=HA.out.xb.cell 5
  have c6:wc.cell? ⟨bb,6,none⟩=some (.bool x.ad):=HA.out.xb.cell 6
  have c7:wc.cell? ⟨bb,7,none⟩=some (.bool x.aw):=HA.out.xb.cell 7
  by_cases hlt:hi<lo
  ·have HL:=hid HTL.out
   rw [if_pos hlt] at HL
   go_wp2_with fail
   refine ⟨_,results_none rfl _ _ _,?_⟩
   exact ⟨⟨_,rfl⟩,.inl (by rw [HL.out];exact HJ0.out)⟩
  ·have HL:=hid HTL.out
   rw [if_neg hlt] at HL
   clear HTL
   obtain ⟨lo,rfl⟩:=Int.eq_ofNat_of_zero_le hlo0
   obtain ⟨hi,rfl⟩:=Int.eq_ofNat_of_zero_le (show 0≤hi by omega)
   rw [Int.toNat_natCast,Int.toNat_natCast] at HL
   go_wp2_with fail
   refine wp_label ?_
   try simp only [Exit.then]
   go_wp2_with fail
   refine (days_mk x ((lo:Int) / 86400) ((hi:Int) / 86400) wc).mono ?_
   rintro e w4 ⟨rfl,rfl⟩
   have hb4:Below wc.heap.size wc (((wc.alloc (.cells (exV x) 44)).alloc (.cells #[.int .i64 ((lo:Int) / 86400)] 2)).alloc (.cells #[.int .i64 ((hi:Int) / 86400)] 2)):=(((Below.refl _ wc).alloc (Nat.le_refl _) _).alloc (by simp) _).alloc (by simp;omega) _
   have q1:Blk (((wc.alloc (.cells (exV x) 44)).alloc (.cells #[.int .i64 ((lo:Int) / 86400)] 2)).alloc (.cells #[.int .i64 ((hi:Int) / 86400)] 2)) wc.heap.size 44 (exV x):=((Blk.new wc _ _).alloc _).alloc _
   have q2:Blk (((wc.alloc (.cells (exV x) 44)).alloc (.cells #[.int .i64 ((lo:Int) / 86400)] 2)).alloc (.cells #[.int .i64 ((hi:Int) / 86400)] 2)) (wc.heap.size+1) 2 #[.int .i64 ((lo:Int) / 86400)]:=(Blk.newAt (by simp)).alloc _
   have q3:Blk (((wc.alloc (.cells (exV x) 44)).alloc (.cells #[.int .i64 ((lo:Int) / 86400)] 2)).alloc (.cells #[.int .i64 ((hi:Int) / 86400)] 2)) (wc.heap.size+2) 2 #[.int .i64 ((hi:Int) / 86400)]:=Blk.newAt (by simp)
   have hs4:(((wc.alloc (.cells (exV x) 44)).alloc (.cells #[.int .i64 ((lo:Int) / 86400)] 2)).alloc (.cells #[.int .i64 ((hi:Int) / 86400)] 2)).heap.size=wc.heap.size+3:=by simp
   have HA4:=hid (HA.out.steps (RK.Steps.of_below (own:=fun _=>False) (B:=wc.heap.size) hb4) (by have:=HS3.out;omega))
   have HJ4:=hid (hJ _ _ _ HJ0.out (RK.Steps.of_below hb4))
   go_wp2_with fail
   refine (wpIn_wide (n:=9)).1 ?_
   generalize ((wc.alloc _).alloc _).alloc _=W4 at *
   clear c0 c1 c2 c3 c4 c5 c6 c7 cl ch HA HJ0 hb4
   have hle:lo≤hi:=by omega
   have hdd:lo / 86400≤hi / 86400:=Nat.div_le_div_right hle
   have HW:Hid (Walk (fun j=>lo / 86400+j) (hi / 86400 - lo / 86400) ((lo:Int) / 86400) ((hi:Int) / 86400) 1):=hid ⟨fun j hj=>by omega,by omega,fun j hj=>by omega,.inl ⟨rfl,by omega⟩⟩
   have HNN:Hid (hi / 86400 - lo / 86400+1=hi / 86400+1 - lo / 86400):=hid (by omega)
   have HS4:Hid (W4.heap.size=wc.heap.size+3):=hid hs4
   clear hs4
   have hW4:W.heap.size≤W4.heap.size:=by have:=HS3.out;have:=HS4.out;omega
   have hg4:1<W4.heap.size:=by have:=HS3.out;have:=HS4.out;omega
   have CI:Closed (fun _=>False) W4.heap.size (fun (pre:List Nat) (W':World)=>∃Y,J Y W'∧AllF x bb W.heap.size l p q (z*60) lo hi W'∧Y++((rest x (cOf lo pre) hi).map fun (l:Nat)=>((l:Nat):Int) - z*60)=L):=fun pre X Y h hs=>by
    obtain ⟨y,h1,h2,h3⟩:=h
    exact ⟨y,hJ _ _ _ h1 (hs.mono hW4),h2.steps hs hg4,h3⟩
   have CX:∀c,Closed (fun _=>False) W4.heap.size ((fun (c:Code) (pre:List Nat) (W':World)=>c=.ret∧(J L W'∨∃p,p <+: L∧Jx p W')) c):=fun c pre X Y h hs =>
    ⟨h.1,h.2.elim (fun h=>.inl (hJ _ _ _ h (hs.mono hW4))) (fun ⟨p,h1,h2⟩=>.inr ⟨p,h1,hJx _ _ _ h2 (hs.mono hW4)⟩)⟩
   have C0:(fun (pre:List Nat) (W':World)=>∃Y,J Y W'∧AllF x bb W.heap.size l p q (z*60) lo hi W'∧Y++((rest x (cOf lo pre) hi).map fun (l:Nat)=>((l:Nat):Int) - z*60)=L) [] W4:=⟨[],HJ4.out,HA4.out,by rw [cOf_nil,List.nil_append];exact HL.out.symm⟩
   have CK:∀(X:World) (o o':Obj),X.heap[W4.heap.size+1]? = some o→o.isCells=false→KeepS (KD wc.heap.size (wc.heap.size+1) (wc.heap.size+2) (W4.heap.size+2)) X (X.putObj (W4.heap.size+1) o'):=fun X o o' hl hc k hk=>World.putObj_heap_other (by have:=HS4.out;unfold KD at hk;omega)
   have SQ:=days_seq (9 - 1) x hx (fun j=>lo / 86400+j) (hi / 86400 - lo / 86400) ((lo:Int) / 86400) ((hi:Int) / 86400) 1 HW wc.heap.size (wc.heap.size+1) (wc.heap.size+2) W4 q1 q2 q3
   have EG:=enters_of Tryz.func230 (by kernel_rfl) rfl
   refine' wpIn_rangeFunc_seqL rfl (by decide) (gf:=230) (lb:=#[.pointer (some ⟨wc.heap.size,0,none⟩),.pointer (some ⟨wc.heap.size+1,0,none⟩),.pointer (some ⟨wc.heap.size+2,0,none⟩)]) ?hg trivial EG
    SQ (fun _ h=>h.elim) (fun h k=>h.trans k) CK (fun _=>rfl) (fun (pre:List Nat) (W':World)=>∃Y,J Y W'∧AllF x bb W.heap.size l p q (z*60) lo hi W'∧Y++((rest x (cOf lo pre) hi).map fun (l:Nat)=>((l:Nat):Int) - z*60)=L) (fun (c:Code) (pre:List Nat) (W':World)=>c=.ret∧(J L W'∨∃p,p <+: L∧Jx p W')) CI CX C0 _ ?assign ?body ?done ?stop
   case hg=>rfl
   case assign =>
    intro l d W K hK
    gi_wp2
    exact hK
   case body =>
    have hlo2:lo≤253402400000:=by omega
    have hhi2:hi≤253402300799:=by omega
    clear EG SQ CI CX C0 CK q1 q2 q3 hlt hlo0 hhi0 hlo1 hhi1 hdd
    rintro li pre d W' ⟨Y,hJY,hA,hLY⟩ hpre hsz
    rw [HNN.out,daysL_up] at hpre
    have hdm:d∈dUp x (lo / 86400) (hi / 86400+1 - lo / 86400):=hpre.subset (by simp)
    obtain ⟨m1,m2,m3⟩:=dUp_mem hdm
    rw [rest_next_day hpre] at hLY
    have cl:W'.cell? ⟨p,0,none⟩=some (.int .i64 lo):=hA.lo.cell 0
    obtain ⟨f0,hf0⟩:∃f0,f0=lo - d*86400:=⟨_,rfl⟩
    rw [←hf0] at hLY
    have hmax:max 0 ((lo:Int) - (d:Int)*86400)=(f0:Int):=by omega
    have hf1:f0≤86400:=by omega
    have HPRE:=hid hpre
    have HM:=hid m3
    have HS:=hid (And.intro hJY (And.intro hA hLY))
    have hd1:d≤2932896:=by omega
    have HSZ:Hid (∀k,KD wc.heap.size (wc.heap.size+1) (wc.heap.size+2) (W4.heap.size+2) k→k<W'.heap.size):=hid (fun k hk=>by have:=HS4.out;unfold KD at hk;omega)
    clear hpre hdm m1 m2 m3 hJY hA hLY hf0
    gi_wp2_with fail
    gi_loopw [12] (fun s12 wr=>∃(z0:Int) (f0:Nat) (Y:List Int),z0=f0∧z0≤86400∧s12=.int .i64 z0∧J Y wr∧AllF x bb W.heap.size l p q (z*60) lo hi wr∧Y++((rest x (d*86400+f0) hi).map fun (l:Nat)=>((l:Nat):Int) - z*60)=L∧Acc W4.heap.size (KD wc.heap.size (wc.heap.size+1) (wc.heap.size+2) (W4.heap.size+2)) W' wr) (fun s12 _=>86400 - intM s12)
    case atStart=>exact ⟨(f0:Int),f0,Y,rfl,by omega,by first|rfl|(rw [hmax]),HS.out.1,HS.out.2.1,HS.out.2.2,Acc.refl _ _ _⟩
    case round =>
     clear cl hmax hf1 HS
     obtain ⟨z0,f0,Y,hz0,hf,rfl,hJY,hA,hLY,hacc⟩:=hrel
     have HS:=hid (And.intro hJY (And.intro hA (And.intro hLY hacc)))
     have c0:wr.cell? ⟨bb,0,none⟩=some (.int .u64 x.s):=hA.xb.cell 0
     have c1:wr.cell? ⟨bb,1,none⟩=some (.int .u64 x.mi):=hA.xb.cell 1
     have c2:wr.cell? ⟨bb,2,none⟩=some (.int .u64 x.h):=hA.xb.cell 2
     have c3:wr.cell? ⟨bb,3,none⟩=some (.int .u64 x.d):=hA.xb.cell 3
     have c4:wr.cell? ⟨bb,4,none⟩=some (.int .u64 x.mo):=hA.xb.cell 4
     have c5:wr.cell? ⟨bb,5,none⟩=some (.int .u64 x.w):=hA.xb.cell 5
     have c6:wr.cell? ⟨bb,6,none⟩=some (.bool x.ad):=hA.xb.cell 6
     have c7:wr.cell? ⟨bb,7,none⟩=some (.bool x.aw):=hA.xb.cell 7
     clear hJY hA hLY hacc
     have hz1:0≤z0:=by omega
     by_cases hf2:z0<86400
     ·have CF:=hid (first_ok x hx hok f0 (by omega) wr HS.out.2.1.tab)
      rw [←hz0] at CF
      have HZ0:=hid hz0
      clear hz0
      cases hfs:fst x f0 with
      | none =>
       have HF:=hid hfs
       rw [hfs] at CF
       clear hfs
       unfold exV at CF
       gi_wp2_with fail
       refine ⟨trivial,(callsIn_wide.2 CF.out).mono ?_⟩
       rintro e w5 ⟨rfl,hb5⟩
       have HF5:=hid (And.intro (hJ _ _ _ HS.out.1 (RK.Steps.of_below hb5)) (HS.out.2.1.steps (RK.Steps.of_below (own:=fun _=>False) (B:=W4.heap.size) hb5) hg4))
       have HACC:=hid (HS.out.2.2.2.trans (Acc.mk (keepsFrom_below hb5) (keepS_below hb5 (fun k hk=>Nat.lt_of_lt_of_le (HSZ.out k hk) HS.out.2.2.2.from_.size))))
       clear hb5
       simp only [num,Option.getD_none,Option.isSome_none]
       gi_wp2_with fail
       refine ⟨HACC.out.from_,HACC.out.keep,Y,HF5.out.1,HF5.out.2,?_⟩
       rw [cOf_snoc,←rest_day_none (f:=f0) (by have:=HZ0.out;omega) HF.out]
       exact HS.out.2.2.1
      | some s =>
       obtain ⟨s1,s2,s3,s4⟩:=fst_some.1 hfs
       have HF:=hid hfs
       have HS3':=hid s3
       rw [hfs] at CF
       clear hfs s3 s4
       unfold exV at CF
       gi_wp2_with fail
       refine ⟨trivial,(callsIn_wide.2 CF.out).mono ?_⟩
       rintro e w5 ⟨rfl,hb5⟩
       have HF5:=hid (And.intro (hJ _ _ _ HS.out.1 (RK.Steps.of_below hb5)) (HS.out.2.1.steps (RK.Steps.of_below (own:=fun _=>False) (B:=W4.heap.size) hb5) hg4))
       have HACC:=hid (HS.out.2.2.2.trans (Acc.mk (keepsFrom_below hb5) (keepS_below hb5 (fun k hk=>Nat.lt_of_lt_of_le (HSZ.out k hk) HS.out.2.2.2.from_.size))))
       have HR:Hid (Y++((rest x (d*86400+s) hi).map fun (l:Nat)=>((l:Nat):Int) - z*60)=L):=hid (by rw [←rest_day_some HF.out];exact HS.out.2.2.1)
       have HSZ5:Hid (W.heap.size+10≤w5.heap.size):=hid (by have:=HACC.out.from_.size;have:=HS3.out;have:=HS4.out;omega)
       clear hb5 c0 c1 c2 c3 c4 c5 c6 c7
       have ch5:w5.cell? ⟨q,0,none⟩=some (.int .i64 hi):=HF5.out.2.hi.cell 0
       have cs5:w5.cell? ⟨W.heap.size+1,0,none⟩=some (.int .i64 (z*60)):=HF5.out.2.sh.cell 0
       have cy5:w5.cell? ⟨W.heap.size,0,none⟩=some (.func (.yield l) #[] #[]):=HF5.out.2.yb.cell 0
       simp only [num,Option.getD_some,Option.isSome_some]
       by_cases hth:(hi:Int)<(d:Int)*86400+(s:Int)
       ·have hdec:decide ((hi:Int)<(d:Int)*86400+(s:Int))=true:=decide_eq_true hth
        have HE:Hid (Y=L):=hid (by have h:=HR.out;rwa [rest_over (by omega),List.map_nil,List.append_nil] at h)
        gi_wp2_with fail
        refine ⟨fun f h=>by simp at h,?_⟩
        gi_wp2_with fail
        exact ⟨HACC.out.from_,rfl,.inl (by rw [←HE.out];exact HF5.out.1)⟩
       ·have hdec:decide ((hi:Int)<(d:Int)*86400+(s:Int))=false:=decide_eq_false hth
        have hT:T x (d*86400+s)=true:=by rw [T_day s1 HM.out];exact HS3'.out
        have HR2:Hid ((Y++[(d:Int)*86400+(s:Int) - z*60])++((rest x (d*86400+(s+1)) hi).map fun (l:Nat)=>((l:Nat):Int) - z*60)=L):=hid (by
         have h:=HR.out
         rw [rest_cons (by omega) hT,List.map_cons,Nat.add_assoc] at h
         rw [List.append_assoc,List.singleton_append]
         have e:((d*86400+s:Nat):Int)=(d:Int)*86400+(s:Int):=by omega
         rw [e] at h
         exact h)
        have HP:Hid ((Y++[(d:Int)*86400+(s:Int) - z*60]) <+: L):=hid ⟨_,HR2.out⟩
        clear hT
        obtain ⟨fn,tmps,assign,body,hy,hR⟩:=yieldAt_wide (k:=9 - 1 - 1 - 1) (hY Y _ w5 HF5.out.1 HP.out HSZ5.out)
        gi_wp2_with fail
        refine (show RoundIn (Fence.wide.inRound li) 6 _ _ _ _ _ _ _ _ from hR).mono ?_
        rintro e W7 (⟨rfl,hJ7,hk7⟩|⟨rfl,hJx7,hkf7⟩)
        ·have HF7:=hid (And.intro hJ7 (HF5.out.2.keep hk7.2 hB0))
         have HACC7:Hid (Acc W4.heap.size (KD wc.heap.size (wc.heap.size+1) (wc.heap.size+2) (W4.heap.size+2)) W' W7):=hid (HACC.out.trans (Acc.mk (keepsFrom_mono hk7.1 hW4) (fun k hk=>hk7.2 k (by have:=HS3.out;have:=HS4.out;unfold KD at hk;unfold KA;omega))))
         clear hJ7 hk7 hR hy ch5 cs5 cy5
         gi_wp2_with fail
         refine ⟨⟨_,s+1,_,rfl,?_,?_,HF7.out.1,HF7.out.2,HR2.out,HACC7.out⟩,?_⟩
         ·omega
         ·go_num
         ·simp [intM];have:=HZ0.out;omega
        ·gi_wp2_with fail
         exact ⟨HACC.out.from_.trans (keepsFrom_mono hkf7 hW4),rfl,.inr ⟨_,HP.out,hJx7⟩⟩
     ·have hz86:z0=86400:=by omega
      have HR:Hid (Y++((rest x ((d+1)*86400) hi).map fun (l:Nat)=>((l:Nat):Int) - z*60)=L):=hid (by
       have h:=HS.out.2.2.1
       rwa [show d*86400+f0=(d+1)*86400 from by omega] at h)
      clear hz0
      gi_wp2_with fail
      refine ⟨HS.out.2.2.2.from_,HS.out.2.2.2.keep,Y,HS.out.1,HS.out.2.1,?_⟩
      rw [cOf_snoc]
      exact HR.out
   case done =>
    clear EG SQ CI CX C0 CK q1 q2 q3 hlt hlo0 hhi0
    rintro D W' hD ⟨Y,hJY,hA,hLY⟩ hK
    have HE:Hid (Y=L):=hid (by
     rw [HNN.out,daysL_up] at hLY
     rwa [rest_nil (fun l h1 h2=>days_end h1 (Nat.le_trans (cOf_ge x lo _) h1) h2),List.map_nil,List.append_nil] at hLY)
    have HJY:=hid hJY
    have HK:=hid hK
    clear hJY hA hLY hK
    go_wp2_with fail
    refine ⟨by simp,.inl ⟨_,_,rfl,run_takeDeferred HK.out,?_⟩⟩
    refine ⟨_,results_none rfl _ _ _,⟨_,rfl⟩,.inl ?_⟩
    rw [←HE.out]
    exact hJ _ _ _ HJY.out (RK.Steps.putObj _ _ (Nat.le_trans hW4 hD) HK.out rfl)
   case stop =>
    clear EG SQ CI CX C0 CK q1 q2 q3 hlt hlo0 hhi0
    rintro D c pre W' hD hp ⟨rfl,h⟩ hK
    have HH:=hid h
    have HK:=hid hK
    clear h hK hp
    gi_wp2_with fail
    refine ⟨by simp,.inl ⟨_,_,rfl,run_takeDeferred HK.out,?_⟩⟩
    refine ⟨_,results_none rfl _ _ _,⟨_,rfl⟩,?_⟩
    rcases HH.out with h|⟨p,h1,h2⟩
    ·exact .inl (hJ _ _ _ h (RK.Steps.putObj _ _ (Nat.le_trans hW4 hD) HK.out rfl))
    ·exact .inr ⟨p,h1,hJx _ _ _ h2 (RK.Steps.putObj _ _ (Nat.le_trans hW4 hD) HK.out rfl)⟩
end Go.Proofs.YtpgckpafjiojfaaGreatDoor.BW
namespace Go.Proofs.YtpgckpafjiojfaaGreatDoor.BW
open Go.RowKit BM Go.Shelf MC
open BK hiding ret_bool ret_i64
theorem mem_cnt(s:Nat)(n:Nat):((List.range n).filter fun i=>s.testBit i).length=cnt s.testBit n:=by
 induction n with
 | zero=>rfl
 | succ n ih =>
  rw [List.range_succ,List.filter_append,List.length_append,ih,cnt]
  cases h:s.testBit n<;>simp [h]
theorem cnt_cut(p:Nat→Bool)(v n:Nat)(hv:v≤n)(h:∀i,v≤i→i<n→p i=false):cnt p n=cnt p v:=by
 obtain ⟨k,rfl⟩:∃k,n=v+k:=⟨n - v,by omega⟩
 rw [cnt_add,cnt_false k (fun i hi=>h _ (by omega) (by omega))]
 rfl
theorem mem_mask(s v:Nat)(hv:v≤64):(mem (s &&&(2^v - 1))).length=cnt s.testBit v:=by
 unfold mem
 rw [mem_cnt _ 64,cnt_cut _ v 64 hv]
 ·refine cnt_congr v fun i hi=>?_
  rw [Nat.testBit_and,Nat.testBit_two_pow_sub_one]
  simp [hi]
 ·intro i h1 h2
  rw [Nat.testBit_and,Nat.testBit_two_pow_sub_one]
  simp;intro _;omega
theorem mem60(s:Nat)(h:s<2^60):(mem s).length=cnt s.testBit 60:=by
 unfold mem
 rw [mem_cnt _ 64,cnt_cut _ 60 64 (by omega)]
 intro i h1 h2
 exact Nat.testBit_lt_two_pow (Nat.lt_of_lt_of_le h (Nat.pow_le_pow_right (by decide) h1))
theorem clk_upto(x:Ex)(s:Nat):cnt (clk x) (s+1) =
 cnt x.h.testBit (s / 3600)*(cnt x.mi.testBit 60)*cnt x.s.testBit 60 +
 if x.h.testBit (s / 3600) then cnt x.mi.testBit (s / 60 % 60)*cnt x.s.testBit 60+(if x.mi.testBit (s / 60 % 60) then cnt x.s.testBit (s % 60+1) else 0) else 0:=by
 have h1:cnt (clk x) (s+1)=cnt (clk x) s+if clk x s then 1 else 0:=rfl
 have h2:cnt x.s.testBit (s % 60+1)=cnt x.s.testBit (s % 60)+if x.s.testBit (s % 60) then 1 else 0:=rfl
 have e1:s % 3600 / 60=s / 60 % 60:=by omega
 rw [h1,clk_count,e1,Nat.mul_assoc,h2]
 unfold clk
 generalize cnt x.s.testBit (s % 60)=k1
 generalize cnt x.h.testBit (s / 3600)*(cnt x.mi.testBit 60*cnt x.s.testBit 60)=k2
 generalize cnt x.mi.testBit (s / 60 % 60)*cnt x.s.testBit 60=k3
 cases x.h.testBit (s / 3600)<;>cases x.mi.testBit (s / 60 % 60)<;>cases x.s.testBit (s % 60)<;>simp<;>omega
theorem below_ok(s v:Nat)(hs:s<18446744073709551616)(hv:v≤60)(w:World) :
 Calls Tryz.prog 231 #[.int .u64 s,.int .i64 v] w fun e w'=>e=.returned (.int .i64 (cnt s.testBit v:Nat))∧w=w':=by
 have hp:2^v≤2^60:=Nat.pow_le_pow_right (by decide) hv
 have hp0:0<2^v:=Nat.pow_pos (by decide)
 have C:=hid (count_ok (s &&&(2^v - 1)) (Nat.lt_of_le_of_lt Nat.and_le_left hs) w)
 rw [mem_mask s v (by omega)] at C
 have HA:=hid (andN s (2^v - 1) hs (by omega))
 have hw:IntKind.u64.wrap (2^v)=((2^v:Nat):Int):=by
  rw [show ((2:Int)^v)=((2^v:Nat):Int) from by simp]
  exact wrapN _ (by omega)
 generalize hP:(2:Nat)^v=p at *
 have hw2:((p - 1:Nat):Int)=(p:Int) - 1:=by omega
 rw [hw2] at HA
 clear hw2
 go_enter Tryz.func231,Tryz.ntmps231
 go_wp2_with fail
 rw [HA.out]
 refine (C.out).mono ?_
 rintro e w' ⟨rfl,rfl⟩
 go_wp2_with fail
 go_ret
 exact ⟨rfl,rfl⟩
def upR(x:Ex)(tt:Int):Nat:=if tt<0 then 0 else cnt (clk x) (tt.toNat+1)
theorem upto_ok(x:Ex)(hu:U64s x)(hx:x.Ok)(tt:Int)(h0 : -1≤tt)(h1:tt<86400)(w:World) :
 Calls Tryz.prog 220 #[.agg (exV x),.int .i64 tt] w fun e w'=>e=.returned (.int .i64 (upR x tt:Nat))∧Below w.heap.size w w':=by
 have e0:exV x=#[.int .u64 x.s,.int .u64 x.mi,.int .u64 x.h,.int .u64 x.d,.int .u64 x.mo,.int .u64 x.w,.bool x.ad,.bool x.aw]:=rfl
 by_cases hneg:tt<0
 ·have HE:Hid (upR x tt=0):=hid (if_pos hneg)
  rw [e0]
  go_enter Tryz.func220,Tryz.ntmps220
  go_wp2
  go_ret
  exact ⟨by rw [HE.out];rfl,(Below.refl _ w).alloc (Nat.le_refl _) _⟩
 ·obtain ⟨t,rfl⟩:=Int.eq_ofNat_of_zero_le (show 0≤tt by omega)
  have HE:Hid (upR x t=cnt (clk x) (t+1)):=hid (if_neg hneg)
  have HC:=hid (clk_upto x t)
  rw [HE.out,HC.out]
  clear HE HC h0 hneg
  have h2:t<86400:=by omega
  clear h1
  have hB0:Below w.heap.size w (w.alloc (.cells (exV x) 44)):=(Below.refl _ w).alloc (Nat.le_refl _) _
  have hbx:=Blk.new w 44 (exV x)
  have k0:=cell_regrown (show _=some (.int .u64 x.s) from hbx.cell 0)
  have k1:=cell_regrown (show _=some (.int .u64 x.mi) from hbx.cell 1)
  have k2:=cell_regrown (show _=some (.int .u64 x.h) from hbx.cell 2)
  have CB1:=hid (fun W=>below_ok x.h (t / 3600) hu.h (by omega) W)
  have CB2:=hid (fun W=>below_ok x.mi (t / 60 % 60) hu.mi (by omega) W)
  have CB3:=hid (fun W=>below_ok x.s (t % 60+1) hu.s (by omega) W)
  have CM:=hid (fun W=>count_ok x.mi hu.mi W)
  have CS:=hid (fun W=>count_ok x.s hu.s W)
  rw [mem60 _ hx.mi60] at CM
  rw [mem60 _ hx.s60] at CS
  have CH:=hid (fun W=>has_ok x.h (t / 3600:Nat) hu.h W)
  have CN:=hid (fun W=>has_ok x.mi (t / 60 % 60:Nat) hu.mi W)
  rw [BW.has_nat _ _ (by omega)] at CH
  rw [BW.has_nat _ _ (by omega)] at CN
  have b1:=cnt_le x.h.testBit (t / 3600)
  have b2:=cnt_le x.mi.testBit 60
  have b3:=cnt_le x.s.testBit 60
  have b4:=cnt_le x.mi.testBit (t / 60 % 60)
  have b5:=cnt_le x.s.testBit (t % 60+1)
  obtain ⟨q1,e1⟩:∃q,q=t / 3600:=⟨_,rfl⟩
  obtain ⟨q2,e2⟩:∃q,q=t / 60 % 60:=⟨_,rfl⟩
  obtain ⟨q3,e3⟩:∃q,q=t % 60:=⟨_,rfl⟩
  have f1:(t:Int) / 3600=(q1:Int):=by omega
  have f2:(t:Int) / 60 % 60=(q2:Int):=by omega
  have f3:(t:Int) % 60=(q3:Int):=by omega
  have f4:((q3+1:Nat):Int)=(q3:Int)+1:=by omega
  have g1:q1<24:=by omega
  have g2:q2<60:=by omega
  have g3:q3<60:=by omega
  rw [←e1] at CB1 CH b1
  rw [←e2] at CB2 CN b4
  rw [←e3] at CB3 b5
  rw [f4] at CB3
  rw [←e1,←e2,←e3]
  clear e1 e2 e3 f4
  generalize cnt x.h.testBit q1=n1 at *
  generalize cnt x.mi.testBit 60=n2 at *
  generalize cnt x.s.testBit 60=n3 at *
  generalize cnt x.mi.testBit q2=n4 at *
  generalize cnt x.s.testBit (q3+1)=n5 at *
  generalize x.h.testBit q1=p1 at *
  generalize x.mi.testBit q2=p2 at *
  have F1:=hid f1
  have F2:=hid f2
  have F3:=hid f3
  clear f1 f2 f3
  have m1:n1*n2≤24*60:=Nat.mul_le_mul (by omega) b2
  have m2:n1*n2*n3≤24*60*60:=Nat.mul_le_mul m1 b3
  have m3:n4*n3≤60*60:=Nat.mul_le_mul (by omega) b3
  have HB0:=hid hB0
  clear hB0 hbx hu hx
  have HF:Hid (∀r:Int,r=((n1*n2*n3:Nat):Int)+(if p1 then ((n4*n3:Nat):Int)+(if p2 then (n5:Int) else 0) else 0)→(((n1*n2*n3+if p1 then n4*n3+(if p2 then n5 else 0) else 0):Nat):Int)=r):=hid (by
   rintro r rfl
   cases p1<;>cases p2<;>simp)
  obtain ⟨R,hR⟩:∃R:Int,R=(((n1*n2*n3+if p1 then n4*n3+(if p2 then n5 else 0) else 0):Nat):Int):=⟨_,rfl⟩
  rw [←hR]
  rw [←hR] at HF
  clear hR
  obtain ⟨a12,h12⟩:∃q,q=n1*n2:=⟨_,rfl⟩
  obtain ⟨a3,h3⟩:∃q,q=a12*n3:=⟨_,rfl⟩
  obtain ⟨a4,h4⟩:∃q,q=n4*n3:=⟨_,rfl⟩
  rw [←h12] at m1 m2 HF
  rw [←h3] at m2 HF
  rw [←h4] at m3 HF
  have w12:IntKind.i64.wrap ((n1:Int)*(n2:Int))=(a12:Int):=by rw [h12,Int.natCast_mul];exact IntWalk.i64_in _ (by rw [←Int.natCast_mul,←h12];omega)
  have w123:IntKind.i64.wrap ((a12:Int)*(n3:Int))=(a3:Int):=by rw [h3,Int.natCast_mul];exact IntWalk.i64_in _ (by rw [←Int.natCast_mul,←h3];omega)
  have w43:IntKind.i64.wrap ((n4:Int)*(n3:Int))=(a4:Int):=by rw [h4,Int.natCast_mul];exact IntWalk.i64_in _ (by rw [←Int.natCast_mul,←h4];omega)
  have wsum:IntKind.i64.wrap ((a3:Int)+(a4:Int))=(a3:Int)+(a4:Int):=IntWalk.i64_in _ (by omega)
  clear h12 h3 h4 m1 b1 b2 b4
  have D1:=hid (fun d os=>regrown_same (w:=w.alloc (.cells (exV x) 44)) (CB1.out (Sort.grow (redrawn _ d) os)))
  have D2:=hid (fun (w0:World) d os=>regrown_same (w:=w0) (CB2.out (Sort.grow (redrawn w0 d) os)))
  have DM:=hid (fun (w0:World) d os=>regrown_same (w:=w0) (CM.out (Sort.grow (redrawn w0 d) os)))
  have DS:=hid (fun (w0:World) d os=>regrown_same (w:=w0) (CS.out (Sort.grow (redrawn w0 d) os)))
  clear CB1 CB2 CM CS
  rw [e0]
  clear e0
  unfold exV at HB0 k0 k1 k2 D1
  go_enter Tryz.func220,Tryz.ntmps220
  go_wp2_with fail
  rw [F1.out,F2.out,F3.out]
  clear F1 F2 F3
  refine wp_region_quiet_below (by kernel_rfl) (by kernel_rfl) ?_
  repeat (go_big_quiet_step (fail))
  go_big_quiet_step ((go_at_call 231;exact D1.out _ _))
  repeat (go_big_quiet_step (fail))
  go_big_quiet_step ((go_at_call 232;exact DM.out _ _ _))
  repeat (go_big_quiet_step (fail))
  go_big_quiet_step ((go_at_call 232;exact DS.out _ _ _))
  repeat (go_big_quiet_step (fail))
  refine wpQuiet_nil ?_
  intro _ hw'
  obtain ⟨⟨dq,osq⟩,hw''⟩:=hw'
  subst hw''
  have HB2:=hid (HB0.out.trans ((below_regrown _ dq osq).mono HB0.out.size))
  have j0:=k0 dq osq
  have j1:=k1 dq osq
  have j2:=k2 dq osq
  clear k0 k1 k2 HB0 D1 w12 w123
  generalize Sort.grow (redrawn _ dq) osq=W2 at *
  have i0:=cell_regrown j0
  have i1:=cell_regrown j1
  cases p1
  ·go_wp2_with fail
   refine (CH.out _).mono ?_
   rintro e w' ⟨rfl,rfl⟩
   go_wp2_with fail
   go_ret
   exact ⟨by rw [HF.out a3 (by simp)];rfl,HB2.out⟩
  ·go_wp2_with fail
   refine (CH.out _).mono ?_
   rintro e w' ⟨rfl,rfl⟩
   go_wp2_with fail
   refine wp_region_quiet_below (by kernel_rfl) (by kernel_rfl) ?_
   repeat (go_big_quiet_step (fail))
   go_big_quiet_step ((go_at_call 231;exact D2.out _ _ _))
   repeat (go_big_quiet_step (fail))
   go_big_quiet_step ((go_at_call 232;exact DS.out _ _ _))
   repeat (go_big_quiet_step (fail))
   refine wpQuiet_nil ?_
   intro _ hw'
   obtain ⟨⟨dq2,osq2⟩,hw''⟩:=hw'
   subst hw''
   have HB3:=hid (HB2.out.trans ((below_regrown W2 dq2 osq2).mono HB2.out.size))
   have l0:=i0 dq2 osq2
   have l1:=i1 dq2 osq2
   clear i0 i1 j0 j1 j2 HB2 D2 DS DM w43 wsum
   generalize Sort.grow (redrawn W2 dq2) osq2=W3 at *
   cases p2
   ·go_wp2_with fail
    refine (CN.out _).mono ?_
    rintro e w' ⟨rfl,rfl⟩
    go_wp2_with fail
    go_ret
    exact ⟨by rw [HF.out ((a3:Int)+a4) (by simp)];rfl,HB3.out⟩
   ·go_wp2_with fail
    refine (CN.out _).mono ?_
    rintro e w' ⟨rfl,rfl⟩
    go_wp2_with fail
    refine (CB3.out _).mono ?_
    rintro e w' ⟨rfl,rfl⟩
    go_wp2_with fail
    go_ret
    exact ⟨by rw [HF.out ((a3:Int)+a4+n5) (by simp;omega)];rfl,HB3.out⟩
end Go.Proofs.YtpgckpafjiojfaaGreatDoor.BW
namespace Go.Proofs.YtpgckpafjiojfaaGreatDoor.BW
open Go.RowKit BM Go.Shelf MC RK
open BK hiding ret_bool ret_i64
attribute [local go_sem] Oper.semAt_some
theorem ct_step{x:Ex}{lo hi n d:Nat}{pre:List Nat}(h:(pre++[d]) <+: dUp x (lo / 86400) n)(hlh:lo≤hi)(hd:d*86400≤hi) :
 cnt (T x) (min ((d+1)*86400) (hi+1))+cnt (clk x) (lo - d*86400)=cnt (T x) (min (cOf lo pre) (hi+1))+cnt (clk x) (min 86399 (hi - d*86400)+1):=by
 have hc:=cOf_le h
 obtain ⟨m1,m2,m3⟩:=dUp_mem (h.subset (show d∈pre++[d] by simp))
 have k0:cnt (T x) (max lo (d*86400))=cnt (T x) (cOf lo pre):=cnt_cut _ _ _ hc.1 (fun l h1 h2=>by
  rcases Nat.lt_or_ge l (d*86400) with h3|h3
  ·exact days_gap h h1 h3
  ·omega)
 have e0:max lo (d*86400)=d*86400+(lo - d*86400):=by omega
 have e1:min (cOf lo pre) (hi+1)=cOf lo pre:=by omega
 have e2:min ((d+1)*86400) (hi+1)=d*86400+(min 86399 (hi - d*86400)+1):=by omega
 rw [e1,←k0,e0,e2,cnt_T_day _ _ _ (by omega),cnt_T_day _ _ _ (by omega),m3]
 simp only [if_true]
 omega
noncomputable def ctV(x:Ex)(lo hi:Nat):Nat:=cnt (T x) (hi+1) - cnt (T x) lo
noncomputable def ctR(x:Ex)(z a b:Int):Nat:=if chk x z [a,b]=0∧¬hiI z b<loI z a then ctV x (loI z a).toNat (hiI z b).toNat else 0
structure CtI(x:Ex)(w:World)(lo hi sum:Int)(q:Nat)(W:World):Prop where
 xb:Blk W w.heap.size 44 (exV x)
 lo:Blk W q 2 #[.int .i64 lo]
 hi:Blk W (q+1) 2 #[.int .i64 hi]
 sm:Blk W (q+2) 2 #[.int .i64 sum]
 below:Below w.heap.size w W
theorem CtI.steps{x:Ex}{w:World}{lo hi sum:Int}{q C:Nat}{X Y:World}(h:CtI x w lo hi sum q X)(hs:RK.Steps (fun _=>False) C X Y)(hC:w.heap.size≤C):CtI x w lo hi sum q Y :=
 ⟨steps_blk hs h.xb (fun h=>h),steps_blk hs h.lo (fun h=>h),steps_blk hs h.hi (fun h=>h),steps_blk hs h.sm (fun h=>h),below_steps h.below hs hC (Nat.le_refl _)⟩
theorem CtI.set{x:Ex}{w:World}{lo hi sum:Int}{q:Nat}{W:World}(h:CtI x w lo hi sum q W)(hq:w.heap.size<q)(u:Int):CtI x w lo hi u q (W.setCell ⟨q+2,0,none⟩ (.int .i64 u)) :=
 ⟨h.xb.far (by simp;omega) _,h.lo.far (by simp) _,h.hi.far (by simp) _,h.sm.set_ 0 _,h.below.setCell (by simp;omega) _⟩
theorem upR_nat(x:Ex)(t:Nat):upR x (t:Int)=cnt (clk x) (t+1):=by unfold upR;rw [if_neg (by omega)];simp
theorem upR_pred(x:Ex)(f:Nat):upR x ((f:Int) - 1)=cnt (clk x) f:=by
 unfold upR
 rcases f with _|f
 ·rfl
 ·rw [if_neg (by omega)];congr 1;omega
theorem pcount_ok(x:Ex)(hx:U64s x)(z a b:Int)(w:World)(hT:SpTab w):Calls Tryz.prog 201 #[.agg (exV x),.int .i64 z,.int .i64 a,.int .i64 b] w fun e w' =>
 e=.returned (.tuple #[.int .i64 (ctR x z a b:Nat),.int .i64 (chk x z [a,b])])∧Below w.heap.size w w':=by
 refine callsIn_wide (n:=3).1 ?_
 have HX:=hid hx
 obtain ⟨W1,hW1⟩:∃W1,W1=(w.alloc (.cells (exV x) 44)).alloc (.cells #[.int .i64 a,.int .i64 b] 2):=⟨_,rfl⟩
 have hbx:Blk W1 w.heap.size 44 (exV x):=by rw [hW1];exact (Blk.new w _ _).alloc _
 have hts:Blk W1 (w.heap.size+1) 2 #[.int .i64 a,.int .i64 b]:=by rw [hW1];exact Blk.newAt (by simp)
 have hB1:Below w.heap.size w W1:=by rw [hW1];exact ((Below.refl _ w).alloc (Nat.le_refl _) _).alloc (by simp) _
 have CK:=hid (pcheck_ok x hx z [a,b] (w.heap.size+1) 2 2 rfl (by decide) W1 (hT.below hB1) (fun k hk=>by
  have:k=0∨k=1:=by have:k<2:=hk;omega
  rcases this with rfl|rfl
  ·exact hts.cell 0
  ·exact hts.cell 1))
 have HW1:=hid hW1
 rw [hW1] at CK
 clear hW1 hT hx
 refine callsIn_of_wp_marks Tryz.func201 rfl trivial ?_ rfl
 simp only [Tryz.ntmps201,List.size_toArray,List.length_cons,List.length_nil,Nat.reduceAdd,Nat.reduceSub,Array.replicate_succ,Array.replicate_zero,List.push_toArray,List.append_toArray,List.nil_append,List.cons_append]
 have e0:exV x=#[.int .u64 x.s,.int .u64 x.mi,.int .u64 x.h,.int .u64 x.d,.int .u64 x.mo,.int .u64 x.w,.bool x.ad,.bool x.aw]:=rfl
 rw [e0]
 clear e0
 unfold exV at CK
 gi_wp2_with fail
 refine ⟨trivial,(callsIn_wide.2 CK.out).mono ?_⟩
 rintro e w2 ⟨rfl,hb⟩
 have hb:Below W1.heap.size W1 w2:=by rw [HW1.out];exact hb
 have hx2:=hbx.below hb hbx.lt
 have HB2:=hid (hB1.trans (hb.mono hB1.size))
 have HX2:=hid hx2
 have hl2:=hx2.lt
 clear hb hbx hB1 CK HW1 hts hx2
 have HCR:Hid (ctR x z a b=if chk x z [a,b]=0∧¬hiI z b<loI z a then ctV x (loI z a).toNat (hiI z b).toNat else 0):=hid rfl
 by_cases hcz:chk x z [a,b]=0
 ·obtain ⟨o1,o2,o3⟩:=chk_zero hcz
  have hok:=ok_of_ck o1
  have ha:=o3 a (by simp)
  have hbd:=o3 b (by simp)
  have HCZ:=hid hcz
  clear o1 o3
  have wa:IntKind.i64.wrap (a+z*60)=a+z*60:=IntWalk.i64_in _ (by omega)
  have wb:IntKind.i64.wrap (b+z*60)=b+z*60:=IntWalk.i64_in _ (by omega)
  gi_wp2_with fail
  refine ⟨trivial,(callsIn_wide.2 (local_ok z o2 _)).mono ?_⟩
  rintro e w3 ⟨rfl,rfl⟩
  by_cases hlt:hiI z b<loI z a
  ·have HE:Hid (ctR x z a b=0):=hid (by rw [HCR.out,if_neg (fun h=>absurd hlt (by have:=h.2;omega))])
   have hlt2:min (b+z*60) (min 253402300799 (253402300799+z*60))<max (a+z*60) (max 0 (z*60)):=hlt
   clear hlt
   gi_wp2_with fail
   refine ⟨_,results_tmp2 rfl _ _ _,?_⟩
   exact ⟨by rw [HCZ.out,HE.out];rfl,((HB2.out.alloc HB2.out.size _).alloc (by have:=HB2.out.size;simp;omega) _).alloc (by have:=HB2.out.size;simp;omega) _⟩
  ·have hlo0:0≤loI z a:=by unfold loI;omega
   have hlo1:loI z a≤253402400000:=by unfold loI;omega
   have hhi1:hiI z b≤253402300799:=by unfold hiI;omega
   obtain ⟨lo,hlo⟩:=Int.eq_ofNat_of_zero_le hlo0
   obtain ⟨hi,hhi⟩:=Int.eq_ofNat_of_zero_le (show 0≤hiI z b by omega)
   have hlh:lo≤hi:=by omega
   have hhi2:hi≤253402300799:=by omega
   have HE:Hid (ctR x z a b=ctV x lo hi):=hid (by rw [HCR.out,if_pos ⟨hcz,by omega⟩,hlo,hhi,Int.toNat_natCast,Int.toNat_natCast])
   have rlo:max (a+z*60) (max 0 (z*60))=(lo:Int):=hlo
   have rhi:min (b+z*60) (min 253402300799 (253402300799+z*60))=(hi:Int):=hhi
   have hdec:decide ((hi:Int)<(lo:Int))=false:=decide_eq_false (by omega)
   clear hlo hhi hlo0 hlo1 hhi1 hlt HCR ha hbd
   have hb0:Below w2.heap.size w2 ((((((w2.alloc (.cells #[.int .i64 lo] 2)).alloc (.cells #[.int .i64 hi] 2)).alloc (.cells #[.int .i64 0] 2)).alloc (.cells (exV x) 44)).alloc (.cells #[.int .i64 ((lo:Int) / 86400)] 2)).alloc (.cells #[.int .i64 ((hi:Int) / 86400)] 2)):=((((((Below.refl _ w2).alloc (Nat.le_refl _) _).alloc (by simp) _).alloc (by simp;omega) _).alloc (by simp;omega) _).alloc (by simp;omega) _).alloc (by simp;omega) _
   have p0:Blk ((((((w2.alloc (.cells #[.int .i64 lo] 2)).alloc (.cells #[.int .i64 hi] 2)).alloc (.cells #[.int .i64 0] 2)).alloc (.cells (exV x) 44)).alloc (.cells #[.int .i64 ((lo:Int) / 86400)] 2)).alloc (.cells #[.int .i64 ((hi:Int) / 86400)] 2)) w2.heap.size 2 #[.int .i64 lo]:=(((((Blk.new w2 _ _).alloc _).alloc _).alloc _).alloc _).alloc _
   have p1:Blk ((((((w2.alloc (.cells #[.int .i64 lo] 2)).alloc (.cells #[.int .i64 hi] 2)).alloc (.cells #[.int .i64 0] 2)).alloc (.cells (exV x) 44)).alloc (.cells #[.int .i64 ((lo:Int) / 86400)] 2)).alloc (.cells #[.int .i64 ((hi:Int) / 86400)] 2)) (w2.heap.size+1) 2 #[.int .i64 hi]:=((((Blk.newAt (by simp)).alloc _).alloc _).alloc _).alloc _
   have p2:Blk ((((((w2.alloc (.cells #[.int .i64 lo] 2)).alloc (.cells #[.int .i64 hi] 2)).alloc (.cells #[.int .i64 0] 2)).alloc (.cells (exV x) 44)).alloc (.cells #[.int .i64 ((lo:Int) / 86400)] 2)).alloc (.cells #[.int .i64 ((hi:Int) / 86400)] 2)) (w2.heap.size+2) 2 #[.int .i64 0]:=(((Blk.newAt (by simp)).alloc _).alloc _).alloc _
   have q0:Blk ((((((w2.alloc (.cells #[.int .i64 lo] 2)).alloc (.cells #[.int .i64 hi] 2)).alloc (.cells #[.int .i64 0] 2)).alloc (.cells (exV x) 44)).alloc (.cells #[.int .i64 ((lo:Int) / 86400)] 2)).alloc (.cells #[.int .i64 ((hi:Int) / 86400)] 2)) (w2.heap.size+3) 44 (exV x):=((Blk.newAt (by simp)).alloc _).alloc _
   have q1:Blk ((((((w2.alloc (.cells #[.int .i64 lo] 2)).alloc (.cells #[.int .i64 hi] 2)).alloc (.cells #[.int .i64 0] 2)).alloc (.cells (exV x) 44)).alloc (.cells #[.int .i64 ((lo:Int) / 86400)] 2)).alloc (.cells #[.int .i64 ((hi:Int) / 86400)] 2)) (w2.heap.size+3+1) 2 #[.int .i64 ((lo:Int) / 86400)]:=(Blk.newAt (by simp)).alloc _
   have q2:Blk ((((((w2.alloc (.cells #[.int .i64 lo] 2)).alloc (.cells #[.int .i64 hi] 2)).alloc (.cells #[.int .i64 0] 2)).alloc (.cells (exV x) 44)).alloc (.cells #[.int .i64 ((lo:Int) / 86400)] 2)).alloc (.cells #[.int .i64 ((hi:Int) / 86400)] 2)) (w2.heap.size+3+2) 2 #[.int .i64 ((hi:Int) / 86400)]:=Blk.newAt (by simp)
   have hs4:((((((w2.alloc (.cells #[.int .i64 lo] 2)).alloc (.cells #[.int .i64 hi] 2)).alloc (.cells #[.int .i64 0] 2)).alloc (.cells (exV x) 44)).alloc (.cells #[.int .i64 ((lo:Int) / 86400)] 2)).alloc (.cells #[.int .i64 ((hi:Int) / 86400)] 2)).heap.size=w2.heap.size+6:=by simp
   have HS4:=hid hs4
   clear hs4
   have HX3:=hid (((HX2.out.alloc (.cells #[.int .i64 lo] 2)).alloc (.cells #[.int .i64 hi] 2)).alloc (.cells #[.int .i64 0] 2))
   have c0:(((w2.alloc (.cells #[.int .i64 lo] 2)).alloc (.cells #[.int .i64 hi] 2)).alloc (.cells #[.int .i64 0] 2)).cell? ⟨w.heap.size,0,none⟩=some (.int .u64 x.s):=HX3.out.cell 0
   have c1:(((w2.alloc (.cells #[.int .i64 lo] 2)).alloc (.cells #[.int .i64 hi] 2)).alloc (.cells #[.int .i64 0] 2)).cell? ⟨w.heap.size,1,none⟩=some (.int .u64 x.mi):=HX3.out.cell 1
   have c2:(((w2.alloc (.cells #[.int .i64 lo] 2)).alloc (.cells #[.int .i64 hi] 2)).alloc (.cells #[.int .i64 0] 2)).cell? ⟨w.heap.size,2,none⟩=some (.int .u64 x.h):=HX3.out.cell 2
   have c3:(((w2.alloc (.cells #[.int .i64 lo] 2)).alloc (.cells #[.int .i64 hi] 2)).alloc (.cells #[.int .i64 0] 2)).cell? ⟨w.heap.size,3,none⟩=some (.int .u64 x.d):=HX3.out.cell 3
   have c4:(((w2.alloc (.cells #[.int .i64 lo] 2)).alloc (.cells #[.int .i64 hi] 2)).alloc (.cells #[.int .i64 0] 2)).cell? ⟨w.heap.size,4,none⟩=some (.int .u64 x.mo):=HX3.out.cell 4
   have c5:(((w2.alloc (.cells #[.int .i64 lo] 2)).alloc (.cells #[.int .i64 hi] 2)).alloc (.cells #[.int .i64 0] 2)).cell? ⟨w.heap.size,5,none⟩=some (.int .u64 x.w):=HX3.out.cell 5
   have c6:(((w2.alloc (.cells #[.int .i64 lo] 2)).alloc (.cells #[.int .i64 hi] 2)).alloc (.cells #[.int .i64 0] 2)).cell? ⟨w.heap.size,6,none⟩=some (.bool x.ad):=HX3.out.cell 6
   have c7:(((w2.alloc (.cells #[.int .i64 lo] 2)).alloc (.cells #[.int .i64 hi] 2)).alloc (.cells #[.int .i64 0] 2)).cell? ⟨w.heap.size,7,none⟩=some (.bool x.aw):=HX3.out.cell 7
   have ne0:¬w.heap.size=w2.heap.size:=by omega
   have ne1:¬w.heap.size=w2.heap.size+1:=by omega
   have ne2:¬w.heap.size=w2.heap.size+2:=by omega
   have ne3:¬w.heap.size=w2.heap.size+1+1:=by omega
   gi_wp2_with fail
   refine ⟨trivial,(callsIn_wide.2 (days_mk x ((lo:Int) / 86400) ((hi:Int) / 86400) _)).mono ?_⟩
   rintro e w3 ⟨rfl,rfl⟩
   gi_wp2_with fail
   generalize (((((w2.alloc _).alloc _).alloc _).alloc _).alloc _).alloc _=w3 at *
   clear c0 c1 c2 c3 c4 c5 c6 c7 ne0 ne1 ne2 ne3 rlo rhi wa wb HX3
   have HI3:Hid (CtI x w lo hi (0:Nat) w2.heap.size w3):=hid ⟨HX2.out.below hb0 HX2.out.lt,p0,p1,p2,HB2.out.trans (hb0.mono HB2.out.size)⟩
   have hw3:w.heap.size≤w3.heap.size:=by have:=HS4.out;omega
   have HW:Hid (Walk (fun j=>lo / 86400+j) (hi / 86400 - lo / 86400) ((lo:Int) / 86400) ((hi:Int) / 86400) 1):=hid ⟨fun j hj=>by have:=Nat.div_le_div_right (c:=86400) hlh;omega,by have:=Nat.div_le_div_right (c:=86400) hlh;omega,fun j hj=>by omega,.inl ⟨rfl,by have:=Nat.div_le_div_right (c:=86400) hlh;omega⟩⟩
   have HNN:Hid (hi / 86400 - lo / 86400+1=hi / 86400+1 - lo / 86400):=hid (by have:=Nat.div_le_div_right (c:=86400) hlh;omega)
   have SQ:=days_seq (3 - 1) x HX.out (fun j=>lo / 86400+j) (hi / 86400 - lo / 86400) ((lo:Int) / 86400) ((hi:Int) / 86400) 1 HW (w2.heap.size+3) (w2.heap.size+3+1) (w2.heap.size+3+2) w3 q0 q1 q2
   have EG:=enters_of Tryz.func230 (by kernel_rfl) rfl
   refine' wpIn_rangeFunc_seqL rfl (by decide) (gf:=230) (lb:=#[.pointer (some ⟨w2.heap.size+3,0,none⟩),.pointer (some ⟨w2.heap.size+3+1,0,none⟩),.pointer (some ⟨w2.heap.size+3+2,0,none⟩)]) ?hg trivial EG
    SQ (fun _ h=>h.elim) (fun h k=>h.trans k)
    (fun W o o' hl hc k hk=>World.putObj_heap_other (by have:=HS4.out;unfold KD at hk;omega))
    (fun _=>rfl) (fun (pre:List Nat) (W:World)=>∃S:Nat,CtI x w lo hi S w2.heap.size W∧S+cnt (T x) lo=cnt (T x) (min (cOf lo pre) (hi+1))) (fun _ _ _=>False)
    (fun pre X Y h hs=>by obtain ⟨S,h1,h2⟩:=h;exact ⟨S,h1.steps hs hw3,h2⟩) (fun _ _ _ _ h _=>h)
    ⟨0,HI3.out,by rw [cOf_nil,Nat.min_eq_left (by omega)];omega⟩ _ ?assign ?body ?done ?stop
   case hg=>rfl
   case assign =>
    intro l d W K hK
    gi_wp2
    exact hK
   case body =>
    clear EG SQ q0 q1 q2 p0 p1 p2 hb0
    rintro l pre d W ⟨S,hi_,hS⟩ hpre hsz
    rw [HNN.out,daysL_up] at hpre
    obtain ⟨m1,m2,m3⟩:=dUp_mem (hpre.subset (show d∈pre++[d] by simp))
    have hd:d*86400≤hi:=by omega
    have CS:=ct_step hpre hlh hd
    have hSle:=cnt_le (T x) (min (cOf lo pre) (hi+1))
    have hmo:cnt (clk x) (lo - d*86400)≤cnt (clk x) (min 86399 (hi - d*86400)+1):=cnt_mono _ (by omega)
    have hcl:=cnt_le (clk x) (min 86399 (hi - d*86400)+1)
    obtain ⟨u,hu⟩:∃u:Nat,u=min 86399 (hi - d*86400):=⟨_,rfl⟩
    obtain ⟨f,hf⟩:∃f:Nat,f=lo - d*86400:=⟨_,rfl⟩
    rw [←hu] at CS hmo hcl
    rw [←hf] at CS hmo
    have eu:min 86399 ((hi:Int) - (d:Int)*86400)=(u:Int):=by omega
    have ef:max 0 ((lo:Int) - (d:Int)*86400)=(f:Int):=by omega
    have hu1:u<86400:=by omega
    have hf1:f<86400:=by omega
    have hdb:d≤2932896:=by omega
    have C1:=hid (fun W=>upto_ok x HX.out hok (u:Int) (by omega) (by omega) W)
    have C2:=hid (fun W=>upto_ok x HX.out hok ((f:Int) - 1) (by omega) (by omega) W)
    rw [upR_nat] at C1
    rw [upR_pred] at C2
    have HCS:=hid CS
    have HS:=hid hS
    have HSle:Hid (S≤253402300800):=hid (by omega)
    clear hpre m1 m2 m3 hd CS hS hSle hu hf
    generalize cnt (clk x) (u+1)=U1 at *
    generalize cnt (clk x) f=U2 at *
    have w1:IntKind.i64.wrap ((U1:Int) - (U2:Int))=(U1:Int) - (U2:Int):=IntWalk.i64_in _ (by omega)
    have w2':IntKind.i64.wrap ((S:Int)+((U1:Int) - (U2:Int)))=(S:Int)+((U1:Int) - (U2:Int)):=IntWalk.i64_in _ (by have:=HSle.out;omega)
    have w3':IntKind.i64.wrap ((d:Int)*86400)=(d:Int)*86400:=IntWalk.i64_in _ (by omega)
    have w4:IntKind.i64.wrap ((hi:Int) - (d:Int)*86400)=(hi:Int) - (d:Int)*86400:=IntWalk.i64_in _ (by omega)
    have w5:IntKind.i64.wrap ((lo:Int) - (d:Int)*86400)=(lo:Int) - (d:Int)*86400:=IntWalk.i64_in _ (by omega)
    have w6:IntKind.i64.wrap ((f:Int) - 1)=(f:Int) - 1:=IntWalk.i64_in _ (by omega)
    have k0:=cell_regrown (show W.cell? ⟨w.heap.size,0,none⟩=some (.int .u64 x.s) from hi_.xb.cell 0)
    have k1:=cell_regrown (show W.cell? ⟨w.heap.size,1,none⟩=some (.int .u64 x.mi) from hi_.xb.cell 1)
    have k2:=cell_regrown (show W.cell? ⟨w.heap.size,2,none⟩=some (.int .u64 x.h) from hi_.xb.cell 2)
    have k3:=cell_regrown (show W.cell? ⟨w.heap.size,3,none⟩=some (.int .u64 x.d) from hi_.xb.cell 3)
    have k4:=cell_regrown (show W.cell? ⟨w.heap.size,4,none⟩=some (.int .u64 x.mo) from hi_.xb.cell 4)
    have k5:=cell_regrown (show W.cell? ⟨w.heap.size,5,none⟩=some (.int .u64 x.w) from hi_.xb.cell 5)
    have k6:=cell_regrown (show W.cell? ⟨w.heap.size,6,none⟩=some (.bool x.ad) from hi_.xb.cell 6)
    have k7:=cell_regrown (show W.cell? ⟨w.heap.size,7,none⟩=some (.bool x.aw) from hi_.xb.cell 7)
    have kl:=cell_regrown (show W.cell? ⟨w2.heap.size,0,none⟩=some (.int .i64 lo) from hi_.lo.cell 0)
    have kh:=cell_regrown (show W.cell? ⟨w2.heap.size+1,0,none⟩=some (.int .i64 hi) from hi_.hi.cell 0)
    have ks:=cell_regrown (show W.cell? ⟨w2.heap.size+2,0,none⟩=some (.int .i64 S) from hi_.sm.cell 0)
    unfold exV at C1 C2
    have D1:=hid (fun d' os=>Calls.regrown_of (C1.out (Sort.grow (redrawn W d') os)))
    have D2:=hid (fun d' os=>Calls.regrown_of (C2.out (Sort.grow (redrawn W d') os)))
    have HI:=hid hi_
    clear C1 C2 hi_
    gi_wp2_with fail
    refine RK.wpIn_region_tail2 _ 18 _ (by rfl) (by kernel_rfl) (by kernel_rfl) (by kernel_rfl) ?_
    dsimp only [List.take_succ_cons,List.take_zero]
    repeat (go_big_quiet_step (fail))
    go_big_quiet_step ((go_at_call 220;exact D1.out _ _))
    repeat (go_big_quiet_step (fail))
    go_big_quiet_step ((go_at_call 220;exact D2.out _ _))
    repeat (go_big_quiet_step (fail))
    refine wpQuiet_nil ?_
    intro _ hw'
    obtain ⟨⟨dq,osq⟩,hw''⟩:=hw'
    subst hw''
    have hbg:=below_regrown W dq osq
    have ks':=ks dq osq
    have HIg:=hid (HI.out.steps (RK.Steps.of_below (own:=fun _=>False) (B:=w.heap.size) hbg) (Nat.le_refl _))
    have hfr:(Sort.grow (redrawn W dq) osq).frozen? ⟨w2.heap.size+2,0,none⟩=false:=HIg.out.sm.frozen 0
    have HBG:=hid hbg
    clear hbg k0 k1 k2 k3 k4 k5 k6 k7 kl kh ks
    generalize Sort.grow (redrawn W dq) osq=Wg at *
    gi_wp2_with fail
    have hsm:=hmo
    refine ⟨keepsFrom_set (keepsFrom_below HBG.out) (by have:=HS4.out;omega) _,fun k hk=>?_,S+U1 - U2,?_,?_⟩
    ·have hk2:k≠w2.heap.size+2:=by have:=HS4.out;unfold KD at hk;omega
     rw [Below.heap_setCell _ _ _ _ (by simpa using hk2)]
     exact HBG.out.block k (by have:=HS4.out;unfold KD at hk;omega)
    ·have e:((S+U1 - U2:Nat):Int)=(S:Int)+((U1:Int) - (U2:Int)):=by omega
     rw [e]
     exact HIg.out.set hl2 _
    ·rw [cOf_snoc]
     have h1:=HCS.out
     have h2:=HS.out
     omega
   case done =>
    clear EG SQ q0 q1 q2 p0 p1 p2 hb0
    rintro D W hD ⟨S,hi_,hS⟩ hK
    have HV:Hid (S=ctV x lo hi):=hid (by
     rw [HNN.out,daysL_up] at hS
     unfold ctV
     have hge:=cOf_ge x lo (hi / 86400+1 - lo / 86400)
     have:cnt (T x) (hi+1)=cnt (T x) (min (cOf lo (dUp x (lo / 86400) (hi / 86400+1 - lo / 86400))) (hi+1)):=cnt_cut _ _ _ (Nat.min_le_right _ _) (fun l h1 h2=>days_end (lo:=lo) (hi:=hi) (by omega) (by omega) (by omega))
     omega)
    have hc:W.cell? ⟨w2.heap.size+2,0,none⟩=some (.int .i64 S):=hi_.sm.cell 0
    have HI:=hid hi_
    have HK:=hid hK
    clear hi_ hK hS
    gi_wp2_with fail
    refine ⟨by simp,.inl ⟨_,_,rfl,run_takeDeferred HK.out,?_⟩⟩
    refine ⟨_,results_tmp2 rfl _ _ _,?_⟩
    exact ⟨by rw [HE.out,HCZ.out,←HV.out];rfl,below_put HI.out.below (by omega)⟩
   case stop =>
    rintro D c pre W _ _ h _
    exact h.elim
 ·have HE:Hid (ctR x z a b=0):=hid (by rw [HCR.out,if_neg (fun h=>hcz h.1)])
  obtain ⟨c,hc⟩:∃c,c=chk x z [a,b]:=⟨_,rfl⟩
  have HC:=hid hc
  rw [←hc] at hcz
  have hc2:=hc.symm
  clear hc
  have hcz2:(c==0)=false:=by rw [beq_eq_false_iff_ne];exact hcz
  gi_wp2_with fail
  refine ⟨_,results_tmp2 rfl _ _ _,?_⟩
  exact ⟨by rw [HE.out,←HC.out];rfl,HB2.out⟩
attribute [local go_sem] Oper.semAt_some
theorem all_seq(n:Nat)(x:Ex)(hx:U64s x)(hok:x.Ok)(z a b:Int)(hz : -840≤z∧z≤840)(ha:0≤a∧a≤253402300800)(hb:0≤b∧b≤253402300799)(bb B0:Nat)(w:World)
 (hB0:1<B0) (hB1:B0≤w.heap.size) (hTab:Tab w)
 (hBz:Blk w (bb+1) 3 #[.int .i64 z]) (hBa:Blk w (bb+2) 2 #[.int .i64 a]) (hBb:Blk w (bb+3) 2 #[.int .i64 b]) (hBx:Blk w bb 44 (exV x)) :
 SeqL Fence.wide n Tryz.prog 229 #[.pointer (some ⟨bb+1,0,none⟩),.pointer (some ⟨bb+2,0,none⟩),.pointer (some ⟨bb+3,0,none⟩),.pointer (some ⟨bb,0,none⟩)] (fun t:Int=>#[Value.int .i64 t]) (fun _=>False) (KpA B0 bb (w.heap.size+2)) (timesL x z a b) 10 w :=
 fun l J Jx W hsz hW hJ hJx hY h0=>callsIn_wide.2 (callsIn_wide.1 (all_in x hx hok z a b hz ha hb bb B0 l J Jx W hB0 (by omega) (tab_below hTab hW (by omega)) (hBz.below hW hBz.lt) (hBa.below hW hBa.lt) (hBb.below hW hBb.lt) (hBx.below hW hBx.lt) hJ hJx
  (fun pre d W1 hj hp hs=>by rw [hsz];exact yieldAt_wide (hY pre d W1 hj hp (by omega))) h0))
structure NxI(w:World)(v:Int)(b:Bool)(W:World):Prop where
 r0:Blk W (w.heap.size+1) 2 #[.int .i64 v]
 r1:Blk W (w.heap.size+2) 4 #[.bool b]
 r2:Blk W (w.heap.size+3) 34 #[.int .i64 0]
 below:Below w.heap.size w W
theorem NxI.steps{w:World}{v:Int}{b:Bool}{B:Nat}{X Y:World}(h:NxI w v b X)(hs:RK.Steps (fun _=>False) B X Y)(hB:w.heap.size≤B):NxI w v b Y :=
 ⟨steps_blk hs h.r0 (fun h=>h),steps_blk hs h.r1 (fun h=>h),steps_blk hs h.r2 (fun h=>h),below_steps h.below hs hB (Nat.le_refl _)⟩
theorem NxI.set{w:World}{v:Int}{b:Bool}{W:World}(h:NxI w v b W)(u:Int)(c:Bool):NxI w u c (((W.setCell ⟨w.heap.size+1,0,none⟩ (.int .i64 u)).setCell ⟨w.heap.size+2,0,none⟩ (.bool c)).setCell ⟨w.heap.size+3,0,none⟩ (.int .i64 0)) :=
 ⟨((h.r0.set_ 0 _).far (by simp) _).far (by simp) _,((h.r1.far (by simp) _).set_ 0 _).far (by simp) _,((h.r2.far (by simp) _).far (by simp) _).set_ 0 _,((h.below.setCell (by simp) _).setCell (by simp) _).setCell (by simp) _⟩
noncomputable def nxV(x:Ex)(z t:Int):Option Int:=if chk x z [t]=0 then (timesL x z (t+1) 253402300799).head? else none
def optI(r:Option Int):Int:=r.getD 0
theorem pnext_ok(x:Ex)(hx:U64s x)(z t:Int)(w:World)(hT:SpTab w)(hTab:Tab w):Calls Tryz.prog 199 #[.agg (exV x),.int .i64 z,.int .i64 t] w fun e w' =>
 e=.returned (.tuple #[.int .i64 (optI (nxV x z t)),.bool (nxV x z t).isSome,.int .i64 (chk x z [t])])∧Below w.heap.size w w':=by
 refine callsIn_wide (n:=3).1 ?_
 have HX:=hid hx
 have hgt:1<w.heap.size:=World.block_lt_of_cell? w _ (hTab 0 (by decide))
 obtain ⟨W1,hW1⟩:∃W1,W1=((((w.alloc (.cells (exV x) 44)).alloc (.cells #[.int .i64 0] 2)).alloc (.cells #[.bool false] 4)).alloc (.cells #[.int .i64 0] 34)).alloc (.cells #[.int .i64 t] 2):=⟨_,rfl⟩
 have hbx:Blk W1 w.heap.size 44 (exV x):=by rw [hW1];exact ((((Blk.new w _ _).alloc _).alloc _).alloc _).alloc _
 have hr0:Blk W1 (w.heap.size+1) 2 #[.int .i64 0]:=by rw [hW1];exact (((Blk.newAt (by simp)).alloc _).alloc _).alloc _
 have hr1:Blk W1 (w.heap.size+2) 4 #[.bool false]:=by rw [hW1];exact ((Blk.newAt (by simp)).alloc _).alloc _
 have hr2:Blk W1 (w.heap.size+3) 34 #[.int .i64 0]:=by rw [hW1];exact (Blk.newAt (by simp)).alloc _
 have hts:Blk W1 (w.heap.size+4) 2 #[.int .i64 t]:=by rw [hW1];exact Blk.newAt (by simp)
 have hB1:Below w.heap.size w W1:=by rw [hW1];exact (((((Below.refl _ w).alloc (Nat.le_refl _) _).alloc (by simp) _).alloc (by simp;omega) _).alloc (by simp;omega) _).alloc (by simp;omega) _
 have CK:=hid (pcheck_ok x hx z [t] (w.heap.size+4) 1 1 rfl (by decide) W1 (hT.below hB1) (fun k hk=>by
  have:k=0:=by simpa using hk
  subst this;exact hts.cell 0))
 have HT1:=hid (tab_below hTab hB1 hgt)
 have HW1:=hid hW1
 rw [hW1] at CK
 clear hW1 hT hx hTab
 refine callsIn_of_wp_marks Tryz.func199 rfl trivial ?_ rfl
 simp only [Tryz.ntmps199,List.size_toArray,List.length_cons,List.length_nil,Nat.reduceAdd,Nat.reduceSub,Array.replicate_succ,Array.replicate_zero,List.push_toArray,List.append_toArray,List.nil_append,List.cons_append]
 have e0:exV x=#[.int .u64 x.s,.int .u64 x.mi,.int .u64 x.h,.int .u64 x.d,.int .u64 x.mo,.int .u64 x.w,.bool x.ad,.bool x.aw]:=rfl
 rw [e0]
 clear e0
 unfold exV at CK
 gi_wp2_with fail
 refine ⟨trivial,(callsIn_wide.2 CK.out).mono ?_⟩
 rintro e w2 ⟨rfl,hb⟩
 have hb:Below W1.heap.size W1 w2:=by rw [HW1.out];exact hb
 have hx2:=hbx.below hb hbx.lt
 have hr02:=hr0.below hb hr0.lt
 have hr12:=hr1.below hb hr1.lt
 have hr22:=hr2.below hb hr2.lt
 have hB2:=hB1.trans (hb.mono hB1.size)
 have HI2:=hid (NxI.mk hr02 hr12 hr22 hB2)
 have HT2:=hid (tab_below HT1.out hb (by have:=hB1.size;omega))
 have c0:w2.cell? ⟨w.heap.size,0,none⟩=some (.int .u64 x.s):=hx2.cell 0
 have c1:w2.cell? ⟨w.heap.size,1,none⟩=some (.int .u64 x.mi):=hx2.cell 1
 have c2:w2.cell? ⟨w.heap.size,2,none⟩=some (.int .u64 x.h):=hx2.cell 2
 have c3:w2.cell? ⟨w.heap.size,3,none⟩=some (.int .u64 x.d):=hx2.cell 3
 have c4:w2.cell? ⟨w.heap.size,4,none⟩=some (.int .u64 x.mo):=hx2.cell 4
 have c5:w2.cell? ⟨w.heap.size,5,none⟩=some (.int .u64 x.w):=hx2.cell 5
 have c6:w2.cell? ⟨w.heap.size,6,none⟩=some (.bool x.ad):=hx2.cell 6
 have c7:w2.cell? ⟨w.heap.size,7,none⟩=some (.bool x.aw):=hx2.cell 7
 have d1:w2.cell? ⟨w.heap.size+1,0,none⟩=some (.int .i64 0):=hr02.cell 0
 have d2:w2.cell? ⟨w.heap.size+2,0,none⟩=some (.bool false):=hr12.cell 0
 have d3:w2.cell? ⟨w.heap.size+3,0,none⟩=some (.int .i64 0):=hr22.cell 0
 have f1:w2.frozen? ⟨w.heap.size+1,0,none⟩=false:=hr02.frozen 0
 have f2:w2.frozen? ⟨w.heap.size+2,0,none⟩=false:=hr12.frozen 0
 have f3:w2.frozen? ⟨w.heap.size+3,0,none⟩=false:=hr22.frozen 0
 clear hb hbx hr0 hr1 hr2 hB1 hx2 hr02 hr12 hr22 hB2 CK HW1 hts HT1
 have LI:Hid (∀w,(isAgg 2).run Tryz.prog w=.ok false w):=hid (fun w=>by simp [isAgg,run_underlying Tryz.underlying2,go_sem])
 have LB:Hid (∀w,(isAgg 4).run Tryz.prog w=.ok false w):=hid (fun w=>by simp [isAgg,run_underlying Tryz.underlying4,go_sem])
 have LE:Hid (∀w,(isAgg 34).run Tryz.prog w=.ok false w):=hid (fun w=>by simp [isAgg,run_underlying Tryz.underlying34,go_sem])
 have HNV:Hid (nxV x z t=if chk x z [t]=0 then (timesL x z (t+1) 253402300799).head? else none):=hid rfl
 by_cases hcz:chk x z [t]=0
 ·obtain ⟨o1,o2,o3⟩:=chk_zero hcz
  have hok:=ok_of_ck o1
  have ht:=o3 t (by simp)
  have HN:=hid HNV.out
  rw [if_pos hcz] at HN
  have HCZ:=hid hcz
  clear hcz HNV o1 o3
  have hcz:chk x z [t]=0:=HCZ.out
  have hb0:Below w2.heap.size w2 ((((w2.alloc (.cells (exV x) 44)).alloc (.cells #[.int .i64 z] 3)).alloc (.cells #[.int .i64 (t+1)] 2)).alloc (.cells #[.int .i64 253402300799] 2)):=((((Below.refl _ w2).alloc (Nat.le_refl _) _).alloc (by simp) _).alloc (by simp;omega) _).alloc (by simp;omega) _
  have q0:Blk ((((w2.alloc (.cells (exV x) 44)).alloc (.cells #[.int .i64 z] 3)).alloc (.cells #[.int .i64 (t+1)] 2)).alloc (.cells #[.int .i64 253402300799] 2)) w2.heap.size 44 (exV x):=(((Blk.new w2 _ _).alloc _).alloc _).alloc _
  have q1:Blk ((((w2.alloc (.cells (exV x) 44)).alloc (.cells #[.int .i64 z] 3)).alloc (.cells #[.int .i64 (t+1)] 2)).alloc (.cells #[.int .i64 253402300799] 2)) (w2.heap.size+1) 3 #[.int .i64 z]:=((Blk.newAt (by simp)).alloc _).alloc _
  have q2:Blk ((((w2.alloc (.cells (exV x) 44)).alloc (.cells #[.int .i64 z] 3)).alloc (.cells #[.int .i64 (t+1)] 2)).alloc (.cells #[.int .i64 253402300799] 2)) (w2.heap.size+2) 2 #[.int .i64 (t+1)]:=(Blk.newAt (by simp)).alloc _
  have q3:Blk ((((w2.alloc (.cells (exV x) 44)).alloc (.cells #[.int .i64 z] 3)).alloc (.cells #[.int .i64 (t+1)] 2)).alloc (.cells #[.int .i64 253402300799] 2)) (w2.heap.size+3) 2 #[.int .i64 253402300799]:=Blk.newAt (by simp)
  have hs4:((((w2.alloc (.cells (exV x) 44)).alloc (.cells #[.int .i64 z] 3)).alloc (.cells #[.int .i64 (t+1)] 2)).alloc (.cells #[.int .i64 253402300799] 2)).heap.size=w2.heap.size+4:=by simp
  have HS4:=hid hs4
  clear hs4
  gi_wp2_with fail
  refine ⟨trivial,(callsIn_wide.2 (all_mk x z (t+1) 253402300799 w2)).mono ?_⟩
  rintro e w3 ⟨rfl,rfl⟩
  gi_wp2_with fail
  generalize (((w2.alloc _).alloc _).alloc _).alloc _=w3 at *
  have hws:w.heap.size+3<w2.heap.size:=HI2.out.r2.lt
  have hs3:=hb0.size
  have HI3:Hid (NxI w 0 false w3):=hid (HI2.out.steps (RK.Steps.of_below (own:=fun _=>False) (B:=w2.heap.size) hb0) (by omega))
  have SQ:=all_seq (3 - 1) x HX.out hok z (t+1) 253402300799 o2 (by omega) (by omega) w2.heap.size w.heap.size w3 hgt (by omega) (tab_below HT2.out hb0 (by omega)) q1 q2 q3 q0
  have EG:=enters_of Tryz.func229 (by kernel_rfl) rfl
  clear c0 c1 c2 c3 c4 c5 c6 c7 d1 d2 d3 f1 f2 f3
  refine' wpIn_rangeFunc_seqL rfl (by decide) (gf:=229) (lb:=#[.pointer (some ⟨w2.heap.size+1,0,none⟩),.pointer (some ⟨w2.heap.size+2,0,none⟩),.pointer (some ⟨w2.heap.size+3,0,none⟩),.pointer (some ⟨w2.heap.size,0,none⟩)]) ?hg trivial EG
   SQ (fun _ h=>h.elim) (fun h k=>⟨h.1.trans k.1,h.2.trans k.2⟩)
   (fun W o o' hl hc=>⟨keepsFrom_put _ (by omega),fun k hk=>World.putObj_heap_other (by have:=HS4.out;unfold KA at hk;omega)⟩)
   (fun _=>rfl) (fun pre W=>pre=[]∧NxI w 0 false W) (fun c pre W=>c=.ret∧∃v,pre=[v]∧NxI w v true W) (fun pre X Y h hs=>⟨h.1,h.2.steps hs (by omega)⟩) (fun c pre X Y h hs=>⟨h.1,h.2.elim fun v h=>⟨v,h.1,h.2.steps hs (by omega)⟩⟩)
   ⟨rfl,HI3.out⟩ _ ?assign ?body ?done ?stop
  case hg=>rfl
  case assign =>
   intro l d W K hK
   gi_wp2
   exact hK
  case body =>
   clear EG SQ q0 q1 q2 q3
   rintro l pre d W ⟨rfl,hi⟩ hpre hsz
   have d1:W.cell? ⟨w.heap.size+1,0,none⟩=some (.int .i64 0):=hi.r0.cell 0
   have d2:W.cell? ⟨w.heap.size+2,0,none⟩=some (.bool false):=hi.r1.cell 0
   have d3:W.cell? ⟨w.heap.size+3,0,none⟩=some (.int .i64 0):=hi.r2.cell 0
   have f1:W.frozen? ⟨w.heap.size+1,0,none⟩=false:=hi.r0.frozen 0
   have f2:W.frozen? ⟨w.heap.size+2,0,none⟩=false:=hi.r1.frozen 0
   have f3:W.frozen? ⟨w.heap.size+3,0,none⟩=false:=hi.r2.frozen 0
   gi_wp2_with fail
   exact ⟨keepsFrom_set (keepsFrom_set (keepsFrom_set (KeepsFrom.refl _ _) (by omega) _) (by omega) _) (by omega) _,rfl,d,rfl,hi.set d true⟩
  case done =>
   clear EG SQ q0 q1 q2 q3
   rintro D W hD ⟨h,hi⟩ hK
   have d1:W.cell? ⟨w.heap.size+1,0,none⟩=some (.int .i64 0):=hi.r0.cell 0
   have d2:W.cell? ⟨w.heap.size+2,0,none⟩=some (.bool false):=hi.r1.cell 0
   have d3:W.cell? ⟨w.heap.size+3,0,none⟩=some (.int .i64 0):=hi.r2.cell 0
   have f1:W.frozen? ⟨w.heap.size+1,0,none⟩=false:=hi.r0.frozen 0
   have f2:W.frozen? ⟨w.heap.size+2,0,none⟩=false:=hi.r1.frozen 0
   have f3:W.frozen? ⟨w.heap.size+3,0,none⟩=false:=hi.r2.frozen 0
   have HV:Hid (nxV x z t=none):=hid (by rw [HN.out,h];rfl)
   have HI:=hid (hi.set 0 false)
   have HK:=hid (heap_set (b:=w.heap.size+3) (i:=0) (heap_set (b:=w.heap.size+2) (i:=0) (heap_set (b:=w.heap.size+1) (i:=0) hK (by omega) (.int .i64 0)) (by omega) (.bool false)) (by omega) (.int .i64 0))
   clear h hi hK
   gi_wp2_with fail
   refine ⟨by simp,.inl ⟨_,_,rfl,run_takeDeferred HK.out,?_⟩⟩
   refine ⟨_,results_cell3 rfl _ _ ⟨w.heap.size+1,0,none⟩ ⟨w.heap.size+2,0,none⟩ ⟨w.heap.size+3,0,none⟩ _ _ _ rfl rfl rfl (run_loadVar_one LI.out _ _ _ _ (blk_put HI.out.r0 (by omega))) (run_loadVar_one LB.out _ _ _ _ (blk_put HI.out.r1 (by omega))) (run_loadVar_one LE.out _ _ _ _ (blk_put HI.out.r2 (by omega))),?_⟩
   exact ⟨by rw [HV.out,HCZ.out];rfl,below_put HI.out.below (by omega)⟩
  case stop =>
   clear EG SQ q0 q1 q2 q3
   rintro D c pre W hD hp ⟨rfl,v,rfl,hi⟩ hK
   have HV:Hid (nxV x z t=some v):=hid (by
    rw [HN.out]
    obtain ⟨suf,hsuf⟩:=hp
    rw [←hsuf];rfl)
   have HI:=hid hi
   have HK:=hid hK
   clear hp hi hK
   gi_wp2_with fail
   refine ⟨by simp,.inl ⟨_,_,rfl,run_takeDeferred HK.out,?_⟩⟩
   refine ⟨_,results_cell3 rfl _ _ ⟨w.heap.size+1,0,none⟩ ⟨w.heap.size+2,0,none⟩ ⟨w.heap.size+3,0,none⟩ _ _ _ rfl rfl rfl (run_loadVar_one LI.out _ _ _ _ (blk_put HI.out.r0 (by omega))) (run_loadVar_one LB.out _ _ _ _ (blk_put HI.out.r1 (by omega))) (run_loadVar_one LE.out _ _ _ _ (blk_put HI.out.r2 (by omega))),?_⟩
   exact ⟨by rw [HV.out,HCZ.out];rfl,below_put HI.out.below (by omega)⟩
 ·have HV:Hid (nxV x z t=none):=hid (by rw [HNV.out,if_neg hcz])
  obtain ⟨c,hc⟩:∃c,c=chk x z [t]:=⟨_,rfl⟩
  have HC:=hid hc
  rw [←hc] at hcz
  have hc2:=hc.symm
  clear hc HNV
  have HR0:=hid (((HI2.out.r0.set_ 0 (.int .i64 0)).far (p:=⟨w.heap.size+2,0,none⟩) (by simp) (.bool false)).far (p:=⟨w.heap.size+3,0,none⟩) (by simp) (.int .i64 c))
  have HR1:=hid (((HI2.out.r1.far (p:=⟨w.heap.size+1,0,none⟩) (by simp) (.int .i64 0)).set_ 0 (.bool false)).far (p:=⟨w.heap.size+3,0,none⟩) (by simp) (.int .i64 c))
  have HR2:=hid (((HI2.out.r2.far (p:=⟨w.heap.size+1,0,none⟩) (by simp) (.int .i64 0)).far (p:=⟨w.heap.size+2,0,none⟩) (by simp) (.bool false)).set_ 0 (.int .i64 c))
  have HB:=hid (((HI2.out.below.setCell (p:=⟨w.heap.size+1,0,none⟩) (by simp) (.int .i64 0)).setCell (p:=⟨w.heap.size+2,0,none⟩) (by simp) (.bool false)).setCell (p:=⟨w.heap.size+3,0,none⟩) (by simp) (.int .i64 c))
  have hcz2:(c==0)=false:=by rw [beq_eq_false_iff_ne];exact hcz
  gi_wp2_with fail
  refine ⟨_,results_cell3 rfl _ _ ⟨w.heap.size+1,0,none⟩ ⟨w.heap.size+2,0,none⟩ ⟨w.heap.size+3,0,none⟩ _ _ _ rfl rfl rfl (run_loadVar_one LI.out _ _ _ _ HR0.out) (run_loadVar_one LB.out _ _ _ _ HR1.out) (run_loadVar_one LE.out _ _ _ _ HR2.out),?_⟩
  exact ⟨by rw [HV.out,←HC.out];rfl,HB.out⟩
attribute [local go_sem] Oper.semAt_some
def tcell(t:Int):Value:=.int .i64 t
theorem ownsRow_mono{B C:Nat}{w:World}{e:TypeId}{size k:Nat}{v:Value}{xs:List Value}(h:w.ownsRow C e size v k xs)(hB:B≤C):w.ownsRow B e size v k xs :=
 ⟨h.1,h.2.imp id fun ⟨g,cap,cur,h1,h2,h3⟩=>⟨g,cap,cur,h1,Nat.le_trans hB h2,h3⟩⟩
theorem own_ge{B:Nat}{w:World}{e:TypeId}{size k:Nat}{v:Value}{xs:List Value}(h:w.ownsRow B e size v k xs){j:Nat}(hj:j<B):some j≠v.ownBlock:=by
 rcases h.2 with ⟨rfl,_⟩|⟨g,cap,cur,rfl,hb,_⟩
 ·simp [Value.ownBlock]
 ·intro e
  have:j=g:=by simpa [Value.ownBlock] using e
  omega
theorem own_alloc{B:Nat}{w:World}{e:TypeId}{size k:Nat}{v:Value}{xs:List Value}(h:w.ownsRow B e size v k xs)(o:Obj):(w.alloc o).ownsRow B e size v k xs:=World.ownsRow.alloc h o
end Go.Proofs.YtpgckpafjiojfaaGreatDoor.BW
namespace Go.Proofs.YtpgckpafjiojfaaGreatDoor.BW
open MC
end Go.Proofs.YtpgckpafjiojfaaGreatDoor.BW
namespace Go.Proofs.YtpgckpafjiojfaaGreatDoor.BW
open Go.RowKit BM Go.Shelf MC
open BK hiding ret_bool ret_i64
noncomputable def dayV(x:Ex)(z t:Int):Bool:=decide (chk x z [t]=0)&&(decide (0≤t+z*60)&&decide (t+z*60≤253402300799)&&MC.M x ((t+z*60).toNat / 86400))
noncomputable def isV(x:Ex)(z t:Int):Bool:=decide (chk x z [t]=0)&&(decide (0≤t+z*60)&&decide (t+z*60≤253402300799)&&T x (t+z*60).toNat)
theorem ret_be{a b:Bool}{c d:Int}(h:a=b)(h':c=d):Ending.returned (.tuple #[.bool a,.int .i64 c])=.returned (.tuple #[.bool b,.int .i64 d]):=by rw [h,h']
theorem pday_ok(x:Ex)(hx:U64s x)(z t:Int)(w:World)(hT:SpTab w):Calls Tryz.prog 214 #[.agg (exV x),.int .i64 z,.int .i64 t] w fun e w' =>
 e=.returned (.tuple #[.bool (dayV x z t),.int .i64 (chk x z [t])])∧Below w.heap.size w w':=by
 have HDV:Hid (dayV x z t=(decide (chk x z [t]=0)&&(decide (0≤t+z*60)&&decide (t+z*60≤253402300799)&&MC.M x ((t+z*60).toNat / 86400)))):=hid rfl
 generalize dayV x z t=R at *
 have HX:=hid hx
 obtain ⟨W1,hW1⟩:∃W1,W1=(w.alloc (.cells (exV x) 44)).alloc (.cells #[.int .i64 t] 2):=⟨_,rfl⟩
 have hbx:Blk W1 w.heap.size 44 (exV x):=by rw [hW1];exact (Blk.new w _ _).alloc _
 have hts:Blk W1 (w.heap.size+1) 2 #[.int .i64 t]:=by rw [hW1];exact Blk.newAt (by simp)
 have hB1:Below w.heap.size w W1:=by rw [hW1];exact ((Below.refl _ w).alloc (Nat.le_refl _) _).alloc (by simp) _
 have CK:=hid (pcheck_ok x hx z [t] (w.heap.size+1) 1 1 rfl (by decide) W1 (hT.below hB1) (fun k hk=>by
  have:k=0:=by simpa using hk
  subst this;exact hts.cell 0))
 have HW1:=hid hW1
 rw [hW1] at CK
 clear hW1 hT hx
 have e0:exV x=#[.int .u64 x.s,.int .u64 x.mi,.int .u64 x.h,.int .u64 x.d,.int .u64 x.mo,.int .u64 x.w,.bool x.ad,.bool x.aw]:=rfl
 rw [e0]
 clear e0
 unfold exV at CK
 go_enter Tryz.func214,Tryz.ntmps214
 go_wp2_with fail
 refine (CK.out).mono ?_
 rintro e w2 ⟨rfl,hb⟩
 have hb:Below W1.heap.size W1 w2:=by rw [HW1.out];exact hb
 have hx2:=hbx.below hb hbx.lt
 have HB2:=hid (hB1.trans (hb.mono hB1.size))
 have HX2:=hid hx2
 have c0:w2.cell? ⟨w.heap.size,0,none⟩=some (.int .u64 x.s):=hx2.cell 0
 have c1:w2.cell? ⟨w.heap.size,1,none⟩=some (.int .u64 x.mi):=hx2.cell 1
 have c2:w2.cell? ⟨w.heap.size,2,none⟩=some (.int .u64 x.h):=hx2.cell 2
 have c3:w2.cell? ⟨w.heap.size,3,none⟩=some (.int .u64 x.d):=hx2.cell 3
 have c4:w2.cell? ⟨w.heap.size,4,none⟩=some (.int .u64 x.mo):=hx2.cell 4
 have c5:w2.cell? ⟨w.heap.size,5,none⟩=some (.int .u64 x.w):=hx2.cell 5
 have c6:w2.cell? ⟨w.heap.size,6,none⟩=some (.bool x.ad):=hx2.cell 6
 have c7:w2.cell? ⟨w.heap.size,7,none⟩=some (.bool x.aw):=hx2.cell 7
 clear hb hbx hB1 CK HW1 hts hx2
 by_cases hcz:chk x z [t]=0
 ·obtain ⟨o1,o2,o3⟩:=chk_zero hcz
  have ht:=o3 t (by simp)
  have HCZ:=hid hcz
  clear o1 o3
  by_cases h0:0≤t+z*60
  ·by_cases h1:t+z*60≤253402300799
   ·have hge:decide (0≤t+z*60)=true:=decide_eq_true h0
    have hle:decide (t+z*60≤253402300799)=true:=decide_eq_true h1
    obtain ⟨n,hn⟩:∃n:Nat,n=(t+z*60).toNat / 86400:=⟨_,rfl⟩
    have en:(t+z*60) / 86400=(n:Int):=by omega
    have HR:Hid (R=MC.M x n):=hid (by rw [HDV.out,hcz,hge,hle,←hn];rfl)
    have hn2:n≤2932896:=by omega
    clear hn
    have CM:=hid (fun W hb=>matcher_ok x HX.out n hn2 w2.heap.size W hb)
    go_wp2_with fail
    refine (matcher_mk x w2).mono ?_
    rintro e w3 ⟨rfl,rfl⟩
    go_wp2_with fail
    rw [en]
    refine (CM.out _ (Blk.new w2 _ _)).mono ?_
    rintro e w4 ⟨rfl,hb4⟩
    go_wp2_with fail
    go_ret2
    exact ⟨ret_be HR.out.symm HCZ.out.symm,(HB2.out.alloc HB2.out.size _).trans (hb4.mono (by have:=HB2.out.size;simp;omega))⟩
   ·have hge:decide (0≤t+z*60)=true:=decide_eq_true h0
    have hle:decide (t+z*60≤253402300799)=false:=decide_eq_false h1
    have HR:Hid (R=false):=hid (by rw [HDV.out,hle];simp)
    go_wp2_with fail
    go_ret2
    exact ⟨ret_be HR.out.symm HCZ.out.symm,HB2.out⟩
  ·have hge:decide (0≤t+z*60)=false:=decide_eq_false h0
   have HR:Hid (R=false):=hid (by rw [HDV.out,hge];simp)
   go_wp2_with fail
   go_ret2
   exact ⟨ret_be HR.out.symm HCZ.out.symm,HB2.out⟩
 ·have HR:Hid (R=false):=hid (by rw [HDV.out,decide_eq_false hcz];rfl)
  obtain ⟨c,hc⟩:∃c,c=chk x z [t]:=⟨_,rfl⟩
  have HC:=hid hc
  rw [←hc] at hcz
  have hc2:=hc.symm
  clear hc
  have hcz2:(c==0)=false:=by rw [beq_eq_false_iff_ne];exact hcz
  go_wp2_with fail
  go_ret2
  exact ⟨ret_be HR.out.symm HC.out,HB2.out⟩
theorem fst_self{x:Ex}{f:Nat}(hf:f<86400)(h:clk x f=true):MC.fst x f=some f:=fst_some.2 ⟨hf,Nat.le_refl _,h,fun t h1 h2=>by omega⟩
theorem fst_not{x:Ex}{f s:Nat}(h:clk x f=false)(hs:MC.fst x f=some s):s≠f:=by
 rintro rfl
 obtain ⟨_,_,h3,_⟩:=fst_some.1 hs
 rw [h] at h3;cases h3
theorem pis_ok(x:Ex)(hx:U64s x)(z t:Int)(w:World)(hT:SpTab w)(hTab:Tab w):Calls Tryz.prog 197 #[.agg (exV x),.int .i64 z,.int .i64 t] w fun e w' =>
 e=.returned (.tuple #[.bool (isV x z t),.int .i64 (chk x z [t])])∧Below w.heap.size w w':=by
 have hB0:Below w.heap.size w (w.alloc (.cells (exV x) 44)):=(Below.refl _ w).alloc (Nat.le_refl _) _
 have hgt:1<w.heap.size:=World.block_lt_of_cell? w _ (hTab 0 (by decide))
 have CD:=hid (pday_ok x hx z t _ (hT.below hB0))
 have hbx:=Blk.new w 44 (exV x)
 have HDV:Hid (dayV x z t=(decide (chk x z [t]=0)&&(decide (0≤t+z*60)&&decide (t+z*60≤253402300799)&&MC.M x ((t+z*60).toNat / 86400)))):=hid rfl
 have HIV:Hid (isV x z t=(decide (chk x z [t]=0)&&(decide (0≤t+z*60)&&decide (t+z*60≤253402300799)&&T x (t+z*60).toNat))):=hid rfl
 generalize dayV x z t=D at *
 generalize isV x z t=R at *
 have HX:=hid hx
 have HB0:=hid hB0
 have HTB:=hid hTab
 clear hB0 hT hTab hx
 have e0:exV x=#[.int .u64 x.s,.int .u64 x.mi,.int .u64 x.h,.int .u64 x.d,.int .u64 x.mo,.int .u64 x.w,.bool x.ad,.bool x.aw]:=rfl
 rw [e0]
 clear e0
 have hb':=hbx
 unfold exV at CD hbx
 go_enter Tryz.func197,Tryz.ntmps197
 go_wp2_with fail
 refine (CD.out).mono ?_
 rintro e w2 ⟨rfl,hb⟩
 have hx2:=Blk.below hbx hb hbx.lt
 have HB2:=hid (HB0.out.trans (Below.mono (w:=w.alloc (.cells (exV x) 44)) hb (HB0.out.size)))
 have c0:w2.cell? ⟨w.heap.size,0,none⟩=some (.int .u64 x.s):=hx2.cell 0
 have c1:w2.cell? ⟨w.heap.size,1,none⟩=some (.int .u64 x.mi):=hx2.cell 1
 have c2:w2.cell? ⟨w.heap.size,2,none⟩=some (.int .u64 x.h):=hx2.cell 2
 have c3:w2.cell? ⟨w.heap.size,3,none⟩=some (.int .u64 x.d):=hx2.cell 3
 have c4:w2.cell? ⟨w.heap.size,4,none⟩=some (.int .u64 x.mo):=hx2.cell 4
 have c5:w2.cell? ⟨w.heap.size,5,none⟩=some (.int .u64 x.w):=hx2.cell 5
 have c6:w2.cell? ⟨w.heap.size,6,none⟩=some (.bool x.ad):=hx2.cell 6
 have c7:w2.cell? ⟨w.heap.size,7,none⟩=some (.bool x.aw):=hx2.cell 7
 clear hb hbx hb' CD hx2
 have HT2:=hid (tab_below HTB.out HB2.out hgt)
 by_cases hcz:chk x z [t]=0
 ·cases hD:D with
  | false =>
   have HR:Hid (R=false):=hid (by
    rw [HIV.out]
    have h:=HDV.out
    rw [hD,decide_eq_true hcz,Bool.true_and] at h
    unfold T
    rw [decide_eq_true hcz,Bool.true_and,←Bool.and_assoc,←h]
    rfl)
   have HCZ:=hid hcz
   subst hD
   go_wp2_with fail
   go_ret2
   exact ⟨ret_be HR.out.symm HCZ.out.symm,HB2.out⟩
  | true =>
   obtain ⟨o1,o2,o3⟩:=chk_zero hcz
   have ht:=o3 t (by simp)
   have hok:=ok_of_ck o1
   have hrange:(0≤t+z*60∧t+z*60≤253402300799)∧MC.M x ((t+z*60).toNat / 86400)=true:=by
    have h:=HDV.out
    rw [hD] at h
    simpa [hcz] using h.symm
   obtain ⟨f,hf⟩:∃f:Nat,f=(t+z*60).toNat % 86400:=⟨_,rfl⟩
   have HR:Hid (R=clk x f):=hid (by
    rw [HIV.out,hcz]
    unfold T
    rw [hrange.2,←hf,decide_eq_true hrange.1.1,decide_eq_true hrange.1.2]
    simp)
   have ef:(t+z*60) % 86400=(f:Int):=by omega
   have hf1:f<86400:=by omega
   have EF:Hid ((t+z*60).tmod 86400=(f:Int)):=hid (by rw [Int.tmod_eq_emod_of_nonneg hrange.1.1];exact ef)
   have HCZ:=hid hcz
   have CF:=hid (first_ok x HX.out hok f hf1 w2 HT2.out)
   subst hD
   clear ef hf o1 o3 hrange
   cases hk:clk x f with
   | true =>
    have hfs:=fst_self hf1 hk
    rw [hfs] at CF
    rw [hk] at HR
    clear hk hfs
    unfold exV at CF
    go_wp2_with fail
    rw [EF.out]
    refine (CF.out).mono ?_
    rintro e w3 ⟨rfl,hb3⟩
    simp only [num,Option.getD_some,Option.isSome_some]
    go_wp2_with fail
    go_ret2
    exact ⟨ret_be (by rw [HR.out]) HCZ.out.symm,HB2.out.trans (hb3.mono HB2.out.size)⟩
   | false =>
    rw [hk] at HR
    cases hfs:MC.fst x f with
    | none =>
     rw [hfs] at CF
     clear hk hfs
     unfold exV at CF
     go_wp2_with fail
     rw [EF.out]
     refine (CF.out).mono ?_
     rintro e w3 ⟨rfl,hb3⟩
     simp only [num,Option.getD_none,Option.isSome_none]
     go_wp2_with fail
     go_ret2
     exact ⟨ret_be HR.out.symm HCZ.out.symm,HB2.out.trans (hb3.mono HB2.out.size)⟩
    | some s =>
     have hne:=fst_not hk hfs
     rw [hfs] at CF
     clear hk hfs
     unfold exV at CF
     have hq:((s:Int)==(f:Int))=false:=by rw [beq_eq_false_iff_ne];omega
     have hq2:¬((s:Int)=(f:Int)):=by omega
     go_wp2_with fail
     rw [EF.out]
     refine (CF.out).mono ?_
     rintro e w3 ⟨rfl,hb3⟩
     simp only [num,Option.getD_some,Option.isSome_some]
     go_wp2_with fail
     go_ret2
     exact ⟨ret_be (by rw [HR.out]) HCZ.out.symm,HB2.out.trans (hb3.mono HB2.out.size)⟩
 ·have HR:Hid (R=false):=hid (by rw [HIV.out,decide_eq_false hcz];rfl)
  have HD:Hid (D=false):=hid (by rw [HDV.out,decide_eq_false hcz];rfl)
  obtain ⟨c,hc⟩:∃c,c=chk x z [t]:=⟨_,rfl⟩
  have HC:=hid hc
  have hD:=HD.out
  subst hD
  have hc2:=hc.symm
  clear hc hcz
  go_wp2_with fail
  go_ret2
  exact ⟨ret_be HR.out.symm HC.out,HB2.out⟩
theorem tab_lt{w:World}(h:Tab w):1<w.heap.size:=World.block_lt_of_cell? w _ (h 0 (by decide))
theorem isV_ok{x:Ex}{z t:Int}(h:chk x z [t]=0):isV x z t=(decide (0≤t+z*60)&&decide (t+z*60≤253402300799)&&T x (t+z*60).toNat):=by
 unfold isV;rw [h];rfl
noncomputable def At(x:Ex)(z t:Int):Bool:=decide (0≤t∧t≤253402300799∧0≤t+z*60∧t+z*60≤253402300799)&&T x (t+z*60).toNat
theorem isV_At{x:Ex}{z t:Int}(h:chk x z [t]=0):isV x z t=At x z t:=by
 obtain ⟨o1,o2,o3⟩:=chk_zero h
 have ht:=o3 t (by simp)
 rw [isV_ok h]
 unfold At
 congr 1
 rw [←Bool.decide_and]
 simp [ht]
theorem timesL_mem{x:Ex}{z a b t:Int}(hz : -840≤z∧z≤840):t∈timesL x z a b↔a≤t∧t≤b∧At x z t=true:=by
 unfold timesL loI hiI At
 split
 ·simp only [List.not_mem_nil,false_iff,Bool.and_eq_true,decide_eq_true_eq]
  omega
 ·rw [List.mem_map]
  simp only [Bool.and_eq_true,decide_eq_true_eq]
  constructor
  ·rintro ⟨l,hl,rfl⟩
   obtain ⟨h1,h2,h3⟩:=rest_mem.1 hl
   refine ⟨by omega,by omega,⟨by omega,by omega,by omega,by omega⟩,?_⟩
   rw [show ((l:Int) - z*60+z*60).toNat=l from by omega]
   exact h3
  ·rintro ⟨h1,h2,⟨h3,h4,h5,h6⟩,h7⟩
   exact ⟨(t+z*60).toNat,rest_mem.2 ⟨by omega,by omega,h7⟩,by omega⟩
theorem timesL_sorted(x:Ex)(z a b:Int):(timesL x z a b).Pairwise (·<·):=by
 unfold timesL
 split
 ·exact List.Pairwise.nil
 ·rw [List.pairwise_map]
  exact (rest_sorted x _ _).imp (by intro p q h;omega)
theorem head_some{l:List Int}(hs:l.Pairwise (·<·)){n:Int}:l.head?=some n↔n∈l∧∀m∈l,n≤m:=by
 cases l with
 | nil=>simp
 | cons a l =>
  rw [List.head?_cons,Option.some.injEq]
  have h1:=(List.pairwise_cons.1 hs).1
  constructor
  ·rintro rfl
   exact ⟨by simp,fun m hm=>by rcases List.mem_cons.1 hm with rfl|hm;exact Int.le_refl _;exact Int.le_of_lt (h1 m hm)⟩
  ·rintro ⟨hn,hall⟩
   have h2:=hall a (by simp)
   rcases List.mem_cons.1 hn with rfl|hn
   ·rfl
   ·have:=h1 n hn;omega
end Go.Proofs.YtpgckpafjiojfaaGreatDoor.BW
