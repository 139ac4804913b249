/- A drawn region of quiet operations (they only read, or call what only lays blocks) ahead of a forced tail. Contracts of the checks of policies (policy.CheckLimit, checkBreaker, checkRetry, checkMisfire, Check). Contracts of the reference's checks of policies (wakemanref14.CheckLimit, CheckBreaker, CheckRetry, CheckMisfire, Check). Contracts of lex.Name and of the reference's Name. -/
import Derived.StillTail
import Derived.StillTailTactics
import Derived.Deep.RegionHeld3
import Derived.Test.YtpgckpafjiojfaaGreatDoorMStr
open Go.Lib (hid)
set_option maxRecDepth 16000
set_option maxHeartbeats 40000000
namespace Go.Proofs.YtpgckpafjiojfaaGreatDoor.RK
open Go.RowKit Go.Sort
theorem wpAny_more{P:Program}{md:Region.Mode}{ops:Array Oper}{Q:Exit→Act→World→Prop}:∀(fuel:Nat) (x:Array Bool) (a:Act) (w:World),wpAny P md ops Q fuel x a w→wpAny P md ops Q (fuel+1) x a w
 | 0,_,_,_,h=>⟨fun _=>h.2,fun i hi=>by rw [h.1] at hi;cases hi⟩
 | f+1,_,_,_,h=>⟨h.1,fun i hi=>wpOp_mono (fun a' w'=>wpAny_more f _ a' w') (h.2 i hi)⟩
theorem wpAny_add{P:Program}{md:Region.Mode}{ops:Array Oper}{Q:Exit→Act→World→Prop}(g:Nat):∀(n:Nat) (x:Array Bool) (a:Act) (w:World),wpAny P md ops Q g x a w→wpAny P md ops Q (n+g) x a w
 | 0,_,_,_,h=>by rw [Nat.zero_add];exact h
 | n+1,x,a,w,h=>by rw [show n+1+g=(n+g)+1 by omega];exact wpAny_more _ _ _ _ (wpAny_add g n x a w h)
def headB(ls:List Oper):Bool:=(List.range ls.length).all fun j=>((ls[j]?).map fun o=>(o.after.all fun e=>decide (e.on<j))&&(match o.guard with|some g=>decide (g.1<ls.length)|none=>true)).getD false
def X0(n m:Nat):Array Bool:=(List.replicate n true++List.replicate m false).toArray
section
variable{ls ts:List Oper}
theorem head_after(h:headB ls=true){j:Nat}{o:Oper}(ho:ls[j]? = some o):(∀e∈o.after,e.on<j)∧∀g,o.guard=some g→g.1<ls.length:=by
 have hj:j<ls.length:=(List.getElem?_eq_some_iff.1 ho).1
 have:=List.all_eq_true.1 h j (List.mem_range.2 hj)
 rw [ho] at this
 simp only [Option.map_some,Option.getD_some,Bool.and_eq_true,Array.all_eq_true',decide_eq_true_eq] at this
 refine ⟨this.1,fun g hg=>?_⟩
 have h2:=this.2
 rw [hg] at h2
 simpa using h2
theorem atP_low{j:Nat}(h:j<ls.length):(ls++ts).toArray[j]? = ls.toArray[j]?:=by simp [List.getElem?_append_left h]
theorem wanted_low(h:headB ls=true){j:Nat}{o:Oper}(ho:ls[j]? = some o)(t:Array Value):Region.wanted o (yielded (ls++ts).toArray t)=Region.wanted o (yielded ls.toArray t):=by
 unfold Region.wanted
 cases hg:o.guard with
 | none=>rfl
 | some g =>
  have:=(head_after h ho).2 g hg
  have e:yielded (ls++ts).toArray t g.1=yielded ls.toArray t g.1:=by
   unfold yielded
   rw [atP_low this]
  simp only [e]
theorem readyP_low(h:headB ls=true){x y:Array Bool}(hy:y.size=ls.length)(hx:x.size=ls.length+ts.length)(hxy:∀j,j<ls.length→x.getD j false=y.getD j false){i:Nat}(hi:i<ls.length) :
 i∈Region.ready .any (ls++ts).toArray x↔i∈Region.ready .any ls.toArray y:=by
 rw [mem_ready,mem_ready,atP_low hi,getD_any (by omega) true false,getD_any (x:=y) (by omega) true false,hxy i hi]
 constructor
 ·rintro ⟨h1,o,ho,h2⟩
  exact ⟨h1,o,ho,fun e he hb=>by rw [←hxy _ (Nat.lt_trans ((head_after h (by simpa using ho)).1 e he) hi)];exact h2 e he hb⟩
 ·rintro ⟨h1,o,ho,h2⟩
  exact ⟨h1,o,ho,fun e he hb=>by rw [hxy _ (Nat.lt_trans ((head_after h (by simpa using ho)).1 e he) hi)];exact h2 e he hb⟩
theorem all_of_nilP(h:headB ls=true){y:Array Bool}(hy:y.size=ls.length)(hn:Region.ready .any ls.toArray y=[]):∀j,j<ls.length→y.getD j false=true:=by
 intro j
 induction j using Nat.strongRecOn with
 | ind j ih =>
  intro hj
  cases hv:y.getD j false with
  | true=>rfl
  | false =>
   have hm:j∈Region.ready .any ls.toArray y:=by
    rw [mem_ready]
    refine ⟨by rw [getD_any (by omega) true false];exact hv,ls[j],by simp [hj],fun e he _=>?_⟩
    have:=(head_after h (j:=j) (by simp [hj]:ls[j]? = some ls[j])).1 e he
    exact ih e.on this (by omega)
   rw [hn] at hm;cases hm
theorem x0_of{x:Array Bool}{n m:Nat}(hx:x.size=n+m)(h1:∀j,j<n→x.getD j false=true)(h2:∀j,n≤j→j<n+m→x.getD j false=false):x=X0 n m:=by
 unfold X0
 apply Array.ext
 ·simp [hx]
 ·intro i hi _
  have e:x.getD i false=x[i]:=by simp [hi]
  rcases Nat.lt_or_ge i n with h|h
  ·rw [←e,h1 i h,List.getElem_toArray,List.getElem_append_left (by simpa using h)]
   simp
  ·rw [←e,h2 i h (by omega),List.getElem_toArray,List.getElem_append_right (by simpa using h)]
   simp
variable{P:Program}{C:World→Prop}{Qa:Act→Prop}{Q:Exit→Act→World→Prop}
theorem lift_tailP(ht:headB ls=true)(hsk:Region.sinkB .any (ls++ts).toArray ls.length=true)(hch:Region.chainB .any (ls++ts).toArray ls.length=true)(hne:0<ts.length)(hseq:Region.seqB .any (ls++ts).toArray ts.length ls.length (X0 ls.length ts.length)=true)
 (hs:∀a w,C w→Qa a→wpList P (ls++ts).toArray Q ts a w) :
 ∀(fuel:Nat) (x y:Array Bool) (a:Act),HeadInv .any (ls++ts).toArray ls.length x→y.size=ls.length→(∀j,j<ls.length→x.getD j false=y.getD j false) →
  wpAnyQ P .any ls.toArray C Qa fuel y a→∀w,C w→wpAny P .any (ls++ts).toArray Q (fuel+ts.length) x a w:=by
 have fin:∀(fuel:Nat) (x y:Array Bool) (a:Act) (w:World),HeadInv .any (ls++ts).toArray ls.length x→y.size=ls.length→(∀j,j<ls.length→x.getD j false=y.getD j false) →
  Region.ready .any ls.toArray y=[]→Qa a→C w→wpAny P .any (ls++ts).toArray Q (fuel+ts.length) x a w:=by
  intro fuel x y a w inv hy hxy hn hq hc
  have hx:x.size=ls.length+ts.length:=by have:=inv.size;simpa using this
  have hall:=all_of_nilP ht hy hn
  have hx0:x=X0 ls.length ts.length:=x0_of hx (fun j hj=>by rw [hxy j hj];exact hall j hj) (fun j h1 h2=>getD_both (inv.tail j h1 (by simpa using h2)))
  subst hx0
  exact wpAny_add _ fuel _ _ _ (wpAny_of_seq ts ls.length _ a w (fun j=>by rw [List.getElem?_toArray,List.getElem?_append_right (by omega),show ls.length+j - ls.length=j by omega]) hseq (hs a w hc hq))
 intro fuel
 induction fuel with
 | zero=>intro x y a inv hy hxy h w hw;exact fin 0 x y a w inv hy hxy h.1 h.2 hw
 | succ fuel ih =>
  intro x y a inv hy hxy h w hw
  have hx:x.size=ls.length+ts.length:=by have:=inv.size;simpa using this
  by_cases hn:Region.ready .any ls.toArray y=[]
  ·exact fin (fuel+1) x y a w inv hy hxy hn (h.1 hn) hw
  ·rw [show fuel+1+ts.length=(fuel+ts.length)+1 by omega]
   obtain ⟨i0,hi0⟩:=List.exists_mem_of_ne_nil _ hn
   have hlt0:=ready_lt hi0
   simp at hlt0
   refine ⟨fun hn'=>?_,fun i hi=>?_⟩
   ·exfalso
    have:=(readyP_low (ts:=ts) ht hy hx hxy hlt0).2 hi0
    rw [hn'] at this;cases this
   ·rcases Nat.lt_or_ge i ls.length with h2|h2
    ·have hi':=(readyP_low ht hy hx hxy h2).1 hi
     have hq:=h.2 i hi'
     have ho:ls.toArray[i]? = some ls[i]:=by simp [h2]
     have hK:∀a' w',C w'→wpAnyQ P .any ls.toArray C Qa fuel (y.setIfInBounds i true) a'→wpAny P .any (ls++ts).toArray Q (fuel+ts.length) (x.setIfInBounds i true) a' w':=fun a' w' hw' hk=>by
      refine ih (x.setIfInBounds i true) (y.setIfInBounds i true) a' (inv.set hi h2) (by simpa using hy) (fun j hj=>?_) hk w' hw'
      by_cases hij:i=j
      ·subst hij
       have e1:i<x.size:=by omega
       have e2:i<y.size:=by omega
       simp [e1,e2]
      ·rw [getD_set_ne false hij,getD_set_ne false hij];exact hxy j hj
     unfold qOp at hq
     unfold wpOp
     rw [atP_low h2]
     simp only [ho,wanted_low (ts:=ts) ht (by simp [h2]:ls[i]? = some ls[i])] at hq ⊢
     by_cases hwt:Region.wanted ls[i] (yielded ls.toArray a.tmps)=true
     ·rw [if_pos hwt] at hq ⊢
      exact .inl (Oper.wp_of_quiet hw hK hq)
     ·rw [if_neg hwt] at hq ⊢
      exact hK _ _ hw hq
    ·exfalso
     have h0:x.getD i0 true=false:=by
      rw [getD_any (by omega) true false,hxy i0 hlt0,getD_any (by omega) false true]
      exact (mem_ready.1 hi0).1
     exact tail_waits hsk hch (by simp;omega) inv (ls.length - i0) i0 rfl hlt0 h0 i h2 hi
end
theorem wp_region_quiet_tail{P:Program}{Q:Exit→Act→World→Prop}{id:Nat}(L:List Oper)(k:Nat)(ts:List Oper){a:Act}{w:World}(hL:L=L.take k++ts)(hm:P.follows .mixedOrders=true)(hB:Region.lexB .any (L.take k).toArray=true)(ht:headB (L.take k)=true)
 (hsk:Region.sinkB .any (L.take k++ts).toArray (L.take k).length=true) (hch:Region.chainB .any (L.take k++ts).toArray (L.take k).length=true) (hne:decide (0<ts.length)=true) (hseq:Region.seqB .any (L.take k++ts).toArray ts.length (L.take k).length (X0 (L.take k).length ts.length)=true)
 (h:wpQuiet P (L.take k).toArray (fun w'=>∃p:Regrown,w'=grow (redrawn w p.d) p.os) (fun a'=>∀w',(∃p:Regrown,w'=grow (redrawn w p.d) p.os)→wpList P L.toArray Q ts a' w') (L.take k) a) :
 (Code.region id L.toArray true).wp P Q a w:=by
 have e:(Code.region id (L.take k++ts).toArray true).wp P Q a w:=by
  refine wp_region_any hm ?_
  simp only [Region.lexB,Bool.and_eq_true] at hB
  have hq:=wpAnyQ_lex (md:=.any) hB.1 (L.take k) 0 (Array.replicate (L.take k).toArray.size false) a (by simp) (by simpa using hB.2) h
  have inv0:HeadInv .any (L.take k++ts).toArray (L.take k).length (Array.replicate (L.take k++ts).toArray.size false) :=
   ⟨by simp,fun j oj _ hl=>(by rw [getD_replicate_false] at hl;cases hl),fun t _ ht=>getD_in (by simpa using ht) (getD_replicate_false _ _)⟩
  have:=lift_tailP (Q:=Q) ht hsk hch (of_decide_eq_true hne) hseq (fun a' w' hc (hq':∀w',(∃p:Regrown,w'=grow (redrawn w p.d) p.os)→wpList P L.toArray Q ts a' w')=>by have:=hq' w' hc;rw [hL] at this;simpa using this) (L.take k).length _ (Array.replicate (L.take k).toArray.size false) a inv0 (by simp) (fun j hj=>(by rw [none_listed,none_listed])) hq { w with drawn:=w.drawn+1 } ⟨⟨w.drawn+1,#[]⟩,by rw [grow_empty];rfl⟩
  simpa using this
 rwa [←hL] at e
end Go.Proofs.YtpgckpafjiojfaaGreatDoor.RK
namespace Go.Proofs.YtpgckpafjiojfaaGreatDoor.BW
open Go.RowKit BM
open BK hiding ret_bool ret_i64
def inB(n lo hi:Int):Bool:=decide (lo≤n)&&decide (n≤hi)
def eB(b:Bool):Int:=if b then 0 else 16
theorem in64_ok(n lo hi:Int)(w:World):Calls Tryz.prog 176 #[.int .i64 n,.int .i64 lo,.int .i64 hi] w fun e w'=>e=.returned (.bool (inB n lo hi))∧w'=w:=by
 unfold inB
 by_cases h1:lo≤n
 ·go_enter Tryz.func176,Tryz.ntmps176
  go_wp2
  go_ret
  exact ⟨ret_bool (by simp;omega),rfl⟩
 ·go_enter Tryz.func176,Tryz.ntmps176
  go_wp2
  go_ret
  exact ⟨ret_bool (by simp;omega),rfl⟩
theorem inI_ok(n lo hi:Int)(w:World):Calls Tryz.prog 178 #[.int .i64 n,.int .i64 lo,.int .i64 hi] w fun e w'=>e=.returned (.bool (inB n lo hi))∧w'=w:=by
 unfold inB
 by_cases h1:lo≤n
 ·go_enter Tryz.func178,Tryz.ntmps178
  go_wp2
  go_ret
  exact ⟨ret_bool (by simp;omega),rfl⟩
 ·go_enter Tryz.func178,Tryz.ntmps178
  go_wp2
  go_ret
  exact ⟨ret_bool (by simp;omega),rfl⟩
def BoolsAt(w:World)(g:Nat)(bs:List Bool):Prop:=∀k (hk:k<bs.length),w.cell? ⟨g,k,none⟩=some (.bool bs[k])
def intB:Value→Nat
 | .int _ m=>m.toNat
 | _=>0
theorem ixb_ok(bs:List Bool)(g n c:Nat)(hn:bs.length=n)(hn9:n≤9)(w:World)(h:BoolsAt w g bs):Calls Tryz.prog 188 #[.slice (some ⟨g,0,none⟩) n c,.bool false] w fun e w'=>(∃r,e=.returned (.int .i64 r)∧decide (0≤r)=!bs.all id)∧w'=w:=by
 have HN:=hid hn
 have HC:=hid h
 clear hn h
 go_enter Tryz.func188,Tryz.ntmps188
 go_wp2_with fail
 go_loop [5,8] (fun _ s8=>∃k:Nat,k≤n∧s8=.int .i64 k∧∀i (hi:i<bs.length),i<k→bs[i]=true) (fun _ s8=>n - intB s8)
 case atStart=>exact ⟨0,Nat.zero_le _,rfl,fun i hi h=>absurd h (Nat.not_lt_zero _)⟩
 case round =>
  obtain ⟨k,hk,rfl,hok⟩:=hrel
  have HOK:=hid hok
  clear hok
  rcases Nat.lt_or_ge k n with hlt|hge
  ·have hkl:k<bs.length:=by have:=HN.out;omega
   have hc:=HC.out k hkl
   have HY:=hid (fun (he:bs[k]=true) i (hi:i<bs.length) (h:i<k+1)=>(by
    rcases Nat.lt_or_ge i k with h4|h4
    ·exact HOK.out i hi h4
    ·obtain rfl:i=k:=by omega
     exact he:bs[i]=true))
   have HX:=hid (fun (he:bs[k]=false)=>(by
    have h1:bs.all id=false:=by
     rw [←Bool.not_eq_true]
     intro hh
     have:=List.all_eq_true.1 hh bs[k] (List.getElem_mem hkl)
     rw [he] at this
     cases this
    rw [h1]
    simp:decide ((0:Int)≤k)=!bs.all id))
   generalize bs[k]=b at *
   cases b
   ·have HX2:=hid (HX.out rfl)
    clear HY HX
    go_wp2_with fail
    go_ret
    exact ⟨⟨_,rfl,HX2.out⟩,rfl⟩
   ·have HZ:=hid (HY.out rfl)
    clear HX HY
    go_wp2_with fail
    refine ⟨⟨k+1,by omega,by go_num,HZ.out⟩,?_⟩
    simp [intB];omega
  ·obtain rfl:k=n:=by omega
   have HA:Hid (decide ((0:Int)≤ -1)=!bs.all id):=hid (by
    have h1:bs.all id=true:=List.all_eq_true.2 (fun x hx=>by
     obtain ⟨i,hi,rfl⟩:=List.getElem_of_mem hx
     exact HOK.out i hi (by have:=HN.out;omega))
    rw [h1]
    rfl)
   go_wp2_with fail
   go_ret
   exact ⟨⟨_,rfl,HA.out⟩,rfl⟩
theorem rule_ok(bs:List Bool)(g n c:Nat)(hn:bs.length=n)(hn9:n≤9)(w:World)(h:BoolsAt w g bs):Calls Tryz.prog 175 #[.slice (some ⟨g,0,none⟩) n c] w fun e w'=>e=.returned (.int .i64 (eB (bs.all id)))∧w'=w:=by
 have CI:=hid (ixb_ok bs g n c hn hn9 w h)
 have CC:Hid (Calls Tryz.prog 185 #[.slice (some ⟨g,0,none⟩) n c,.bool false] w fun e w'=>e=.returned (.bool (!bs.all id))∧w'=w):=hid (by
  generalize bs.all id=b at *
  clear h hn
  go_enter Tryz.func185,Tryz.ntmps185
  go_wp2_with fail
  refine (CI.out).mono ?_
  rintro e w' ⟨⟨r,rfl,hr⟩,rfl⟩
  go_wp2_with fail
  go_ret
  exact ⟨ret_bool (by first|rfl|exact hr),rfl⟩)
 generalize bs.all id=b at *
 clear CI h hn
 cases b <;>
 ·go_enter Tryz.func175,Tryz.ntmps175
  go_wp2_with fail
  refine (CC.out).mono ?_
  rintro e w' ⟨rfl,rfl⟩
  go_wp2_with fail
  go_ret
  exact ⟨rfl,rfl⟩
theorem rule_at(bs:List Bool)(n:Nat)(hn:bs.length=n)(hn9:n≤9)(T:TypeId)(W:World):Calls Tryz.prog 175 #[.slice (some ⟨W.heap.size,0,none⟩) n n] (W.alloc (.cells (bs.map Value.bool).toArray T)) fun e w'=>e=.returned (.int .i64 (eB (bs.all id)))∧w'=W.alloc (.cells (bs.map Value.bool).toArray T) :=
 rule_ok bs W.heap.size n n hn hn9 _ (fun k hk=>by
  rw [(Blk.new W T (bs.map Value.bool).toArray).cell]
  simp [hk])
theorem rule_dr(bs:List Bool)(n:Nat)(hn:bs.length=n)(hn9:n≤9)(T:TypeId)(W:World):Calls Tryz.prog 175 #[.slice (some ⟨W.heap.size,0,none⟩) n n] (W.alloc (.cells (bs.map Value.bool).toArray T)).drew fun e w'=>e=.returned (.int .i64 (eB (bs.all id)))∧w'=(W.alloc (.cells (bs.map Value.bool).toArray T)).drew :=
 rule_ok bs W.heap.size n n hn hn9 _ (fun k hk=>by
  rw [((Blk.new W T (bs.map Value.bool).toArray).drew).cell]
  simp [hk])
def limB(t tau:Int):Bool:=inB t 0 68719476736&&inB tau 0 68719476736&&(decide (0<t)||tau==0)
theorem limit_ok(t tau:Int)(w:World):Calls Tryz.prog 163 #[.agg #[.int .i64 t,.int .i64 tau]] w fun e w'=>e=.returned (.int .i64 (eB (limB t tau)))∧Below w.heap.size w w':=by
 have C1:=hid (fun W=>in64_ok t 0 68719476736 W)
 have C2:=hid (fun W=>in64_ok tau 0 68719476736 W)
 have HV:Hid (limB t tau=(inB t 0 68719476736&&inB tau 0 68719476736&&(decide (0<t)||tau==0))):=hid rfl
 generalize inB t 0 68719476736=b1 at *
 generalize inB tau 0 68719476736=b2 at *
 generalize limB t tau=b at *
 have CR:=hid (fun b3 W=>rule_dr [b1,b2,b3] 3 rfl (by decide) 4 W)
 simp only [List.map_cons,List.map_nil,List.all_cons,List.all_nil,id] at CR
 obtain ⟨d0,hd0⟩:∃d,decide (0<t)=d:=⟨_,rfl⟩
 obtain ⟨b3,h3⟩:∃b3,(tau==0)=b3:=⟨_,rfl⟩
 rw [hd0,h3] at HV
 cases d0
 all_goals
  go_enter Tryz.func163,Tryz.ntmps163
  go_wp2_with fail
  obtain ⟨W1,hW1⟩:∃W1,W1=w.alloc (.cells #[.int .i64 t,.int .i64 tau] 26):=⟨_,rfl⟩
  rw [←hW1]
  have hbx:Blk W1 w.heap.size 26 #[.int .i64 t,.int .i64 tau]:=by rw [hW1];exact Blk.new w _ _
  have c0:W1.cell? ⟨w.heap.size,0,none⟩=some (.int .i64 t):=hbx.cell 0
  have c1:W1.cell? ⟨w.heap.size,1,none⟩=some (.int .i64 tau):=hbx.cell 1
  have HB:=hid (show Below w.heap.size w W1 by rw [hW1];exact (Below.refl _ w).alloc (Nat.le_refl _) _)
  clear hW1 hbx
  go_still_tail 14,(by kernel_rfl)
  still_call (C1.out _)
  repeat still_step
  still_call (C2.out _)
  repeat still_step
  refine wpStill_nil ?_
  change wpList _ _ _ _ _ (World.drew _)
  go_wp2_with fail
  refine (CR.out _ _).mono ?_
  rintro e w2 ⟨rfl,rfl⟩
  go_wp2_with fail
  go_ret
  exact ⟨ret_i64 (by rw [HV.out];congr 1;cases b1<;>cases b2<;>first|rfl|(simp;done)|(cases b3<;>rfl)),below_drewN (HB.out.alloc HB.out.size _) 1⟩
theorem brk_run(x0 x1 x2 y0 y1 y2:Int)(w:World):(binOp .eql 51 (.agg #[.int .i64 x0,.int .i64 x1,.int .i64 x2]) (.agg #[.int .i64 y0,.int .i64 y1,.int .i64 y2])).run Tryz.prog w=.ok (.bool ((x0==y0)&&(x1==y1)&&(x2==y2))) w:=by
 have h1:Tryz.prog.underlying 51 = some (.struct (Tryz.prog.fieldsOf 51)):=by kernel_rfl
 have h2:Tryz.prog.stoodInHeld 51 = false:=by kernel_rfl
 rw [run_eql_struct,run_equalIn_agg _ _ _ _ _ h1 h2]
 simp [go_sem]
 by_cases e0:x0=y0
 case neg=>simp [e0]
 try simp only [e0,if_true]
 by_cases e1:x1=y1
 case neg=>simp [e1]
 try simp only [e1,if_true]
 by_cases e2:x2=y2
 case neg=>simp [e2]
 try simp only [e2,if_true]
 try simp
theorem rty_run(x0 x1 x2 x3 y0 y1 y2 y3:Int)(w:World):(binOp .eql 53 (.agg #[.int .i64 x0,.int .i64 x1,.int .i64 x2,.int .i64 x3]) (.agg #[.int .i64 y0,.int .i64 y1,.int .i64 y2,.int .i64 y3])).run Tryz.prog w=.ok (.bool ((x0==y0)&&(x1==y1)&&(x2==y2)&&(x3==y3))) w:=by
 have h1:Tryz.prog.underlying 53 = some (.struct (Tryz.prog.fieldsOf 53)):=by kernel_rfl
 have h2:Tryz.prog.stoodInHeld 53 = false:=by kernel_rfl
 rw [run_eql_struct,run_equalIn_agg _ _ _ _ _ h1 h2]
 simp [go_sem]
 by_cases e0:x0=y0
 case neg=>simp [e0]
 try simp only [e0,if_true]
 by_cases e1:x1=y1
 case neg=>simp [e1]
 try simp only [e1,if_true]
 by_cases e2:x2=y2
 case neg=>simp [e2]
 try simp only [e2,if_true]
 by_cases e3:x3=y3
 case neg=>simp [e3]
 try simp only [e3,if_true]
 try simp
def brkB(f u r:Int):Bool:=((f==0)&&(u==0)&&(r==0))||(inB f 1 100&&inB u 1 68719476736&&inB r 1 100)
def rtyB(m b c j:Int):Bool:=((m==0)&&(b==0)&&(c==0)&&(j==0))||(inB m 1 20&&inB b 1 68719476736&&inB c b 68719476736&&inB j 0 68719476736)
def misB(k e:Int):Bool:=if k=3 then inB e 1 100 else inB k 0 2&&(e==0)
theorem cbrk_ok(f u r:Int)(w:World):Calls Tryz.prog 181 #[.agg #[.int .i64 f,.int .i64 u,.int .i64 r]] w fun e w'=>e=.returned (.int .i64 (eB (brkB f u r)))∧Below w.heap.size w w':=by
 have EQ:=fun w=>brk_run f u r 0 0 0 w
 have hg:Tryz.prog.eqGuardType Tryz.prog.depth 51 = false:=by kernel_rfl
 have C0:=hid (fun W=>inI_ok f 1 100 W)
 have C1:=hid (fun W=>in64_ok u 1 68719476736 W)
 have C2:=hid (fun W=>inI_ok r 1 100 W)
 have HV:Hid (brkB f u r=(((f==0)&&(u==0)&&(r==0))||(inB f 1 100&&inB u 1 68719476736&&inB r 1 100))):=hid rfl
 generalize ((f==0)&&(u==0)&&(r==0))=z at *
 generalize inB f 1 100=b0 at *
 generalize inB u 1 68719476736=b1 at *
 generalize inB r 1 100=b2 at *
 generalize brkB f u r=b at *
 have CR:=hid (fun W=>rule_dr [b0,b1,b2] 3 rfl (by decide) 4 W)
 simp only [List.map_cons,List.map_nil,List.all_cons,List.all_nil,id] at CR
 have HB:=hid ((Below.refl _ w).alloc (Nat.le_refl _) (.cells #[.int .i64 f,.int .i64 u,.int .i64 r] 51))
 cases z
 ·go_enter Tryz.func181,Tryz.ntmps181
  go_wp2_with fail
  obtain ⟨W1,hW1⟩:∃W1,W1=w.alloc (.cells #[.int .i64 f,.int .i64 u,.int .i64 r] 51):=⟨_,rfl⟩
  rw [←hW1]
  rw [←hW1] at HB
  have hbx:Blk W1 w.heap.size 51 #[.int .i64 f,.int .i64 u,.int .i64 r]:=by rw [hW1];exact Blk.new w _ _
  have c0:W1.cell? ⟨w.heap.size,0,none⟩=some (.int .i64 f):=hbx.cell 0
  have c1:W1.cell? ⟨w.heap.size,1,none⟩=some (.int .i64 u):=hbx.cell 1
  have c2:W1.cell? ⟨w.heap.size,2,none⟩=some (.int .i64 r):=hbx.cell 2
  clear hW1 hbx
  go_still_tail 9,(by kernel_rfl)
  still_call (C0.out _)
  repeat still_step
  still_call (C1.out _)
  repeat still_step
  still_call (C2.out _)
  repeat still_step
  refine wpStill_nil ?_
  change wpList _ _ _ _ _ (World.drew _)
  go_wp2_with fail
  refine (CR.out _).mono ?_
  rintro e w2 ⟨rfl,rfl⟩
  go_wp2_with fail
  go_ret
  exact ⟨ret_i64 (by rw [HV.out];congr 1;simp [Bool.and_assoc]),below_drewN (HB.out.alloc HB.out.size _) 1⟩
 ·go_enter Tryz.func181,Tryz.ntmps181
  go_wp2_with fail
  go_ret
  exact ⟨ret_i64 (by rw [HV.out];rfl),HB.out⟩
theorem crty_ok(m b_ c j:Int)(w:World):Calls Tryz.prog 182 #[.agg #[.int .i64 m,.int .i64 b_,.int .i64 c,.int .i64 j]] w fun e w'=>e=.returned (.int .i64 (eB (rtyB m b_ c j)))∧Below w.heap.size w w':=by
 have EQ:=fun w=>rty_run m b_ c j 0 0 0 0 w
 have hg:Tryz.prog.eqGuardType Tryz.prog.depth 53 = false:=by kernel_rfl
 have C0:=hid (fun W=>inI_ok m 1 20 W)
 have C1:=hid (fun W=>in64_ok b_ 1 68719476736 W)
 have C2:=hid (fun W=>in64_ok c b_ 68719476736 W)
 have C3:=hid (fun W=>in64_ok j 0 68719476736 W)
 have HV:Hid (rtyB m b_ c j=(((m==0)&&(b_==0)&&(c==0)&&(j==0))||(inB m 1 20&&inB b_ 1 68719476736&&inB c b_ 68719476736&&inB j 0 68719476736))):=hid rfl
 generalize ((m==0)&&(b_==0)&&(c==0)&&(j==0))=z at *
 generalize inB m 1 20=b0 at *
 generalize inB b_ 1 68719476736=b1 at *
 generalize inB c b_ 68719476736=b2 at *
 generalize inB j 0 68719476736=b3 at *
 generalize rtyB m b_ c j=b at *
 have CR:=hid (fun W=>rule_dr [b0,b1,b2,b3] 4 rfl (by decide) 4 W)
 simp only [List.map_cons,List.map_nil,List.all_cons,List.all_nil,id] at CR
 have HB:=hid ((Below.refl _ w).alloc (Nat.le_refl _) (.cells #[.int .i64 m,.int .i64 b_,.int .i64 c,.int .i64 j] 53))
 cases z
 ·go_enter Tryz.func182,Tryz.ntmps182
  go_wp2_with fail
  obtain ⟨W1,hW1⟩:∃W1,W1=w.alloc (.cells #[.int .i64 m,.int .i64 b_,.int .i64 c,.int .i64 j] 53):=⟨_,rfl⟩
  rw [←hW1]
  rw [←hW1] at HB
  have hbx:Blk W1 w.heap.size 53 #[.int .i64 m,.int .i64 b_,.int .i64 c,.int .i64 j]:=by rw [hW1];exact Blk.new w _ _
  have c0:W1.cell? ⟨w.heap.size,0,none⟩=some (.int .i64 m):=hbx.cell 0
  have c1:W1.cell? ⟨w.heap.size,1,none⟩=some (.int .i64 b_):=hbx.cell 1
  have c2:W1.cell? ⟨w.heap.size,2,none⟩=some (.int .i64 c):=hbx.cell 2
  have c3:W1.cell? ⟨w.heap.size,3,none⟩=some (.int .i64 j):=hbx.cell 3
  clear hW1 hbx
  go_still_tail 14,(by kernel_rfl)
  still_call (C0.out _)
  repeat still_step
  still_call (C1.out _)
  repeat still_step
  still_call (C2.out _)
  repeat still_step
  still_call (C3.out _)
  repeat still_step
  refine wpStill_nil ?_
  change wpList _ _ _ _ _ (World.drew _)
  go_wp2_with fail
  refine (CR.out _).mono ?_
  rintro e w2 ⟨rfl,rfl⟩
  go_wp2_with fail
  go_ret
  exact ⟨ret_i64 (by rw [HV.out];congr 1;simp [Bool.and_assoc]),below_drewN (HB.out.alloc HB.out.size _) 1⟩
 ·go_enter Tryz.func182,Tryz.ntmps182
  go_wp2_with fail
  go_ret
  exact ⟨ret_i64 (by rw [HV.out];rfl),HB.out⟩
theorem cmis_ok(k e:Int)(w:World):Calls Tryz.prog 180 #[.int .i64 k,.int .i64 e] w fun r w'=>r=.returned (.int .i64 (eB (misB k e)))∧Below w.heap.size w w':=by
 have C1:=hid (fun W=>inI_ok e 1 100 W)
 have C2:=hid (fun W=>inI_ok k 0 2 W)
 have HV:Hid (misB k e=if k=3 then inB e 1 100 else inB k 0 2&&(e==0)):=hid rfl
 generalize misB k e=b at *
 generalize inB e 1 100=b1 at *
 generalize inB k 0 2=b2 at *
 have CR1:=hid (fun W=>rule_at [b1] 1 rfl (by decide) 4 W)
 have CR2:=hid (fun W=>rule_at [b2,e==0] 2 rfl (by decide) 4 W)
 simp only [List.map_cons,List.map_nil,List.all_cons,List.all_nil,id] at CR1 CR2
 by_cases h3:k=3
 ·have HR:Hid (b=b1):=hid (by rw [HV.out,if_pos h3])
  subst h3
  clear CR2 HV
  go_enter Tryz.func180,Tryz.ntmps180
  go_wp2_with fail
  refine (C1.out _).mono ?_
  rintro r w2 ⟨rfl,rfl⟩
  go_wp2_with fail
  refine (CR1.out _).mono ?_
  rintro r w3 ⟨rfl,rfl⟩
  go_wp2_with fail
  go_ret
  exact ⟨ret_i64 (by simp [HR.out]),(Below.refl _ _).alloc (Nat.le_refl _) _⟩
 ·have HR:Hid (b=(b2&&(e==0))):=hid (by rw [HV.out,if_neg h3])
  have d0:(k==3)=false:=by simpa using h3
  have d1:decide (k=3)=false:=decide_eq_false h3
  clear CR1 HV h3
  obtain ⟨b3,hb3⟩:∃b3,(e==0)=b3:=⟨_,rfl⟩
  have hb4:decide (e=0)=b3:=by rw [←hb3];rfl
  rw [hb3] at CR2 HR
  go_enter Tryz.func180,Tryz.ntmps180
  go_wp2_with fail
  refine (C2.out _).mono ?_
  rintro r w2 ⟨rfl,rfl⟩
  go_wp2_with fail
  refine (CR2.out _).mono ?_
  rintro r w3 ⟨rfl,rfl⟩
  go_wp2_with fail
  go_ret
  exact ⟨ret_i64 (by simp [HR.out]),(Below.refl _ _).alloc (Nat.le_refl _) _⟩
def ErrsAt(w:World)(g:Nat)(bs:List Bool):Prop:=∀k (hk:k<bs.length),w.cell? ⟨g,k,none⟩=some (.int .i64 (eB bs[k]))
theorem cfirst_ok(bs:List Bool)(g n c:Nat)(hn:bs.length=n)(hn9:n≤9)(w:World)(h:ErrsAt w g bs):Calls Tryz.prog 179 #[.slice (some ⟨g,0,none⟩) n c] w fun e w'=>e=.returned (.int .i64 (eB (bs.all id)))∧w'=w:=by
 have HN:=hid hn
 have HC:=hid h
 clear hn h
 go_enter Tryz.func179,Tryz.ntmps179
 go_wp2_with fail
 go_loop [3,5,8,12,16] (fun s3 _ s8 _ _=>∃k:Nat,k≤n∧s8=.int .i64 k∧s3=.int .i64 (eB ((bs.take k).all id))) (fun _ _ s8 _ _=>n - intB s8)
 case atStart=>exact ⟨0,Nat.zero_le _,rfl,rfl⟩
 case round =>
  obtain ⟨k,hk,rfl,rfl⟩:=hrel
  rcases Nat.lt_or_ge k n with hlt|hge
  ·have hkl:k<bs.length:=by have:=HN.out;omega
   have hc:=HC.out k hkl
   have HT:Hid ((bs.take (k+1)).all id=((bs.take k).all id&&bs[k])):=hid (by rw [List.take_succ_eq_append_getElem hkl,List.all_append,List.all_cons,List.all_nil,Bool.and_true];rfl)
   generalize (bs.take k).all id=q at *
   generalize bs[k]=b at *
   obtain ⟨v,hv⟩:∃v,v=eB q:=⟨_,rfl⟩
   rw [←hv]
   have HVV:=hid hv
   clear hv
   cases b
   ·have he:eB false=16:=rfl
    rw [he] at hc
    have HQ:Hid (eB ((bs.take (k+1)).all id)=16):=hid (by rw [HT.out,Bool.and_false];rfl)
    clear he
    go_wp2_with fail
    refine ⟨⟨k+1,by omega,by go_num,by rw [HQ.out]⟩,?_⟩
    simp [intB];omega
   ·have he:eB true=0:=rfl
    rw [he] at hc
    have HQ:Hid (eB ((bs.take (k+1)).all id)=v):=hid (by rw [HT.out,Bool.and_true,HVV.out])
    clear he
    go_wp2_with fail
    refine ⟨⟨k+1,by omega,by go_num,by rw [HQ.out]⟩,?_⟩
    simp [intB];omega
  ·obtain rfl:k=n:=by omega
   have HE:Hid (eB ((bs.take k).all id)=eB (bs.all id)):=hid (by rw [List.take_of_length_le (by have:=HN.out;omega)])
   generalize eB ((bs.take k).all id)=v at *
   go_wp2_with fail
   go_ret
   exact ⟨ret_i64 HE.out,rfl⟩
theorem cfirst_at(bs:List Bool)(n:Nat)(hn:bs.length=n)(hn9:n≤9)(T:TypeId)(W:World):Calls Tryz.prog 179 #[.slice (some ⟨W.heap.size,0,none⟩) n n] (W.alloc (.cells (bs.map fun b=>Value.int .i64 (eB b)).toArray T)) fun e w'=>e=.returned (.int .i64 (eB (bs.all id)))∧w'=W.alloc (.cells (bs.map fun b=>Value.int .i64 (eB b)).toArray T) :=
 cfirst_ok bs W.heap.size n n hn hn9 _ (fun k hk=>by
  rw [(Blk.new W T (bs.map fun b=>Value.int .i64 (eB b)).toArray).cell]
  simp [hk])
structure Po where
 cap:Int
 pri:Int
 spl:Int
 ddl:Int
 mis:Int
 keep:Int
 t:Int
 tau:Int
 f:Int
 o:Int
 r:Int
 m:Int
 b:Int
 c:Int
 j:Int
def poV(y:Po):Array Value:=#[.int .i64 y.cap,.int .i64 y.pri,.int .i64 y.spl,.int .i64 y.ddl,.int .i64 y.mis,.int .i64 y.keep,.int .i64 y.t,.int .i64 y.tau,.int .i64 y.f,.int .i64 y.o,.int .i64 y.r,.int .i64 y.m,.int .i64 y.b,.int .i64 y.c,.int .i64 y.j]
def flB(y:Po):Bool:=inB y.cap 1 1000&&(inB y.pri 0 100&&(inB y.spl 0 68719476736&&(inB y.ddl 0 68719476736&&true)))
def poB(y:Po):Bool:=flB y&&(misB y.mis y.keep&&(limB y.t y.tau&&(brkB y.f y.o y.r&&(rtyB y.m y.b y.c y.j&&true))))
theorem pol_ok(y:Po)(w:World):Calls Tryz.prog 169 #[.agg (poV y)] w fun e w'=>e=.returned (.int .i64 (eB (poB y)))∧Below w.heap.size w w':=by
 have C0:=hid (fun W=>inI_ok y.cap 1 1000 W)
 have C1:=hid (fun W=>inI_ok y.pri 0 100 W)
 have C2:=hid (fun W=>in64_ok y.spl 0 68719476736 W)
 have C3:=hid (fun W=>in64_ok y.ddl 0 68719476736 W)
 have C4:=hid (fun W=>cmis_ok y.mis y.keep W)
 have C5:=hid (fun W=>limit_ok y.t y.tau W)
 have C6:=hid (fun W=>cbrk_ok y.f y.o y.r W)
 have C7:=hid (fun W=>crty_ok y.m y.b y.c y.j W)
 have HV:Hid (poB y=(flB y&&(misB y.mis y.keep&&(limB y.t y.tau&&(brkB y.f y.o y.r&&(rtyB y.m y.b y.c y.j&&true)))))):=hid rfl
 have HF:Hid (flB y=(inB y.cap 1 1000&&(inB y.pri 0 100&&(inB y.spl 0 68719476736&&(inB y.ddl 0 68719476736&&true))))):=hid rfl
 generalize inB y.cap 1 1000=b0 at *
 generalize inB y.pri 0 100=b1 at *
 generalize inB y.spl 0 68719476736=b2 at *
 generalize inB y.ddl 0 68719476736=b3 at *
 generalize misB y.mis y.keep=b4 at *
 generalize limB y.t y.tau=b5 at *
 generalize brkB y.f y.o y.r=b6 at *
 generalize rtyB y.m y.b y.c y.j=b7 at *
 generalize poB y=b at *
 have CR:=hid (fun W=>rule_dr [b0,b1,b2,b3] 4 rfl (by decide) 4 W)
 generalize flB y=b8 at *
 have CF:=hid (fun W=>cfirst_at [b8,b4,b5,b6,b7] 5 rfl (by decide) 34 W)
 simp only [List.map_cons,List.map_nil,List.all_cons,List.all_nil,id] at CR CF
 rw [←HF.out] at CR
 rw [←HV.out] at CF
 clear HV HF
 unfold poV
 have HB:=hid ((Below.refl _ w).alloc (Nat.le_refl _) (.cells (poV y) 55))
 unfold poV at HB
 go_enter Tryz.func169,Tryz.ntmps169
 go_wp2_with fail
 obtain ⟨W1,hW1⟩:∃W1,W1=w.alloc (.cells #[.int .i64 y.cap,.int .i64 y.pri,.int .i64 y.spl,.int .i64 y.ddl,.int .i64 y.mis,.int .i64 y.keep,.int .i64 y.t,.int .i64 y.tau,.int .i64 y.f,.int .i64 y.o,.int .i64 y.r,.int .i64 y.m,.int .i64 y.b,.int .i64 y.c,.int .i64 y.j] 55):=⟨_,rfl⟩
 rw [←hW1]
 rw [←hW1] at HB
 have hbx:Blk W1 w.heap.size 55 (poV y):=by rw [hW1];exact Blk.new w _ _
 clear hW1
 have c0:W1.cell? ⟨w.heap.size,0,none⟩=some (.int .i64 y.cap):=hbx.cell 0
 have c1:W1.cell? ⟨w.heap.size,1,none⟩=some (.int .i64 y.pri):=hbx.cell 1
 have c2:W1.cell? ⟨w.heap.size,2,none⟩=some (.int .i64 y.spl):=hbx.cell 2
 have c3:W1.cell? ⟨w.heap.size,3,none⟩=some (.int .i64 y.ddl):=hbx.cell 3
 have c4:W1.cell? ⟨w.heap.size,4,none⟩=some (.int .i64 y.mis):=hbx.cell 4
 have c5:W1.cell? ⟨w.heap.size,5,none⟩=some (.int .i64 y.keep):=hbx.cell 5
 have c6:W1.cell? ⟨w.heap.size,6,none⟩=some (.int .i64 y.t):=hbx.cell 6
 have c7:W1.cell? ⟨w.heap.size,7,none⟩=some (.int .i64 y.tau):=hbx.cell 7
 have c8:W1.cell? ⟨w.heap.size,8,none⟩=some (.int .i64 y.f):=hbx.cell 8
 have c9:W1.cell? ⟨w.heap.size,9,none⟩=some (.int .i64 y.o):=hbx.cell 9
 have c10:W1.cell? ⟨w.heap.size,10,none⟩=some (.int .i64 y.r):=hbx.cell 10
 have c11:W1.cell? ⟨w.heap.size,11,none⟩=some (.int .i64 y.m):=hbx.cell 11
 have c12:W1.cell? ⟨w.heap.size,12,none⟩=some (.int .i64 y.b):=hbx.cell 12
 have c13:W1.cell? ⟨w.heap.size,13,none⟩=some (.int .i64 y.c):=hbx.cell 13
 have c14:W1.cell? ⟨w.heap.size,14,none⟩=some (.int .i64 y.j):=hbx.cell 14
 go_still_tail 12,(by kernel_rfl)
 still_call (C0.out _)
 repeat still_step
 still_call (C1.out _)
 repeat still_step
 still_call (C2.out _)
 repeat still_step
 still_call (C3.out _)
 repeat still_step
 refine wpStill_nil ?_
 change wpList _ _ _ _ _ (World.drew _)
 go_wp2_with fail
 refine (CR.out _).mono ?_
 rintro e w2 ⟨rfl,rfl⟩
 obtain ⟨W2,hW2⟩:∃W2,W2=(W1.alloc (.cells #[.bool b0,.bool b1,.bool b2,.bool b3] 4)).drew:=⟨_,rfl⟩
 rw [←hW2]
 have hbx:Blk W2 w.heap.size 55 (poV y):=by rw [hW2];exact (hbx.alloc _).drew
 have HB:=hid (show Below w.heap.size w W2 by rw [hW2];exact below_drewN (HB.out.alloc HB.out.size _) 1)
 clear hW2 c0 c1 c2 c3 c4 c5 c6 c7 c8 c9 c10 c11 c12 c13 c14 CR C0 C1 C2 C3
 have c0:=cell_regrown (show W2.cell? ⟨w.heap.size,0,none⟩=some (.int .i64 y.cap) from hbx.cell 0)
 have c1:=cell_regrown (show W2.cell? ⟨w.heap.size,1,none⟩=some (.int .i64 y.pri) from hbx.cell 1)
 have c2:=cell_regrown (show W2.cell? ⟨w.heap.size,2,none⟩=some (.int .i64 y.spl) from hbx.cell 2)
 have c3:=cell_regrown (show W2.cell? ⟨w.heap.size,3,none⟩=some (.int .i64 y.ddl) from hbx.cell 3)
 have c4:=cell_regrown (show W2.cell? ⟨w.heap.size,4,none⟩=some (.int .i64 y.mis) from hbx.cell 4)
 have c5:=cell_regrown (show W2.cell? ⟨w.heap.size,5,none⟩=some (.int .i64 y.keep) from hbx.cell 5)
 have c6:=cell_regrown (show W2.cell? ⟨w.heap.size,6,none⟩=some (.int .i64 y.t) from hbx.cell 6)
 have c7:=cell_regrown (show W2.cell? ⟨w.heap.size,7,none⟩=some (.int .i64 y.tau) from hbx.cell 7)
 have c8:=cell_regrown (show W2.cell? ⟨w.heap.size,8,none⟩=some (.int .i64 y.f) from hbx.cell 8)
 have c9:=cell_regrown (show W2.cell? ⟨w.heap.size,9,none⟩=some (.int .i64 y.o) from hbx.cell 9)
 have c10:=cell_regrown (show W2.cell? ⟨w.heap.size,10,none⟩=some (.int .i64 y.r) from hbx.cell 10)
 have c11:=cell_regrown (show W2.cell? ⟨w.heap.size,11,none⟩=some (.int .i64 y.m) from hbx.cell 11)
 have c12:=cell_regrown (show W2.cell? ⟨w.heap.size,12,none⟩=some (.int .i64 y.b) from hbx.cell 12)
 have c13:=cell_regrown (show W2.cell? ⟨w.heap.size,13,none⟩=some (.int .i64 y.c) from hbx.cell 13)
 have c14:=cell_regrown (show W2.cell? ⟨w.heap.size,14,none⟩=some (.int .i64 y.j) from hbx.cell 14)
 have D4:=hid (fun d os=>Calls.regrown_of (C4.out (Sort.grow (redrawn W2 d) os)))
 have D5:=hid (fun d os=>Calls.regrown_of (C5.out (Sort.grow (redrawn W2 d) os)))
 have D6:=hid (fun d os=>Calls.regrown_of (C6.out (Sort.grow (redrawn W2 d) os)))
 have D7:=hid (fun d os=>Calls.regrown_of (C7.out (Sort.grow (redrawn W2 d) os)))
 clear hbx C4 C5 C6 C7
 go_wp2_with fail
 refine RK.wp_region_quiet_tail _ 15 _ (by rfl) (by kernel_rfl) (by kernel_rfl) (by kernel_rfl) (by kernel_rfl) (by kernel_rfl) (by kernel_rfl) (by kernel_rfl) ?_
 dsimp only [List.take_succ_cons,List.take_zero]
 repeat (go_big_quiet_step (fail))
 go_big_quiet_step ((go_at_call 180;exact D4.out _ _))
 repeat (go_big_quiet_step (fail))
 go_big_quiet_step ((go_at_call 163;exact D5.out _ _))
 repeat (go_big_quiet_step (fail))
 go_big_quiet_step ((go_at_call 181;exact D6.out _ _))
 repeat (go_big_quiet_step (fail))
 go_big_quiet_step ((go_at_call 182;exact D7.out _ _))
 repeat (go_big_quiet_step (fail))
 refine wpQuiet_nil ?_
 intro _ hw'
 obtain ⟨⟨dq,osq⟩,hw''⟩:=hw'
 subst hw''
 have HBG:=hid (HB.out.trans ((below_regrown W2 dq osq).mono HB.out.size))
 clear c0 c1 c2 c3 c4 c5 c6 c7 c8 c9 c10 c11 c12 c13 c14 D4 D5 D6 D7
 generalize Sort.grow (redrawn W2 dq) osq=Wg at *
 go_wp2_with fail
 refine (CF.out _).mono ?_
 rintro e w3 ⟨rfl,rfl⟩
 go_wp2_with fail
 go_ret
 exact ⟨rfl,HBG.out.alloc HBG.out.size _⟩
theorem rin_ok(n lo hi:Int)(w:World):Calls Tryz.prog 154 #[.int .i64 n,.int .i64 lo,.int .i64 hi] w fun e w'=>e=.returned (.bool (inB n lo hi))∧w'=w:=by
 unfold inB
 by_cases h1:lo≤n
 ·go_enter Tryz.func154,Tryz.ntmps154
  go_wp2
  go_ret
  exact ⟨ret_bool (by simp;omega),rfl⟩
 ·go_enter Tryz.func154,Tryz.ntmps154
  go_wp2
  go_ret
  exact ⟨ret_bool (by simp;omega),rfl⟩
theorem rlimit_ok(t tau:Int)(w:World):Calls Tryz.prog 149 #[.agg #[.int .i64 t,.int .i64 tau]] w fun e w'=>e=.returned (.int .i64 (eB (limB t tau)))∧Below w.heap.size w w':=by
 have C1:=hid (fun W=>rin_ok t 0 68719476736 W)
 have C2:=hid (fun W=>rin_ok tau 0 68719476736 W)
 have HV:Hid (limB t tau=(inB t 0 68719476736&&inB tau 0 68719476736&&(decide (0<t)||tau==0))):=hid rfl
 have HP:Hid (inB t 0 68719476736=true→0≤t):=hid (fun h=>by unfold inB at h;simp at h;omega)
 generalize inB t 0 68719476736=b1 at *
 generalize inB tau 0 68719476736=b2 at *
 generalize limB t tau=b at *
 have HB:=hid ((Below.refl _ w).alloc (Nat.le_refl _) (.cells #[.int .i64 t,.int .i64 tau] 26))
 cases b1
 ·have HR:Hid (b=false):=hid (by rw [HV.out];simp)
  clear HV HP
  go_enter Tryz.func149,Tryz.ntmps149
  go_wp2_with fail
  refine (C1.out _).mono ?_
  rintro r_ w1' ⟨rfl,rfl⟩
  go_wp2_with fail
  go_ret
  exact ⟨ret_i64 (by rw [HR.out];rfl),HB.out⟩
 ·cases b2
  ·have HR:Hid (b=false):=hid (by rw [HV.out];simp)
   clear HV HP
   go_enter Tryz.func149,Tryz.ntmps149
   go_wp2_with fail
   refine (C1.out _).mono ?_
   rintro r_ w1' ⟨rfl,rfl⟩
   go_wp2_with fail
   refine (C2.out _).mono ?_
   rintro r_ w2' ⟨rfl,rfl⟩
   go_wp2_with fail
   go_ret
   exact ⟨ret_i64 (by rw [HR.out];rfl),HB.out⟩
  ·have h0:0≤t:=HP.out rfl
   by_cases ht:t=0
   ·by_cases hu:tau=0
    ·have HR:Hid (b=true):=hid (by rw [HV.out,hu];simp)
     subst ht hu
     clear HV HP h0
     go_enter Tryz.func149,Tryz.ntmps149
     go_wp2_with fail
     refine (C1.out _).mono ?_
     rintro r_ w1' ⟨rfl,rfl⟩
     go_wp2_with fail
     refine (C2.out _).mono ?_
     rintro r_ w2' ⟨rfl,rfl⟩
     go_wp2_with fail
     go_ret
     exact ⟨ret_i64 (by rw [HR.out];rfl),HB.out⟩
    ·have HR:Hid (b=false):=hid (by rw [HV.out,ht];simp [hu])
     have d1:(tau==0)=false:=by simpa using hu
     have d2:(tau != 0)=true:=by rw [bne,d1];rfl
     subst ht
     clear HV HP h0 hu
     go_enter Tryz.func149,Tryz.ntmps149
     go_wp2_with fail
     refine (C1.out _).mono ?_
     rintro r_ w1' ⟨rfl,rfl⟩
     go_wp2_with fail
     refine (C2.out _).mono ?_
     rintro r_ w2' ⟨rfl,rfl⟩
     go_wp2_with fail
     go_ret
     exact ⟨ret_i64 (by rw [HR.out];rfl),HB.out⟩
   ·have HR:Hid (b=true):=hid (by rw [HV.out,decide_eq_true (show 0<t by omega)];simp)
    have d1:(t==0)=false:=by simpa using ht
    have d3:decide (t=0)=false:=decide_eq_false ht
    clear HV HP h0 ht
    go_enter Tryz.func149,Tryz.ntmps149
    go_wp2_with fail
    refine (C1.out _).mono ?_
    rintro r_ w1' ⟨rfl,rfl⟩
    go_wp2_with fail
    refine (C2.out _).mono ?_
    rintro r_ w2' ⟨rfl,rfl⟩
    go_wp2_with fail
    go_ret
    exact ⟨ret_i64 (by rw [HR.out];rfl),HB.out⟩
theorem rbrk_ok(f u r:Int)(w:World):Calls Tryz.prog 156 #[.agg #[.int .i64 f,.int .i64 u,.int .i64 r]] w fun e w'=>e=.returned (.int .i64 (eB (brkB f u r)))∧Below w.heap.size w w':=by
 have EQ:=fun w=>brk_run f u r 0 0 0 w
 have hg:Tryz.prog.eqGuardType Tryz.prog.depth 51 = false:=by kernel_rfl
 have C0:=hid (fun W=>rin_ok f 1 100 W)
 have C1:=hid (fun W=>rin_ok u 1 68719476736 W)
 have C2:=hid (fun W=>rin_ok r 1 100 W)
 have HV:Hid (brkB f u r=(((f==0)&&(u==0)&&(r==0))||(inB f 1 100&&inB u 1 68719476736&&inB r 1 100))):=hid rfl
 generalize ((f==0)&&(u==0)&&(r==0))=z at *
 generalize inB f 1 100=b0 at *
 generalize inB u 1 68719476736=b1 at *
 generalize inB r 1 100=b2 at *
 generalize brkB f u r=b at *
 have HB:=hid ((Below.refl _ w).alloc (Nat.le_refl _) (.cells #[.int .i64 f,.int .i64 u,.int .i64 r] 51))
 cases z
 ·cases b0
  ·have HR:Hid (b=false):=hid (by rw [HV.out];simp)
   clear HV
   go_enter Tryz.func156,Tryz.ntmps156
   go_wp2_with fail
   refine (C0.out _).mono ?_
   rintro r_ w0' ⟨rfl,rfl⟩
   go_wp2_with fail
   go_ret
   exact ⟨ret_i64 (by rw [HR.out];rfl),HB.out⟩
  ·cases b1
   ·have HR:Hid (b=false):=hid (by rw [HV.out];simp)
    clear HV
    go_enter Tryz.func156,Tryz.ntmps156
    go_wp2_with fail
    refine (C0.out _).mono ?_
    rintro r_ w0' ⟨rfl,rfl⟩
    go_wp2_with fail
    refine (C1.out _).mono ?_
    rintro r_ w1' ⟨rfl,rfl⟩
    go_wp2_with fail
    go_ret
    exact ⟨ret_i64 (by rw [HR.out];rfl),HB.out⟩
   ·cases b2
    ·have HR:Hid (b=false):=hid (by rw [HV.out];simp)
     clear HV
     go_enter Tryz.func156,Tryz.ntmps156
     go_wp2_with fail
     refine (C0.out _).mono ?_
     rintro r_ w0' ⟨rfl,rfl⟩
     go_wp2_with fail
     refine (C1.out _).mono ?_
     rintro r_ w1' ⟨rfl,rfl⟩
     go_wp2_with fail
     refine (C2.out _).mono ?_
     rintro r_ w2' ⟨rfl,rfl⟩
     go_wp2_with fail
     go_ret
     exact ⟨ret_i64 (by rw [HR.out];rfl),HB.out⟩
    ·have HR:Hid (b=true):=hid (by rw [HV.out];rfl)
     clear HV
     go_enter Tryz.func156,Tryz.ntmps156
     go_wp2_with fail
     refine (C0.out _).mono ?_
     rintro r_ w0' ⟨rfl,rfl⟩
     go_wp2_with fail
     refine (C1.out _).mono ?_
     rintro r_ w1' ⟨rfl,rfl⟩
     go_wp2_with fail
     refine (C2.out _).mono ?_
     rintro r_ w2' ⟨rfl,rfl⟩
     go_wp2_with fail
     go_ret
     exact ⟨ret_i64 (by rw [HR.out];rfl),HB.out⟩
 ·have HR:Hid (b=true):=hid (by rw [HV.out];rfl)
  clear HV
  go_enter Tryz.func156,Tryz.ntmps156
  go_wp2_with fail
  go_ret
  exact ⟨ret_i64 (by rw [HR.out];rfl),HB.out⟩
theorem rrty_ok(m b_ c j:Int)(w:World):Calls Tryz.prog 157 #[.agg #[.int .i64 m,.int .i64 b_,.int .i64 c,.int .i64 j]] w fun e w'=>e=.returned (.int .i64 (eB (rtyB m b_ c j)))∧Below w.heap.size w w':=by
 have EQ:=fun w=>rty_run m b_ c j 0 0 0 0 w
 have hg:Tryz.prog.eqGuardType Tryz.prog.depth 53 = false:=by kernel_rfl
 have C0:=hid (fun W=>rin_ok m 1 20 W)
 have C1:=hid (fun W=>rin_ok b_ 1 68719476736 W)
 have C2:=hid (fun W=>rin_ok c b_ 68719476736 W)
 have C3:=hid (fun W=>rin_ok j 0 68719476736 W)
 have HV:Hid (rtyB m b_ c j=(((m==0)&&(b_==0)&&(c==0)&&(j==0))||(inB m 1 20&&inB b_ 1 68719476736&&inB c b_ 68719476736&&inB j 0 68719476736))):=hid rfl
 generalize ((m==0)&&(b_==0)&&(c==0)&&(j==0))=z at *
 generalize inB m 1 20=b0 at *
 generalize inB b_ 1 68719476736=b1 at *
 generalize inB c b_ 68719476736=b2 at *
 generalize inB j 0 68719476736=b3 at *
 generalize rtyB m b_ c j=b at *
 have HB:=hid ((Below.refl _ w).alloc (Nat.le_refl _) (.cells #[.int .i64 m,.int .i64 b_,.int .i64 c,.int .i64 j] 53))
 cases z
 ·cases b0
  ·have HR:Hid (b=false):=hid (by rw [HV.out];simp)
   clear HV
   go_enter Tryz.func157,Tryz.ntmps157
   go_wp2_with fail
   refine (C0.out _).mono ?_
   rintro r_ w0' ⟨rfl,rfl⟩
   go_wp2_with fail
   go_ret
   exact ⟨ret_i64 (by rw [HR.out];rfl),HB.out⟩
  ·cases b1
   ·have HR:Hid (b=false):=hid (by rw [HV.out];simp)
    clear HV
    go_enter Tryz.func157,Tryz.ntmps157
    go_wp2_with fail
    refine (C0.out _).mono ?_
    rintro r_ w0' ⟨rfl,rfl⟩
    go_wp2_with fail
    refine (C1.out _).mono ?_
    rintro r_ w1' ⟨rfl,rfl⟩
    go_wp2_with fail
    go_ret
    exact ⟨ret_i64 (by rw [HR.out];rfl),HB.out⟩
   ·cases b2
    ·have HR:Hid (b=false):=hid (by rw [HV.out];simp)
     clear HV
     go_enter Tryz.func157,Tryz.ntmps157
     go_wp2_with fail
     refine (C0.out _).mono ?_
     rintro r_ w0' ⟨rfl,rfl⟩
     go_wp2_with fail
     refine (C1.out _).mono ?_
     rintro r_ w1' ⟨rfl,rfl⟩
     go_wp2_with fail
     refine (C2.out _).mono ?_
     rintro r_ w2' ⟨rfl,rfl⟩
     go_wp2_with fail
     go_ret
     exact ⟨ret_i64 (by rw [HR.out];rfl),HB.out⟩
    ·cases b3
     ·have HR:Hid (b=false):=hid (by rw [HV.out];simp)
      clear HV
      go_enter Tryz.func157,Tryz.ntmps157
      go_wp2_with fail
      refine (C0.out _).mono ?_
      rintro r_ w0' ⟨rfl,rfl⟩
      go_wp2_with fail
      refine (C1.out _).mono ?_
      rintro r_ w1' ⟨rfl,rfl⟩
      go_wp2_with fail
      refine (C2.out _).mono ?_
      rintro r_ w2' ⟨rfl,rfl⟩
      go_wp2_with fail
      refine (C3.out _).mono ?_
      rintro r_ w3' ⟨rfl,rfl⟩
      go_wp2_with fail
      go_ret
      exact ⟨ret_i64 (by rw [HR.out];rfl),HB.out⟩
     ·have HR:Hid (b=true):=hid (by rw [HV.out];rfl)
      clear HV
      go_enter Tryz.func157,Tryz.ntmps157
      go_wp2_with fail
      refine (C0.out _).mono ?_
      rintro r_ w0' ⟨rfl,rfl⟩
      go_wp2_with fail
      refine (C1.out _).mono ?_
      rintro r_ w1' ⟨rfl,rfl⟩
      go_wp2_with fail
      refine (C2.out _).mono ?_
      rintro r_ w2' ⟨rfl,rfl⟩
      go_wp2_with fail
      refine (C3.out _).mono ?_
      rintro r_ w3' ⟨rfl,rfl⟩
      go_wp2_with fail
      go_ret
      exact ⟨ret_i64 (by rw [HR.out];rfl),HB.out⟩
 ·have HR:Hid (b=true):=hid (by rw [HV.out];rfl)
  clear HV
  go_enter Tryz.func157,Tryz.ntmps157
  go_wp2_with fail
  go_ret
  exact ⟨ret_i64 (by rw [HR.out];rfl),HB.out⟩
theorem rmis_ok(k e:Int)(w:World):Calls Tryz.prog 155 #[.int .i64 k,.int .i64 e] w fun r w'=>r=.returned (.int .i64 (eB (misB k e)))∧Below w.heap.size w w':=by
 have C1:=hid (fun W=>rin_ok e 1 100 W)
 have HV:Hid (misB k e=if k=3 then inB e 1 100 else (decide (0≤k)&&decide (k≤2))&&(e==0)):=hid rfl
 generalize misB k e=b at *
 generalize inB e 1 100=b1 at *
 by_cases h0:k<0
 ·have d0:decide (k<0)=true:=decide_eq_true h0
  have HR:Hid (b=false):=hid (by rw [HV.out,if_neg (by omega),decide_eq_false (by omega)];rfl)
  clear HV h0
  go_enter Tryz.func155,Tryz.ntmps155
  go_wp2_with fail
  go_ret
  exact ⟨ret_i64 (by rw [HR.out];rfl),Below.refl _ _⟩
 ·have d0:decide (k<0)=false:=decide_eq_false h0
  by_cases h1:3<k
  ·have d1:decide (3<k)=true:=decide_eq_true h1
   have HR:Hid (b=false):=hid (by rw [HV.out,if_neg (by omega),decide_eq_false (show ¬k≤2 by omega)];simp)
   clear HV h0 h1
   go_enter Tryz.func155,Tryz.ntmps155
   go_wp2_with fail
   go_ret
   exact ⟨ret_i64 (by rw [HR.out];rfl),Below.refl _ _⟩
  ·have d1:decide (3<k)=false:=decide_eq_false h1
   by_cases h3:k=3
   ·have HR:Hid (b=b1):=hid (by rw [HV.out,if_pos h3])
    subst h3
    clear HV h0 h1 d0 d1
    cases b1
    ·skip
     go_enter Tryz.func155,Tryz.ntmps155
     go_wp2_with fail
     refine (C1.out _).mono ?_
     rintro r_ w1' ⟨rfl,rfl⟩
     go_wp2_with fail
     go_ret
     exact ⟨ret_i64 (by rw [HR.out];rfl),Below.refl _ _⟩
    ·skip
     go_enter Tryz.func155,Tryz.ntmps155
     go_wp2_with fail
     refine (C1.out _).mono ?_
     rintro r_ w1' ⟨rfl,rfl⟩
     go_wp2_with fail
     go_ret
     exact ⟨ret_i64 (by rw [HR.out];rfl),Below.refl _ _⟩
   ·have d2:decide (k=3)=false:=decide_eq_false h3
    have d3:(k==3)=false:=by simpa using h3
    have d4:(k != 3)=true:=by rw [bne,d3];rfl
    have HR:Hid (b=(e==0)):=hid (by rw [HV.out,if_neg h3,decide_eq_true (show 0≤k by omega),decide_eq_true (show k≤2 by omega)];simp)
    clear HV h0 h1 h3
    by_cases he:e=0
    ·subst he
     go_enter Tryz.func155,Tryz.ntmps155
     go_wp2_with fail
     go_ret
     exact ⟨ret_i64 (by rw [HR.out];rfl),Below.refl _ _⟩
    ·have f1:(e==0)=false:=by simpa using he
     have f2:(e != 0)=true:=by rw [bne,f1];rfl
     have HR2:Hid (b=false):=hid (by rw [HR.out,f1])
     clear HR he
     go_enter Tryz.func155,Tryz.ntmps155
     go_wp2_with fail
     go_ret
     exact ⟨ret_i64 (by rw [HR2.out];rfl),Below.refl _ _⟩
theorem rpol_ok(y:Po)(w:World):Calls Tryz.prog 124 #[.agg (poV y)] w fun e w'=>e=.returned (.int .i64 (eB (poB y)))∧Below w.heap.size w w':=by
 have C0:=hid (fun W=>rin_ok y.cap 1 1000 W)
 have C1:=hid (fun W=>rin_ok y.pri 0 100 W)
 have C2:=hid (fun W=>rin_ok y.spl 0 68719476736 W)
 have C3:=hid (fun W=>rin_ok y.ddl 0 68719476736 W)
 have C4:=hid (fun W=>rmis_ok y.mis y.keep W)
 have C5:=hid (fun W=>rlimit_ok y.t y.tau W)
 have C6:=hid (fun W=>rbrk_ok y.f y.o y.r W)
 have C7:=hid (fun W=>rrty_ok y.m y.b y.c y.j W)
 have HV:Hid (poB y=((inB y.cap 1 1000&&(inB y.pri 0 100&&(inB y.spl 0 68719476736&&(inB y.ddl 0 68719476736&&true))))&&(misB y.mis y.keep&&(limB y.t y.tau&&(brkB y.f y.o y.r&&(rtyB y.m y.b y.c y.j&&true)))))):=hid rfl
 generalize inB y.cap 1 1000=b0 at *
 generalize inB y.pri 0 100=b1 at *
 generalize inB y.spl 0 68719476736=b2 at *
 generalize inB y.ddl 0 68719476736=b3 at *
 generalize misB y.mis y.keep=b4 at *
 generalize limB y.t y.tau=b5 at *
 generalize brkB y.f y.o y.r=b6 at *
 generalize rtyB y.m y.b y.c y.j=b7 at *
 generalize poB y=b at *
 have HX:=hid (Blk.new w 55 (poV y))
 have HB:=hid ((Below.refl _ w).alloc (Nat.le_refl _) (.cells (poV y) 55))
 unfold poV at HX HB ⊢
 cases b0
 ·have HR:Hid (b=false):=hid (by rw [HV.out];simp)
  clear HV
  go_enter Tryz.func124,Tryz.ntmps124
  go_wp2_with fail
  refine (C0.out _).mono ?_
  rintro r_ w0' ⟨rfl,rfl⟩
  go_wp2_with fail
  go_ret
  exact ⟨ret_i64 (by rw [HR.out];rfl),HB.out⟩
 ·cases b1
  ·have HR:Hid (b=false):=hid (by rw [HV.out];simp)
   clear HV
   go_enter Tryz.func124,Tryz.ntmps124
   go_wp2_with fail
   refine (C0.out _).mono ?_
   rintro r_ w0' ⟨rfl,rfl⟩
   go_wp2_with fail
   refine (C1.out _).mono ?_
   rintro r_ w1' ⟨rfl,rfl⟩
   go_wp2_with fail
   go_ret
   exact ⟨ret_i64 (by rw [HR.out];rfl),HB.out⟩
  ·cases b2
   ·have HR:Hid (b=false):=hid (by rw [HV.out];simp)
    clear HV
    go_enter Tryz.func124,Tryz.ntmps124
    go_wp2_with fail
    refine (C0.out _).mono ?_
    rintro r_ w0' ⟨rfl,rfl⟩
    go_wp2_with fail
    refine (C1.out _).mono ?_
    rintro r_ w1' ⟨rfl,rfl⟩
    go_wp2_with fail
    refine (C2.out _).mono ?_
    rintro r_ w2' ⟨rfl,rfl⟩
    go_wp2_with fail
    go_ret
    exact ⟨ret_i64 (by rw [HR.out];rfl),HB.out⟩
   ·cases b3
    ·have HR:Hid (b=false):=hid (by rw [HV.out];simp)
     clear HV
     go_enter Tryz.func124,Tryz.ntmps124
     go_wp2_with fail
     refine (C0.out _).mono ?_
     rintro r_ w0' ⟨rfl,rfl⟩
     go_wp2_with fail
     refine (C1.out _).mono ?_
     rintro r_ w1' ⟨rfl,rfl⟩
     go_wp2_with fail
     refine (C2.out _).mono ?_
     rintro r_ w2' ⟨rfl,rfl⟩
     go_wp2_with fail
     refine (C3.out _).mono ?_
     rintro r_ w3' ⟨rfl,rfl⟩
     go_wp2_with fail
     go_ret
     exact ⟨ret_i64 (by rw [HR.out];rfl),HB.out⟩
    ·cases b4
     ·have HR:Hid (b=false):=hid (by rw [HV.out];simp)
      clear HV
      go_enter Tryz.func124,Tryz.ntmps124
      go_wp2_with fail
      refine (C0.out _).mono ?_
      rintro r_ w0' ⟨rfl,rfl⟩
      go_wp2_with fail
      refine (C1.out _).mono ?_
      rintro r_ w1' ⟨rfl,rfl⟩
      go_wp2_with fail
      refine (C2.out _).mono ?_
      rintro r_ w2' ⟨rfl,rfl⟩
      go_wp2_with fail
      refine (C3.out _).mono ?_
      rintro r_ w3' ⟨rfl,rfl⟩
      go_wp2_with fail
      obtain ⟨W1,hW1⟩:∃W1,W1=w.alloc (.cells #[.int .i64 y.cap,.int .i64 y.pri,.int .i64 y.spl,.int .i64 y.ddl,.int .i64 y.mis,.int .i64 y.keep,.int .i64 y.t,.int .i64 y.tau,.int .i64 y.f,.int .i64 y.o,.int .i64 y.r,.int .i64 y.m,.int .i64 y.b,.int .i64 y.c,.int .i64 y.j] 55):=⟨_,rfl⟩
      rw [←hW1]
      rw [←hW1] at HB HX
      clear hW1
      have k4:W1.cell? ⟨w.heap.size,4,none⟩=some (.int .i64 y.mis):=HX.out.cell 4
      have k5:W1.cell? ⟨w.heap.size,5,none⟩=some (.int .i64 y.keep):=HX.out.cell 5
      have k6:W1.cell? ⟨w.heap.size,6,none⟩=some (.int .i64 y.t):=HX.out.cell 6
      have k7:W1.cell? ⟨w.heap.size,7,none⟩=some (.int .i64 y.tau):=HX.out.cell 7
      have k8:W1.cell? ⟨w.heap.size,8,none⟩=some (.int .i64 y.f):=HX.out.cell 8
      have k9:W1.cell? ⟨w.heap.size,9,none⟩=some (.int .i64 y.o):=HX.out.cell 9
      have k10:W1.cell? ⟨w.heap.size,10,none⟩=some (.int .i64 y.r):=HX.out.cell 10
      have k11:W1.cell? ⟨w.heap.size,11,none⟩=some (.int .i64 y.m):=HX.out.cell 11
      have k12:W1.cell? ⟨w.heap.size,12,none⟩=some (.int .i64 y.b):=HX.out.cell 12
      have k13:W1.cell? ⟨w.heap.size,13,none⟩=some (.int .i64 y.c):=HX.out.cell 13
      have k14:W1.cell? ⟨w.heap.size,14,none⟩=some (.int .i64 y.j):=HX.out.cell 14
      refine (C4.out _).mono ?_
      rintro r_ w4 ⟨rfl,hb⟩
      have HX4:=hid (HX.out.below hb HX.out.lt)
      have HB4:=hid (HB.out.trans (hb.mono HB.out.size))
      clear hb
      have k4:w4.cell? ⟨w.heap.size,4,none⟩=some (.int .i64 y.mis):=HX4.out.cell 4
      have k5:w4.cell? ⟨w.heap.size,5,none⟩=some (.int .i64 y.keep):=HX4.out.cell 5
      have k6:w4.cell? ⟨w.heap.size,6,none⟩=some (.int .i64 y.t):=HX4.out.cell 6
      have k7:w4.cell? ⟨w.heap.size,7,none⟩=some (.int .i64 y.tau):=HX4.out.cell 7
      have k8:w4.cell? ⟨w.heap.size,8,none⟩=some (.int .i64 y.f):=HX4.out.cell 8
      have k9:w4.cell? ⟨w.heap.size,9,none⟩=some (.int .i64 y.o):=HX4.out.cell 9
      have k10:w4.cell? ⟨w.heap.size,10,none⟩=some (.int .i64 y.r):=HX4.out.cell 10
      have k11:w4.cell? ⟨w.heap.size,11,none⟩=some (.int .i64 y.m):=HX4.out.cell 11
      have k12:w4.cell? ⟨w.heap.size,12,none⟩=some (.int .i64 y.b):=HX4.out.cell 12
      have k13:w4.cell? ⟨w.heap.size,13,none⟩=some (.int .i64 y.c):=HX4.out.cell 13
      have k14:w4.cell? ⟨w.heap.size,14,none⟩=some (.int .i64 y.j):=HX4.out.cell 14
      go_wp2_with fail
      go_ret
      exact ⟨ret_i64 (by rw [HR.out];rfl),HB4.out⟩
     ·cases b5
      ·have HR:Hid (b=false):=hid (by rw [HV.out];simp)
       clear HV
       go_enter Tryz.func124,Tryz.ntmps124
       go_wp2_with fail
       refine (C0.out _).mono ?_
       rintro r_ w0' ⟨rfl,rfl⟩
       go_wp2_with fail
       refine (C1.out _).mono ?_
       rintro r_ w1' ⟨rfl,rfl⟩
       go_wp2_with fail
       refine (C2.out _).mono ?_
       rintro r_ w2' ⟨rfl,rfl⟩
       go_wp2_with fail
       refine (C3.out _).mono ?_
       rintro r_ w3' ⟨rfl,rfl⟩
       go_wp2_with fail
       obtain ⟨W1,hW1⟩:∃W1,W1=w.alloc (.cells #[.int .i64 y.cap,.int .i64 y.pri,.int .i64 y.spl,.int .i64 y.ddl,.int .i64 y.mis,.int .i64 y.keep,.int .i64 y.t,.int .i64 y.tau,.int .i64 y.f,.int .i64 y.o,.int .i64 y.r,.int .i64 y.m,.int .i64 y.b,.int .i64 y.c,.int .i64 y.j] 55):=⟨_,rfl⟩
       rw [←hW1]
       rw [←hW1] at HB HX
       clear hW1
       have k4:W1.cell? ⟨w.heap.size,4,none⟩=some (.int .i64 y.mis):=HX.out.cell 4
       have k5:W1.cell? ⟨w.heap.size,5,none⟩=some (.int .i64 y.keep):=HX.out.cell 5
       have k6:W1.cell? ⟨w.heap.size,6,none⟩=some (.int .i64 y.t):=HX.out.cell 6
       have k7:W1.cell? ⟨w.heap.size,7,none⟩=some (.int .i64 y.tau):=HX.out.cell 7
       have k8:W1.cell? ⟨w.heap.size,8,none⟩=some (.int .i64 y.f):=HX.out.cell 8
       have k9:W1.cell? ⟨w.heap.size,9,none⟩=some (.int .i64 y.o):=HX.out.cell 9
       have k10:W1.cell? ⟨w.heap.size,10,none⟩=some (.int .i64 y.r):=HX.out.cell 10
       have k11:W1.cell? ⟨w.heap.size,11,none⟩=some (.int .i64 y.m):=HX.out.cell 11
       have k12:W1.cell? ⟨w.heap.size,12,none⟩=some (.int .i64 y.b):=HX.out.cell 12
       have k13:W1.cell? ⟨w.heap.size,13,none⟩=some (.int .i64 y.c):=HX.out.cell 13
       have k14:W1.cell? ⟨w.heap.size,14,none⟩=some (.int .i64 y.j):=HX.out.cell 14
       refine (C4.out _).mono ?_
       rintro r_ w4 ⟨rfl,hb⟩
       have HX4:=hid (HX.out.below hb HX.out.lt)
       have HB4:=hid (HB.out.trans (hb.mono HB.out.size))
       clear hb
       have k4:w4.cell? ⟨w.heap.size,4,none⟩=some (.int .i64 y.mis):=HX4.out.cell 4
       have k5:w4.cell? ⟨w.heap.size,5,none⟩=some (.int .i64 y.keep):=HX4.out.cell 5
       have k6:w4.cell? ⟨w.heap.size,6,none⟩=some (.int .i64 y.t):=HX4.out.cell 6
       have k7:w4.cell? ⟨w.heap.size,7,none⟩=some (.int .i64 y.tau):=HX4.out.cell 7
       have k8:w4.cell? ⟨w.heap.size,8,none⟩=some (.int .i64 y.f):=HX4.out.cell 8
       have k9:w4.cell? ⟨w.heap.size,9,none⟩=some (.int .i64 y.o):=HX4.out.cell 9
       have k10:w4.cell? ⟨w.heap.size,10,none⟩=some (.int .i64 y.r):=HX4.out.cell 10
       have k11:w4.cell? ⟨w.heap.size,11,none⟩=some (.int .i64 y.m):=HX4.out.cell 11
       have k12:w4.cell? ⟨w.heap.size,12,none⟩=some (.int .i64 y.b):=HX4.out.cell 12
       have k13:w4.cell? ⟨w.heap.size,13,none⟩=some (.int .i64 y.c):=HX4.out.cell 13
       have k14:w4.cell? ⟨w.heap.size,14,none⟩=some (.int .i64 y.j):=HX4.out.cell 14
       go_wp2_with fail
       refine (C5.out _).mono ?_
       rintro r_ w5 ⟨rfl,hb⟩
       have HX5:=hid (HX4.out.below hb HX4.out.lt)
       have HB5:=hid (HB4.out.trans (hb.mono HB4.out.size))
       clear hb
       have k4:w5.cell? ⟨w.heap.size,4,none⟩=some (.int .i64 y.mis):=HX5.out.cell 4
       have k5:w5.cell? ⟨w.heap.size,5,none⟩=some (.int .i64 y.keep):=HX5.out.cell 5
       have k6:w5.cell? ⟨w.heap.size,6,none⟩=some (.int .i64 y.t):=HX5.out.cell 6
       have k7:w5.cell? ⟨w.heap.size,7,none⟩=some (.int .i64 y.tau):=HX5.out.cell 7
       have k8:w5.cell? ⟨w.heap.size,8,none⟩=some (.int .i64 y.f):=HX5.out.cell 8
       have k9:w5.cell? ⟨w.heap.size,9,none⟩=some (.int .i64 y.o):=HX5.out.cell 9
       have k10:w5.cell? ⟨w.heap.size,10,none⟩=some (.int .i64 y.r):=HX5.out.cell 10
       have k11:w5.cell? ⟨w.heap.size,11,none⟩=some (.int .i64 y.m):=HX5.out.cell 11
       have k12:w5.cell? ⟨w.heap.size,12,none⟩=some (.int .i64 y.b):=HX5.out.cell 12
       have k13:w5.cell? ⟨w.heap.size,13,none⟩=some (.int .i64 y.c):=HX5.out.cell 13
       have k14:w5.cell? ⟨w.heap.size,14,none⟩=some (.int .i64 y.j):=HX5.out.cell 14
       go_wp2_with fail
       go_ret
       exact ⟨ret_i64 (by rw [HR.out];rfl),HB5.out⟩
      ·cases b6
       ·have HR:Hid (b=false):=hid (by rw [HV.out];simp)
        clear HV
        go_enter Tryz.func124,Tryz.ntmps124
        go_wp2_with fail
        refine (C0.out _).mono ?_
        rintro r_ w0' ⟨rfl,rfl⟩
        go_wp2_with fail
        refine (C1.out _).mono ?_
        rintro r_ w1' ⟨rfl,rfl⟩
        go_wp2_with fail
        refine (C2.out _).mono ?_
        rintro r_ w2' ⟨rfl,rfl⟩
        go_wp2_with fail
        refine (C3.out _).mono ?_
        rintro r_ w3' ⟨rfl,rfl⟩
        go_wp2_with fail
        obtain ⟨W1,hW1⟩:∃W1,W1=w.alloc (.cells #[.int .i64 y.cap,.int .i64 y.pri,.int .i64 y.spl,.int .i64 y.ddl,.int .i64 y.mis,.int .i64 y.keep,.int .i64 y.t,.int .i64 y.tau,.int .i64 y.f,.int .i64 y.o,.int .i64 y.r,.int .i64 y.m,.int .i64 y.b,.int .i64 y.c,.int .i64 y.j] 55):=⟨_,rfl⟩
        rw [←hW1]
        rw [←hW1] at HB HX
        clear hW1
        have k4:W1.cell? ⟨w.heap.size,4,none⟩=some (.int .i64 y.mis):=HX.out.cell 4
        have k5:W1.cell? ⟨w.heap.size,5,none⟩=some (.int .i64 y.keep):=HX.out.cell 5
        have k6:W1.cell? ⟨w.heap.size,6,none⟩=some (.int .i64 y.t):=HX.out.cell 6
        have k7:W1.cell? ⟨w.heap.size,7,none⟩=some (.int .i64 y.tau):=HX.out.cell 7
        have k8:W1.cell? ⟨w.heap.size,8,none⟩=some (.int .i64 y.f):=HX.out.cell 8
        have k9:W1.cell? ⟨w.heap.size,9,none⟩=some (.int .i64 y.o):=HX.out.cell 9
        have k10:W1.cell? ⟨w.heap.size,10,none⟩=some (.int .i64 y.r):=HX.out.cell 10
        have k11:W1.cell? ⟨w.heap.size,11,none⟩=some (.int .i64 y.m):=HX.out.cell 11
        have k12:W1.cell? ⟨w.heap.size,12,none⟩=some (.int .i64 y.b):=HX.out.cell 12
        have k13:W1.cell? ⟨w.heap.size,13,none⟩=some (.int .i64 y.c):=HX.out.cell 13
        have k14:W1.cell? ⟨w.heap.size,14,none⟩=some (.int .i64 y.j):=HX.out.cell 14
        refine (C4.out _).mono ?_
        rintro r_ w4 ⟨rfl,hb⟩
        have HX4:=hid (HX.out.below hb HX.out.lt)
        have HB4:=hid (HB.out.trans (hb.mono HB.out.size))
        clear hb
        have k4:w4.cell? ⟨w.heap.size,4,none⟩=some (.int .i64 y.mis):=HX4.out.cell 4
        have k5:w4.cell? ⟨w.heap.size,5,none⟩=some (.int .i64 y.keep):=HX4.out.cell 5
        have k6:w4.cell? ⟨w.heap.size,6,none⟩=some (.int .i64 y.t):=HX4.out.cell 6
        have k7:w4.cell? ⟨w.heap.size,7,none⟩=some (.int .i64 y.tau):=HX4.out.cell 7
        have k8:w4.cell? ⟨w.heap.size,8,none⟩=some (.int .i64 y.f):=HX4.out.cell 8
        have k9:w4.cell? ⟨w.heap.size,9,none⟩=some (.int .i64 y.o):=HX4.out.cell 9
        have k10:w4.cell? ⟨w.heap.size,10,none⟩=some (.int .i64 y.r):=HX4.out.cell 10
        have k11:w4.cell? ⟨w.heap.size,11,none⟩=some (.int .i64 y.m):=HX4.out.cell 11
        have k12:w4.cell? ⟨w.heap.size,12,none⟩=some (.int .i64 y.b):=HX4.out.cell 12
        have k13:w4.cell? ⟨w.heap.size,13,none⟩=some (.int .i64 y.c):=HX4.out.cell 13
        have k14:w4.cell? ⟨w.heap.size,14,none⟩=some (.int .i64 y.j):=HX4.out.cell 14
        go_wp2_with fail
        refine (C5.out _).mono ?_
        rintro r_ w5 ⟨rfl,hb⟩
        have HX5:=hid (HX4.out.below hb HX4.out.lt)
        have HB5:=hid (HB4.out.trans (hb.mono HB4.out.size))
        clear hb
        have k4:w5.cell? ⟨w.heap.size,4,none⟩=some (.int .i64 y.mis):=HX5.out.cell 4
        have k5:w5.cell? ⟨w.heap.size,5,none⟩=some (.int .i64 y.keep):=HX5.out.cell 5
        have k6:w5.cell? ⟨w.heap.size,6,none⟩=some (.int .i64 y.t):=HX5.out.cell 6
        have k7:w5.cell? ⟨w.heap.size,7,none⟩=some (.int .i64 y.tau):=HX5.out.cell 7
        have k8:w5.cell? ⟨w.heap.size,8,none⟩=some (.int .i64 y.f):=HX5.out.cell 8
        have k9:w5.cell? ⟨w.heap.size,9,none⟩=some (.int .i64 y.o):=HX5.out.cell 9
        have k10:w5.cell? ⟨w.heap.size,10,none⟩=some (.int .i64 y.r):=HX5.out.cell 10
        have k11:w5.cell? ⟨w.heap.size,11,none⟩=some (.int .i64 y.m):=HX5.out.cell 11
        have k12:w5.cell? ⟨w.heap.size,12,none⟩=some (.int .i64 y.b):=HX5.out.cell 12
        have k13:w5.cell? ⟨w.heap.size,13,none⟩=some (.int .i64 y.c):=HX5.out.cell 13
        have k14:w5.cell? ⟨w.heap.size,14,none⟩=some (.int .i64 y.j):=HX5.out.cell 14
        go_wp2_with fail
        refine (C6.out _).mono ?_
        rintro r_ w6 ⟨rfl,hb⟩
        have HX6:=hid (HX5.out.below hb HX5.out.lt)
        have HB6:=hid (HB5.out.trans (hb.mono HB5.out.size))
        clear hb
        have k4:w6.cell? ⟨w.heap.size,4,none⟩=some (.int .i64 y.mis):=HX6.out.cell 4
        have k5:w6.cell? ⟨w.heap.size,5,none⟩=some (.int .i64 y.keep):=HX6.out.cell 5
        have k6:w6.cell? ⟨w.heap.size,6,none⟩=some (.int .i64 y.t):=HX6.out.cell 6
        have k7:w6.cell? ⟨w.heap.size,7,none⟩=some (.int .i64 y.tau):=HX6.out.cell 7
        have k8:w6.cell? ⟨w.heap.size,8,none⟩=some (.int .i64 y.f):=HX6.out.cell 8
        have k9:w6.cell? ⟨w.heap.size,9,none⟩=some (.int .i64 y.o):=HX6.out.cell 9
        have k10:w6.cell? ⟨w.heap.size,10,none⟩=some (.int .i64 y.r):=HX6.out.cell 10
        have k11:w6.cell? ⟨w.heap.size,11,none⟩=some (.int .i64 y.m):=HX6.out.cell 11
        have k12:w6.cell? ⟨w.heap.size,12,none⟩=some (.int .i64 y.b):=HX6.out.cell 12
        have k13:w6.cell? ⟨w.heap.size,13,none⟩=some (.int .i64 y.c):=HX6.out.cell 13
        have k14:w6.cell? ⟨w.heap.size,14,none⟩=some (.int .i64 y.j):=HX6.out.cell 14
        go_wp2_with fail
        go_ret
        exact ⟨ret_i64 (by rw [HR.out];rfl),HB6.out⟩
       ·cases b7
        ·have HR:Hid (b=false):=hid (by rw [HV.out];simp)
         clear HV
         go_enter Tryz.func124,Tryz.ntmps124
         go_wp2_with fail
         refine (C0.out _).mono ?_
         rintro r_ w0' ⟨rfl,rfl⟩
         go_wp2_with fail
         refine (C1.out _).mono ?_
         rintro r_ w1' ⟨rfl,rfl⟩
         go_wp2_with fail
         refine (C2.out _).mono ?_
         rintro r_ w2' ⟨rfl,rfl⟩
         go_wp2_with fail
         refine (C3.out _).mono ?_
         rintro r_ w3' ⟨rfl,rfl⟩
         go_wp2_with fail
         obtain ⟨W1,hW1⟩:∃W1,W1=w.alloc (.cells #[.int .i64 y.cap,.int .i64 y.pri,.int .i64 y.spl,.int .i64 y.ddl,.int .i64 y.mis,.int .i64 y.keep,.int .i64 y.t,.int .i64 y.tau,.int .i64 y.f,.int .i64 y.o,.int .i64 y.r,.int .i64 y.m,.int .i64 y.b,.int .i64 y.c,.int .i64 y.j] 55):=⟨_,rfl⟩
         rw [←hW1]
         rw [←hW1] at HB HX
         clear hW1
         have k4:W1.cell? ⟨w.heap.size,4,none⟩=some (.int .i64 y.mis):=HX.out.cell 4
         have k5:W1.cell? ⟨w.heap.size,5,none⟩=some (.int .i64 y.keep):=HX.out.cell 5
         have k6:W1.cell? ⟨w.heap.size,6,none⟩=some (.int .i64 y.t):=HX.out.cell 6
         have k7:W1.cell? ⟨w.heap.size,7,none⟩=some (.int .i64 y.tau):=HX.out.cell 7
         have k8:W1.cell? ⟨w.heap.size,8,none⟩=some (.int .i64 y.f):=HX.out.cell 8
         have k9:W1.cell? ⟨w.heap.size,9,none⟩=some (.int .i64 y.o):=HX.out.cell 9
         have k10:W1.cell? ⟨w.heap.size,10,none⟩=some (.int .i64 y.r):=HX.out.cell 10
         have k11:W1.cell? ⟨w.heap.size,11,none⟩=some (.int .i64 y.m):=HX.out.cell 11
         have k12:W1.cell? ⟨w.heap.size,12,none⟩=some (.int .i64 y.b):=HX.out.cell 12
         have k13:W1.cell? ⟨w.heap.size,13,none⟩=some (.int .i64 y.c):=HX.out.cell 13
         have k14:W1.cell? ⟨w.heap.size,14,none⟩=some (.int .i64 y.j):=HX.out.cell 14
         refine (C4.out _).mono ?_
         rintro r_ w4 ⟨rfl,hb⟩
         have HX4:=hid (HX.out.below hb HX.out.lt)
         have HB4:=hid (HB.out.trans (hb.mono HB.out.size))
         clear hb
         have k4:w4.cell? ⟨w.heap.size,4,none⟩=some (.int .i64 y.mis):=HX4.out.cell 4
         have k5:w4.cell? ⟨w.heap.size,5,none⟩=some (.int .i64 y.keep):=HX4.out.cell 5
         have k6:w4.cell? ⟨w.heap.size,6,none⟩=some (.int .i64 y.t):=HX4.out.cell 6
         have k7:w4.cell? ⟨w.heap.size,7,none⟩=some (.int .i64 y.tau):=HX4.out.cell 7
         have k8:w4.cell? ⟨w.heap.size,8,none⟩=some (.int .i64 y.f):=HX4.out.cell 8
         have k9:w4.cell? ⟨w.heap.size,9,none⟩=some (.int .i64 y.o):=HX4.out.cell 9
         have k10:w4.cell? ⟨w.heap.size,10,none⟩=some (.int .i64 y.r):=HX4.out.cell 10
         have k11:w4.cell? ⟨w.heap.size,11,none⟩=some (.int .i64 y.m):=HX4.out.cell 11
         have k12:w4.cell? ⟨w.heap.size,12,none⟩=some (.int .i64 y.b):=HX4.out.cell 12
         have k13:w4.cell? ⟨w.heap.size,13,none⟩=some (.int .i64 y.c):=HX4.out.cell 13
         have k14:w4.cell? ⟨w.heap.size,14,none⟩=some (.int .i64 y.j):=HX4.out.cell 14
         go_wp2_with fail
         refine (C5.out _).mono ?_
         rintro r_ w5 ⟨rfl,hb⟩
         have HX5:=hid (HX4.out.below hb HX4.out.lt)
         have HB5:=hid (HB4.out.trans (hb.mono HB4.out.size))
         clear hb
         have k4:w5.cell? ⟨w.heap.size,4,none⟩=some (.int .i64 y.mis):=HX5.out.cell 4
         have k5:w5.cell? ⟨w.heap.size,5,none⟩=some (.int .i64 y.keep):=HX5.out.cell 5
         have k6:w5.cell? ⟨w.heap.size,6,none⟩=some (.int .i64 y.t):=HX5.out.cell 6
         have k7:w5.cell? ⟨w.heap.size,7,none⟩=some (.int .i64 y.tau):=HX5.out.cell 7
         have k8:w5.cell? ⟨w.heap.size,8,none⟩=some (.int .i64 y.f):=HX5.out.cell 8
         have k9:w5.cell? ⟨w.heap.size,9,none⟩=some (.int .i64 y.o):=HX5.out.cell 9
         have k10:w5.cell? ⟨w.heap.size,10,none⟩=some (.int .i64 y.r):=HX5.out.cell 10
         have k11:w5.cell? ⟨w.heap.size,11,none⟩=some (.int .i64 y.m):=HX5.out.cell 11
         have k12:w5.cell? ⟨w.heap.size,12,none⟩=some (.int .i64 y.b):=HX5.out.cell 12
         have k13:w5.cell? ⟨w.heap.size,13,none⟩=some (.int .i64 y.c):=HX5.out.cell 13
         have k14:w5.cell? ⟨w.heap.size,14,none⟩=some (.int .i64 y.j):=HX5.out.cell 14
         go_wp2_with fail
         refine (C6.out _).mono ?_
         rintro r_ w6 ⟨rfl,hb⟩
         have HX6:=hid (HX5.out.below hb HX5.out.lt)
         have HB6:=hid (HB5.out.trans (hb.mono HB5.out.size))
         clear hb
         have k4:w6.cell? ⟨w.heap.size,4,none⟩=some (.int .i64 y.mis):=HX6.out.cell 4
         have k5:w6.cell? ⟨w.heap.size,5,none⟩=some (.int .i64 y.keep):=HX6.out.cell 5
         have k6:w6.cell? ⟨w.heap.size,6,none⟩=some (.int .i64 y.t):=HX6.out.cell 6
         have k7:w6.cell? ⟨w.heap.size,7,none⟩=some (.int .i64 y.tau):=HX6.out.cell 7
         have k8:w6.cell? ⟨w.heap.size,8,none⟩=some (.int .i64 y.f):=HX6.out.cell 8
         have k9:w6.cell? ⟨w.heap.size,9,none⟩=some (.int .i64 y.o):=HX6.out.cell 9
         have k10:w6.cell? ⟨w.heap.size,10,none⟩=some (.int .i64 y.r):=HX6.out.cell 10
         have k11:w6.cell? ⟨w.heap.size,11,none⟩=some (.int .i64 y.m):=HX6.out.cell 11
         have k12:w6.cell? ⟨w.heap.size,12,none⟩=some (.int .i64 y.b):=HX6.out.cell 12
         have k13:w6.cell? ⟨w.heap.size,13,none⟩=some (.int .i64 y.c):=HX6.out.cell 13
         have k14:w6.cell? ⟨w.heap.size,14,none⟩=some (.int .i64 y.j):=HX6.out.cell 14
         go_wp2_with fail
         refine (C7.out _).mono ?_
         rintro r_ w7 ⟨rfl,hb⟩
         have HX7:=hid (HX6.out.below hb HX6.out.lt)
         have HB7:=hid (HB6.out.trans (hb.mono HB6.out.size))
         clear hb
         have k4:w7.cell? ⟨w.heap.size,4,none⟩=some (.int .i64 y.mis):=HX7.out.cell 4
         have k5:w7.cell? ⟨w.heap.size,5,none⟩=some (.int .i64 y.keep):=HX7.out.cell 5
         have k6:w7.cell? ⟨w.heap.size,6,none⟩=some (.int .i64 y.t):=HX7.out.cell 6
         have k7:w7.cell? ⟨w.heap.size,7,none⟩=some (.int .i64 y.tau):=HX7.out.cell 7
         have k8:w7.cell? ⟨w.heap.size,8,none⟩=some (.int .i64 y.f):=HX7.out.cell 8
         have k9:w7.cell? ⟨w.heap.size,9,none⟩=some (.int .i64 y.o):=HX7.out.cell 9
         have k10:w7.cell? ⟨w.heap.size,10,none⟩=some (.int .i64 y.r):=HX7.out.cell 10
         have k11:w7.cell? ⟨w.heap.size,11,none⟩=some (.int .i64 y.m):=HX7.out.cell 11
         have k12:w7.cell? ⟨w.heap.size,12,none⟩=some (.int .i64 y.b):=HX7.out.cell 12
         have k13:w7.cell? ⟨w.heap.size,13,none⟩=some (.int .i64 y.c):=HX7.out.cell 13
         have k14:w7.cell? ⟨w.heap.size,14,none⟩=some (.int .i64 y.j):=HX7.out.cell 14
         go_wp2_with fail
         go_ret
         exact ⟨ret_i64 (by rw [HR.out];rfl),HB7.out⟩
        ·have HR:Hid (b=true):=hid (by rw [HV.out];rfl)
         clear HV
         go_enter Tryz.func124,Tryz.ntmps124
         go_wp2_with fail
         refine (C0.out _).mono ?_
         rintro r_ w0' ⟨rfl,rfl⟩
         go_wp2_with fail
         refine (C1.out _).mono ?_
         rintro r_ w1' ⟨rfl,rfl⟩
         go_wp2_with fail
         refine (C2.out _).mono ?_
         rintro r_ w2' ⟨rfl,rfl⟩
         go_wp2_with fail
         refine (C3.out _).mono ?_
         rintro r_ w3' ⟨rfl,rfl⟩
         go_wp2_with fail
         obtain ⟨W1,hW1⟩:∃W1,W1=w.alloc (.cells #[.int .i64 y.cap,.int .i64 y.pri,.int .i64 y.spl,.int .i64 y.ddl,.int .i64 y.mis,.int .i64 y.keep,.int .i64 y.t,.int .i64 y.tau,.int .i64 y.f,.int .i64 y.o,.int .i64 y.r,.int .i64 y.m,.int .i64 y.b,.int .i64 y.c,.int .i64 y.j] 55):=⟨_,rfl⟩
         rw [←hW1]
         rw [←hW1] at HB HX
         clear hW1
         have k4:W1.cell? ⟨w.heap.size,4,none⟩=some (.int .i64 y.mis):=HX.out.cell 4
         have k5:W1.cell? ⟨w.heap.size,5,none⟩=some (.int .i64 y.keep):=HX.out.cell 5
         have k6:W1.cell? ⟨w.heap.size,6,none⟩=some (.int .i64 y.t):=HX.out.cell 6
         have k7:W1.cell? ⟨w.heap.size,7,none⟩=some (.int .i64 y.tau):=HX.out.cell 7
         have k8:W1.cell? ⟨w.heap.size,8,none⟩=some (.int .i64 y.f):=HX.out.cell 8
         have k9:W1.cell? ⟨w.heap.size,9,none⟩=some (.int .i64 y.o):=HX.out.cell 9
         have k10:W1.cell? ⟨w.heap.size,10,none⟩=some (.int .i64 y.r):=HX.out.cell 10
         have k11:W1.cell? ⟨w.heap.size,11,none⟩=some (.int .i64 y.m):=HX.out.cell 11
         have k12:W1.cell? ⟨w.heap.size,12,none⟩=some (.int .i64 y.b):=HX.out.cell 12
         have k13:W1.cell? ⟨w.heap.size,13,none⟩=some (.int .i64 y.c):=HX.out.cell 13
         have k14:W1.cell? ⟨w.heap.size,14,none⟩=some (.int .i64 y.j):=HX.out.cell 14
         refine (C4.out _).mono ?_
         rintro r_ w4 ⟨rfl,hb⟩
         have HX4:=hid (HX.out.below hb HX.out.lt)
         have HB4:=hid (HB.out.trans (hb.mono HB.out.size))
         clear hb
         have k4:w4.cell? ⟨w.heap.size,4,none⟩=some (.int .i64 y.mis):=HX4.out.cell 4
         have k5:w4.cell? ⟨w.heap.size,5,none⟩=some (.int .i64 y.keep):=HX4.out.cell 5
         have k6:w4.cell? ⟨w.heap.size,6,none⟩=some (.int .i64 y.t):=HX4.out.cell 6
         have k7:w4.cell? ⟨w.heap.size,7,none⟩=some (.int .i64 y.tau):=HX4.out.cell 7
         have k8:w4.cell? ⟨w.heap.size,8,none⟩=some (.int .i64 y.f):=HX4.out.cell 8
         have k9:w4.cell? ⟨w.heap.size,9,none⟩=some (.int .i64 y.o):=HX4.out.cell 9
         have k10:w4.cell? ⟨w.heap.size,10,none⟩=some (.int .i64 y.r):=HX4.out.cell 10
         have k11:w4.cell? ⟨w.heap.size,11,none⟩=some (.int .i64 y.m):=HX4.out.cell 11
         have k12:w4.cell? ⟨w.heap.size,12,none⟩=some (.int .i64 y.b):=HX4.out.cell 12
         have k13:w4.cell? ⟨w.heap.size,13,none⟩=some (.int .i64 y.c):=HX4.out.cell 13
         have k14:w4.cell? ⟨w.heap.size,14,none⟩=some (.int .i64 y.j):=HX4.out.cell 14
         go_wp2_with fail
         refine (C5.out _).mono ?_
         rintro r_ w5 ⟨rfl,hb⟩
         have HX5:=hid (HX4.out.below hb HX4.out.lt)
         have HB5:=hid (HB4.out.trans (hb.mono HB4.out.size))
         clear hb
         have k4:w5.cell? ⟨w.heap.size,4,none⟩=some (.int .i64 y.mis):=HX5.out.cell 4
         have k5:w5.cell? ⟨w.heap.size,5,none⟩=some (.int .i64 y.keep):=HX5.out.cell 5
         have k6:w5.cell? ⟨w.heap.size,6,none⟩=some (.int .i64 y.t):=HX5.out.cell 6
         have k7:w5.cell? ⟨w.heap.size,7,none⟩=some (.int .i64 y.tau):=HX5.out.cell 7
         have k8:w5.cell? ⟨w.heap.size,8,none⟩=some (.int .i64 y.f):=HX5.out.cell 8
         have k9:w5.cell? ⟨w.heap.size,9,none⟩=some (.int .i64 y.o):=HX5.out.cell 9
         have k10:w5.cell? ⟨w.heap.size,10,none⟩=some (.int .i64 y.r):=HX5.out.cell 10
         have k11:w5.cell? ⟨w.heap.size,11,none⟩=some (.int .i64 y.m):=HX5.out.cell 11
         have k12:w5.cell? ⟨w.heap.size,12,none⟩=some (.int .i64 y.b):=HX5.out.cell 12
         have k13:w5.cell? ⟨w.heap.size,13,none⟩=some (.int .i64 y.c):=HX5.out.cell 13
         have k14:w5.cell? ⟨w.heap.size,14,none⟩=some (.int .i64 y.j):=HX5.out.cell 14
         go_wp2_with fail
         refine (C6.out _).mono ?_
         rintro r_ w6 ⟨rfl,hb⟩
         have HX6:=hid (HX5.out.below hb HX5.out.lt)
         have HB6:=hid (HB5.out.trans (hb.mono HB5.out.size))
         clear hb
         have k4:w6.cell? ⟨w.heap.size,4,none⟩=some (.int .i64 y.mis):=HX6.out.cell 4
         have k5:w6.cell? ⟨w.heap.size,5,none⟩=some (.int .i64 y.keep):=HX6.out.cell 5
         have k6:w6.cell? ⟨w.heap.size,6,none⟩=some (.int .i64 y.t):=HX6.out.cell 6
         have k7:w6.cell? ⟨w.heap.size,7,none⟩=some (.int .i64 y.tau):=HX6.out.cell 7
         have k8:w6.cell? ⟨w.heap.size,8,none⟩=some (.int .i64 y.f):=HX6.out.cell 8
         have k9:w6.cell? ⟨w.heap.size,9,none⟩=some (.int .i64 y.o):=HX6.out.cell 9
         have k10:w6.cell? ⟨w.heap.size,10,none⟩=some (.int .i64 y.r):=HX6.out.cell 10
         have k11:w6.cell? ⟨w.heap.size,11,none⟩=some (.int .i64 y.m):=HX6.out.cell 11
         have k12:w6.cell? ⟨w.heap.size,12,none⟩=some (.int .i64 y.b):=HX6.out.cell 12
         have k13:w6.cell? ⟨w.heap.size,13,none⟩=some (.int .i64 y.c):=HX6.out.cell 13
         have k14:w6.cell? ⟨w.heap.size,14,none⟩=some (.int .i64 y.j):=HX6.out.cell 14
         go_wp2_with fail
         refine (C7.out _).mono ?_
         rintro r_ w7 ⟨rfl,hb⟩
         have HX7:=hid (HX6.out.below hb HX6.out.lt)
         have HB7:=hid (HB6.out.trans (hb.mono HB6.out.size))
         clear hb
         have k4:w7.cell? ⟨w.heap.size,4,none⟩=some (.int .i64 y.mis):=HX7.out.cell 4
         have k5:w7.cell? ⟨w.heap.size,5,none⟩=some (.int .i64 y.keep):=HX7.out.cell 5
         have k6:w7.cell? ⟨w.heap.size,6,none⟩=some (.int .i64 y.t):=HX7.out.cell 6
         have k7:w7.cell? ⟨w.heap.size,7,none⟩=some (.int .i64 y.tau):=HX7.out.cell 7
         have k8:w7.cell? ⟨w.heap.size,8,none⟩=some (.int .i64 y.f):=HX7.out.cell 8
         have k9:w7.cell? ⟨w.heap.size,9,none⟩=some (.int .i64 y.o):=HX7.out.cell 9
         have k10:w7.cell? ⟨w.heap.size,10,none⟩=some (.int .i64 y.r):=HX7.out.cell 10
         have k11:w7.cell? ⟨w.heap.size,11,none⟩=some (.int .i64 y.m):=HX7.out.cell 11
         have k12:w7.cell? ⟨w.heap.size,12,none⟩=some (.int .i64 y.b):=HX7.out.cell 12
         have k13:w7.cell? ⟨w.heap.size,13,none⟩=some (.int .i64 y.c):=HX7.out.cell 13
         have k14:w7.cell? ⟨w.heap.size,14,none⟩=some (.int .i64 y.j):=HX7.out.cell 14
         go_wp2_with fail
         go_ret
         exact ⟨ret_i64 (by rw [HR.out];rfl),HB7.out⟩
def chB(c:Nat):Bool:=(decide (97≤c)&&decide (c≤122))||(decide (65≤c)&&decide (c≤90))||(decide (48≤c)&&decide (c≤57))||c==45||c==95
theorem chB_iff{c:Nat}:chB c=true↔(97≤c∧c≤122)∨(65≤c∧c≤90)∨(48≤c∧c≤57)∨c=45∨c=95:=by
 unfold chB
 simp only [Bool.or_eq_true,Bool.and_eq_true,decide_eq_true_eq,beq_iff_eq]
 omega
theorem or32_all:∀c:Fin 256,(97≤bits .or .u8 ((c.val:Nat):Int) 32∧bits .or .u8 ((c.val:Nat):Int) 32≤122)↔(97≤c.val∧c.val≤122∨65≤c.val∧c.val≤90):=by decide +kernel
theorem or32{c:Nat}(h:c<256):(97≤bits .or .u8 (c:Int) 32∧bits .or .u8 (c:Int) 32≤122)↔(97≤c∧c≤122∨65≤c∧c≤90):=or32_all ⟨c,h⟩
def nameB(s:ByteArray):Bool:=decide (0<s.size)&&decide (s.size≤24)&&s.data.toList.all fun c=>chB c.toNat
theorem size_data(s:ByteArray):s.data.toList.length=s.size:=rfl
theorem empty_iff(s:ByteArray):s.toList.isEmpty=decide (s.size=0):=by
 have e:s.toList.length=s.size:=by rw [Lib.toList_data,←Lib.size_eq]
 rw [Bool.eq_iff_iff,List.isEmpty_iff,←List.length_eq_zero_iff,e,decide_eq_true_eq]
theorem name_ok(s:ByteArray)(w:World):Calls Tryz.prog 165 #[.string s] w fun e w'=>e=.returned (.bool (nameB s))∧w'=w:=by
 have HV:Hid (nameB s=(decide (0<s.size)&&decide (s.size≤24)&&s.data.toList.all fun c=>chB c.toNat)):=hid rfl
 have HL:=hid (size_data s)
 have he:=empty_iff s
 generalize nameB s=b at *
 by_cases h0:s.size=0
 ·rw [decide_eq_true h0] at he
  have HR:Hid (b=false):=hid (by rw [HV.out,h0];rfl)
  clear h0 HV
  go_enter Tryz.func165,Tryz.ntmps165
  go_wp2_with fail
  go_ret
  exact ⟨ret_bool HR.out.symm,rfl⟩
 ·rw [decide_eq_false h0] at he
  by_cases h24:24<s.size
  ·have d1:decide (24<s.size)=true:=decide_eq_true h24
   have d2:decide ((24:Int)<s.size)=true:=decide_eq_true (by omega)
   have HR:Hid (b=false):=hid (by rw [HV.out,decide_eq_false (show ¬s.size≤24 by omega)];simp)
   clear h0 h24 HV
   go_enter Tryz.func165,Tryz.ntmps165
   go_wp2_with fail
   go_ret
   exact ⟨ret_bool HR.out.symm,rfl⟩
  ·have d1:decide (24<s.size)=false:=decide_eq_false h24
   have d2:decide ((24:Int)<s.size)=false:=decide_eq_false (by omega)
   have HR:Hid (b=s.data.toList.all fun c=>chB c.toNat):=hid (by rw [HV.out,decide_eq_true (show 0<s.size by omega),decide_eq_true (show s.size≤24 by omega)];simp)
   have hn:s.size≤24:=by omega
   obtain ⟨n,hnn⟩:∃n,n=s.size:=⟨_,rfl⟩
   clear h0 h24 HV
   go_enter Tryz.func165,Tryz.ntmps165
   go_wp2_with fail
   go_loop [3,4,5,15] (fun _ _ _ s15=>∃k:Nat,k≤s.size∧s15=.int .i64 k∧∀i (hi:i<s.data.toList.length),i<k→chB (s.data.toList[i]).toNat=true) (fun _ _ _ s15=>s.size - intM s15)
   case atStart=>exact ⟨0,Nat.zero_le _,rfl,fun i hi h=>absurd h (Nat.not_lt_zero _)⟩
   case round =>
    obtain ⟨k,hk,rfl,hok⟩:=hrel
    have HOK:=hid hok
    clear hok
    rcases Nat.lt_or_ge k s.size with hlt|hge
    ·have hkl:k<s.data.toList.length:=by have:=HL.out;omega
     obtain ⟨m,hm⟩:∃m,(s[k]'hlt).toNat=m:=⟨_,rfl⟩
     have hm2:(s.data.toList[k]).toNat=m:=hm
     have hm256:m<256:=by rw [←hm];exact UInt8.toNat_lt _
     have HK:=hid (or32 hm256)
     have HT:=hid (fun (he:chB m=true) i (hi:i<s.data.toList.length) (h:i<k+1)=>(by
      rcases Nat.lt_or_ge i k with h4|h4
      ·exact HOK.out i hi h4
      ·obtain rfl:i=k:=by omega
       rw [hm2];exact he:chB (s.data.toList[i]).toNat=true))
     have HF:=hid (fun (he:¬chB m=true)=>(by
      rw [HR.out,←Bool.not_eq_true]
      intro hh
      have:=List.all_eq_true.1 hh _ (List.getElem_mem hkl)
      rw [hm2] at this
      exact he this:b=false))
     clear hm2 HR
     have hcs:(0≤m∧m≤44)∨m=45∨(46≤m∧m≤47)∨(48≤m∧m≤57)∨(58≤m∧m≤64)∨(65≤m∧m≤90)∨(91≤m∧m≤94)∨m=95∨m=96∨(97≤m∧m≤122)∨(123≤m∧m≤255):=by omega
     rcases hcs with hm|rfl|hm|hm|hm|hm|hm|rfl|rfl|hm|hm
     ·have q0:decide ((m:Int)<48)=true:=decide_eq_true (by omega)
      have q1:decide (57<(m:Int))=false:=decide_eq_false (by omega)
      have e45:((m:Int)==45)=false:=by rw [beq_eq_false_iff_ne];omega
      have n45:((m:Int) != 45)=true:=by rw [bne,e45];rfl
      have e95:((m:Int)==95)=false:=by rw [beq_eq_false_iff_ne];omega
      have n95:((m:Int) != 95)=true:=by rw [bne,e95];rfl
      have hl:¬(97≤bits .or .u8 (m:Int) 32∧bits .or .u8 (m:Int) 32≤122):=fun h=>by have:=HK.out.1 h;omega
      by_cases hl1:97≤bits .or .u8 (m:Int) 32
      ·have ql1:decide (97≤bits .or .u8 (m:Int) 32)=true:=decide_eq_true hl1
       have ql2:decide (bits .or .u8 (m:Int) 32≤122)=false:=decide_eq_false (fun h=>hl ⟨hl1,h⟩)
       clear hl hl1
       have HF2:=hid (HF.out (by rw [chB_iff];omega))
       clear HT HF HK
       go_wp2_with fail
       go_ret
       exact ⟨ret_bool HF2.out.symm,rfl⟩
      ·have ql1:decide (97≤bits .or .u8 (m:Int) 32)=false:=decide_eq_false hl1
       clear hl hl1
       have HF2:=hid (HF.out (by rw [chB_iff];omega))
       clear HT HF HK
       go_wp2_with fail
       go_ret
       exact ⟨ret_bool HF2.out.symm,rfl⟩
     ·skip
      have HT2:=hid (HT.out (by rw [chB_iff];omega))
      clear HT HF HK
      go_wp2_with fail
      refine ⟨⟨k+1,by omega,by go_num,HT2.out⟩,?_⟩
      simp [intM];omega
     ·have q0:decide ((m:Int)<48)=true:=decide_eq_true (by omega)
      have q1:decide (57<(m:Int))=false:=decide_eq_false (by omega)
      have e45:((m:Int)==45)=false:=by rw [beq_eq_false_iff_ne];omega
      have n45:((m:Int) != 45)=true:=by rw [bne,e45];rfl
      have e95:((m:Int)==95)=false:=by rw [beq_eq_false_iff_ne];omega
      have n95:((m:Int) != 95)=true:=by rw [bne,e95];rfl
      have hl:¬(97≤bits .or .u8 (m:Int) 32∧bits .or .u8 (m:Int) 32≤122):=fun h=>by have:=HK.out.1 h;omega
      by_cases hl1:97≤bits .or .u8 (m:Int) 32
      ·have ql1:decide (97≤bits .or .u8 (m:Int) 32)=true:=decide_eq_true hl1
       have ql2:decide (bits .or .u8 (m:Int) 32≤122)=false:=decide_eq_false (fun h=>hl ⟨hl1,h⟩)
       clear hl hl1
       have HF2:=hid (HF.out (by rw [chB_iff];omega))
       clear HT HF HK
       go_wp2_with fail
       go_ret
       exact ⟨ret_bool HF2.out.symm,rfl⟩
      ·have ql1:decide (97≤bits .or .u8 (m:Int) 32)=false:=decide_eq_false hl1
       clear hl hl1
       have HF2:=hid (HF.out (by rw [chB_iff];omega))
       clear HT HF HK
       go_wp2_with fail
       go_ret
       exact ⟨ret_bool HF2.out.symm,rfl⟩
     ·have q0:decide ((m:Int)<48)=false:=decide_eq_false (by omega)
      have q1:decide (57<(m:Int))=false:=decide_eq_false (by omega)
      have e45:((m:Int)==45)=false:=by rw [beq_eq_false_iff_ne];omega
      have n45:((m:Int) != 45)=true:=by rw [bne,e45];rfl
      have e95:((m:Int)==95)=false:=by rw [beq_eq_false_iff_ne];omega
      have n95:((m:Int) != 95)=true:=by rw [bne,e95];rfl
      have hl:¬(97≤bits .or .u8 (m:Int) 32∧bits .or .u8 (m:Int) 32≤122):=fun h=>by have:=HK.out.1 h;omega
      by_cases hl1:97≤bits .or .u8 (m:Int) 32
      ·have ql1:decide (97≤bits .or .u8 (m:Int) 32)=true:=decide_eq_true hl1
       have ql2:decide (bits .or .u8 (m:Int) 32≤122)=false:=decide_eq_false (fun h=>hl ⟨hl1,h⟩)
       clear hl hl1
       have HT2:=hid (HT.out (by rw [chB_iff];omega))
       clear HT HF HK
       go_wp2_with fail
       refine ⟨⟨k+1,by omega,by go_num,HT2.out⟩,?_⟩
       simp [intM];omega
      ·have ql1:decide (97≤bits .or .u8 (m:Int) 32)=false:=decide_eq_false hl1
       clear hl hl1
       have HT2:=hid (HT.out (by rw [chB_iff];omega))
       clear HT HF HK
       go_wp2_with fail
       refine ⟨⟨k+1,by omega,by go_num,HT2.out⟩,?_⟩
       simp [intM];omega
     ·have q0:decide ((m:Int)<48)=false:=decide_eq_false (by omega)
      have q1:decide (57<(m:Int))=true:=decide_eq_true (by omega)
      have e45:((m:Int)==45)=false:=by rw [beq_eq_false_iff_ne];omega
      have n45:((m:Int) != 45)=true:=by rw [bne,e45];rfl
      have e95:((m:Int)==95)=false:=by rw [beq_eq_false_iff_ne];omega
      have n95:((m:Int) != 95)=true:=by rw [bne,e95];rfl
      have hl:¬(97≤bits .or .u8 (m:Int) 32∧bits .or .u8 (m:Int) 32≤122):=fun h=>by have:=HK.out.1 h;omega
      by_cases hl1:97≤bits .or .u8 (m:Int) 32
      ·have ql1:decide (97≤bits .or .u8 (m:Int) 32)=true:=decide_eq_true hl1
       have ql2:decide (bits .or .u8 (m:Int) 32≤122)=false:=decide_eq_false (fun h=>hl ⟨hl1,h⟩)
       clear hl hl1
       have HF2:=hid (HF.out (by rw [chB_iff];omega))
       clear HT HF HK
       go_wp2_with fail
       go_ret
       exact ⟨ret_bool HF2.out.symm,rfl⟩
      ·have ql1:decide (97≤bits .or .u8 (m:Int) 32)=false:=decide_eq_false hl1
       clear hl hl1
       have HF2:=hid (HF.out (by rw [chB_iff];omega))
       clear HT HF HK
       go_wp2_with fail
       go_ret
       exact ⟨ret_bool HF2.out.symm,rfl⟩
     ·have hl:=HK.out.2 (by omega)
      have ql1:decide (97≤bits .or .u8 (m:Int) 32)=true:=decide_eq_true hl.1
      have ql2:decide (bits .or .u8 (m:Int) 32≤122)=true:=decide_eq_true hl.2
      have q3:decide ((m:Int)<48)=false:=decide_eq_false (by omega)
      have q4:decide (57<(m:Int))=true:=decide_eq_true (by omega)
      have e45:((m:Int)==45)=false:=by rw [beq_eq_false_iff_ne];omega
      have n45:((m:Int) != 45)=true:=by rw [bne,e45];rfl
      have e95:((m:Int)==95)=false:=by rw [beq_eq_false_iff_ne];omega
      have n95:((m:Int) != 95)=true:=by rw [bne,e95];rfl
      clear hl
      have HT2:=hid (HT.out (by rw [chB_iff];omega))
      clear HT HF HK
      go_wp2_with fail
      refine ⟨⟨k+1,by omega,by go_num,HT2.out⟩,?_⟩
      simp [intM];omega
     ·have q0:decide ((m:Int)<48)=false:=decide_eq_false (by omega)
      have q1:decide (57<(m:Int))=true:=decide_eq_true (by omega)
      have e45:((m:Int)==45)=false:=by rw [beq_eq_false_iff_ne];omega
      have n45:((m:Int) != 45)=true:=by rw [bne,e45];rfl
      have e95:((m:Int)==95)=false:=by rw [beq_eq_false_iff_ne];omega
      have n95:((m:Int) != 95)=true:=by rw [bne,e95];rfl
      have hl:¬(97≤bits .or .u8 (m:Int) 32∧bits .or .u8 (m:Int) 32≤122):=fun h=>by have:=HK.out.1 h;omega
      by_cases hl1:97≤bits .or .u8 (m:Int) 32
      ·have ql1:decide (97≤bits .or .u8 (m:Int) 32)=true:=decide_eq_true hl1
       have ql2:decide (bits .or .u8 (m:Int) 32≤122)=false:=decide_eq_false (fun h=>hl ⟨hl1,h⟩)
       clear hl hl1
       have HF2:=hid (HF.out (by rw [chB_iff];omega))
       clear HT HF HK
       go_wp2_with fail
       go_ret
       exact ⟨ret_bool HF2.out.symm,rfl⟩
      ·have ql1:decide (97≤bits .or .u8 (m:Int) 32)=false:=decide_eq_false hl1
       clear hl hl1
       have HF2:=hid (HF.out (by rw [chB_iff];omega))
       clear HT HF HK
       go_wp2_with fail
       go_ret
       exact ⟨ret_bool HF2.out.symm,rfl⟩
     ·skip
      have HT2:=hid (HT.out (by rw [chB_iff];omega))
      clear HT HF HK
      go_wp2_with fail
      refine ⟨⟨k+1,by omega,by go_num,HT2.out⟩,?_⟩
      simp [intM];omega
     ·skip
      have HF2:=hid (HF.out (by rw [chB_iff];omega))
      clear HT HF HK
      go_wp2_with fail
      go_ret
      exact ⟨ret_bool HF2.out.symm,rfl⟩
     ·have hl:=HK.out.2 (by omega)
      have ql1:decide (97≤bits .or .u8 (m:Int) 32)=true:=decide_eq_true hl.1
      have ql2:decide (bits .or .u8 (m:Int) 32≤122)=true:=decide_eq_true hl.2
      have q3:decide ((m:Int)<48)=false:=decide_eq_false (by omega)
      have q4:decide (57<(m:Int))=true:=decide_eq_true (by omega)
      have e45:((m:Int)==45)=false:=by rw [beq_eq_false_iff_ne];omega
      have n45:((m:Int) != 45)=true:=by rw [bne,e45];rfl
      have e95:((m:Int)==95)=false:=by rw [beq_eq_false_iff_ne];omega
      have n95:((m:Int) != 95)=true:=by rw [bne,e95];rfl
      clear hl
      have HT2:=hid (HT.out (by rw [chB_iff];omega))
      clear HT HF HK
      go_wp2_with fail
      refine ⟨⟨k+1,by omega,by go_num,HT2.out⟩,?_⟩
      simp [intM];omega
     ·have q0:decide ((m:Int)<48)=false:=decide_eq_false (by omega)
      have q1:decide (57<(m:Int))=true:=decide_eq_true (by omega)
      have e45:((m:Int)==45)=false:=by rw [beq_eq_false_iff_ne];omega
      have n45:((m:Int) != 45)=true:=by rw [bne,e45];rfl
      have e95:((m:Int)==95)=false:=by rw [beq_eq_false_iff_ne];omega
      have n95:((m:Int) != 95)=true:=by rw [bne,e95];rfl
      have hl:¬(97≤bits .or .u8 (m:Int) 32∧bits .or .u8 (m:Int) 32≤122):=fun h=>by have:=HK.out.1 h;omega
      by_cases hl1:97≤bits .or .u8 (m:Int) 32
      ·have ql1:decide (97≤bits .or .u8 (m:Int) 32)=true:=decide_eq_true hl1
       have ql2:decide (bits .or .u8 (m:Int) 32≤122)=false:=decide_eq_false (fun h=>hl ⟨hl1,h⟩)
       clear hl hl1
       have HF2:=hid (HF.out (by rw [chB_iff];omega))
       clear HT HF HK
       go_wp2_with fail
       go_ret
       exact ⟨ret_bool HF2.out.symm,rfl⟩
      ·have ql1:decide (97≤bits .or .u8 (m:Int) 32)=false:=decide_eq_false hl1
       clear hl hl1
       have HF2:=hid (HF.out (by rw [chB_iff];omega))
       clear HT HF HK
       go_wp2_with fail
       go_ret
       exact ⟨ret_bool HF2.out.symm,rfl⟩
    ·obtain hkn:k=s.size:=by omega
     have HE:Hid (b=true):=hid (by
      rw [HR.out]
      refine List.all_eq_true.2 (fun x hx=>?_)
      obtain ⟨i,hi,rfl⟩:=List.getElem_of_mem hx
      exact HOK.out i hi (by have:=HL.out;omega))
     subst hkn
     clear HOK HR
     go_wp2_with fail
     go_ret
     exact ⟨ret_bool HE.out.symm,rfl⟩
theorem rname_ok(s:ByteArray)(w:World):Calls Tryz.prog 122 #[.string s] w fun e w'=>e=.returned (.bool (nameB s))∧w'=w:=by
 have HV:Hid (nameB s=(decide (0<s.size)&&decide (s.size≤24)&&s.data.toList.all fun c=>chB c.toNat)):=hid rfl
 have HL:=hid (size_data s)
 generalize nameB s=b at *
 by_cases h0:s.size<1
 ·have e1:decide (s.size<1)=true:=decide_eq_true h0
  have e2:decide ((s.size:Int)<1)=true:=decide_eq_true (by omega)
  have HR:Hid (b=false):=hid (by rw [HV.out,decide_eq_false (show ¬0<s.size by omega)];rfl)
  clear h0 HV
  go_enter Tryz.func122,Tryz.ntmps122
  go_wp2_with fail
  go_ret
  exact ⟨ret_bool HR.out.symm,rfl⟩
 ·have e1:decide (s.size<1)=false:=decide_eq_false h0
  have e2:decide ((s.size:Int)<1)=false:=decide_eq_false (by omega)
  by_cases h24:24<s.size
  ·have d1:decide (24<s.size)=true:=decide_eq_true h24
   have d2:decide ((24:Int)<s.size)=true:=decide_eq_true (by omega)
   have HR:Hid (b=false):=hid (by rw [HV.out,decide_eq_false (show ¬s.size≤24 by omega)];simp)
   clear h0 h24 HV
   go_enter Tryz.func122,Tryz.ntmps122
   go_wp2_with fail
   go_ret
   exact ⟨ret_bool HR.out.symm,rfl⟩
  ·have d1:decide (24<s.size)=false:=decide_eq_false h24
   have d2:decide ((24:Int)<s.size)=false:=decide_eq_false (by omega)
   have HR:Hid (b=s.data.toList.all fun c=>chB c.toNat):=hid (by rw [HV.out,decide_eq_true (show 0<s.size by omega),decide_eq_true (show s.size≤24 by omega)];simp)
   have hn:s.size≤24:=by omega
   clear h0 h24 HV
   go_enter Tryz.func122,Tryz.ntmps122
   go_wp2_with fail
   go_loop [3,4] (fun s3 _=>∃k:Nat,k≤s.size∧s3=.int .i64 k∧∀i (hi:i<s.data.toList.length),i<k→chB (s.data.toList[i]).toNat=true) (fun s3 _=>s.size - intM s3)
   case atStart=>exact ⟨0,Nat.zero_le _,rfl,fun i hi h=>absurd h (Nat.not_lt_zero _)⟩
   case round =>
    obtain ⟨k,hk,rfl,hok⟩:=hrel
    have HOK:=hid hok
    clear hok
    rcases Nat.lt_or_ge k s.size with hlt|hge
    ·have hkl:k<s.data.toList.length:=by have:=HL.out;omega
     obtain ⟨m,hm⟩:∃m,(s[k]'hlt).toNat=m:=⟨_,rfl⟩
     have hm2:(s.data.toList[k]).toNat=m:=hm
     have HT:=hid (fun (he:chB m=true) i (hi:i<s.data.toList.length) (h:i<k+1)=>(by
      rcases Nat.lt_or_ge i k with h4|h4
      ·exact HOK.out i hi h4
      ·obtain rfl:i=k:=by omega
       rw [hm2];exact he:chB (s.data.toList[i]).toNat=true))
     have HF:=hid (fun (he:¬chB m=true)=>(by
      rw [HR.out,←Bool.not_eq_true]
      intro hh
      have:=List.all_eq_true.1 hh _ (List.getElem_mem hkl)
      rw [hm2] at this
      exact he this:b=false))
     have hm256:m<256:=by rw [←hm];exact UInt8.toNat_lt _
     clear hm2 HR
     have hcs:(0≤m∧m≤44)∨m=45∨(46≤m∧m≤47)∨(48≤m∧m≤57)∨(58≤m∧m≤64)∨(65≤m∧m≤90)∨(91≤m∧m≤94)∨m=95∨m=96∨(97≤m∧m≤122)∨(123≤m∧m≤255):=by omega
     rcases hcs with hm|rfl|hm|hm|hm|hm|hm|rfl|rfl|hm|hm
     ·have q0:decide (97≤(m:Int))=false:=decide_eq_false (by omega)
      have q1:decide ((m:Int)≤122)=true:=decide_eq_true (by omega)
      have q2:decide (65≤(m:Int))=false:=decide_eq_false (by omega)
      have q3:decide ((m:Int)≤90)=true:=decide_eq_true (by omega)
      have q4:decide (48≤(m:Int))=false:=decide_eq_false (by omega)
      have q5:decide ((m:Int)≤57)=true:=decide_eq_true (by omega)
      have e45:((m:Int)==45)=false:=by rw [beq_eq_false_iff_ne];omega
      have e95:((m:Int)==95)=false:=by rw [beq_eq_false_iff_ne];omega
      have HF2:=hid (HF.out (by rw [chB_iff];omega))
      clear HT HF
      go_wp2_with fail
      go_ret
      exact ⟨ret_bool HF2.out.symm,rfl⟩
     ·skip
      have HT2:=hid (HT.out (by rw [chB_iff];omega))
      clear HT HF
      go_wp2_with fail
      refine ⟨⟨k+1,by omega,by go_num,HT2.out⟩,?_⟩
      simp [intM];omega
     ·have q0:decide (97≤(m:Int))=false:=decide_eq_false (by omega)
      have q1:decide ((m:Int)≤122)=true:=decide_eq_true (by omega)
      have q2:decide (65≤(m:Int))=false:=decide_eq_false (by omega)
      have q3:decide ((m:Int)≤90)=true:=decide_eq_true (by omega)
      have q4:decide (48≤(m:Int))=false:=decide_eq_false (by omega)
      have q5:decide ((m:Int)≤57)=true:=decide_eq_true (by omega)
      have e45:((m:Int)==45)=false:=by rw [beq_eq_false_iff_ne];omega
      have e95:((m:Int)==95)=false:=by rw [beq_eq_false_iff_ne];omega
      have HF2:=hid (HF.out (by rw [chB_iff];omega))
      clear HT HF
      go_wp2_with fail
      go_ret
      exact ⟨ret_bool HF2.out.symm,rfl⟩
     ·have q0:decide (97≤(m:Int))=false:=decide_eq_false (by omega)
      have q1:decide ((m:Int)≤122)=true:=decide_eq_true (by omega)
      have q2:decide (65≤(m:Int))=false:=decide_eq_false (by omega)
      have q3:decide ((m:Int)≤90)=true:=decide_eq_true (by omega)
      have q4:decide (48≤(m:Int))=true:=decide_eq_true (by omega)
      have q5:decide ((m:Int)≤57)=true:=decide_eq_true (by omega)
      have e45:((m:Int)==45)=false:=by rw [beq_eq_false_iff_ne];omega
      have e95:((m:Int)==95)=false:=by rw [beq_eq_false_iff_ne];omega
      have HT2:=hid (HT.out (by rw [chB_iff];omega))
      clear HT HF
      go_wp2_with fail
      refine ⟨⟨k+1,by omega,by go_num,HT2.out⟩,?_⟩
      simp [intM];omega
     ·have q0:decide (97≤(m:Int))=false:=decide_eq_false (by omega)
      have q1:decide ((m:Int)≤122)=true:=decide_eq_true (by omega)
      have q2:decide (65≤(m:Int))=false:=decide_eq_false (by omega)
      have q3:decide ((m:Int)≤90)=true:=decide_eq_true (by omega)
      have q4:decide (48≤(m:Int))=true:=decide_eq_true (by omega)
      have q5:decide ((m:Int)≤57)=false:=decide_eq_false (by omega)
      have e45:((m:Int)==45)=false:=by rw [beq_eq_false_iff_ne];omega
      have e95:((m:Int)==95)=false:=by rw [beq_eq_false_iff_ne];omega
      have HF2:=hid (HF.out (by rw [chB_iff];omega))
      clear HT HF
      go_wp2_with fail
      go_ret
      exact ⟨ret_bool HF2.out.symm,rfl⟩
     ·have q0:decide (97≤(m:Int))=false:=decide_eq_false (by omega)
      have q1:decide ((m:Int)≤122)=true:=decide_eq_true (by omega)
      have q2:decide (65≤(m:Int))=true:=decide_eq_true (by omega)
      have q3:decide ((m:Int)≤90)=true:=decide_eq_true (by omega)
      have q4:decide (48≤(m:Int))=true:=decide_eq_true (by omega)
      have q5:decide ((m:Int)≤57)=false:=decide_eq_false (by omega)
      have e45:((m:Int)==45)=false:=by rw [beq_eq_false_iff_ne];omega
      have e95:((m:Int)==95)=false:=by rw [beq_eq_false_iff_ne];omega
      have HT2:=hid (HT.out (by rw [chB_iff];omega))
      clear HT HF
      go_wp2_with fail
      refine ⟨⟨k+1,by omega,by go_num,HT2.out⟩,?_⟩
      simp [intM];omega
     ·have q0:decide (97≤(m:Int))=false:=decide_eq_false (by omega)
      have q1:decide ((m:Int)≤122)=true:=decide_eq_true (by omega)
      have q2:decide (65≤(m:Int))=true:=decide_eq_true (by omega)
      have q3:decide ((m:Int)≤90)=false:=decide_eq_false (by omega)
      have q4:decide (48≤(m:Int))=true:=decide_eq_true (by omega)
      have q5:decide ((m:Int)≤57)=false:=decide_eq_false (by omega)
      have e45:((m:Int)==45)=false:=by rw [beq_eq_false_iff_ne];omega
      have e95:((m:Int)==95)=false:=by rw [beq_eq_false_iff_ne];omega
      have HF2:=hid (HF.out (by rw [chB_iff];omega))
      clear HT HF
      go_wp2_with fail
      go_ret
      exact ⟨ret_bool HF2.out.symm,rfl⟩
     ·skip
      have HT2:=hid (HT.out (by rw [chB_iff];omega))
      clear HT HF
      go_wp2_with fail
      refine ⟨⟨k+1,by omega,by go_num,HT2.out⟩,?_⟩
      simp [intM];omega
     ·skip
      have HF2:=hid (HF.out (by rw [chB_iff];omega))
      clear HT HF
      go_wp2_with fail
      go_ret
      exact ⟨ret_bool HF2.out.symm,rfl⟩
     ·have q0:decide (97≤(m:Int))=true:=decide_eq_true (by omega)
      have q1:decide ((m:Int)≤122)=true:=decide_eq_true (by omega)
      have q2:decide (65≤(m:Int))=true:=decide_eq_true (by omega)
      have q3:decide ((m:Int)≤90)=false:=decide_eq_false (by omega)
      have q4:decide (48≤(m:Int))=true:=decide_eq_true (by omega)
      have q5:decide ((m:Int)≤57)=false:=decide_eq_false (by omega)
      have e45:((m:Int)==45)=false:=by rw [beq_eq_false_iff_ne];omega
      have e95:((m:Int)==95)=false:=by rw [beq_eq_false_iff_ne];omega
      have HT2:=hid (HT.out (by rw [chB_iff];omega))
      clear HT HF
      go_wp2_with fail
      refine ⟨⟨k+1,by omega,by go_num,HT2.out⟩,?_⟩
      simp [intM];omega
     ·have q0:decide (97≤(m:Int))=true:=decide_eq_true (by omega)
      have q1:decide ((m:Int)≤122)=false:=decide_eq_false (by omega)
      have q2:decide (65≤(m:Int))=true:=decide_eq_true (by omega)
      have q3:decide ((m:Int)≤90)=false:=decide_eq_false (by omega)
      have q4:decide (48≤(m:Int))=true:=decide_eq_true (by omega)
      have q5:decide ((m:Int)≤57)=false:=decide_eq_false (by omega)
      have e45:((m:Int)==45)=false:=by rw [beq_eq_false_iff_ne];omega
      have e95:((m:Int)==95)=false:=by rw [beq_eq_false_iff_ne];omega
      have HF2:=hid (HF.out (by rw [chB_iff];omega))
      clear HT HF
      go_wp2_with fail
      go_ret
      exact ⟨ret_bool HF2.out.symm,rfl⟩
    ·obtain hkn:k=s.size:=by omega
     have HE:Hid (b=true):=hid (by
      rw [HR.out]
      refine List.all_eq_true.2 (fun x hx=>?_)
      obtain ⟨i,hi,rfl⟩:=List.getElem_of_mem hx
      exact HOK.out i hi (by have:=HL.out;omega))
     subst hkn
     clear HOK HR
     go_wp2_with fail
     go_ret
     exact ⟨ret_bool HE.out.symm,rfl⟩
end Go.Proofs.YtpgckpafjiojfaaGreatDoor.BW
