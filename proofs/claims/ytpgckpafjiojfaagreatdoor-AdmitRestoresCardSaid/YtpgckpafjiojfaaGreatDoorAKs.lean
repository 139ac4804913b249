/- A drawn region whose guards are met, by an invariant; what AdmitRestores lays and calls. -/
import Derived.Test.YtpgckpafjiojfaaGreatDoorAKm
namespace Go.Proofs.YtpgckpafjiojfaaGreatDoor.AD
open Go Go.RowKit BW
open BK (Bx BoxAt RBoxAt Blk only_refl only_drew only_drewN only_setCell only_trans only_of_below only_alloc below_drewN)
theorem putFrom_size{l:List Oper}:∀(n:Nat) (v:Nat→Value) (a:Act),(putFrom n l v a).tmps.size=a.tmps.size:=by
 induction l with
 | nil=>intro n v a;rfl
 | cons o r ih =>
  intro n v a
  simp only [putFrom]
  rw [ih]
  cases hd:o.dst with
  | none=>rfl
  | some t=>simp [Act.put]
theorem putFrom_at{l:List Oper}{v:Nat→Value}{a:Act}{i:Nat}{o:Oper}{t:Tmp}(hd:(l.filterMap (·.dst)).Nodup)(hi:l[i]? = some o)(ht:o.dst=some t)(hs:t<a.tmps.size):(putFrom 0 l v a).tmps[t]? = some (v i):=by
 have h:=putFrom_upd (l:=l) 0 i v a o (v i) hd hi
 rw [Nat.zero_add] at h
 have e:updC v i (v i)=v:=by
  funext j
  by_cases h1:j=i
  ·subst h1;exact updC_eq
  ·exact updC_ne h1
 rw [e,ht] at h
 have h2:=congrArg (fun b:Act=>b.tmps[t]?) h
 simp only [Act.put] at h2
 rw [←h2,Array.getElem?_setIfInBounds_self_of_lt (by rw [putFrom_size];exact hs)]
def guardB(gb:List (Nat × Bool))(l:List Oper):Bool:=l.all fun o=>match o.guard with|none=>true|some g=>gb.contains g&&o.after.any fun e=>Region.binds .any e&&e.on==g.1
def slotB(gb:List (Nat × Bool))(l:List Oper)(n:Nat):Bool:=gb.all fun g=>match l[g.1]? with|some o=>(match o.dst with|some t=>decide (t<n)|none=>false)|none=>false
theorem wp_region_put_met{P:Program}{id:Nat}{l:List Oper}{Q:Exit→Act→World→Prop}{a:Act}{w:World}{R:Array Bool→(Nat→Value)→World→Prop}(gb:List (Nat × Bool))(n:Nat)(hm:P.follows .mixedOrders=true)(hg:guardB gb l=true)(hb:elderB l=true)(hd:apartB l=true)(hn:a.tmps.size=n)(hs:slotB gb l n=true)
 (hmet:∀g∈gb,∀(listed:Array Bool) (v:Nat→Value) (wx:World),listed[g.1]? = some true→R listed v wx→v g.1=.bool g.2)
 (h0:∀v,R (Array.replicate l.length false) v w.drew)
 (hstep:∀(Q':Exit→Act→World→Prop) (K:Act→World→Prop) (listed:Array Bool) (v:Nat→Value) (wx:World) (i:Nat) (o:Oper),listed.size=l.length→l[i]? = some o→listed[i]? = some false→(∀e∈o.after,Region.binds .any e=true→listed.getD e.on false=true)→R listed v wx →
  (∀u w',R (listed.setIfInBounds i true) (updC v i u) w'→K ((putFrom 0 l v a).put o.dst u) w')→o.wp P (putFrom 0 l v a) wx K Q')
 (hend:∀(v:Nat→Value) (listed:Array Bool) (wx:World),(∀i,i<l.length→listed[i]? = some true)→R listed v wx→Q .normal (putFrom 0 l v a) wx):(Code.region id l.toArray true).wp P Q a w:=by
 have hd':(l.filterMap (·.dst)).Nodup:=of_decide_eq_true hd
 refine wp_region_inv (I:=fun listed a' wx=>∃v,a'=putFrom 0 l v a∧R listed v wx) hm ?_ ?_ ?_
 ·refine ⟨seenFrom a l 0,?_,h0 _⟩
  refine (putFrom_seen 0 _ fun i o t hi ht=>?_).symm
  unfold seenFrom
  rw [show 0+i - 0=i by omega,hi]
  simp only [ht]
 ·rintro listed a' wx i o hsz ho hli ha ⟨v,rfl,hR⟩
  have hw:Region.wanted o (yielded l.toArray (putFrom 0 l v a).tmps)=true:=by
   have h1:=List.all_eq_true.1 hg o (List.mem_of_getElem? ho)
   cases hgo:o.guard with
   | none=>simp [Region.wanted,hgo]
   | some g =>
    obtain ⟨j,b⟩:=g
    rw [hgo] at h1
    simp only [Bool.and_eq_true] at h1
    have hmem:(j,b)∈gb:=by simpa using h1.1
    have hl:=dep_listed ha j h1.2
    have hv:=hmet (j,b) hmem listed v wx hl hR
    have h2:=List.all_eq_true.1 hs (j,b) hmem
    simp only at h2 hv
    cases hlj:l[j]? with
    | none=>rw [hlj] at h2;cases h2
    | some oj =>
     rw [hlj] at h2
     simp only at h2
     cases hdj:oj.dst with
     | none=>rw [hdj] at h2;cases h2
     | some t =>
      rw [hdj] at h2
      have ht:t<a.tmps.size:=by rw [hn];exact of_decide_eq_true h2
      have hat:=putFrom_at (v:=v) (a:=a) hd' hlj hdj ht
      unfold Region.wanted
      rw [hgo]
      unfold yielded
      simp only [List.getElem?_toArray,hlj,Option.bind_some,hdj,hat,hv,beq_self_eq_true]
  refine wpOp_step (by simpa using ho) fun K' hK'=>?_
  rw [if_pos hw]
  refine hstep Q K' listed v wx i o hsz ho hli ha hR fun u w' hR'=>hK' _ _ ⟨updC v i u,?_,hR'⟩
  have:=putFrom_upd (l:=l) 0 i v a o u hd' ho
  rwa [Nat.zero_add] at this
 ·rintro listed a' wx hsz hr ⟨v,rfl,hR⟩
  exact hend v listed wx (all_listed2 hsz hb hr) hR
def QQ(gp rp:Value)(sb:Nat)(job now er:Int)(i:Nat)(v:Value):Prop:=match i with
 | 0=>v=gp
 | 1=>v=.pointer (some ⟨sb,1,none⟩)
 | 2=>v=.int .i64 job
 | 3=>v=.pointer (some ⟨sb,3,none⟩)
 | 4=>v=.int .i64 now
 | 5=>v=.int .i64 er
 | 6=>v=rp
 | 7=>v=.pointer (some ⟨sb,1,none⟩)
 | 8=>v=.int .i64 job
 | 9=>v=.pointer (some ⟨sb,3,none⟩)
 | 10=>v=.int .i64 now
 | 11=>v=.int .i64 er
 | 12=>v=.bool false
 | 13=>v=.bool false
 | 14=>v=gp
 | 15=>v=rp
 | 16=>v=.pointer (some ⟨sb,1,none⟩)
 | 17=>v=.int .i64 job
 | 18=>v=.pointer (some ⟨sb,3,none⟩)
 | 19=>v=.int .i64 now
 | 20=>v=.bool true
 | 21=>v=.bool false
 | 22=>v=.bool false
 | 23=>v=.bool false
 | 24=>v=gp
 | 26=>v=rp
 | 28=>v=.bool true
 | 29=>v=.bool false
 | 30=>v=.bool false
 | _=>True
structure RQ(S0 S1 S2:World→Prop)(C:Value→World→Prop)(gp rp:Value)(sb:Nat)(s:Stp)(er:Int)(listed:Array Bool)(v:Nat→Value)(W:World):Prop where
 pl:∀i,listed[i]? = some true→QQ gp rp sb s.job s.now er i (v i)
 s0:listed[5]? = some false→S0 W
 s1:listed[5]? = some true→listed[11]? = some false→S1 W
 s2:listed[11]? = some true→S2 W
 st:Blk W sb 86 (stC s)
 o:listed[11]? = some true→listed[5]? = some true
 c25:listed[25]? = some true→C (v 25) W∧listed[11]? = some true
 c27:listed[27]? = some true→C (v 27) W∧listed[11]? = some true
 d:∀i,(i=12∨i=13∨i=22∨i=23)→listed[i]? = some true→listed[11]? = some true
section
variable{S0 S1 S2:World→Prop}{C:Value→World→Prop}{gp rp:Value}{sb:Nat}{s:Stp}{er:Int}{listed:Array Bool}{v:Nat→Value}{W W':World}
theorem RQ.step(h:RQ S0 S1 S2 C gp rp sb s er listed v W){i:Nat}{u:Value}(hp:QQ gp rp sb s.job s.now er i u)(h5:i≠5∧i≠11∧i≠25∧i≠27)(hd:(i=12∨i=13∨i=22∨i=23)→listed[11]? = some true):RQ S0 S1 S2 C gp rp sb s er (listed.setIfInBounds i true) (updC v i u) W:=by
 have t:∀{j},j≠i→(listed.setIfInBounds i true)[j]? = some true→listed[j]? = some true:=fun hj hz=>(set_at _ hz).resolve_left hj
 have n5:∀{y},(listed.setIfInBounds i true)[5]? = y→listed[5]? = y:=fun hz=>by rw [Array.getElem?_setIfInBounds_ne h5.1] at hz;exact hz
 have n11:∀{y},(listed.setIfInBounds i true)[11]? = y→listed[11]? = y:=fun hz=>by rw [Array.getElem?_setIfInBounds_ne h5.2.1] at hz;exact hz
 refine ⟨fun m hm=>?_,fun hz=>h.s0 (n5 hz),fun hz hy=>h.s1 (n5 hz) (n11 hy),fun hz=>h.s2 (n11 hz),h.st,fun hz=>set_keep (h.o (n11 hz)),fun hz=>?_,fun hz=>?_,fun m hm hz=>?_⟩
 ·by_cases e:m=i
  ·subst e;rw [updC_eq];exact hp
  ·rw [updC_ne e];exact h.pl m (t e hm)
 ·rw [updC_ne (Ne.symm h5.2.2.1)]
  have h1:=h.c25 (t (Ne.symm h5.2.2.1) hz)
  exact ⟨h1.1,set_keep h1.2⟩
 ·rw [updC_ne (Ne.symm h5.2.2.2)]
  have h1:=h.c27 (t (Ne.symm h5.2.2.2) hz)
  exact ⟨h1.1,set_keep h1.2⟩
 ·by_cases e:m=i
  ·subst e;exact set_keep (hd hm)
  ·exact set_keep (h.d m hm (t e hz))
theorem RQ.call5(h:RQ S0 S1 S2 C gp rp sb s er listed v W)(hli:listed[5]? = some false)(hs:S1 W')(hst:Blk W' sb 86 (stC s)):RQ S0 S1 S2 C gp rp sb s er (listed.setIfInBounds 5 true) (updC v 5 (.int .i64 er)) W':=by
 have t:∀{j},j≠5→(listed.setIfInBounds 5 true)[j]? = some true→listed[j]? = some true:=fun hj hz=>(set_at _ hz).resolve_left hj
 have hl:5<listed.size:=(Array.getElem?_eq_some_iff.1 hli).1
 have no:∀{P:Prop},listed[11]? = some true→P:=fun hz=>by have:=h.o hz;rw [hli] at this;cases this
 refine ⟨fun m hm=>?_,fun hz=>?_,fun _ _=>hs,fun hz=>no (t (by decide) hz),hst,fun _=>?_,fun hz=>no (h.c25 (t (by decide) hz)).2,fun hz=>no (h.c27 (t (by decide) hz)).2,fun m hm hz=>no (h.d m hm (t (by omega) hz))⟩
 ·by_cases e:m=5
  ·subst e;rw [updC_eq];exact rfl
  ·rw [updC_ne e];exact h.pl m (t e hm)
 ·rw [Array.getElem?_setIfInBounds_self_of_lt hl] at hz;cases hz
 ·rw [Array.getElem?_setIfInBounds_self_of_lt hl]
theorem RQ.call11(h:RQ S0 S1 S2 C gp rp sb s er listed v W)(h5:listed[5]? = some true)(hli:listed[11]? = some false)(hs:S2 W')(hst:Blk W' sb 86 (stC s)):RQ S0 S1 S2 C gp rp sb s er (listed.setIfInBounds 11 true) (updC v 11 (.int .i64 er)) W':=by
 have t:∀{j},j≠11→(listed.setIfInBounds 11 true)[j]? = some true→listed[j]? = some true:=fun hj hz=>(set_at _ hz).resolve_left hj
 have hl:11<listed.size:=(Array.getElem?_eq_some_iff.1 hli).1
 have no:∀{P:Prop},listed[11]? = some true→P:=fun hz=>by rw [hli] at hz;cases hz
 refine ⟨fun m hm=>?_,fun hz=>?_,fun _ hz=>?_,fun _=>hs,hst,fun _=>set_keep h5,fun hz=>no (h.c25 (t (by decide) hz)).2,fun hz=>no (h.c27 (t (by decide) hz)).2,fun m hm hz=>no (h.d m hm (t (by omega) hz))⟩
 ·by_cases e:m=11
  ·subst e;rw [updC_eq];exact rfl
  ·rw [updC_ne e];exact h.pl m (t e hm)
 ·rw [Array.getElem?_setIfInBounds_ne (by decide)] at hz
  rw [h5] at hz;cases hz
 ·rw [Array.getElem?_setIfInBounds_self_of_lt hl] at hz;cases hz
theorem RQ.calm(h:RQ S0 S1 S2 C gp rp sb s er listed v W){i:Nat}{u:Value}(h11:listed[11]? = some true)(hi:i≠5∧i≠11)(hp:QQ gp rp sb s.job s.now er i u)(hb:Below W.heap.size W W')(hS:S2 W→S2 W')(hC:∀x,C x W→C x W')(hc:i=25∨i=27→C u W'):RQ S0 S1 S2 C gp rp sb s er (listed.setIfInBounds i true) (updC v i u) W':=by
 have t:∀{j},j≠i→(listed.setIfInBounds i true)[j]? = some true→listed[j]? = some true:=fun hj hz=>(set_at _ hz).resolve_left hj
 have k11:(listed.setIfInBounds i true)[11]? = some true:=set_keep h11
 have k5:(listed.setIfInBounds i true)[5]? = some true:=set_keep (h.o h11)
 refine ⟨fun m hm=>?_,fun hz=>?_,fun _ hz=>?_,fun _=>hS (h.s2 h11),h.st.below hb h.st.lt,fun _=>k5,fun hz=>⟨?_,k11⟩,fun hz=>⟨?_,k11⟩,fun _ _ _=>k11⟩
 ·by_cases e:m=i
  ·subst e;rw [updC_eq];exact hp
  ·rw [updC_ne e];exact h.pl m (t e hm)
 ·rw [k5] at hz;cases hz
 ·rw [k11] at hz;cases hz
 ·by_cases e:25=i
  ·rw [←e,updC_eq];exact hc (.inl e.symm)
  ·rw [updC_ne e];exact hC _ (h.c25 (t e hz)).1
 ·by_cases e:27=i
  ·rw [←e,updC_eq];exact hc (.inr e.symm)
  ·rw [updC_ne e];exact hC _ (h.c27 (t e hz)).1
end
def Q4c(sb tb:Nat)(x1 x2:Value)(i:Nat)(v:Value):Prop:=match i with
 | 0=>v=.pointer (some ⟨sb,0,none⟩)
 | 1=>v=x1
 | 3=>v=.pointer (some ⟨sb,1,none⟩)
 | 4=>v=x2
 | 6=>v=.pointer (some ⟨tb,0,none⟩)
 | _=>True
structure R4c(Z:World)(sb tb:Nat)(x1 x2:Value)(rs ts:List Int)(listed:Array Bool)(v:Nat→Value)(W:World):Prop where
 pl:∀i,listed[i]? = some true→Q4c sb tb x1 x2 i (v i)
 z:Below Z.heap.size Z W
 r2:listed[2]? = some true→W.ownsRow Z.heap.size 3 1 (v 2) rs.length (rs.map tcell)
 r5:listed[5]? = some true→W.ownsRow Z.heap.size 2 1 (v 5) ts.length (ts.map tcell)
theorem R4c.step{Z W W':World}{sb tb:Nat}{x1 x2:Value}{rs ts:List Int}{listed:Array Bool}{v:Nat→Value}(h:R4c Z sb tb x1 x2 rs ts listed v W){i:Nat}{u:Value}(hb:Below W.heap.size W W')(hp:Q4c sb tb x1 x2 i u)(h2:i=2→W'.ownsRow Z.heap.size 3 1 u rs.length (rs.map tcell))(h5:i=5→W'.ownsRow Z.heap.size 2 1 u ts.length (ts.map tcell)):R4c Z sb tb x1 x2 rs ts (listed.setIfInBounds i true) (updC v i u) W':=by
 have t:∀{j},j≠i→(listed.setIfInBounds i true)[j]? = some true→listed[j]? = some true:=fun hj hz=>(set_at _ hz).resolve_left hj
 refine ⟨fun m hm=>?_,h.z.trans (hb.mono h.z.size),fun hz=>?_,fun hz=>?_⟩
 ·by_cases e:m=i
  ·subst e;rw [updC_eq];exact hp
  ·rw [updC_ne e];exact h.pl m (t e hm)
 ·by_cases e:2=i
  ·rw [←e,updC_eq];exact h2 e.symm
  ·rw [updC_ne e];exact own_below (h.r2 (t e hz)) hb
 ·by_cases e:5=i
  ·rw [←e,updC_eq];exact h5 e.symm
  ·rw [updC_ne e];exact own_below (h.r5 (t e hz)) hb
structure ClI(w:World)(cb sb tb:Nat)(cc sc:Array Value)(rv tv bv:Value)(rs ts:List Int)(bs:List BxQ)(W:World):Prop where
 st:Blk W tb 95 #[rv,tv,bv]
 r:W.ownsRow w.heap.size 3 1 rv rs.length (rs.map tcell)
 t:W.ownsRow w.heap.size 2 1 tv ts.length (ts.map tcell)
 b:W.ownsRow w.heap.size 102 4 bv bs.length (bs.flatMap bxC)
 c:Blk W cb 31 cc
 s:Blk W sb 91 sc
 lo:w.heap.size≤tb
 bel:Below w.heap.size w W
section
variable{w W W' X Y:World}{cb sb tb:Nat}{cc sc:Array Value}{rv tv bv v':Value}{rs ts:List Int}{bs:List BxQ}{q:BxQ}
theorem ClI.next(h:ClI w cb sb tb cc sc rv tv bv rs ts bs W)(hb:Below W.heap.size W W'):ClI w cb sb tb cc sc rv tv bv rs ts bs W':=⟨h.st.below hb h.st.lt,own_below h.r hb,own_below h.t hb,own_below h.b hb,h.c.below hb h.c.lt,h.s.below hb h.s.lt,h.lo,h.bel.trans (hb.mono h.bel.size)⟩
theorem ClI.gateB(h:ClI w cb sb tb cc sc rv tv bv rs ts bs X)(hg:X.grownBy Y bv.ownBlock):Blk Y tb 95 #[rv,tv,bv]:=(hg.block _ h.st.lt (own_blk_ne h.b h.st (by decide))).trans h.st
theorem ClI.pushB(h:ClI w cb sb tb cc sc rv tv bv rs ts bs X)(hown:Y.ownsRow w.heap.size 102 4 v' (bs.length+1) (bs.flatMap bxC++bxC q))(hg:X.grownBy Y bv.ownBlock):ClI w cb sb tb cc sc rv tv v' rs ts (bs++[q]) (Y.setCell ⟨tb,2,none⟩ v'):=by
 have hst:=h.gateB hg
 have hc:=(hg.block _ h.c.lt (own_blk_ne h.b h.c (by decide))).trans h.c
 have hs:=(hg.block _ h.s.lt (own_blk_ne h.b h.s (by decide))).trans h.s
 refine ⟨by simpa using hst.set_ 2 v',own_set (own_other h.r h.b (by decide) hg) hst (by decide) 2 _,own_set (own_other h.t h.b (by decide) hg) hst (by decide) 2 _,?_,Blk.far hc (blk_ne hc hst (by decide)) _,Blk.far hs (blk_ne hs hst (by decide)) _,h.lo,(h.bel.grown hg h.bel.size fun k hk=>own_base h.b k hk).setCell h.lo _⟩
 rw [List.flatMap_append,List.flatMap_singleton,List.length_append]
 exact own_set hown hst (by decide) 2 _
end
end Go.Proofs.YtpgckpafjiojfaaGreatDoor.AD
