/- A drawn region whose head has non-binding edges and an assignment: a head by an invariant, with what the slots held before; the round of AdmitHolds that takes a launch. -/
import Derived.Test.YtpgckpafjiojfaaGreatDoorAJG
import Derived.Test.YtpgckpafjiojfaaGreatDoorAIw
namespace Go.Proofs.YtpgckpafjiojfaaGreatDoor.AD
open Go Go.RowKit Go.Sort RK BW
open BK (Bx BoxAt Blk)
def headP(ls:List Oper):Bool:=(List.range ls.length).all fun j=>((ls[j]?).map fun o=>o.after.all fun e=>!Region.binds .any e||decide (e.on<j)).getD false
theorem headP_after{ls:List Oper}(h:headP ls=true){j:Nat}{o:Oper}(ho:ls[j]? = some o):∀e∈o.after,Region.binds .any e=true→e.on<j:=by
 have hj:j<ls.length:=(List.getElem?_eq_some_iff.1 ho).1
 have:=List.all_eq_true.1 h j (List.mem_range.2 hj)
 rw [ho] at this
 simp only [Option.map_some,Option.getD_some,Array.all_eq_true',Bool.or_eq_true,Bool.not_eq_true',decide_eq_true_eq] at this
 intro e he hb
 rcases this e he with h1|h1
 ·rw [hb] at h1;cases h1
 ·exact h1
section
variable{ls ts:List Oper}
theorem headP_ready(h:headP ls=true){x:Array Bool}(hx:x.size=ls.length+ts.length):∀j,j<ls.length→x.getD j false=false→∃i,i<ls.length∧i∈Region.ready .any (ls++ts).toArray x:=by
 intro j
 induction j using Nat.strongRecOn with
 | ind j ih =>
  intro hj hv
  by_cases hd:∀e∈ls[j].after,Region.binds .any e=true→x.getD e.on false=true
  ·refine ⟨j,hj,?_⟩
   rw [mem_ready,atP_low hj]
   exact ⟨by rw [getD_any (by omega) true false];exact hv,ls[j],by simp [hj],hd⟩
  ·simp only [Classical.not_forall] at hd
   obtain ⟨e,he,hb,hne⟩:=hd
   have:=headP_after h (j:=j) (by simp [hj]:ls[j]? = some ls[j]) e he hb
   exact ih e.on this (by omega) (by simpa using hne)
variable{P:Program}{Q:Exit→Act→World→Prop}{I:Array Bool→Act→World→Prop}
theorem wpAny_tail_inv2(ht:headP ls=true)(hsk:Region.sinkB .any (ls++ts).toArray ls.length=true)(hch:Region.chainB .any (ls++ts).toArray ls.length=true)(hne:0<ts.length)(hseq:Region.seqB .any (ls++ts).toArray ts.length ls.length (X0 ls.length ts.length)=true)
 (hstep:∀(x:Array Bool) (a:Act) (w:World) (i:Nat) (o:Oper),x.size=ls.length+ts.length→ls[i]? = some o→x[i]? = some false→(∀e∈o.after,Region.binds .any e=true→x.getD e.on false=true)→I x a w→wpOp P (ls++ts).toArray Q i (fun a' w'=>I (x.setIfInBounds i true) a' w') a w)
 (hend:∀(x:Array Bool) (a:Act) (w:World),(∀j,j<ls.length→x[j]? = some true)→I x a w→wpList P (ls++ts).toArray Q ts a w) :
 ∀(fuel:Nat) (x:Array Bool) (a:Act) (w:World),HeadInv .any (ls++ts).toArray ls.length x→notYet x≤fuel→I x a w→wpAny P .any (ls++ts).toArray Q fuel x a w:=by
 intro fuel
 induction fuel with
 | zero =>
  intro x a w inv hf hI
  have h:=get_false (inv.tail ls.length (Nat.le_refl _) (by simp;omega))
  have:=notYet_set h
  omega
 | succ fuel ih =>
  intro x a w inv hf hI
  have hx:x.size=ls.length+ts.length:=by have:=inv.size;simpa using this
  by_cases hall:∀j,j<ls.length→x.getD j false=true
  ·have hx0:x=X0 ls.length ts.length:=x0_of hx hall (fun j h1 h2=>getD_both (inv.tail j h1 (by simpa using h2)))
   have hn:notYet x=ts.length:=by rw [hx0];exact notYet_x0 _ _
   obtain ⟨d,hd⟩:∃d,fuel+1=d+ts.length:=⟨fuel+1 - ts.length,by omega⟩
   have he:=hend x a w (fun j hj=>get_true (hall j hj)) hI
   subst hx0
   rw [hd]
   exact wpAny_add _ d _ _ _ (wpAny_of_seq ts ls.length _ a w (fun j=>by rw [List.getElem?_toArray,List.getElem?_append_right (by omega),show ls.length+j - ls.length=j by omega]) hseq he)
  ·simp only [Classical.not_forall] at hall
   obtain ⟨j,hj,hv⟩:=hall
   obtain ⟨i0,hlt0,hi0⟩:=headP_ready (ts:=ts) ht hx j hj (by simpa using hv)
   refine ⟨fun hn'=>(by rw [hn'] at hi0;cases hi0),fun i hi=>?_⟩
   rcases Nat.lt_or_ge i ls.length with h2|h2
   ·obtain ⟨h1,o,ho,hd⟩:=mem_ready.1 hi
    have hli:=get_false h1
    have ho':ls[i]? = some o:=by rw [atP_low h2] at ho;simpa using ho
    refine wpOp_mono (fun a' w' h'=>ih (x.setIfInBounds i true) a' w' (inv.set hi h2) ?_ h') (hstep x a w i o hx ho' hli hd hI)
    have:=notYet_set hli
    omega
   ·exfalso
    exact tail_waits hsk hch (by simp;omega) inv (ls.length - i0) i0 rfl hlt0 (mem_ready.1 hi0).1 i h2 hi
end
theorem wp_region_put_tail2{P:Program}{Q:Exit→Act→World→Prop}{id:Nat}{a:Act}{w:World}(L:List Oper)(k:Nat)(ts:List Oper){R:Array Bool→(Nat→Value)→World→Prop}(hL:L=L.take k++ts)(hm:P.follows .mixedOrders=true)(ht:headP (L.take k)=true)
 (hsk:Region.sinkB .any (L.take k++ts).toArray (L.take k).length=true) (hch:Region.chainB .any (L.take k++ts).toArray (L.take k).length=true) (hne:decide (0<ts.length)=true) (hseq:Region.seqB .any (L.take k++ts).toArray ts.length (L.take k).length (X0 (L.take k).length ts.length)=true)
 (hg:((L.take k).all fun o=>o.guard.isNone)=true) (hd:apartB (L.take k)=true)
 (h0:∀v:Nat→Value,(∀(i:Nat) (o:Oper) (t:Tmp),(L.take k)[i]? = some o→o.dst=some t→v i=a.tmps.getD t undef)→R (Array.replicate L.length false) v w.drew)
 (hstep:∀(Q':Exit→Act→World→Prop) (K:Act→World→Prop) (listed:Array Bool) (v:Nat→Value) (wx:World) (i:Nat) (o:Oper),listed.size=L.length→(L.take k)[i]? = some o→listed[i]? = some false→(∀e∈o.after,Region.binds .any e=true→listed.getD e.on false=true)→R listed v wx →
  (∀u w',R (listed.setIfInBounds i true) (updC v i u) w'→K ((putFrom 0 (L.take k) v a).put o.dst u) w')→o.wp P (putFrom 0 (L.take k) v a) wx K Q')
 (hend:∀(v:Nat→Value) (listed:Array Bool) (wx:World),(∀i,i<(L.take k).length→listed[i]? = some true)→R listed v wx→wpList P L.toArray Q ts (putFrom 0 (L.take k) v a) wx):(Code.region id L.toArray true).wp P Q a w:=by
 have hd':((L.take k).filterMap (·.dst)).Nodup:=of_decide_eq_true hd
 have hlen:L.length=(L.take k).length+ts.length:=by have:=congrArg List.length hL;rw [List.length_append] at this;exact this
 have e:(Code.region id (L.take k++ts).toArray true).wp P Q a w:=by
  refine wp_region_any hm ?_
  have inv0:HeadInv .any (L.take k++ts).toArray (L.take k).length (Array.replicate (L.take k++ts).toArray.size false) :=
   ⟨by simp,fun j oj _ hl=>(by rw [getD_replicate_false] at hl;cases hl),fun t _ ht=>getD_in (by simpa using ht) (getD_replicate_false _ _)⟩
  refine wpAny_tail_inv2 (I:=fun listed a' wx=>∃v,a'=putFrom 0 (L.take k) v a∧R listed v wx) ht hsk hch (of_decide_eq_true hne) hseq ?_ ?_ _ _ a w.drew inv0 ?_ ?_
  ·rintro listed a' wx i o hsz ho hli ha ⟨v,rfl,hR⟩
   have hgo:o.guard=none:=by
    have:=List.all_eq_true.1 hg o (List.mem_of_getElem? ho)
    simpa using this
   have hi:i<(L.take k).length:=(List.getElem?_eq_some_iff.1 ho).1
   refine wpOp_step (by rw [atP_low hi];simpa using ho) fun K' hK'=>?_
   have hw:Region.wanted o (yielded (L.take k++ts).toArray (putFrom 0 (L.take k) v a).tmps)=true:=by simp [Region.wanted,hgo]
   rw [if_pos hw]
   refine hstep Q K' listed v wx i o (by rw [hsz,hlen]) ho hli ha hR fun u w' hR'=>hK' _ _ ⟨updC v i u,?_,hR'⟩
   have:=putFrom_upd (l:=L.take k) 0 i v a o u hd' ho
   rwa [Nat.zero_add] at this
  ·rintro listed a' wx hall ⟨v,rfl,hR⟩
   have:=hend v listed wx hall hR
   have hA:L.toArray=(L.take k++ts).toArray:=congrArg List.toArray hL
   rw [hA] at this
   exact this
  ·simp only [notYet]
   exact Nat.le_trans List.countP_le_length (by simp)
  ·have hse:∀(i:Nat) (o:Oper) (t:Tmp),(L.take k)[i]? = some o→o.dst=some t→seenFrom a (L.take k) 0 i=a.tmps.getD t undef:=fun i o t hi ht=>by
    unfold seenFrom
    rw [show i - 0=i by omega,hi]
    simp only [ht]
   refine ⟨seenFrom a (L.take k) 0,(putFrom_seen 0 _ fun i o t hi ht=>by rw [Nat.zero_add];exact hse i o t hi ht).symm,?_⟩
   have:=h0 (seenFrom a (L.take k) 0) hse
   rwa [hlen,←List.length_append,←List.size_toArray] at this
 rwa [←hL] at e
end Go.Proofs.YtpgckpafjiojfaaGreatDoor.AD
