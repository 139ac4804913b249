/- A drawn region: a head by an invariant over the operations that have come up, and a forced tail behind it. -/
import Derived.Test.YtpgckpafjiojfaaGreatDoorAIv
namespace Go.Proofs.YtpgckpafjiojfaaGreatDoor.AD
open Go Go.RowKit Go.Sort RK
theorem get_false{x:Array Bool}{j:Nat}(h:x.getD j true=false):x[j]? = some false:=by
 rw [Array.getD_eq_getD_getElem?] at h
 cases hv:x[j]? with
 | none=>rw [hv] at h;cases h
 | some b=>rw [hv] at h;simpa using h
theorem get_true{x:Array Bool}{j:Nat}(h:x.getD j false=true):x[j]? = some true:=by
 rw [Array.getD_eq_getD_getElem?] at h
 cases hv:x[j]? with
 | none=>rw [hv] at h;cases h
 | some b=>rw [hv] at h;simpa using h
theorem notYet_x0(n m:Nat):notYet (X0 n m)=m:=by
 unfold notYet X0
 rw [List.countP_append,List.countP_replicate,List.countP_replicate]
 simp
section
variable{ls ts:List Oper}
theorem head_ready(h:headB ls=true){x:Array Bool}(hx:x.size=ls.length+ts.length):∀j,j<ls.length→x.getD j false=false→∃i,i<ls.length∧i∈Region.ready .any (ls++ts).toArray x:=by
 intro j
 induction j using Nat.strongRecOn with
 | ind j ih =>
  intro hj hv
  by_cases hd:∀e∈ls[j].after,x.getD e.on false=true
  ·refine ⟨j,hj,?_⟩
   rw [mem_ready,atP_low hj]
   exact ⟨by rw [getD_any (by omega) true false];exact hv,ls[j],by simp [hj],fun e he _=>hd e he⟩
  ·simp only [Classical.not_forall] at hd
   obtain ⟨e,he,hne⟩:=hd
   have:=(head_after h (j:=j) (by simp [hj]:ls[j]? = some ls[j])).1 e he
   exact ih e.on this (by omega) (by simpa using hne)
variable{P:Program}{Q:Exit→Act→World→Prop}{I:Array Bool→Act→World→Prop}
theorem wpAny_tail_inv(ht:headB ls=true)(hsk:Region.sinkB .any (ls++ts).toArray ls.length=true)(hch:Region.chainB .any (ls++ts).toArray ls.length=true)(hne:0<ts.length)(hseq:Region.seqB .any (ls++ts).toArray ts.length ls.length (X0 ls.length ts.length)=true)
 (hstep:∀(x:Array Bool) (a:Act) (w:World) (i:Nat) (o:Oper),x.size=ls.length+ts.length→ls[i]? = some o→x[i]? = some false→(∀e∈o.after,Region.binds .any e=true→x.getD e.on false=true)→I x a w→wpOp P (ls++ts).toArray Q i (fun a' w'=>I (x.setIfInBounds i true) a' w') a w)
 (hend:∀(x:Array Bool) (a:Act) (w:World),(∀j,j<ls.length→x[j]? = some true)→I x a w→wpList P (ls++ts).toArray Q ts a w) :
 ∀(fuel:Nat) (x:Array Bool) (a:Act) (w:World),HeadInv .any (ls++ts).toArray ls.length x→notYet x≤fuel→I x a w→wpAny P .any (ls++ts).toArray Q fuel x a w:=by
 intro fuel
 induction fuel with
 | zero =>
  intro x a w inv hf hI
  have h:=get_false (inv.tail ls.length (Nat.le_refl _) (by simp;omega))
  have:=notYet_set h
  omega
 | succ fuel ih =>
  intro x a w inv hf hI
  have hx:x.size=ls.length+ts.length:=by have:=inv.size;simpa using this
  by_cases hall:∀j,j<ls.length→x.getD j false=true
  ·have hx0:x=X0 ls.length ts.length:=x0_of hx hall (fun j h1 h2=>getD_both (inv.tail j h1 (by simpa using h2)))
   have hn:notYet x=ts.length:=by rw [hx0];exact notYet_x0 _ _
   obtain ⟨d,hd⟩:∃d,fuel+1=d+ts.length:=⟨fuel+1 - ts.length,by omega⟩
   have he:=hend x a w (fun j hj=>get_true (hall j hj)) hI
   subst hx0
   rw [hd]
   exact wpAny_add _ d _ _ _ (wpAny_of_seq ts ls.length _ a w (fun j=>by rw [List.getElem?_toArray,List.getElem?_append_right (by omega),show ls.length+j - ls.length=j by omega]) hseq he)
  ·simp only [Classical.not_forall] at hall
   obtain ⟨j,hj,hv⟩:=hall
   obtain ⟨i0,hlt0,hi0⟩:=head_ready (ts:=ts) ht hx j hj (by simpa using hv)
   refine ⟨fun hn'=>(by rw [hn'] at hi0;cases hi0),fun i hi=>?_⟩
   rcases Nat.lt_or_ge i ls.length with h2|h2
   ·obtain ⟨h1,o,ho,hd⟩:=mem_ready.1 hi
    have hli:=get_false h1
    have ho':ls[i]? = some o:=by rw [atP_low h2] at ho;simpa using ho
    refine wpOp_mono (fun a' w' h'=>ih (x.setIfInBounds i true) a' w' (inv.set hi h2) ?_ h') (hstep x a w i o hx ho' hli hd hI)
    have:=notYet_set hli
    omega
   ·exfalso
    exact tail_waits hsk hch (by simp;omega) inv (ls.length - i0) i0 rfl hlt0 (mem_ready.1 hi0).1 i h2 hi
end
theorem wp_region_put_tail{P:Program}{Q:Exit→Act→World→Prop}{id:Nat}{a:Act}{w:World}(L:List Oper)(k:Nat)(ts:List Oper){R:Array Bool→(Nat→Value)→World→Prop}(hL:L=L.take k++ts)(hm:P.follows .mixedOrders=true)(ht:headB (L.take k)=true)
 (hsk:Region.sinkB .any (L.take k++ts).toArray (L.take k).length=true) (hch:Region.chainB .any (L.take k++ts).toArray (L.take k).length=true) (hne:decide (0<ts.length)=true) (hseq:Region.seqB .any (L.take k++ts).toArray ts.length (L.take k).length (X0 (L.take k).length ts.length)=true)
 (hg:((L.take k).all fun o=>o.guard.isNone)=true) (hd:apartB (L.take k)=true)
 (h0:∀v,R (Array.replicate L.length false) v w.drew)
 (hstep:∀(Q':Exit→Act→World→Prop) (K:Act→World→Prop) (listed:Array Bool) (v:Nat→Value) (wx:World) (i:Nat) (o:Oper),listed.size=L.length→(L.take k)[i]? = some o→listed[i]? = some false→(∀e∈o.after,Region.binds .any e=true→listed.getD e.on false=true)→R listed v wx →
  (∀u w',R (listed.setIfInBounds i true) (updC v i u) w'→K ((putFrom 0 (L.take k) v a).put o.dst u) w')→o.wp P (putFrom 0 (L.take k) v a) wx K Q')
 (hend:∀(v:Nat→Value) (listed:Array Bool) (wx:World),(∀i,i<(L.take k).length→listed[i]? = some true)→R listed v wx→wpList P L.toArray Q ts (putFrom 0 (L.take k) v a) wx):(Code.region id L.toArray true).wp P Q a w:=by
 have hd':((L.take k).filterMap (·.dst)).Nodup:=of_decide_eq_true hd
 have hlen:L.length=(L.take k).length+ts.length:=by have:=congrArg List.length hL;rw [List.length_append] at this;exact this
 have e:(Code.region id (L.take k++ts).toArray true).wp P Q a w:=by
  refine wp_region_any hm ?_
  have inv0:HeadInv .any (L.take k++ts).toArray (L.take k).length (Array.replicate (L.take k++ts).toArray.size false) :=
   ⟨by simp,fun j oj _ hl=>(by rw [getD_replicate_false] at hl;cases hl),fun t _ ht=>getD_in (by simpa using ht) (getD_replicate_false _ _)⟩
  refine wpAny_tail_inv (I:=fun listed a' wx=>∃v,a'=putFrom 0 (L.take k) v a∧R listed v wx) ht hsk hch (of_decide_eq_true hne) hseq ?_ ?_ _ _ a w.drew inv0 ?_ ?_
  ·rintro listed a' wx i o hsz ho hli ha ⟨v,rfl,hR⟩
   have hgo:o.guard=none:=by
    have:=List.all_eq_true.1 hg o (List.mem_of_getElem? ho)
    simpa using this
   have hi:i<(L.take k).length:=(List.getElem?_eq_some_iff.1 ho).1
   refine wpOp_step (by rw [atP_low hi];simpa using ho) fun K' hK'=>?_
   have hw:Region.wanted o (yielded (L.take k++ts).toArray (putFrom 0 (L.take k) v a).tmps)=true:=by simp [Region.wanted,hgo]
   rw [if_pos hw]
   refine hstep Q K' listed v wx i o (by rw [hsz,hlen]) ho hli ha hR fun u w' hR'=>hK' _ _ ⟨updC v i u,?_,hR'⟩
   have:=putFrom_upd (l:=L.take k) 0 i v a o u hd' ho
   rwa [Nat.zero_add] at this
  ·rintro listed a' wx hall ⟨v,rfl,hR⟩
   have:=hend v listed wx hall hR
   have hA:L.toArray=(L.take k++ts).toArray:=congrArg List.toArray hL
   rw [hA] at this
   exact this
  ·simp only [notYet]
   exact Nat.le_trans List.countP_le_length (by simp)
  ·refine ⟨seenFrom a (L.take k) 0,?_,?_⟩
   ·refine (putFrom_seen 0 _ fun i o t hi ht=>?_).symm
    unfold seenFrom
    rw [show 0+i - 0=i by omega,hi]
    simp only [ht]
   ·have:=h0 (seenFrom a (L.take k) 0)
    rwa [hlen,←List.length_append,←List.size_toArray] at this
 rwa [←hL] at e
end Go.Proofs.YtpgckpafjiojfaaGreatDoor.AD
