/- A region that draws its order, by an invariant over what each operation has yielded; the frame is spelled by the law itself. -/
import Derived.Test.YtpgckpafjiojfaaGreatDoorAGh
namespace Go.Proofs.YtpgckpafjiojfaaGreatDoor.AD
open Go Go.RowKit
def notYet(listed:Array Bool):Nat:=listed.toList.countP (fun b=>!b)
theorem notYet_set{listed:Array Bool}{i:Nat}(hi:listed[i]? = some false):notYet (listed.setIfInBounds i true)+1=notYet listed:=by
 obtain ⟨l⟩:=listed
 simp only [notYet,List.setIfInBounds_toArray,List.toList_toArray]
 have hi':l[i]? = some false:=by simpa using hi
 clear hi
 induction l generalizing i with
 | nil=>simp at hi'
 | cons b l ih =>
  cases i with
  | zero =>
   simp at hi'
   subst hi'
   simp
  | succ i =>
   rw [List.set_cons_succ,List.countP_cons,List.countP_cons]
   have:=ih (by simpa using hi')
   omega
theorem ready_mem{md:Region.Mode}{ops:Array Oper}{listed:Array Bool}(hs:listed.size=ops.size){i:Nat}(h:i∈Region.ready md ops listed):listed[i]? = some false∧∃o,ops[i]? = some o∧∀e∈o.after,Region.binds md e=true→listed.getD e.on false=true:=by
 unfold Region.ready at h
 rw [List.mem_filter,List.mem_range,Bool.and_eq_true] at h
 obtain ⟨hlt,h1,h2⟩:=h
 have hl:i<listed.size:=by omega
 refine ⟨?_,ops[i],Array.getElem?_eq_getElem hlt,fun e he hb=>?_⟩
 ·rw [Array.getD_eq_getD_getElem?,Array.getElem?_eq_getElem hl] at h1
  rw [Array.getElem?_eq_getElem hl]
  simpa using h1
 ·rw [Array.getElem?_eq_getElem hlt] at h2
  simp only [Option.map_some,Option.getD_some,Array.all_eq_true',Bool.or_eq_true,Bool.not_eq_true'] at h2
  rcases h2 e he with h3|h3
  ·rw [hb] at h3;cases h3
  ·exact h3
theorem wpAny_inv{P:Program}{md:Region.Mode}{ops:Array Oper}{Q:Exit→Act→World→Prop}{I:Array Bool→Act→World→Prop}
 (hstep:∀(listed:Array Bool) (a:Act) (w:World) (i:Nat) (o:Oper),listed.size=ops.size→ops[i]? = some o→listed[i]? = some false→(∀e∈o.after,Region.binds md e=true→listed.getD e.on false=true)→I listed a w→wpOp P ops Q i (fun a' w'=>I (listed.setIfInBounds i true) a' w') a w)
 (hend:∀(listed:Array Bool) (a:Act) (w:World),listed.size=ops.size→Region.ready md ops listed=[]→I listed a w→Q .normal a w) :
 ∀(fuel:Nat) (listed:Array Bool) (a:Act) (w:World),listed.size=ops.size→notYet listed≤fuel→I listed a w→wpAny P md ops Q fuel listed a w
 | 0,listed,a,w,hs,hf,hI=>by
  have hr:Region.ready md ops listed=[]:=by
   cases h:Region.ready md ops listed with
   | nil=>rfl
   | cons i r =>
    obtain ⟨h1,_⟩:=ready_mem hs (show i∈Region.ready md ops listed by rw [h];exact List.mem_cons_self)
    have:=notYet_set h1
    omega
  exact ⟨hr,hend listed a w hs hr hI⟩
 | fuel+1,listed,a,w,hs,hf,hI =>
  ⟨fun hr=>hend listed a w hs hr hI,fun i hi=>by
   obtain ⟨h1,o,ho,ha⟩:=ready_mem hs hi
   refine wpOp_mono (fun a' w' h'=>wpAny_inv hstep hend fuel _ a' w' (by rw [Array.size_setIfInBounds];exact hs) ?_ h') (hstep listed a w i o hs ho h1 ha hI)
   have:=notYet_set h1
   omega⟩
theorem wp_region_inv{P:Program}{id:Nat}{l:List Oper}{Q:Exit→Act→World→Prop}{a:Act}{w:World}{I:Array Bool→Act→World→Prop}(hm:P.follows .mixedOrders=true)
 (hI:I (Array.replicate l.length false) a w.drew)
 (hstep:∀(listed:Array Bool) (a:Act) (w:World) (i:Nat) (o:Oper),listed.size=l.length→l[i]? = some o→listed[i]? = some false→(∀e∈o.after,Region.binds .any e=true→listed.getD e.on false=true)→I listed a w→wpOp P l.toArray Q i (fun a' w'=>I (listed.setIfInBounds i true) a' w') a w)
 (hend:∀(listed:Array Bool) (a:Act) (w:World),listed.size=l.length→Region.ready .any l.toArray listed=[]→I listed a w→Q .normal a w):(Code.region id l.toArray true).wp P Q a w :=
 wp_region_any hm (wpAny_inv (I:=I) (fun listed a w i o h1 h2 h3 h4 h5=>hstep listed a w i o (by simpa using h1) (by simpa using h2) h3 h4 h5) (fun listed a w h1 h2 h3=>hend listed a w (by simpa using h1) h2 h3) _ _ a w.drew (by simp) (by
  simp only [notYet]
  exact Nat.le_trans List.countP_le_length (by simp)) (by simpa using hI))
def updC(v:Nat→Value)(i:Nat)(u:Value):Nat→Value:=fun j=>if j=i then u else v j
theorem dep_listed{listed:Array Bool}{o:Oper}(ha:∀e∈o.after,Region.binds .any e=true→listed.getD e.on false=true)(j:Nat)(hj:(o.after.any fun e=>Region.binds .any e&&e.on==j)=true):listed[j]? = some true:=by
 obtain ⟨e,he,h2⟩:=Array.any_eq_true'.1 hj
 rw [Bool.and_eq_true,beq_iff_eq] at h2
 have h3:=ha e he h2.1
 rw [h2.2] at h3
 rw [Array.getD_eq_getD_getElem?] at h3
 cases hv:listed[j]? with
 | none=>rw [hv] at h3;cases h3
 | some b=>rw [hv] at h3;simpa using h3
def putFrom:Nat→List Oper→(Nat→Value)→Act→Act
 | _,[],_,a=>a
 | n,o::r,v,a=>putFrom (n+1) r v (a.put o.dst (v n))
theorem pq:(∀(n:Nat) (v:Nat→Value) (a:Act),putFrom n [] v a=a)∧(∀(n:Nat) (o:Oper) (r:List Oper) (v:Nat→Value) (a:Act),putFrom n (o::r) v a=putFrom (n+1) r v (a.put o.dst (v n)))∧(∀(a:Act) (t:Tmp) (u:Value),a.put (some t) u={ a with tmps:=a.tmps.setIfInBounds t u })∧(∀(a:Act) (u:Value),a.put none u=a)∧(∀(l:List Value) (i:Nat) (x:Value),l.toArray.setIfInBounds i x=(l.set i x).toArray)∧(∀(x:Value) (l:List Value) (n:Nat) (y:Value),(x::l).set (n+1) y=x::l.set n y)∧∀(x:Value) (l:List Value) (y:Value),(x::l).set 0 y=y::l :=
 ⟨fun _ _ _=>rfl,fun _ _ _ _ _=>rfl,fun _ _ _=>rfl,fun _ _=>rfl,fun _ _ _=>by simp,fun _ _ _ _=>rfl,fun _ _ _=>rfl⟩
theorem pt:(∀(n:Nat) (o:Oper) (l:List Oper),(o::l).take (n+1)=o::l.take n)∧(∀l:List Oper,l.take 0=[])∧(∀(n:Nat) (v:Nat→Value) (a:Act),putFrom n [] v a=a)∧(∀(n:Nat) (o:Oper) (r:List Oper) (v:Nat→Value) (a:Act),putFrom n (o::r) v a=putFrom (n+1) r v (a.put o.dst (v n)))∧(∀(a:Act) (t:Tmp) (u:Value),a.put (some t) u={ a with tmps:=a.tmps.setIfInBounds t u })∧(∀(a:Act) (u:Value),a.put none u=a)∧(∀(l:List Value) (i:Nat) (x:Value),l.toArray.setIfInBounds i x=(l.set i x).toArray)∧(∀(x:Value) (l:List Value) (n:Nat) (y:Value),(x::l).set (n+1) y=x::l.set n y)∧∀(x:Value) (l:List Value) (y:Value),(x::l).set 0 y=y::l :=
 ⟨fun _ _ _=>rfl,fun _=>rfl,pq⟩
theorem put_put(a:Act)(d:Option Tmp)(x y:Value):(a.put d x).put d y=a.put d y:=by
 cases d with
 | none=>rfl
 | some t=>simp [Act.put]
theorem put_comm(a:Act){d e:Option Tmp}(h:d=e→d=none)(x y:Value):(a.put d x).put e y=(a.put e y).put d x:=by
 cases d with
 | none=>rfl
 | some t =>
  cases e with
  | none=>rfl
  | some u =>
   have hne:t≠u:=fun e=>by have:=h (by rw [e]);cases this
   simp only [Act.put]
   congr 1
   exact Array.setIfInBounds_comm _ _ hne
theorem put_self(a:Act)(t:Tmp):a.put (some t) (a.tmps.getD t undef)=a:=by
 obtain ⟨tm,df⟩:=a
 simp only [Act.put,Act.mk.injEq,and_true]
 apply Array.ext
 ·simp
 ·intro i h1 h2
  rw [Array.getElem_setIfInBounds (by simpa using h1)]
  split
  ·rename_i e
   subst e
   rw [Array.getD_eq_getD_getElem?,Array.getElem?_eq_getElem h2]
   rfl
  ·rfl
theorem putFrom_put{l:List Oper}:∀(n:Nat) (v:Nat→Value) (a:Act) (d:Option Tmp) (u:Value),(∀o∈l,o.dst=d→d=none)→putFrom n l v (a.put d u)=(putFrom n l v a).put d u:=by
 induction l with
 | nil=>intros;rfl
 | cons o r ih =>
  intro n v a d u h
  simp only [putFrom]
  rw [←put_comm a (d:=o.dst) (e:=d) (fun e=>by rw [e];exact h o List.mem_cons_self e) (v n) u]
  exact ih _ _ _ _ _ fun o' ho'=>h o' (List.mem_cons_of_mem _ ho')
theorem putFrom_same{l:List Oper}:∀(n:Nat) (v w:Nat→Value) (a:Act),(∀i,n≤i→v i=w i)→putFrom n l v a=putFrom n l w a:=by
 induction l with
 | nil=>intros;rfl
 | cons o r ih =>
  intro n v w a h
  simp only [putFrom]
  rw [h n (Nat.le_refl _)]
  exact ih _ _ _ _ fun i hi=>h i (by omega)
def apartB(l:List Oper):Bool:=decide ((l.filterMap (·.dst)).Nodup)
theorem apart_tail{o:Oper}{r:List Oper}(h:(List.filterMap (·.dst) (o::r)).Nodup):(r.filterMap (·.dst)).Nodup∧∀o'∈r,o'.dst=o.dst→o.dst=none:=by
 cases hd:o.dst with
 | none =>
  rw [List.filterMap_cons_none hd] at h
  exact ⟨h,fun _ _ _=>rfl⟩
 | some t =>
  rw [List.filterMap_cons_some hd,List.nodup_cons] at h
  exact ⟨h.2,fun o' ho' e=>absurd (List.mem_filterMap.2 ⟨o',ho',e⟩) h.1⟩
theorem putFrom_upd{l:List Oper}:∀(n i:Nat) (v:Nat→Value) (a:Act) (o:Oper) (u:Value),(l.filterMap (·.dst)).Nodup→l[i]? = some o→(putFrom n l v a).put o.dst u=putFrom n l (updC v (n+i) u) a:=by
 induction l with
 | nil=>intro n i v a o u _ h;simp at h
 | cons p r ih =>
  intro n i v a o u hd h
  obtain ⟨h1,h2⟩:=apart_tail hd
  cases i with
  | zero =>
   simp at h
   subst h
   simp only [putFrom,Nat.add_zero]
   rw [←putFrom_put (n+1) v _ p.dst u h2,put_put]
   have e:updC v n u n=u:=by unfold updC;rw [if_pos rfl]
   rw [e]
   exact putFrom_same _ _ _ _ fun i hi=>by unfold updC;rw [if_neg (by omega)]
  | succ i =>
   simp only [putFrom]
   have:=ih (n+1) i v (a.put p.dst (v n)) o u h1 (by simpa using h)
   rw [this]
   have e:updC v (n+1+i) u=updC v (n+(i+1)) u:=by rw [show n+1+i=n+(i+1) by omega]
   have e2:updC v (n+(i+1)) u n=v n:=by unfold updC;rw [if_neg (by omega)]
   rw [e,e2]
def seenFrom(a:Act)(l:List Oper)(n i:Nat):Value:=match l[i - n]? with
 | some o=>match o.dst with
  | some t=>a.tmps.getD t undef
  | none=>undef
 | none=>undef
theorem putFrom_seen{a:Act}{l:List Oper}:∀(n:Nat) (v:Nat→Value),(∀(i:Nat) (o:Oper) (t:Tmp),l[i]? = some o→o.dst=some t→v (n+i)=a.tmps.getD t undef)→putFrom n l v a=a:=by
 induction l with
 | nil=>intros;rfl
 | cons o r ih =>
  intro n v h
  simp only [putFrom]
  have e:a.put o.dst (v n)=a:=by
   cases hd:o.dst with
   | none=>rfl
   | some t =>
    have:=h 0 o t rfl hd
    rw [Nat.add_zero] at this
    rw [this]
    exact put_self a t
  rw [e]
  exact ih (n+1) v fun i o' t hi ht=>by
   have:=h (i+1) o' t (by simpa using hi) ht
   rwa [show n+(i+1)=n+1+i by omega] at this
def elderB(l:List Oper):Bool:=(List.range l.length).all fun i=>match l[i]? with|some o=>o.after.all (fun e=>!Region.binds .any e||decide (e.on<i))|none=>true
theorem all_listed2{l:List Oper}{listed:Array Bool}(hs:listed.size=l.length)(hb:elderB l=true)(h:Region.ready .any l.toArray listed=[]):∀i,i<l.length→listed[i]? = some true:=by
 intro i
 induction i using Nat.strongRecOn with
 | ind i ih =>
  intro hi
  have hl:i<listed.size:=by omega
  cases hv:listed[i] with
  | true=>rw [Array.getElem?_eq_getElem hl,hv]
  | false =>
   exfalso
   have:i∈Region.ready .any l.toArray listed:=by
    unfold Region.ready
    rw [List.mem_filter,List.mem_range,Bool.and_eq_true]
    refine ⟨by simpa using hi,?_,?_⟩
    ·rw [Array.getD_eq_getD_getElem?,Array.getElem?_eq_getElem hl,hv];rfl
    ·have ho:l.toArray[i]? = some l[i]:=by simp [hi]
     rw [ho]
     simp only [Option.map_some,Option.getD_some,Array.all_eq_true',Bool.or_eq_true,Bool.not_eq_true']
     intro e he
     have h1:=List.all_eq_true.1 hb i (List.mem_range.2 hi)
     rw [List.getElem?_eq_getElem hi] at h1
     have h2:=(Array.all_eq_true'.1 h1) e he
     simp only [Bool.or_eq_true,Bool.not_eq_true',decide_eq_true_eq] at h2
     rcases h2 with h2|h2
     ·exact .inl h2
     ·right
      rw [Array.getD_eq_getD_getElem?,ih e.on h2 (by omega)];rfl
   rw [h] at this
   cases this
theorem wp_region_put{P:Program}{id:Nat}{l:List Oper}{Q:Exit→Act→World→Prop}{a:Act}{w:World}{R:Array Bool→(Nat→Value)→World→Prop}(hm:P.follows .mixedOrders=true)(hg:(l.all fun o=>o.guard.isNone)=true)(hd:apartB l=true)(hb:elderB l=true)
 (h0:∀v,R (Array.replicate l.length false) v w.drew)
 (hstep:∀(Q':Exit→Act→World→Prop) (K:Act→World→Prop) (listed:Array Bool) (v:Nat→Value) (wx:World) (i:Nat) (o:Oper),listed.size=l.length→l[i]? = some o→listed[i]? = some false→(∀e∈o.after,Region.binds .any e=true→listed.getD e.on false=true)→R listed v wx →
  (∀u w',R (listed.setIfInBounds i true) (updC v i u) w'→K ((putFrom 0 l v a).put o.dst u) w')→o.wp P (putFrom 0 l v a) wx K Q')
 (hend:∀(v:Nat→Value) (listed:Array Bool) (wx:World),(∀i,i<l.length→listed[i]? = some true)→R listed v wx→Q .normal (putFrom 0 l v a) wx):(Code.region id l.toArray true).wp P Q a w:=by
 have hd':(l.filterMap (·.dst)).Nodup:=of_decide_eq_true hd
 refine wp_region_inv (I:=fun listed a' wx=>∃v,a'=putFrom 0 l v a∧R listed v wx) hm ?_ ?_ ?_
 ·refine ⟨seenFrom a l 0,?_,h0 _⟩
  refine (putFrom_seen 0 _ fun i o t hi ht=>?_).symm
  unfold seenFrom
  rw [show 0+i - 0=i by omega,hi]
  simp only [ht]
 ·rintro listed a' wx i o hsz ho hli ha ⟨v,rfl,hR⟩
  have hgo:o.guard=none:=by
   have:=List.all_eq_true.1 hg o (List.mem_of_getElem? ho)
   simpa using this
  refine wpOp_step (by simpa using ho) fun K' hK'=>?_
  have hw:Region.wanted o (yielded l.toArray (putFrom 0 l v a).tmps)=true:=by simp [Region.wanted,hgo]
  rw [if_pos hw]
  refine hstep Q K' listed v wx i o hsz ho hli ha hR fun u w' hR'=>hK' _ _ ⟨updC v i u,?_,hR'⟩
  have:=putFrom_upd (l:=l) 0 i v a o u hd' ho
  rwa [Nat.zero_add] at this
 ·rintro listed a' wx hsz hr ⟨v,rfl,hR⟩
  exact hend v listed wx (all_listed2 hsz hb hr) hR
theorem set_at{listed:Array Bool}{i:Nat}(j:Nat)(h:(listed.setIfInBounds i true)[j]? = some true):j=i∨listed[j]? = some true:=by
 by_cases e:i=j
 ·exact .inl e.symm
 ·rw [Array.getElem?_setIfInBounds_ne e] at h
  exact .inr h
theorem rep_not{n j:Nat}(h:(Array.replicate n false)[j]? = some true):False:=by
 rw [Array.getElem?_replicate] at h
 split at h<;>simp at h
theorem updC_ne{v:Nat→Value}{i j:Nat}{u:Value}(h:j≠i):updC v i u j=v j:=by unfold updC;rw [if_neg h]
theorem updC_eq{v:Nat→Value}{i:Nat}{u:Value}:updC v i u i=u:=by unfold updC;rw [if_pos rfl]
end Go.Proofs.YtpgckpafjiojfaaGreatDoor.AD
