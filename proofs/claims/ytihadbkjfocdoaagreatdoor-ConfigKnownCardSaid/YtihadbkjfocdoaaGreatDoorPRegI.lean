/- A region that draws its order, by an invariant: what holds of the operations that have come up is kept by each that may come up next. For regions whose operations lay blocks in any order (PlanKnown's region 9). -/
import Derived.Test.YtihadbkjfocdoaaGreatDoorPEv
import Derived.OrdersHeld
namespace Go.Proofs.YtihadbkjfocdoaaGreatDoor.BW

/-- How many operations have not come up yet. -/
def notYet (listed : Array Bool) : Nat := listed.toList.countP (fun b => !b)
theorem notYet_set {listed : Array Bool} {i : Nat} (hi : listed[i]? = some false) : notYet (listed.setIfInBounds i true) + 1 = notYet listed := by
  obtain ⟨l⟩ := listed
  simp only [notYet, List.setIfInBounds_toArray, List.toList_toArray]
  have hi' : l[i]? = some false := by simpa using hi
  clear hi
  induction l generalizing i with
  | nil => simp at hi'
  | cons b l ih =>
    cases i with
    | zero =>
      simp at hi'
      subst hi'
      simp
    | succ i =>
      rw [List.set_cons_succ, List.countP_cons, List.countP_cons]
      have := ih (by simpa using hi')
      omega
theorem ready_mem {md : Region.Mode} {ops : Array Oper} {listed : Array Bool} (hs : listed.size = ops.size) {i : Nat} (h : i ∈ Region.ready md ops listed) : listed[i]? = some false ∧ ∃ o, ops[i]? = some o ∧ ∀ e ∈ o.after, Region.binds md e = true → listed.getD e.on false = true := by
  unfold Region.ready at h
  rw [List.mem_filter, List.mem_range, Bool.and_eq_true] at h
  obtain ⟨hlt, h1, h2⟩ := h
  have hl : i < listed.size := by omega
  refine ⟨?_, ops[i], Array.getElem?_eq_getElem hlt, fun e he hb => ?_⟩
  · rw [Array.getD_eq_getD_getElem?, Array.getElem?_eq_getElem hl] at h1
    rw [Array.getElem?_eq_getElem hl]
    simpa using h1
  · rw [Array.getElem?_eq_getElem hlt] at h2
    simp only [Option.map_some, Option.getD_some, Array.all_eq_true', Bool.or_eq_true, Bool.not_eq_true'] at h2
    rcases h2 e he with h3 | h3
    · rw [hb] at h3; cases h3
    · exact h3
theorem wpAny_inv {P : Program} {md : Region.Mode} {ops : Array Oper} {Q : Exit → Act → World → Prop} {I : Array Bool → Act → World → Prop}
    (hstep : ∀ (listed : Array Bool) (a : Act) (w : World) (i : Nat) (o : Oper), listed.size = ops.size → ops[i]? = some o → listed[i]? = some false → (∀ e ∈ o.after, Region.binds md e = true → listed.getD e.on false = true) → I listed a w → wpOp P ops Q i (fun a' w' => I (listed.setIfInBounds i true) a' w') a w)
    (hend : ∀ (listed : Array Bool) (a : Act) (w : World), listed.size = ops.size → Region.ready md ops listed = [] → I listed a w → Q .normal a w) :
    ∀ (fuel : Nat) (listed : Array Bool) (a : Act) (w : World), listed.size = ops.size → notYet listed ≤ fuel → I listed a w → wpAny P md ops Q fuel listed a w
  | 0, listed, a, w, hs, hf, hI => by
    have hr : Region.ready md ops listed = [] := by
      cases h : Region.ready md ops listed with
      | nil => rfl
      | cons i r =>
        obtain ⟨h1, _⟩ := ready_mem hs (show i ∈ Region.ready md ops listed by rw [h]; exact List.mem_cons_self)
        have := notYet_set h1
        omega
    exact ⟨hr, hend listed a w hs hr hI⟩
  | fuel + 1, listed, a, w, hs, hf, hI =>
    ⟨fun hr => hend listed a w hs hr hI, fun i hi => by
      obtain ⟨h1, o, ho, ha⟩ := ready_mem hs hi
      refine wpOp_mono (fun a' w' h' => wpAny_inv hstep hend fuel _ a' w' (by rw [Array.size_setIfInBounds]; exact hs) ?_ h') (hstep listed a w i o hs ho h1 ha hI)
      have := notYet_set h1
      omega⟩
/-- All have come up where none may come up, if each waits for elder ones alone. -/
theorem all_listed {md : Region.Mode} {ops : Array Oper} {listed : Array Bool} (hs : listed.size = ops.size) (hb : ∀ (i : Nat) (o : Oper), ops[i]? = some o → ∀ e ∈ o.after, e.on < i) (h : Region.ready md ops listed = []) : ∀ i, i < ops.size → listed[i]? = some true := by
  intro i
  induction i using Nat.strongRecOn with
  | ind i ih =>
    intro hi
    have hl : i < listed.size := by omega
    cases hv : listed[i] with
    | true => rw [Array.getElem?_eq_getElem hl, hv]
    | false =>
      exfalso
      have : i ∈ Region.ready md ops listed := by
        unfold Region.ready
        rw [List.mem_filter, List.mem_range, Bool.and_eq_true]
        refine ⟨hi, ?_, ?_⟩
        · rw [Array.getD_eq_getD_getElem?, Array.getElem?_eq_getElem hl, hv]; rfl
        · rw [Array.getElem?_eq_getElem hi]
          simp only [Option.map_some, Option.getD_some, Array.all_eq_true', Bool.or_eq_true, Bool.not_eq_true']
          intro e he
          right
          have h1 := hb i _ (Array.getElem?_eq_getElem hi) e he
          rw [Array.getD_eq_getD_getElem?, ih e.on h1 (by omega)]; rfl
      rw [h] at this
      cases this
theorem wp_region_inv {P : Program} {id : Nat} {l : List Oper} {Q : Exit → Act → World → Prop} {a : Act} {w : World} {I : Array Bool → Act → World → Prop} (hm : P.follows .mixedOrders = true)
    (hI : I (Array.replicate l.length false) a w.drew)
    (hstep : ∀ (listed : Array Bool) (a : Act) (w : World) (i : Nat) (o : Oper), listed.size = l.length → l[i]? = some o → listed[i]? = some false → (∀ e ∈ o.after, Region.binds .any e = true → listed.getD e.on false = true) → I listed a w → wpOp P l.toArray Q i (fun a' w' => I (listed.setIfInBounds i true) a' w') a w)
    (hend : ∀ (listed : Array Bool) (a : Act) (w : World), listed.size = l.length → Region.ready .any l.toArray listed = [] → I listed a w → Q .normal a w) : (Code.region id l.toArray true).wp P Q a w :=
  wp_region_any hm (wpAny_inv (I := I) (fun listed a w i o h1 h2 h3 h4 h5 => hstep listed a w i o (by simpa using h1) (by simpa using h2) h3 h4 h5) (fun listed a w h1 h2 h3 => hend listed a w (by simpa using h1) h2 h3) _ _ a w.drew (by simp) (by
    simp only [notYet]
    exact Nat.le_trans List.countP_le_length (by simp)) (by simpa using hI))
end Go.Proofs.YtihadbkjfocdoaaGreatDoor.BW
