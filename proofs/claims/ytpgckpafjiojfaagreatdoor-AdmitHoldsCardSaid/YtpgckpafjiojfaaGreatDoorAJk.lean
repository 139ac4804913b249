/- Contract of wakemanlaw35.after: a gate after some moves, and what its calls keep. -/
import Derived.Test.YtpgckpafjiojfaaGreatDoorAJb
namespace Go.Proofs.YtpgckpafjiojfaaGreatDoor.AD
open Go Go.RowKit BW
open BK (Bx BoxAt Blk only_refl only_drew only_drewN only_setCell only_trans only_of_below only_alloc below_drewN)
/-- What a gate's calls keep. -/
structure Cl (I : Gt → Prop) : Prop where
  take : ∀ x k t, I x → I (x.take k t).2
  give : ∀ x k ok t, I x → I (x.give k ok t).2.2
  trip : ∀ x k t, I x → I (x.trip k t).2
  reset : ∀ x k t, I x → I (x.reset k t).2
def SameRule (a b : Bx) : Prop := a.f = b.f ∧ a.o = b.o ∧ a.p = b.p
theorem rule_take (b : Bx) (t : Int) : SameRule (BK.take b t).2 b := by
  unfold BK.take
  split
  · exact ⟨rfl, rfl, rfl⟩
  · split
    · exact ⟨rfl, rfl, rfl⟩
    · show SameRule (BK.seen (if _ then _ else _) t) b
      split <;> exact ⟨rfl, rfl, rfl⟩
theorem rule_ended (b : Bx) (ok : Bool) (t : Int) : SameRule (BK.ended b ok t).2 b := by
  unfold BK.ended
  split
  · unfold BK.closed
    split
    · exact ⟨rfl, rfl, rfl⟩
    · split <;> exact ⟨rfl, rfl, rfl⟩
  · split
    · exact ⟨rfl, rfl, rfl⟩
    · unfold BK.half
      split
      · exact ⟨rfl, rfl, rfl⟩
      · split
        · exact ⟨rfl, rfl, rfl⟩
        · split <;> exact ⟨rfl, rfl, rfl⟩
theorem rule_report (b : Bx) (ok : Bool) (t : Int) : SameRule (BK.report b ok t).2.2 b := by
  unfold BK.report
  split
  · exact ⟨rfl, rfl, rfl⟩
  · split
    · exact ⟨rfl, rfl, rfl⟩
    · exact rule_ended (BK.seen b t) ok t
theorem rule_trip (b : Bx) (t : Int) : SameRule (BK.trip b t).2 b := by
  unfold BK.trip
  split <;> exact ⟨rfl, rfl, rfl⟩
theorem rule_reset (b : Bx) (t : Int) : SameRule (BK.reset b t).2 b := by
  unfold BK.reset
  split <;> exact ⟨rfl, rfl, rfl⟩
/-- A gate keeps its configuration's policies, and its cap. -/
structure PolOk (G : Gl) (LL : JL) (x : Gt) : Prop where
  cap : x.cap = G.cap
  t : x.both.t = G.t
  tau : x.both.tau = G.tau
  n : x.js.length = LL.length
  js : ∀ (k : Nat) (y : Jb × List (Int × Int)) (j : Jt), LL[k]? = some y → x.js[k]? = some j → JPol y.1.y j
  tot : x.total ≤ x.cap
theorem PolOk.put {G : Gl} {LL : JL} {x : Gt} (h : PolOk G LL x) {k : Nat} {j j' : Jt} (hj : x.js[k]? = some j) (hc : j'.cap = j.cap) (ht : j'.lm.t = j.lm.t) (ha : j'.lm.tau = j.lm.tau) (hr : SameRule j'.bx j.bx) {b : Lm} (hb : b.t = x.both.t ∧ b.tau = x.both.tau) (hs : x.total + (j'.runs - j.runs) ≤ x.cap) (now : Int) : PolOk G LL ⟨x.cap, b, x.js.set k j', now⟩ := by
  refine ⟨h.cap, hb.1.trans h.t, hb.2.trans h.tau, List.length_set.trans h.n, fun q y m hy hm => ?_, ?_⟩
  · have hm : (x.js.set k j')[q]? = some m := hm
    rw [List.getElem?_set] at hm
    by_cases hq : k = q
    · subst hq
      rw [if_pos rfl] at hm
      split at hm
      · injection hm with hm
        subst hm
        have h0 := h.js k y j hy hj
        exact ⟨hc.trans h0.cap, ht.trans h0.t, ha.trans h0.tau, hr.1.trans h0.f, hr.2.1.trans h0.o, hr.2.2.trans h0.p⟩
      · cases hm
    · rw [if_neg hq] at hm
      exact h.js q y m hy hm
  · show sumR (x.js.set k j') ≤ x.cap
    rw [sumR_set hj]
    exact hs
theorem pol_cl (G : Gl) (LL : JL) : Cl (PolOk G LL) where
  take x k t h := by
    unfold Gt.take
    split
    · exact h
    · split
      · next j hj =>
        split
        · exact h
        · next hw =>
          have hz : x.whyJ j t = 0 := by omega
          obtain ⟨z1, -⟩ := whyJ_zero hz
          exact h.put (j' := ⟨j.cap, j.runs + 1, j.lm.count t, (BK.take j.bx t).2⟩) hj rfl rfl rfl (rule_take _ _) (b := x.both.count t) ⟨rfl, rfl⟩ (by show x.total + (j.runs + 1 - j.runs) ≤ x.cap; omega) t
      · exact h
  give x k ok t h := by
    unfold Gt.give
    split
    · exact h
    · split
      · next j hj =>
        split
        · exact h
        · have := h.tot
          exact h.put (j' := ⟨j.cap, j.runs - 1, j.lm, (BK.report j.bx ok t).2.2⟩) hj rfl rfl rfl (rule_report _ _ _) ⟨rfl, rfl⟩ (by show x.total + (j.runs - 1 - j.runs) ≤ x.cap; omega) t
      · exact h
  trip x k t h := by
    unfold Gt.trip Gt.switch
    split
    · exact h
    · split
      · next j hj =>
        split
        · exact h
        · have := h.tot
          exact h.put (j' := ⟨j.cap, j.runs, j.lm, (BK.trip j.bx t).2⟩) hj rfl rfl rfl (rule_trip _ _) ⟨rfl, rfl⟩ (by show x.total + (j.runs - j.runs) ≤ x.cap; omega) t
      · exact h
  reset x k t h := by
    unfold Gt.reset Gt.switch
    split
    · exact h
    · split
      · next j hj =>
        split
        · exact h
        · have := h.tot
          exact h.put (j' := ⟨j.cap, j.runs, j.lm, (BK.reset j.bx t).2⟩) hj rfl rfl rfl (rule_reset _ _) ⟨rfl, rfl⟩ (by show x.total + (j.runs - j.runs) ≤ x.cap; omega) t
      · exact h
theorem pol_new {G : Gl} {LL : JL} (hC : CfOk G LL) : PolOk G LL (g0 G LL) := by
  refine ⟨rfl, rfl, rfl, by show (LL.map jt0).length = _; rw [List.length_map], fun k y j hy hj => ?_, ?_⟩
  · have hj : (LL.map jt0)[k]? = some j := hj
    rw [List.getElem?_map, hy] at hj
    injection hj with hj
    subst hj
    exact ⟨rfl, rfl, rfl, rfl, rfl, rfl⟩
  · show sumR (LL.map jt0) ≤ G.cap
    rw [sumR_zero]
    have := (glB_parts hC.gl).1
    omega
section
variable {I : Gt → Prop} {B cb N : Nat} {w0 W W' : World} {cs : Array Value} {L : Ly} {x y : Gt} {now t : Int}
end
end Go.Proofs.YtpgckpafjiojfaaGreatDoor.AD
