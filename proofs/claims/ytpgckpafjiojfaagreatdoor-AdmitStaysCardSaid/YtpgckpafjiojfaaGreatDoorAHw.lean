/- Calls that are refused leave a gate as it is. -/
import Derived.Test.YtpgckpafjiojfaaGreatDoorAHn
namespace Go.Proofs.YtpgckpafjiojfaaGreatDoor.AD
open Go Go.RowKit BW
open BK (Bx BoxAt Blk only_refl only_drew only_drewN only_setCell only_trans only_of_below only_alloc below_drewN)
section
variable {x : Gt} {job t : Int} {e : Int}
theorem no_why (hc : x.call job t = e) (h : e ≠ 0) : x.Why job t = (0, e) := by unfold Gt.Why; rw [if_pos (by rw [hc]; exact h), hc]
theorem no_give (hc : x.call job t = e) (h : e ≠ 0) (ok : Bool) : x.give job ok t = (0, e, x) := by unfold Gt.give; rw [if_pos (by rw [hc]; exact h), hc]
theorem no_take (hc : x.call job t = e) (h : e ≠ 0) : x.take job t = (e, x) := by unfold Gt.take; rw [if_pos (by rw [hc]; exact h), hc]
theorem no_trip (hc : x.call job t = e) (h : e ≠ 0) : x.trip job t = (e, x) := by unfold Gt.trip Gt.switch; rw [if_pos (by rw [hc]; exact h), hc]
theorem no_reset (hc : x.call job t = e) (h : e ≠ 0) : x.reset job t = (e, x) := by unfold Gt.reset Gt.switch; rw [if_pos (by rw [hc]; exact h), hc]
theorem call_out (h : job < 0 ∨ (x.js.length : Int) ≤ job ∨ t < 0 ∨ 253402300799 < t) : ∃ e, x.call job t = e ∧ e ≠ 0 := by
  unfold Gt.call Gt.asked
  by_cases hb : timeB t = false
  · rw [if_pos hb]
    exact ⟨14, if_pos (by decide), by decide⟩
  · rw [if_neg hb]
    have ht : timeB t = true := by cases h : timeB t <;> simp_all
    have := timeB_iff.1 ht
    have hj : (decide (0 ≤ job) && decide (job < x.js.length)) = false := by
      rw [Bool.and_eq_false_iff]
      simp only [decide_eq_false_iff_not]
      omega
    rw [if_pos hj]
    exact ⟨3, if_pos (by decide), by decide⟩
/-- Where Why gives a reason, Take is refused. -/
theorem take_why {n : Int} (hw : x.Why job t = (n, 0)) (hn : n ≠ 0) : x.take job t = (9, x) := by
  unfold Gt.Why at hw
  by_cases hc : x.call job t ≠ 0
  · rw [if_pos hc] at hw
    injection hw with h1 h2
    exact absurd h2 hc
  · rw [if_neg hc] at hw
    injection hw with h1 h2
    unfold Gt.take
    rw [if_neg hc]
    unfold Gt.why at h1
    split at h1
    · rw [if_pos (by rw [h1]; exact hn)]
    · exact absurd h1.symm hn
end
end Go.Proofs.YtpgckpafjiojfaaGreatDoor.AD
