/- A drawn region: a head by an invariant over the operations that have come up, and a forced tail behind it. -/
import Derived.Test.YtpgckpafjiojfaaGreatDoorAIv
import Derived.Test.YtpgckpafjiojfaaGreatDoorCPol
namespace Go.Proofs.YtpgckpafjiojfaaGreatDoor.AD
open Go Go.RowKit Go.Sort RK
theorem get_false {x : Array Bool} {j : Nat} (h : x.getD j true = false) : x[j]? = some false := by
  rw [Array.getD_eq_getD_getElem?] at h
  cases hv : x[j]? with
  | none => rw [hv] at h; cases h
  | some b => rw [hv] at h; simpa using h
theorem get_true {x : Array Bool} {j : Nat} (h : x.getD j false = true) : x[j]? = some true := by
  rw [Array.getD_eq_getD_getElem?] at h
  cases hv : x[j]? with
  | none => rw [hv] at h; cases h
  | some b => rw [hv] at h; simpa using h
theorem notYet_x0 (n m : Nat) : notYet (X0 n m) = m := by
  unfold notYet X0
  rw [List.countP_append, List.countP_replicate, List.countP_replicate]
  simp
section
variable {ls ts : List Oper}
variable {P : Program} {Q : Exit → Act → World → Prop} {I : Array Bool → Act → World → Prop}
end
end Go.Proofs.YtpgckpafjiojfaaGreatDoor.AD
