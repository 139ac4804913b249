/- A cap that is full; gates whose limiters are laid anew; the regions of Restore that store a limiter. -/
import Derived.Test.YtpgckpafjiojfaaGreatDoorAJb
import Derived.Test.YtpgckpafjiojfaaGreatDoorAIw
namespace Go.Proofs.YtpgckpafjiojfaaGreatDoor.AD
open Go Go.RowKit BW
open BK (Bx BoxAt Blk only_refl only_drew only_drewN only_setCell only_trans only_of_below only_alloc below_drewN)
section
variable {w : World} {b : Nat} {c : Cp}
end
theorem put_zero (c : Cp) (k : Nat) : c.put k 0 = c := by
 obtain ⟨a, n, m, r, t⟩ := c
 unfold Cp.put
 simp only [Int.add_zero, Cp.mk.injEq, true_and, and_true]
 funext i
 by_cases h : i = k
 ·rw [if_pos h, h]
 ·rw [if_neg h]
section
variable {c : Nat} {w Z W W' : World} {G : Nat} {T : TypeId} {C0 : Array Value} {k : Nat} {er : Int} {ol : Option Lm} {Pl : Nat → Value → Prop} {listed : Array Bool} {v : Nat → Value}
end
end Go.Proofs.YtpgckpafjiojfaaGreatDoor.AD
