/- A gate that is brought into a state, plainly. -/
import Derived.Test.YtpgckpafjiojfaaGreatDoorAHn
namespace Go.Proofs.YtpgckpafjiojfaaGreatDoor.AD
open Go Go.RowKit BW
open BK (Bx BoxAt Blk only_refl only_drew only_drewN only_setCell only_trans only_of_below only_alloc below_drewN)
/-- The state of a box: until when, failures, successes, probes under way. -/
structure Bs where
  un : Int
  fa : Int
  go : Int
  ud : Int
theorem check0 {x : Bx} {t : Int} (ht : timeB t = true) (hl : x.last ≤ t) : BK.check x t = 0 := by
  have := timeB_iff.1 ht
  unfold BK.check
  rw [if_neg (show ¬ (t < 0 ∨ BK.maxTime < t) by unfold BK.maxTime; omega), if_neg (by omega)]
section
variable {f o p now : Int}
end
section
variable {L : JL} {rs ts : List Int} {bs : List Bs} {now : Int}
end
/-- A job with its policy. -/
structure JPol (y : Po) (j : Jt) : Prop where
  cap : j.cap = y.cap
  t : j.lm.t = y.t
  tau : j.lm.tau = y.tau
  f : j.bx.f = y.f
  o : j.bx.o = y.o
  p : j.bx.p = y.r
end Go.Proofs.YtpgckpafjiojfaaGreatDoor.AD
