/- Contracts of the limiters, fourth part: Restore. -/
import Derived.Test.YtpgckpafjiojfaaGreatDoorAGD
namespace Go.Proofs.YtpgckpafjiojfaaGreatDoor.AD
open Go Go.RowKit
open BK (Blk only_refl only_drew only_drewN only_setCell only_trans only_of_below only_alloc below_drewN)
open BW (limB inB)
theorem LmAt.below {w w' : World} {b n : Nat} {x : Lm} (h : LmAt w b x) (hb : Below n w w') (hn : b < n) : LmAt w' b x := Blk.below h hb hn
theorem RLmAt.below {w w' : World} {b n : Nat} {x : Lm} (h : RLmAt w b x) (hb : Below n w w') (hn : b < n) : RLmAt w' b x := Blk.below h hb hn
end Go.Proofs.YtpgckpafjiojfaaGreatDoor.AD
