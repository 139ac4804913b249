/- A gate that is brought into a state, plainly. -/
import Derived.Test.YtpgckpafjiojfaaGreatDoorAHa
import Derived.Laws.Tables
import Derived.Laws.IdiomStrings
import Derived.Deep.AppendLies
namespace Go.Proofs.YtpgckpafjiojfaaGreatDoor.AD
open Go Go.RowKit BW
open BK (Bx BoxAt Blk only_refl only_drew only_drewN only_setCell only_trans only_of_below only_alloc below_drewN)
structure Bs where
 un : Int
 fa : Int
 go : Int
 ud : Int
section
variable {f o p now : Int}
end
section
variable {L : JL} {rs ts : List Int} {bs : List Bs} {now : Int}
end
end Go.Proofs.YtpgckpafjiojfaaGreatDoor.AD
