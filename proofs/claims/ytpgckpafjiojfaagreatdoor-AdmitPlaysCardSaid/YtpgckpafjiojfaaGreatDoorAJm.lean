/- What AdmitHolds keeps: counted launches, runs, and until when boxes are open; plainly. -/
import Derived.Test.YtpgckpafjiojfaaGreatDoorAHa
import Derived.Laws.Tables
import Derived.Laws.IdiomStrings
import Derived.Deep.AppendLies
import Derived.Test.YtpgckpafjiojfaaGreatDoorAJb
namespace Go.Proofs.YtpgckpafjiojfaaGreatDoor.AD
open Go Go.RowKit BW
open BK (Bx BoxAt Blk only_refl only_drew only_drewN only_setCell only_trans only_of_below only_alloc below_drewN)
abbrev La := Int × Int
section
variable {x : Gt} {now t : Int} {all : List La} {one : Nat → List La} {un : Nat → Int} {k : Nat} {j : Jt}
end
end Go.Proofs.YtpgckpafjiojfaaGreatDoor.AD
