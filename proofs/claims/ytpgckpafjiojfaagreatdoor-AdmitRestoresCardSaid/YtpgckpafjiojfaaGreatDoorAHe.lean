/- Contracts of wakemanlaw35.small and Made. -/
import Derived.Test.YtpgckpafjiojfaaGreatDoorAHa
import Derived.Laws.Tables
import Derived.Laws.IdiomStrings
namespace Go.Proofs.YtpgckpafjiojfaaGreatDoor.AD
open Go Go.RowKit BW
open BK (Bx BoxAt Blk only_refl only_drew only_drewN only_setCell only_trans only_of_below only_alloc below_drewN)
section
variable{Z:World}{ia it:Nat}{T:TypeId}{z fn:Array Value}{PV:Nat→Value→Prop}{listed:Array Bool}{v:Nat→Value}{W W':World}
end
def zPo:Po:=⟨0,0,0,0,0,0,0,0,0,0,0,0,0,0,0⟩
end Go.Proofs.YtpgckpafjiojfaaGreatDoor.AD
