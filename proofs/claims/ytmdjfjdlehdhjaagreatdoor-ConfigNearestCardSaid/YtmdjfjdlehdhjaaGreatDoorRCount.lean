/- Contract of the reference's Count. -/
import Derived.Test.YtmdjfjdlehdhjaaGreatDoorRCountM
namespace Go.Proofs.YtmdjfjdlehdhjaaGreatDoor.BW
open Go.RowKit BM Go.Shelf MC RK
open BK hiding ret_bool ret_i64

end Go.Proofs.YtmdjfjdlehdhjaaGreatDoor.BW
