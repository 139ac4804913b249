/- Contracts of the reference's Check of plans, and of check. Contracts of the reference's check and Is. Contracts of the reference's next and Next. Contract of the reference's List. Contracts of the reference's count and Count. -/
import Derived.Test.YtihadbkjfocdoaaGreatDoorPFj
import Derived.Test.YtihadbkjfocdoaaGreatDoorPREv
import Derived.Test.YtihadbkjfocdoaaGreatDoorPBo
import Derived.Test.YtihadbkjfocdoaaGreatDoorMWork
import Derived.Test.YtihadbkjfocdoaaGreatDoorMAtM
import Derived.Test.YtihadbkjfocdoaaGreatDoorMatM
import Derived.Test.YtihadbkjfocdoaaGreatDoorMTimes
import Derived.Test.YtihadbkjfocdoaaGreatDoorMatQ
import Derived.Test.YtihadbkjfocdoaaGreatDoorMCount
import Derived.Test.YtihadbkjfocdoaaGreatDoorPTi
import Derived.Test.YtihadbkjfocdoaaGreatDoorMList
namespace Go.Proofs.YtihadbkjfocdoaaGreatDoor.BW
open Go.RowKit BM Go.Shelf MC
open BK hiding ret_bool ret_i64

end Go.Proofs.YtihadbkjfocdoaaGreatDoor.BW
namespace Go.Proofs.YtihadbkjfocdoaaGreatDoor.BW
open Go.RowKit BM Go.Shelf MC
open BK hiding ret_bool ret_i64

end Go.Proofs.YtihadbkjfocdoaaGreatDoor.BW
namespace Go.Proofs.YtihadbkjfocdoaaGreatDoor.BW
open Go.RowKit BM Go.Shelf MC
open BK hiding ret_bool ret_i64

/-- The answer of Next, which looks at the plan first. -/
theorem nxQ_ok {p : Pl} {l : List (Int × Int)} {t : Int} (h : finE p l [t] = 0) : nxQ p l t = nxP (isP p l) t := if_pos h
end Go.Proofs.YtihadbkjfocdoaaGreatDoor.BW
namespace Go.Proofs.YtihadbkjfocdoaaGreatDoor.BW
open Go.RowKit BM Go.Shelf MC RK
open BK hiding ret_bool ret_i64

end Go.Proofs.YtihadbkjfocdoaaGreatDoor.BW
namespace Go.Proofs.YtihadbkjfocdoaaGreatDoor.BW
open Go.RowKit BM Go.Shelf MC
open BK hiding ret_bool ret_i64

end Go.Proofs.YtihadbkjfocdoaaGreatDoor.BW
