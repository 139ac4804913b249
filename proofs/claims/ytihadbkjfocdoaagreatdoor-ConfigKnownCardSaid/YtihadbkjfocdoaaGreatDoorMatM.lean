/- Contracts of the reference's date, matches, clock. -/
import Derived.Test.YtihadbkjfocdoaaGreatDoorMatI
import Derived.Test.YtihadbkjfocdoaaGreatDoorMRef
namespace Go.Proofs.YtihadbkjfocdoaaGreatDoor.BW
open Go.RowKit BM Go.Shelf MC
open BK hiding ret_bool ret_i64

theorem has_nat (s i : Nat) (hi : i < 64) : has s (i : Int) = s.testBit i := by
  unfold has; simp; intro _; omega
end Go.Proofs.YtihadbkjfocdoaaGreatDoor.BW
