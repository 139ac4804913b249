/- Contracts of the reference's schedules with a period. Contracts of the reference's Is, Next and Count of schedules with a period: they answer as the layer every does. Contract of the reference's Count of schedules with a period. -/
import Derived.Test.YtihadbkjfocdoaaGreatDoorPEv
namespace Go.Proofs.YtihadbkjfocdoaaGreatDoor.BW
open Go.RowKit BM Go.Shelf MC
open BK hiding ret_bool ret_i64

end Go.Proofs.YtihadbkjfocdoaaGreatDoor.BW
namespace Go.Proofs.YtihadbkjfocdoaaGreatDoor.BW
open Go.RowKit BM Go.Shelf MC
open BK hiding ret_bool ret_i64

theorem Ev.Ok.before_mono {e : Ev} (h : e.Ok) {a b : Int} (hab : a ≤ b) : e.before a ≤ e.before b := by
  have hs := h.size.1
  have hp := h.p0
  unfold Ev.before
  by_cases h1 : a ≤ e.s
  · rw [if_pos h1]
    exact (h.before_range b).1
  · rw [if_neg h1, if_neg (by omega)]
    have : (a - e.s - 1) / e.p ≤ (b - e.s - 1) / e.p := Int.ediv_le_ediv (by omega) (by omega)
    omega
end Go.Proofs.YtihadbkjfocdoaaGreatDoor.BW
namespace Go.Proofs.YtihadbkjfocdoaaGreatDoor.BW
open Go.RowKit BM Go.Shelf MC
open BK hiding ret_bool ret_i64

end Go.Proofs.YtihadbkjfocdoaaGreatDoor.BW
