/- The walk of BitsMakes. -/
import Derived.Test.YtcgnnmpgdnajnaaDoorBitsWorks
import Derived.Test.YtcgnnmpgdnajnaaDoorBitsE
import Derived.Test.YtcgnnmpgdnajnaaDoorBitsF
namespace Go.Proofs.YtcgnnmpgdnajnaaDoor.BW
open Go.RowKit BM

set_option maxHeartbeats 1000000 in
theorem makes_walk (lo hi st : Int) (a : Option Addr) (cap : Nat) (xs : List Int) (hl : xs.length ≤ 9223372036854775807) (w : World) (hT0 : Tab w) (hI0 : IntsAt w a xs) :
    Calls Tryd.prog 5 #[.int .i64 lo, .int .i64 hi, .int .i64 st, .slice a xs.length cap] w fun e w' => e = .returned (.bool true) ∧ Below w.heap.size w w' := by
  have hT := Lib.hid hT0
  have CW := Lib.hid (works_ok w hT.out)
  have c1 := range_ok lo hi st w
  have c2 := rrange_ok lo hi st w
  generalize (rangeR lo hi st).1 = n1 at c1 c2
  generalize (rangeR lo hi st).2 = n2 at c1 c2
  have c3 := of_ok a cap xs hl w hI0
  have c4 := rof_ok a cap xs hl w hI0
  generalize (ofR xs).1 = n3 at c3 c4
  generalize (ofR xs).2 = n4 at c3 c4
  have C1 := Lib.hid c1
  have C2 := Lib.hid c2
  have C3 := Lib.hid c3
  have C4 := Lib.hid c4
  clear hT0 c1 c2 c3 c4 hI0
  by_cases h3 : 300 < xs.length
  · have h3' : (300 : Int) < (xs.length : Int) := by omega
    go_enter Tryd.func5, Tryd.ntmps5
    go_wp2_with (go_at_call 15; refine CW.out.mono ?_; rintro e w' ⟨rfl, hb⟩)
    go_ret
    exact ⟨rfl, by assumption⟩
  · have h3' : ¬ (300 : Int) < (xs.length : Int) := by omega
    go_enter Tryd.func5, Tryd.ntmps5
    go_wp2_with (first
      | (go_at_call 12; refine C1.out.mono ?_; rintro e w' ⟨rfl, rfl⟩)
      | (go_at_call 17; refine C2.out.mono ?_; rintro e w' ⟨rfl, rfl⟩)
      | (go_at_call 18; refine C3.out.mono ?_; rintro e w' ⟨rfl, rfl⟩)
      | (go_at_call 19; refine C4.out.mono ?_; rintro e w' ⟨rfl, rfl⟩)
      | (go_at_call 15; refine CW.out.mono ?_; rintro e w' ⟨rfl, hb⟩))
    go_ret
    exact ⟨rfl, by assumption⟩
end Go.Proofs.YtcgnnmpgdnajnaaDoor.BW
