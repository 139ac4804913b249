/- The walk of BitsAsks. -/
import Derived.Test.YtcgnnmpgdnajnaaDoorBitsWorks
import Derived.Test.YtcgnnmpgdnajnaaDoorBitsE
import Derived.Test.YtcgnnmpgdnajnaaDoorBitsF
namespace Go.Proofs.YtcgnnmpgdnajnaaDoor.BW
open Go.RowKit BM

set_option maxHeartbeats 1000000 in
theorem asks_walk (s : Nat) (v z : Int) (hs : s < 18446744073709551616) (w : World) (hT0 : Tab w) :
    Calls Tryd.prog 11 #[.int .u64 s, .int .i64 v, .int .i64 z] w fun e w' => e = .returned (.bool true) ∧ Below w.heap.size w w' := by
  have hT := Lib.hid hT0
  have CW := Lib.hid (works_ok w hT.out)
  have c1 := next_ok s v hs w hT0
  have c2 := rnext_ok s v hs w
  generalize num (nx s v) = n1 at c1 c2
  generalize (nx s v).isSome = n2 at c1 c2
  have c3 := prev_ok s v hs w
  have c4 := rprev_ok s v hs w
  generalize num (pv s v) = n3 at c3 c4
  generalize (pv s v).isSome = n4 at c3 c4
  have c5 := turn_ok s v z hs w hT0
  have c6 := rturn_ok s v z hs w
  generalize T1 (turnR s v z) = n5 at c5 c6
  generalize T2 (turnR s v z) = n6 at c5 c6
  generalize (turnR s v z).isSome = n7 at c5 c6
  have c7 := has_ok s v hs w
  have c8 := rhas_ok s v hs w
  generalize has s v = n8 at c7 c8
  have C1 := Lib.hid c1
  have C2 := Lib.hid c2
  have C3 := Lib.hid c3
  have C4 := Lib.hid c4
  have C5 := Lib.hid c5
  have C6 := Lib.hid c6
  have C7 := Lib.hid c7
  have C8 := Lib.hid c8
  clear hT0 c1 c2 c3 c4 c5 c6 c7 c8
  go_enter Tryd.func11, Tryd.ntmps11
  go_wp2_with (first
    | (go_at_call 21; refine C1.out.mono ?_; rintro e w' ⟨rfl, rfl⟩)
    | (go_at_call 31; refine C2.out.mono ?_; rintro e w' ⟨rfl, rfl⟩)
    | (go_at_call 30; refine C3.out.mono ?_; rintro e w' ⟨rfl, rfl⟩)
    | (go_at_call 32; refine C4.out.mono ?_; rintro e w' ⟨rfl, rfl⟩)
    | (go_at_call 20; refine C5.out.mono ?_; rintro e w' ⟨rfl, rfl⟩)
    | (go_at_call 33; refine C6.out.mono ?_; rintro e w' ⟨rfl, rfl⟩)
    | (go_at_call 16; refine C7.out.mono ?_; rintro e w' ⟨rfl, rfl⟩)
    | (go_at_call 34; refine C8.out.mono ?_; rintro e w' ⟨rfl, rfl⟩)
    | (go_at_call 15; refine CW.out.mono ?_; rintro e w' ⟨rfl, hb⟩))
  go_ret
  exact ⟨rfl, by assumption⟩
end Go.Proofs.YtcgnnmpgdnajnaaDoor.BW
