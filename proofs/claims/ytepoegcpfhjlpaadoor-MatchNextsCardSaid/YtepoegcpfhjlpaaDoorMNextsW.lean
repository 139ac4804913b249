/- The walk of MatchNexts. -/
import Derived.Test.YtepoegcpfhjlpaaDoorMBoxN
namespace Go.Proofs.YtepoegcpfhjlpaaDoor.BW
open Go.RowKit BM Go.Shelf MC
open BK hiding ret_bool ret_i64

set_option maxRecDepth 8000 in
set_option maxHeartbeats 4000000 in
theorem mnexts_ok (x : Ex) (hx : U64s x) (z t : Int) (w : World) (hT : SpTab w) (hTab : Tab w) : Calls Tryd.prog 11 #[.agg (exV x), .int .i64 z, .int .i64 t] w fun e w' =>
    e = .returned (.bool true) ∧ Below w.heap.size w w' := by
  have H0 := Lib.hid (Box.first x hT hTab)
  have A1 := Lib.hid (fun W => Box.nxt (w := w) (W := W) hx z t rfl rfl rfl)
  have A2 := Lib.hid (fun W => Box.rnext (w := w) (W := W) hx z t rfl rfl rfl)
  have A3 := Lib.hid (fun W => Box.prv (w := w) (W := W) hx z t rfl rfl rfl)
  have A4 := Lib.hid (fun W => Box.rprev (w := w) (W := W) hx z t rfl rfl rfl)
  generalize chk x z [t] = c at *
  generalize optI (nxV x z t) = n at *
  generalize (nxV x z t).isSome = a at *
  generalize optI (pvV x z t) = p at *
  generalize (pvV x z t).isSome = b at *
  clear hx hT hTab
  have e0 : exV x = #[.int .u64 x.s, .int .u64 x.mi, .int .u64 x.h, .int .u64 x.d, .int .u64 x.mo, .int .u64 x.w, .bool x.ad, .bool x.aw] := rfl
  rw [e0] at *
  clear e0
  go_enter Tryd.func11, Tryd.ntmps11
  go_wp2_with fail
  refine (A1.out _ H0.out).mono ?_
  rintro e w1 ⟨rfl, hb⟩
  obtain ⟨c0, c1, c2, c3, c4, c5, c6, c7⟩ := hb.cells
  have H1 := Lib.hid hb
  clear hb H0
  go_wp2_with fail
  refine (A2.out _ H1.out).mono ?_
  rintro e w2 ⟨rfl, hb⟩
  clear c0 c1 c2 c3 c4 c5 c6 c7
  obtain ⟨c0, c1, c2, c3, c4, c5, c6, c7⟩ := hb.cells
  have H2 := Lib.hid hb
  clear hb H1
  go_wp2_with fail
  refine (A3.out _ H2.out).mono ?_
  rintro e w3 ⟨rfl, hb⟩
  clear c0 c1 c2 c3 c4 c5 c6 c7
  obtain ⟨c0, c1, c2, c3, c4, c5, c6, c7⟩ := hb.cells
  have H3 := Lib.hid hb
  clear hb H2
  go_wp2_with fail
  refine (A4.out _ H3.out).mono ?_
  rintro e w4 ⟨rfl, hb⟩
  clear c0 c1 c2 c3 c4 c5 c6 c7
  have H4 := Lib.hid hb
  clear hb H3
  go_wp2_with fail
  refine (H4.out.works).mono ?_
  rintro e w5 ⟨rfl, hb⟩
  go_wp2_with fail
  go_ret
  exact ⟨rfl, hb.below⟩
end Go.Proofs.YtepoegcpfhjlpaaDoor.BW
