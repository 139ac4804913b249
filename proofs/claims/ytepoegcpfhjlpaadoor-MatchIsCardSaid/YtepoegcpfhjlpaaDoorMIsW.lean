/- The walk of MatchIs. -/
import Derived.Test.YtepoegcpfhjlpaaDoorMEverW
import Derived.Test.YtepoegcpfhjlpaaDoorREver
import Derived.Test.YtepoegcpfhjlpaaDoorRDay
namespace Go.Proofs.YtepoegcpfhjlpaaDoor.BW
open Go.RowKit BM Go.Shelf MC
open BK hiding ret_bool ret_i64

theorem Box.rday {w : World} {x : Ex} {W : World} (hx : U64s x) (z t : Int) {a : Bool} {c : Int} (ha : dayV x z t = a) (hc : chk x z [t] = c) (h : Box w x W) : Calls Tryd.prog 25 #[.agg #[.int .u64 x.s, .int .u64 x.mi, .int .u64 x.h, .int .u64 x.d, .int .u64 x.mo, .int .u64 x.w, .bool x.ad, .bool x.aw], .int .i64 z, .int .i64 t] W fun e W' =>
    e = .returned (.tuple #[.bool a, .int .i64 c]) ∧ Box w x W' := by
  subst ha hc
  exact (rday_ok x hx z t W).mono fun _ _ ⟨h1, h2⟩ => ⟨h1, h.next h2⟩
theorem Box.ris {w : World} {x : Ex} {W : World} (hx : U64s x) (z t : Int) {a : Bool} {c : Int} (ha : isV x z t = a) (hc : chk x z [t] = c) (h : Box w x W) : Calls Tryd.prog 26 #[.agg #[.int .u64 x.s, .int .u64 x.mi, .int .u64 x.h, .int .u64 x.d, .int .u64 x.mo, .int .u64 x.w, .bool x.ad, .bool x.aw], .int .i64 z, .int .i64 t] W fun e W' =>
    e = .returned (.tuple #[.bool a, .int .i64 c]) ∧ Box w x W' := by
  subst ha hc
  exact (ris_ok x hx z t W).mono fun _ _ ⟨h1, h2⟩ => ⟨h1, h.next h2⟩
theorem Box.rever {w : World} {x : Ex} {W : World} (hx : U64s x) {a : Bool} {c : Int} (ha : (decide (ckR x = 0) && everR x) = a) (hc : ckR x = c) (h : Box w x W) : Calls Tryd.prog 28 #[.agg #[.int .u64 x.s, .int .u64 x.mi, .int .u64 x.h, .int .u64 x.d, .int .u64 x.mo, .int .u64 x.w, .bool x.ad, .bool x.aw]] W fun e W' =>
    e = .returned (.tuple #[.bool a, .int .i64 c]) ∧ Box w x W' := by
  subst ha hc
  exact (rever_ok x hx W).mono fun _ _ ⟨h1, h2⟩ => ⟨h1, h.next h2⟩
set_option maxRecDepth 8000 in
set_option maxHeartbeats 4000000 in
theorem mis_ok (x : Ex) (hx : U64s x) (z t : Int) (w : World) (hT : SpTab w) (hTab : Tab w) : Calls Tryd.prog 9 #[.agg (exV x), .int .i64 z, .int .i64 t] w fun e w' =>
    e = .returned (.bool true) ∧ Below w.heap.size w w' := by
  have H0 := Lib.hid (Box.first x hT hTab)
  have A1 := Lib.hid (fun W => Box.day (w := w) (W := W) hx z t rfl rfl)
  have A2 := Lib.hid (fun W => Box.rday (w := w) (W := W) hx z t rfl rfl)
  have A3 := Lib.hid (fun W => Box.is (w := w) (W := W) hx z t rfl rfl)
  have A4 := Lib.hid (fun W => Box.ris (w := w) (W := W) hx z t rfl rfl)
  have A5 := Lib.hid (fun W => Box.ever (w := w) (W := W) hx rfl rfl)
  have A6 := Lib.hid (fun W => Box.rever (w := w) (W := W) hx rfl rfl)
  generalize chk x z [t] = c at *
  generalize isV x z t = a at *
  generalize dayV x z t = b at *
  generalize (decide (ckR x = 0) && everR x) = p at *
  generalize ckR x = q at *
  clear hx hT hTab
  have e0 : exV x = #[.int .u64 x.s, .int .u64 x.mi, .int .u64 x.h, .int .u64 x.d, .int .u64 x.mo, .int .u64 x.w, .bool x.ad, .bool x.aw] := rfl
  rw [e0] at *
  clear e0
  go_enter Tryd.func9, Tryd.ntmps9
  go_wp2_with fail
  refine (A1.out _ H0.out).mono ?_
  rintro e w1 ⟨rfl, hb⟩
  obtain ⟨c0, c1, c2, c3, c4, c5, c6, c7⟩ := hb.cells
  have H1 := Lib.hid hb
  clear hb H0
  go_wp2_with fail
  refine (A2.out _ H1.out).mono ?_
  rintro e w2 ⟨rfl, hb⟩
  clear c0 c1 c2 c3 c4 c5 c6 c7
  obtain ⟨c0, c1, c2, c3, c4, c5, c6, c7⟩ := hb.cells
  have H2 := Lib.hid hb
  clear hb H1
  go_wp2_with fail
  refine (A3.out _ H2.out).mono ?_
  rintro e w3 ⟨rfl, hb⟩
  clear c0 c1 c2 c3 c4 c5 c6 c7
  obtain ⟨c0, c1, c2, c3, c4, c5, c6, c7⟩ := hb.cells
  have H3 := Lib.hid hb
  clear hb H2
  go_wp2_with fail
  refine (A4.out _ H3.out).mono ?_
  rintro e w4 ⟨rfl, hb⟩
  clear c0 c1 c2 c3 c4 c5 c6 c7
  obtain ⟨c0, c1, c2, c3, c4, c5, c6, c7⟩ := hb.cells
  have H4 := Lib.hid hb
  clear hb H3
  go_wp2_with fail
  refine (A5.out _ H4.out).mono ?_
  rintro e w5 ⟨rfl, hb⟩
  clear c0 c1 c2 c3 c4 c5 c6 c7
  obtain ⟨c0, c1, c2, c3, c4, c5, c6, c7⟩ := hb.cells
  have H5 := Lib.hid hb
  clear hb H4
  go_wp2_with fail
  refine (A6.out _ H5.out).mono ?_
  rintro e w6 ⟨rfl, hb⟩
  clear c0 c1 c2 c3 c4 c5 c6 c7
  have H6 := Lib.hid hb
  clear hb H5
  go_wp2_with fail
  refine (H6.out.works).mono ?_
  rintro e w7 ⟨rfl, hb⟩
  go_wp2_with fail
  go_ret
  exact ⟨rfl, hb.below⟩
end Go.Proofs.YtepoegcpfhjlpaaDoor.BW
