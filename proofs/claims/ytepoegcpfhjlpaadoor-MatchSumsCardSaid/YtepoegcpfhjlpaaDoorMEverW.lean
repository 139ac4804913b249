/- The walk of MatchEver. -/
import Derived.Test.YtepoegcpfhjlpaaDoorMAtM
namespace Go.Proofs.YtepoegcpfhjlpaaDoor.BW
open Go.RowKit BM Go.Shelf MC
open BK hiding ret_bool ret_i64

theorem Box.ever {w : World} {x : Ex} {W : World} (hx : U64s x) {a : Bool} {c : Int} (ha : (decide (ckR x = 0) && everR x) = a) (hc : ckR x = c) (h : Box w x W) : Calls Tryd.prog 27 #[.agg #[.int .u64 x.s, .int .u64 x.mi, .int .u64 x.h, .int .u64 x.d, .int .u64 x.mo, .int .u64 x.w, .bool x.ad, .bool x.aw]] W fun e W' =>
    e = .returned (.tuple #[.bool a, .int .i64 c]) ∧ Box w x W' := by
  subst ha hc
  exact (ever_ok x hx W h.sp).mono fun e W' ⟨h1, h2⟩ => ⟨h1, h.next h2⟩
theorem Box.nxt {w : World} {x : Ex} {W : World} (hx : U64s x) (z t : Int) {n : Int} {a : Bool} {c : Int} (hn : optI (nxV x z t) = n) (ha : (nxV x z t).isSome = a) (hc : chk x z [t] = c) (h : Box w x W) : Calls Tryd.prog 24 #[.agg #[.int .u64 x.s, .int .u64 x.mi, .int .u64 x.h, .int .u64 x.d, .int .u64 x.mo, .int .u64 x.w, .bool x.ad, .bool x.aw], .int .i64 z, .int .i64 t] W fun e W' =>
    e = .returned (.tuple #[.int .i64 n, .bool a, .int .i64 c]) ∧ Box w x W' := by
  subst hn ha hc
  exact (pnext_ok x hx z t W h.sp h.tab).mono fun e W' ⟨h1, h2⟩ => ⟨h1, h.next h2⟩
theorem chk_00 (x : Ex) : chk x 0 [0] = ckR x := by
  rcases ckR_cases x with h | h
  · rw [chk_one h zone0, h]; rfl
  · rw [chk_expr (by omega)]
set_option maxRecDepth 8000 in
set_option maxHeartbeats 4000000 in
theorem mever_ok (x : Ex) (hx : U64s x) (w : World) (hT : SpTab w) (hTab : Tab w) : Calls Tryd.prog 10 #[.agg (exV x)] w fun e w' =>
    e = .returned (.bool true) ∧ Below w.heap.size w w' := by
  have HB := Lib.hid (Box.first x hT hTab)
  have L := Lib.hid (fun h => ever_law (x := x) h)
  have HE := Lib.hid (fun W => Box.ever (w := w) (W := W) hx rfl rfl)
  have HN := Lib.hid (fun W => Box.nxt (w := w) (W := W) hx 0 0 rfl rfl (chk_00 x))
  have HI := Lib.hid (fun W => Box.is (w := w) (W := W) hx 0 0 rfl (chk_00 x))
  have hc := ckR_cases x
  generalize ckR x = c at *
  generalize everR x = a at *
  generalize (nxV x 0 0).isSome = b at *
  generalize optI (nxV x 0 0) = nn at *
  generalize isV x 0 0 = d at *
  clear hx hT hTab
  have e0 : exV x = #[.int .u64 x.s, .int .u64 x.mi, .int .u64 x.h, .int .u64 x.d, .int .u64 x.mo, .int .u64 x.w, .bool x.ad, .bool x.aw] := rfl
  rw [e0] at *
  clear e0
  rcases hc with rfl | rfl
  · have hab : a = (b || d) := L.out rfl
    subst hab
    have HE : Hid (∀ W, Box w x W → Calls Tryd.prog 27 #[.agg #[.int .u64 x.s, .int .u64 x.mi, .int .u64 x.h, .int .u64 x.d, .int .u64 x.mo, .int .u64 x.w, .bool x.ad, .bool x.aw]] W fun e W' =>
      e = .returned (.tuple #[.bool (b || d), .int .i64 0]) ∧ Box w x W') := Lib.hid (by simpa using HE.out)
    clear L
    go_enter Tryd.func10, Tryd.ntmps10
    go_wp2_with fail
    refine (HE.out _ HB.out).mono ?_
    rintro e w1 ⟨rfl, hb⟩
    obtain ⟨c0, c1, c2, c3, c4, c5, c6, c7⟩ := hb.cells
    have H1 := Lib.hid hb
    clear hb HB
    go_wp2_with fail
    refine (HN.out _ H1.out).mono ?_
    rintro e w2 ⟨rfl, hb⟩
    clear c0 c1 c2 c3 c4 c5 c6 c7
    obtain ⟨c0, c1, c2, c3, c4, c5, c6, c7⟩ := hb.cells
    have H2 := Lib.hid hb
    clear hb H1
    go_wp2_with fail
    refine (HI.out _ H2.out).mono ?_
    rintro e w3 ⟨rfl, hb⟩
    clear c0 c1 c2 c3 c4 c5 c6 c7
    have H3 := Lib.hid hb
    clear hb H2
    clear HE HN HI
    cases b <;> cases d
    all_goals
      go_wp2_with fail
      refine (H3.out.works).mono ?_
      rintro e w5 ⟨rfl, hb⟩
      have H5 := Lib.hid hb
      clear hb
      go_wp2_with fail
      go_ret
      exact ⟨rfl, H5.out.below⟩
  · have HE : Hid (∀ W, Box w x W → Calls Tryd.prog 27 #[.agg #[.int .u64 x.s, .int .u64 x.mi, .int .u64 x.h, .int .u64 x.d, .int .u64 x.mo, .int .u64 x.w, .bool x.ad, .bool x.aw]] W fun e W' =>
      e = .returned (.tuple #[.bool false, .int .i64 16]) ∧ Box w x W') := Lib.hid (by simpa using HE.out)
    clear L
    go_enter Tryd.func10, Tryd.ntmps10
    go_wp2_with fail
    refine (HE.out _ HB.out).mono ?_
    rintro e w1 ⟨rfl, hb⟩
    obtain ⟨c0, c1, c2, c3, c4, c5, c6, c7⟩ := hb.cells
    have H1 := Lib.hid hb
    clear hb HB
    go_wp2_with fail
    refine (HN.out _ H1.out).mono ?_
    rintro e w2 ⟨rfl, hb⟩
    clear c0 c1 c2 c3 c4 c5 c6 c7
    obtain ⟨c0, c1, c2, c3, c4, c5, c6, c7⟩ := hb.cells
    have H2 := Lib.hid hb
    clear hb H1
    go_wp2_with fail
    refine (HI.out _ H2.out).mono ?_
    rintro e w3 ⟨rfl, hb⟩
    clear c0 c1 c2 c3 c4 c5 c6 c7
    have H3 := Lib.hid hb
    clear hb H2 HE HN HI
    go_wp2_with fail
    refine (H3.out.works).mono ?_
    rintro e w5 ⟨rfl, hb⟩
    have H5 := Lib.hid hb
    clear hb
    go_wp2_with fail
    go_ret
    exact ⟨rfl, H5.out.below⟩
end Go.Proofs.YtepoegcpfhjlpaaDoor.BW
