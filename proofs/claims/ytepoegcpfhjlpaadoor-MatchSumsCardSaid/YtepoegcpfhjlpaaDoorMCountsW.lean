/- The walk of MatchCounts. -/
import Derived.Test.YtepoegcpfhjlpaaDoorMEverW
import Derived.Test.YtepoegcpfhjlpaaDoorRCount
namespace Go.Proofs.YtepoegcpfhjlpaaDoor.BW
open Go.RowKit BM Go.Shelf MC
open BK hiding ret_bool ret_i64

theorem short_ok (a b : Int) (w : World) : Calls Tryd.prog 19 #[.int .i64 a, .int .i64 b] w fun e w' =>
    (∃ r, e = .returned (.bool r)) ∧ w = w' := by
  by_cases h1 : a < 0
  · have d1 : decide (a < 0) = true := decide_eq_true h1
    go_enter Tryd.func19, Tryd.ntmps19
    go_wp2_with fail
    go_ret
    exact ⟨⟨_, rfl⟩, rfl⟩
  · have d1 : decide (a < 0) = false := decide_eq_false h1
    by_cases h2 : 253402300799 < a
    · have d2 : decide (253402300799 < a) = true := decide_eq_true h2
      clear h1 h2
      go_enter Tryd.func19, Tryd.ntmps19
      go_wp2_with fail
      go_ret
      exact ⟨⟨_, rfl⟩, rfl⟩
    · have d2 : decide (253402300799 < a) = false := decide_eq_false h2
      by_cases h3 : b < 0
      · have d3 : decide (b < 0) = true := decide_eq_true h3
        clear h1 h2 h3
        go_enter Tryd.func19, Tryd.ntmps19
        go_wp2_with fail
        go_ret
        exact ⟨⟨_, rfl⟩, rfl⟩
      · have d3 : decide (b < 0) = false := decide_eq_false h3
        by_cases h4 : 253402300799 < b
        · have d4 : decide (253402300799 < b) = true := decide_eq_true h4
          clear h1 h2 h3 h4
          go_enter Tryd.func19, Tryd.ntmps19
          go_wp2_with fail
          go_ret
          exact ⟨⟨_, rfl⟩, rfl⟩
        · have d4 : decide (253402300799 < b) = false := decide_eq_false h4
          have ha : 0 ≤ a ∧ a ≤ 253402300799 := by omega
          have hb : 0 ≤ b ∧ b ≤ 253402300799 := by omega
          clear h1 h2 h3 h4
          obtain ⟨d, hd⟩ : ∃ d, decide (b - a ≤ 34560000) = d := ⟨_, rfl⟩
          go_enter Tryd.func19, Tryd.ntmps19
          go_wp2_with fail
          go_ret
          exact ⟨⟨_, rfl⟩, rfl⟩
theorem Box.cnt {w : World} {x : Ex} {W : World} (hx : U64s x) (z a b : Int) {n : Nat} {c : Int} (hn : ctR x z a b = n) (hc : chk x z [a, b] = c) (h : Box w x W) : Calls Tryd.prog 20 #[.agg #[.int .u64 x.s, .int .u64 x.mi, .int .u64 x.h, .int .u64 x.d, .int .u64 x.mo, .int .u64 x.w, .bool x.ad, .bool x.aw], .int .i64 z, .int .i64 a, .int .i64 b] W fun e W' =>
    e = .returned (.tuple #[.int .i64 n, .int .i64 c]) ∧ Box w x W' := by
  subst hn hc
  exact (pcount_ok x hx z a b W h.sp).mono fun _ _ ⟨h1, h2⟩ => ⟨h1, h.next h2⟩
theorem Box.rcnt {w : World} {x : Ex} {W : World} (hx : U64s x) (z a b : Int) {n : Nat} {c : Int} (hn : ctR x z a b = n) (hc : chk x z [a, b] = c) (h : Box w x W) : Calls Tryd.prog 21 #[.agg #[.int .u64 x.s, .int .u64 x.mi, .int .u64 x.h, .int .u64 x.d, .int .u64 x.mo, .int .u64 x.w, .bool x.ad, .bool x.aw], .int .i64 z, .int .i64 a, .int .i64 b] W fun e W' =>
    e = .returned (.tuple #[.int .i64 n, .int .i64 c]) ∧ Box w x W' := by
  subst hn hc
  exact (rcnt_ok x hx z a b W).mono fun _ _ ⟨h1, h2⟩ => ⟨h1, h.next h2⟩
set_option maxRecDepth 8000 in
set_option maxHeartbeats 4000000 in
theorem mcounts_ok (x : Ex) (hx : U64s x) (z a b : Int) (w : World) (hT : SpTab w) (hTab : Tab w) : Calls Tryd.prog 4 #[.agg (exV x), .int .i64 z, .int .i64 a, .int .i64 b] w fun e w' =>
    e = .returned (.bool true) ∧ Below w.heap.size w w' := by
  have H0 := Lib.hid (Box.first x hT hTab)
  have A1 := Lib.hid (fun W => Box.cnt (w := w) (W := W) hx z a b rfl rfl)
  have A2 := Lib.hid (fun W => Box.rcnt (w := w) (W := W) hx z a b rfl rfl)
  have CS := Lib.hid (fun W => short_ok a b W)
  generalize chk x z [a, b] = c at *
  generalize ctR x z a b = n at *
  clear hx hT hTab
  have e0 : exV x = #[.int .u64 x.s, .int .u64 x.mi, .int .u64 x.h, .int .u64 x.d, .int .u64 x.mo, .int .u64 x.w, .bool x.ad, .bool x.aw] := rfl
  rw [e0] at *
  clear e0
  go_enter Tryd.func4, Tryd.ntmps4
  go_wp2_with fail
  refine (CS.out _).mono ?_
  rintro e w9 ⟨⟨r, rfl⟩, rfl⟩
  clear CS
  cases r
  · clear A1 A2
    go_wp2_with fail
    refine (H0.out.works).mono ?_
    rintro e w1 ⟨rfl, hb⟩
    go_wp2_with fail
    go_ret
    exact ⟨rfl, hb.below⟩
  · obtain ⟨c0, c1, c2, c3, c4, c5, c6, c7⟩ := H0.out.cells
    go_wp2_with fail
    refine (A1.out _ H0.out).mono ?_
    rintro e w1 ⟨rfl, hb⟩
    clear c0 c1 c2 c3 c4 c5 c6 c7
    obtain ⟨c0, c1, c2, c3, c4, c5, c6, c7⟩ := hb.cells
    have H1 := Lib.hid hb
    clear hb H0
    go_wp2_with fail
    refine (A2.out _ H1.out).mono ?_
    rintro e w2 ⟨rfl, hb⟩
    clear c0 c1 c2 c3 c4 c5 c6 c7
    have H2 := Lib.hid hb
    clear hb H1
    go_wp2_with fail
    refine (H2.out.works).mono ?_
    rintro e w3 ⟨rfl, hb⟩
    go_wp2_with fail
    go_ret
    exact ⟨rfl, hb.below⟩
end Go.Proofs.YtepoegcpfhjlpaaDoor.BW
