/- The walk of MatchKnown. -/
import Derived.Test.YtepoegcpfhjlpaaDoorMKnowM
import Derived.Test.YtepoegcpfhjlpaaDoorMBoxN
import Derived.Test.YtepoegcpfhjlpaaDoorMListsW
import Derived.Test.YtepoegcpfhjlpaaDoorMCountsW
namespace Go.Proofs.YtepoegcpfhjlpaaDoor.BW
open Go.RowKit BM Go.Shelf MC
open BK hiding ret_bool ret_i64

structure KnI (w : World) (b : Nat) (W : World) : Prop where
  below : Below w.heap.size w W
  b1 : Blk W b 24 (exV kDay)
  b2 : Blk W (b + 1) 24 (exV kLeap)
  b3 : Blk W (b + 2) 24 (exV kNever)
  sp : SpTab W
  tab : Tab W
theorem KnI.next {w : World} {b : Nat} {W W' : World} (h : KnI w b W) (hb : Below W.heap.size W W') : KnI w b W' :=
  ⟨h.below.trans (hb.mono h.below.size), h.b1.below hb h.b1.lt, h.b2.below hb h.b2.lt, h.b3.below hb h.b3.lt, h.sp.below hb, tab_below h.tab hb (tab_lt h.tab)⟩
theorem KnI.alloc {w : World} {b : Nat} {W : World} (h : KnI w b W) (o : Obj) : KnI w b (W.alloc o) := h.next ((Below.refl _ W).alloc (Nat.le_refl _) o)
theorem KnI.c1 {w : World} {b : Nat} {W : World} (h : KnI w b W) : W.cell? ⟨b, 0, none⟩ = some (.int .u64 1) ∧ W.cell? ⟨b, 1, none⟩ = some (.int .u64 1) ∧ W.cell? ⟨b, 2, none⟩ = some (.int .u64 1) ∧ W.cell? ⟨b, 3, none⟩ = some (.int .u64 4294967294) ∧ W.cell? ⟨b, 4, none⟩ = some (.int .u64 8190) ∧ W.cell? ⟨b, 5, none⟩ = some (.int .u64 127) ∧ W.cell? ⟨b, 6, none⟩ = some (.bool true) ∧ W.cell? ⟨b, 7, none⟩ = some (.bool true) :=
  ⟨h.b1.cell 0, h.b1.cell 1, h.b1.cell 2, h.b1.cell 3, h.b1.cell 4, h.b1.cell 5, h.b1.cell 6, h.b1.cell 7⟩
theorem KnI.c2 {w : World} {b : Nat} {W : World} (h : KnI w b W) : W.cell? ⟨b + 1, 0, none⟩ = some (.int .u64 1) ∧ W.cell? ⟨b + 1, 1, none⟩ = some (.int .u64 1) ∧ W.cell? ⟨b + 1, 2, none⟩ = some (.int .u64 1) ∧ W.cell? ⟨b + 1, 3, none⟩ = some (.int .u64 536870912) ∧ W.cell? ⟨b + 1, 4, none⟩ = some (.int .u64 4) ∧ W.cell? ⟨b + 1, 5, none⟩ = some (.int .u64 127) ∧ W.cell? ⟨b + 1, 6, none⟩ = some (.bool false) ∧ W.cell? ⟨b + 1, 7, none⟩ = some (.bool true) :=
  ⟨h.b2.cell 0, h.b2.cell 1, h.b2.cell 2, h.b2.cell 3, h.b2.cell 4, h.b2.cell 5, h.b2.cell 6, h.b2.cell 7⟩
theorem KnI.c3 {w : World} {b : Nat} {W : World} (h : KnI w b W) : W.cell? ⟨b + 2, 0, none⟩ = some (.int .u64 1) ∧ W.cell? ⟨b + 2, 1, none⟩ = some (.int .u64 1) ∧ W.cell? ⟨b + 2, 2, none⟩ = some (.int .u64 1) ∧ W.cell? ⟨b + 2, 3, none⟩ = some (.int .u64 1073741824) ∧ W.cell? ⟨b + 2, 4, none⟩ = some (.int .u64 4) ∧ W.cell? ⟨b + 2, 5, none⟩ = some (.int .u64 127) ∧ W.cell? ⟨b + 2, 6, none⟩ = some (.bool false) ∧ W.cell? ⟨b + 2, 7, none⟩ = some (.bool true) :=
  ⟨h.b3.cell 0, h.b3.cell 1, h.b3.cell 2, h.b3.cell 3, h.b3.cell 4, h.b3.cell 5, h.b3.cell 6, h.b3.cell 7⟩
theorem q1 {w : World} {b : Nat} {W : World} (h : KnI w b W) : Calls Tryd.prog 24 #[.agg #[.int .u64 1, .int .u64 1, .int .u64 1, .int .u64 536870912, .int .u64 4, .int .u64 127, .bool false, .bool true], .int .i64 0, .int .i64 0] W fun e W' =>
    e = .returned (.tuple #[.int .i64 68169600, .bool true, .int .i64 0]) ∧ KnI w b W' := by
  have C := pnext_ok kLeap u64_kLeap 0 0 W h.sp h.tab
  rw [v_leap0, k_leap0] at C
  exact Calls.mono (show Calls Tryd.prog 24 #[.agg #[.int .u64 1, .int .u64 1, .int .u64 1, .int .u64 536870912, .int .u64 4, .int .u64 127, .bool false, .bool true], .int .i64 0, .int .i64 0] W _ from C) fun _ _ ⟨h1, h2⟩ => ⟨h1, h.next h2⟩
theorem q2 {w : World} {b : Nat} {W : World} (h : KnI w b W) : Calls Tryd.prog 24 #[.agg #[.int .u64 1, .int .u64 1, .int .u64 1, .int .u64 536870912, .int .u64 4, .int .u64 127, .bool false, .bool true], .int .i64 0, .int .i64 3981312000] W fun e W' =>
    e = .returned (.tuple #[.int .i64 4233686400, .bool true, .int .i64 0]) ∧ KnI w b W' := by
  have C := pnext_ok kLeap u64_kLeap 0 3981312000 W h.sp h.tab
  rw [v_leap1, k_leap1] at C
  exact Calls.mono (show Calls Tryd.prog 24 #[.agg #[.int .u64 1, .int .u64 1, .int .u64 1, .int .u64 536870912, .int .u64 4, .int .u64 127, .bool false, .bool true], .int .i64 0, .int .i64 3981312000] W _ from C) fun _ _ ⟨h1, h2⟩ => ⟨h1, h.next h2⟩
theorem q3 {w : World} {b : Nat} {W : World} (h : KnI w b W) : Calls Tryd.prog 24 #[.agg #[.int .u64 1, .int .u64 1, .int .u64 1, .int .u64 1073741824, .int .u64 4, .int .u64 127, .bool false, .bool true], .int .i64 0, .int .i64 0] W fun e W' =>
    e = .returned (.tuple #[.int .i64 0, .bool false, .int .i64 0]) ∧ KnI w b W' := by
  have C := pnext_ok kNever u64_kNever 0 0 W h.sp h.tab
  rw [v_never, k_never0] at C
  exact Calls.mono (show Calls Tryd.prog 24 #[.agg #[.int .u64 1, .int .u64 1, .int .u64 1, .int .u64 1073741824, .int .u64 4, .int .u64 127, .bool false, .bool true], .int .i64 0, .int .i64 0] W _ from C) fun _ _ ⟨h1, h2⟩ => ⟨h1, h.next h2⟩
theorem q4 {w : World} {b : Nat} {W : World} (h : KnI w b W) : Calls Tryd.prog 27 #[.agg #[.int .u64 1, .int .u64 1, .int .u64 1, .int .u64 1073741824, .int .u64 4, .int .u64 127, .bool false, .bool true]] W fun e W' =>
    e = .returned (.tuple #[.bool false, .int .i64 0]) ∧ KnI w b W' := by
  have C := ever_ok kNever u64_kNever W h.sp
  rw [v_ever, k_never] at C
  exact Calls.mono (show Calls Tryd.prog 27 #[.agg #[.int .u64 1, .int .u64 1, .int .u64 1, .int .u64 1073741824, .int .u64 4, .int .u64 127, .bool false, .bool true]] W _ from C) fun _ _ ⟨h1, h2⟩ => ⟨h1, h.next h2⟩
theorem q5 {w : World} {b : Nat} {W : World} (h : KnI w b W) : Calls Tryd.prog 24 #[.agg #[.int .u64 1, .int .u64 1, .int .u64 1, .int .u64 4294967294, .int .u64 8190, .int .u64 127, .bool true, .bool true], .int .i64 60, .int .i64 0] W fun e W' =>
    e = .returned (.tuple #[.int .i64 82800, .bool true, .int .i64 0]) ∧ KnI w b W' := by
  have C := pnext_ok kDay u64_kDay 60 0 W h.sp h.tab
  rw [v_day60, k_day60] at C
  exact Calls.mono (show Calls Tryd.prog 24 #[.agg #[.int .u64 1, .int .u64 1, .int .u64 1, .int .u64 4294967294, .int .u64 8190, .int .u64 127, .bool true, .bool true], .int .i64 60, .int .i64 0] W _ from C) fun _ _ ⟨h1, h2⟩ => ⟨h1, h.next h2⟩
theorem q6 {w : World} {b : Nat} {W : World} (h : KnI w b W) : Calls Tryd.prog 30 #[.agg #[.int .u64 1, .int .u64 1, .int .u64 1, .int .u64 4294967294, .int .u64 8190, .int .u64 127, .bool true, .bool true], .int .i64 0, .int .i64 86400] W fun e W' =>
    e = .returned (.tuple #[.int .i64 0, .bool true, .int .i64 0]) ∧ KnI w b W' := by
  have C := pprev_ok kDay u64_kDay 0 86400 W h.sp h.tab
  rw [v_prev1, k_day1] at C
  exact Calls.mono (show Calls Tryd.prog 30 #[.agg #[.int .u64 1, .int .u64 1, .int .u64 1, .int .u64 4294967294, .int .u64 8190, .int .u64 127, .bool true, .bool true], .int .i64 0, .int .i64 86400] W _ from C) fun _ _ ⟨h1, h2⟩ => ⟨h1, h.next h2⟩
theorem q7 {w : World} {b : Nat} {W : World} (h : KnI w b W) : Calls Tryd.prog 30 #[.agg #[.int .u64 1, .int .u64 1, .int .u64 1, .int .u64 4294967294, .int .u64 8190, .int .u64 127, .bool true, .bool true], .int .i64 0, .int .i64 0] W fun e W' =>
    e = .returned (.tuple #[.int .i64 0, .bool false, .int .i64 0]) ∧ KnI w b W' := by
  have C := pprev_ok kDay u64_kDay 0 0 W h.sp h.tab
  rw [v_prev0, k_day0] at C
  exact Calls.mono (show Calls Tryd.prog 30 #[.agg #[.int .u64 1, .int .u64 1, .int .u64 1, .int .u64 4294967294, .int .u64 8190, .int .u64 127, .bool true, .bool true], .int .i64 0, .int .i64 0] W _ from C) fun _ _ ⟨h1, h2⟩ => ⟨h1, h.next h2⟩
theorem q8 {w : World} {b : Nat} {W : World} (h : KnI w b W) : Calls Tryd.prog 24 #[.agg #[.int .u64 1, .int .u64 1, .int .u64 1, .int .u64 4294967294, .int .u64 8190, .int .u64 127, .bool true, .bool true], .int .i64 0, .int .i64 253402214400] W fun e W' =>
    e = .returned (.tuple #[.int .i64 0, .bool false, .int .i64 0]) ∧ KnI w b W' := by
  have C := pnext_ok kDay u64_kDay 0 253402214400 W h.sp h.tab
  rw [v_end, k_dayE] at C
  exact Calls.mono (show Calls Tryd.prog 24 #[.agg #[.int .u64 1, .int .u64 1, .int .u64 1, .int .u64 4294967294, .int .u64 8190, .int .u64 127, .bool true, .bool true], .int .i64 0, .int .i64 253402214400] W _ from C) fun _ _ ⟨h1, h2⟩ => ⟨h1, h.next h2⟩
theorem q9 {w : World} {b : Nat} {W : World} (h : KnI w b W) : Calls Tryd.prog 20 #[.agg #[.int .u64 1, .int .u64 1, .int .u64 1, .int .u64 4294967294, .int .u64 8190, .int .u64 127, .bool true, .bool true], .int .i64 0, .int .i64 0, .int .i64 86400] W fun e W' =>
    e = .returned (.tuple #[.int .i64 2, .int .i64 0]) ∧ KnI w b W' := by
  have C := pcount_ok kDay u64_kDay 0 0 86400 W h.sp
  rw [v_count, k_dayC] at C
  exact Calls.mono (show Calls Tryd.prog 20 #[.agg #[.int .u64 1, .int .u64 1, .int .u64 1, .int .u64 4294967294, .int .u64 8190, .int .u64 127, .bool true, .bool true], .int .i64 0, .int .i64 0, .int .i64 86400] W _ from C) fun _ _ ⟨h1, h2⟩ => ⟨h1, h.next h2⟩
theorem q10 {w : World} {b : Nat} {W : World} (h : KnI w b W) : Calls Tryd.prog 15 #[.agg #[.int .u64 1, .int .u64 1, .int .u64 1, .int .u64 4294967294, .int .u64 8190, .int .u64 127, .bool true, .bool true], .int .i64 0, .int .i64 86400, .int .i64 0, .int .i64 5] W fun e W' =>
    (∃ p k, e = .returned (.tuple #[.slice p 0 k, .int .i64 0])) ∧ KnI w b W' := by
  have C := plist_ok kDay u64_kDay 0 86400 0 5 (by decide) W h.sp h.tab
  rw [v_list, k_dayL] at C
  refine Calls.mono (show Calls Tryd.prog 15 #[.agg #[.int .u64 1, .int .u64 1, .int .u64 1, .int .u64 4294967294, .int .u64 8190, .int .u64 127, .bool true, .bool true], .int .i64 0, .int .i64 86400, .int .i64 0, .int .i64 5] W _ from C) ?_
  rintro e W' ⟨v, rfl, hv, hb⟩
  obtain ⟨p, k, rfl, _⟩ := hv.shape
  exact ⟨⟨p, k, rfl⟩, h.next hb⟩
theorem q11 {w : World} {b : Nat} {W : World} (h : KnI w b W) : Calls Tryd.prog 23 #[.agg #[.int .u64 1, .int .u64 1, .int .u64 0, .int .u64 4294967294, .int .u64 8190, .int .u64 127, .bool true, .bool true], .int .i64 900, .int .i64 (-1)] W fun e W' =>
    (∃ r, e = .returned (.tuple #[.bool r, .int .i64 16])) ∧ KnI w b W' := by
  have C := pis_ok kWrong u64_kWrong 900 (-1) W h.sp h.tab
  rw [k_wrong] at C
  exact Calls.mono (show Calls Tryd.prog 23 #[.agg #[.int .u64 1, .int .u64 1, .int .u64 0, .int .u64 4294967294, .int .u64 8190, .int .u64 127, .bool true, .bool true], .int .i64 900, .int .i64 (-1)] W _ from C) fun _ _ ⟨h1, h2⟩ => ⟨⟨_, h1⟩, h.next h2⟩
theorem q12 {w : World} {b : Nat} {W : World} (h : KnI w b W) : Calls Tryd.prog 23 #[.agg #[.int .u64 1, .int .u64 1, .int .u64 1, .int .u64 4294967294, .int .u64 8190, .int .u64 127, .bool true, .bool true], .int .i64 900, .int .i64 (-1)] W fun e W' =>
    (∃ r, e = .returned (.tuple #[.bool r, .int .i64 2])) ∧ KnI w b W' := by
  have C := pis_ok kDay u64_kDay 900 (-1) W h.sp h.tab
  rw [k_arg] at C
  exact Calls.mono (show Calls Tryd.prog 23 #[.agg #[.int .u64 1, .int .u64 1, .int .u64 1, .int .u64 4294967294, .int .u64 8190, .int .u64 127, .bool true, .bool true], .int .i64 900, .int .i64 (-1)] W _ from C) fun _ _ ⟨h1, h2⟩ => ⟨⟨_, h1⟩, h.next h2⟩
theorem q13 {w : World} {b : Nat} {W : World} (h : KnI w b W) : Calls Tryd.prog 23 #[.agg #[.int .u64 1, .int .u64 1, .int .u64 1, .int .u64 4294967294, .int .u64 8190, .int .u64 127, .bool true, .bool true], .int .i64 840, .int .i64 (-1)] W fun e W' =>
    (∃ r, e = .returned (.tuple #[.bool r, .int .i64 14])) ∧ KnI w b W' := by
  have C := pis_ok kDay u64_kDay 840 (-1) W h.sp h.tab
  rw [k_time] at C
  exact Calls.mono (show Calls Tryd.prog 23 #[.agg #[.int .u64 1, .int .u64 1, .int .u64 1, .int .u64 4294967294, .int .u64 8190, .int .u64 127, .bool true, .bool true], .int .i64 840, .int .i64 (-1)] W _ from C) fun _ _ ⟨h1, h2⟩ => ⟨⟨_, h1⟩, h.next h2⟩
theorem q14 {w : World} {b : Nat} {W : World} (h : KnI w b W) : Calls Tryd.prog 20 #[.agg #[.int .u64 1, .int .u64 1, .int .u64 1, .int .u64 4294967294, .int .u64 8190, .int .u64 127, .bool true, .bool true], .int .i64 0, .int .i64 0, .int .i64 253402300800] W fun e W' =>
    (∃ r, e = .returned (.tuple #[r, .int .i64 14])) ∧ KnI w b W' := by
  have C := pcount_ok kDay u64_kDay 0 0 253402300800 W h.sp
  rw [k_timeC] at C
  exact Calls.mono (show Calls Tryd.prog 20 #[.agg #[.int .u64 1, .int .u64 1, .int .u64 1, .int .u64 4294967294, .int .u64 8190, .int .u64 127, .bool true, .bool true], .int .i64 0, .int .i64 0, .int .i64 253402300800] W _ from C) fun _ _ ⟨h1, h2⟩ => ⟨⟨_, h1⟩, h.next h2⟩
theorem q15 {w : World} {b : Nat} {W : World} (h : KnI w b W) : Calls Tryd.prog 32 #[] W fun e W' => e = .returned (.agg #[.int .u64 1, .int .u64 1152921504606846975, .int .u64 16777215, .int .u64 4294967294, .int .u64 8190, .int .u64 127, .bool true, .bool true]) ∧ KnI w b W' :=
  (star_ok W).mono fun _ _ ⟨h1, h2⟩ => ⟨h1, h.next h2⟩
theorem q16 {w : World} {b : Nat} {W : World} (h : KnI w b W) : Calls Tryd.prog 23 #[.agg #[.int .u64 1, .int .u64 1152921504606846975, .int .u64 16777215, .int .u64 4294967294, .int .u64 8190, .int .u64 127, .bool true, .bool true], .int .i64 (-1), .int .i64 0] W fun e W' =>
    e = .returned (.tuple #[.bool false, .int .i64 0]) ∧ KnI w b W' := by
  have C := pis_ok starX u64_star (-1) 0 W h.sp h.tab
  rw [v_star, k_star] at C
  exact Calls.mono (show Calls Tryd.prog 23 #[.agg #[.int .u64 1, .int .u64 1152921504606846975, .int .u64 16777215, .int .u64 4294967294, .int .u64 8190, .int .u64 127, .bool true, .bool true], .int .i64 (-1), .int .i64 0] W _ from C) fun _ _ ⟨h1, h2⟩ => ⟨h1, h.next h2⟩
theorem q17 {w : World} {b : Nat} {W : World} (h : KnI w b W) : Calls Tryd.prog 18 #[] W fun e W' => e = .returned (.bool true) ∧ KnI w b W' :=
  (works_ok W h.sp h.tab).mono fun _ _ ⟨h1, h2⟩ => ⟨h1, h.next h2⟩
end Go.Proofs.YtepoegcpfhjlpaaDoor.BW
