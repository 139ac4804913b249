/- The walk of MatchLists. -/
import Derived.Test.YtepoegcpfhjlpaaDoorMBoxN
import Derived.Test.YtepoegcpfhjlpaaDoorRList
namespace Go.Proofs.YtepoegcpfhjlpaaDoor.BW
open Go.RowKit BM Go.Shelf MC
open BK hiding ret_bool ret_i64

theorem lsV_len (x : Ex) (z a b n : Int) : (lsV x z a b n).length ≤ 100000 := by
  unfold lsV
  split
  · rw [List.length_take]; omega
  · exact Nat.zero_le _
theorem Box.lst {w : World} {x : Ex} {W : World} (hx : U64s x) (z a b n : Int) (hn : n ≤ 9223372036854775807) {c : Int} {ys : List Int} (hy : lsV x z a b n = ys) (hc : chk x z [a, b] = c) (h : Box w x W) : Calls Tryd.prog 15 #[.agg #[.int .u64 x.s, .int .u64 x.mi, .int .u64 x.h, .int .u64 x.d, .int .u64 x.mo, .int .u64 x.w, .bool x.ad, .bool x.aw], .int .i64 z, .int .i64 a, .int .i64 b, .int .i64 n] W fun e W' =>
    ∃ p k, e = .returned (.tuple #[.slice p ys.length k, .int .i64 c]) ∧ IntsAt W' p ys ∧ Box w x W' := by
  subst hy hc
  refine (plist_ok x hx z a b n hn W h.sp h.tab).mono ?_
  rintro e W' ⟨v, rfl, hv, hb⟩
  obtain ⟨p, k, rfl, hi⟩ := hv.shape
  exact ⟨p, k, rfl, hi, h.next hb⟩
theorem Box.rlst {w : World} {x : Ex} {W : World} (hx : U64s x) (z a b n : Int) (hn : n ≤ 9223372036854775807) {c : Int} {ys : List Int} (hy : lsV x z a b n = ys) (hc : chk x z [a, b] = c) {q : Option Addr} (h : Box w x W ∧ IntsAt W q ys) : Calls Tryd.prog 16 #[.agg #[.int .u64 x.s, .int .u64 x.mi, .int .u64 x.h, .int .u64 x.d, .int .u64 x.mo, .int .u64 x.w, .bool x.ad, .bool x.aw], .int .i64 z, .int .i64 a, .int .i64 b, .int .i64 n] W fun e W' =>
    ∃ p k, e = .returned (.tuple #[.slice p ys.length k, .int .i64 c]) ∧ IntsAt W' p ys ∧ Box w x W' ∧ IntsAt W' q ys := by
  subst hy hc
  refine (rlst_ok x hx z a b n hn W).mono ?_
  rintro e W' ⟨v, rfl, hv, hb⟩
  obtain ⟨p, k, rfl, hi⟩ := hv.shape
  exact ⟨p, k, rfl, hi, h.1.next hb, h.2.below hb⟩
set_option maxRecDepth 8000 in
set_option maxHeartbeats 4000000 in
theorem mlists_ok (x : Ex) (hx : U64s x) (z a b n : Int) (w : World) (hT : SpTab w) (hTab : Tab w) : Calls Tryd.prog 3 #[.agg (exV x), .int .i64 z, .int .i64 a, .int .i64 b, .int .i64 n] w fun e w' =>
    e = .returned (.bool true) ∧ Below w.heap.size w w' := by
  have H0 := Lib.hid (Box.first x hT hTab)
  obtain ⟨m, hm⟩ : ∃ m, min n 20 = m := ⟨_, rfl⟩
  have hlen := lsV_len x z a b m
  have A1 := Lib.hid (fun W => Box.lst (w := w) (W := W) hx z a b m (by omega) rfl rfl)
  have A2 := Lib.hid (fun W q => Box.rlst (w := w) (W := W) hx z a b m (by omega) rfl rfl (q := q))
  generalize chk x z [a, b] = c at *
  generalize lsV x z a b m = ys at *
  have HL := Lib.hid hlen
  clear hx hT hTab hlen
  have e0 : exV x = #[.int .u64 x.s, .int .u64 x.mi, .int .u64 x.h, .int .u64 x.d, .int .u64 x.mo, .int .u64 x.w, .bool x.ad, .bool x.aw] := rfl
  rw [e0] at *
  clear e0
  go_enter Tryd.func3, Tryd.ntmps3
  go_wp2_with fail
  refine (A1.out _ H0.out).mono ?_
  rintro e w1 ⟨p, k, rfl, hi, hb⟩
  obtain ⟨c0, c1, c2, c3, c4, c5, c6, c7⟩ := hb.cells
  have H1 := Lib.hid (And.intro hb hi)
  clear hb hi H0 A1
  go_wp2_with fail
  refine (A2.out _ p H1.out).mono ?_
  rintro e w2 ⟨q, k2, rfl, hi, hb, hi2⟩
  have H2 := Lib.hid (And.intro hb (And.intro hi hi2))
  clear hb hi hi2 H1 A2 c0 c1 c2 c3 c4 c5 c6 c7
  go_wp2_with fail
  refine (same_ok p q ys _ k k2 rfl (by have := HL.out; omega) w2 H2.out.2.2 H2.out.2.1).mono ?_
  rintro e w3 ⟨rfl, hb⟩
  have H3 := Lib.hid (H2.out.1.next hb)
  clear hb H2
  go_wp2_with fail
  refine (H3.out.works).mono ?_
  rintro e w4 ⟨rfl, hb⟩
  go_wp2_with fail
  go_ret
  exact ⟨rfl, hb.below⟩
end Go.Proofs.YtepoegcpfhjlpaaDoor.BW
