/- Boxes that are nil or were not made by New; the walk of BreakerNil. -/
import Derived.Test.YtfeblkoconjakaaBrkSteps
namespace Go.Proofs.Ytfeblkoconjakaa.BK
open Go Go.RowKit

/-- A pointer to no box, or to one that was not made. -/
def Bad (w : World) (p : Option Addr) : Prop := p = none ∨ ∃ b, p = some ⟨b, 0, none⟩ ∧ w.cell? ⟨b, 9, none⟩ = some (.bool false)
section
variable {w : World} {p : Option Addr}
theorem bad_valid (h : Bad w p) : Calls Try.prog 38 #[.pointer p] w fun e w' => e = .returned (.bool false) ∧ w = w' := by
  rcases h with rfl | ⟨b, rfl, hc⟩
  all_goals
    go_enter Try.func38, Try.ntmps38
    go_wp2
    go_ret
    exact ⟨rfl, rfl⟩
theorem bad_check (h : Bad w p) (now : Int) : Calls Try.prog 34 #[.pointer p, .int .i64 now] w fun e w' => e = .returned (.int .i64 1) ∧ w = w' := by
  have V := Lib.hid (bad_valid h)
  clear h
  go_enter Try.func34, Try.ntmps34
  go_wp2_with fail
  have C := V.out
  (with_reducible refine C.mono ?_)
  rintro e w' ⟨rfl, rfl⟩
  clear C
  go_wp2_with fail
  go_ret
  exact ⟨rfl, rfl⟩
theorem bad_state (h : Bad w p) (now : Int) : Calls Try.prog 16 #[.pointer p, .int .i64 now] w fun e w' => e = .returned (.int .i64 0) ∧ w = w' := by
  have V := Lib.hid (bad_valid h)
  clear h
  go_enter Try.func16, Try.ntmps16
  go_wp2_with fail
  have C := V.out
  (with_reducible refine C.mono ?_)
  rintro e w' ⟨rfl, rfl⟩
  clear C
  go_wp2_with fail
  go_ret
  exact ⟨rfl, rfl⟩
theorem bad_until (h : Bad w p) : Calls Try.prog 14 #[.pointer p] w fun e w' => e = .returned (.tuple #[.int .i64 0, .bool false]) ∧ w = w' := by
  have V := Lib.hid (bad_valid h)
  clear h
  go_enter Try.func14, Try.ntmps14
  go_wp2_with fail
  have C := V.out
  (with_reducible refine C.mono ?_)
  rintro e w' ⟨rfl, rfl⟩
  clear C
  go_wp2_with fail
  go_ret2
  exact ⟨rfl, rfl⟩
theorem bad_counts (h : Bad w p) : Calls Try.prog 17 #[.pointer p] w fun e w' => e = .returned (.tuple #[.int .i64 0, .int .i64 0, .int .i64 0]) ∧ w = w' := by
  have V := Lib.hid (bad_valid h)
  clear h
  go_enter Try.func17, Try.ntmps17
  go_wp2_with fail
  have C := V.out
  (with_reducible refine C.mono ?_)
  rintro e w' ⟨rfl, rfl⟩
  clear C
  go_wp2_with fail
  go_ret3
  exact ⟨rfl, rfl⟩
theorem bad_allows (h : Bad w p) (now : Int) : Calls Try.prog 18 #[.pointer p, .int .i64 now] w fun e w' => e = .returned (.bool false) ∧ w = w' := by
  have V := Lib.hid (bad_valid h)
  clear h
  go_enter Try.func18, Try.ntmps18
  go_wp2_with fail
  have C := V.out
  (with_reducible refine C.mono ?_)
  rintro e w' ⟨rfl, rfl⟩
  clear C
  go_wp2_with fail
  go_ret
  exact ⟨rfl, rfl⟩
theorem bad_copy (h : Bad w p) : Calls Try.prog 28 #[.pointer p] w fun e w' => e = .returned (.pointer none) ∧ w = w' := by
  have V := Lib.hid (bad_valid h)
  clear h
  go_enter Try.func28, Try.ntmps28
  go_wp2_with fail
  have C := V.out
  (with_reducible refine C.mono ?_)
  rintro e w' ⟨rfl, rfl⟩
  clear C
  go_wp2_with fail
  go_ret
  exact ⟨rfl, rfl⟩
theorem bad_take (h : Bad w p) (now : Int) : Calls Try.prog 20 #[.pointer p, .int .i64 now] w fun e w' => e = .returned (.int .i64 1) ∧ w = w' := by
  have V := Lib.hid (bad_check h now)
  clear h
  go_enter Try.func20, Try.ntmps20
  go_wp2_with fail
  have C := V.out
  (with_reducible refine C.mono ?_)
  rintro e w' ⟨rfl, rfl⟩
  clear C
  go_wp2_with fail
  go_ret
  exact ⟨rfl, rfl⟩
theorem bad_report (h : Bad w p) (ok : Bool) (now : Int) : Calls Try.prog 13 #[.pointer p, .bool ok, .int .i64 now] w fun e w' => e = .returned (.tuple #[.int .i64 0, .int .i64 1]) ∧ w = w' := by
  have V := Lib.hid (bad_check h now)
  clear h
  go_enter Try.func13, Try.ntmps13
  go_wp2_with fail
  have C := V.out
  (with_reducible refine C.mono ?_)
  rintro e w' ⟨rfl, rfl⟩
  clear C
  go_wp2_with fail
  go_ret2
  exact ⟨rfl, rfl⟩
theorem bad_switched (h : Bad w p) (now : Int) : Calls Try.prog 39 #[.pointer p, .int .i64 now] w fun e w' => e = .returned (.int .i64 1) ∧ w = w' := by
  have V := Lib.hid (bad_check h now)
  clear h
  go_enter Try.func39, Try.ntmps39
  go_wp2_with fail
  have C := V.out
  (with_reducible refine C.mono ?_)
  rintro e w' ⟨rfl, rfl⟩
  clear C
  go_wp2_with fail
  go_ret
  exact ⟨rfl, rfl⟩
theorem bad_trip (h : Bad w p) (now : Int) : Calls Try.prog 19 #[.pointer p, .int .i64 now] w fun e w' => e = .returned (.int .i64 1) ∧ w = w' := by
  have V := Lib.hid (bad_switched h now)
  clear h
  go_enter Try.func19, Try.ntmps19
  go_wp2_with fail
  have C := V.out
  (with_reducible refine C.mono ?_)
  rintro e w' ⟨rfl, rfl⟩
  clear C
  go_wp2_with fail
  go_ret
  exact ⟨rfl, rfl⟩
theorem bad_reset (h : Bad w p) (now : Int) : Calls Try.prog 15 #[.pointer p, .int .i64 now] w fun e w' => e = .returned (.int .i64 1) ∧ w = w' := by
  have V := Lib.hid (bad_switched h now)
  clear h
  go_enter Try.func15, Try.ntmps15
  go_wp2_with fail
  have C := V.out
  (with_reducible refine C.mono ?_)
  rintro e w' ⟨rfl, rfl⟩
  clear C
  go_wp2_with fail
  go_ret
  exact ⟨rfl, rfl⟩
end

set_option maxHeartbeats 4000000 in
set_option maxRecDepth 100000 in
theorem nil_walk (ok : Bool) (now : Int) (w : World) :
    Calls Try.prog 8 #[.bool ok, .int .i64 now] w fun e w' => e = .returned (.bool true) ∧ Below w.heap.size w w' := by
  go_enter Try.func8, Try.ntmps8
  go_wp2_with fail
  obtain ⟨W, hW⟩ : ∃ W : World, Hid (W = (w.alloc (.cells #[.int .i64 0, .int .i64 0, .int .i64 0, .bool false, .int .i64 0, .int .i64 0, .int .i64 0, .int .i64 0, .int .i64 0, .bool false] 58)).alloc (.cells #[.pointer none, .pointer (some ⟨w.heap.size, 0, none⟩)] 25)) := ⟨_, Lib.hid rfl⟩
  have h0 : W.cell? ⟨w.heap.size + 1, 0, none⟩ = some (.pointer none) := by rw [hW.out]; simp
  have h1 : W.cell? ⟨w.heap.size + 1, 1, none⟩ = some (.pointer (some ⟨w.heap.size, 0, none⟩)) := by rw [hW.out]; simp
  have HB : Hid (∀ k : Nat, k < 2 → Bad W (if k = 0 then none else some ⟨w.heap.size, 0, none⟩)) := Lib.hid (fun k hk => by
    by_cases h : k = 0
    · rw [if_pos h]; exact .inl rfl
    · rw [if_neg h]; exact .inr ⟨_, rfl, by rw [hW.out]; simp⟩)
  have HE : Hid (Below w.heap.size w W) := Lib.hid (by rw [hW.out]; exact ((Below.refl _ _).alloc (Nat.le_refl _) _).alloc (by simp) _)
  rw [← hW.out]
  go_loopw [7] (fun iv wr => ∃ k : Nat, iv = .int .i64 k ∧ k ≤ 2 ∧ wr = W) (fun i _ => 2 - (intOf i).toNat)
  case atStart => exact ⟨0, rfl, by omega, rfl⟩
  case round =>
    obtain ⟨k, rfl, hk, rfl⟩ := hrel
    by_cases hlt : k < 2
    · have hb := HB.out k hlt
      obtain ⟨q, hq⟩ : ∃ q : Option Addr, q = if k = 0 then none else some ⟨w.heap.size, 0, none⟩ := ⟨_, rfl⟩
      have hc : wr.cell? ⟨w.heap.size + 1, k, none⟩ = some (.pointer q) := by
        rcases (show k = 0 ∨ k = 1 by omega) with rfl | rfl
        · rw [hq]; exact h0
        · rw [hq]; exact h1
      rw [← hq] at hb
      have B := Lib.hid hb
      clear hb hq h0 h1
      go_wp2_with fail
      have C := bad_report B.out ok now
      (with_reducible refine C.mono ?_)
      rintro e w' ⟨rfl, rfl⟩
      clear C
      go_wp2_with fail
      have C := bad_until B.out
      (with_reducible refine C.mono ?_)
      rintro e w' ⟨rfl, rfl⟩
      clear C
      go_wp2_with fail
      have C := bad_counts B.out
      (with_reducible refine C.mono ?_)
      rintro e w' ⟨rfl, rfl⟩
      clear C
      go_wp2_with fail
      have C := bad_state B.out now
      (with_reducible refine C.mono ?_)
      rintro e w' ⟨rfl, rfl⟩
      clear C
      go_wp2_with fail
      have C := bad_allows B.out now
      (with_reducible refine C.mono ?_)
      rintro e w' ⟨rfl, rfl⟩
      clear C
      go_wp2_with fail
      have C := bad_take B.out now
      (with_reducible refine C.mono ?_)
      rintro e w' ⟨rfl, rfl⟩
      clear C
      go_wp2_with fail
      have C := bad_trip B.out now
      (with_reducible refine C.mono ?_)
      rintro e w' ⟨rfl, rfl⟩
      clear C
      go_wp2_with fail
      have C := bad_reset B.out now
      (with_reducible refine C.mono ?_)
      rintro e w' ⟨rfl, rfl⟩
      clear C
      go_wp2_with fail
      have C := bad_copy B.out
      (with_reducible refine C.mono ?_)
      rintro e w' ⟨rfl, rfl⟩
      clear C
      go_wp2_with fail
      go_roundw
      case rel => exact ⟨k + 1, by go_num, by omega, trivial⟩
      case measure => simp [intOf]; omega
    · clear h0 h1
      obtain rfl : k = 2 := by omega
      go_wp2_with fail
      have C := works_ok
      (with_reducible refine (C _).mono ?_)
      rintro e w9 ⟨rfl, hb9⟩
      clear C
      have HB9 := Lib.hid hb9
      clear hb9
      go_wp2_with fail
      go_ret
      exact ⟨rfl, HE.out.trans (HB9.out.mono HE.out.size)⟩
end Go.Proofs.Ytfeblkoconjakaa.BK
