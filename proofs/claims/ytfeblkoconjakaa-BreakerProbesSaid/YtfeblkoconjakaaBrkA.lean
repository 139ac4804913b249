/- Contracts of the questions that a box answers: valid, State, check, Until, Counts, Allows. -/
import Derived.Test.YtfeblkoconjakaaProg
import Derived.Test.YtfeblkoconjakaaBrkMath
import Derived.Test.YtfeblkoconjakaaBlk
import Derived.Deep.QuietTactic
import Derived.BigQuiet
namespace Go.Proofs.Ytfeblkoconjakaa.BK
open Go Go.RowKit

def Bx.cells (x : Bx) : Array Value := #[.int .i64 x.f, .int .i64 x.o, .int .i64 x.p, .bool x.op, .int .i64 x.un, .int .i64 x.fails, .int .i64 x.good, .int .i64 x.under, .int .i64 x.last, .bool true]
def Bx.rcells (x : Bx) : Array Value := #[.bool true, .int .i64 x.f, .int .i64 x.o, .int .i64 x.p, .bool x.op, .int .i64 x.un, .int .i64 x.fails, .int .i64 x.good, .int .i64 x.under, .int .i64 x.last]
def BoxAt (w : World) (b : Nat) (x : Bx) : Prop := Blk w b 58 x.cells
def RBoxAt (w : World) (b : Nat) (x : Bx) : Prop := Blk w b 72 x.rcells

theorem box_cells {w : World} {b : Nat} {x : Bx} (h : BoxAt w b x) :
    w.cell? ⟨b, 0, none⟩ = some (.int .i64 x.f) ∧ w.cell? ⟨b, 1, none⟩ = some (.int .i64 x.o) ∧ w.cell? ⟨b, 2, none⟩ = some (.int .i64 x.p) ∧ w.cell? ⟨b, 3, none⟩ = some (.bool x.op) ∧ w.cell? ⟨b, 4, none⟩ = some (.int .i64 x.un) ∧
    w.cell? ⟨b, 5, none⟩ = some (.int .i64 x.fails) ∧ w.cell? ⟨b, 6, none⟩ = some (.int .i64 x.good) ∧ w.cell? ⟨b, 7, none⟩ = some (.int .i64 x.under) ∧ w.cell? ⟨b, 8, none⟩ = some (.int .i64 x.last) ∧ w.cell? ⟨b, 9, none⟩ = some (.bool true) :=
  ⟨Blk.cell h 0, Blk.cell h 1, Blk.cell h 2, Blk.cell h 3, Blk.cell h 4, Blk.cell h 5, Blk.cell h 6, Blk.cell h 7, Blk.cell h 8, Blk.cell h 9⟩
theorem rbox_cells {w : World} {b : Nat} {x : Bx} (h : RBoxAt w b x) :
    w.cell? ⟨b, 0, none⟩ = some (.bool true) ∧ w.cell? ⟨b, 1, none⟩ = some (.int .i64 x.f) ∧ w.cell? ⟨b, 2, none⟩ = some (.int .i64 x.o) ∧ w.cell? ⟨b, 3, none⟩ = some (.int .i64 x.p) ∧ w.cell? ⟨b, 4, none⟩ = some (.bool x.op) ∧
    w.cell? ⟨b, 5, none⟩ = some (.int .i64 x.un) ∧ w.cell? ⟨b, 6, none⟩ = some (.int .i64 x.fails) ∧ w.cell? ⟨b, 7, none⟩ = some (.int .i64 x.good) ∧ w.cell? ⟨b, 8, none⟩ = some (.int .i64 x.under) ∧ w.cell? ⟨b, 9, none⟩ = some (.int .i64 x.last) :=
  ⟨Blk.cell h 0, Blk.cell h 1, Blk.cell h 2, Blk.cell h 3, Blk.cell h 4, Blk.cell h 5, Blk.cell h 6, Blk.cell h 7, Blk.cell h 8, Blk.cell h 9⟩

section
variable {w : World} {b : Nat} {x : Bx}
theorem valid_ok (h : BoxAt w b x) : Calls Try.prog 38 #[.pointer (some ⟨b, 0, none⟩)] w fun e w' => e = .returned (.bool true) ∧ w = w' := by
  have h9 := (box_cells h).2.2.2.2.2.2.2.2.2
  clear h
  go_enter Try.func38, Try.ntmps38
  go_wp2
  go_ret
  exact ⟨rfl, rfl⟩
theorem state_ok (h : BoxAt w b x) (now : Int) : Calls Try.prog 16 #[.pointer (some ⟨b, 0, none⟩), .int .i64 now] w fun e w' => e = .returned (.int .i64 (state x now)) ∧ w = w' := by
  obtain ⟨f, o, p, op, un, fails, good, under, last⟩ := x
  obtain ⟨-, -, -, h3, h4, -⟩ := box_cells h
  have V := Lib.hid (valid_ok h)
  clear h
  cases op
  · go_enter Try.func16, Try.ntmps16
    go_wp2_with fail
    refine V.out.mono ?_
    rintro e w' ⟨rfl, rfl⟩
    go_wp2
    go_ret
    exact ⟨rfl, rfl⟩
  · by_cases hn : now < un
    all_goals
      go_enter Try.func16, Try.ntmps16
      go_wp2_with fail
      refine V.out.mono ?_
      rintro e w' ⟨rfl, rfl⟩
      go_wp2
      go_ret
      exact ⟨by simp [state, hn], rfl⟩
theorem check_ok (h : BoxAt w b x) (now : Int) : Calls Try.prog 34 #[.pointer (some ⟨b, 0, none⟩), .int .i64 now] w fun e w' => e = .returned (.int .i64 (check x now)) ∧ w = w' := by
  obtain ⟨f, o, p, op, un, fails, good, under, last⟩ := x
  obtain ⟨-, -, -, -, -, -, -, -, h8, -⟩ := box_cells h
  have V := Lib.hid (valid_ok h)
  clear h
  by_cases h1 : now < 0
  · have hc : Hid (check ⟨f, o, p, op, un, fails, good, under, last⟩ now = 14) := Lib.hid (by unfold check; rw [if_pos (by omega)])
    go_enter Try.func34, Try.ntmps34
    go_wp2_with fail
    refine V.out.mono ?_
    rintro e w' ⟨rfl, rfl⟩
    go_wp2
    go_ret
    exact ⟨by rw [hc.out]; rfl, rfl⟩
  · by_cases h2 : 253402300799 < now
    · have hc : Hid (check ⟨f, o, p, op, un, fails, good, under, last⟩ now = 14) := Lib.hid (by unfold check maxTime; rw [if_pos (by omega)])
      go_enter Try.func34, Try.ntmps34
      go_wp2_with fail
      refine V.out.mono ?_
      rintro e w' ⟨rfl, rfl⟩
      go_wp2
      go_ret
      exact ⟨by rw [hc.out]; rfl, rfl⟩
    · by_cases h3 : now < last
      · have hc : Hid (check ⟨f, o, p, op, un, fails, good, under, last⟩ now = 8) := Lib.hid (by unfold check maxTime; rw [if_neg (by omega), if_pos h3])
        go_enter Try.func34, Try.ntmps34
        go_wp2_with fail
        refine V.out.mono ?_
        rintro e w' ⟨rfl, rfl⟩
        go_wp2
        go_ret
        exact ⟨by rw [hc.out]; rfl, rfl⟩
      · have hc : Hid (check ⟨f, o, p, op, un, fails, good, under, last⟩ now = 0) := Lib.hid (by unfold check maxTime; rw [if_neg (by omega), if_neg h3])
        go_enter Try.func34, Try.ntmps34
        go_wp2_with fail
        refine V.out.mono ?_
        rintro e w' ⟨rfl, rfl⟩
        go_wp2
        go_ret
        exact ⟨by rw [hc.out]; rfl, rfl⟩
theorem until_ok (h : BoxAt w b x) : Calls Try.prog 14 #[.pointer (some ⟨b, 0, none⟩)] w fun e w' => e = .returned (.tuple #[.int .i64 (untilOf x), .bool x.op]) ∧ w = w' := by
  obtain ⟨f, o, p, op, un, fails, good, under, last⟩ := x
  obtain ⟨-, -, -, h3, h4, -⟩ := box_cells h
  have V := Lib.hid (valid_ok h)
  clear h
  cases op
  all_goals
    go_enter Try.func14, Try.ntmps14
    go_wp2_with fail
    refine V.out.mono ?_
    rintro e w' ⟨rfl, rfl⟩
    go_wp2
    go_ret2
    exact ⟨rfl, rfl⟩
theorem counts_ok (h : BoxAt w b x) : Calls Try.prog 17 #[.pointer (some ⟨b, 0, none⟩)] w fun e w' => e = .returned (.tuple #[.int .i64 x.fails, .int .i64 x.good, .int .i64 x.under]) ∧ ∃ n, w' = w.drewN n := by
  obtain ⟨f, o, p, op, un, fails, good, under, last⟩ := x
  obtain ⟨-, -, -, -, -, h5, h6, h7, -⟩ := box_cells h
  have V := Lib.hid (valid_ok h)
  clear h
  go_enter Try.func17, Try.ntmps17
  go_wp2_with fail
  refine V.out.mono ?_
  rintro e w' ⟨rfl, rfl⟩
  go_wp2_with fail
  go_quiet (fail)
  go_wp2_with fail
  go_ret3
  exact ⟨rfl, _, rfl⟩
set_option maxHeartbeats 400000 in
theorem allows_ok (h : BoxAt w b x) (hi : Inv x) (now : Int) : Calls Try.prog 18 #[.pointer (some ⟨b, 0, none⟩), .int .i64 now] w fun e w' => e = .returned (.bool (allows x now)) ∧ ∃ n, w' = w.drewN n := by
  have hs := hi.small
  have hst := state_ok h now
  obtain ⟨f, o, p, op, un, fails, good, under, last⟩ := x
  obtain ⟨-, -, h2, h3, h4, h5, h6, h7, -⟩ := box_cells h
  have V := Lib.hid (valid_ok h)
  clear h hi
  simp only at hs
  cases op
  · have S := Lib.hid (show state ⟨f, o, p, false, un, fails, good, under, last⟩ now = 0 from rfl)
    rw [S.out] at hst
    have ST := Lib.hid hst
    clear hst
    go_enter Try.func18, Try.ntmps18
    go_wp2_with fail
    refine V.out.mono ?_
    rintro e w' ⟨rfl, rfl⟩
    go_wp2_with fail
    refine ST.out.mono ?_
    rintro e w' ⟨rfl, rfl⟩
    go_wp2_with fail
    go_ret
    exact ⟨rfl, 0, rfl⟩
  · by_cases hn : now < un
    · rw [show state ⟨f, o, p, true, un, fails, good, under, last⟩ now = 1 from by simp [state, hn]] at hst
      have ST := Lib.hid hst
      have HA := Lib.hid (show allows ⟨f, o, p, true, un, fails, good, under, last⟩ now = false by simp [allows, hn])
      clear hst
      go_enter Try.func18, Try.ntmps18
      go_wp2_with fail
      refine V.out.mono ?_
      rintro e w' ⟨rfl, rfl⟩
      go_wp2_with fail
      refine ST.out.mono ?_
      rintro e w' ⟨rfl, rfl⟩
      go_wp2_with fail
      go_ret
      exact ⟨by rw [HA.out]; rfl, 0, rfl⟩
    · rw [show state ⟨f, o, p, true, un, fails, good, under, last⟩ now = 2 from by simp [state, hn]] at hst
      have ST := Lib.hid hst
      have HA := Lib.hid (show allows ⟨f, o, p, true, un, fails, good, under, last⟩ now = decide (good + under < p) by simp [allows, hn])
      have hw : IntKind.i64.wrap (good + under) = good + under := IntWalk.i64_in _ (by omega)
      clear hst
      go_enter Try.func18, Try.ntmps18
      go_wp2_with fail
      refine V.out.mono ?_
      rintro e w' ⟨rfl, rfl⟩
      go_wp2_with fail
      refine ST.out.mono ?_
      rintro e w' ⟨rfl, rfl⟩
      go_wp2_with fail
      go_quiet (fail)
      go_wp2_with fail
      go_ret
      exact ⟨by rw [HA.out]; rfl, _, rfl⟩
end
end Go.Proofs.Ytfeblkoconjakaa.BK
