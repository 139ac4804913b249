/- Contracts of the reference's boxes: they do the same to a box that is laid out otherwise. -/
import Derived.Test.YtfeblkoconjakaaBrkPausesW
namespace Go.Proofs.Ytfeblkoconjakaa.BK
open Go Go.RowKit

def RHas (B : Nat) (w0 w : World) (b : Nat) (x : Bx) : Prop := RBoxAt w b x ∧ Inv x ∧ Below B w0 w ∧ B ≤ b ∧ B ≤ w0.heap.size
section
variable {w : World} {b : Nat} {x : Bx}
theorem rbox_set {y : Bx} (i : Nat) (v : Value) (h : RBoxAt w b x) (he : x.rcells.setIfInBounds i v = y.rcells) : RBoxAt (w.setCell ⟨b, i, none⟩ v) b y := by
  have h1 := Blk.set_ h i v
  rw [he] at h1
  exact h1
theorem r_last (h : RBoxAt w b x) (v : Int) : RBoxAt (w.setCell ⟨b, 9, none⟩ (.int .i64 v)) b { x with last := v } := rbox_set 9 _ h (by simp [Bx.rcells])
theorem r_under (h : RBoxAt w b x) (v : Int) : RBoxAt (w.setCell ⟨b, 8, none⟩ (.int .i64 v)) b { x with under := v } := rbox_set 8 _ h (by simp [Bx.rcells])
theorem r_good (h : RBoxAt w b x) (v : Int) : RBoxAt (w.setCell ⟨b, 7, none⟩ (.int .i64 v)) b { x with good := v } := rbox_set 7 _ h (by simp [Bx.rcells])
theorem r_fails (h : RBoxAt w b x) (v : Int) : RBoxAt (w.setCell ⟨b, 6, none⟩ (.int .i64 v)) b { x with fails := v } := rbox_set 6 _ h (by simp [Bx.rcells])
theorem r_un (h : RBoxAt w b x) (v : Int) : RBoxAt (w.setCell ⟨b, 5, none⟩ (.int .i64 v)) b { x with un := v } := rbox_set 5 _ h (by simp [Bx.rcells])
theorem r_op (h : RBoxAt w b x) (v : Bool) : RBoxAt (w.setCell ⟨b, 4, none⟩ (.bool v)) b { x with op := v } := rbox_set 4 _ h (by simp [Bx.rcells])

theorem rvalid_ok (h : RBoxAt w b x) : Calls Try.prog 48 #[.pointer (some ⟨b, 0, none⟩)] w fun e w' => e = .returned (.bool true) ∧ w = w' := by
  have h0 := (rbox_cells h).1
  clear h
  go_enter Try.func48, Try.ntmps48
  go_wp2_with fail
  go_ret
  exact ⟨rfl, rfl⟩
theorem rstate_ok (h : RBoxAt w b x) (now : Int) : Calls Try.prog 45 #[.pointer (some ⟨b, 0, none⟩), .int .i64 now] w fun e w' => e = .returned (.int .i64 (state x now)) ∧ w = w' := by
  obtain ⟨f, o, p, op, un, fails, good, under, last⟩ := x
  obtain ⟨-, -, -, -, h4, h5, -⟩ := rbox_cells h
  have V := Lib.hid (rvalid_ok h)
  clear h
  cases op
  · go_enter Try.func45, Try.ntmps45
    go_wp2_with fail
    have C := V.out
    (with_reducible refine C.mono ?_)
    rintro e w' ⟨rfl, rfl⟩
    clear C
    go_wp2_with fail
    go_ret
    exact ⟨rfl, rfl⟩
  · by_cases hn : now < un
    all_goals
      go_enter Try.func45, Try.ntmps45
      go_wp2_with fail
      have C := V.out
      (with_reducible refine C.mono ?_)
      rintro e w' ⟨rfl, rfl⟩
      clear C
      go_wp2_with fail
      go_ret
      exact ⟨by simp [state, hn], rfl⟩
theorem first_ok (h : RBoxAt w b x) (now : Int) : Calls Try.prog 43 #[.pointer (some ⟨b, 0, none⟩), .int .i64 now] w fun e w' => e = .returned (.int .i64 (check x now)) ∧ w = w' := by
  obtain ⟨f, o, p, op, un, fails, good, under, last⟩ := x
  have h9 := (rbox_cells h).2.2.2.2.2.2.2.2.2
  have V := Lib.hid (rvalid_ok h)
  clear h
  by_cases h1 : now < 0
  · have hc : Hid (check ⟨f, o, p, op, un, fails, good, under, last⟩ now = 14) := Lib.hid (by unfold check; rw [if_pos (by omega)])
    go_enter Try.func43, Try.ntmps43
    go_wp2_with fail
    have C := V.out
    (with_reducible refine C.mono ?_)
    rintro e w' ⟨rfl, rfl⟩
    clear C
    go_wp2_with fail
    go_ret
    exact ⟨by rw [hc.out]; rfl, rfl⟩
  · by_cases h2 : 253402300799 < now
    · have hc : Hid (check ⟨f, o, p, op, un, fails, good, under, last⟩ now = 14) := Lib.hid (by unfold check maxTime; rw [if_pos (by omega)])
      go_enter Try.func43, Try.ntmps43
      go_wp2_with fail
      have C := V.out
      (with_reducible refine C.mono ?_)
      rintro e w' ⟨rfl, rfl⟩
      clear C
      go_wp2_with fail
      go_ret
      exact ⟨by rw [hc.out]; rfl, rfl⟩
    · by_cases h3 : now < last
      · have hc : Hid (check ⟨f, o, p, op, un, fails, good, under, last⟩ now = 8) := Lib.hid (by unfold check maxTime; rw [if_neg (by omega), if_pos h3])
        go_enter Try.func43, Try.ntmps43
        go_wp2_with fail
        have C := V.out
        (with_reducible refine C.mono ?_)
        rintro e w' ⟨rfl, rfl⟩
        clear C
        go_wp2_with fail
        go_ret
        exact ⟨by rw [hc.out]; rfl, rfl⟩
      · have hc : Hid (check ⟨f, o, p, op, un, fails, good, under, last⟩ now = 0) := Lib.hid (by unfold check maxTime; rw [if_neg (by omega), if_neg h3])
        go_enter Try.func43, Try.ntmps43
        go_wp2_with fail
        have C := V.out
        (with_reducible refine C.mono ?_)
        rintro e w' ⟨rfl, rfl⟩
        clear C
        go_wp2_with fail
        go_ret
        exact ⟨by rw [hc.out]; rfl, rfl⟩
theorem runtil_ok (h : RBoxAt w b x) : Calls Try.prog 50 #[.pointer (some ⟨b, 0, none⟩)] w fun e w' => e = .returned (.tuple #[.int .i64 (untilOf x), .bool x.op]) ∧ w = w' := by
  obtain ⟨f, o, p, op, un, fails, good, under, last⟩ := x
  obtain ⟨-, -, -, -, h4, h5, -⟩ := rbox_cells h
  have V := Lib.hid (rvalid_ok h)
  clear h
  cases op
  all_goals
    go_enter Try.func50, Try.ntmps50
    go_wp2_with fail
    have C := V.out
    (with_reducible refine C.mono ?_)
    rintro e w' ⟨rfl, rfl⟩
    clear C
    go_wp2_with fail
    go_ret2
    exact ⟨rfl, rfl⟩
theorem rcounts_ok (h : RBoxAt w b x) : Calls Try.prog 49 #[.pointer (some ⟨b, 0, none⟩)] w fun e w' => e = .returned (.tuple #[.int .i64 x.fails, .int .i64 x.good, .int .i64 x.under]) ∧ ∃ n, w' = w.drewN n := by
  obtain ⟨f, o, p, op, un, fails, good, under, last⟩ := x
  obtain ⟨-, -, -, -, -, -, h6, h7, h8, -⟩ := rbox_cells h
  have V := Lib.hid (rvalid_ok h)
  clear h
  go_enter Try.func49, Try.ntmps49
  go_wp2_with fail
  have C := V.out
  (with_reducible refine C.mono ?_)
  rintro e w' ⟨rfl, rfl⟩
  clear C
  go_wp2_with fail
  go_quiet (fail)
  go_wp2_with fail
  go_ret3
  exact ⟨rfl, _, rfl⟩
set_option maxHeartbeats 400000 in
theorem rallows_ok (h : RBoxAt w b x) (hi : Inv x) (now : Int) : Calls Try.prog 44 #[.pointer (some ⟨b, 0, none⟩), .int .i64 now] w fun e w' => e = .returned (.bool (allows x now)) ∧ ∃ n, w' = w.drewN n := by
  have hs := hi.small
  have hst := rstate_ok h now
  obtain ⟨f, o, p, op, un, fails, good, under, last⟩ := x
  obtain ⟨-, -, -, h3, h4, h5, h6, h7, h8, -⟩ := rbox_cells h
  have V := Lib.hid (rvalid_ok h)
  clear h hi
  simp only at hs
  cases op
  · rw [show state ⟨f, o, p, false, un, fails, good, under, last⟩ now = 0 from rfl] at hst
    have ST := Lib.hid hst
    clear hst
    go_enter Try.func44, Try.ntmps44
    go_wp2_with fail
    have C := V.out
    (with_reducible refine C.mono ?_)
    rintro e w' ⟨rfl, rfl⟩
    clear C
    go_wp2_with fail
    have C := ST.out
    (with_reducible refine C.mono ?_)
    rintro e w' ⟨rfl, rfl⟩
    clear C
    go_wp2_with fail
    go_quiet (fail)
    go_wp2_with fail
    go_ret
    exact ⟨rfl, _, rfl⟩
  · by_cases hn : now < un
    · rw [show state ⟨f, o, p, true, un, fails, good, under, last⟩ now = 1 from by simp [state, hn]] at hst
      have ST := Lib.hid hst
      have HA := Lib.hid (show allows ⟨f, o, p, true, un, fails, good, under, last⟩ now = false by simp [allows, hn])
      clear hst
      go_enter Try.func44, Try.ntmps44
      go_wp2_with fail
      have C := V.out
      (with_reducible refine C.mono ?_)
      rintro e w' ⟨rfl, rfl⟩
      clear C
      go_wp2_with fail
      have C := ST.out
      (with_reducible refine C.mono ?_)
      rintro e w' ⟨rfl, rfl⟩
      clear C
      go_wp2_with fail
      go_quiet (fail)
      go_wp2_with fail
      go_ret
      exact ⟨by rw [HA.out]; rfl, _, rfl⟩
    · rw [show state ⟨f, o, p, true, un, fails, good, under, last⟩ now = 2 from by simp [state, hn]] at hst
      have ST := Lib.hid hst
      have HA := Lib.hid (show allows ⟨f, o, p, true, un, fails, good, under, last⟩ now = decide (good + under < p) by simp [allows, hn])
      have hw : IntKind.i64.wrap (good + under) = good + under := IntWalk.i64_in _ (by omega)
      clear hst
      go_enter Try.func44, Try.ntmps44
      go_wp2_with fail
      have C := V.out
      (with_reducible refine C.mono ?_)
      rintro e w' ⟨rfl, rfl⟩
      clear C
      go_wp2_with fail
      have C := ST.out
      (with_reducible refine C.mono ?_)
      rintro e w' ⟨rfl, rfl⟩
      clear C
      go_wp2_with fail
      go_quiet (fail)
      go_wp2_with fail
      go_ret
      exact ⟨by rw [HA.out]; rfl, _, rfl⟩
/-- to(true): the box is opened; to(false): it is closed. -/
def toB (x : Bx) (op : Bool) (now : Int) : Bx := ⟨x.f, x.o, x.p, op, if op then now + x.o else 0, 0, 0, 0, x.last⟩
set_option maxHeartbeats 1000000 in
theorem to_ok (h : RBoxAt w b x) (hs : 0 ≤ x.o ∧ x.o ≤ 68719476736) (op : Bool) (now : Int) (n0 : 0 ≤ now) (n1 : now ≤ 253402300799) :
    Calls Try.prog 46 #[.pointer (some ⟨b, 0, none⟩), .bool op, .int .i64 now] w fun e w' => e = .returned (.tuple #[]) ∧ RBoxAt w' b (toB x op now) ∧ w.grownBy w' (some b) := by
  have hh := Lib.hid h
  obtain ⟨f, o, p, op0, un, fails, good, under, last⟩ := x
  obtain ⟨-, -, h2, -, h4, h5, h6, h7, h8, -⟩ := rbox_cells h
  have hz := fun i => Blk.frozen h i
  clear h
  simp only at hs
  cases op
  · go_enter Try.func46, Try.ntmps46
    go_wp2_with fail
    go_end0
    refine ⟨rfl, r_under (r_good (r_fails (r_un (r_op hh.out false) 0) 0) 0) 0, ?_⟩
    (repeat (first | (with_reducible exact only_refl _ _) | (with_reducible refine only_drewN ?_ _) | (with_reducible refine only_drew ?_) | (with_reducible refine only_alloc ?_ _) | (with_reducible refine only_setCell ?_ (.inl rfl) _)))
  · go_enter Try.func46, Try.ntmps46
    go_wp2_with fail
    go_end0
    refine ⟨rfl, r_under (r_good (r_fails (r_un (r_un (r_op hh.out true) 0) (now + o)) 0) 0) 0, ?_⟩
    (repeat (first | (with_reducible exact only_refl _ _) | (with_reducible refine only_drewN ?_ _) | (with_reducible refine only_drew ?_) | (with_reducible refine only_alloc ?_ _) | (with_reducible refine only_setCell ?_ (.inl rfl) _)))
end
end Go.Proofs.Ytfeblkoconjakaa.BK
