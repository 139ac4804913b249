/- Contracts of the calls that open and close a box. -/
import Derived.Test.YtfeblkoconjakaaBrkA
import Derived.StillTailTactics
namespace Go.Proofs.Ytfeblkoconjakaa.BK
open Go Go.RowKit

theorem inv_mk {x : Bx} (h : Inv x) : Hid (Inv x) := h
section
variable {w : World} {b : Nat} {x : Bx}
theorem box_all {y : Bx} (h : BoxAt w b x) : BoxAt (((((((((((w.setCell ⟨b, 0, none⟩ (.int .i64 y.f)).setCell ⟨b, 1, none⟩ (.int .i64 y.o)).setCell ⟨b, 2, none⟩ (.int .i64 y.p)).setCell ⟨b, 3, none⟩ (.bool y.op)).setCell ⟨b, 4, none⟩ (.int .i64 y.un)).setCell ⟨b, 5, none⟩ (.int .i64 y.fails)).setCell ⟨b, 6, none⟩ (.int .i64 y.good)).setCell ⟨b, 7, none⟩ (.int .i64 y.under)).setCell ⟨b, 8, none⟩ (.int .i64 y.last)).setCell ⟨b, 9, none⟩ (.bool true)).drew) b y := by
  have h1 := (((((((((Blk.set_ h 0 (.int .i64 y.f)).set_ 1 (.int .i64 y.o)).set_ 2 (.int .i64 y.p)).set_ 3 (.bool y.op)).set_ 4 (.int .i64 y.un)).set_ 5 (.int .i64 y.fails)).set_ 6 (.int .i64 y.good)).set_ 7 (.int .i64 y.under)).set_ 8 (.int .i64 y.last)).set_ 9 (.bool true) |>.drew
  simp only [Bx.cells, List.setIfInBounds_toArray, List.set_cons_zero, List.set_cons_succ] at h1
  exact h1
theorem box_last (h : BoxAt w b x) (v : Int) : BoxAt (w.setCell ⟨b, 8, none⟩ (.int .i64 v)) b { x with last := v } := by
  have h1 := Blk.set_ h 8 (.int .i64 v)
  simp only [Bx.cells, List.setIfInBounds_toArray, List.set_cons_zero, List.set_cons_succ] at h1
  exact h1
theorem box_under (h : BoxAt w b x) (v : Int) : BoxAt (w.setCell ⟨b, 7, none⟩ (.int .i64 v)) b { x with under := v } := by
  have h1 := Blk.set_ h 7 (.int .i64 v)
  simp only [Bx.cells, List.setIfInBounds_toArray, List.set_cons_zero, List.set_cons_succ] at h1
  exact h1
theorem box_good (h : BoxAt w b x) (v : Int) : BoxAt (w.setCell ⟨b, 6, none⟩ (.int .i64 v)) b { x with good := v } := by
  have h1 := Blk.set_ h 6 (.int .i64 v)
  simp only [Bx.cells, List.setIfInBounds_toArray, List.set_cons_zero, List.set_cons_succ] at h1
  exact h1
theorem box_fails (h : BoxAt w b x) (v : Int) : BoxAt (w.setCell ⟨b, 5, none⟩ (.int .i64 v)) b { x with fails := v } := by
  have h1 := Blk.set_ h 5 (.int .i64 v)
  simp only [Bx.cells, List.setIfInBounds_toArray, List.set_cons_zero, List.set_cons_succ] at h1
  exact h1
def swBox (x : Bx) (now : Int) : Bx := if switched x now = 0 then seen x now else x
theorem swBox_yes {x : Bx} {now : Int} (h : switched x now = 0) : swBox x now = seen x now := if_pos h
theorem swBox_no {x : Bx} {now : Int} (h : switched x now ≠ 0) : swBox x now = x := if_neg h

set_option maxHeartbeats 400000 in
theorem start_ok (h : BoxAt w b x) (hs : 0 ≤ x.o ∧ x.o ≤ 68719476736) (now : Int) (h0 : 0 ≤ now) (h1 : now ≤ 253402300799) :
    Calls Try.prog 41 #[.pointer (some ⟨b, 0, none⟩), .int .i64 now] w fun e w' => e = .returned (.int .i64 7) ∧ BoxAt w' b (start x now) ∧ w.grownBy w' (some b) := by
  have hh := Lib.hid h
  obtain ⟨f, o, p, op, un, fails, good, under, last⟩ := x
  obtain ⟨h0, h1, h2, h3, h4, h5, h6, h7, h8, h9⟩ := box_cells h
  have hz := fun i => Blk.frozen h i
  clear h
  simp only at hs
  have hw : IntKind.i64.wrap (now + o) = now + o := IntWalk.i64_in _ (by omega)
  go_enter Try.func41, Try.ntmps41
  go_wp2_with fail
  go_still_tail 18, (by kernel_rfl)
  change wpList _ _ _ _ _ w.drew
  go_wp2_with fail
  go_ret
  refine ⟨rfl, box_all (y := start ⟨f, o, p, op, un, fails, good, under, last⟩ now) hh.out, ?_⟩
  (repeat (first | (with_reducible exact only_refl _ _) | (with_reducible refine only_drew ?_) | (with_reducible refine only_setCell ?_ (.inl rfl) _)))
set_option maxHeartbeats 400000 in
theorem stop_ok (h : BoxAt w b x) :
    Calls Try.prog 40 #[.pointer (some ⟨b, 0, none⟩)] w fun e w' => e = .returned (.int .i64 8) ∧ BoxAt w' b (stop x) ∧ w.grownBy w' (some b) := by
  have hh := Lib.hid h
  obtain ⟨f, o, p, op, un, fails, good, under, last⟩ := x
  obtain ⟨h0, h1, h2, h3, h4, h5, h6, h7, h8, h9⟩ := box_cells h
  have hz := fun i => Blk.frozen h i
  clear h
  go_enter Try.func40, Try.ntmps40
  go_wp2_with fail
  go_still_tail 11, (by kernel_rfl)
  change wpList _ _ _ _ _ w.drew
  go_wp2_with fail
  go_ret
  refine ⟨rfl, box_all (y := stop ⟨f, o, p, op, un, fails, good, under, last⟩) hh.out, ?_⟩
  (repeat (first | (with_reducible exact only_refl _ _) | (with_reducible refine only_drew ?_) | (with_reducible refine only_setCell ?_ (.inl rfl) _)))
set_option maxHeartbeats 400000 in
theorem switched_ok (h : BoxAt w b x) (now : Int) :
    Calls Try.prog 39 #[.pointer (some ⟨b, 0, none⟩), .int .i64 now] w fun e w' => e = .returned (.int .i64 (switched x now)) ∧ BoxAt w' b (swBox x now) ∧ w.grownBy w' (some b) := by
  have C := Lib.hid (check_ok h now)
  have hh := Lib.hid h
  obtain ⟨f, o, p, op, un, fails, good, under, last⟩ := x
  obtain ⟨h0, -, -, -, -, -, -, -, h8, -⟩ := box_cells h
  have hz := fun i => Blk.frozen h i
  clear h
  obtain ⟨c, hc⟩ : ∃ c, check ⟨f, o, p, op, un, fails, good, under, last⟩ now = c := ⟨_, rfl⟩
  have HC := Lib.hid hc
  rw [hc] at C
  clear hc
  by_cases hc0 : c = 0
  · subst hc0
    by_cases hf : f = 0
    · have HS : Hid (switched ⟨f, o, p, op, un, fails, good, under, last⟩ now = 9) := Lib.hid (by unfold switched; rw [HC.out]; simp [hf])
      have hfb : (f == 0) = true := by simp [hf]
      have HF := Lib.hid hf
      clear hf
      go_enter Try.func39, Try.ntmps39
      go_wp2_with fail
      refine C.out.mono ?_
      rintro e w' ⟨rfl, rfl⟩
      go_wp2_with fail
      go_ret
      rw [HS.out, swBox_no (by rw [HS.out]; decide)]
      exact ⟨rfl, hh.out, only_refl _ _⟩
    · have HS : Hid (switched ⟨f, o, p, op, un, fails, good, under, last⟩ now = 0) := Lib.hid (by unfold switched; rw [HC.out]; simp [hf])
      have hfb : (f == 0) = false := by simp [hf]
      clear hf
      go_enter Try.func39, Try.ntmps39
      go_wp2_with fail
      refine C.out.mono ?_
      rintro e w' ⟨rfl, rfl⟩
      go_wp2_with fail
      go_ret
      rw [HS.out, swBox_yes HS.out]
      exact ⟨rfl, box_last hh.out _, only_setCell (only_refl _ _) (.inl rfl) _⟩
  · have HS : Hid (switched ⟨f, o, p, op, un, fails, good, under, last⟩ now = c) := Lib.hid (by unfold switched; rw [HC.out, if_pos hc0])
    have hcb : (c != 0) = true := by simp [hc0]
    have HN := Lib.hid hc0
    clear hc0
    go_enter Try.func39, Try.ntmps39
    go_wp2_with fail
    refine C.out.mono ?_
    rintro e w' ⟨rfl, rfl⟩
    go_wp2_with fail
    go_ret
    rw [HS.out, swBox_no (by rw [HS.out]; exact HN.out)]
    exact ⟨rfl, hh.out, only_refl _ _⟩
set_option maxHeartbeats 400000 in
theorem trip_ok (h : BoxAt w b x) (hi : Inv x) (now : Int) :
    Calls Try.prog 19 #[.pointer (some ⟨b, 0, none⟩), .int .i64 now] w fun e w' => e = .returned (.int .i64 (trip x now).1) ∧ BoxAt w' b (trip x now).2 ∧ w.grownBy w' (some b) := by
  have C := Lib.hid (switched_ok h now)
  obtain ⟨c, hc⟩ : ∃ c, switched x now = c := ⟨_, rfl⟩
  have HC := Lib.hid hc
  rw [hc] at C
  clear hc h
  by_cases hc0 : c = 0
  · subst hc0
    have hck := switched_zero HC.out
    obtain ⟨c1, c2, c3⟩ := check_zero hck.1
    have HI := Lib.hid (show 0 ≤ (seen x now).o ∧ (seen x now).o ≤ 68719476736 from ⟨hi.small.2.2.1, hi.small.2.2.2.1⟩)
    rw [swBox_yes HC.out] at C
    clear hi hck c3
    unfold maxTime at c2
    go_enter Try.func19, Try.ntmps19
    go_wp2_with fail
    refine C.out.mono ?_
    rintro e w1 ⟨rfl, hb1, hg1⟩
    have HB := Lib.hid hb1
    have HG := Lib.hid hg1
    clear hb1 hg1
    go_wp2_with fail
    refine (start_ok HB.out HI.out now c1 c2).mono ?_
    rintro e w2 ⟨rfl, hb2, hg2⟩
    have HB2 := Lib.hid hb2
    have HG2 := Lib.hid hg2
    clear hb2 hg2
    go_wp2_with fail
    go_ret
    unfold trip
    rw [HC.out]
    exact ⟨rfl, HB2.out, only_trans HG.out HG2.out⟩
  · rw [swBox_no (by rw [HC.out]; exact hc0)] at C
    have hcb : (c == 0) = false := by simp [hc0]
    have HN := Lib.hid hc0
    clear hc0
    go_enter Try.func19, Try.ntmps19
    go_wp2_with fail
    refine C.out.mono ?_
    rintro e w1 ⟨rfl, hb1, hg1⟩
    have HB := Lib.hid hb1
    have HG := Lib.hid hg1
    clear hb1 hg1
    go_wp2_with fail
    go_ret
    unfold trip
    rw [HC.out, if_pos HN.out]
    exact ⟨rfl, HB.out, HG.out⟩
set_option maxHeartbeats 400000 in
theorem reset_ok (h : BoxAt w b x) (now : Int) :
    Calls Try.prog 15 #[.pointer (some ⟨b, 0, none⟩), .int .i64 now] w fun e w' => e = .returned (.int .i64 (reset x now).1) ∧ BoxAt w' b (reset x now).2 ∧ w.grownBy w' (some b) := by
  have C := Lib.hid (switched_ok h now)
  obtain ⟨c, hc⟩ : ∃ c, switched x now = c := ⟨_, rfl⟩
  have HC := Lib.hid hc
  rw [hc] at C
  clear hc h
  by_cases hc0 : c = 0
  · subst hc0
    rw [swBox_yes HC.out] at C
    go_enter Try.func15, Try.ntmps15
    go_wp2_with fail
    refine C.out.mono ?_
    rintro e w1 ⟨rfl, hb1, hg1⟩
    have HB := Lib.hid hb1
    have HG := Lib.hid hg1
    clear hb1 hg1
    go_wp2_with fail
    refine (stop_ok HB.out).mono ?_
    rintro e w2 ⟨rfl, hb2, hg2⟩
    have HB2 := Lib.hid hb2
    have HG2 := Lib.hid hg2
    clear hb2 hg2
    go_wp2_with fail
    go_ret
    unfold reset
    rw [HC.out]
    exact ⟨rfl, HB2.out, only_trans HG.out HG2.out⟩
  · rw [swBox_no (by rw [HC.out]; exact hc0)] at C
    have hcb : (c == 0) = false := by simp [hc0]
    have HN := Lib.hid hc0
    clear hc0
    go_enter Try.func15, Try.ntmps15
    go_wp2_with fail
    refine C.out.mono ?_
    rintro e w1 ⟨rfl, hb1, hg1⟩
    have HB := Lib.hid hb1
    have HG := Lib.hid hg1
    clear hb1 hg1
    go_wp2_with fail
    go_ret
    unfold reset
    rw [HC.out, if_pos HN.out]
    exact ⟨rfl, HB.out, HG.out⟩
end
end Go.Proofs.Ytfeblkoconjakaa.BK
