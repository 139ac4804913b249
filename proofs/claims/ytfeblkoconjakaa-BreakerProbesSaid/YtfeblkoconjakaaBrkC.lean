/- Contracts of Take, Report and Copy. -/
import Derived.Test.YtfeblkoconjakaaBrkB
import Derived.RegionTactic
import Derived.Laws.EntriesVeiled
namespace Go.Proofs.Ytfeblkoconjakaa.BK
open Go Go.RowKit

section
variable {w : World} {b : Nat} {x : Bx}
set_option maxHeartbeats 400000 in
theorem take_ok (h : BoxAt w b x) (hi : Inv x) (now : Int) :
    Calls Try.prog 20 #[.pointer (some ⟨b, 0, none⟩), .int .i64 now] w fun e w' => e = .returned (.int .i64 (take x now).1) ∧ BoxAt w' b (take x now).2 ∧ w.grownBy w' (some b) := by
  have C := Lib.hid (check_ok h now)
  have A := Lib.hid (allows_ok h hi now)
  have S := Lib.hid (fun n => state_ok (Blk.drewN h n) now)
  have hh := Lib.hid h
  have hs := hi.small
  obtain ⟨c, hc⟩ : ∃ c, check x now = c := ⟨_, rfl⟩
  have HC := Lib.hid hc
  rw [hc] at C
  clear hc
  by_cases hc0 : c = 0
  · subst hc0
    cases ha : allows x now
    · have HT : Hid (take x now = (9, x)) := Lib.hid (by unfold take; rw [HC.out, ha]; simp)
      rw [ha] at A
      clear hs ha h
      go_enter Try.func20, Try.ntmps20
      go_wp2_with fail
      refine C.out.mono ?_
      rintro e w' ⟨rfl, rfl⟩
      go_wp2_with fail
      refine A.out.mono ?_
      rintro e w' ⟨rfl, n, rfl⟩
      go_wp2_with fail
      go_ret
      rw [HT.out]
      exact ⟨rfl, Blk.drewN hh.out n, only_drewN (only_refl _ _) n⟩
    · rw [ha] at A
      by_cases hh2 : x.op = true ∧ x.un ≤ now
      · have HT : Hid (take x now = (0, seen { x with under := x.under + 1 } now)) := Lib.hid (by unfold take; rw [HC.out, ha, if_pos hh2]; simp)
        have hst : state x now = 2 := by unfold state; rw [if_neg (by simp [hh2.1]), if_neg (by omega)]
        rw [hst] at S
        have hcell := (box_cells h).2.2.2.2.2.2.2.1
        have hcell8 := (box_cells h).2.2.2.2.2.2.2.2.1
        have hz := fun i => Blk.frozen h i
        clear ha h hh2 hst
        go_enter Try.func20, Try.ntmps20
        go_wp2_with fail
        refine C.out.mono ?_
        rintro e w' ⟨rfl, rfl⟩
        go_wp2_with fail
        refine A.out.mono ?_
        rintro e w' ⟨rfl, n, rfl⟩
        go_wp2_with fail
        refine (S.out n).mono ?_
        rintro e w' ⟨rfl, rfl⟩
        go_wp2_with fail
        go_ret
        rw [HT.out]
        refine ⟨rfl, box_last (box_under (Blk.drewN hh.out n) _) _, ?_⟩
        (repeat (first | (with_reducible exact only_refl _ _) | (with_reducible refine only_drewN ?_ _) | (with_reducible refine only_setCell ?_ (.inl rfl) _)))
      · have HT : Hid (take x now = (0, seen x now)) := Lib.hid (by unfold take; rw [HC.out, ha, if_neg hh2]; simp)
        have hst : (state x now == 2) = false := by
          unfold state
          cases ho : x.op
          · rfl
          · rw [if_neg (by simp), if_pos (by rw [ho] at hh2; simp at hh2; omega)]; rfl
        have hcell8 := (box_cells h).2.2.2.2.2.2.2.2.1
        have hz := fun i => Blk.frozen h i
        generalize state x now = s at *
        clear ha h hh2
        go_enter Try.func20, Try.ntmps20
        go_wp2_with fail
        refine C.out.mono ?_
        rintro e w' ⟨rfl, rfl⟩
        go_wp2_with fail
        refine A.out.mono ?_
        rintro e w' ⟨rfl, n, rfl⟩
        go_wp2_with fail
        refine (S.out n).mono ?_
        rintro e w' ⟨rfl, rfl⟩
        go_wp2_with fail
        go_ret
        rw [HT.out]
        refine ⟨rfl, box_last (Blk.drewN hh.out n) _, ?_⟩
        (repeat (first | (with_reducible exact only_refl _ _) | (with_reducible refine only_drewN ?_ _) | (with_reducible refine only_setCell ?_ (.inl rfl) _)))
  · have HT : Hid (take x now = (c, x)) := Lib.hid (by unfold take; rw [HC.out, if_pos hc0])
    have hcb : (c != 0) = true := by simp [hc0]
    clear hc0 hs h
    go_enter Try.func20, Try.ntmps20
    go_wp2_with fail
    refine C.out.mono ?_
    rintro e w' ⟨rfl, rfl⟩
    go_wp2_with fail
    go_ret
    rw [HT.out]
    exact ⟨rfl, hh.out, only_refl _ _⟩

set_option maxHeartbeats 400000 in
theorem closed_ok (h : BoxAt w b x) (hi : Inv x) (ok : Bool) (now : Int) (h0 : 0 ≤ now) (h1 : now ≤ 253402300799) :
    Calls Try.prog 35 #[.pointer (some ⟨b, 0, none⟩), .bool ok, .int .i64 now] w fun e w' => e = .returned (.int .i64 (closed x ok now).1) ∧ BoxAt w' b (closed x ok now).2 ∧ w.grownBy w' (some b) := by
  have hs := hi.small
  have hh := Lib.hid h
  have hf := (box_cells h).2.2.2.2.2.1
  have hr := (box_cells h).1
  have hz := fun i => Blk.frozen h i
  cases ok
  · by_cases hlt : x.fails + 1 < x.f
    · have HC : Hid (closed x false now = (0, { x with fails := x.fails + 1 })) := Lib.hid (by unfold closed; simp [hlt])
      clear h hi
      go_enter Try.func35, Try.ntmps35
      go_wp2_with fail
      go_quiet (fail)
      go_wp2_with fail
      go_ret
      rw [HC.out]
      refine ⟨rfl, Blk.drewN (box_fails hh.out _) _, only_drewN ?_ _⟩
      (repeat (first | (with_reducible exact only_refl _ _) | (with_reducible refine only_setCell ?_ (.inl rfl) _)))
    · have HC : Hid (closed x false now = (7, start x now)) := Lib.hid (by unfold closed; simp [hlt])
      have HI : Hid (0 ≤ x.o ∧ x.o ≤ 68719476736) := Lib.hid ⟨by omega, by omega⟩
      have hlt' : decide (x.fails + 1 < x.f) = false := decide_eq_false hlt
      clear h hi hlt
      go_enter Try.func35, Try.ntmps35
      go_wp2_with fail
      go_quiet (fail)
      go_wp2_with fail
      refine (start_ok (x := { x with fails := x.fails + 1 }) (Blk.drewN (box_fails hh.out (x.fails + 1)) _) HI.out now h0 h1).mono ?_
      rintro e w2 ⟨rfl, hb2, hg2⟩
      have HB2 := Lib.hid hb2
      have HG2 := Lib.hid hg2
      clear hb2 hg2
      go_wp2_with fail
      go_ret
      rw [HC.out]
      refine ⟨rfl, HB2.out, only_trans (only_drewN (only_setCell (only_refl _ _) (.inl rfl) _) _) HG2.out⟩
  · have HC : Hid (closed x true now = (0, { x with fails := 0 })) := Lib.hid rfl
    clear h hi
    go_enter Try.func35, Try.ntmps35
    go_wp2_with fail
    go_ret
    rw [HC.out]
    exact ⟨rfl, box_fails hh.out _, only_setCell (only_refl _ _) (.inl rfl) _⟩
set_option maxHeartbeats 400000 in
theorem opened_ok (ok : Bool) (now : Int) (p : Value) :
    Calls Try.prog 36 #[p, .bool ok, .int .i64 now] w fun e w' => e = .returned (.int .i64 0) ∧ w = w' := by
  go_enter Try.func36, Try.ntmps36
  go_wp2_with fail
  go_ret
  exact ⟨rfl, rfl⟩
set_option maxHeartbeats 400000 in
theorem half_ok (h : BoxAt w b x) (hi : Inv x) (ok : Bool) (now : Int) (h0 : 0 ≤ now) (h1 : now ≤ 253402300799) :
    Calls Try.prog 37 #[.pointer (some ⟨b, 0, none⟩), .bool ok, .int .i64 now] w fun e w' => e = .returned (.int .i64 (half x ok now).1) ∧ BoxAt w' b (half x ok now).2 ∧ w.grownBy w' (some b) := by
  have hs := hi.small
  have hh := Lib.hid h
  have hu := (box_cells h).2.2.2.2.2.2.2.1
  have hg := (box_cells h).2.2.2.2.2.2.1
  have hr := (box_cells h).2.2.1
  have hz := fun i => Blk.frozen h i
  have HI : Hid (0 ≤ x.o ∧ x.o ≤ 68719476736) := Lib.hid ⟨by omega, by omega⟩
  cases ok
  · have HC : Hid (half x false now = (7, start x now)) := Lib.hid rfl
    clear h hi hs
    go_enter Try.func37, Try.ntmps37
    go_wp2_with fail
    refine (start_ok hh.out HI.out now h0 h1).mono ?_
    rintro e w2 ⟨rfl, hb2, hg2⟩
    have HB2 := Lib.hid hb2
    have HG2 := Lib.hid hg2
    clear hb2 hg2
    go_wp2_with fail
    go_ret
    rw [HC.out]
    exact ⟨rfl, HB2.out, HG2.out⟩
  · by_cases hu0 : x.under = 0
    · have HC : Hid (half x true now = (0, x)) := Lib.hid (by unfold half; simp [hu0])
      have hub : (x.under == 0) = true := by simp [hu0]
      clear h hi hs hu0
      go_enter Try.func37, Try.ntmps37
      go_wp2_with fail
      go_ret
      rw [HC.out]
      exact ⟨rfl, hh.out, only_refl _ _⟩
    · have hub : (x.under == 0) = false := by simp [hu0]
      have hu1 : 1 ≤ x.under := by omega
      by_cases hlt : x.good + 1 < x.p
      · have HC : Hid (half x true now = (0, { x with under := x.under - 1, good := x.good + 1 })) := Lib.hid (by unfold half; simp [hu0, hlt])
        clear h hi hu0
        go_enter Try.func37, Try.ntmps37
        go_wp2_with fail
        go_quiet (fail)
        go_wp2_with fail
        go_ret
        rw [HC.out]
        refine ⟨rfl, Blk.drewN (box_good (box_under hh.out _) _) _, only_drewN ?_ _⟩
        (repeat (first | (with_reducible exact only_refl _ _) | (with_reducible refine only_setCell ?_ (.inl rfl) _)))
      · have HC : Hid (half x true now = (8, stop x)) := Lib.hid (by unfold half; simp [hu0, hlt])
        have hlt' : decide (x.good + 1 < x.p) = false := decide_eq_false hlt
        clear h hi hu0 hlt
        go_enter Try.func37, Try.ntmps37
        go_wp2_with fail
        go_quiet (fail)
        go_wp2_with fail
        refine (stop_ok (x := { x with under := x.under - 1, good := x.good + 1 }) (Blk.drewN (box_good (box_under hh.out (x.under - 1)) (x.good + 1)) _)).mono ?_
        rintro e w2 ⟨rfl, hb2, hg2⟩
        have HB2 := Lib.hid hb2
        have HG2 := Lib.hid hg2
        clear hb2 hg2
        go_wp2_with fail
        go_ret
        rw [HC.out]
        refine ⟨rfl, HB2.out, only_trans ?_ HG2.out⟩
        (repeat (first | (with_reducible exact only_refl _ _) | (with_reducible refine only_drewN ?_ _) | (with_reducible refine only_setCell ?_ (.inl rfl) _)))
set_option maxHeartbeats 400000 in
theorem report_ok (h : BoxAt w b x) (hi : Inv x) (ok : Bool) (now : Int) :
    Calls Try.prog 13 #[.pointer (some ⟨b, 0, none⟩), .bool ok, .int .i64 now] w fun e w' => e = .returned (.tuple #[.int .i64 (report x ok now).1, .int .i64 (report x ok now).2.1]) ∧ BoxAt w' b (report x ok now).2.2 ∧ w.grownBy w' (some b) := by
  have C := Lib.hid (check_ok h now)
  have hh := Lib.hid h
  have hr := (box_cells h).1
  have hl := (box_cells h).2.2.2.2.2.2.2.2.1
  have hz := fun i => Blk.frozen h i
  obtain ⟨c, hc⟩ : ∃ c, check x now = c := ⟨_, rfl⟩
  have HC := Lib.hid hc
  rw [hc] at C
  clear hc
  by_cases hc0 : c = 0
  · subst hc0
    by_cases hf : x.f = 0
    · have HT : Hid (report x ok now = (0, 0, seen x now)) := Lib.hid (by unfold report; rw [HC.out]; simp [hf])
      have hfb : (x.f == 0) = true := by simp [hf]
      clear hf h
      go_enter Try.func13, Try.ntmps13
      go_wp2_with fail
      refine C.out.mono ?_
      rintro e w' ⟨rfl, rfl⟩
      go_wp2_with fail
      go_ret2
      rw [HT.out]
      exact ⟨rfl, box_last hh.out _, only_setCell (only_refl _ _) (.inl rfl) _⟩
    · obtain ⟨c1, c2, c3⟩ := check_zero HC.out
      unfold maxTime at c2
      have HI := Lib.hid (inv_seen hi HC.out)
      clear hi c3
      cases ho : x.op
      · have HT : Hid (report x ok now = ((closed (seen x now) ok now).1, 0, (closed (seen x now) ok now).2)) := Lib.hid (by unfold report; rw [HC.out]; simp only [ne_eq, not_true_eq_false, if_false, if_neg hf]; unfold ended; rw [show (seen x now).op = false from ho, if_pos rfl])
        have hst : state (seen x now) now = 0 := by unfold state; rw [if_pos (show (seen x now).op = false from ho)]
        have hfb : (x.f == 0) = false := by simp [hf]
        have S := Lib.hid (fun o => state_ok (Blk.alloc (box_last hh.out now) o) now)
        have HB := Lib.hid (fun o => Blk.alloc (box_last hh.out now) o)
        have S' : Hid (∀ o, Calls Try.prog 16 #[.pointer (some ⟨b, 0, none⟩), .int .i64 now] ((w.setCell ⟨b, 8, none⟩ (.int .i64 now)).alloc o) fun e w' => e = .returned (.int .i64 0) ∧ ((w.setCell ⟨b, 8, none⟩ (.int .i64 now)).alloc o) = w') := Lib.hid (by rw [← hst]; exact S.out)
        clear hf h hst S ho
        go_enter Try.func13, Try.ntmps13
        go_wp2_with fail
        refine C.out.mono ?_
        rintro e w' ⟨rfl, rfl⟩
        go_wp2_with fail
        refine (S'.out _).mono ?_
        rintro e w' ⟨rfl, rfl⟩
        go_wp2_with fail
        refine (closed_ok (x := seen x now) (HB.out _) HI.out ok now c1 c2).mono ?_
        rintro e w2 ⟨rfl, hb2, hg2⟩
        have HB2 := Lib.hid hb2
        have HG2 := Lib.hid hg2
        clear hb2 hg2
        go_wp2_with fail
        go_ret2
        rw [HT.out]
        refine ⟨rfl, HB2.out, only_trans ?_ HG2.out⟩
        (repeat (first | (with_reducible exact only_refl _ _) | (with_reducible refine only_drewN ?_ _) | (with_reducible refine only_alloc ?_ _) | (with_reducible refine only_setCell ?_ (.inl rfl) _)))
      · by_cases hn : now < x.un
        · have HT : Hid (report x ok now = (0, 0, seen x now)) := Lib.hid (by unfold report; rw [HC.out]; simp only [ne_eq, not_true_eq_false, if_false, if_neg hf]; unfold ended; rw [if_neg (by rw [show (seen x now).op = true from ho]; simp), if_pos (show now < (seen x now).un from hn)])
          have hst : state (seen x now) now = 1 := by unfold state; rw [if_neg (by rw [show (seen x now).op = true from ho]; simp), if_pos (show now < (seen x now).un from hn)]
          have hfb : (x.f == 0) = false := by simp [hf]
          have S := Lib.hid (fun o => state_ok (Blk.alloc (box_last hh.out now) o) now)
          have HB := Lib.hid (fun o => Blk.alloc (box_last hh.out now) o)
          have S' : Hid (∀ o, Calls Try.prog 16 #[.pointer (some ⟨b, 0, none⟩), .int .i64 now] ((w.setCell ⟨b, 8, none⟩ (.int .i64 now)).alloc o) fun e w' => e = .returned (.int .i64 1) ∧ ((w.setCell ⟨b, 8, none⟩ (.int .i64 now)).alloc o) = w') := Lib.hid (by rw [← hst]; exact S.out)
          clear hf h hst S ho hn
          go_enter Try.func13, Try.ntmps13
          go_wp2_with fail
          refine C.out.mono ?_
          rintro e w' ⟨rfl, rfl⟩
          go_wp2_with fail
          refine (S'.out _).mono ?_
          rintro e w' ⟨rfl, rfl⟩
          go_wp2_with fail
          refine (opened_ok ok now _).mono ?_
          rintro e w2 ⟨rfl, rfl⟩
          go_wp2_with fail
          go_ret2
          rw [HT.out]
          refine ⟨rfl, HB.out _, ?_⟩
          (repeat (first | (with_reducible exact only_refl _ _) | (with_reducible refine only_drewN ?_ _) | (with_reducible refine only_alloc ?_ _) | (with_reducible refine only_setCell ?_ (.inl rfl) _)))
        · have HT : Hid (report x ok now = ((half (seen x now) ok now).1, 0, (half (seen x now) ok now).2)) := Lib.hid (by unfold report; rw [HC.out]; simp only [ne_eq, not_true_eq_false, if_false, if_neg hf]; unfold ended; rw [if_neg (by rw [show (seen x now).op = true from ho]; simp), if_neg (show ¬ now < (seen x now).un from hn)])
          have hst : state (seen x now) now = 2 := by unfold state; rw [if_neg (by rw [show (seen x now).op = true from ho]; simp), if_neg (show ¬ now < (seen x now).un from hn)]
          have hfb : (x.f == 0) = false := by simp [hf]
          have S := Lib.hid (fun o => state_ok (Blk.alloc (box_last hh.out now) o) now)
          have HB := Lib.hid (fun o => Blk.alloc (box_last hh.out now) o)
          have S' : Hid (∀ o, Calls Try.prog 16 #[.pointer (some ⟨b, 0, none⟩), .int .i64 now] ((w.setCell ⟨b, 8, none⟩ (.int .i64 now)).alloc o) fun e w' => e = .returned (.int .i64 2) ∧ ((w.setCell ⟨b, 8, none⟩ (.int .i64 now)).alloc o) = w') := Lib.hid (by rw [← hst]; exact S.out)
          clear hf h hst S ho hn
          go_enter Try.func13, Try.ntmps13
          go_wp2_with fail
          refine C.out.mono ?_
          rintro e w' ⟨rfl, rfl⟩
          go_wp2_with fail
          refine (S'.out _).mono ?_
          rintro e w' ⟨rfl, rfl⟩
          go_wp2_with fail
          refine (half_ok (x := seen x now) (HB.out _) HI.out ok now c1 c2).mono ?_
          rintro e w2 ⟨rfl, hb2, hg2⟩
          have HB2 := Lib.hid hb2
          have HG2 := Lib.hid hg2
          clear hb2 hg2
          go_wp2_with fail
          go_ret2
          rw [HT.out]
          refine ⟨rfl, HB2.out, only_trans ?_ HG2.out⟩
          (repeat (first | (with_reducible exact only_refl _ _) | (with_reducible refine only_drewN ?_ _) | (with_reducible refine only_alloc ?_ _) | (with_reducible refine only_setCell ?_ (.inl rfl) _)))
  · have HT : Hid (report x ok now = (0, c, x)) := Lib.hid (by unfold report; rw [HC.out, if_pos hc0])
    have hcb : (c != 0) = true := by simp [hc0]
    clear hc0 h
    go_enter Try.func13, Try.ntmps13
    go_wp2_with fail
    refine C.out.mono ?_
    rintro e w' ⟨rfl, rfl⟩
    go_wp2_with fail
    go_ret2
    rw [HT.out]
    exact ⟨rfl, hh.out, only_refl _ _⟩
end
end Go.Proofs.Ytfeblkoconjakaa.BK
