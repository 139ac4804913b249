/- Contracts of the reference's Report, Check and New. -/
import Derived.Test.YtfeblkoconjakaaBrkR2
namespace Go.Proofs.Ytfeblkoconjakaa.BK
open Go Go.RowKit

theorem ended_shut {x : Bx} (h : x.op = false) (ok : Bool) (now : Int) : ended x ok now = closed x ok now := by unfold ended; rw [if_pos h]
theorem ended_open {x : Bx} (h : x.op = true) (ok : Bool) {now : Int} (hn : now < x.un) : ended x ok now = (0, x) := by unfold ended; rw [if_neg (by simp [h]), if_pos hn]
theorem ended_half {x : Bx} (h : x.op = true) (ok : Bool) {now : Int} (hn : ¬ now < x.un) : ended x ok now = half x ok now := by unfold ended; rw [if_neg (by simp [h]), if_neg hn]
theorem report_ended {x : Bx} {ok : Bool} {now ev : Int} {y : Bx} (hc : check x now = 0) (hf : x.f ≠ 0) (he : ended (seen x now) ok now = (ev, y)) : report x ok now = (ev, 0, y) := by
  unfold report; rw [hc, he]; simp [hf]
section
variable {w : World} {b : Nat} {x : Bx}
set_option maxHeartbeats 4000000 in
theorem rreport_ok (h : RBoxAt w b x) (hi : Inv x) (ok : Bool) (now : Int) :
    Calls Try.prog 25 #[.pointer (some ⟨b, 0, none⟩), .bool ok, .int .i64 now] w fun e w' => e = .returned (.tuple #[.int .i64 (report x ok now).1, .int .i64 (report x ok now).2.1]) ∧ RBoxAt w' b (report x ok now).2.2 ∧ w.grownBy w' (some b) := by
  have C := Lib.hid (first_ok h now)
  have hh := Lib.hid h
  obtain ⟨-, hr, -, hp, -, -, hfl, hgd, hun, hl⟩ := rbox_cells h
  have hz := fun i => Blk.frozen h i
  have hs := hi.small
  have HI : Hid (0 ≤ (seen x now).o ∧ (seen x now).o ≤ 68719476736) := Lib.hid ⟨hs.2.2.1, hs.2.2.2.1⟩
  obtain ⟨c, hc⟩ : ∃ c, check x now = c := ⟨_, rfl⟩
  have HC := Lib.hid hc
  rw [hc] at C
  clear hc
  by_cases hc0 : c = 0
  · subst hc0
    by_cases hf : x.f = 0
    · have HT : Hid (report x ok now = (0, 0, seen x now)) := Lib.hid (by unfold report; rw [HC.out]; simp [hf])
      have hfb : (x.f == 0) = true := by simp [hf]
      clear hf h hi hs
      rw [HT.out]
      go_enter Try.func25, Try.ntmps25
      go_wp2_with fail
      have C := C.out
      (with_reducible refine C.mono ?_)
      rintro e w' ⟨rfl, rfl⟩
      clear C
      go_wp2_with fail
      go_ret2
      exact ⟨rfl, r_last hh.out _, only_setCell (only_refl _ _) (.inl rfl) _⟩
    · have hfb : (x.f == 0) = false := by simp [hf]
      obtain ⟨c1, c2, c3⟩ := check_zero HC.out
      unfold maxTime at c2
      have HL := Lib.hid (r_last hh.out now)
      have hinv := hi
      cases ho : x.op
      · have hst : state (seen x now) now = 0 := by unfold state; rw [if_pos (show (seen x now).op = false from ho)]
        have S := rstate_ok HL.out now
        have hq : { x with last := now } = seen x now := rfl
        rw [hq, hst] at S
        have S' := Lib.hid S
        cases ok
        · by_cases hlt : x.fails + 1 < x.f
          · have HT : Hid (report x false now = (0, 0, { seen x now with fails := x.fails + 1 })) := Lib.hid (report_ended HC.out hf (by rw [ended_shut (show (seen x now).op = false from ho)]; simp [closed, seen, hlt]))
            have hne : ((x.fails + 1) == x.f) = false := by rw [beq_eq_false_iff_ne]; omega
            clear hf h hi hst S ho hinv c3 hq
            rw [HT.out]
            go_enter Try.func25, Try.ntmps25
            go_wp2_with fail
            have C := C.out
            (with_reducible refine C.mono ?_)
            rintro e w' ⟨rfl, rfl⟩
            clear C
            go_wp2_with fail
            have C := S'.out
            (with_reducible refine C.mono ?_)
            rintro e w' ⟨rfl, rfl⟩
            clear C
            go_wp2_with fail
            go_quiet (fail)
            go_wp2_with fail
            go_ret2
            refine ⟨rfl, Blk.drewN (r_fails HL.out (x.fails + 1)) _, ?_⟩
            (repeat (first | (with_reducible exact only_refl _ _) | (with_reducible refine only_drewN ?_ _) | (with_reducible refine only_drew ?_) | (with_reducible refine only_alloc ?_ _) | (with_reducible refine only_setCell ?_ (.inl rfl) _)))
          · have hx : x.fails + 1 = x.f := by
              have := hinv.rule; have := hinv.fails0; omega
            have HT : Hid (report x false now = (7, 0, start (seen x now) now)) := Lib.hid (report_ended HC.out hf (by rw [ended_shut (show (seen x now).op = false from ho)]; simp [closed, seen, hlt]))
            have hne : ((x.fails + 1) == x.f) = true := by rw [beq_iff_eq]; exact hx
            clear hf h hi hst S ho hinv c3 hq hx hlt
            rw [HT.out]
            go_enter Try.func25, Try.ntmps25
            go_wp2_with fail
            have C := C.out
            (with_reducible refine C.mono ?_)
            rintro e w' ⟨rfl, rfl⟩
            clear C
            go_wp2_with fail
            have C := S'.out
            (with_reducible refine C.mono ?_)
            rintro e w' ⟨rfl, rfl⟩
            clear C
            go_wp2_with fail
            go_quiet (fail)
            go_wp2_with fail
            have C := (fun n => to_ok (x := { seen x now with fails := x.fails + 1 }) (Blk.drewN (r_fails HL.out (x.fails + 1)) n) HI.out true now c1 c2)
            (with_reducible refine (C _).mono ?_)
            rintro e w1 ⟨rfl, hb, hg⟩
            clear C
            have HB := Lib.hid (hb)
            have HG := Lib.hid (hg)
            clear hb hg
            go_wp2_with fail
            go_ret2
            refine ⟨rfl, HB.out, only_trans ?_ HG.out⟩
            (repeat (first | (with_reducible exact only_refl _ _) | (with_reducible refine only_drewN ?_ _) | (with_reducible refine only_drew ?_) | (with_reducible refine only_alloc ?_ _) | (with_reducible refine only_setCell ?_ (.inl rfl) _)))
        · have HT : Hid (report x true now = (0, 0, { seen x now with fails := 0 })) := Lib.hid (report_ended HC.out hf (by rw [ended_shut (show (seen x now).op = false from ho)]; simp [closed]))
          clear hf h hi hst S ho hinv c3 hq
          rw [HT.out]
          go_enter Try.func25, Try.ntmps25
          go_wp2_with fail
          have C := C.out
          (with_reducible refine C.mono ?_)
          rintro e w' ⟨rfl, rfl⟩
          clear C
          go_wp2_with fail
          have C := S'.out
          (with_reducible refine C.mono ?_)
          rintro e w' ⟨rfl, rfl⟩
          clear C
          go_wp2_with fail
          go_ret2
          refine ⟨rfl, r_fails HL.out 0, ?_⟩
          (repeat (first | (with_reducible exact only_refl _ _) | (with_reducible refine only_drewN ?_ _) | (with_reducible refine only_drew ?_) | (with_reducible refine only_alloc ?_ _) | (with_reducible refine only_setCell ?_ (.inl rfl) _)))
      · by_cases hn : now < x.un
        · have hst : state (seen x now) now = 1 := by unfold state; rw [if_neg (by rw [show (seen x now).op = true from ho]; simp), if_pos (show now < (seen x now).un from hn)]
          have S := rstate_ok HL.out now
          have hq : { x with last := now } = seen x now := rfl
          rw [hq, hst] at S
          have S' := Lib.hid S
          have HT : Hid (report x ok now = (0, 0, seen x now)) := Lib.hid (report_ended HC.out hf (ended_open (show (seen x now).op = true from ho) ok (show now < (seen x now).un from hn)))
          clear hf h hi hst S ho hinv c3 hq hn
          rw [HT.out]
          go_enter Try.func25, Try.ntmps25
          go_wp2_with fail
          have C := C.out
          (with_reducible refine C.mono ?_)
          rintro e w' ⟨rfl, rfl⟩
          clear C
          go_wp2_with fail
          have C := S'.out
          (with_reducible refine C.mono ?_)
          rintro e w' ⟨rfl, rfl⟩
          clear C
          go_wp2_with fail
          go_ret2
          refine ⟨rfl, HL.out, ?_⟩
          (repeat (first | (with_reducible exact only_refl _ _) | (with_reducible refine only_drewN ?_ _) | (with_reducible refine only_drew ?_) | (with_reducible refine only_alloc ?_ _) | (with_reducible refine only_setCell ?_ (.inl rfl) _)))
        · have hst : state (seen x now) now = 2 := by unfold state; rw [if_neg (by rw [show (seen x now).op = true from ho]; simp), if_neg (show ¬ now < (seen x now).un from hn)]
          have S := rstate_ok HL.out now
          have hq : { x with last := now } = seen x now := rfl
          rw [hq, hst] at S
          have S' := Lib.hid S
          have he := ended_half (show (seen x now).op = true from ho) ok (show ¬ now < (seen x now).un from hn)
          have hop := hinv.opened ho
          cases ok
          · have HT : Hid (report x false now = (7, 0, start (seen x now) now)) := Lib.hid (report_ended HC.out hf (by rw [he]; rfl))
            clear hf h hi hst S ho hinv c3 hq hn he hop
            rw [HT.out]
            go_enter Try.func25, Try.ntmps25
            go_wp2_with fail
            have C := C.out
            (with_reducible refine C.mono ?_)
            rintro e w' ⟨rfl, rfl⟩
            clear C
            go_wp2_with fail
            have C := S'.out
            (with_reducible refine C.mono ?_)
            rintro e w' ⟨rfl, rfl⟩
            clear C
            go_wp2_with fail
            have C := to_ok HL.out HI.out true now c1 c2
            (with_reducible refine C.mono ?_)
            rintro e w1 ⟨rfl, hb, hg⟩
            clear C
            have HB := Lib.hid (hb)
            have HG := Lib.hid (hg)
            clear hb hg
            go_wp2_with fail
            go_ret2
            refine ⟨rfl, HB.out, only_trans ?_ HG.out⟩
            (repeat (first | (with_reducible exact only_refl _ _) | (with_reducible refine only_drewN ?_ _) | (with_reducible refine only_drew ?_) | (with_reducible refine only_alloc ?_ _) | (with_reducible refine only_setCell ?_ (.inl rfl) _)))
          · by_cases hu0 : x.under = 0
            · have HT : Hid (report x true now = (0, 0, seen x now)) := Lib.hid (report_ended HC.out hf (by rw [he]; unfold half; rw [if_neg (by simp), if_pos (show (seen x now).under = 0 from hu0)]))
              have hub : decide (0 < x.under) = false := decide_eq_false (by omega)
              clear hf h hi hst S ho hinv c3 hq hn he hop hu0
              rw [HT.out]
              go_enter Try.func25, Try.ntmps25
              go_wp2_with fail
              have C := C.out
              (with_reducible refine C.mono ?_)
              rintro e w' ⟨rfl, rfl⟩
              clear C
              go_wp2_with fail
              have C := S'.out
              (with_reducible refine C.mono ?_)
              rintro e w' ⟨rfl, rfl⟩
              clear C
              go_wp2_with fail
              go_ret2
              refine ⟨rfl, HL.out, ?_⟩
              (repeat (first | (with_reducible exact only_refl _ _) | (with_reducible refine only_drewN ?_ _) | (with_reducible refine only_drew ?_) | (with_reducible refine only_alloc ?_ _) | (with_reducible refine only_setCell ?_ (.inl rfl) _)))
            · have hu1 : 0 < x.under := by have := hinv.under0; omega
              by_cases hlt : x.good + 1 < x.p
              · have HT : Hid (report x true now = (0, 0, { seen x now with under := x.under - 1, good := x.good + 1 })) := Lib.hid (report_ended HC.out hf (by rw [he]; unfold half; rw [if_neg (by simp), if_neg (show ¬ (seen x now).under = 0 from hu0), if_pos (show (seen x now).good + 1 < (seen x now).p from hlt)]; rfl))
                have hne : ((x.good + 1) == x.p) = false := by rw [beq_eq_false_iff_ne]; omega
                clear hf h hi hst S ho hinv c3 hq hn he hop hu0
                rw [HT.out]
                go_enter Try.func25, Try.ntmps25
                go_wp2_with fail
                have C := C.out
                (with_reducible refine C.mono ?_)
                rintro e w' ⟨rfl, rfl⟩
                clear C
                go_wp2_with fail
                have C := S'.out
                (with_reducible refine C.mono ?_)
                rintro e w' ⟨rfl, rfl⟩
                clear C
                go_wp2_with fail
                go_quiet (fail)
                go_wp2_with fail
                go_ret2
                refine ⟨rfl, Blk.drewN (r_good (r_under HL.out (x.under - 1)) (x.good + 1)) _, ?_⟩
                (repeat (first | (with_reducible exact only_refl _ _) | (with_reducible refine only_drewN ?_ _) | (with_reducible refine only_drew ?_) | (with_reducible refine only_alloc ?_ _) | (with_reducible refine only_setCell ?_ (.inl rfl) _)))
              · have HT : Hid (report x true now = (8, 0, stop (seen x now))) := Lib.hid (report_ended HC.out hf (by rw [he]; unfold half; rw [if_neg (by simp), if_neg (show ¬ (seen x now).under = 0 from hu0), if_neg (show ¬ (seen x now).good + 1 < (seen x now).p from hlt)]))
                have hne : ((x.good + 1) == x.p) = true := by rw [beq_iff_eq]; omega
                clear hf h hi hst S ho hinv c3 hq hn he hop hu0 hlt
                rw [HT.out]
                go_enter Try.func25, Try.ntmps25
                go_wp2_with fail
                have C := C.out
                (with_reducible refine C.mono ?_)
                rintro e w' ⟨rfl, rfl⟩
                clear C
                go_wp2_with fail
                have C := S'.out
                (with_reducible refine C.mono ?_)
                rintro e w' ⟨rfl, rfl⟩
                clear C
                go_wp2_with fail
                go_quiet (fail)
                go_wp2_with fail
                have C := (fun n => to_ok (x := { seen x now with under := x.under - 1, good := x.good + 1 }) (Blk.drewN (r_good (r_under HL.out (x.under - 1)) (x.good + 1)) n) HI.out false now c1 c2)
                (with_reducible refine (C _).mono ?_)
                rintro e w1 ⟨rfl, hb, hg⟩
                clear C
                have HB := Lib.hid (hb)
                have HG := Lib.hid (hg)
                clear hb hg
                go_wp2_with fail
                go_ret2
                refine ⟨rfl, HB.out, only_trans ?_ HG.out⟩
                (repeat (first | (with_reducible exact only_refl _ _) | (with_reducible refine only_drewN ?_ _) | (with_reducible refine only_drew ?_) | (with_reducible refine only_alloc ?_ _) | (with_reducible refine only_setCell ?_ (.inl rfl) _)))
  · have HT : Hid (report x ok now = (0, c, x)) := Lib.hid (by unfold report; rw [HC.out, if_pos hc0])
    have hcb : (c != 0) = true := by simp [hc0]
    clear hc0 h hi hs
    rw [HT.out]
    go_enter Try.func25, Try.ntmps25
    go_wp2_with fail
    have C := C.out
    (with_reducible refine C.mono ?_)
    rintro e w' ⟨rfl, rfl⟩
    clear C
    go_wp2_with fail
    go_ret2
    exact ⟨rfl, hh.out, only_refl _ _⟩
end
def checkF (f o p : Int) : Int := if zero f o p = true ∨ ruled f o p = true then 0 else 16
set_option maxHeartbeats 1000000 in
theorem rcheck_ok (f o p : Int) (w : World) :
    Calls Try.prog 42 #[.agg #[.int .i64 f, .int .i64 o, .int .i64 p]] w fun e w' => e = .returned (.int .i64 (checkF f o p)) ∧ Below w.heap.size w w' := by
  by_cases hz : f = 0 ∧ o = 0 ∧ p = 0
  · obtain ⟨rfl, rfl, rfl⟩ := hz
    go_enter Try.func42, Try.ntmps42
    go_wp2_with fail
    go_ret
    exact ⟨rfl, (Below.refl _ _).alloc (Nat.le_refl _) _⟩
  · have hzf : zero f o p = false := by unfold zero; exact decide_eq_false hz
    by_cases hr : 1 ≤ f ∧ f ≤ 100 ∧ 1 ≤ o ∧ o ≤ 68719476736 ∧ 1 ≤ p ∧ p ≤ 100
    · have HC : Hid (checkF f o p = 0) := Lib.hid (by unfold checkF; rw [if_pos (.inr (by unfold ruled; exact decide_eq_true hr))])
      obtain ⟨f1, f2, o1, o2, p1, p2⟩ := hr
      have hf : ¬ f = 0 := by omega
      rw [HC.out]
      clear hz hzf
      go_enter Try.func42, Try.ntmps42
      go_wp2_with fail
      go_ret
      exact ⟨rfl, (Below.refl _ _).alloc (Nat.le_refl _) _⟩
    · have HC : Hid (checkF f o p = 16) := Lib.hid (by unfold checkF; rw [if_neg]; rintro (h | h); (rw [hzf] at h; cases h); exact hr (of_decide_eq_true h))
      rw [HC.out]
      clear hzf
      by_cases hf : f = 0
      · subst hf
        by_cases ho : o = 0
        · subst ho
          have hp : ¬ p = 0 := by omega
          clear hz hr
          go_enter Try.func42, Try.ntmps42
          go_wp2_with fail
          go_ret
          exact ⟨rfl, (Below.refl _ _).alloc (Nat.le_refl _) _⟩
        · clear hz hr
          go_enter Try.func42, Try.ntmps42
          go_wp2_with fail
          go_ret
          exact ⟨rfl, (Below.refl _ _).alloc (Nat.le_refl _) _⟩
      · have hr' := Lib.hid hr
        clear hz hr
        go_enter Try.func42, Try.ntmps42
        go_wp2_with fail
        all_goals first
          | (exact absurd ⟨by omega, by omega, by omega, by omega, by omega, by omega⟩ hr'.out)
          | (go_ret; exact ⟨rfl, (Below.refl _ _).alloc (Nat.le_refl _) _⟩)
theorem rnew_ok (f o p : Int) (w : World) (h : zero f o p = true ∨ ruled f o p = true) :
    Calls Try.prog 23 #[.agg #[.int .i64 f, .int .i64 o, .int .i64 p]] w fun e w' => ∃ n, e = .returned (.tuple #[.pointer (some ⟨n, 0, none⟩), .int .i64 0]) ∧ RBoxAt w' n (fresh f o p) ∧ Below w.heap.size w w' ∧ w.heap.size ≤ n := by
  have HC : Hid (checkF f o p = 0) := Lib.hid (by unfold checkF; rw [if_pos h])
  have C := rcheck_ok f o p (w.alloc (.cells #[.int .i64 f, .int .i64 o, .int .i64 p] 23))
  rw [HC.out] at C
  have C' := Lib.hid C
  clear C h
  go_enter Try.func23, Try.ntmps23
  go_wp2_with fail
  have C := C'.out
  (with_reducible refine C.mono ?_)
  rintro e w1 ⟨rfl, hb⟩
  clear C
  have HB := Lib.hid hb
  have h0 : w1.cell? ⟨w.heap.size, 0, none⟩ = some (.int .i64 f) := by rw [hb.cell (p := ⟨w.heap.size, 0, none⟩) (by simp)]; simp
  have h1 : w1.cell? ⟨w.heap.size, 1, none⟩ = some (.int .i64 o) := by rw [hb.cell (p := ⟨w.heap.size, 1, none⟩) (by simp)]; simp
  have h2 : w1.cell? ⟨w.heap.size, 2, none⟩ = some (.int .i64 p) := by rw [hb.cell (p := ⟨w.heap.size, 2, none⟩) (by simp)]; simp
  clear hb
  go_wp2_with fail
  go_ret2
  have h9 := HB.out.size
  simp at h9
  exact ⟨_, rfl, Blk.newAt rfl, (((Below.refl _ _).alloc (Nat.le_refl _) _).trans (HB.out.mono (by simp))).alloc (by omega) _, by omega⟩
theorem rnew_no (f o p : Int) (w : World) (h : ¬ (zero f o p = true ∨ ruled f o p = true)) :
    Calls Try.prog 23 #[.agg #[.int .i64 f, .int .i64 o, .int .i64 p]] w fun e w' => e = .returned (.tuple #[.pointer none, .int .i64 16]) ∧ Below w.heap.size w w' := by
  have HC : Hid (checkF f o p = 16) := Lib.hid (by unfold checkF; rw [if_neg h])
  have C := rcheck_ok f o p (w.alloc (.cells #[.int .i64 f, .int .i64 o, .int .i64 p] 23))
  rw [HC.out] at C
  have C' := Lib.hid C
  clear C h
  go_enter Try.func23, Try.ntmps23
  go_wp2_with fail
  have C := C'.out
  (with_reducible refine C.mono ?_)
  rintro e w1 ⟨rfl, hb⟩
  clear C
  have HB := Lib.hid (hb)
  clear hb
  go_wp2_with fail
  go_ret2
  exact ⟨rfl, ((Below.refl _ _).alloc (Nat.le_refl _) _).trans (HB.out.mono (by simp))⟩
end Go.Proofs.Ytfeblkoconjakaa.BK
