/- The walk of BreakerProbes. -/
import Derived.Test.YtfeblkoconjakaaBrkPausesW
import Derived.Deep.DeepCutAuto
namespace Go.Proofs.Ytfeblkoconjakaa.BK
open Go Go.RowKit
section
variable {f o p u now last good under : Int}
theorem half_report_none (hf : f ≠ 0) (h0 : 0 ≤ now) (h1 : now ≤ maxTime) (h2 : last ≤ now) (h3 : u ≤ now) (hu : under = 0) : report (halfB f o p u good under last) true now = (0, 0, halfB f o p u good under now) := by
  subst hu
  unfold report; rw [half_check h0 h1 h2]; simp [halfB, hf, ended, seen, half]
theorem half_report_more (hf : f ≠ 0) (h0 : 0 ≤ now) (h1 : now ≤ maxTime) (h2 : last ≤ now) (h3 : u ≤ now) (hu : under ≠ 0) (hg : good + 1 < p) : report (halfB f o p u good under last) true now = (0, 0, halfB f o p u (good + 1) (under - 1) now) := by
  have hn : ¬ now < u := by omega
  unfold report; rw [half_check h0 h1 h2]; simp [halfB, hf, ended, seen, half, hn, hu, hg]
theorem half_report_close (hf : f ≠ 0) (h0 : 0 ≤ now) (h1 : now ≤ maxTime) (h2 : last ≤ now) (h3 : u ≤ now) (hu : under ≠ 0) (hg : ¬ good + 1 < p) : report (halfB f o p u good under last) true now = (8, 0, shutB f o p 0 now) := by
  have hn : ¬ now < u := by omega
  unfold report; rw [half_check h0 h1 h2]; simp [halfB, shutB, stop, hf, ended, seen, half, hn, hu, hg]
theorem half_report_false (hf : f ≠ 0) (h0 : 0 ≤ now) (h1 : now ≤ maxTime) (h2 : last ≤ now) (h3 : u ≤ now) : report (halfB f o p u good under last) false now = (7, 0, openB f o p (now + o) now) := by
  have hn : ¬ now < u := by omega
  unfold report; rw [half_check h0 h1 h2]; simp [halfB, openB, start, hf, ended, seen, half, hn]
end
set_option maxHeartbeats 16000000 in
set_option maxRecDepth 100000 in
theorem probes_walk (f o p : Int) (a : Option Addr) (cap : Nat) (xs : List Int) (hx : ∀ d ∈ xs, 0 ≤ d ∧ d < 256) (hl : xs.length ≤ 9223372036854775807) (w : World) (hA : NumsAt .u8 w a xs) :
    Calls Try.prog 4 #[.agg #[.int .i64 f, .int .i64 o, .int .i64 p], .slice a xs.length cap] w fun e w' => e = .returned (.bool true) ∧ Below w.heap.size w w' := by
  have HA := Lib.hid hA
  have HX := Lib.hid hx
  clear hA hx
  by_cases hv : zero f o p = true ∨ ruled f o p = true
  · have HV := Lib.hid hv
    by_cases hf : f = 0
    · clear hv
      have hfb : (f == 0) = true := by simp [hf]
      have HF := Lib.hid hf
      clear hf
      go_enter Try.func4, Try.ntmps4
      go_wp2_with fail
      have C := has_new (B := w.heap.size + 1) (Below.refl _ (w.alloc (.cells #[.int .i64 f, .int .i64 o, .int .i64 p] 23))) (by simp) HV.out
      (with_reducible refine C.mono ?_)
      rintro e w1 ⟨b, rfl, hn, h, -⟩
      clear C
      have H := Lib.hid h
      obtain ⟨hc0, hc1, hc2⟩ := h.old
      clear h hn
      go_wp2_with fail
      have C := works_ok
      (with_reducible refine (C _).mono ?_)
      rintro e w9 ⟨rfl, hb9⟩
      clear C
      have HB9 := Lib.hid (hb9)
      clear hb9
      go_wp2_with fail
      go_ret
      exact ⟨rfl, H.out.end HB9.out⟩
    · by_cases hlen : 300 < xs.length
      · clear hv
        have hfb : (f == 0) = false := by simp [hf]
        clear hf
        go_enter Try.func4, Try.ntmps4
        go_wp2_with fail
        have C := has_new (B := w.heap.size + 1) (Below.refl _ (w.alloc (.cells #[.int .i64 f, .int .i64 o, .int .i64 p] 23))) (by simp) HV.out
        (with_reducible refine C.mono ?_)
        rintro e w1 ⟨b, rfl, hn, h, -⟩
        clear C
        have H := Lib.hid h
        obtain ⟨hc0, hc1, hc2⟩ := h.old
        clear h hn
        go_wp2_with fail
        have C := works_ok
        (with_reducible refine (C _).mono ?_)
        rintro e w9 ⟨rfl, hb9⟩
        clear C
        have HB9 := Lib.hid (hb9)
        clear hb9
        go_wp2_with fail
        go_ret
        exact ⟨rfl, H.out.end HB9.out⟩
      · have hr : ruled f o p = true := hv.resolve_left (by unfold zero; simp [hf])
        unfold ruled maxSpan at hr
        obtain ⟨f1, f2, o1, o2, p1, p2⟩ := of_decide_eq_true hr
        have hfb : (f == 0) = false := by simp [hf]
        have hf0 := hf
        clear hv hf hr
        go_enter Try.func4, Try.ntmps4
        go_wp2_with fail
        have C := has_new (B := w.heap.size + 1) (Below.refl _ (w.alloc (.cells #[.int .i64 f, .int .i64 o, .int .i64 p] 23))) (by simp) HV.out
        (with_reducible refine C.mono ?_)
        rintro e w1 ⟨b, rfl, hn, h, -⟩
        clear C
        have H := Lib.hid h
        obtain ⟨hc0, hc1, hc2⟩ := h.old
        clear h hn
        go_wp2_with fail
        have C := has_trip H.out 0 (shut_trip (f := f) (o := o) (p := p) (row := 0) (last := 0) hf0 (by omega) (by unfold maxTime; omega) (by omega))
        (with_reducible refine C.mono ?_)
        rintro e w2 ⟨rfl, h, -⟩
        clear C
        have H2 := Lib.hid h
        obtain ⟨hd0, hd1, hd2⟩ := h.old
        clear h H hc0 hc1 hc2
        go_wp2_with fail
        go_loopw [7, 8, 9, 10] (fun nv gv uv iv wr => ∃ (k : Nat) (now good under u last : Int), nv = .int .i64 now ∧ gv = .int .i64 good ∧ uv = .int .i64 under ∧ iv = .int .i64 k ∧ k ≤ xs.length ∧ 0 ≤ now ∧ now ≤ 253402300799 ∧ u ≤ now ∧ last ≤ now ∧ 0 ≤ good ∧ 0 ≤ under ∧ good + under ≤ p ∧ good < p ∧ Has (w.heap.size + 1) (w.alloc (.cells #[.int .i64 f, .int .i64 o, .int .i64 p] 23)) wr b (halfB f o p u good under last)) (fun _ _ _ i _ => xs.length - (intOf i).toNat)
        case atStart => exact ⟨0, o, 0, 0, 0 + o, 0, rfl, rfl, rfl, rfl, by omega, by omega, by omega, by omega, by omega, by omega, by omega, by omega, by omega, H2.out⟩
        clear H2 hd0 hd1 hd2
        case round =>
          obtain ⟨k, now, good, under, u, last, rfl, rfl, rfl, rfl, hk, hn0, hn1, hu, hla, hg0, hu0, hgu, hgp, h⟩ := hrel
          have H := Lib.hid h
          obtain ⟨hc0, hc1, hc2⟩ := h.old
          by_cases hlt : k < xs.length
          · obtain ⟨c, off, rfl, hcell⟩ := h.num HA.out hlt
            obtain ⟨hd0, hd1⟩ := HX.out _ (List.getElem_mem hlt)
            have HC := Lib.hid (fun (W : World) (x : Bx) (h : Has (w.heap.size + 1) (w.alloc (.cells #[.int .i64 f, .int .i64 o, .int .i64 p] 23)) W b x) => h.num HA.out hlt)
            generalize xs[k] = d at *
            obtain ⟨q, hq, hq0, hq1⟩ : ∃ q : Int, d % 8 = q ∧ 0 ≤ q ∧ q < 8 := ⟨_, rfl, by omega, by omega⟩
            clear h
            by_cases hbig : 184682824063 < now
            · go_wp2_with fail
              have C := works_ok
              (with_reducible refine (C _).mono ?_)
              rintro e w9 ⟨rfl, hb9⟩
              clear C
              have HB9 := Lib.hid (hb9)
              clear hb9
              go_wp2_with fail
              go_ret
              exact ⟨rfl, H.out.end HB9.out⟩
            · go_wp2_with fail
              have C := has_state H.out now (half_state hu)
              (with_reducible refine C.mono ?_)
              rintro e w' ⟨rfl, rfl⟩
              clear C
              go_wp2_with fail
              have C := has_counts H.out (f := 0) (g := good) (u := under) rfl rfl rfl
              (with_reducible refine C.mono ?_)
              rintro e w2 ⟨rfl, h, -⟩
              clear C
              have H2 := Lib.hid h
              obtain ⟨he0, he1, he2⟩ := h.old
              have hcell2 := HC.out _ _ h
              obtain ⟨c', off', e', hcell2⟩ := hcell2
              obtain ⟨rfl, rfl⟩ : c = c' ∧ off = off' := by simpa using e'
              clear h H hc0 hc1 hc2 hcell e' HC
              have hws : IntKind.i64.wrap (good + under) = good + under := IntWalk.i64_in _ (by omega)
              have hle : decide (p < good + under) = false := decide_eq_false (by omega)
              go_upto_region 15 with fail
              go_cut [110] (fun s wx => s = .bool false ∧ ∃ n, wx = w2.drewN n)
              case first =>
                by_cases hroom : good + under < p
                · as_aux_lemma =>
                    have hrb : decide (good + under < p) = true := decide_eq_true hroom
                    have A := Lib.hid (fun n => allows_ok (H2.out.drewN n).box H2.out.inv now)
                    rw [half_allows hu, hrb] at A
                    go_quiet ((go_at_call 18; exact Calls.quiet_of (A.out _)))
                    go_wp2_with fail
                    go_meet
                    exact ⟨rfl, _, rfl⟩
                · as_aux_lemma =>
                    have hrb : decide (good + under < p) = false := decide_eq_false hroom
                    have A := Lib.hid (fun n => allows_ok (H2.out.drewN n).box H2.out.inv now)
                    rw [half_allows hu, hrb] at A
                    go_quiet ((go_at_call 18; exact Calls.quiet_of (A.out _)))
                    go_wp2_with fail
                    go_meet
                    exact ⟨rfl, _, rfl⟩
              case rest =>
                obtain ⟨rfl, nq, rfl⟩ := hcut
                have H3 := Lib.hid (H2.out.drewN nq)
                have he3 : (w2.drewN nq).cell? ⟨c, off + k, none⟩ = some (.int .u8 d) := hcell2
                obtain ⟨hc0, hc1, hc2⟩ := H3.out.old
                clear H2 he0 he1 he2 hcell2
                generalize w2.drewN nq = w3 at *
                have H2 := H3
                clear H3
                as_aux_lemma =>
                  go_upto_if 116 with fail
                  go_cut [116] (fun s wx => s = .bool (decide (q ≤ 3)) ∧ wx = w3)
                  case first =>
                    rcases (show q = 0 ∨ q = 1 ∨ q = 2 ∨ q = 3 ∨ q = 4 ∨ q = 5 ∨ q = 6 ∨ q = 7 by omega) with rfl | rfl | rfl | rfl | rfl | rfl | rfl | rfl
                    all_goals as_aux_lemma =>
                      go_wp2_with fail
                      go_meet
                      exact ⟨rfl, rfl⟩
                  case rest =>
                    obtain ⟨rfl, rfl⟩ := hcut
                    by_cases hq3 : q ≤ 3
                    · have hqb : decide (q ≤ 3) = true := decide_eq_true hq3
                      rw [hqb]
                      by_cases hroom : good + under < p
                      · have hrb : decide (good + under < p) = true := decide_eq_true hroom
                        as_aux_lemma =>
                          go_wp2_with fail
                          have C := has_take H2.out now (half_take_yes (by omega) (by unfold maxTime; omega) (by omega) hu (by omega))
                          (with_reducible refine C.mono ?_)
                          rintro e w5 ⟨rfl, h, -⟩
                          clear C
                          have H5 := Lib.hid h
                          obtain ⟨hd0, hd1, hd2⟩ := h.old
                          clear h H2 hc0 hc1 hc2
                          go_wp2_with fail
                          go_roundw
                          case rel => exact ⟨k + 1, now, good, (under + 1), u, now, rfl, rfl, rfl, by go_num, by omega, by omega, by omega, by omega, by omega, by omega, by omega, by omega, by omega, H5.out⟩
                          case measure => simp [intOf]; omega
                      · have hrb : decide (good + under < p) = false := decide_eq_false hroom
                        as_aux_lemma =>
                          go_wp2_with fail
                          have C := has_take H2.out now (half_take_no (by omega) (by unfold maxTime; omega) (by omega) hu (by omega))
                          (with_reducible refine C.mono ?_)
                          rintro e w5 ⟨rfl, h, -⟩
                          clear C
                          have H5 := Lib.hid h
                          obtain ⟨hd0, hd1, hd2⟩ := h.old
                          clear h H2 hc0 hc1 hc2
                          go_wp2_with fail
                          go_roundw
                          case rel => exact ⟨k + 1, now, good, under, u, last, rfl, rfl, rfl, by go_num, by omega, by omega, by omega, by omega, by omega, by omega, by omega, by omega, by omega, H5.out⟩
                          case measure => simp [intOf]; omega
                    · have hqb : decide (q ≤ 3) = false := decide_eq_false hq3
                      rw [hqb]
                      rcases (show q = 4 ∨ q = 5 ∨ q = 6 ∨ q = 7 by omega) with rfl | rfl | rfl | rfl
                      · as_aux_lemma =>
                          by_cases hun : under = 0
                          · have hub : (under == 0) = true := by simp [hun]
                            have HUN := Lib.hid hun
                            clear hun
                            go_wp2_with fail
                            have C := has_report H2.out true now (half_report_none hf0 (by omega) (by unfold maxTime; omega) (by omega) (by omega) HUN.out)
                            (with_reducible refine C.mono ?_)
                            rintro e w5 ⟨rfl, h, -⟩
                            clear C
                            have H5 := Lib.hid h
                            clear h H2 hc0 hc1 hc2
                            go_wp2_with fail
                            go_roundw
                            case rel => exact ⟨k + 1, now, good, under, u, now, rfl, rfl, rfl, by go_num, by omega, by omega, by omega, by omega, by omega, by omega, by omega, by omega, by omega, H5.out⟩
                            case measure => simp [intOf]; omega
                          · have hub : (under == 0) = false := by simp [hun]
                            by_cases hmore : good + 1 < p
                            · have hgb : ((good + 1) == p) = false := by rw [beq_eq_false_iff_ne]; omega
                              go_wp2_with fail
                              have C := has_report H2.out true now (half_report_more hf0 (by omega) (by unfold maxTime; omega) (by omega) (by omega) (by omega) (by omega))
                              (with_reducible refine C.mono ?_)
                              rintro e w5 ⟨rfl, h, -⟩
                              clear C
                              have H5 := Lib.hid h
                              obtain ⟨hd0, hd1, hd2⟩ := h.old
                              clear h H2 hc0 hc1 hc2
                              go_wp2_with fail
                              go_roundw
                              case rel => exact ⟨k + 1, now, good + 1, under - 1, u, now, rfl, rfl, rfl, by go_num, by omega, by omega, by omega, by omega, by omega, by omega, by omega, by omega, by omega, H5.out⟩
                              case measure => simp [intOf]; omega
                            · have hgb : ((good + 1) == p) = true := by rw [beq_iff_eq]; omega
                              go_wp2_with fail
                              have C := has_report H2.out true now (half_report_close hf0 (by omega) (by unfold maxTime; omega) (by omega) (by omega) (by omega) (by omega))
                              (with_reducible refine C.mono ?_)
                              rintro e w5 ⟨rfl, h, -⟩
                              clear C
                              have H5 := Lib.hid h
                              obtain ⟨hd0, hd1, hd2⟩ := h.old
                              clear h H2 hc0 hc1 hc2 hmore hun
                              go_wp2_with fail
                              have C := has_state H5.out now (s := 0) rfl
                              (with_reducible refine C.mono ?_)
                              rintro e w' ⟨rfl, rfl⟩
                              clear C
                              go_wp2_with fail
                              have C := has_trip H5.out now (shut_trip hf0 (by omega) (by unfold maxTime; omega) (by omega))
                              (with_reducible refine C.mono ?_)
                              rintro e w6 ⟨rfl, h, -⟩
                              clear C
                              have H6 := Lib.hid h
                              obtain ⟨hi0, hi1, hi2⟩ := h.old
                              clear h H5 hd0 hd1 hd2
                              go_wp2_with fail
                              go_roundw
                              case rel => exact ⟨k + 1, now + o, 0, 0, now + o, now, rfl, rfl, rfl, by go_num, by omega, by omega, by omega, by omega, by omega, by omega, by omega, by omega, by omega, H6.out⟩
                              case measure => simp [intOf]; omega
                      · as_aux_lemma =>
                          by_cases hun : under = 0
                          · have hub : (under == 0) = true := by simp [hun]
                            have HUN := Lib.hid hun
                            clear hun
                            go_wp2_with fail
                            have C := has_report H2.out true now (half_report_none hf0 (by omega) (by unfold maxTime; omega) (by omega) (by omega) HUN.out)
                            (with_reducible refine C.mono ?_)
                            rintro e w5 ⟨rfl, h, -⟩
                            clear C
                            have H5 := Lib.hid h
                            clear h H2 hc0 hc1 hc2
                            go_wp2_with fail
                            go_roundw
                            case rel => exact ⟨k + 1, now, good, under, u, now, rfl, rfl, rfl, by go_num, by omega, by omega, by omega, by omega, by omega, by omega, by omega, by omega, by omega, H5.out⟩
                            case measure => simp [intOf]; omega
                          · have hub : (under == 0) = false := by simp [hun]
                            by_cases hmore : good + 1 < p
                            · have hgb : ((good + 1) == p) = false := by rw [beq_eq_false_iff_ne]; omega
                              go_wp2_with fail
                              have C := has_report H2.out true now (half_report_more hf0 (by omega) (by unfold maxTime; omega) (by omega) (by omega) (by omega) (by omega))
                              (with_reducible refine C.mono ?_)
                              rintro e w5 ⟨rfl, h, -⟩
                              clear C
                              have H5 := Lib.hid h
                              obtain ⟨hd0, hd1, hd2⟩ := h.old
                              clear h H2 hc0 hc1 hc2
                              go_wp2_with fail
                              go_roundw
                              case rel => exact ⟨k + 1, now, good + 1, under - 1, u, now, rfl, rfl, rfl, by go_num, by omega, by omega, by omega, by omega, by omega, by omega, by omega, by omega, by omega, H5.out⟩
                              case measure => simp [intOf]; omega
                            · have hgb : ((good + 1) == p) = true := by rw [beq_iff_eq]; omega
                              go_wp2_with fail
                              have C := has_report H2.out true now (half_report_close hf0 (by omega) (by unfold maxTime; omega) (by omega) (by omega) (by omega) (by omega))
                              (with_reducible refine C.mono ?_)
                              rintro e w5 ⟨rfl, h, -⟩
                              clear C
                              have H5 := Lib.hid h
                              obtain ⟨hd0, hd1, hd2⟩ := h.old
                              clear h H2 hc0 hc1 hc2 hmore hun
                              go_wp2_with fail
                              have C := has_state H5.out now (s := 0) rfl
                              (with_reducible refine C.mono ?_)
                              rintro e w' ⟨rfl, rfl⟩
                              clear C
                              go_wp2_with fail
                              have C := has_trip H5.out now (shut_trip hf0 (by omega) (by unfold maxTime; omega) (by omega))
                              (with_reducible refine C.mono ?_)
                              rintro e w6 ⟨rfl, h, -⟩
                              clear C
                              have H6 := Lib.hid h
                              obtain ⟨hi0, hi1, hi2⟩ := h.old
                              clear h H5 hd0 hd1 hd2
                              go_wp2_with fail
                              go_roundw
                              case rel => exact ⟨k + 1, now + o, 0, 0, now + o, now, rfl, rfl, rfl, by go_num, by omega, by omega, by omega, by omega, by omega, by omega, by omega, by omega, by omega, H6.out⟩
                              case measure => simp [intOf]; omega
                      · as_aux_lemma =>
                          by_cases hun : under = 0
                          · have hub : (under == 0) = true := by simp [hun]
                            have HUN := Lib.hid hun
                            clear hun
                            go_wp2_with fail
                            have C := has_report H2.out true now (half_report_none hf0 (by omega) (by unfold maxTime; omega) (by omega) (by omega) HUN.out)
                            (with_reducible refine C.mono ?_)
                            rintro e w5 ⟨rfl, h, -⟩
                            clear C
                            have H5 := Lib.hid h
                            clear h H2 hc0 hc1 hc2
                            go_wp2_with fail
                            go_roundw
                            case rel => exact ⟨k + 1, now, good, under, u, now, rfl, rfl, rfl, by go_num, by omega, by omega, by omega, by omega, by omega, by omega, by omega, by omega, by omega, H5.out⟩
                            case measure => simp [intOf]; omega
                          · have hub : (under == 0) = false := by simp [hun]
                            by_cases hmore : good + 1 < p
                            · have hgb : ((good + 1) == p) = false := by rw [beq_eq_false_iff_ne]; omega
                              go_wp2_with fail
                              have C := has_report H2.out true now (half_report_more hf0 (by omega) (by unfold maxTime; omega) (by omega) (by omega) (by omega) (by omega))
                              (with_reducible refine C.mono ?_)
                              rintro e w5 ⟨rfl, h, -⟩
                              clear C
                              have H5 := Lib.hid h
                              obtain ⟨hd0, hd1, hd2⟩ := h.old
                              clear h H2 hc0 hc1 hc2
                              go_wp2_with fail
                              go_roundw
                              case rel => exact ⟨k + 1, now, good + 1, under - 1, u, now, rfl, rfl, rfl, by go_num, by omega, by omega, by omega, by omega, by omega, by omega, by omega, by omega, by omega, H5.out⟩
                              case measure => simp [intOf]; omega
                            · have hgb : ((good + 1) == p) = true := by rw [beq_iff_eq]; omega
                              go_wp2_with fail
                              have C := has_report H2.out true now (half_report_close hf0 (by omega) (by unfold maxTime; omega) (by omega) (by omega) (by omega) (by omega))
                              (with_reducible refine C.mono ?_)
                              rintro e w5 ⟨rfl, h, -⟩
                              clear C
                              have H5 := Lib.hid h
                              obtain ⟨hd0, hd1, hd2⟩ := h.old
                              clear h H2 hc0 hc1 hc2 hmore hun
                              go_wp2_with fail
                              have C := has_state H5.out now (s := 0) rfl
                              (with_reducible refine C.mono ?_)
                              rintro e w' ⟨rfl, rfl⟩
                              clear C
                              go_wp2_with fail
                              have C := has_trip H5.out now (shut_trip hf0 (by omega) (by unfold maxTime; omega) (by omega))
                              (with_reducible refine C.mono ?_)
                              rintro e w6 ⟨rfl, h, -⟩
                              clear C
                              have H6 := Lib.hid h
                              obtain ⟨hi0, hi1, hi2⟩ := h.old
                              clear h H5 hd0 hd1 hd2
                              go_wp2_with fail
                              go_roundw
                              case rel => exact ⟨k + 1, now + o, 0, 0, now + o, now, rfl, rfl, rfl, by go_num, by omega, by omega, by omega, by omega, by omega, by omega, by omega, by omega, by omega, H6.out⟩
                              case measure => simp [intOf]; omega
                      · as_aux_lemma =>
                          go_wp2_with fail
                          have C := has_report H2.out false now (half_report_false hf0 (by omega) (by unfold maxTime; omega) (by omega) (by omega))
                          (with_reducible refine C.mono ?_)
                          rintro e w5 ⟨rfl, h, -⟩
                          clear C
                          have H5 := Lib.hid h
                          obtain ⟨hd0, hd1, hd2⟩ := h.old
                          clear h H2 hc0 hc1 hc2
                          go_wp2_with fail
                          have C := has_until H5.out (u := now + o) (o := true) rfl rfl
                          (with_reducible refine C.mono ?_)
                          rintro e w' ⟨rfl, rfl⟩
                          clear C
                          go_wp2_with fail
                          have C := has_state H5.out now (open_state (by omega))
                          (with_reducible refine C.mono ?_)
                          rintro e w' ⟨rfl, rfl⟩
                          clear C
                          go_wp2_with fail
                          go_roundw
                          case rel => exact ⟨k + 1, now + o, 0, 0, now + o, now, rfl, rfl, rfl, by go_num, by omega, by omega, by omega, by omega, by omega, by omega, by omega, by omega, by omega, H5.out⟩
                          case measure => simp [intOf]; omega
          · clear h
            go_wp2_with fail
            have C := works_ok
            (with_reducible refine (C _).mono ?_)
            rintro e w9 ⟨rfl, hb9⟩
            clear C
            have HB9 := Lib.hid (hb9)
            clear hb9
            go_wp2_with fail
            go_ret
            exact ⟨rfl, H.out.end HB9.out⟩
  · have HV := Lib.hid hv
    clear hv
    go_enter Try.func4, Try.ntmps4
    go_wp2_with fail
    have C := (fun W => new_no (w := W) HV.out)
    (with_reducible refine (C _).mono ?_)
    rintro e w1 ⟨rfl, h⟩
    clear C
    have H := Lib.hid (h)
    clear h
    go_wp2_with fail
    have C := works_ok
    (with_reducible refine (C _).mono ?_)
    rintro e w2 ⟨rfl, hb2⟩
    clear C
    have HB2 := Lib.hid (hb2)
    clear hb2
    go_wp2_with fail
    go_ret
    exact ⟨rfl, ((Below.refl _ _).alloc (Nat.le_refl _) _).trans ((H.out.mono (by simp)).trans (HB2.out.mono (by have := H.out.size; simp at this; omega)))⟩
end Go.Proofs.Ytfeblkoconjakaa.BK
