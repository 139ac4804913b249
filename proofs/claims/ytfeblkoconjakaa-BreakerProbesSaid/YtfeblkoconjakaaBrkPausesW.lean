/- The walk of BreakerPauses. -/
import Derived.Test.YtfeblkoconjakaaBrkPlay
namespace Go.Proofs.Ytfeblkoconjakaa.BK
open Go Go.RowKit
section
variable {x : Bx} {f o p u now last : Int}
theorem any_trip (hf : x.f ≠ 0) (h0 : 0 ≤ now) (h1 : now ≤ maxTime) (h2 : x.last ≤ now) : trip x now = (0, openB x.f x.o x.p (now + x.o) now) := by
  have hc : check x now = 0 := by unfold check; rw [if_neg (by omega), if_neg (by omega)]
  unfold trip switched; rw [hc]; simp [openB, hf, start, seen]
theorem open_check (h0 : 0 ≤ now) (h1 : now ≤ maxTime) (h2 : last ≤ now) : check (openB f o p u last) now = 0 := by
  unfold check openB; rw [if_neg (by omega), if_neg (by simp only []; omega)]
theorem open_report (hf : f ≠ 0) (ok : Bool) (h0 : 0 ≤ now) (h1 : now ≤ maxTime) (h2 : last ≤ now) (h3 : now < u) : report (openB f o p u last) ok now = (0, 0, openB f o p u now) := by
  unfold report; rw [open_check h0 h1 h2]; simp [openB, hf, ended, seen, h3]
theorem open_allows (h3 : now < u) : allows (openB f o p u last) now = false := by simp [allows, openB, h3]
theorem open_state (h3 : now < u) : state (openB f o p u last) now = 1 := by simp [state, openB, h3]
theorem open_take (h0 : 0 ≤ now) (h1 : now ≤ maxTime) (h2 : last ≤ now) (h3 : now < u) : take (openB f o p u last) now = (9, openB f o p u last) := by
  unfold take; rw [open_check h0 h1 h2, open_allows h3]; simp
/-- A box that is half open, with probes under way. -/
def halfB (f o p u good under last : Int) : Bx := ⟨f, o, p, true, u, 0, good, under, last⟩
variable {good under : Int}
theorem half_check (h0 : 0 ≤ now) (h1 : now ≤ maxTime) (h2 : last ≤ now) : check (halfB f o p u good under last) now = 0 := by
  unfold check halfB; rw [if_neg (by omega), if_neg (by simp only []; omega)]
theorem half_allows (h3 : u ≤ now) : allows (halfB f o p u good under last) now = decide (good + under < p) := by
  unfold allows halfB; simp only [Bool.true_eq_false, if_false]; rw [if_neg (by omega)]
theorem half_state (h3 : u ≤ now) : state (halfB f o p u good under last) now = 2 := by
  unfold state halfB; simp only [Bool.true_eq_false, if_false]; rw [if_neg (by omega)]
theorem half_take_yes (h0 : 0 ≤ now) (h1 : now ≤ maxTime) (h2 : last ≤ now) (h3 : u ≤ now) (h4 : good + under < p) : take (halfB f o p u good under last) now = (0, halfB f o p u good (under + 1) now) := by
  unfold take; rw [half_check h0 h1 h2, half_allows h3, decide_eq_true h4]; simp [halfB, seen, h3]
theorem half_take_no (h0 : 0 ≤ now) (h1 : now ≤ maxTime) (h2 : last ≤ now) (h3 : u ≤ now) (h4 : ¬ good + under < p) : take (halfB f o p u good under last) now = (9, halfB f o p u good under last) := by
  unfold take; rw [half_check h0 h1 h2, half_allows h3, decide_eq_false h4]; simp
end
theorem StepsAt.below {w w' : World} {B : Nat} {a : Option Addr} {xs : List St} (h : StepsAt w a xs) (hb : Below B w w') (hB : w.heap.size ≤ B) : StepsAt w' a xs := by
  intro k hk
  obtain ⟨c, off, e, hc, -⟩ := h k hk
  obtain ⟨c', off', e', h0, h1, h2⟩ := h.get hb hB hk
  obtain ⟨rfl, rfl⟩ : c = c' ∧ off = off' := by rw [e] at e'; simpa using e'
  exact ⟨c, off, e, Nat.lt_of_lt_of_le hc hb.size, h0, h1, h2⟩
theorem NumsAt.below {K : IntKind} {w w' : World} {B : Nat} {a : Option Addr} {xs : List Int} (h : NumsAt K w a xs) (hb : Below B w w') (hB : w.heap.size ≤ B) : NumsAt K w' a xs := by
  intro k hk
  obtain ⟨c, off, e, hc, h0⟩ := h k hk
  exact ⟨c, off, e, Nat.lt_of_lt_of_le hc hb.size, by rw [hb.cell (p := ⟨c, off + k, none⟩) (by show c < B; omega)]; exact h0⟩

theorem latest_at {n : Int} {xs : List St} (hn : latestF xs = n) (a : Option Addr) (cap : Nat) (hl : xs.length ≤ 9223372036854775807) (w : World) (hA : StepsAt w a xs) :
    Calls Try.prog 22 #[.slice a xs.length cap] w fun e w' => e = .returned (.int .i64 n) ∧ w = w' := by
  subst hn; exact latest_ok a cap xs hl w hA

set_option maxHeartbeats 4000000 in
set_option maxRecDepth 100000 in
theorem pauses_walk (f o p : Int) (a : Option Addr) (cap : Nat) (xs : List St) (hl : xs.length ≤ 9223372036854775807) (a2 : Option Addr) (cap2 : Nat) (ys : List Int) (hy : ∀ d ∈ ys, 0 ≤ d ∧ d < 65536) (hl2 : ys.length ≤ 9223372036854775807) (w : World) (hA : StepsAt w a xs) (hA2 : NumsAt .u16 w a2 ys) :
    Calls Try.prog 5 #[.agg #[.int .i64 f, .int .i64 o, .int .i64 p], .slice a xs.length cap, .slice a2 ys.length cap2] w fun e w' => e = .returned (.bool true) ∧ Below w.heap.size w w' := by
  have HA := Lib.hid hA
  have HA2 := Lib.hid hA2
  have HY := Lib.hid hy
  clear hA hA2 hy
  by_cases hlong : 40 < xs.length ∨ 60 < ys.length
  · by_cases h1 : 40 < xs.length
    · clear hlong
      go_enter Try.func5, Try.ntmps5
      go_wp2_with fail
      have C := works_ok
      (with_reducible refine (C _).mono ?_)
      rintro e w9 ⟨rfl, hb9⟩
      clear C
      have HB9 := Lib.hid hb9
      clear hb9
      go_wp2_with fail
      go_ret
      exact ⟨rfl, ((Below.refl _ _).alloc (Nat.le_refl _) _).trans (HB9.out.mono (by simp))⟩
    · have h2 : 60 < ys.length := by omega
      clear hlong
      go_enter Try.func5, Try.ntmps5
      go_wp2_with fail
      have C := works_ok
      (with_reducible refine (C _).mono ?_)
      rintro e w9 ⟨rfl, hb9⟩
      clear C
      have HB9 := Lib.hid hb9
      clear hb9
      go_wp2_with fail
      go_ret
      exact ⟨rfl, ((Below.refl _ _).alloc (Nat.le_refl _) _).trans (HB9.out.mono (by simp))⟩
  · obtain ⟨g1, g2⟩ : xs.length ≤ 40 ∧ ys.length ≤ 60 := by omega
    clear hlong
    by_cases hv : zero f o p = true ∨ ruled f o p = true
    · have HV := Lib.hid hv
      have hlb := latestF_bounds xs xs.length (Nat.le_refl _)
      rw [List.take_length] at hlb
      have hpl := plays_last (fresh f o p) xs rfl
      obtain ⟨now, hnow⟩ : ∃ now, latestF xs = now := ⟨_, rfl⟩
      by_cases hf : f = 0
      · have hfb : (f == 0) = true := by simp [hf]
        clear hv hf hpl hlb hnow
        go_enter Try.func5, Try.ntmps5
        go_wp2_with fail
        have C := played_yes HV.out a cap xs hl (w.alloc (.cells #[.int .i64 f, .int .i64 o, .int .i64 p] 23)) (HA.out.alloc _)
        (with_reducible refine C.mono ?_)
        rintro e w1 ⟨b, rfl, hn, hb, hi, hbl⟩
        clear C
        have H : Hid (Has (w.heap.size + 1) (w.alloc (.cells #[.int .i64 f, .int .i64 o, .int .i64 p] 23)) w1 b (plays (fresh f o p) xs)) := Lib.hid ⟨hb, hi, hbl.mono (by simp), by simpa using hn, by simp⟩
        obtain ⟨hc0, hc1, hc2⟩ := H.out.old
        clear hn hb hi hbl
        go_wp2_with fail
        have C := latest_at (rfl : latestF xs = _) a cap hl w1 ((HA.out.alloc _).below H.out.bel (by simp))
        (with_reducible refine C.mono ?_)
        rintro e w' ⟨rfl, rfl⟩
        clear C
        go_wp2_with fail
        have C := works_ok
        (with_reducible refine (C _).mono ?_)
        rintro e w9 ⟨rfl, hb9⟩
        clear C
        have HB9 := Lib.hid hb9
        clear hb9
        go_wp2_with fail
        go_ret
        exact ⟨rfl, H.out.end HB9.out⟩
      · have hfb : (f == 0) = false := by simp [hf]
        have hr : ruled f o p = true := hv.resolve_left (by unfold zero; simp [hf])
        unfold ruled maxSpan at hr
        obtain ⟨f1, f2, o1, o2, p1, p2⟩ := of_decide_eq_true hr
        clear hv hr
        by_cases hbig : 115963347327 < latestF xs
        · have HBG := Lib.hid hbig
          clear hpl hlb hnow
          go_enter Try.func5, Try.ntmps5
          go_wp2_with fail
          have C := played_yes HV.out a cap xs hl (w.alloc (.cells #[.int .i64 f, .int .i64 o, .int .i64 p] 23)) (HA.out.alloc _)
          (with_reducible refine C.mono ?_)
          rintro e w1 ⟨b, rfl, hn, hb, hi, hbl⟩
          clear C
          have H : Hid (Has (w.heap.size + 1) (w.alloc (.cells #[.int .i64 f, .int .i64 o, .int .i64 p] 23)) w1 b (plays (fresh f o p) xs)) := Lib.hid ⟨hb, hi, hbl.mono (by simp), by simpa using hn, by simp⟩
          obtain ⟨hc0, hc1, hc2⟩ := H.out.old
          clear hn hb hi hbl
          go_wp2_with fail
          have C := latest_at (rfl : latestF xs = _) a cap hl w1 ((HA.out.alloc _).below H.out.bel (by simp))
          (with_reducible refine C.mono ?_)
          rintro e w' ⟨rfl, rfl⟩
          clear C
          go_wp2_with fail
          have C := works_ok
          (with_reducible refine (C _).mono ?_)
          rintro e w9 ⟨rfl, hb9⟩
          clear C
          have HB9 := Lib.hid hb9
          clear hb9
          go_wp2_with fail
          go_ret
          exact ⟨rfl, H.out.end HB9.out⟩
        · rw [hnow] at hlb hpl hbig
          have HN := Lib.hid hnow
          have hf0 := hf
          have hT : Hid (trip (plays (fresh f o p) xs) now = (0, openB f o p (now + o) now)) := Lib.hid (by
            obtain ⟨e1, e2, e3, e4⟩ := hpl
            rw [any_trip (by rw [e1]; exact hf) hlb.1 hlb.2 e4, e1, e2, e3]; rfl)
          obtain ⟨n0, n1⟩ := hlb
          unfold maxTime at n1
          clear hpl hnow hf
          go_enter Try.func5, Try.ntmps5
          go_wp2_with fail
          have C := played_yes HV.out a cap xs hl (w.alloc (.cells #[.int .i64 f, .int .i64 o, .int .i64 p] 23)) (HA.out.alloc _)
          (with_reducible refine C.mono ?_)
          rintro e w1 ⟨b, rfl, hn, hb, hi, hbl⟩
          clear C
          have H : Hid (Has (w.heap.size + 1) (w.alloc (.cells #[.int .i64 f, .int .i64 o, .int .i64 p] 23)) w1 b (plays (fresh f o p) xs)) := Lib.hid ⟨hb, hi, hbl.mono (by simp), by simpa using hn, by simp⟩
          obtain ⟨hc0, hc1, hc2⟩ := H.out.old
          clear hn hb hi hbl
          go_wp2_with fail
          have C := latest_at HN.out a cap hl w1 ((HA.out.alloc _).below H.out.bel (by simp))
          (with_reducible refine C.mono ?_)
          rintro e w' ⟨rfl, rfl⟩
          clear C
          go_wp2_with fail
          have C := has_trip H.out now hT.out
          (with_reducible refine C.mono ?_)
          rintro e w2 ⟨rfl, h, -⟩
          clear C
          have H2 := Lib.hid h
          clear h H hc0 hc1 hc2
          go_wp2_with fail
          obtain ⟨hc0, hc1, hc2⟩ := H2.out.old
          obtain ⟨u, hu⟩ : ∃ u, now + o = u := ⟨_, rfl⟩
          have hu0 : now < u := by omega
          have hu1 : u ≤ 253402300799 := by omega
          rw [hu] at H2
          have C := has_until H2.out (u := u) (o := true) rfl rfl
          (with_reducible refine C.mono ?_)
          rintro e w' ⟨rfl, rfl⟩
          clear C
          go_wp2_with fail
          have HU := Lib.hid hu
          clear hu
          go_loopw [11, 12] (fun av iv wr => ∃ (k : Nat) (at_ : Int), av = .int .i64 at_ ∧ iv = .int .i64 k ∧ k ≤ ys.length ∧ now ≤ at_ ∧ at_ < u ∧ Has (w.heap.size + 1) (w.alloc (.cells #[.int .i64 f, .int .i64 o, .int .i64 p] 23)) wr b (openB f o p u at_)) (fun _ i _ => ys.length - (intOf i).toNat)
          case atStart => exact ⟨0, now, rfl, rfl, by omega, by omega, by omega, H2.out⟩
          clear H2 hc0 hc1 hc2
          case round =>
            obtain ⟨k, at_, rfl, rfl, hk, ha0, ha1, h⟩ := hrel
            have H := Lib.hid h
            by_cases hlt : k < ys.length
            · obtain ⟨c, off, rfl, hcell⟩ := h.num HA2.out hlt
              obtain ⟨hd0, hd1⟩ := HY.out _ (List.getElem_mem hlt)
              generalize ys[k] = d at *
              obtain ⟨q, hq, hq0, hq1⟩ : ∃ q : Int, d % 300 = q ∧ 0 ≤ q ∧ q < 300 := ⟨_, rfl, by omega, by omega⟩
              obtain ⟨okb, hok⟩ : ∃ c : Bool, (d % 2 == 0) = c := ⟨_, rfl⟩
              clear h
              by_cases hmin : at_ + q ≤ u - 1
              · go_wp2_with fail
                have C := has_report H.out okb (at_ + q) (open_report hf0 okb (by omega) (by unfold maxTime; omega) (by omega) (by omega))
                (with_reducible refine C.mono ?_)
                rintro e w2 ⟨rfl, h, -⟩
                clear C
                have H2 := Lib.hid h
                clear h H
                go_wp2_with fail
                have C := has_allows H2.out (at_ + q) (open_allows (by omega))
                (with_reducible refine C.mono ?_)
                rintro e w3 ⟨rfl, h, -⟩
                clear C
                have H3 := Lib.hid h
                clear h H2
                go_wp2_with fail
                have C := has_state H3.out (at_ + q) (open_state (by omega))
                (with_reducible refine C.mono ?_)
                rintro e w' ⟨rfl, rfl⟩
                clear C
                go_wp2_with fail
                have C := has_take H3.out (at_ + q) (open_take (by omega) (by unfold maxTime; omega) (by omega) (by omega))
                (with_reducible refine C.mono ?_)
                rintro e w4 ⟨rfl, h, -⟩
                clear C
                have H4 := Lib.hid h
                clear h H3
                go_wp2_with fail
                go_roundw
                case rel => exact ⟨k + 1, (at_ + q), rfl, by go_num, by omega, by omega, by omega, H4.out⟩
                case measure => simp [intOf]; omega
              · have hmin' : u - 1 < at_ + q := by omega
                go_wp2_with fail
                have C := has_report H.out okb (u - 1) (open_report hf0 okb (by omega) (by unfold maxTime; omega) (by omega) (by omega))
                (with_reducible refine C.mono ?_)
                rintro e w2 ⟨rfl, h, -⟩
                clear C
                have H2 := Lib.hid h
                clear h H
                go_wp2_with fail
                have C := has_allows H2.out (u - 1) (open_allows (by omega))
                (with_reducible refine C.mono ?_)
                rintro e w3 ⟨rfl, h, -⟩
                clear C
                have H3 := Lib.hid h
                clear h H2
                go_wp2_with fail
                have C := has_state H3.out (u - 1) (open_state (by omega))
                (with_reducible refine C.mono ?_)
                rintro e w' ⟨rfl, rfl⟩
                clear C
                go_wp2_with fail
                have C := has_take H3.out (u - 1) (open_take (by omega) (by unfold maxTime; omega) (by omega) (by omega))
                (with_reducible refine C.mono ?_)
                rintro e w4 ⟨rfl, h, -⟩
                clear C
                have H4 := Lib.hid h
                clear h H3
                go_wp2_with fail
                go_roundw
                case rel => exact ⟨k + 1, (u - 1), rfl, by go_num, by omega, by omega, by omega, H4.out⟩
                case measure => simp [intOf]; omega
            · obtain ⟨hc0, hc1, hc2⟩ := h.old
              clear h
              go_wp2_with fail
              have C := has_state H.out (u - 1) (open_state (by omega))
              (with_reducible refine C.mono ?_)
              rintro e w' ⟨rfl, rfl⟩
              clear C
              go_wp2_with fail
              have C := has_allows H.out (u - 1) (open_allows (by omega))
              (with_reducible refine C.mono ?_)
              rintro e w3 ⟨rfl, h, -⟩
              clear C
              have H3 := Lib.hid h
              clear h H
              go_wp2_with fail
              have C := has_state H3.out u (s := 2) (half_state (good := 0) (under := 0) (Int.le_refl u))
              (with_reducible refine C.mono ?_)
              rintro e w' ⟨rfl, rfl⟩
              clear C
              go_wp2_with fail
              go_loopw [15] (fun iv wr => ∃ (i : Nat) (last : Int), iv = .int .i64 i ∧ (i : Int) ≤ p ∧ last ≤ u ∧ Has (w.heap.size + 1) (w.alloc (.cells #[.int .i64 f, .int .i64 o, .int .i64 p] 23)) wr b (halfB f o p u 0 i last)) (fun i _ => 100 - (intOf i).toNat)
              case atStart => exact ⟨0, at_, rfl, by omega, by omega, H3.out⟩
              clear H3 hc0 hc1 hc2
              case round =>
                obtain ⟨i, last, rfl, hi, hla, h⟩ := hrel
                have H := Lib.hid h
                obtain ⟨hc0, hc1, hc2⟩ := h.old
                clear h
                by_cases hlt2 : (i : Int) < p
                · go_wp2_with fail
                  have C := has_allows H.out u (a := true) (by rw [half_allows (Int.le_refl u)]; exact decide_eq_true (by omega))
                  (with_reducible refine C.mono ?_)
                  rintro e w4 ⟨rfl, h, -⟩
                  clear C
                  have H4 := Lib.hid h
                  clear h H
                  go_wp2_with fail
                  have C := has_take H4.out u (half_take_yes (by omega) (by unfold maxTime; omega) (by omega) (Int.le_refl u) (by omega))
                  (with_reducible refine C.mono ?_)
                  rintro e w5 ⟨rfl, h, -⟩
                  clear C
                  have H5 := Lib.hid h
                  clear h H4
                  go_wp2_with fail
                  go_roundw
                  case rel => exact ⟨i + 1, u, by go_num, by omega, Int.le_refl u, H5.out⟩
                  case measure => simp [intOf]; omega
                · have hip : (i : Int) = p := by omega
                  have HIP := Lib.hid hip
                  have hbp : ((i : Int) == p) = true := by rw [beq_iff_eq]; exact hip
                  clear hip
                  go_wp2_with fail
                  have C := has_counts H.out (f := 0) (g := 0) (u := i) rfl rfl rfl
                  (with_reducible refine C.mono ?_)
                  rintro e w4 ⟨rfl, h, -⟩
                  clear C
                  have H4 := Lib.hid h
                  clear h H
                  go_wp2_with fail
                  have C := has_allows H4.out u (a := false) (by rw [half_allows (Int.le_refl u)]; exact decide_eq_false (by omega))
                  (with_reducible refine C.mono ?_)
                  rintro e w5 ⟨rfl, h, -⟩
                  clear C
                  have H5 := Lib.hid h
                  clear h H4
                  go_wp2_with fail
                  have C := has_take H5.out u (half_take_no (by omega) (by unfold maxTime; omega) (by omega) (Int.le_refl u) (by omega))
                  (with_reducible refine C.mono ?_)
                  rintro e w6 ⟨rfl, h, -⟩
                  clear C
                  have H6 := Lib.hid h
                  clear h H5
                  go_wp2_with fail
                  have C := has_allows H6.out 253402300799 (a := false) (by rw [half_allows (by omega)]; exact decide_eq_false (by omega))
                  (with_reducible refine C.mono ?_)
                  rintro e w7 ⟨rfl, h, -⟩
                  clear C
                  have H7 := Lib.hid h
                  obtain ⟨-, -, hd2⟩ := h.old
                  clear h H6
                  go_wp2_with fail
                  have C := works_ok
                  (with_reducible refine (C _).mono ?_)
                  rintro e w9 ⟨rfl, hb9⟩
                  clear C
                  have HB9 := Lib.hid hb9
                  clear hb9
                  go_wp2_with fail
                  go_wp2_with fail
                  go_ret
                  exact ⟨rfl, H7.out.end HB9.out⟩
    · have HV := Lib.hid hv
      clear hv
      go_enter Try.func5, Try.ntmps5
      go_wp2_with fail
      have C := (fun W => played_no HV.out (.slice a xs.length cap) W)
      (with_reducible refine (C _).mono ?_)
      rintro e w1 ⟨rfl, h⟩
      clear C
      have H := Lib.hid h
      clear h
      go_wp2_with fail
      have C := latest_ok a cap xs hl w1 ((HA.out.alloc _).below H.out (Nat.le_refl _))
      (with_reducible refine C.mono ?_)
      rintro e w' ⟨rfl, rfl⟩
      clear C
      go_wp2_with fail
      have C := works_ok
      (with_reducible refine (C _).mono ?_)
      rintro e w9 ⟨rfl, hb9⟩
      clear C
      have HB9 := Lib.hid hb9
      clear hb9
      go_wp2_with fail
      go_ret
      exact ⟨rfl, ((Below.refl _ _).alloc (Nat.le_refl _) _).trans ((H.out.mono (by simp)).trans (HB9.out.mono (by have := H.out.size; simp at this; omega)))⟩
end Go.Proofs.Ytfeblkoconjakaa.BK
