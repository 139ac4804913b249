/- The walk of BreakerNever. -/
import Derived.Test.YtfeblkoconjakaaBrkSteps
import Derived.BigGuardPart
namespace Go.Proofs.Ytfeblkoconjakaa.BK
open Go Go.RowKit

def idleB (last : Int) : Bx := ⟨0, 0, 0, false, 0, 0, 0, 0, last⟩
section
variable {last now : Int}
theorem idle_check (h0 : 0 ≤ now) (h1 : now ≤ maxTime) (h2 : last ≤ now) : check (idleB last) now = 0 := by
  unfold check idleB; rw [if_neg (by omega), if_neg (by simp only []; omega)]
theorem idle_report (ok : Bool) (h0 : 0 ≤ now) (h1 : now ≤ maxTime) (h2 : last ≤ now) : report (idleB last) ok now = (0, 0, idleB now) := by
  unfold report; rw [idle_check h0 h1 h2]; simp [idleB, seen]
theorem idle_take (h0 : 0 ≤ now) (h1 : now ≤ maxTime) (h2 : last ≤ now) : take (idleB last) now = (0, idleB now) := by
  unfold take; rw [idle_check h0 h1 h2]; simp [idleB, seen, allows]
theorem idle_trip (h0 : 0 ≤ now) (h1 : now ≤ maxTime) (h2 : last ≤ now) : trip (idleB last) now = (9, idleB last) := by
  unfold trip switched; rw [idle_check h0 h1 h2]; simp [idleB]
theorem idle_reset (h0 : 0 ≤ now) (h1 : now ≤ maxTime) (h2 : last ≤ now) : reset (idleB last) now = (9, idleB last) := by
  unfold reset switched; rw [idle_check h0 h1 h2]; simp [idleB]
end

set_option maxHeartbeats 4000000 in
set_option maxRecDepth 100000 in
theorem never_walk (a : Option Addr) (cap : Nat) (xs : List St) (hl : xs.length ≤ 9223372036854775807) (w : World) (hA : StepsAt w a xs) :
    Calls Try.prog 6 #[.slice a xs.length cap] w fun e w' => e = .returned (.bool true) ∧ Below w.heap.size w w' := by
  have HA := Lib.hid hA
  clear hA
  by_cases hlen : 40 < xs.length
  · go_enter Try.func6, Try.ntmps6
    go_wp2_with fail
    have C := has_new (B := w.heap.size) (Below.refl _ w) (by simp) (f := 0) (o := 0) (p := 0) (.inl rfl)
    (with_reducible refine C.mono ?_)
    rintro e w1 ⟨b, rfl, -, h, -⟩
    clear C
    have H := Lib.hid h
    clear h
    go_wp2_with fail
    have C := works_ok
    (with_reducible refine (C _).mono ?_)
    rintro e w9 ⟨rfl, hb9⟩
    clear C
    have HB9 := Lib.hid hb9
    clear hb9
    go_wp2_with fail
    go_ret
    exact ⟨rfl, H.out.bel.trans (HB9.out.mono H.out.bel.size)⟩
  · go_enter Try.func6, Try.ntmps6
    go_wp2_with fail
    have C := has_new (B := w.heap.size) (Below.refl _ w) (by simp) (f := 0) (o := 0) (p := 0) (.inl rfl)
    (with_reducible refine C.mono ?_)
    rintro e w1 ⟨b, rfl, -, h, -⟩
    clear C
    have H := Lib.hid h
    clear h
    go_wp2_with fail
    go_loopw [5, 6] (fun nv iv wr => ∃ (k : Nat) (now : Int), nv = .int .i64 now ∧ iv = .int .i64 k ∧ k ≤ xs.length ∧ 0 ≤ now ∧ now ≤ 1023 * k ∧ Has w.heap.size w wr b (idleB now)) (fun _ i _ => xs.length - (intOf i).toNat)
    case atStart => exact ⟨0, 0, rfl, rfl, by omega, by omega, by omega, H.out⟩
    clear H
    case round =>
      obtain ⟨k, now, rfl, rfl, hk, hn0, hn1, h⟩ := hrel
      have H := Lib.hid h
      by_cases hlt : k < xs.length
      · obtain ⟨c, off, rfl, hcell0, hcell1, hcell2⟩ := HA.out.get h.bel (Nat.le_refl _) hlt
        have HR := Lib.hid (fun (W : World) (hb : Below w.heap.size w W) => HA.out.again hb (Nat.le_refl _) hlt)
        generalize xs[k] = d at *
        obtain ⟨v, hv, hv0, hv1⟩ := and_low d.at_
        clear h
        go_wp2_with fail
        have C := has_report H.out d.ok (now + v) (idle_report d.ok (by omega) (by unfold maxTime; omega) (by omega))
        (with_reducible refine C.mono ?_)
        rintro e w2 ⟨rfl, h, -⟩
        clear C
        have H2 := Lib.hid h
        clear h H
        go_wp2_with fail
        have C := has_counts H2.out (f := 0) (g := 0) (u := 0) rfl rfl rfl
        (with_reducible refine C.mono ?_)
        rintro e w3 ⟨rfl, h, -⟩
        clear C
        have H3 := Lib.hid h
        clear h H2
        go_wp2_with fail
        have C := has_until H3.out (u := 0) (o := false) rfl rfl
        (with_reducible refine C.mono ?_)
        rintro e w' ⟨rfl, rfl⟩
        clear C
        go_wp2_with fail
        have C := has_state H3.out (now + v) (s := 0) rfl
        (with_reducible refine C.mono ?_)
        rintro e w' ⟨rfl, rfl⟩
        clear C
        obtain ⟨-, -, hg2⟩ := HR.out _ H3.out.bel
        go_wp2_with fail
        have C := has_allows H3.out d.at_ (a := true) rfl
        (with_reducible refine C.mono ?_)
        rintro e w4 ⟨rfl, h, -⟩
        clear C
        have H4 := Lib.hid h
        clear h H3
        go_wp2_with fail
        have C := has_take H4.out (now + v) (idle_take (by omega) (by unfold maxTime; omega) (by omega))
        (with_reducible refine C.mono ?_)
        rintro e w5 ⟨rfl, h, -⟩
        clear C
        have H5 := Lib.hid h
        clear h H4
        go_wp2_with fail
        have C := has_trip H5.out (now + v) (idle_trip (by omega) (by unfold maxTime; omega) (by omega))
        (with_reducible refine C.mono ?_)
        rintro e w6 ⟨rfl, h, -⟩
        clear C
        have H6 := Lib.hid h
        clear h H5
        go_wp2_with fail
        have C := has_reset H6.out (now + v) (idle_reset (by omega) (by unfold maxTime; omega) (by omega))
        (with_reducible refine C.mono ?_)
        rintro e w7 ⟨rfl, h, -⟩
        clear C
        have H7 := Lib.hid h
        clear h H6
        go_wp2_with fail
        go_roundw
        case rel => exact ⟨k + 1, now + v, rfl, by go_num, by omega, by omega, by omega, H7.out⟩
        case measure => simp [intOf]; omega
      · clear h
        go_wp2_with fail
        have C := works_ok
        (with_reducible refine (C _).mono ?_)
        rintro e w9 ⟨rfl, hb9⟩
        clear C
        have HB9 := Lib.hid hb9
        clear hb9
        go_wp2_with fail
        go_ret
        exact ⟨rfl, H.out.bel.trans (HB9.out.mono H.out.bel.size)⟩
end Go.Proofs.Ytfeblkoconjakaa.BK
