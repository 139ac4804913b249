/- The walk of BreakerFailures. -/
import Derived.Test.YtfeblkoconjakaaBrkE
import Derived.Test.YtfeblkoconjakaaBrkFailM
import Derived.LoopTactic
namespace Go.Proofs.Ytfeblkoconjakaa.BK
open Go Go.RowKit

/-- A slice of numbers of a kind, in memory. -/
def NumsAt (K : IntKind) (w : World) (a : Option Addr) (xs : List Int) : Prop := ∀ k (h : k < xs.length), ∃ b off, a = some ⟨b, off, none⟩ ∧ b < w.heap.size ∧ w.cell? ⟨b, off + k, none⟩ = some (.int K xs[k])
theorem u16_quo (x y : Int) (h : 0 ≤ x ∧ x ≤ 65535 ∧ 1 ≤ y) : IntKind.u16.wrap (x.tdiv y) = x / y := by
  rw [Int.tdiv_eq_ediv_of_nonneg h.1]; have := IntWalk.tdiv_le x y h.1 h.2.2; exact IntWalk.u16_in _ (by omega)

section
variable {w wr : World} {b : Nat} {x : Bx} {f o p : Int}
/-- The boxed rule of a law, and numbers that came in, are as they were. -/
theorem Has.old (H : Has (w.heap.size + 1) (w.alloc (.cells #[.int .i64 f, .int .i64 o, .int .i64 p] 23)) wr b x) :
    wr.cell? ⟨w.heap.size, 0, none⟩ = some (.int .i64 f) ∧ wr.cell? ⟨w.heap.size, 1, none⟩ = some (.int .i64 o) ∧ wr.cell? ⟨w.heap.size, 2, none⟩ = some (.int .i64 p) :=
  ⟨by rw [H.bel.cell (p := ⟨w.heap.size, 0, none⟩) (by simp)]; simp, by rw [H.bel.cell (p := ⟨w.heap.size, 1, none⟩) (by simp)]; simp, by rw [H.bel.cell (p := ⟨w.heap.size, 2, none⟩) (by simp)]; simp⟩
theorem Has.num {K : IntKind} {a : Option Addr} {xs : List Int} {ob : Obj} (H : Has (w.heap.size + 1) (w.alloc ob) wr b x) (hA : NumsAt K w a xs) {k : Nat} (hk : k < xs.length) :
    ∃ c off, a = some ⟨c, off, none⟩ ∧ wr.cell? ⟨c, off + k, none⟩ = some (.int K xs[k]) := by
  obtain ⟨c, off, e, hc, h⟩ := hA k hk
  exact ⟨c, off, e, by rw [H.bel.cell (p := ⟨c, off + k, none⟩) (by show c < _; omega), World.cell?_alloc_lt _ _ _ (by exact hc)]; exact h⟩
theorem Has.end {ob : Obj} (H : Has (w.heap.size + 1) (w.alloc ob) wr b x) {w2 : World} (hb : Below wr.heap.size wr w2) : Below w.heap.size w w2 :=
  ((Below.refl _ _).alloc (Nat.le_refl _) _).trans ((H.bel.mono (by simp)).trans (hb.mono (by have := H.bel.size; simp at this; omega)))
end

set_option maxHeartbeats 4000000 in
set_option maxRecDepth 100000 in
theorem failures_walk (f o p : Int) (a : Option Addr) (cap : Nat) (xs : List Int) (hx : ∀ d ∈ xs, 0 ≤ d ∧ d < 65536) (hl : xs.length ≤ 9223372036854775807) (w : World) (hA : NumsAt .u16 w a xs) :
    Calls Try.prog 3 #[.agg #[.int .i64 f, .int .i64 o, .int .i64 p], .slice a xs.length cap] w fun e w' => e = .returned (.bool true) ∧ Below w.heap.size w w' := by
  have HA := Lib.hid hA
  have HX := Lib.hid hx
  clear hA hx
  by_cases hv : zero f o p = true ∨ ruled f o p = true
  · have HV := Lib.hid hv
    by_cases hf : f = 0
    · clear hv
      have hfb : (f == 0) = true := by simp [hf]
      have HF := Lib.hid hf
      clear hf
      go_enter Try.func3, Try.ntmps3
      go_wp2_with fail
      have C := has_new (B := w.heap.size + 1) (Below.refl _ (w.alloc (.cells #[.int .i64 f, .int .i64 o, .int .i64 p] 23))) (by simp) HV.out
      (with_reducible refine C.mono ?_)
      rintro e w1 ⟨b, rfl, hn, h, -⟩
      clear C
      have H := Lib.hid h
      obtain ⟨hc0, -, -⟩ := h.old
      clear h hn
      go_wp2_with fail
      have C := works_ok
      (with_reducible refine (C _).mono ?_)
      rintro e w9 ⟨rfl, hb9⟩
      clear C
      have HB9 := Lib.hid hb9
      clear hb9
      go_wp2_with fail
      go_ret
      exact ⟨rfl, H.out.end HB9.out⟩
    · by_cases hlen : 300 < xs.length
      · clear hv
        have hfb : (f == 0) = false := by simp [hf]
        clear hf
        go_enter Try.func3, Try.ntmps3
        go_wp2_with fail
        have C := has_new (B := w.heap.size + 1) (Below.refl _ (w.alloc (.cells #[.int .i64 f, .int .i64 o, .int .i64 p] 23))) (by simp) HV.out
        (with_reducible refine C.mono ?_)
        rintro e w1 ⟨b, rfl, hn, h, -⟩
        clear C
        have H := Lib.hid h
        obtain ⟨hc0, -, -⟩ := h.old
        clear h hn
        go_wp2_with fail
        have C := works_ok
        (with_reducible refine (C _).mono ?_)
        rintro e w9 ⟨rfl, hb9⟩
        clear C
        have HB9 := Lib.hid hb9
        clear hb9
        go_wp2_with fail
        go_ret
        exact ⟨rfl, H.out.end HB9.out⟩
      · have hr : ruled f o p = true := hv.resolve_left (by unfold zero; simp [hf])
        unfold ruled maxSpan at hr
        obtain ⟨f1, f2, o1, o2, p1, p2⟩ := of_decide_eq_true hr
        have hfb : (f == 0) = false := by simp [hf]
        clear hv hf hr
        go_enter Try.func3, Try.ntmps3
        go_wp2_with fail
        have C := has_new (B := w.heap.size + 1) (Below.refl _ (w.alloc (.cells #[.int .i64 f, .int .i64 o, .int .i64 p] 23))) (by simp) HV.out
        (with_reducible refine C.mono ?_)
        rintro e w1 ⟨b, rfl, hn, h, -⟩
        clear C
        have H := Lib.hid h
        obtain ⟨hc0, -, -⟩ := h.old
        clear h hn
        go_wp2_with fail
        go_loopw [7, 8, 9] (fun rv nv iv wr => ∃ (k : Nat) (row now : Int), rv = .int .i64 row ∧ nv = .int .i64 now ∧ iv = .int .i64 k ∧ k ≤ xs.length ∧ 0 ≤ row ∧ row < f ∧ 0 ≤ now ∧ now ≤ 16384 * k ∧ Has (w.heap.size + 1) (w.alloc (.cells #[.int .i64 f, .int .i64 o, .int .i64 p] 23)) wr b (shutB f o p row now)) (fun _ _ i _ => xs.length - (intOf i).toNat)
        case atStart => exact ⟨0, 0, 0, rfl, rfl, rfl, by omega, by omega, by omega, by omega, by omega, H.out⟩
        clear H hc0
        case round =>
          obtain ⟨k, row, now, rfl, rfl, rfl, hk, hr0, hr1, hn0, hn1, h⟩ := hrel
          have H := Lib.hid h
          by_cases hlt : k < xs.length
          · obtain ⟨c, off, rfl, hcell⟩ := h.num HA.out hlt
            obtain ⟨hd0, hd1⟩ := HX.out _ (List.getElem_mem hlt)
            generalize xs[k] = d at *
            obtain ⟨q, hq, hq0, hq1⟩ : ∃ q : Int, IntKind.u16.wrap (d.tdiv 4) = q ∧ 0 ≤ q ∧ q < 16384 := ⟨d / 4, u16_quo _ _ (by omega), by omega, by omega⟩
            clear h
            by_cases hm : d % 4 = 0
            · have hmb : (d % 4 == 0) = true := by simp [hm]
              have hfz : ((0 : Int) == f) = false := by rw [beq_eq_false_iff_ne]; omega
              have HM := Lib.hid hm
              clear hm
              go_wp2_with fail
              have C := has_report H.out true (now + q) (shut_report_ok (by omega) (by omega) (by unfold maxTime; omega) (by omega) )
              (with_reducible refine C.mono ?_)
              rintro e w2 ⟨rfl, h, -⟩
              clear C
              have H2 := Lib.hid h
              obtain ⟨hd0, -, -⟩ := h.old
              clear h H
              go_wp2_with fail
              have C := has_counts H2.out (f := 0) (g := 0) (u := 0) rfl rfl rfl
              (with_reducible refine C.mono ?_)
              rintro e w3 ⟨rfl, h, -⟩
              clear C
              have H3 := Lib.hid h
              clear h H2
              go_wp2_with fail
              have C := has_state H3.out (now + q) (s := 0) rfl
              (with_reducible refine C.mono ?_)
              rintro e w' ⟨rfl, rfl⟩
              clear C
              go_wp2_with fail
              have C := has_allows H3.out (now + q) (a := true) rfl
              (with_reducible refine C.mono ?_)
              rintro e w4 ⟨rfl, h, -⟩
              clear C
              have H4 := Lib.hid h
              clear h H3
              go_wp2_with fail
              go_roundw
              case rel => exact ⟨k + 1, 0, now + q, rfl, rfl, by go_num, by omega, by omega, by omega, by omega, by omega, H4.out⟩
              case measure => simp [intOf]; omega
            · have hmb : (d % 4 == 0) = false := by simp [hm]
              clear hm
              by_cases hlt2 : row + 1 < f
              · have hfz : ((row + 1 : Int) == f) = false := by rw [beq_eq_false_iff_ne]; omega
                go_wp2_with fail
                have C := has_report H.out false (now + q) (shut_report_fail (by omega) (by omega) (by unfold maxTime; omega) (by omega) (by omega))
                (with_reducible refine C.mono ?_)
                rintro e w2 ⟨rfl, h, -⟩
                clear C
                have H2 := Lib.hid h
                obtain ⟨hd0, -, -⟩ := h.old
                clear h H
                go_wp2_with fail
                have C := has_counts H2.out (f := (row + 1)) (g := 0) (u := 0) rfl rfl rfl
                (with_reducible refine C.mono ?_)
                rintro e w3 ⟨rfl, h, -⟩
                clear C
                have H3 := Lib.hid h
                clear h H2
                go_wp2_with fail
                have C := has_state H3.out (now + q) (s := 0) rfl
                (with_reducible refine C.mono ?_)
                rintro e w' ⟨rfl, rfl⟩
                clear C
                go_wp2_with fail
                have C := has_allows H3.out (now + q) (a := true) rfl
                (with_reducible refine C.mono ?_)
                rintro e w4 ⟨rfl, h, -⟩
                clear C
                have H4 := Lib.hid h
                clear h H3
                go_wp2_with fail
                go_roundw
                case rel => exact ⟨k + 1, (row + 1), now + q, rfl, rfl, by go_num, by omega, by omega, by omega, by omega, by omega, H4.out⟩
                case measure => simp [intOf]; omega
              · have hfz : ((row + 1 : Int) == f) = true := by rw [beq_iff_eq]; omega
                go_wp2_with fail
                have C := has_report H.out false (now + q) (shut_report_open (by omega) (by omega) (by unfold maxTime; omega) (by omega) (by omega))
                (with_reducible refine C.mono ?_)
                rintro e w2 ⟨rfl, h, -⟩
                clear C
                have H2 := Lib.hid h
                obtain ⟨hd0, hd1, -⟩ := h.old
                clear h H
                go_wp2_with fail
                have C := has_until H2.out (u := now + q + o) (o := true) rfl rfl
                (with_reducible refine C.mono ?_)
                rintro e w' ⟨rfl, rfl⟩
                clear C
                go_wp2_with fail
                have C := has_reset H2.out (now + q) (open_reset (by omega) (by omega) (by unfold maxTime; omega) (by omega))
                (with_reducible refine C.mono ?_)
                rintro e w3 ⟨rfl, h, -⟩
                clear C
                have H3 := Lib.hid h
                clear h H2
                go_wp2_with fail
                have C := has_state H3.out (now + q) (s := 0) rfl
                (with_reducible refine C.mono ?_)
                rintro e w' ⟨rfl, rfl⟩
                clear C
                go_wp2_with fail
                go_roundw
                case rel => exact ⟨k + 1, 0, now + q, rfl, rfl, by go_num, by omega, by omega, by omega, by omega, by omega, H3.out⟩
                case measure => simp [intOf]; omega
          · clear h
            go_wp2_with fail
            have C := works_ok
            (with_reducible refine (C _).mono ?_)
            rintro e w9 ⟨rfl, hb9⟩
            clear C
            have HB9 := Lib.hid hb9
            clear hb9
            go_wp2_with fail
            go_ret
            exact ⟨rfl, H.out.end HB9.out⟩
  · have HV := Lib.hid hv
    clear hv
    go_enter Try.func3, Try.ntmps3
    go_wp2_with fail
    have C := (fun W => new_no (w := W) HV.out)
    (with_reducible refine (C _).mono ?_)
    rintro e w1 ⟨rfl, h⟩
    clear C
    have H := Lib.hid h
    clear h
    go_wp2_with fail
    have C := works_ok
    (with_reducible refine (C _).mono ?_)
    rintro e w2 ⟨rfl, hb2⟩
    clear C
    have HB2 := Lib.hid hb2
    clear hb2
    go_wp2_with fail
    go_ret
    exact ⟨rfl, ((Below.refl _ _).alloc (Nat.le_refl _) _).trans ((H.out.mono (by simp)).trans (HB2.out.mono (by have := H.out.size; simp at this; omega)))⟩
end Go.Proofs.Ytfeblkoconjakaa.BK
