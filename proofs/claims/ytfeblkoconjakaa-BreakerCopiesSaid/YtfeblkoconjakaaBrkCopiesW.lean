/- The walk of BreakerCopies. -/
import Derived.Test.YtfeblkoconjakaaBrkKeepsW
import Derived.Deep.RegionHeld3
namespace Go.Proofs.Ytfeblkoconjakaa.BK
open Go Go.RowKit

set_option maxHeartbeats 8000000 in
set_option maxRecDepth 100000 in
theorem copies_walk (f o p : Int) (a : Option Addr) (cap : Nat) (xs : List St) (hl : xs.length ≤ 9223372036854775807) (a2 : Option Addr) (cap2 : Nat) (ys : List St) (hl2 : ys.length ≤ 9223372036854775807) (w : World) (hA : StepsAt w a xs) (hA2 : StepsAt w a2 ys) :
    Calls Try.prog 10 #[.agg #[.int .i64 f, .int .i64 o, .int .i64 p], .slice a xs.length cap, .slice a2 ys.length cap2] w fun e w' => e = .returned (.bool true) ∧ Below w.heap.size w w' := by
  obtain ⟨W, hW⟩ : ∃ W : World, Hid (W = w.alloc (.cells #[.int .i64 f, .int .i64 o, .int .i64 p] 23)) := ⟨_, Lib.hid rfl⟩
  have HA : Hid (StepsAt W a xs) := Lib.hid (by rw [hW.out]; exact hA.alloc _)
  have HA2 : Hid (StepsAt W a2 ys) := Lib.hid (by rw [hW.out]; exact hA2.alloc _)
  have hsz : Hid (W.heap.size = w.heap.size + 1) := Lib.hid (by rw [hW.out]; simp)
  have hold : Hid (∀ w1 w2 : World, Below W.heap.size W w1 → Below w1.heap.size w1 w2 → Below w.heap.size w w2) := Lib.hid (by
    intro w1 w2 h1 h2
    have h0 : Below w.heap.size w W := by rw [hW.out]; exact (Below.refl _ _).alloc (Nat.le_refl _) _
    exact h0.trans ((h1.mono h0.size).trans (h2.mono (Nat.le_trans h0.size h1.size))))
  have hrule : Hid (∀ w1 : World, Below W.heap.size W w1 → w1.cell? ⟨w.heap.size, 0, none⟩ = some (.int .i64 f) ∧ w1.cell? ⟨w.heap.size, 1, none⟩ = some (.int .i64 o) ∧ w1.cell? ⟨w.heap.size, 2, none⟩ = some (.int .i64 p)) := Lib.hid (by
    intro w1 h1
    have hb : w.heap.size < W.heap.size := by rw [hsz.out]; omega
    exact ⟨by rw [h1.cell (p := ⟨w.heap.size, 0, none⟩) hb, hW.out]; simp, by rw [h1.cell (p := ⟨w.heap.size, 1, none⟩) hb, hW.out]; simp, by rw [h1.cell (p := ⟨w.heap.size, 2, none⟩) hb, hW.out]; simp⟩)
  clear hA hA2
  by_cases hv : zero f o p = true ∨ ruled f o p = true
  · have HV := Lib.hid hv
    clear hv
    go_enter Try.func10, Try.ntmps10
    go_wp2_with fail
    rw [← hW.out]
    have C := played_yes HV.out a cap xs hl W HA.out
    (with_reducible refine C.mono ?_)
    rintro e w1 ⟨b, rfl, hn, hb, hi, hbl⟩
    clear C
    have H : Hid (Has W.heap.size W w1 b (plays (fresh f o p) xs)) := Lib.hid ⟨hb, hi, hbl, hn, Nat.le_refl _⟩
    clear hn hb hi hbl
    obtain ⟨x, hx⟩ : ∃ x, plays (fresh f o p) xs = x := ⟨_, rfl⟩
    have HX := Lib.hid hx
    rw [hx] at H
    clear hx
    by_cases hlen : 40 < xs.length
    · go_wp2_with fail
      have C := works_ok
      (with_reducible refine (C _).mono ?_)
      rintro e w9 ⟨rfl, hb9⟩
      clear C
      have HB9 := Lib.hid (hb9)
      clear hb9
      go_wp2_with fail
      go_ret
      exact ⟨rfl, hold.out _ _ H.out.bel HB9.out⟩
    · by_cases hlen2 : 40 < ys.length
      · go_wp2_with fail
        have C := works_ok
        (with_reducible refine (C _).mono ?_)
        rintro e w9 ⟨rfl, hb9⟩
        clear C
        have HB9 := Lib.hid (hb9)
        clear hb9
        go_wp2_with fail
        go_ret
        exact ⟨rfl, hold.out _ _ H.out.bel HB9.out⟩
      · go_wp2_with fail
        have C := has_copy H.out
        (with_reducible refine C.mono ?_)
        rintro e w2 ⟨c, rfl, hbc, h1, h2, -⟩
        clear C
        have H2 := Lib.hid h1
        have G2 := Lib.hid h2
        have HNE : Hid (b ≠ c) := Lib.hid (by omega)
        clear h1 h2 H hbc
        go_wp2_with fail
        have C := has_copy H2.out
        (with_reducible refine C.mono ?_)
        rintro e w3 ⟨d, rfl, hbd, h1, h2, hbe⟩
        clear C
        have H3 := Lib.hid h1
        have F3 := Lib.hid h2
        have G3 := Lib.hid (G2.out.below hbe)
        have HND : Hid (b ≠ d) := Lib.hid (by omega)
        have HCD : Hid (c ≠ d) := Lib.hid (by
          have h5 := Blk.lt G2.out.box
          omega)
        clear h1 h2 H2 G2 hbd hbe
        go_wp2_with fail
        have C := alike_ok H3.out.box G3.out.box
        (with_reducible refine C.mono ?_)
        rintro e w4 ⟨rfl, n, rfl⟩
        clear C
        have H4 := Lib.hid (H3.out.drewN n)
        have G4 := Lib.hid (G3.out.drewN n)
        have F4 := Lib.hid (F3.out.drewN n)
        clear H3 G3 F3
        go_wp2_with fail
        go_loopw [10] (fun iv wr => ∃ (k : Nat) (v : Bx), iv = .int .i64 k ∧ k ≤ ys.length ∧ Has W.heap.size W wr b x ∧ Has W.heap.size W wr c v ∧ Has W.heap.size W wr d v) (fun i _ => ys.length - (intOf i).toNat)
        case atStart => exact ⟨0, x, rfl, by omega, H4.out, G4.out, F4.out⟩
        clear H4 G4 F4
        case round =>
          obtain ⟨k, v, rfl, hk, h1, h2, h3⟩ := hrel
          have H := Lib.hid h1
          have G := Lib.hid h2
          have F := Lib.hid h3
          clear h1 h2 h3
          by_cases hlt : k < ys.length
          · obtain ⟨c0, off, rfl, hcell0, hcell1, hcell2⟩ := HA2.out.get H.out.bel (Nat.le_refl _) hlt
            have HR := Lib.hid (fun (w1 : World) (hb : Below W.heap.size W w1) => HA2.out.again hb (Nat.le_refl _) hlt)
            generalize ys[k] = s at *
            obtain ⟨ev, er, v1, hrep⟩ : ∃ ev er v1, report v s.ok s.at_ = (ev, er, v1) := ⟨_, _, _, rfl⟩
            have HRP := Lib.hid hrep
            obtain ⟨et, v2, htk⟩ : ∃ et v2, take v1 s.at_ = (et, v2) := ⟨_, _, rfl⟩
            have HTK := Lib.hid htk
            clear hrep htk
            have H' := Lib.hid H.out.drew
            have G' := Lib.hid G.out.drew
            have F' := Lib.hid F.out.drew
            clear H G F
            go_wp2_with fail
            go_region_held3 (fun w' => w'.cell? ⟨c0, off + k * 3 + 1, none⟩ = some (.bool s.ok) ∧ w'.cell? ⟨c0, off + k * 3 + 2, none⟩ = some (.int .i64 s.at_)) (go_keep)
              (first | (go_at_call 13; have C := has_report G'.out s.ok s.at_ HRP.out; with_reducible refine C.mono ?_; rintro e w5 ⟨rfl, h, hg⟩; clear C; have G1 := Lib.hid h; have H1 := Lib.hid (H'.out.keep hg HNE.out h.le); have F1 := Lib.hid (F'.out.keep hg HCD.out.symm h.le); clear h hg; obtain ⟨hk0, hk1, hk2⟩ := HR.out _ G1.out.bel))
            clear H' G' F' hcell0 hcell1 hcell2
            go_wp2_with fail
            have C := has_take G1.out s.at_ HTK.out
            (with_reducible refine C.mono ?_)
            rintro e w6 ⟨rfl, h, hg⟩
            clear C
            have G2 := Lib.hid h
            have H2 := Lib.hid (H1.out.keep hg HNE.out h.le)
            have F2 := Lib.hid (F1.out.keep hg HCD.out.symm h.le)
            clear h hg G1 H1 F1 hk0 hk1 hk2
            have H' := Lib.hid H2.out.drew
            have G' := Lib.hid G2.out.drew
            have F' := Lib.hid F2.out.drew
            obtain ⟨hk0, hk1, hk2⟩ := HR.out _ G2.out.bel
            clear H2 G2 F2
            go_wp2_with fail
            go_region_held3 (fun w' => w'.cell? ⟨c0, off + k * 3 + 1, none⟩ = some (.bool s.ok) ∧ w'.cell? ⟨c0, off + k * 3 + 2, none⟩ = some (.int .i64 s.at_)) (go_keep)
              (first | (go_at_call 13; have C := has_report F'.out s.ok s.at_ HRP.out; with_reducible refine C.mono ?_; rintro e w7 ⟨rfl, h, hg⟩; clear C; have F3 := Lib.hid h; have H3 := Lib.hid (H'.out.keep hg HND.out h.le); have G3 := Lib.hid (G'.out.keep hg HCD.out h.le); clear h hg; obtain ⟨hj0, hj1, hj2⟩ := HR.out _ F3.out.bel))
            clear H' G' F' hk0 hk1 hk2
            go_wp2_with fail
            have C := has_take F3.out s.at_ HTK.out
            (with_reducible refine C.mono ?_)
            rintro e w8 ⟨rfl, h, hg⟩
            clear C
            have F4 := Lib.hid h
            have H4 := Lib.hid (H3.out.keep hg HND.out h.le)
            have G4 := Lib.hid (G3.out.keep hg HCD.out h.le)
            clear h hg F3 H3 G3 hj0 hj1 hj2
            go_wp2_with fail
            have C := alike_ok G4.out.box F4.out.box
            (with_reducible refine C.mono ?_)
            rintro e w9 ⟨rfl, n9, rfl⟩
            clear C
            have H5 := Lib.hid (H4.out.drewN n9)
            have G5 := Lib.hid (G4.out.drewN n9)
            have F5 := Lib.hid (F4.out.drewN n9)
            clear H4 G4 F4
            go_wp2_with fail
            go_roundw
            case rel => exact ⟨k + 1, v2, by go_num, by omega, H5.out, G5.out, F5.out⟩
            case measure => simp [intOf]; omega
          · clear hlen hlen2
            obtain ⟨hr0, hr1, hr2⟩ := hrule.out _ H.out.bel
            go_wp2_with fail
            have C := played_yes HV.out a cap xs hl _ (HA.out.below H.out.bel (Nat.le_refl _))
            (with_reducible refine C.mono ?_)
            rintro e w5 ⟨b2, rfl, -, hb, hi, hbl⟩
            clear C
            rw [HX.out] at hb
            have HB2 := Lib.hid hb
            have HX2 := Lib.hid (H.out.below hbl)
            clear hb hi hbl H G F
            go_wp2_with fail
            have C := alike_ok HX2.out.box HB2.out
            (with_reducible refine C.mono ?_)
            rintro e w6 ⟨rfl, n6, rfl⟩
            clear C
            have H := Lib.hid (HX2.out.drewN n6)
            clear HX2 HB2
            go_wp2_with fail
            have C := works_ok
            (with_reducible refine (C _).mono ?_)
            rintro e w9 ⟨rfl, hb9⟩
            clear C
            have HB9 := Lib.hid (hb9)
            clear hb9
            go_wp2_with fail
            go_ret
            exact ⟨rfl, hold.out _ _ H.out.bel HB9.out⟩
  · have HV := Lib.hid hv
    clear hv
    go_enter Try.func10, Try.ntmps10
    go_wp2_with fail
    rw [← hW.out]
    by_cases hlen : 40 < xs.length
    · have C := (fun W => played_no HV.out (.slice a xs.length cap) W)
      (with_reducible refine (C _).mono ?_)
      rintro e w1 ⟨rfl, h⟩
      clear C
      have H := Lib.hid (h)
      clear h
      go_wp2_with fail
      have C := works_ok
      (with_reducible refine (C _).mono ?_)
      rintro e w9 ⟨rfl, hb9⟩
      clear C
      have HB9 := Lib.hid (hb9)
      clear hb9
      go_wp2_with fail
      go_ret
      exact ⟨rfl, hold.out _ _ H.out HB9.out⟩
    · by_cases hlen2 : 40 < ys.length
      all_goals
        have C := (fun W => played_no HV.out (.slice a xs.length cap) W)
        (with_reducible refine (C _).mono ?_)
        rintro e w1 ⟨rfl, h⟩
        clear C
        have H := Lib.hid (h)
        clear h
        go_wp2_with fail
        have C := works_ok
        (with_reducible refine (C _).mono ?_)
        rintro e w9 ⟨rfl, hb9⟩
        clear C
        have HB9 := Lib.hid (hb9)
        clear hb9
        go_wp2_with fail
        go_ret
        exact ⟨rfl, hold.out _ _ H.out HB9.out⟩
end Go.Proofs.Ytfeblkoconjakaa.BK
