/- The walk of BreakerKeeps. -/
import Derived.Test.YtfeblkoconjakaaBrkPausesW
namespace Go.Proofs.Ytfeblkoconjakaa.BK
open Go Go.RowKit
set_option maxHeartbeats 1000000 in
theorem alike_ok {w : World} {b c : Nat} {x : Bx} (h1 : BoxAt w b x) (h2 : BoxAt w c x) :
    Calls Try.prog 31 #[.pointer (some ⟨b, 0, none⟩), .pointer (some ⟨c, 0, none⟩)] w fun e w' => e = .returned (.bool true) ∧ ∃ n, w' = w.drewN n := by
  have H1 := Lib.hid h1
  have H2 := Lib.hid h2
  clear h1 h2
  go_enter Try.func31, Try.ntmps31
  go_wp2_with fail
  have C := counts_ok H1.out
  (with_reducible refine C.mono ?_)
  rintro e w1 ⟨rfl, n, rfl⟩
  clear C
  go_wp2_with fail
  have C := counts_ok (Blk.drewN H2.out n)
  (with_reducible refine C.mono ?_)
  rintro e w1 ⟨rfl, n2, rfl⟩
  clear C
  go_wp2_with fail
  have C1 := Lib.hid (fun n => until_ok (Blk.drewN H1.out n))
  have C2 := Lib.hid (fun n => until_ok (Blk.drewN H2.out n))
  clear H1 H2
  with_reducible refine (C1.out _).mono ?_
  rintro e w' ⟨rfl, rfl⟩
  go_wp2_with fail
  with_reducible refine (C2.out _).mono ?_
  rintro e w' ⟨rfl, rfl⟩
  go_wp2_with fail
  go_ret
  exact ⟨rfl, _, rfl⟩
theorem take_refused {x y : Bx} {now er : Int} (h : take x now = (er, y)) (he : er ≠ 0) : y = x := by
  unfold take at h
  split at h
  · injection h with _ h; exact h.symm
  · split at h
    · injection h with _ h; exact h.symm
    · injection h with h _; exact absurd h.symm he
theorem trip_refused {x y : Bx} {now er : Int} (h : trip x now = (er, y)) (he : er ≠ 0) : y = x := by
  unfold trip at h
  split at h
  · injection h with _ h; exact h.symm
  · injection h with h _; exact absurd h.symm he
theorem reset_refused {x y : Bx} {now er : Int} (h : reset x now = (er, y)) (he : er ≠ 0) : y = x := by
  unfold reset at h
  split at h
  · injection h with _ h; exact h.symm
  · injection h with h _; exact absurd h.symm he
theorem report_refused {x y : Bx} {ok : Bool} {now ev er : Int} (h : report x ok now = (ev, er, y)) (he : er ≠ 0) : y = x := by
  unfold report at h
  split at h
  · injection h with _ h; injection h with _ h; exact h.symm
  · split at h <;> (injection h with _ h; injection h with h _; exact absurd h.symm he)
theorem report_fine {x : Bx} {ok : Bool} {now : Int} (h0 : 0 ≤ now) (h1 : now ≤ maxTime) (h2 : x.last ≤ now) : ∃ ev y, report x ok now = (ev, 0, y) := by
  have hc : check x now = 0 := by unfold check; rw [if_neg (by omega), if_neg (by omega)]
  unfold report
  rw [hc]
  simp only [ne_eq, not_true_eq_false, if_false]
  split
  · exact ⟨_, _, rfl⟩
  · exact ⟨_, _, rfl⟩

set_option maxHeartbeats 8000000 in
set_option maxRecDepth 100000 in
theorem keeps_walk (f o p : Int) (a : Option Addr) (cap : Nat) (xs : List St) (hl : xs.length ≤ 9223372036854775807) (s : St) (w : World) (hA : StepsAt w a xs) :
    Calls Try.prog 9 #[.agg #[.int .i64 f, .int .i64 o, .int .i64 p], .slice a xs.length cap, .agg #[.int .i64 s.what, .bool s.ok, .int .i64 s.at_]] w fun e w' => e = .returned (.bool true) ∧ Below w.heap.size w w' := by
  obtain ⟨W, hW⟩ : ∃ W : World, Hid (W = (w.alloc (.cells #[.int .i64 f, .int .i64 o, .int .i64 p] 23)).alloc (.cells #[.int .i64 s.what, .bool s.ok, .int .i64 s.at_] 48)) := ⟨_, Lib.hid rfl⟩
  have HA : Hid (StepsAt W a xs) := Lib.hid (by rw [hW.out]; exact (hA.alloc _).alloc _)
  have hsz : Hid (W.heap.size = w.heap.size + 2) := Lib.hid (by rw [hW.out]; simp)
  have hold : Hid (∀ w1 w2 : World, Below W.heap.size W w1 → Below w1.heap.size w1 w2 → Below w.heap.size w w2) := Lib.hid (by
    intro w1 w2 h1 h2
    have h0 : Below w.heap.size w W := by rw [hW.out]; exact ((Below.refl _ _).alloc (Nat.le_refl _) _).alloc (by simp) _
    exact h0.trans ((h1.mono h0.size).trans (h2.mono (Nat.le_trans h0.size h1.size))))
  have hstep : Hid (∀ w1 : World, Below W.heap.size W w1 → w1.cell? ⟨w.heap.size + 1, 0, none⟩ = some (.int .i64 s.what) ∧ w1.cell? ⟨w.heap.size + 1, 1, none⟩ = some (.bool s.ok) ∧ w1.cell? ⟨w.heap.size + 1, 2, none⟩ = some (.int .i64 s.at_)) := Lib.hid (by
    intro w1 h1
    have hb : w.heap.size + 1 < W.heap.size := by rw [hsz.out]; omega
    exact ⟨by rw [h1.cell (p := ⟨w.heap.size + 1, 0, none⟩) hb, hW.out]; simp, by rw [h1.cell (p := ⟨w.heap.size + 1, 1, none⟩) hb, hW.out]; simp, by rw [h1.cell (p := ⟨w.heap.size + 1, 2, none⟩) hb, hW.out]; simp⟩)
  clear hA
  by_cases hv : zero f o p = true ∨ ruled f o p = true
  · have HV := Lib.hid hv
    have hlb := latestF_bounds xs xs.length (Nat.le_refl _)
    rw [List.take_length] at hlb
    have HL : Hid (0 ≤ latestF xs ∧ latestF xs ≤ maxTime ∧ (plays (fresh f o p) xs).last ≤ latestF xs) := Lib.hid ⟨hlb.1, hlb.2, (plays_last (fresh f o p) xs rfl).2.2.2⟩
    obtain ⟨now, hnow⟩ : ∃ now, latestF xs = now := ⟨_, rfl⟩
    have HN := Lib.hid hnow
    rw [hnow] at HL
    clear hv hlb hnow
    go_enter Try.func9, Try.ntmps9
    go_wp2_with fail
    rw [← hW.out]
    have C := played_yes HV.out a cap xs hl W HA.out
    (with_reducible refine C.mono ?_)
    rintro e w1 ⟨b, rfl, hn, hb, hi, hbl⟩
    clear C
    have H : Hid (Has W.heap.size W w1 b (plays (fresh f o p) xs)) := Lib.hid ⟨hb, hi, hbl, hn, Nat.le_refl _⟩
    clear hn hb hi hbl
    generalize plays (fresh f o p) xs = x at *
    by_cases hlen : 40 < xs.length
    · go_wp2_with fail
      have C := works_ok
      (with_reducible refine (C _).mono ?_)
      rintro e w9 ⟨rfl, hb9⟩
      clear C
      have HB9 := Lib.hid (hb9)
      clear hb9
      go_wp2_with fail
      go_ret
      exact ⟨rfl, hold.out _ _ H.out.bel HB9.out⟩
    · go_wp2_with fail
      have C := has_copy H.out
      (with_reducible refine C.mono ?_)
      rintro e w2 ⟨c, rfl, hbc, h1, h2, -⟩
      clear C
      have H2 := Lib.hid h1
      have G2 := Lib.hid h2
      have HNE : Hid (b ≠ c) := Lib.hid (by omega)
      clear h1 h2 H hbc
      obtain ⟨hs0, hs1, hs2⟩ := hstep.out _ H2.out.bel
      by_cases h0 : s.what = 0
      · have hb0 : (s.what == 0) = true := by simp [h0]
        clear h0
        obtain ⟨er, y, hr⟩ : ∃ er y, take x s.at_ = (er, y) := ⟨_, _, rfl⟩
        have HR0 := Lib.hid hr
        have HF : Hid (er ≠ 0 → y = x) := Lib.hid (take_refused hr)
        clear hr
        go_wp2_with fail
        have C := has_take H2.out s.at_ HR0.out
        (with_reducible refine C.mono ?_)
        rintro e w3 ⟨rfl, h, hg⟩
        clear C
        have H3 := Lib.hid h
        have H4 := Lib.hid (G2.out.keep hg HNE.out.symm H2.out.le)
        clear h hg H2 G2 hs0 hs1 hs2
        obtain ⟨hs0, hs1, hs2⟩ := hstep.out _ H3.out.bel
        by_cases he : er = 0
        · have heb : (er == 0) = true := by simp [he]
          have HE := Lib.hid he
          clear he
          go_wp2_with fail
          have C := works_ok
          (with_reducible refine (C _).mono ?_)
          rintro e w9 ⟨rfl, hb9⟩
          clear C
          have HB9 := Lib.hid (hb9)
          clear hb9
          go_wp2_with fail
          go_ret
          exact ⟨rfl, hold.out _ _ H3.out.bel HB9.out⟩
        · have heb : (er == 0) = false := by simp [he]
          obtain rfl := HF.out he
          clear he HF HR0
          go_wp2_with fail
          have C := has_state H3.out s.at_ rfl
          (with_reducible refine C.mono ?_)
          rintro e w' ⟨rfl, rfl⟩
          clear C
          go_wp2_with fail
          have C := has_allows H3.out s.at_ rfl
          (with_reducible refine C.mono ?_)
          rintro e w5 ⟨rfl, h, hb⟩
          clear C
          have H5 := Lib.hid (h)
          have G5 := Lib.hid (H4.out.below hb)
          clear h hb H3 H4
          go_wp2_with fail
          have C := alike_ok H5.out.box G5.out.box
          (with_reducible refine C.mono ?_)
          rintro e w6 ⟨rfl, n, rfl⟩
          clear C
          have H6 := Lib.hid (H5.out.drewN n)
          have G6 := Lib.hid (G5.out.drewN n)
          clear H5 G5
          go_wp2_with fail
          have C := latest_ok a cap xs hl _ ((HA.out).below H6.out.bel (by simp))
          (with_reducible refine C.mono ?_)
          rintro e w' ⟨rfl, rfl⟩
          clear C
          obtain ⟨hs0, hs1, hs2⟩ := hstep.out _ H6.out.bel
          rw [HN.out]
          go_wp2_with fail
          obtain ⟨ev, y, hrep⟩ := report_fine (ok := s.ok) HL.out.1 HL.out.2.1 HL.out.2.2
          have HR := Lib.hid hrep
          clear hrep
          have C := has_report H6.out s.ok now HR.out
          (with_reducible refine C.mono ?_)
          rintro e w7 ⟨rfl, h, hg⟩
          clear C
          have H7 := Lib.hid h
          have G7 := Lib.hid (G6.out.keep hg HNE.out.symm H6.out.le)
          clear h hg H6 G6 hs0 hs1 hs2
          obtain ⟨hs0, hs1, hs2⟩ := hstep.out _ H7.out.bel
          go_wp2_with fail
          have C := has_report G7.out s.ok now HR.out
          (with_reducible refine C.mono ?_)
          rintro e w8 ⟨rfl, h, hg⟩
          clear C
          have G8 := Lib.hid (h)
          have H8 := Lib.hid (H7.out.keep hg HNE.out G7.out.le)
          clear h hg H7 G7
          go_wp2_with fail
          have C := alike_ok H8.out.box G8.out.box
          (with_reducible refine C.mono ?_)
          rintro e w9 ⟨rfl, n2, rfl⟩
          clear C
          have H9 := Lib.hid (H8.out.drewN n2)
          clear H8 G8
          go_wp2_with fail
          have C := works_ok
          (with_reducible refine (C _).mono ?_)
          rintro e w9 ⟨rfl, hb9⟩
          clear C
          have HB9 := Lib.hid (hb9)
          clear hb9
          go_wp2_with fail
          go_ret
          exact ⟨rfl, hold.out _ _ H9.out.bel HB9.out⟩
      · have hb0 : (s.what == 0) = false := by simp [h0]
        by_cases h1 : s.what = 1
        · have hb1 : (s.what == 1) = true := by simp [h1]
          obtain ⟨ev0, er, y, hr⟩ : ∃ ev0 er y, report x s.ok s.at_ = (ev0, er, y) := ⟨_, _, _, rfl⟩
          have HR0 := Lib.hid hr
          have HF : Hid (er ≠ 0 → y = x) := Lib.hid (report_refused hr)
          clear h0 h1 hr
          go_wp2_with fail
          have C := has_report H2.out s.ok s.at_ HR0.out
          (with_reducible refine C.mono ?_)
          rintro e w3 ⟨rfl, h, hg⟩
          clear C
          have H3 := Lib.hid h
          have H4 := Lib.hid (G2.out.keep hg HNE.out.symm H2.out.le)
          clear h hg H2 G2 hs0 hs1 hs2
          obtain ⟨hs0, hs1, hs2⟩ := hstep.out _ H3.out.bel
          by_cases he : er = 0
          · have heb : (er == 0) = true := by simp [he]
            have HE := Lib.hid he
            clear he
            go_wp2_with fail
            have C := works_ok
            (with_reducible refine (C _).mono ?_)
            rintro e w9 ⟨rfl, hb9⟩
            clear C
            have HB9 := Lib.hid (hb9)
            clear hb9
            go_wp2_with fail
            go_ret
            exact ⟨rfl, hold.out _ _ H3.out.bel HB9.out⟩
          · have heb : (er == 0) = false := by simp [he]
            obtain rfl := HF.out he
            clear he HF HR0
            go_wp2_with fail
            have C := has_state H3.out s.at_ rfl
            (with_reducible refine C.mono ?_)
            rintro e w' ⟨rfl, rfl⟩
            clear C
            go_wp2_with fail
            have C := has_allows H3.out s.at_ rfl
            (with_reducible refine C.mono ?_)
            rintro e w5 ⟨rfl, h, hb⟩
            clear C
            have H5 := Lib.hid (h)
            have G5 := Lib.hid (H4.out.below hb)
            clear h hb H3 H4
            go_wp2_with fail
            have C := alike_ok H5.out.box G5.out.box
            (with_reducible refine C.mono ?_)
            rintro e w6 ⟨rfl, n, rfl⟩
            clear C
            have H6 := Lib.hid (H5.out.drewN n)
            have G6 := Lib.hid (G5.out.drewN n)
            clear H5 G5
            go_wp2_with fail
            have C := latest_ok a cap xs hl _ ((HA.out).below H6.out.bel (by simp))
            (with_reducible refine C.mono ?_)
            rintro e w' ⟨rfl, rfl⟩
            clear C
            obtain ⟨hs0, hs1, hs2⟩ := hstep.out _ H6.out.bel
            rw [HN.out]
            go_wp2_with fail
            obtain ⟨ev, y, hrep⟩ := report_fine (ok := s.ok) HL.out.1 HL.out.2.1 HL.out.2.2
            have HR := Lib.hid hrep
            clear hrep
            have C := has_report H6.out s.ok now HR.out
            (with_reducible refine C.mono ?_)
            rintro e w7 ⟨rfl, h, hg⟩
            clear C
            have H7 := Lib.hid h
            have G7 := Lib.hid (G6.out.keep hg HNE.out.symm H6.out.le)
            clear h hg H6 G6 hs0 hs1 hs2
            obtain ⟨hs0, hs1, hs2⟩ := hstep.out _ H7.out.bel
            go_wp2_with fail
            have C := has_report G7.out s.ok now HR.out
            (with_reducible refine C.mono ?_)
            rintro e w8 ⟨rfl, h, hg⟩
            clear C
            have G8 := Lib.hid (h)
            have H8 := Lib.hid (H7.out.keep hg HNE.out G7.out.le)
            clear h hg H7 G7
            go_wp2_with fail
            have C := alike_ok H8.out.box G8.out.box
            (with_reducible refine C.mono ?_)
            rintro e w9 ⟨rfl, n2, rfl⟩
            clear C
            have H9 := Lib.hid (H8.out.drewN n2)
            clear H8 G8
            go_wp2_with fail
            have C := works_ok
            (with_reducible refine (C _).mono ?_)
            rintro e w9 ⟨rfl, hb9⟩
            clear C
            have HB9 := Lib.hid (hb9)
            clear hb9
            go_wp2_with fail
            go_ret
            exact ⟨rfl, hold.out _ _ H9.out.bel HB9.out⟩
        · have hb1 : (s.what == 1) = false := by simp [h1]
          by_cases h2 : s.what = 2
          · have hb2 : (s.what == 2) = true := by simp [h2]
            clear h0 h1 h2
            obtain ⟨er, y, hr⟩ : ∃ er y, trip x s.at_ = (er, y) := ⟨_, _, rfl⟩
            have HR0 := Lib.hid hr
            have HF : Hid (er ≠ 0 → y = x) := Lib.hid (trip_refused hr)
            clear hr
            go_wp2_with fail
            have C := has_trip H2.out s.at_ HR0.out
            (with_reducible refine C.mono ?_)
            rintro e w3 ⟨rfl, h, hg⟩
            clear C
            have H3 := Lib.hid h
            have H4 := Lib.hid (G2.out.keep hg HNE.out.symm H2.out.le)
            clear h hg H2 G2 hs0 hs1 hs2
            obtain ⟨hs0, hs1, hs2⟩ := hstep.out _ H3.out.bel
            by_cases he : er = 0
            · have heb : (er == 0) = true := by simp [he]
              have HE := Lib.hid he
              clear he
              go_wp2_with fail
              have C := works_ok
              (with_reducible refine (C _).mono ?_)
              rintro e w9 ⟨rfl, hb9⟩
              clear C
              have HB9 := Lib.hid (hb9)
              clear hb9
              go_wp2_with fail
              go_ret
              exact ⟨rfl, hold.out _ _ H3.out.bel HB9.out⟩
            · have heb : (er == 0) = false := by simp [he]
              obtain rfl := HF.out he
              clear he HF HR0
              go_wp2_with fail
              have C := has_state H3.out s.at_ rfl
              (with_reducible refine C.mono ?_)
              rintro e w' ⟨rfl, rfl⟩
              clear C
              go_wp2_with fail
              have C := has_allows H3.out s.at_ rfl
              (with_reducible refine C.mono ?_)
              rintro e w5 ⟨rfl, h, hb⟩
              clear C
              have H5 := Lib.hid (h)
              have G5 := Lib.hid (H4.out.below hb)
              clear h hb H3 H4
              go_wp2_with fail
              have C := alike_ok H5.out.box G5.out.box
              (with_reducible refine C.mono ?_)
              rintro e w6 ⟨rfl, n, rfl⟩
              clear C
              have H6 := Lib.hid (H5.out.drewN n)
              have G6 := Lib.hid (G5.out.drewN n)
              clear H5 G5
              go_wp2_with fail
              have C := latest_ok a cap xs hl _ ((HA.out).below H6.out.bel (by simp))
              (with_reducible refine C.mono ?_)
              rintro e w' ⟨rfl, rfl⟩
              clear C
              obtain ⟨hs0, hs1, hs2⟩ := hstep.out _ H6.out.bel
              rw [HN.out]
              go_wp2_with fail
              obtain ⟨ev, y, hrep⟩ := report_fine (ok := s.ok) HL.out.1 HL.out.2.1 HL.out.2.2
              have HR := Lib.hid hrep
              clear hrep
              have C := has_report H6.out s.ok now HR.out
              (with_reducible refine C.mono ?_)
              rintro e w7 ⟨rfl, h, hg⟩
              clear C
              have H7 := Lib.hid h
              have G7 := Lib.hid (G6.out.keep hg HNE.out.symm H6.out.le)
              clear h hg H6 G6 hs0 hs1 hs2
              obtain ⟨hs0, hs1, hs2⟩ := hstep.out _ H7.out.bel
              go_wp2_with fail
              have C := has_report G7.out s.ok now HR.out
              (with_reducible refine C.mono ?_)
              rintro e w8 ⟨rfl, h, hg⟩
              clear C
              have G8 := Lib.hid (h)
              have H8 := Lib.hid (H7.out.keep hg HNE.out G7.out.le)
              clear h hg H7 G7
              go_wp2_with fail
              have C := alike_ok H8.out.box G8.out.box
              (with_reducible refine C.mono ?_)
              rintro e w9 ⟨rfl, n2, rfl⟩
              clear C
              have H9 := Lib.hid (H8.out.drewN n2)
              clear H8 G8
              go_wp2_with fail
              have C := works_ok
              (with_reducible refine (C _).mono ?_)
              rintro e w9 ⟨rfl, hb9⟩
              clear C
              have HB9 := Lib.hid (hb9)
              clear hb9
              go_wp2_with fail
              go_ret
              exact ⟨rfl, hold.out _ _ H9.out.bel HB9.out⟩
          · have hb2 : (s.what == 2) = false := by simp [h2]
            by_cases h3 : s.what = 3
            · have hb3 : (s.what == 3) = true := by simp [h3]
              clear h0 h1 h2 h3
              obtain ⟨er, y, hr⟩ : ∃ er y, reset x s.at_ = (er, y) := ⟨_, _, rfl⟩
              have HR0 := Lib.hid hr
              have HF : Hid (er ≠ 0 → y = x) := Lib.hid (reset_refused hr)
              clear hr
              go_wp2_with fail
              have C := has_reset H2.out s.at_ HR0.out
              (with_reducible refine C.mono ?_)
              rintro e w3 ⟨rfl, h, hg⟩
              clear C
              have H3 := Lib.hid h
              have H4 := Lib.hid (G2.out.keep hg HNE.out.symm H2.out.le)
              clear h hg H2 G2 hs0 hs1 hs2
              obtain ⟨hs0, hs1, hs2⟩ := hstep.out _ H3.out.bel
              by_cases he : er = 0
              · have heb : (er == 0) = true := by simp [he]
                have HE := Lib.hid he
                clear he
                go_wp2_with fail
                have C := works_ok
                (with_reducible refine (C _).mono ?_)
                rintro e w9 ⟨rfl, hb9⟩
                clear C
                have HB9 := Lib.hid (hb9)
                clear hb9
                go_wp2_with fail
                go_ret
                exact ⟨rfl, hold.out _ _ H3.out.bel HB9.out⟩
              · have heb : (er == 0) = false := by simp [he]
                obtain rfl := HF.out he
                clear he HF HR0
                go_wp2_with fail
                have C := has_state H3.out s.at_ rfl
                (with_reducible refine C.mono ?_)
                rintro e w' ⟨rfl, rfl⟩
                clear C
                go_wp2_with fail
                have C := has_allows H3.out s.at_ rfl
                (with_reducible refine C.mono ?_)
                rintro e w5 ⟨rfl, h, hb⟩
                clear C
                have H5 := Lib.hid (h)
                have G5 := Lib.hid (H4.out.below hb)
                clear h hb H3 H4
                go_wp2_with fail
                have C := alike_ok H5.out.box G5.out.box
                (with_reducible refine C.mono ?_)
                rintro e w6 ⟨rfl, n, rfl⟩
                clear C
                have H6 := Lib.hid (H5.out.drewN n)
                have G6 := Lib.hid (G5.out.drewN n)
                clear H5 G5
                go_wp2_with fail
                have C := latest_ok a cap xs hl _ ((HA.out).below H6.out.bel (by simp))
                (with_reducible refine C.mono ?_)
                rintro e w' ⟨rfl, rfl⟩
                clear C
                obtain ⟨hs0, hs1, hs2⟩ := hstep.out _ H6.out.bel
                rw [HN.out]
                go_wp2_with fail
                obtain ⟨ev, y, hrep⟩ := report_fine (ok := s.ok) HL.out.1 HL.out.2.1 HL.out.2.2
                have HR := Lib.hid hrep
                clear hrep
                have C := has_report H6.out s.ok now HR.out
                (with_reducible refine C.mono ?_)
                rintro e w7 ⟨rfl, h, hg⟩
                clear C
                have H7 := Lib.hid h
                have G7 := Lib.hid (G6.out.keep hg HNE.out.symm H6.out.le)
                clear h hg H6 G6 hs0 hs1 hs2
                obtain ⟨hs0, hs1, hs2⟩ := hstep.out _ H7.out.bel
                go_wp2_with fail
                have C := has_report G7.out s.ok now HR.out
                (with_reducible refine C.mono ?_)
                rintro e w8 ⟨rfl, h, hg⟩
                clear C
                have G8 := Lib.hid (h)
                have H8 := Lib.hid (H7.out.keep hg HNE.out G7.out.le)
                clear h hg H7 G7
                go_wp2_with fail
                have C := alike_ok H8.out.box G8.out.box
                (with_reducible refine C.mono ?_)
                rintro e w9 ⟨rfl, n2, rfl⟩
                clear C
                have H9 := Lib.hid (H8.out.drewN n2)
                clear H8 G8
                go_wp2_with fail
                have C := works_ok
                (with_reducible refine (C _).mono ?_)
                rintro e w9 ⟨rfl, hb9⟩
                clear C
                have HB9 := Lib.hid (hb9)
                clear hb9
                go_wp2_with fail
                go_ret
                exact ⟨rfl, hold.out _ _ H9.out.bel HB9.out⟩
            · have hb3 : (s.what == 3) = false := by simp [h3]
              clear h0 h1 h2 h3
              go_wp2_with fail
              have C := works_ok
              (with_reducible refine (C _).mono ?_)
              rintro e w9 ⟨rfl, hb9⟩
              clear C
              have HB9 := Lib.hid (hb9)
              clear hb9
              go_wp2_with fail
              go_ret
              exact ⟨rfl, hold.out _ _ H2.out.bel HB9.out⟩
  · have HV := Lib.hid hv
    clear hv
    go_enter Try.func9, Try.ntmps9
    go_wp2_with fail
    rw [← hW.out]
    by_cases hlen : 40 < xs.length
    all_goals
      have C := (fun W => played_no HV.out (.slice a xs.length cap) W)
      (with_reducible refine (C _).mono ?_)
      rintro e w1 ⟨rfl, h⟩
      clear C
      have H := Lib.hid (h)
      clear h
      go_wp2_with fail
      have C := works_ok
      (with_reducible refine (C _).mono ?_)
      rintro e w9 ⟨rfl, hb9⟩
      clear C
      have HB9 := Lib.hid (hb9)
      clear hb9
      go_wp2_with fail
      go_ret
      exact ⟨rfl, hold.out _ _ H.out HB9.out⟩
end Go.Proofs.Ytfeblkoconjakaa.BK
