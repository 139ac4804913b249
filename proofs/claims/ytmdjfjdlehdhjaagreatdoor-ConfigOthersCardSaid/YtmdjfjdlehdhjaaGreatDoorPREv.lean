/- Contracts of the reference's schedules with a period. Contracts of the reference's Is, Next and Count of schedules with a period: they answer as the layer every does. Contract of the reference's Count of schedules with a period. -/
import Derived.Test.YtmdjfjdlehdhjaaGreatDoorPEv
namespace Go.Proofs.YtmdjfjdlehdhjaaGreatDoor.BW
open Go.RowKit BM Go.Shelf MC
open BK hiding ret_bool ret_i64

set_option maxHeartbeats 2000000 in
theorem recheck_ok (e : Ev) (w : World) : Calls Tryz.prog 91 #[.agg (evV e)] w fun r w' => r = .returned (.int .i64 e.err) ∧ Below w.heap.size w w' := by
  obtain ⟨s, p, c⟩ := e
  have hE : Ev.err ⟨s, p, c⟩ = if 0 ≤ s ∧ s ≤ 253402300799 ∧ 1 ≤ p ∧ p ≤ 68719476736 ∧ 0 ≤ c ∧ c ≤ 1000000 then 0 else 16 := by unfold Ev.err Ev.ok; simp
  have HE := Lib.hid hE
  generalize Ev.err ⟨s, p, c⟩ = r at *
  have HB := Lib.hid (show Below w.heap.size w (w.alloc (.cells (evV ⟨s, p, c⟩) 26)) from (Below.refl _ w).alloc (Nat.le_refl _) _)
  unfold evV at *
  clear hE
  by_cases h1 : s < 0
  · have HR : Hid (r = 16) := Lib.hid (by rw [HE.out, if_neg (by omega)])
    have d1 : decide (s < 0) = true := decide_eq_true h1
    clear h1
    go_enter Tryz.func91, Tryz.ntmps91
    go_wp2_with fail
    go_ret
    exact ⟨ret_i64 HR.out.symm, HB.out⟩
  · have d1 : decide (s < 0) = false := decide_eq_false h1
    by_cases h2 : 253402300799 < s
    · have HR : Hid (r = 16) := Lib.hid (by rw [HE.out, if_neg (by omega)])
      have d2 : decide (253402300799 < s) = true := decide_eq_true h2
      clear h1 h2
      go_enter Tryz.func91, Tryz.ntmps91
      go_wp2_with fail
      go_ret
      exact ⟨ret_i64 HR.out.symm, HB.out⟩
    · have d2 : decide (253402300799 < s) = false := decide_eq_false h2
      by_cases h3 : p < 1
      · have HR : Hid (r = 16) := Lib.hid (by rw [HE.out, if_neg (by omega)])
        have d3 : decide (p < 1) = true := decide_eq_true h3
        clear h1 h2 h3
        go_enter Tryz.func91, Tryz.ntmps91
        go_wp2_with fail
        go_ret
        exact ⟨ret_i64 HR.out.symm, HB.out⟩
      · have d3 : decide (p < 1) = false := decide_eq_false h3
        by_cases h4 : 68719476736 < p
        · have HR : Hid (r = 16) := Lib.hid (by rw [HE.out, if_neg (by omega)])
          have d4 : decide (68719476736 < p) = true := decide_eq_true h4
          clear h1 h2 h3 h4
          go_enter Tryz.func91, Tryz.ntmps91
          go_wp2_with fail
          go_ret
          exact ⟨ret_i64 HR.out.symm, HB.out⟩
        · have d4 : decide (68719476736 < p) = false := decide_eq_false h4
          by_cases h5 : c < 0
          · have HR : Hid (r = 16) := Lib.hid (by rw [HE.out, if_neg (by omega)])
            have d5 : decide (c < 0) = true := decide_eq_true h5
            clear h1 h2 h3 h4 h5
            go_enter Tryz.func91, Tryz.ntmps91
            go_wp2_with fail
            go_ret
            exact ⟨ret_i64 HR.out.symm, HB.out⟩
          · have d5 : decide (c < 0) = false := decide_eq_false h5
            by_cases h6 : 1000000 < c
            · have HR : Hid (r = 16) := Lib.hid (by rw [HE.out, if_neg (by omega)])
              have d6 : decide (1000000 < c) = true := decide_eq_true h6
              clear h1 h2 h3 h4 h5 h6
              go_enter Tryz.func91, Tryz.ntmps91
              go_wp2_with fail
              go_ret
              exact ⟨ret_i64 HR.out.symm, HB.out⟩
            · have HR : Hid (r = 0) := Lib.hid (by rw [HE.out, if_pos (by omega)])
              have d6 : decide (1000000 < c) = false := decide_eq_false h6
              clear h1 h2 h3 h4 h5 h6
              go_enter Tryz.func91, Tryz.ntmps91
              go_wp2_with fail
              go_ret
              exact ⟨ret_i64 HR.out.symm, HB.out⟩
/-- The box of a schedule, beside calls. -/
structure EvB (w : World) (e : Ev) (W : World) : Prop where
  below : Below w.heap.size w W
  blk : Blk W w.heap.size 26 (evV e)
theorem EvB.first (w : World) (e : Ev) : EvB w e (w.alloc (.cells (evV e) 26)) := ⟨(Below.refl _ w).alloc (Nat.le_refl _) _, Blk.new _ _ _⟩
theorem EvB.next {w : World} {e : Ev} {W W' : World} (h : EvB w e W) (hb : Below W.heap.size W W') : EvB w e W' := ⟨h.below.trans (hb.mono h.below.size), h.blk.below hb h.blk.lt⟩
theorem EvB.cells {w : World} {e : Ev} {W : World} (h : EvB w e W) : W.cell? ⟨w.heap.size, 0, none⟩ = some (.int .i64 e.s) ∧ W.cell? ⟨w.heap.size, 1, none⟩ = some (.int .i64 e.p) ∧ W.cell? ⟨w.heap.size, 2, none⟩ = some (.int .i64 e.c) := ⟨h.blk.cell 0, h.blk.cell 1, h.blk.cell 2⟩
set_option maxHeartbeats 2000000 in
theorem renum_ok (e : Ev) (he : e.Ok) (w : World) : Calls Tryz.prog 127 #[.agg (evV e)] w fun r w' => r = .returned (.int .i64 e.size) ∧ Below w.heap.size w w' := by
  have HB := Lib.hid (EvB.first w e)
  have hs0 := he.s0
  have hs1 := he.s1
  have hp0 := he.p0
  have hc0 := he.c0
  have hc1 := he.c1
  have hq := he.quot
  have hq2 : (253402300799 - e.s).tdiv e.p = (253402300799 - e.s) / e.p := Int.tdiv_eq_ediv_of_nonneg (by omega)
  have hp0' : (e.p == 0) = false := by rw [beq_eq_false_iff_ne]; omega
  have HS : Hid (e.size = if 0 < e.c then min (1 + (253402300799 - e.s) / e.p) e.c else 1 + (253402300799 - e.s) / e.p) := Lib.hid rfl
  generalize e.size = R at *
  obtain ⟨q, hqq⟩ : ∃ q, (253402300799 - e.s) / e.p = q := ⟨_, rfl⟩
  rw [hqq] at hq hq2 HS
  clear he
  unfold evV at *
  by_cases hc : 0 < e.c
  · have d1 : decide (0 < e.c) = true := decide_eq_true hc
    by_cases hl : e.c < q + 1
    · have d2 : decide (e.c < q + 1) = true := decide_eq_true hl
      have HR : Hid (R = e.c) := Lib.hid (by rw [HS.out, if_pos hc]; omega)
      clear hc hl
      go_enter Tryz.func127, Tryz.ntmps127
      go_wp2_with fail
      go_ret
      exact ⟨ret_i64 HR.out.symm, HB.out.below⟩
    · have d2 : decide (e.c < q + 1) = false := decide_eq_false hl
      have HR : Hid (R = q + 1) := Lib.hid (by rw [HS.out, if_pos hc]; omega)
      clear hc hl
      go_enter Tryz.func127, Tryz.ntmps127
      go_wp2_with fail
      go_ret
      exact ⟨ret_i64 HR.out.symm, HB.out.below⟩
  · have d1 : decide (0 < e.c) = false := decide_eq_false hc
    have HR : Hid (R = q + 1) := Lib.hid (by rw [HS.out, if_neg hc]; omega)
    clear hc
    go_enter Tryz.func127, Tryz.ntmps127
    go_wp2_with fail
    go_ret
    exact ⟨ret_i64 HR.out.symm, HB.out.below⟩
set_option maxHeartbeats 2000000 in
theorem refirst_ok (e : Ev) (t : Int) (w : World) : Calls Tryz.prog 126 #[.agg (evV e), .int .i64 t] w fun r w' => r = .returned (.int .i64 (e.ofE [t])) ∧ Below w.heap.size w w' := by
  have HB := Lib.hid (EvB.first w e)
  have CK := Lib.hid (recheck_ok e (w.alloc (.cells (evV e) 26)))
  have HE : Hid (e.ofE [t] = if e.err = 0 then (if 0 ≤ t ∧ t ≤ 253402300799 then 0 else 14) else 16) := Lib.hid (by
    unfold Ev.ofE Ev.err timesR tOk
    cases e.ok <;> simp)
  have hcases : e.err = 0 ∨ e.err = 16 := by unfold Ev.err; split <;> simp
  generalize e.ofE [t] = E at *
  generalize e.err = er at *
  unfold evV at *
  go_enter Tryz.func126, Tryz.ntmps126
  go_wp2_with fail
  refine (CK.out).mono ?_
  rintro e_ w2 ⟨rfl, hb⟩
  have HB2 := Lib.hid (HB.out.next hb)
  rcases hcases with rfl | rfl
  · by_cases h0 : t < 0
    · have d1 : decide (t < 0) = true := decide_eq_true h0
      have HR : Hid (E = 14) := Lib.hid (by rw [HE.out, if_pos rfl, if_neg (by omega)])
      clear h0
      go_wp2_with fail
      go_ret
      exact ⟨ret_i64 HR.out.symm, HB2.out.below⟩
    · have d1 : decide (t < 0) = false := decide_eq_false h0
      by_cases h1 : 253402300799 < t
      · have d2 : decide (253402300799 < t) = true := decide_eq_true h1
        have HR : Hid (E = 14) := Lib.hid (by rw [HE.out, if_pos rfl, if_neg (by omega)])
        clear h0 h1
        go_wp2_with fail
        go_ret
        exact ⟨ret_i64 HR.out.symm, HB2.out.below⟩
      · have d2 : decide (253402300799 < t) = false := decide_eq_false h1
        have HR : Hid (E = 0) := Lib.hid (by rw [HE.out, if_pos rfl, if_pos (by omega)])
        clear h0 h1
        go_wp2_with fail
        go_ret
        exact ⟨ret_i64 HR.out.symm, HB2.out.below⟩
  · have HR : Hid (E = 16) := Lib.hid (by rw [HE.out]; rfl)
    go_wp2_with fail
    go_ret
    exact ⟨ret_i64 HR.out.symm, HB2.out.below⟩
set_option maxHeartbeats 2000000 in
theorem reupto_ok (e : Ev) (he : e.Ok) (t : Int) (ht : -1 ≤ t ∧ t ≤ 253402300799) (w : World) : Calls Tryz.prog 160 #[.agg (evV e), .int .i64 t] w fun r w' => r = .returned (.int .i64 (e.before (t + 1))) ∧ Below w.heap.size w w' := by
  have HB := Lib.hid (EvB.first w e)
  have hs0 := he.s0
  have hs1 := he.s1
  have hp0 := he.p0
  have C := Lib.hid (fun w => renum_ok e he w)
  have hp0' : (e.p == 0) = false := by rw [beq_eq_false_iff_ne]; omega
  have HS : Hid (e.before (t + 1) = if t + 1 ≤ e.s then 0 else min e.size ((t + 1 - e.s - 1) / e.p + 1)) := Lib.hid rfl
  have hz := he.size
  have hzq := he.quot
  generalize e.before (t + 1) = R at *
  generalize e.size = z at *
  clear he
  by_cases h0 : t < e.s
  · have d1 : decide (t < e.s) = true := decide_eq_true h0
    have HR : Hid (R = 0) := Lib.hid (by rw [HS.out, if_pos (by omega)])
    unfold evV at *
    clear h0 C
    go_enter Tryz.func160, Tryz.ntmps160
    go_wp2_with fail
    go_ret
    exact ⟨ret_i64 HR.out.symm, HB.out.below⟩
  · have d1 : decide (t < e.s) = false := decide_eq_false h0
    have hq : 0 ≤ (t - e.s) / e.p ∧ (t - e.s) / e.p ≤ t - e.s := ⟨Int.ediv_nonneg (by omega) (by omega), Int.ediv_le_self _ (by omega)⟩
    have hq2 : (t - e.s).tdiv e.p = (t - e.s) / e.p := Int.tdiv_eq_ediv_of_nonneg (by omega)
    rw [if_neg (by omega), show t + 1 - e.s - 1 = t - e.s from by omega] at HS
    obtain ⟨q, hqq⟩ : ∃ q, (t - e.s) / e.p = q := ⟨_, rfl⟩
    rw [hqq] at hq hq2 HS
    unfold evV at *
    by_cases hl : z < q + 1
    · have d2 : decide (z < q + 1) = true := decide_eq_true hl
      have HR : Hid (R = z) := Lib.hid (by rw [HS.out]; omega)
      clear h0 hl hz hzq
      go_enter Tryz.func160, Tryz.ntmps160
      go_wp2_with fail
      refine (C.out _).mono ?_
      rintro e_ w2 ⟨rfl, hb⟩
      have HB2 := Lib.hid (HB.out.next hb)
      obtain ⟨c0, c1, c2⟩ := HB2.out.cells
      clear hb
      go_wp2_with fail
      refine (C.out _).mono ?_
      rintro e_ w3 ⟨rfl, hb⟩
      have HB3 := Lib.hid (HB2.out.next hb)
      clear hb
      go_wp2_with fail
      go_ret
      exact ⟨ret_i64 HR.out.symm, HB3.out.below⟩
    · have d2 : decide (z < q + 1) = false := decide_eq_false hl
      have HR : Hid (R = q + 1) := Lib.hid (by rw [HS.out]; omega)
      clear h0 hl hz hzq
      go_enter Tryz.func160, Tryz.ntmps160
      go_wp2_with fail
      refine (C.out _).mono ?_
      rintro e_ w2 ⟨rfl, hb⟩
      have HB2 := Lib.hid (HB.out.next hb)
      clear hb
      go_wp2_with fail
      go_ret
      exact ⟨ret_i64 HR.out.symm, HB2.out.below⟩
end Go.Proofs.YtmdjfjdlehdhjaaGreatDoor.BW
namespace Go.Proofs.YtmdjfjdlehdhjaaGreatDoor.BW
open Go.RowKit BM Go.Shelf MC
open BK hiding ret_bool ret_i64

theorem Ev.Ok.before_mono {e : Ev} (h : e.Ok) {a b : Int} (hab : a ≤ b) : e.before a ≤ e.before b := by
  have hs := h.size.1
  have hp := h.p0
  unfold Ev.before
  by_cases h1 : a ≤ e.s
  · rw [if_pos h1]
    exact (h.before_range b).1
  · rw [if_neg h1, if_neg (by omega)]
    have : (a - e.s - 1) / e.p ≤ (b - e.s - 1) / e.p := Int.ediv_le_ediv (by omega) (by omega)
    omega
set_option maxHeartbeats 2000000 in
theorem reis_ok (e : Ev) (t : Int) (w : World) : Calls Tryz.prog 80 #[.agg (evV e), .int .i64 t] w fun r w' => r = .returned (.tuple #[.bool (e.isV t), .int .i64 (e.ofE [t])]) ∧ Below w.heap.size w w' := by
  have HB := Lib.hid (EvB.first w e)
  have CF := Lib.hid (refirst_ok e t (w.alloc (.cells (evV e) 26)))
  have HI : Hid (e.isV t = (decide (e.ofE [t] = 0) && e.has t)) := Lib.hid rfl
  by_cases hE : e.ofE [t] = 0
  · obtain ⟨he, ht⟩ := Ev.ofE_ok hE
    have ht := ht t (by simp)
    have hs0 := he.s0
    have hs1 := he.s1
    have hp0 := he.p0
    have C2 := Lib.hid (fun w2 d os => Calls.regrown_of (renum_ok e he (Sort.grow (redrawn w2 d) os)))
    have HH : Hid (e.has t = (decide (e.s ≤ t) && decide ((t - e.s) % e.p = 0) && decide ((t - e.s) / e.p < e.size))) := Lib.hid rfl
    rw [hE] at CF HI ⊢
    have HI : Hid (e.isV t = e.has t) := Lib.hid (by rw [HI.out]; simp)
    generalize e.isV t = R at *
    generalize e.has t = H at *
    have hp0' : (e.p == 0) = false := by rw [beq_eq_false_iff_ne]; omega
    have hp0'' : ¬ e.p = 0 := by omega
    generalize e.size = z at *
    clear hE he
    have hw : IntKind.i64.wrap (t - e.s) = t - e.s := IntWalk.i64_in _ (by omega)
    unfold evV at *
    go_enter Tryz.func80, Tryz.ntmps80
    go_wp2_with fail
    refine (CF.out).mono ?_
    rintro e_ w2 ⟨rfl, hb⟩
    have HB2 := Lib.hid (HB.out.next hb)
    have k0 := cell_regrown (show w2.cell? ⟨w.heap.size, 0, none⟩ = some (.int .i64 e.s) from HB2.out.blk.cell 0)
    have k1 := cell_regrown (show w2.cell? ⟨w.heap.size, 1, none⟩ = some (.int .i64 e.p) from HB2.out.blk.cell 1)
    have k2 := cell_regrown (show w2.cell? ⟨w.heap.size, 2, none⟩ = some (.int .i64 e.c) from HB2.out.blk.cell 2)
    clear hb CF
    by_cases h1 : e.s ≤ t
    · have d1 : decide (e.s ≤ t) = true := decide_eq_true h1
      have hq2 : (t - e.s).tdiv e.p = (t - e.s) / e.p := Int.tdiv_eq_ediv_of_nonneg (by omega)
      have hm2 : (t - e.s).tmod e.p = (t - e.s) % e.p := Int.tmod_eq_emod_of_nonneg (by omega)
      have hq : 0 ≤ (t - e.s) / e.p ∧ (t - e.s) / e.p ≤ t - e.s := ⟨Int.ediv_nonneg (by omega) (by omega), Int.ediv_le_self _ (by omega)⟩
      have hm : 0 ≤ (t - e.s) % e.p ∧ (t - e.s) % e.p < e.p := ⟨Int.emod_nonneg _ (by omega), Int.emod_lt_of_pos _ (by omega)⟩
      obtain ⟨q, hqq⟩ : ∃ q, (t - e.s) / e.p = q := ⟨_, rfl⟩
      obtain ⟨m, hmm⟩ : ∃ m, (t - e.s) % e.p = m := ⟨_, rfl⟩
      rw [hqq] at hq hq2 HH
      rw [hmm] at hm hm2 HH
      by_cases h2 : m = 0
      · subst h2
        obtain ⟨d, hd⟩ : ∃ d, decide (q < z) = d := ⟨_, rfl⟩
        have HR : Hid (R = d) := Lib.hid (by rw [HI.out, HH.out, decide_eq_true h1, hd]; simp)
        clear h1 HI HH
        go_wp2_with fail
        refine wp_region_quiet_below (by kernel_rfl) (by kernel_rfl) ?_
        repeat (go_big_quiet_step (fail))
        go_big_quiet_step ((go_at_call 127; exact C2.out _ _ _))
        repeat (go_big_quiet_step (fail))
        refine wpQuiet_nil ?_
        intro _ hw'
        obtain ⟨⟨dq, osq⟩, hw''⟩ := hw'
        subst hw''
        go_wp2_with fail
        go_ret2
        exact ⟨ret_beX HR.out.symm rfl, HB2.out.below.trans ((below_regrown w2 dq osq).mono HB2.out.below.size)⟩
      · have d2 : (m == 0) = false := by rw [beq_eq_false_iff_ne]; exact h2
        have HR : Hid (R = false) := Lib.hid (by rw [HI.out, HH.out, decide_eq_false h2]; simp)
        clear h1 h2 HI HH C2
        go_wp2_with fail
        refine wp_region_quiet_below (by kernel_rfl) (by kernel_rfl) ?_
        repeat (go_big_quiet_step (fail))
        refine wpQuiet_nil ?_
        intro _ hw'
        obtain ⟨⟨dq, osq⟩, hw''⟩ := hw'
        subst hw''
        go_wp2_with fail
        go_ret2
        exact ⟨ret_beX HR.out.symm rfl, HB2.out.below.trans ((below_regrown w2 dq osq).mono HB2.out.below.size)⟩
    · have d1 : decide (e.s ≤ t) = false := decide_eq_false h1
      have HR : Hid (R = false) := Lib.hid (by rw [HI.out, HH.out, decide_eq_false h1]; simp)
      clear h1 HI HH C2
      go_wp2_with fail
      refine wp_region_quiet_below (by kernel_rfl) (by kernel_rfl) ?_
      repeat (go_big_quiet_step (fail))
      refine wpQuiet_nil ?_
      intro _ hw'
      obtain ⟨⟨dq, osq⟩, hw''⟩ := hw'
      subst hw''
      go_wp2_with fail
      go_ret2
      exact ⟨ret_beX HR.out.symm rfl, HB2.out.below.trans ((below_regrown w2 dq osq).mono HB2.out.below.size)⟩
  · have HR : Hid (e.isV t = false) := Lib.hid (by rw [HI.out, decide_eq_false hE]; rfl)
    have hne : (e.ofE [t] == 0) = false := by rw [beq_eq_false_iff_ne]; exact hE
    have hne' : (e.ofE [t] != 0) = true := by rw [bne, hne]; rfl
    generalize e.isV t = R at *
    generalize e.ofE [t] = E at *
    clear hE HI
    unfold evV at *
    go_enter Tryz.func80, Tryz.ntmps80
    go_wp2_with fail
    refine (CF.out).mono ?_
    rintro e_ w2 ⟨rfl, hb⟩
    have HB2 := Lib.hid (HB.out.next hb)
    go_wp2_with fail
    go_ret2
    exact ⟨ret_beX HR.out.symm rfl, HB2.out.below⟩
set_option maxHeartbeats 2000000 in
theorem renext_ok (e : Ev) (t : Int) (w : World) : Calls Tryz.prog 129 #[.agg (evV e), .int .i64 t] w fun r w' => r = .returned (.tuple #[.int .i64 ((e.nxV t).getD 0), .bool (e.nxV t).isSome, .int .i64 (e.ofE [t])]) ∧ Below w.heap.size w w' := by
  have HB := Lib.hid (EvB.first w e)
  have CF := Lib.hid (refirst_ok e t (w.alloc (.cells (evV e) 26)))
  by_cases hE : e.ofE [t] = 0
  · obtain ⟨he, ht⟩ := Ev.ofE_ok hE
    have ht := ht t (by simp)
    have hs0 := he.s0
    have hs1 := he.s1
    have hp0 := he.p0
    have hp1 := he.p1
    have C1 := Lib.hid (fun w => reupto_ok e he t ⟨by omega, ht.2⟩ w)
    have C2 := Lib.hid (fun w => renum_ok e he w)
    have hr := he.before_range (t + 1)
    have HI : Hid (e.nxV t = e.at_ (e.before (t + 1))) := Lib.hid (if_pos hE)
    have HA : Hid (e.at_ (e.before (t + 1)) = if 0 ≤ e.before (t + 1) ∧ e.before (t + 1) < e.size then some (e.s + e.before (t + 1) * e.p) else none) := Lib.hid rfl
    have HN := Lib.hid (fun h0 h1 => he.nth (n := e.before (t + 1)) h0 h1)
    rw [hE] at CF ⊢
    generalize e.nxV t = R at *
    generalize e.at_ (e.before (t + 1)) = o at *
    generalize e.before (t + 1) = n at *
    generalize e.size = z at *
    clear hE he
    unfold evV at *
    by_cases hz : n = z
    · subst hz
      have HR : Hid (R = none) := Lib.hid (by rw [HI.out, HA.out, if_neg (by omega)])
      clear HI HA HN
      go_enter Tryz.func129, Tryz.ntmps129
      go_wp2_with fail
      refine (CF.out).mono ?_
      rintro e_ w2 ⟨rfl, hb⟩
      have HB2 := Lib.hid (HB.out.next hb)
      obtain ⟨c0, c1, c2⟩ := HB2.out.cells
      clear hb
      go_wp2_with fail
      refine (C1.out _).mono ?_
      rintro e_ w3 ⟨rfl, hb⟩
      have HB3 := Lib.hid (HB2.out.next hb)
      clear c0 c1 c2 hb
      obtain ⟨c0, c1, c2⟩ := HB3.out.cells
      go_wp2_with fail
      refine (C2.out _).mono ?_
      rintro e_ w4 ⟨rfl, hb⟩
      have HB4 := Lib.hid (HB3.out.next hb)
      clear hb
      go_wp2_with fail
      go_ret3
      exact ⟨ret_ibeX (by rw [HR.out]; rfl) (by rw [HR.out]; rfl) rfl, HB4.out.below⟩
    · have hzb : (n == z) = false := by rw [beq_eq_false_iff_ne]; exact hz
      have HR : Hid (R = some (e.s + n * e.p)) := Lib.hid (by rw [HI.out, HA.out, if_pos (by omega)])
      obtain ⟨n1, n2⟩ := HN.out hr.1 (by omega)
      clear HI HA HN hz
      go_enter Tryz.func129, Tryz.ntmps129
      go_wp2_with fail
      refine (CF.out).mono ?_
      rintro e_ w2 ⟨rfl, hb⟩
      have HB2 := Lib.hid (HB.out.next hb)
      obtain ⟨c0, c1, c2⟩ := HB2.out.cells
      clear hb
      go_wp2_with fail
      refine (C1.out _).mono ?_
      rintro e_ w3 ⟨rfl, hb⟩
      have HB3 := Lib.hid (HB2.out.next hb)
      clear c0 c1 c2 hb
      obtain ⟨c0, c1, c2⟩ := HB3.out.cells
      go_wp2_with fail
      refine (C2.out _).mono ?_
      rintro e_ w4 ⟨rfl, hb⟩
      have HB4 := Lib.hid (HB3.out.next hb)
      clear c0 c1 c2 hb
      obtain ⟨c0, c1, c2⟩ := HB4.out.cells
      go_wp2_with fail
      go_ret3
      exact ⟨ret_ibeX (by rw [HR.out]; rfl) (by rw [HR.out]; rfl) rfl, HB4.out.below⟩
  · have HR : Hid (e.nxV t = none) := Lib.hid (if_neg hE)
    have hne : (e.ofE [t] == 0) = false := by rw [beq_eq_false_iff_ne]; exact hE
    have hne' : (e.ofE [t] != 0) = true := by rw [bne, hne]; rfl
    generalize e.nxV t = R at *
    generalize e.ofE [t] = E at *
    clear hE
    unfold evV at *
    go_enter Tryz.func129, Tryz.ntmps129
    go_wp2_with fail
    refine (CF.out).mono ?_
    rintro e_ w2 ⟨rfl, hb⟩
    have HB2 := Lib.hid (HB.out.next hb)
    go_wp2_with fail
    go_ret3
    exact ⟨ret_ibeX (by rw [HR.out]; rfl) (by rw [HR.out]; rfl) rfl, HB2.out.below⟩
end Go.Proofs.YtmdjfjdlehdhjaaGreatDoor.BW
namespace Go.Proofs.YtmdjfjdlehdhjaaGreatDoor.BW
open Go.RowKit BM Go.Shelf MC
open BK hiding ret_bool ret_i64

end Go.Proofs.YtmdjfjdlehdhjaaGreatDoor.BW
