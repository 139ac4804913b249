/- Plain facts: the runs of a range. -/
import Derived.Test.YtcgnnmpgdnajnaaDoorBitsPartsM
namespace Go.Proofs.YtcgnnmpgdnajnaaDoor.BW
open Go.RowKit BM

section
variable {lo hi st : Nat} (hle : lo ≤ hi) (h64 : hi < 64) (hst : 1 ≤ st)
include hle h64 hst

omit hst in
theorem rng_bit (i : Nat) : (rangeS lo hi st).testBit i = true ↔ ∃ j, j ≤ (hi - lo) / st ∧ i = lo + j * st := by
  rw [rangeS_bit]
  simp only [Bool.and_eq_true, decide_eq_true_eq]
  constructor
  · rintro ⟨_, ⟨h1, h2⟩, h3⟩
    refine ⟨(i - lo) / st, Nat.div_le_div_right (by omega), ?_⟩
    have := Nat.div_mul_cancel (Nat.dvd_of_mod_eq_zero h3)
    omega
  · rintro ⟨j, hj, rfl⟩
    have h1 : j * st ≤ hi - lo := Nat.le_trans (Nat.mul_le_mul_right st hj) (Nat.div_mul_le_self _ _)
    exact ⟨by omega, ⟨by omega, by omega⟩, by rw [Nat.add_sub_cancel_left]; exact Nat.mul_mod_left j st⟩
omit hst in
theorem rng_lo : (rangeS lo hi st).testBit lo = true := (rng_bit hle h64 lo).2 ⟨0, Nat.zero_le _, by simp⟩
omit hst in
theorem rng_ne : rangeS lo hi st ≠ 0 := by
  intro h; have := rng_lo (st := st) hle h64; rw [h] at this; simp at this
omit hst in
theorem rng_ctz : Lib.ctz 64 (rangeS lo hi st) = lo := by
  obtain ⟨c1, c2, c3⟩ := ctz_spec (rangeS lo hi st) (rng_ne hle h64) (mk_lt _)
  generalize Lib.ctz 64 (rangeS lo hi st) = c at *
  obtain ⟨j, _, hj⟩ := (rng_bit hle h64 c).1 c2
  apply Nat.le_antisymm
  · apply Nat.le_of_not_lt; intro hlt
    have := c3 lo hlt
    rw [rng_lo hle h64] at this; cases this
  · omega
theorem cut_rng (i : Nat) : (cut (rangeS lo hi st) lo).testBit i = true ↔ ∃ j, 1 ≤ j ∧ j ≤ (hi - lo) / st ∧ i = lo + j * st := by
  rw [cut_bit, Bool.and_eq_true, rng_bit hle h64]
  constructor
  · rintro ⟨⟨j, hj, rfl⟩, h2⟩
    refine ⟨j, ?_, hj, rfl⟩
    apply Nat.pos_of_ne_zero; rintro rfl; simp at h2
  · rintro ⟨j, h1, hj, rfl⟩
    refine ⟨⟨j, hj, rfl⟩, ?_⟩
    have : 1 * st ≤ j * st := Nat.mul_le_mul_right st h1
    simp; omega
omit h64 hst in
theorem rng_lt {j : Nat} (hj : j ≤ (hi - lo) / st) : lo + j * st ≤ hi := by
  have h1 : j * st ≤ hi - lo := Nat.le_trans (Nat.mul_le_mul_right st hj) (Nat.div_mul_le_self _ _)
  omega
theorem nx_rng {j : Nat} (hj : j + 1 ≤ (hi - lo) / st) {m : Nat} (h1 : lo + j * st < m) (h2 : m ≤ lo + (j + 1) * st) : nx (cut (rangeS lo hi st) lo) m = some (lo + (j + 1) * st) := by
  refine nx_some.2 ⟨Nat.lt_of_le_of_lt (rng_lt hle hj) h64, by omega, (cut_rng hle h64 hst _).2 ⟨j + 1, by omega, hj, rfl⟩, fun i hi1 hi2 => ?_⟩
  rw [Bool.eq_false_iff]
  intro hb
  obtain ⟨a, _, _, rfl⟩ := (cut_rng hle h64 hst _).1 hb
  have h3 : j < a := by
    apply Nat.lt_of_not_le; intro hle2
    have := Nat.mul_le_mul_right st hle2; omega
  have := Nat.mul_le_mul_right st (show j + 1 ≤ a from h3)
  omega
theorem nx_rng_end {m : Nat} (h1 : lo + ((hi - lo) / st) * st < m) : nx (cut (rangeS lo hi st) lo) m = none := by
  refine nx_none.2 fun i hi1 hi2 => ?_
  rw [Bool.eq_false_iff]
  intro hb
  obtain ⟨a, _, h3, rfl⟩ := (cut_rng hle h64 hst _).1 hb
  have := Nat.mul_le_mul_right st h3
  omega
theorem far_rng : ∀ (n j : Nat), j + n = (hi - lo) / st → far (cut (rangeS lo hi st) lo) st (lo + j * st) = lo + ((hi - lo) / st) * st
  | 0, j, h => by
    rw [Nat.add_zero] at h
    rw [h, far_stop]
    have := nx_rng_end hle h64 hst (m := lo + ((hi - lo) / st) * st + 1) (by omega)
    rw [show ((lo + ((hi - lo) / st) * st : Nat) : Int) + 1 = ((lo + ((hi - lo) / st) * st + 1 : Nat) : Int) from by simp, this]
    simp
  | n + 1, j, h => by
    have h1 := nx_rng hle h64 hst (j := j) (by omega) (m := lo + j * st + 1) (by omega) (by rw [Nat.succ_mul]; omega)
    have e : lo + (j + 1) * st = lo + j * st + st := by rw [Nat.succ_mul]; omega
    rw [far_next hst (by rw [show ((lo + j * st : Nat) : Int) + 1 = ((lo + j * st + 1 : Nat) : Int) from by simp, h1, e]), ← e]
    exact far_rng n (j + 1) (by omega)

theorem runs_rng_one (h : st = 1 ∨ 2 ≤ (hi - lo) / st) : runsF 64 (rangeS lo hi st) = [⟨lo, ((lo + ((hi - lo) / st) * st : Nat) : Int), st⟩] := by
  have hz : ∀ f, runsF f 0 = [] := runsF_zero
  have step : runsF 64 (rangeS lo hi st) = (oneRun (cut (rangeS lo hi st) lo) lo).1 :: runsF 63 (oneRun (cut (rangeS lo hi st) lo) lo).2 := by
    show (if rangeS lo hi st = 0 then [] else _) = _
    rw [if_neg (rng_ne hle h64), rng_ctz hle h64]
  rw [step]
  rcases Nat.eq_zero_or_pos ((hi - lo) / st) with hq | hq
  · have hs1 : st = 1 := by omega
    have hc : cut (rangeS lo hi st) lo = 0 := by
      apply Nat.eq_of_testBit_eq; intro i
      rw [Nat.zero_testBit, Bool.eq_false_iff]
      intro hb
      obtain ⟨a, h1, h2, _⟩ := (cut_rng hle h64 hst _).1 hb
      omega
    rw [hc]
    have hn0 : nx 0 (lo : Int) = none := nx_none.2 fun i _ _ => by simp
    subst hs1
    rw [Nat.div_one] at hq
    simp only [oneRun, hn0, hz, Nat.div_one, hq, Nat.zero_mul, Nat.add_zero, Int.natCast_one]
  · have hn := nx_rng hle h64 hst (j := 0) (by omega) (m := lo + 1) (by omega) (by omega)
    have hn' : nx (cut (rangeS lo hi st) lo) (lo : Int) = some (lo + st) := by
      refine nx_some.2 ?_
      obtain ⟨a1, a2, a3, a4⟩ := nx_some.1 hn
      rw [Nat.zero_add, Nat.one_mul] at a1 a2 a3 a4
      refine ⟨a1, by omega, a3, fun i hi1 hi2 => ?_⟩
      rcases Nat.eq_or_lt_of_le (show lo ≤ i from by omega) with e | e
      · subst e; rw [cut_bit]; simp
      · exact a4 i hi1 (by omega)
    have hg : st = 1 ∨ nx (cut (rangeS lo hi st) lo) (((lo + st : Nat) : Int) + 1) = some (lo + st + st) := by
      rcases h with h | h
      · exact .inl h
      · right
        have := nx_rng hle h64 hst (j := 1) (by omega) (m := lo + st + 1) (by omega) (by omega)
        rw [show ((lo + st : Nat) : Int) + 1 = ((lo + st + 1 : Nat) : Int) from by simp, this]
        congr 1; omega
    have e : oneRun (cut (rangeS lo hi st) lo) lo = (⟨lo, far (cut (rangeS lo hi st) lo) st (lo + st), st⟩, above (cut (rangeS lo hi st) lo) (far (cut (rangeS lo hi st) lo) st (lo + st))) := by
      simp only [oneRun, hn']; rw [show lo + st - lo = st from by omega, if_pos hg]
    have hfar := far_rng hle h64 hst ((hi - lo) / st - 1) 1 (by omega)
    rw [Nat.one_mul] at hfar
    rw [e, hfar]
    have ha : above (cut (rangeS lo hi st) lo) (lo + ((hi - lo) / st) * st) = 0 := by
      apply Nat.eq_of_testBit_eq; intro i
      rw [Nat.zero_testBit, above_bit, Bool.and_eq_false_iff]
      by_cases hlt : lo + ((hi - lo) / st) * st < i
      · right
        rw [Bool.eq_false_iff]; intro hb
        obtain ⟨a, _, h3, rfl⟩ := (cut_rng hle h64 hst _).1 hb
        have := Nat.mul_le_mul_right st h3
        omega
      · left; simp [hlt]
    rw [ha, hz]

theorem runs_rng_len (h : ¬ (st = 1 ∨ 2 ≤ (hi - lo) / st)) : (runsF 64 (rangeS lo hi st)).length = (hi - lo) / st + 1 := by
  have step : runsF 64 (rangeS lo hi st) = (oneRun (cut (rangeS lo hi st) lo) lo).1 :: runsF 63 (oneRun (cut (rangeS lo hi st) lo) lo).2 := by
    show (if rangeS lo hi st = 0 then [] else _) = _
    rw [if_neg (rng_ne hle h64), rng_ctz hle h64]
  rw [step, List.length_cons]
  congr 1
  rcases Nat.eq_zero_or_pos ((hi - lo) / st) with hq | hq
  · have hc : cut (rangeS lo hi st) lo = 0 := by
      apply Nat.eq_of_testBit_eq; intro i
      rw [Nat.zero_testBit, Bool.eq_false_iff]
      intro hb
      obtain ⟨a, h1, h2, _⟩ := (cut_rng hle h64 hst _).1 hb
      omega
    rw [hc]
    have hn0 : nx 0 (lo : Int) = none := nx_none.2 fun i _ _ => by simp
    simp [oneRun, hn0, runsF_zero, hq]
  · have hq1 : (hi - lo) / st = 1 := by omega
    have hn := nx_rng hle h64 hst (j := 0) (by omega) (m := lo + 1) (by omega) (by omega)
    have hn' : nx (cut (rangeS lo hi st) lo) (lo : Int) = some (lo + st) := by
      refine nx_some.2 ?_
      obtain ⟨a1, a2, a3, a4⟩ := nx_some.1 hn
      rw [Nat.zero_add, Nat.one_mul] at a1 a2 a3 a4
      refine ⟨a1, by omega, a3, fun i hi1 hi2 => ?_⟩
      rcases Nat.eq_or_lt_of_le (show lo ≤ i from by omega) with e | e
      · subst e; rw [cut_bit]; simp
      · exact a4 i hi1 (by omega)
    have hg : ¬ (st = 1 ∨ nx (cut (rangeS lo hi st) lo) (((lo + st : Nat) : Int) + 1) = some (lo + st + st)) := by
      rintro (h1 | h1)
      · exact h (.inl h1)
      · have := nx_rng_end hle h64 hst (m := lo + st + 1) (by rw [hq1]; omega)
        rw [show ((lo + st : Nat) : Int) + 1 = ((lo + st + 1 : Nat) : Int) from by simp, this] at h1
        cases h1
    have e : oneRun (cut (rangeS lo hi st) lo) lo = (⟨lo, lo, 1⟩, cut (rangeS lo hi st) lo) := by
      simp only [oneRun, hn']; rw [show lo + st - lo = st from by omega, if_neg hg]
    rw [e, hq1]
    have hbit : ∀ i, (cut (rangeS lo hi st) lo).testBit i = decide (i = lo + st) := by
      intro i
      rw [Bool.eq_iff_iff, cut_rng hle h64 hst, hq1, decide_eq_true_eq]
      constructor
      · rintro ⟨j, h1, h2, rfl⟩
        obtain rfl : j = 1 := by omega
        omega
      · rintro rfl; exact ⟨1, by omega, by omega, by omega⟩
    have hlt := cut_lt (v := lo) (show rangeS lo hi st < 18446744073709551616 from mk_lt _)
    generalize cut (rangeS lo hi st) lo = s at *
    have hs0 : s ≠ 0 := by
      intro h0; have := hbit (lo + st); rw [h0] at this; simp at this
    obtain ⟨c1, c2, c3⟩ := ctz_spec s hs0 hlt
    have hcz : Lib.ctz 64 s = lo + st := by
      rw [hbit] at c2; simpa using c2
    have hc0 : cut s (lo + st) = 0 := by
      apply Nat.eq_of_testBit_eq; intro i
      rw [cut_bit, hbit, Nat.zero_testBit]
      by_cases hh : i = lo + st <;> simp [hh]
    have step2 : runsF 63 s = (oneRun (cut s (lo + st)) (lo + st)).1 :: runsF 62 (oneRun (cut s (lo + st)) (lo + st)).2 := by
      show (if s = 0 then [] else _) = _
      rw [if_neg hs0, hcz]
    show (runsF 63 s).length = 1
    rw [step2, hc0]
    have hn0 : nx 0 ((lo + st : Nat) : Int) = none := nx_none.2 fun i _ _ => by simp
    have e2 : oneRun 0 (lo + st) = (⟨((lo + st : Nat) : Int), ((lo + st : Nat) : Int), 1⟩, 0) := by simp only [oneRun, hn0]
    rw [e2, runsF_zero]
    rfl

theorem memN_rng : ∀ k, (memN (rangeS lo hi st) k).length = if k ≤ lo then 0 else min ((k - 1 - lo) / st) ((hi - lo) / st) + 1
  | 0 => by simp [memN]
  | k + 1 => by
    have ih := memN_rng k
    rcases Nat.lt_trichotomy k lo with h | h | h
    · have hm : (rangeS lo hi st).testBit k = false := by
        rw [Bool.eq_false_iff]; intro hb
        obtain ⟨j, _, hj⟩ := (rng_bit hle h64 k).1 hb
        omega
      rw [memN_miss hm, ih, if_pos (by omega), if_pos (by omega)]
    · subst h
      rw [memN_hit (rng_lo hle h64), List.length_append, ih, if_pos (Nat.le_refl _), if_neg (by omega)]
      simp
    · rw [if_neg (by omega)] at ih
      rw [if_neg (by omega), show k + 1 - 1 - lo = k - lo from by omega]
      have hd : (k - 1 - lo + 1) / st = (k - 1 - lo) / st + if st ∣ k - 1 - lo + 1 then 1 else 0 := Nat.succ_div
      rw [show k - 1 - lo + 1 = k - lo from by omega] at hd
      by_cases hb : (rangeS lo hi st).testBit k = true
      · rw [memN_hit hb, List.length_append, ih]
        obtain ⟨j, hj, rfl⟩ := (rng_bit hle h64 k).1 hb
        have hdv : st ∣ lo + j * st - lo := by rw [Nat.add_sub_cancel_left]; exact Nat.dvd_mul_left st j
        rw [if_pos hdv] at hd
        have hj2 : (lo + j * st - lo) / st = j := by rw [Nat.add_sub_cancel_left]; exact Nat.mul_div_cancel j hst
        rw [hj2] at hd ⊢
        simp only [List.length_singleton]
        omega
      · rw [memN_miss (Bool.eq_false_iff.2 hb), ih]
        by_cases hdv : st ∣ k - lo
        · rw [if_pos hdv] at hd
          have hk : ¬ k ≤ hi := by
            intro hle2
            apply hb
            refine (rng_bit hle h64 k).2 ⟨(k - lo) / st, Nat.div_le_div_right (by omega), ?_⟩
            have := Nat.div_mul_cancel hdv; omega
          have : (hi - lo) / st ≤ (k - 1 - lo) / st := Nat.div_le_div_right (by omega)
          omega
        · rw [if_neg hdv] at hd
          rw [hd]; simp
theorem mem_rng : (mem (rangeS lo hi st)).length = (hi - lo) / st + 1 := by
  rw [← memN_64, memN_rng hle h64 hst 64, if_neg (by omega)]
  have : (hi - lo) / st ≤ (64 - 1 - lo) / st := Nat.div_le_div_right (by omega)
  omega
end
end Go.Proofs.YtcgnnmpgdnajnaaDoor.BW
