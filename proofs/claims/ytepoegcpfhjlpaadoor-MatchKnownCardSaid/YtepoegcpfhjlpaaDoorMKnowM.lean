/- The examples of MatchKnown, plainly. -/
import Derived.Test.YtepoegcpfhjlpaaDoorMTurnsW
namespace Go.Proofs.YtepoegcpfhjlpaaDoor.BW
open Go.RowKit BM Go.Shelf MC
open BK hiding ret_bool ret_i64

def kDay : Ex := ⟨1, 1, 1, 4294967294, 8190, 127, true, true⟩
def kLeap : Ex := ⟨1, 1, 1, 536870912, 4, 127, false, true⟩
def kNever : Ex := ⟨1, 1, 1, 1073741824, 4, 127, false, true⟩
def kWrong : Ex := ⟨1, 1, 0, 4294967294, 8190, 127, true, true⟩
theorem u64_kDay : U64s kDay := ⟨by decide, by decide, by decide, by decide, by decide, by decide⟩
theorem u64_kLeap : U64s kLeap := ⟨by decide, by decide, by decide, by decide, by decide, by decide⟩
theorem u64_kNever : U64s kNever := ⟨by decide, by decide, by decide, by decide, by decide, by decide⟩
theorem u64_kWrong : U64s kWrong := ⟨by decide, by decide, by decide, by decide, by decide, by decide⟩
theorem k_leap0 : chk kLeap 0 [0] = 0 := by decide +kernel
theorem k_leap1 : chk kLeap 0 [3981312000] = 0 := by decide +kernel
theorem k_never0 : chk kNever 0 [0] = 0 := by decide +kernel
theorem k_never : ckR kNever = 0 := by decide +kernel
theorem k_day60 : chk kDay 60 [0] = 0 := by decide +kernel
theorem k_day0 : chk kDay 0 [0] = 0 := by decide +kernel
theorem k_day1 : chk kDay 0 [86400] = 0 := by decide +kernel
theorem k_dayE : chk kDay 0 [253402214400] = 0 := by decide +kernel
theorem k_dayC : chk kDay 0 [0, 86400] = 0 := by decide +kernel
theorem k_dayL : chk kDay 0 [86400, 0] = 0 := by decide +kernel
theorem k_wrong : chk kWrong 900 [-1] = 16 := by decide +kernel
theorem k_arg : chk kDay 900 [-1] = 2 := by decide +kernel
theorem k_time : chk kDay 840 [-1] = 14 := by decide +kernel
theorem k_timeC : chk kDay 0 [0, 253402300800] = 14 := by decide +kernel
theorem k_star : chk starX (-1) [0] = 0 := by decide +kernel

theorem clk_one (x : Ex) (hs : x.s = 1) (hm : x.mi = 1) (hh : x.h = 1) {s : Nat} (h : s < 86400) : clk x s = decide (s = 0) := by
  unfold clk
  rw [hs, hm, hh]
  by_cases h0 : s = 0
  · subst h0; rfl
  · rw [decide_eq_false h0, Bool.eq_false_iff]
    intro hc
    simp only [Bool.and_eq_true, Nat.testBit_one_eq_true_iff_self_eq_zero] at hc
    omega
theorem T_one {x : Ex} (hs : x.s = 1) (hm : x.mi = 1) (hh : x.h = 1) (l : Nat) : T x l = (MC.M x (l / 86400) && decide (l % 86400 = 0)) := by
  unfold T
  rw [clk_one x hs hm hh (Nat.mod_lt _ (by decide))]
theorem At_nat {x : Ex} {z : Int} {t : Int} {l : Nat} (h : t + z * 60 = l) (h1 : 0 ≤ t ∧ t ≤ 253402300799 ∧ l ≤ 253402300799) : At x z t = T x l := by
  unfold At
  rw [h, Int.toNat_natCast, decide_eq_true (by omega)]
  rfl
theorem At_no {x : Ex} {z t : Int} (h : ∀ l : Nat, t + z * 60 = l → l ≤ 253402300799 → T x l = false) : At x z t = false := by
  cases hA : At x z t
  · rfl
  · have hr := At_range hA
    have := h (t + z * 60).toNat (by omega) (by omega)
    rw [At_T hA] at this; cases this
/-- The rule of a date, by its formula. -/
def mC (x : Ex) (n : Nat) : Bool := x.mo.testBit (ymdC n).2.1 && dayRule x (ymdC n).2.2 ((n + 4) % 7)
theorem M_mC (x : Ex) (n : Nat) : MC.M x n = mC x n := by unfold MC.M mC; rw [ymd_eq]
theorem M_kDay (n : Nat) : MC.M kDay n = true := by
  unfold MC.M dayRule
  show (Nat.testBit 8190 (ymd n).2.1 && _) = _
  rw [month_any]; rfl
theorem leap_a : ((List.range 789).all fun n => !mC kLeap n) = true := by decide +kernel
theorem leap_b : ((List.range 2920).all fun n => !mC kLeap (46081 + n)) = true := by decide +kernel
theorem leap_no {n : Nat} (h : n < 789 ∨ (46080 < n ∧ n < 49001)) : MC.M kLeap n = false := by
  rw [M_mC]
  rcases h with h | h
  · have := List.all_eq_true.1 leap_a n (List.mem_range.2 h)
    simpa using this
  · have := List.all_eq_true.1 leap_b (n - 46081) (List.mem_range.2 (by omega))
    rw [show 46081 + (n - 46081) = n from by omega] at this
    simpa using this
theorem leap_y1 : MC.M kLeap 789 = true := by rw [M_mC]; decide +kernel
theorem leap_y2 : MC.M kLeap 49001 = true := by rw [M_mC]; decide +kernel
theorem never_no (n : Nat) : MC.M kNever n = false := by
  obtain ⟨⟨h1, h2, h3, h4, h5⟩, _⟩ := ymd_spec n
  unfold MC.M dayRule kNever
  cases hm : Nat.testBit 4 (ymd n).2.1
  · rfl
  · have hb : (ymd n).2.1 = 2 := by
      have : (ymd n).2.1 = 0 ∨ (ymd n).2.1 = 1 ∨ (ymd n).2.1 = 2 ∨ 3 ≤ (ymd n).2.1 := by omega
      rcases this with h | h | h | h
      · omega
      · rw [h] at hm; exact absurd hm (by decide)
      · exact h
      · rw [bit_hi (s := 4) (n := 3) (by decide) h] at hm; cases hm
    have hl : mlen (ymd n).1 2 ≤ 29 := by have := mlen_bounds (ymd n).1 2; have := lp_le (ymd n).1; unfold mlen; simp; omega
    rw [hb] at h5
    have hd : Nat.testBit 1073741824 (ymd n).2.2 = false := by
      have h30 : ∀ i, i < 30 → Nat.testBit 1073741824 i = false := by decide
      exact h30 _ (by omega)
    simp [hd]
theorem v_leap0 : nxV kLeap 0 0 = some 68169600 := by
  rw [nxV_ok k_leap0]
  refine (fromV_some (by omega)).2 ⟨by omega, ?_, fun m m1 m2 => At_no fun l hl _ => ?_⟩
  · rw [At_nat (l := 68169600) (by omega) (by omega), T_one rfl rfl rfl, show 68169600 / 86400 = 789 from by decide, leap_y1]; rfl
  · rw [T_one rfl rfl rfl]
    rcases Nat.lt_or_ge (l / 86400) 789 with h | h
    · rw [leap_no (.inl h)]; rfl
    · omega
theorem v_leap1 : nxV kLeap 0 3981312000 = some 4233686400 := by
  rw [nxV_ok k_leap1]
  refine (fromV_some (by omega)).2 ⟨by omega, ?_, fun m m1 m2 => At_no fun l hl _ => ?_⟩
  · rw [At_nat (l := 4233686400) (by omega) (by omega), T_one rfl rfl rfl, show 4233686400 / 86400 = 49001 from by decide, leap_y2]; rfl
  · rw [T_one rfl rfl rfl]
    rcases Nat.lt_or_ge 46080 (l / 86400) with h | h
    · rw [leap_no (.inr (by omega))]; rfl
    · rw [decide_eq_false (by omega), Bool.and_false]
theorem v_never : nxV kNever 0 0 = none := by
  rw [nxV_ok k_never0]
  refine (fromV_none (by omega)).2 fun m _ => At_no fun l _ _ => ?_
  rw [T_one rfl rfl rfl, never_no]; rfl
theorem v_ever : (decide (ckR kNever = 0) && everR kNever) = false := by rw [ever_false fun n _ => never_no n, Bool.and_false]
theorem T_day (l : Nat) : T kDay l = decide (l % 86400 = 0) := by rw [T_one rfl rfl rfl, M_kDay]; rfl
theorem v_day60 : nxV kDay 60 0 = some 82800 := by
  rw [nxV_ok k_day60]
  refine (fromV_some (by omega)).2 ⟨by omega, ?_, fun m m1 m2 => At_no fun l hl _ => ?_⟩
  · rw [At_nat (l := 86400) (by omega) (by omega), BW.T_day]; rfl
  · rw [BW.T_day, decide_eq_false (by omega)]
theorem v_prev1 : pvV kDay 0 86400 = some 0 := by
  rw [pvV_ok k_day1]
  refine (beforeV_some (by omega)).2 ⟨by omega, ?_, fun m m1 m2 => At_no fun l hl _ => ?_⟩
  · rw [At_nat (l := 0) (by omega) (by omega), BW.T_day]; rfl
  · rw [BW.T_day, decide_eq_false (by omega)]
theorem v_prev0 : pvV kDay 0 0 = none := by
  rw [pvV_ok k_day0]
  refine (beforeV_none (by omega)).2 fun m m1 => At_no fun l hl _ => ?_
  omega
theorem v_end : nxV kDay 0 253402214400 = none := by
  rw [nxV_ok k_dayE]
  refine (fromV_none (by omega)).2 fun m m1 => At_no fun l hl hl2 => ?_
  rw [BW.T_day, decide_eq_false (by omega)]
theorem v_list : lsV kDay 0 86400 0 5 = [] := by
  unfold lsV
  rw [if_pos ⟨k_dayL, by decide⟩]
  unfold timesL
  rw [if_pos (by decide)]
  rfl
theorem v_count : ctR kDay 0 0 86400 = 2 := by
  unfold ctR
  rw [if_pos ⟨k_dayC, by decide⟩, show (loI 0 0).toNat = 0 from by decide, show (hiI 0 86400).toNat = 86400 from by decide]
  unfold ctV
  have h0 := cnt_T_day kDay 0 86400 (by decide)
  have h1 := cnt_T_day kDay 1 1 (by decide)
  have hc : cnt (clk kDay) 86400 = 1 := by
    have : cnt (clk kDay) 86400 = cnt (clk kDay) 1 := cnt_cut _ 1 86400 (by decide) fun i i1 i2 => by
      rw [clk_one kDay rfl rfl rfl i2, decide_eq_false (by omega)]
    rw [this]
    decide +kernel
  have hc1 : cnt (clk kDay) 1 = 1 := by decide +kernel
  rw [M_kDay, hc, Nat.zero_mul, Nat.zero_add] at h0
  rw [M_kDay, hc1, Nat.one_mul, h0] at h1
  rw [h1]
  rfl
theorem v_star : isV starX (-1) 0 = false := by
  rw [isV_At k_star]
  refine At_no fun l hl _ => ?_
  omega
end Go.Proofs.YtepoegcpfhjlpaaDoor.BW
