/- Plain facts: the members of a set one by one. -/
import Derived.Test.YtcgnnmpgdnajnaaDoorBitsWorks
namespace Go.Proofs.YtcgnnmpgdnajnaaDoor.BW
open Go.RowKit BM

/-- Taking away the least member. -/
theorem and_pred {s lo : Nat} (hlo : s.testBit lo = true) (hmin : ∀ i, i < lo → s.testBit i = false) : s &&& (s - 1) = cut s lo := by
  have hs : s = 2 ^ (lo + 1) * (s / 2 ^ (lo + 1)) + 2 ^ lo := by
    apply Nat.eq_of_testBit_eq; intro i
    rw [Nat.testBit_two_pow_mul_add _ (Nat.pow_lt_pow_right (by decide) (Nat.lt_succ_self lo))]
    split
    · rename_i h
      rw [Nat.testBit_two_pow]
      rcases Nat.lt_or_ge i lo with h2 | h2
      · rw [hmin i h2]; simp; omega
      · obtain rfl : i = lo := by omega
        simp [hlo]
    · rename_i h
      rw [Nat.testBit_div_two_pow]
      rw [show i - (lo + 1) + (lo + 1) = i from by omega]
  have hp : 0 < 2 ^ lo := Nat.two_pow_pos lo
  generalize hm : s / 2 ^ (lo + 1) = m at hs
  have hs1 : s - 1 = 2 ^ (lo + 1) * m + (2 ^ lo - 1) := by omega
  apply Nat.eq_of_testBit_eq; intro i
  rw [cut_bit, Nat.testBit_and, hs1]
  rw [Nat.testBit_two_pow_mul_add _ (show 2 ^ lo - 1 < 2 ^ (lo + 1) from by have := Nat.pow_lt_pow_right (a := 2) (by decide) (Nat.lt_succ_self lo); omega)]
  split
  · rename_i h
    rcases Nat.lt_or_ge i lo with h2 | h2
    · simp [hmin i h2]
    · obtain rfl : i = lo := by omega
      simp [Nat.testBit_two_pow_sub_one]
  · rename_i h
    have h2 : i ≠ lo := by omega
    have h3 : s.testBit i = m.testBit (i - (lo + 1)) := by
      rw [← hm, Nat.testBit_div_two_pow, show i - (lo + 1) + (lo + 1) = i from by omega]
    rw [← h3]
    simp [h2]

theorem mem_next {s lo : Nat} (hl64 : lo < 64) (hlo : s.testBit lo = true) (hmin : ∀ i, i < lo → s.testBit i = false) : mem s = lo :: mem (cut s lo) := by
  have hr : List.range 64 = List.range lo ++ lo :: List.range' (lo + 1) (63 - lo) := by
    rw [List.range_eq_range', List.range_eq_range', show 64 = lo + (63 - lo + 1) from by omega, ← List.range'_append_1, List.range'_succ]
    simp
  unfold mem
  rw [hr, List.filter_append, List.filter_append, List.filter_cons_of_pos (by simpa using hlo), List.filter_cons_of_neg (by rw [cut_bit]; simp)]
  have e1 : (List.range lo).filter (fun i => s.testBit i) = [] := by
    rw [List.filter_eq_nil_iff]; intro i hi; rw [hmin i (List.mem_range.1 hi)]; simp
  have e2 : (List.range lo).filter (fun i => (cut s lo).testBit i) = [] := by
    rw [List.filter_eq_nil_iff]; intro i hi; rw [cut_bit, hmin i (List.mem_range.1 hi)]; simp
  have e3 : (List.range' (lo + 1) (63 - lo)).filter (fun i => s.testBit i) = (List.range' (lo + 1) (63 - lo)).filter (fun i => (cut s lo).testBit i) := by
    apply List.filter_congr
    intro i hi
    rw [List.mem_range'_1] at hi
    rw [cut_bit]
    have : i ≠ lo := by omega
    simp [this]
  rw [e1, e2, e3]
  rfl
theorem mem_zero : mem 0 = [] := by
  unfold mem; rw [List.filter_eq_nil_iff]; intro i _; simp
theorem pred_word (s : Nat) (hs : s < 18446744073709551616) (h0 : s ≠ 0) : bits .and .u64 (s : Int) ((s : Int) - 1) = ((s &&& (s - 1) : Nat) : Int) := by
  rw [show (s : Int) - 1 = ((s - 1 : Nat) : Int) from by omega]
  exact bits_and_u64_nat _ _ hs (by omega)
end Go.Proofs.YtcgnnmpgdnajnaaDoor.BW
