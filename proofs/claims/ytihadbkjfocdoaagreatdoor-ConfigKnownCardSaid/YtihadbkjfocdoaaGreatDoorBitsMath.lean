/- Plain facts on sets of the numbers 0..63 as bits of a natural number: least and greatest members, shifts, counting. No program in sight. -/
import Derived.Lib.TrailingZeros
import Derived.Laws.Bits64b
import Derived.Laws.MathBits
namespace Go.Proofs.YtihadbkjfocdoaaGreatDoor.BM
open Go

/-- Membership, at any integer. -/
def has (s : Nat) (v : Int) : Bool := decide (0 ≤ v) && decide (v < 64) && s.testBit v.toNat
/-- The least member from v on. -/
def nx (s : Nat) (v : Int) : Option Nat := (List.range 64).find? fun i => decide (v ≤ (i : Int)) && s.testBit i
/-- The greatest member up to v. -/
def pv (s : Nat) (v : Int) : Option Nat := ((List.range 64).find? fun i => decide (((63 - i : Nat) : Int) ≤ v) && s.testBit (63 - i)).map (63 - ·)

theorem has_nat (s i : Nat) (h : i < 64) : has s i = s.testBit i := by
  have h1 : (0 : Int) ≤ i := by omega
  have h2 : (i : Int) < 64 := by omega
  simp [has, h1, h2]
theorem has_out (s : Nat) (v : Int) (h : v < 0 ∨ 64 ≤ v) : has s v = false := by
  unfold has
  rcases h with h | h
  · simp; omega
  · simp; omega

theorem nx_some {s : Nat} {v : Int} {i : Nat} : nx s v = some i ↔ i < 64 ∧ v ≤ i ∧ s.testBit i = true ∧ ∀ j, j < i → v ≤ (j : Int) → s.testBit j = false := by
  unfold nx
  rw [List.find?_range_eq_some]
  simp only [Bool.and_eq_true, decide_eq_true_eq, List.mem_range, Bool.not_eq_true', Bool.and_eq_false_iff, decide_eq_false_iff_not]
  constructor
  · rintro ⟨⟨h1, h2⟩, h3, h4⟩
    exact ⟨h3, h1, h2, fun j hj hv => (h4 j hj).resolve_left (by omega)⟩
  · rintro ⟨h3, h1, h2, h4⟩
    exact ⟨⟨h1, h2⟩, h3, fun j hj => by
      by_cases hv : v ≤ (j : Int)
      · exact .inr (h4 j hj hv)
      · exact .inl hv⟩
theorem nx_none {s : Nat} {v : Int} : nx s v = none ↔ ∀ i : Nat, i < 64 → v ≤ (i : Int) → s.testBit i = false := by
  unfold nx
  rw [List.find?_eq_none]
  simp only [List.mem_range, Bool.and_eq_true, decide_eq_true_eq, not_and, Bool.not_eq_true]
/-! ### ctz is the least member -/
theorem ctz_spec (x : Nat) (h0 : x ≠ 0) (h : x < 2 ^ 64) : Lib.ctz 64 x < 64 ∧ x.testBit (Lib.ctz 64 x) = true ∧ ∀ j, j < Lib.ctz 64 x → x.testBit j = false := by
  obtain ⟨m, hm, hk⟩ := Lib.ctzFrom_spec 64 x (by omega) h
  have e : Lib.ctz 64 x = Lib.ctzFrom 64 x := by simp [Lib.ctz, h0]
  rw [e]
  refine ⟨hk, ?_, fun j hj => ?_⟩
  · rw [hm]
    have hc : (2 ^ Lib.ctzFrom 64 (2 ^ Lib.ctzFrom 64 x * (2 * m + 1))) = 2 ^ Lib.ctzFrom 64 x := by rw [← hm]
    rw [show Lib.ctzFrom 64 (2 ^ Lib.ctzFrom 64 x * (2 * m + 1)) = Lib.ctzFrom 64 x from by rw [← hm]]
    rw [Nat.mul_comm, Nat.testBit_mul_two_pow]
    simp [Nat.testBit_zero]
  · generalize Lib.ctzFrom 64 x = c at *
    rw [hm, Nat.mul_comm, Nat.testBit_mul_two_pow]
    simp; omega
theorem nx_ctz (x : Nat) (h0 : x ≠ 0) (h : x < 2 ^ 64) : nx x 0 = some (Lib.ctz 64 x) := by
  obtain ⟨h1, h2, h3⟩ := ctz_spec x h0 h
  exact nx_some.2 ⟨h1, by omega, h2, fun j hj _ => h3 j hj⟩

/-! ### Shifting out the low bits -/
theorem cut_testBit (s k i : Nat) : (s / 2 ^ k * 2 ^ k).testBit i = (decide (k ≤ i) && s.testBit i) := by
  rw [Nat.testBit_mul_two_pow, Nat.testBit_div_two_pow]
  by_cases h : k ≤ i
  · simp [h, Nat.sub_add_cancel h]
  · simp [h]
theorem cut_le (s k : Nat) : s / 2 ^ k * 2 ^ k ≤ s := Nat.div_mul_le_self _ _
/-- What Next does: cut away what lies below, take the least. -/
theorem nx_cut (s k : Nat) (v : Int) (hv : k = v.toNat) : nx (s / 2 ^ k * 2 ^ k) 0 = nx s v := by
  cases h : nx s v with
  | none =>
    rw [nx_none] at h ⊢
    intro i hi _
    rw [cut_testBit]
    by_cases hk : k ≤ i
    · simp [h i hi (by omega)]
    · simp [hk]
  | some i =>
    rw [nx_some] at h ⊢
    obtain ⟨h1, h2, h3, h4⟩ := h
    refine ⟨h1, by omega, ?_, fun j hj _ => ?_⟩
    · rw [cut_testBit, h3]; simp; omega
    · rw [cut_testBit]
      by_cases hk : k ≤ j
      · simp [h4 j hj (by omega)]
      · simp [hk]
theorem nx_zero (v : Int) : nx 0 v = none := nx_none.2 fun i _ _ => by simp
theorem nx_big (s : Nat) (v : Int) (h : 63 < v) : nx s v = none := nx_none.2 fun i hi hv => by omega
/-! ### Words as the walk spells them -/
theorem and1 (n : Nat) (h : n < 18446744073709551616) : bits .and .u64 (n : Int) 1 = ((n % 2 : Nat) : Int) := by
  have := bits_and_u64_nat n 1 h (by omega)
  rw [Nat.and_one_is_mod] at this
  exact this
theorem testBit_eq (s k : Nat) : s.testBit k = decide (s / 2 ^ k % 2 = 1) := Nat.testBit_eq_decide_div_mod_eq
end Go.Proofs.YtihadbkjfocdoaaGreatDoor.BM
