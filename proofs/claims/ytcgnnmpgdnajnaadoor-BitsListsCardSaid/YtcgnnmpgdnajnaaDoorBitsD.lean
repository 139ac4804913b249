/- Contracts of bits.Range, Inside, Of and the reference's. -/
import Derived.Test.YtcgnnmpgdnajnaaDoorBitsC
namespace Go.Proofs.YtcgnnmpgdnajnaaDoor.BW
open Go.RowKit BM

/-! ### Sets by what they hold -/
def mkN (p : Nat → Bool) : Nat → Nat
  | 0 => 0
  | n + 1 => mkN p n ||| if p n then 2 ^ n else 0
theorem mkN_bit (p : Nat → Bool) : ∀ n i, (mkN p n).testBit i = (decide (i < n) && p i)
  | 0, i => by simp [mkN]
  | n + 1, i => by
    simp only [mkN, Nat.testBit_or, mkN_bit p n i]
    by_cases e : i = n
    · subst e
      cases h : p i <;> simp
    · have e' : n ≠ i := fun h => e h.symm
      have : (if p n then 2 ^ n else 0 : Nat).testBit i = false := by
        split
        · simp [e']
        · simp
      rw [this, Bool.or_false]
      by_cases h : i < n
      · have : i < n + 1 := by omega
        simp [h, this]
      · have : ¬ i < n + 1 := by omega
        simp [h, this]
theorem mkN_lt (p : Nat → Bool) (n : Nat) : mkN p n < 2 ^ n := Nat.lt_pow_two_of_testBit _ fun i hi => by rw [mkN_bit]; simp; omega
/-- The set of the numbers below 64 with a property. -/
def mk (p : Nat → Bool) : Nat := mkN p 64
theorem mk_bit (p : Nat → Bool) (i : Nat) : (mk p).testBit i = (decide (i < 64) && p i) := mkN_bit p 64 i
theorem mk_lt (p : Nat → Bool) : mk p < 18446744073709551616 := mkN_lt p 64
theorem mk_none : mk (fun _ => false) = 0 := by
  apply Nat.eq_of_testBit_eq; intro i; rw [mk_bit]; simp
theorem mk_ext {p q : Nat → Bool} (h : ∀ i, i < 64 → p i = q i) : mk p = mk q := by
  apply Nat.eq_of_testBit_eq; intro i; rw [mk_bit, mk_bit]
  by_cases hi : i < 64
  · simp [h i hi]
  · simp [hi]
theorem mk_or {p : Nat → Bool} {n : Nat} (hn : n < 64) : mk p ||| 2 ^ n = mk (fun i => p i || decide (i = n)) := by
  apply Nat.eq_of_testBit_eq; intro i; rw [Nat.testBit_or, mk_bit, mk_bit, Nat.testBit_two_pow]
  by_cases e : n = i
  · subst e; simp [hn]
  · have e' : ¬ i = n := fun h => e h.symm
    simp [e, e']
theorem mk_self (s : Nat) (h : s < 18446744073709551616) : mk (fun i => s.testBit i) = s := by
  apply Nat.eq_of_testBit_eq; intro i; rw [mk_bit]
  by_cases hi : i < 64
  · simp [hi]
  · rw [Nat.testBit_lt_two_pow (Nat.lt_of_lt_of_le (show s < 2 ^ 64 from h) (Nat.pow_le_pow_right (by decide) (by omega)))]; simp

theorem or_word (a n : Nat) (ha : a < 18446744073709551616) (hn : n < 64) : bits .or .u64 (a : Int) (IntKind.u64.wrap (2 ^ n)) = ((a ||| 2 ^ n : Nat) : Int) := by
  have hp : (2 : Nat) ^ n < 18446744073709551616 := Nat.lt_of_lt_of_le (Nat.pow_lt_pow_right (by decide) hn) (by decide)
  have e : ((2 : Int) ^ n) = ((2 ^ n : Nat) : Int) := by simp
  rw [e]
  generalize (2 : Nat) ^ n = p at *
  rw [show IntKind.u64.wrap (p : Int) = p from by rw [IntKind.wrap_u64]; omega]
  exact bits_or_u64_nat a p ha hp

/-- The set of a range. -/
def rangeS (lo hi step : Nat) : Nat := mk fun i => decide (lo ≤ i) && decide (i ≤ hi) && decide ((i - lo) % step = 0)
theorem same_rest {lo i v st : Nat} (hl : lo ≤ v) (h1 : (i - lo) % st = 0) (h2 : (v - lo) % st = 0) (h3 : v ≤ i) (h4 : i < v + st) : i = v := by
  have d1 := Nat.dvd_of_mod_eq_zero h1
  have d2 := Nat.dvd_of_mod_eq_zero h2
  have d3 := Nat.dvd_sub d1 d2
  have e : i - lo - (v - lo) = i - v := by omega
  rw [e] at d3
  have := Nat.eq_zero_of_dvd_of_lt d3 (by omega)
  omega
theorem min_rest {a step : Nat} (ha : a < 64) (_hs : 1 ≤ step) : decide (a % step = 0) = decide (a % (min step 64) = 0) := by
  by_cases h : step ≤ 64
  · rw [Nat.min_eq_left h]
  · have e : min step 64 = 64 := by omega
    rw [e, Nat.mod_eq_of_lt (by omega : a < step), Nat.mod_eq_of_lt ha]
theorem range_zero (lo st : Nat) : mk (fun i => decide (lo ≤ i) && decide (i < lo) && decide ((i - lo) % st = 0)) = 0 := by
  rw [← mk_none]; apply mk_ext; intro i _; simp; omega
theorem range_next {lo v st : Nat} (hl : lo ≤ v) (hv : v < 64) (hm : (v - lo) % st = 0) (hst : 1 ≤ st) :
    mk (fun i => decide (lo ≤ i) && decide (i < v) && decide ((i - lo) % st = 0)) ||| 2 ^ v = mk (fun i => decide (lo ≤ i) && decide (i < v + st) && decide ((i - lo) % st = 0)) := by
  rw [mk_or hv]
  apply mk_ext
  intro i _
  rw [Bool.eq_iff_iff]
  simp only [Bool.or_eq_true, Bool.and_eq_true, decide_eq_true_eq]
  constructor
  · rintro (⟨⟨h1, h2⟩, h3⟩ | rfl)
    · exact ⟨⟨h1, by omega⟩, h3⟩
    · exact ⟨⟨hl, by omega⟩, hm⟩
  · rintro ⟨⟨h1, h2⟩, h3⟩
    by_cases h : i < v
    · exact .inl ⟨⟨h1, h⟩, h3⟩
    · exact .inr (same_rest hl h3 hm (by omega) h2)
theorem range_end {lo hi v step : Nat} (hv : hi < v) (hst : 1 ≤ step) (hgap : ∀ i, lo ≤ i → i < v → (i - lo) % min step 64 = 0 → i ≤ hi) :
    mk (fun i => decide (lo ≤ i) && decide (i < v) && decide ((i - lo) % min step 64 = 0)) = rangeS lo hi step := by
  apply mk_ext
  intro i hi64
  rw [min_rest (by omega) hst, Bool.eq_iff_iff]
  simp only [Bool.and_eq_true, decide_eq_true_eq]
  constructor
  · rintro ⟨⟨h1, h2⟩, h3⟩; exact ⟨⟨h1, hgap i h1 h2 h3⟩, h3⟩
  · rintro ⟨⟨h1, h2⟩, h3⟩; exact ⟨⟨h1, by omega⟩, h3⟩

/-- What Range returns: the set, the error. -/
def rangeR (lo hi step : Int) : Nat × Int :=
  if lo < 0 ∨ 63 < lo ∨ hi < 0 ∨ 63 < hi then (0, 3) else if hi < lo ∨ step < 1 then (0, 2) else (rangeS lo.toNat hi.toNat step.toNat, 0)
theorem ret_ue {a b : Int} {c d : Int} (h : a = b) (h' : c = d) : Ending.returned (.tuple #[.int .u64 a, .int .i64 c]) = .returned (.tuple #[.int .u64 b, .int .i64 d]) := by rw [h, h']

theorem inside_yes {v : Int} (h : 0 ≤ v ∧ v ≤ 63) (w : World) : Calls Tryd.prog 35 #[.int .i64 v] w fun e w' => e = .returned (.bool true) ∧ w = w' := by
  have := inside_ok v w
  rw [show (decide (0 ≤ v) && decide (v < 64)) = true from by simp; omega] at this
  exact this
theorem inside_no {v : Int} (h : ¬ (0 ≤ v ∧ v ≤ 63)) (w : World) : Calls Tryd.prog 35 #[.int .i64 v] w fun e w' => e = .returned (.bool false) ∧ w = w' := by
  have := inside_ok v w
  rw [show (decide (0 ≤ v) && decide (v < 64)) = false from by simp; omega] at this
  exact this

set_option maxHeartbeats 1000000 in
theorem range_ok (lo hi step : Int) (w : World) :
    Calls Tryd.prog 12 #[.int .i64 lo, .int .i64 hi, .int .i64 step] w fun e w' => e = .returned (.tuple #[.int .u64 ((rangeR lo hi step).1 : Nat), .int .i64 (rangeR lo hi step).2]) ∧ w = w' := by
  by_cases h1 : 0 ≤ lo ∧ lo ≤ 63
  · have c1 := inside_yes h1
    by_cases h2 : 0 ≤ hi ∧ hi ≤ 63
    · have c2 := inside_yes h2
      obtain ⟨a, rfl⟩ := Int.eq_ofNat_of_zero_le h1.1
      obtain ⟨b, rfl⟩ := Int.eq_ofNat_of_zero_le h2.1
      have ha := h1.2
      have hb := h2.2
      clear h1 h2
      have C1 := Lib.hid c1
      have C2 := Lib.hid c2
      clear c1 c2
      by_cases h3 : b < a
      · have E : Hid (rangeR a b step = (0, 2)) := Lib.hid (by unfold rangeR; rw [if_neg (by omega), if_pos (by omega)])
        go_enter Tryd.func12, Tryd.ntmps12
        go_wp2_with fail
        refine (C1.out _).mono ?_
        rintro e w' ⟨rfl, rfl⟩
        go_wp2_with fail
        refine (C2.out _).mono ?_
        rintro e w' ⟨rfl, rfl⟩
        go_wp2_with fail
        go_ret2
        exact ⟨ret_ue (by rw [E.out]; rfl) (by rw [E.out]), rfl⟩
      · by_cases h4 : step < 1
        · have E : Hid (rangeR a b step = (0, 2)) := Lib.hid (by unfold rangeR; rw [if_neg (by omega), if_pos (by omega)])
          have d1 : decide ((b : Int) < (a : Int)) = false := decide_eq_false (by omega)
          go_enter Tryd.func12, Tryd.ntmps12
          go_wp2_with fail
          refine (C1.out _).mono ?_
          rintro e w' ⟨rfl, rfl⟩
          go_wp2_with fail
          refine (C2.out _).mono ?_
          rintro e w' ⟨rfl, rfl⟩
          go_wp2_with fail
          go_ret2
          exact ⟨ret_ue (by rw [E.out]; rfl) (by rw [E.out]), rfl⟩
        · obtain ⟨n, rfl⟩ := Int.eq_ofNat_of_zero_le (show 0 ≤ step by omega)
          have E : Hid (rangeR a b n = (rangeS a b n, 0)) := Lib.hid (by unfold rangeR; rw [if_neg (by omega), if_neg (by omega)]; simp)
          have d1 : decide ((b : Int) < (a : Int)) = false := decide_eq_false (by omega)
          have d2 : decide ((n : Int) < 1) = false := decide_eq_false (by omega)
          obtain ⟨m, hm⟩ : ∃ m, m = min n 64 := ⟨_, rfl⟩
          have hmin : min (n : Int) 64 = (m : Int) := by omega
          have m1 : 1 ≤ m := by omega
          have m2 : m ≤ 64 := by omega
          have HM := Lib.hid hm
          clear hm
          go_enter Tryd.func12, Tryd.ntmps12
          go_wp2_with fail
          refine (C1.out _).mono ?_
          rintro e w' ⟨rfl, rfl⟩
          go_wp2_with fail
          refine (C2.out _).mono ?_
          rintro e w' ⟨rfl, rfl⟩
          go_wp2_with fail
          go_loop [8, 9] (fun o i => ∃ v : Nat, a ≤ v ∧ v ≤ b + m ∧ (v - a) % m = 0 ∧ (∀ i, a ≤ i → i < v → (i - a) % m = 0 → i ≤ b) ∧ i = .int .i64 v ∧ o = .int .u64 ((mk fun i => decide (a ≤ i) && decide (i < v) && decide ((i - a) % m = 0) : Nat) : Int)) (fun _ i => b + m + 1 - (intOf i).toNat)
          case atStart => exact ⟨a, by omega, by omega, by simp, fun i hi hi2 => by omega, rfl, by rw [range_zero]; rfl⟩
          case round =>
            obtain ⟨v, v1, v2, v3, v4, rfl, rfl⟩ := hrel
            have V3 := Lib.hid v3
            have V4 := Lib.hid v4
            clear v3 v4
            by_cases hlt : v ≤ b
            · have HN := Lib.hid (range_next v1 (show v < 64 by omega) V3.out m1)
              have hlo := mk_lt fun i => decide (a ≤ i) && decide (i < v) && decide ((i - a) % m = 0)
              generalize hS : mk (fun i => decide (a ≤ i) && decide (i < v) && decide ((i - a) % m = 0)) = S at *
              have HO := Lib.hid (or_word S v hlo (by omega))
              clear hS
              go_wp2
              go_round
              case rel => exact ⟨v + m, by omega, by omega, by
                have d1 := Nat.dvd_of_mod_eq_zero V3.out
                rw [show v + m - a = v - a + m from by omega]
                exact Nat.mod_eq_zero_of_dvd (Nat.dvd_add d1 (Nat.dvd_refl m)), fun i h1 h2 h3 => by
                by_cases hi : i < v
                · exact V4.out i h1 hi h3
                · have := same_rest v1 h3 V3.out (by omega) h2
                  omega, by go_num, by rw [HO.out, HN.out]⟩
              case measure => simp [intOf]; omega
            · have FIN := Lib.hid (range_end (lo := a) (hi := b) (v := v) (step := n) (by omega) (by omega) (by rw [← HM.out]; exact V4.out))
              rw [← HM.out] at FIN
              go_wp2
              go_ret2
              exact ⟨ret_ue (by rw [E.out, FIN.out]) (by rw [E.out]), rfl⟩
    · have C1 := Lib.hid c1
      have C2 := Lib.hid (inside_no h2)
      have E : Hid (rangeR lo hi step = (0, 3)) := Lib.hid (by unfold rangeR; rw [if_pos (by omega)])
      clear c1
      go_enter Tryd.func12, Tryd.ntmps12
      go_wp2_with fail
      refine (C1.out _).mono ?_
      rintro e w' ⟨rfl, rfl⟩
      go_wp2_with fail
      refine (C2.out _).mono ?_
      rintro e w' ⟨rfl, rfl⟩
      go_wp2_with fail
      go_ret2
      exact ⟨ret_ue (by rw [E.out]; rfl) (by rw [E.out]), rfl⟩
  · have C1 := Lib.hid (inside_no h1)
    have E : Hid (rangeR lo hi step = (0, 3)) := Lib.hid (by unfold rangeR; rw [if_pos (by omega)])
    go_enter Tryd.func12, Tryd.ntmps12
    go_wp2_with fail
    refine (C1.out _).mono ?_
    rintro e w' ⟨rfl, rfl⟩
    go_wp2_with fail
    go_ret2
    exact ⟨ret_ue (by rw [E.out]; rfl) (by rw [E.out]), rfl⟩
end Go.Proofs.YtcgnnmpgdnajnaaDoor.BW
