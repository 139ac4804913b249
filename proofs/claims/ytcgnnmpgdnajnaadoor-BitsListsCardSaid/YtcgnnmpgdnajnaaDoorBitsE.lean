/- Contracts of the reference's Range, of Inside and Of, and the reference's. -/
import Derived.Test.YtcgnnmpgdnajnaaDoorBitsD
namespace Go.Proofs.YtcgnnmpgdnajnaaDoor.BW
open Go.RowKit BM

theorem rrange_next {lo v st : Nat} (hl : lo ≤ v) (hv : v < 64) :
    (if (v - lo) % st = 0 then mk (fun i => decide (lo ≤ i) && decide (i < v) && decide ((i - lo) % st = 0)) ||| 2 ^ v else mk (fun i => decide (lo ≤ i) && decide (i < v) && decide ((i - lo) % st = 0))) =
      mk (fun i => decide (lo ≤ i) && decide (i < v + 1) && decide ((i - lo) % st = 0)) := by
  split
  · rename_i h
    rw [mk_or hv]
    apply mk_ext
    intro i _
    rw [Bool.eq_iff_iff]
    simp only [Bool.or_eq_true, Bool.and_eq_true, decide_eq_true_eq]
    constructor
    · rintro (⟨⟨h1, h2⟩, h3⟩ | rfl)
      · exact ⟨⟨h1, by omega⟩, h3⟩
      · exact ⟨⟨hl, by omega⟩, h⟩
    · rintro ⟨⟨h1, h2⟩, h3⟩
      by_cases h : i < v
      · exact .inl ⟨⟨h1, h⟩, h3⟩
      · exact .inr (by omega)
  · rename_i h
    apply mk_ext
    intro i _
    rw [Bool.eq_iff_iff]
    simp only [Bool.and_eq_true, decide_eq_true_eq]
    constructor
    · rintro ⟨⟨h1, h2⟩, h3⟩
      exact ⟨⟨h1, by omega⟩, h3⟩
    · rintro ⟨⟨h1, h2⟩, h3⟩
      refine ⟨⟨h1, ?_⟩, h3⟩
      apply Nat.lt_of_not_le
      intro hle
      have : i = v := by omega
      subst this
      exact h h3

set_option maxHeartbeats 1000000 in
theorem rrange_ok (lo hi step : Int) (w : World) :
    Calls Tryd.prog 17 #[.int .i64 lo, .int .i64 hi, .int .i64 step] w fun e w' => e = .returned (.tuple #[.int .u64 ((rangeR lo hi step).1 : Nat), .int .i64 (rangeR lo hi step).2]) ∧ w = w' := by
  by_cases h1 : (0 ≤ lo ∧ lo ≤ 63) ∧ (0 ≤ hi ∧ hi ≤ 63)
  · obtain ⟨⟨l0, l1⟩, ⟨b0, b1⟩⟩ := h1
    obtain ⟨a, rfl⟩ := Int.eq_ofNat_of_zero_le l0
    obtain ⟨b, rfl⟩ := Int.eq_ofNat_of_zero_le b0
    have e1 : decide ((a : Int) < 0) = false := decide_eq_false (by omega)
    have e2 : decide ((63 : Int) < (a : Int)) = false := decide_eq_false (by omega)
    have e3 : decide ((b : Int) < 0) = false := decide_eq_false (by omega)
    have e4 : decide ((63 : Int) < (b : Int)) = false := decide_eq_false (by omega)
    by_cases h3 : b < a
    · have E : Hid (rangeR a b step = (0, 2)) := Lib.hid (by unfold rangeR; rw [if_neg (by omega), if_pos (by omega)])
      go_enter Tryd.func17, Tryd.ntmps17
      go_wp2
      go_ret2
      exact ⟨ret_ue (by rw [E.out]; rfl) (by rw [E.out]), rfl⟩
    · have d1 : decide (b < a) = false := decide_eq_false (by omega)
      by_cases h4 : step < 1
      · have E : Hid (rangeR a b step = (0, 2)) := Lib.hid (by unfold rangeR; rw [if_neg (by omega), if_pos (by omega)])
        go_enter Tryd.func17, Tryd.ntmps17
        go_wp2
        go_ret2
        exact ⟨ret_ue (by rw [E.out]; rfl) (by rw [E.out]), rfl⟩
      · obtain ⟨n, rfl⟩ := Int.eq_ofNat_of_zero_le (show 0 ≤ step by omega)
        have E : Hid (rangeR a b n = (rangeS a b n, 0)) := Lib.hid (by unfold rangeR; rw [if_neg (by omega), if_neg (by omega)]; simp)
        have d2 : decide ((n : Int) < 1) = false := decide_eq_false (by omega)
        have hn : 1 ≤ (n : Int) := by omega
        clear h4
        go_enter Tryd.func17, Tryd.ntmps17
        go_wp2
        go_loop [8, 9] (fun o i => ∃ v : Nat, a ≤ v ∧ v ≤ b + 1 ∧ i = .int .i64 v ∧ o = .int .u64 ((mk fun i => decide (a ≤ i) && decide (i < v) && decide ((i - a) % n = 0) : Nat) : Int)) (fun _ i => b + 2 - (intOf i).toNat)
        case atStart => exact ⟨a, by omega, by omega, rfl, by rw [range_zero]; rfl⟩
        case round =>
          obtain ⟨v, v1, v2, rfl, rfl⟩ := hrel
          by_cases hlt : v ≤ b
          · have HN := Lib.hid (rrange_next (st := n) v1 (show v < 64 by omega))
            have hlo := mk_lt fun i => decide (a ≤ i) && decide (i < v) && decide ((i - a) % n = 0)
            generalize hS : mk (fun i => decide (a ≤ i) && decide (i < v) && decide ((i - a) % n = 0)) = S at *
            have HO := Lib.hid (or_word S v hlo (by omega))
            have HC : Hid (((v : Int) - (a : Int)) % (n : Int) = (((v - a) % n : Nat) : Int)) := Lib.hid (by rw [Int.natCast_emod]; congr 1; omega)
            clear hS
            by_cases hm : (v - a) % n = 0
            · have ht : (((v : Int) - (a : Int)) % (n : Int) == 0) = true := by rw [HC.out, hm]; rfl
              rw [if_pos hm] at HN
              clear hm
              go_wp2
              go_round
              case rel => exact ⟨v + 1, by omega, by omega, by go_num, by rw [HO.out, HN.out]⟩
              case measure => simp [intOf]; omega
            · have ht : (((v : Int) - (a : Int)) % (n : Int) == 0) = false := by rw [HC.out, beq_eq_false_iff_ne]; omega
              rw [if_neg hm] at HN
              clear hm
              go_wp2
              go_round
              case rel => exact ⟨v + 1, by omega, by omega, by go_num, by rw [HN.out]⟩
              case measure => simp [intOf]; omega
          · have FIN : Hid (mk (fun i => decide (a ≤ i) && decide (i < v) && decide ((i - a) % n = 0)) = rangeS a b n) := Lib.hid (mk_ext fun i _ => by
              have : decide (i < v) = decide (i ≤ b) := by rw [decide_eq_decide]; omega
              rw [this])
            go_wp2
            go_ret2
            exact ⟨ret_ue (by rw [E.out, FIN.out]) (by rw [E.out]), rfl⟩
  · have E : Hid (rangeR lo hi step = (0, 3)) := Lib.hid (by unfold rangeR; rw [if_pos (by omega)])
    go_enter Tryd.func17, Tryd.ntmps17
    go_wp2_with fail
    all_goals first
      | (go_ret2; exact ⟨ret_ue (by rw [E.out]; rfl) (by rw [E.out]), rfl⟩)
      | (exfalso; omega)

/-! ### Inside -/
/-- Whether all members of a are in b. -/
def sub (a b : Nat) : Bool := a &&& b == a
theorem sub_iff {a b : Nat} (ha : a < 18446744073709551616) : sub a b = true ↔ ∀ i, i < 64 → a.testBit i = true → b.testBit i = true := by
  unfold sub
  rw [beq_iff_eq]
  constructor
  · intro h i _ hi
    have : (a &&& b).testBit i = true := by rw [h]; exact hi
    rw [Nat.testBit_and, hi, Bool.true_and] at this
    exact this
  · intro h
    apply Nat.eq_of_testBit_eq
    intro i
    rw [Nat.testBit_and]
    by_cases hi : i < 64
    · cases ha : a.testBit i with
      | true => simp [h i hi ha]
      | false => simp
    · rw [Nat.testBit_lt_two_pow (Nat.lt_of_lt_of_le (show a < 2 ^ 64 from ha) (Nat.pow_le_pow_right (by decide) (by omega)))]; simp
theorem andNot_word (a b : Nat) (ha : a < 18446744073709551616) (hb : b < 18446744073709551616) : bits .andNot .u64 (a : Int) (b : Int) = ((a ^^^ (a &&& b) : Nat) : Int) := by
  have h1 : (BitVec.ofInt 64 (a : Int)).toNat = a := by
    rw [BitVec.ofInt_natCast, BitVec.toNat_ofNat]; exact Nat.mod_eq_of_lt (by omega)
  have h2 : (BitVec.ofInt 64 (b : Int)).toNat = b := by
    rw [BitVec.ofInt_natCast, BitVec.toNat_ofNat]; exact Nat.mod_eq_of_lt (by omega)
  show IntKind.u64.wrap ((BitVec.ofInt 64 (a : Int) &&& ~~~ BitVec.ofInt 64 (b : Int)).toNat : Int) = _
  have hx : a ^^^ (a &&& b) < 2 ^ 64 := Nat.xor_lt_two_pow (by omega) (Nat.and_lt_two_pow _ (by omega))
  have e : (BitVec.ofInt 64 (a : Int) &&& ~~~ BitVec.ofInt 64 (b : Int)).toNat = a ^^^ (a &&& b) := by
    apply Nat.eq_of_testBit_eq
    intro i
    rw [← BitVec.getLsbD, BitVec.getLsbD_and, BitVec.getLsbD_not, Nat.testBit_xor, Nat.testBit_and]
    simp only [BitVec.getLsbD, h1, h2]
    by_cases hi : i < 64
    · cases a.testBit i <;> cases b.testBit i <;> simp [hi]
    · rw [Nat.testBit_lt_two_pow (Nat.lt_of_lt_of_le (show a < 2 ^ 64 from ha) (Nat.pow_le_pow_right (by decide) (by omega)))]; simp
  rw [e, IntKind.wrap_u64]
  omega
theorem sub_andNot (a b : Nat) : sub a b = (((a ^^^ (a &&& b) : Nat) : Int) == 0) := by
  unfold sub
  rw [Bool.eq_iff_iff, beq_iff_eq, beq_iff_eq]
  constructor
  · intro h; rw [h]; simp
  · intro h
    have h0 : a ^^^ (a &&& b) = 0 := by omega
    apply Nat.eq_of_testBit_eq
    intro i
    have h1 : (a ^^^ (a &&& b)).testBit i = false := by rw [h0]; simp
    rw [Nat.testBit_xor] at h1
    cases ha : a.testBit i <;> cases hb : (a &&& b).testBit i <;> simp [ha, hb] at h1 ⊢
set_option maxHeartbeats 400000 in
theorem sub_ok (a b : Nat) (ha : a < 18446744073709551616) (hb : b < 18446744073709551616) (w : World) :
    Calls Tryd.prog 28 #[.int .u64 a, .int .u64 b] w fun e w' => e = .returned (.bool (sub a b)) ∧ w = w' := by
  go_enter Tryd.func28, Tryd.ntmps28
  go_wp2
  go_ret
  exact ⟨ret_bool (by rw [sub_andNot, andNot_word a b ha hb]), rfl⟩
set_option maxHeartbeats 400000 in
theorem rsub_ok (a b : Nat) (ha : a < 18446744073709551616) (hb : b < 18446744073709551616) (w : World) :
    Calls Tryd.prog 29 #[.int .u64 a, .int .u64 b] w fun e w' => e = .returned (.bool (sub a b)) ∧ w = w' := by
  go_enter Tryd.func29, Tryd.ntmps29
  go_wp2
  go_ret
  exact ⟨ret_bool (by rw [bits_and_u64_nat a b ha hb]; unfold sub; rw [Bool.eq_iff_iff, beq_iff_eq, beq_iff_eq]; omega), rfl⟩
end Go.Proofs.YtcgnnmpgdnajnaaDoor.BW
