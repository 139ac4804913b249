/- Contracts of bits.Turn, Range, Inside, Of and the reference's. -/
import Derived.Test.YtcgnnmpgdnajnaaDoorBitsB
namespace Go.Proofs.YtcgnnmpgdnajnaaDoor.BW
open Go.RowKit BM

theorem next_some {s i : Nat} {v : Int} (hs : s < 18446744073709551616) (w : World) (hT : Tab w) (h : nx s v = some i) :
    Calls Tryd.prog 21 #[.int .u64 s, .int .i64 v] w fun e w' => e = .returned (.tuple #[.int .i64 i, .bool true]) ∧ w = w' := by
  have := next_ok s v hs w hT
  rw [h] at this
  exact this
theorem next_none {s : Nat} {v : Int} (hs : s < 18446744073709551616) (w : World) (hT : Tab w) (h : nx s v = none) :
    Calls Tryd.prog 21 #[.int .u64 s, .int .i64 v] w fun e w' => e = .returned (.tuple #[.int .i64 0, .bool false]) ∧ w = w' := by
  have := next_ok s v hs w hT
  rw [h] at this
  exact this

/-! ### Around a circle -/
/-- How many steps from f on a circle of z places to the first member. -/
def tn (s f z : Nat) : Option Nat := (List.range z).find? fun n => s.testBit ((f + n) % z)
theorem tn_some {s f z n : Nat} : tn s f z = some n ↔ n < z ∧ s.testBit ((f + n) % z) = true ∧ ∀ j, j < n → s.testBit ((f + j) % z) = false := by
  unfold tn
  rw [List.find?_range_eq_some]
  simp only [List.mem_range, Bool.not_eq_true']
  constructor
  · rintro ⟨h1, h2, h3⟩; exact ⟨h2, h1, h3⟩
  · rintro ⟨h1, h2, h3⟩; exact ⟨h2, h1, h3⟩
theorem tn_none {s f z : Nat} : tn s f z = none ↔ ∀ j, j < z → s.testBit ((f + j) % z) = false := by
  unfold tn
  rw [List.find?_eq_none]
  simp only [List.mem_range, Bool.not_eq_true]
theorem turn_first {s f z v : Nat} (_hf : f < z) (_hz : z ≤ 64) (h : nx s f = some v) (hv : v < z) : f ≤ v ∧ tn s f z = some (v - f) := by
  obtain ⟨h1, h2, h3, h4⟩ := nx_some.1 h
  have hfv : f ≤ v := by omega
  refine ⟨hfv, tn_some.2 ⟨by omega, ?_, fun j hj => ?_⟩⟩
  · rw [show f + (v - f) = v from by omega, Nat.mod_eq_of_lt hv]; exact h3
  · rw [Nat.mod_eq_of_lt (by omega)]; exact h4 _ (by omega) (by omega)
theorem turn_second {s f z v : Nat} (hf : f < z) (hz : z ≤ 64) (h : ∀ i, nx s f = some i → z ≤ i) (h0 : nx s 0 = some v) (hv : v < z) : v < f ∧ tn s f z = some (v + z - f) := by
  obtain ⟨h1, h2, h3, h4⟩ := nx_some.1 h0
  have hno : ∀ j, f ≤ j → j < z → s.testBit j = false := by
    intro j hj hjz
    cases hn : nx s f with
    | none => exact nx_none.1 hn j (by omega) (by omega)
    | some i =>
      have := h i hn
      exact (nx_some.1 hn).2.2.2 j (by omega) (by omega)
  have hvf : v < f := by
    apply Nat.lt_of_not_le
    intro hle
    rw [hno v hle hv] at h3
    cases h3
  refine ⟨hvf, tn_some.2 ⟨by omega, ?_, fun j hj => ?_⟩⟩
  · rw [show f + (v + z - f) = v + z from by omega, Nat.add_mod_right, Nat.mod_eq_of_lt hv]; exact h3
  · by_cases hjz : f + j < z
    · rw [Nat.mod_eq_of_lt hjz]; exact hno _ (by omega) hjz
    · have e : (f + j) % z = f + j - z := by
        rw [Nat.mod_eq_sub_mod (by omega), Nat.mod_eq_of_lt (by omega)]
      rw [e]; exact h4 _ (by omega) (by omega)
theorem turn_no {s f z : Nat} (_hf : f < z) (hz : z ≤ 64) (h0 : ∀ i, nx s 0 = some i → z ≤ i) : tn s f z = none := by
  refine tn_none.2 fun j hj => ?_
  have hlt : (f + j) % z < z := Nat.mod_lt _ (by omega)
  cases hn : nx s 0 with
  | none => exact nx_none.1 hn _ (by omega) (by omega)
  | some i =>
    have := h0 i hn
    exact (nx_some.1 hn).2.2.2 _ (by omega) (by omega)
/-- What Turn returns: the number met, the steps. -/
def turnR (s : Nat) (f z : Int) : Option (Nat × Nat) :=
  if 1 ≤ z ∧ z ≤ 64 ∧ 0 ≤ f ∧ f < z then (tn s f.toNat z.toNat).map fun n => ((f.toNat + n) % z.toNat, n) else none
theorem turnR_in {s : Nat} {f z : Nat} (hz : z ≤ 64) (hf : f < z) : turnR s f z = (tn s f z).map fun n => ((f + n) % z, n) := by
  unfold turnR
  rw [if_pos ⟨by omega, by omega, by omega, by omega⟩, Int.toNat_natCast, Int.toNat_natCast]
def T1 (r : Option (Nat × Nat)) : Int := ((r.map (·.1)).getD 0 : Nat)
def T2 (r : Option (Nat × Nat)) : Int := ((r.map (·.2)).getD 0 : Nat)
theorem ret_iib {a b a' b' : Int} {c d : Bool} (h : a = b) (h2 : a' = b') (h' : c = d) : Ending.returned (.tuple #[.int .i64 a, .int .i64 a', .bool c]) = .returned (.tuple #[.int .i64 b, .int .i64 b', .bool d]) := by rw [h, h2, h']

set_option maxHeartbeats 1000000 in
theorem turn_ok (s : Nat) (f z : Int) (hs : s < 18446744073709551616) (w : World) (hT0 : Tab w) :
    Calls Tryd.prog 20 #[.int .u64 s, .int .i64 f, .int .i64 z] w fun e w' => e = .returned (.tuple #[.int .i64 (T1 (turnR s f z)), .int .i64 (T2 (turnR s f z)), .bool (turnR s f z).isSome]) ∧ w = w' := by
  have hT := Lib.hid hT0
  clear hT0
  by_cases hin : 1 ≤ z ∧ z ≤ 64 ∧ 0 ≤ f ∧ f < z
  · obtain ⟨a1, a2, a3, a4⟩ := hin
    obtain ⟨g, rfl⟩ := Int.eq_ofNat_of_zero_le a3
    obtain ⟨y, rfl⟩ := Int.eq_ofNat_of_zero_le (show 0 ≤ z by omega)
    have HR := Lib.hid (turnR_in (s := s) (f := g) (z := y) (by omega) (by omega))
    by_cases hb : ∃ i, nx s g = some i ∧ i < y
    · obtain ⟨i, hi, hiy⟩ := hb
      have c1 := fun w (h : Tab w) => next_some hs w h hi
      obtain ⟨hgi, ht⟩ := turn_first (by omega) (by omega) hi hiy
      have HH := Lib.hid ht
      have C1 := Lib.hid c1
      clear hi ht c1
      go_enter Tryd.func20, Tryd.ntmps20
      go_wp2_with (go_at_call 21; refine (C1.out _ hT.out).mono ?_; rintro e w' ⟨rfl, rfl⟩)
      go_ret3
      refine ⟨ret_iib ?_ ?_ ?_, rfl⟩ <;> rw [HR.out, HH.out]
      · show _ = (((g + (i - g)) % y : Nat) : Int)
        rw [show g + (i - g) = i from by omega, Nat.mod_eq_of_lt hiy]
      · show _ = ((i - g : Nat) : Int)
        omega
      · rfl
    · have hno : ∀ i, nx s g = some i → y ≤ i := fun i hi => Nat.le_of_not_lt fun h => hb ⟨i, hi, h⟩
      clear hb
      by_cases hb2 : ∃ i, nx s 0 = some i ∧ i < y
      · obtain ⟨i, hi, hiy⟩ := hb2
        obtain ⟨hgi, ht⟩ := turn_second (by omega) (by omega) hno hi hiy
        have HH := Lib.hid ht
        have C2 := Lib.hid (fun w (h : Tab w) => next_some hs w h hi)
        have FIN : Hid (T1 (turnR s g y) = i ∧ T2 (turnR s g y) = (i : Int) + y - g ∧ (turnR s g y).isSome = true) := by
          refine Lib.hid ⟨?_, ?_, ?_⟩ <;> rw [HR.out, HH.out]
          · show (((g + (i + y - g)) % y : Nat) : Int) = _
            rw [show g + (i + y - g) = i + y from by omega, Nat.add_mod_right, Nat.mod_eq_of_lt hiy]
          · show ((i + y - g : Nat) : Int) = _
            omega
          · rfl
        clear hi ht
        cases hn : nx s g with
        | none =>
          have C1 := Lib.hid (fun w (h : Tab w) => next_none hs w h hn)
          clear hn hno
          go_enter Tryd.func20, Tryd.ntmps20
          go_wp2_with fail
          refine (C1.out _ hT.out).mono ?_
          rintro e w' ⟨rfl, rfl⟩
          go_wp2_with fail
          refine (C2.out _ hT.out).mono ?_
          rintro e w' ⟨rfl, rfl⟩
          go_wp2_with fail
          go_ret3
          exact ⟨ret_iib FIN.out.1.symm FIN.out.2.1.symm FIN.out.2.2.symm, rfl⟩
        | some j =>
          have hj := hno j hn
          have C1 := Lib.hid (fun w (h : Tab w) => next_some hs w h hn)
          clear hn hno
          go_enter Tryd.func20, Tryd.ntmps20
          go_wp2_with fail
          refine (C1.out _ hT.out).mono ?_
          rintro e w' ⟨rfl, rfl⟩
          go_wp2_with fail
          refine (C2.out _ hT.out).mono ?_
          rintro e w' ⟨rfl, rfl⟩
          go_wp2_with fail
          go_ret3
          exact ⟨ret_iib FIN.out.1.symm FIN.out.2.1.symm FIN.out.2.2.symm, rfl⟩
      · have hno2 : ∀ i, nx s 0 = some i → y ≤ i := fun i hi => Nat.le_of_not_lt fun h => hb2 ⟨i, hi, h⟩
        clear hb2
        have ht := turn_no (f := g) (by omega) (by omega) hno2
        have FIN : Hid (T1 (turnR s g y) = 0 ∧ T2 (turnR s g y) = 0 ∧ (turnR s g y).isSome = false) := by
          refine Lib.hid ⟨?_, ?_, ?_⟩ <;> rw [HR.out, ht] <;> rfl
        clear ht
        cases hn : nx s g with
        | none =>
          have C1 := Lib.hid (fun w (h : Tab w) => next_none hs w h hn)
          clear hn hno
          cases hn2 : nx s 0 with
          | none =>
            have C2 := Lib.hid (fun w (h : Tab w) => next_none hs w h hn2)
            clear hn2 hno2
            go_enter Tryd.func20, Tryd.ntmps20
            go_wp2_with fail
            refine (C1.out _ hT.out).mono ?_
            rintro e w' ⟨rfl, rfl⟩
            go_wp2_with fail
            refine (C2.out _ hT.out).mono ?_
            rintro e w' ⟨rfl, rfl⟩
            go_wp2_with fail
            go_ret3
            exact ⟨ret_iib FIN.out.1.symm FIN.out.2.1.symm FIN.out.2.2.symm, rfl⟩
          | some k =>
            have hk := hno2 k hn2
            have C2 := Lib.hid (fun w (h : Tab w) => next_some hs w h hn2)
            clear hn2 hno2
            go_enter Tryd.func20, Tryd.ntmps20
            go_wp2_with fail
            refine (C1.out _ hT.out).mono ?_
            rintro e w' ⟨rfl, rfl⟩
            go_wp2_with fail
            refine (C2.out _ hT.out).mono ?_
            rintro e w' ⟨rfl, rfl⟩
            go_wp2_with fail
            go_ret3
            exact ⟨ret_iib FIN.out.1.symm FIN.out.2.1.symm FIN.out.2.2.symm, rfl⟩
        | some j =>
          have hj := hno j hn
          have C1 := Lib.hid (fun w (h : Tab w) => next_some hs w h hn)
          clear hn hno
          cases hn2 : nx s 0 with
          | none =>
            have C2 := Lib.hid (fun w (h : Tab w) => next_none hs w h hn2)
            clear hn2 hno2
            go_enter Tryd.func20, Tryd.ntmps20
            go_wp2_with fail
            refine (C1.out _ hT.out).mono ?_
            rintro e w' ⟨rfl, rfl⟩
            go_wp2_with fail
            refine (C2.out _ hT.out).mono ?_
            rintro e w' ⟨rfl, rfl⟩
            go_wp2_with fail
            go_ret3
            exact ⟨ret_iib FIN.out.1.symm FIN.out.2.1.symm FIN.out.2.2.symm, rfl⟩
          | some k =>
            have hk := hno2 k hn2
            have C2 := Lib.hid (fun w (h : Tab w) => next_some hs w h hn2)
            clear hn2 hno2
            go_enter Tryd.func20, Tryd.ntmps20
            go_wp2_with fail
            refine (C1.out _ hT.out).mono ?_
            rintro e w' ⟨rfl, rfl⟩
            go_wp2_with fail
            refine (C2.out _ hT.out).mono ?_
            rintro e w' ⟨rfl, rfl⟩
            go_wp2_with fail
            go_ret3
            exact ⟨ret_iib FIN.out.1.symm FIN.out.2.1.symm FIN.out.2.2.symm, rfl⟩
  · have FIN : Hid (T1 (turnR s f z) = 0 ∧ T2 (turnR s f z) = 0 ∧ (turnR s f z).isSome = false) := by
      have : turnR s f z = none := by unfold turnR; rw [if_neg hin]
      exact Lib.hid (by rw [this]; exact ⟨rfl, rfl, rfl⟩)
    go_enter Tryd.func20, Tryd.ntmps20
    go_wp2_with fail
    all_goals first
      | (go_ret3; exact ⟨ret_iib FIN.out.1.symm FIN.out.2.1.symm FIN.out.2.2.symm, rfl⟩)
      | (exfalso; omega)

set_option maxHeartbeats 1000000 in
theorem rturn_ok (s : Nat) (f z : Int) (hs : s < 18446744073709551616) (w : World) :
    Calls Tryd.prog 33 #[.int .u64 s, .int .i64 f, .int .i64 z] w fun e w' => e = .returned (.tuple #[.int .i64 (T1 (turnR s f z)), .int .i64 (T2 (turnR s f z)), .bool (turnR s f z).isSome]) ∧ w = w' := by
  by_cases hin : 1 ≤ z ∧ z ≤ 64 ∧ 0 ≤ f ∧ f < z
  · obtain ⟨a1, a2, a3, a4⟩ := hin
    obtain ⟨g, rfl⟩ := Int.eq_ofNat_of_zero_le a3
    obtain ⟨y, rfl⟩ := Int.eq_ofNat_of_zero_le (show 0 ≤ z by omega)
    have HR := Lib.hid (turnR_in (s := s) (f := g) (z := y) (by omega) (by omega))
    have d1 : decide ((y : Int) < 1) = false := decide_eq_false (by omega)
    have d2 : decide ((64 : Int) < (y : Int)) = false := decide_eq_false (by omega)
    have d3 : decide ((g : Int) < 0) = false := decide_eq_false (by omega)
    have d4 : decide (y ≤ g) = false := decide_eq_false (by omega)
    go_enter Tryd.func33, Tryd.ntmps33
    go_wp2
    go_loop [9] (fun i => ∃ k : Nat, k ≤ y ∧ i = .int .i64 k ∧ ∀ j : Nat, j < k → s.testBit ((g + j) % y) = false) (fun i => y - (intOf i).toNat)
    case atStart => exact ⟨0, by omega, rfl, fun j hj => by omega⟩
    case round =>
      obtain ⟨k, hk, rfl, hall⟩ := hrel
      have H := Lib.hid hall
      clear hall
      by_cases hlt : k < y
      · have HM : Hid (((g : Int) + (k : Int)) % (y : Int) = (((g + k) % y : Nat) : Int)) := Lib.hid (by rw [Int.natCast_emod, Int.natCast_add])
        have hml : (g + k) % y < y := Nat.mod_lt _ (by omega)
        have hh := Lib.hid (has_nat s ((g + k) % y) (by omega))
        clear hml
        by_cases hb : s.testBit ((g + k) % y) = true
        · have HB := Lib.hid hb
          have HF := Lib.hid (tn_some.2 ⟨hlt, hb, H.out⟩)
          clear hb
          go_wp2_with (go_at_call 34; rw [HM.out]; refine (rhas_ok _ _ hs _).mono ?_; rintro e w' ⟨rfl, rfl⟩; rw [hh.out, HB.out])
          go_ret3
          exact ⟨ret_iib (by rw [HR.out, HF.out]; exact HM.out) (by rw [HR.out, HF.out]; rfl) (by rw [HR.out, HF.out]; rfl), rfl⟩
        · have HB := Lib.hid hb
          clear hb
          go_wp2_with (go_at_call 34; rw [HM.out]; refine (rhas_ok _ _ hs _).mono ?_; rintro e w' ⟨rfl, rfl⟩; rw [hh.out, Bool.eq_false_iff.2 HB.out])
          go_round
          case rel => exact ⟨k + 1, by omega, by go_num, fun j hj => by
            by_cases e : j = k
            · subst e; exact Bool.eq_false_iff.2 HB.out
            · exact H.out j (by omega)⟩
          case measure => simp [intOf]; omega
      · have HF := Lib.hid (tn_none.2 fun j (hj : j < y) => H.out j (by omega))
        go_wp2
        go_ret3
        exact ⟨ret_iib (by rw [HR.out, HF.out]; rfl) (by rw [HR.out, HF.out]; rfl) (by rw [HR.out, HF.out]; rfl), rfl⟩
  · have FIN : Hid (T1 (turnR s f z) = 0 ∧ T2 (turnR s f z) = 0 ∧ (turnR s f z).isSome = false) := by
      have : turnR s f z = none := by unfold turnR; rw [if_neg hin]
      exact Lib.hid (by rw [this]; exact ⟨rfl, rfl, rfl⟩)
    go_enter Tryd.func33, Tryd.ntmps33
    go_wp2_with fail
    all_goals first
      | (go_ret3; exact ⟨ret_iib FIN.out.1.symm FIN.out.2.1.symm FIN.out.2.2.symm, rfl⟩)
      | (exfalso; omega)
end Go.Proofs.YtcgnnmpgdnajnaaDoor.BW
