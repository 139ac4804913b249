/- Contracts of bits.Next, Prev and the reference's Next, Prev. -/
import Derived.Test.YtcgnnmpgdnajnaaDoorBitsA
namespace Go.Proofs.YtcgnnmpgdnajnaaDoor.BW
open Go.RowKit BM

theorem ret_ib {a b : Int} {c d : Bool} (h : a = b) (h' : c = d) : Ending.returned (.tuple #[.int .i64 a, .bool c]) = .returned (.tuple #[.int .i64 b, .bool d]) := by rw [h, h']
/-- A number and whether there is one. -/
def num (r : Option Nat) : Int := (r.getD 0 : Nat)

theorem max0 (v : Int) : (max v 0).toNat = v.toNat := by omega
theorem cut_word (s : Nat) (k : Nat) (hs : s < 18446744073709551616) : IntKind.u64.wrap ((s : Int) / 2 ^ k * 2 ^ k) = ((s / 2 ^ k * 2 ^ k : Nat) : Int) := by
  have h := cut_le s k
  have e : ((s : Int) / 2 ^ k * 2 ^ k) = ((s / 2 ^ k * 2 ^ k : Nat) : Int) := by
    rw [Int.natCast_mul, Int.natCast_ediv]; simp
  rw [e, IntKind.wrap_u64]
  omega

set_option maxHeartbeats 400000 in
theorem next_ok (s : Nat) (v : Int) (hs : s < 18446744073709551616) (w : World) (hT : Tab w) :
    Calls Tryd.prog 21 #[.int .u64 s, .int .i64 v] w fun e w' => e = .returned (.tuple #[.int .i64 (num (nx s v)), .bool (nx s v).isSome]) ∧ w = w' := by
  by_cases h1 : 63 < v
  · have e := Lib.hid (nx_big s v h1)
    go_enter Tryd.func21, Tryd.ntmps21
    go_wp2
    go_ret2
    exact ⟨ret_ib (by rw [e.out]; rfl) (by rw [e.out]; rfl), rfl⟩
  · have E := Lib.hid (nx_cut s v.toNat v rfl)
    have CW := cut_word s v.toNat hs
    rw [← max0] at CW
    have hl := cut_le s v.toNat
    rw [max0] at CW
    generalize hx : s / 2 ^ v.toNat * 2 ^ v.toNat = x at *
    clear hx
    rw [← max0] at CW
    have hT' := Lib.hid hT
    clear hT
    by_cases h0 : x = 0
    · subst h0
      have EE := Lib.hid (E.out.symm.trans (nx_zero 0))
      clear E
      have hz : (((0 : Nat) : Int) == 0) = true := rfl
      go_enter Tryd.func21, Tryd.ntmps21
      go_wp2
      go_ret2
      exact ⟨ret_ib (by rw [EE.out]; rfl) (by rw [EE.out]; rfl), rfl⟩
    · have EE := Lib.hid (E.out.symm.trans (nx_ctz x h0 (by omega)))
      clear E
      have hz : ((x : Int) == 0) = false := by simp; omega
      go_enter Tryd.func21, Tryd.ntmps21
      go_wp2_with (go_at_call 37; refine (tz_ok x (by omega) h0 _ hT'.out).mono ?_; rintro e w' ⟨rfl, rfl⟩)
      go_ret2
      exact ⟨ret_ib (by rw [EE.out]; rfl) (by rw [EE.out]; rfl), rfl⟩

theorem high_word (s k : Nat) (_hk : k < 64) (_hs : s < 18446744073709551616) : IntKind.u64.wrap ((s : Int) * 2 ^ k) / 2 ^ k = ((s * 2 ^ k % 2 ^ 64 / 2 ^ k : Nat) : Int) := by
  have e : ((s : Int) * 2 ^ k) = ((s * 2 ^ k : Nat) : Int) := by rw [Int.natCast_mul]; simp
  rw [e, IntKind.wrap_u64, Int.natCast_ediv, Int.natCast_emod]
  simp

theorem bitLenAux_eq : ∀ (f x : Nat), x < 2 ^ f → Lib.bitLenAux f x = bitLen x
  | 0, x, h => by simp at h; subst h; simp [Lib.bitLenAux, bitLen]
  | f + 1, x, h => by
    by_cases h0 : x = 0
    · subst h0; simp [Lib.bitLenAux, bitLen]
    · have h2 : x / 2 < 2 ^ f := by rw [Nat.pow_succ] at h; omega
      simp only [Lib.bitLenAux, h0, if_false, bitLenAux_eq f (x / 2) h2, bitLen]
      by_cases h1 : x / 2 = 0
      · have : x = 1 := by omega
        subst this; decide
      · simp only [h1, if_false]
        have e : x.log2 = (x / 2).log2 + 1 := by rw [Nat.log2_def, if_pos (by omega)]
        omega
theorem bitLen_lib (x : Nat) (h : x < 2 ^ 64) : Lib.bitLen x = bitLen x := bitLenAux_eq 64 x h

set_option maxHeartbeats 400000 in
theorem prev_ok (s : Nat) (v : Int) (hs : s < 18446744073709551616) (w : World) :
    Calls Tryd.prog 30 #[.int .u64 s, .int .i64 v] w fun e w' => e = .returned (.tuple #[.int .i64 (num (pv s v)), .bool (pv s v).isSome]) ∧ w = w' := by
  by_cases h1 : v < 0
  · have e := Lib.hid (pv_neg s v h1)
    go_enter Tryd.func30, Tryd.ntmps30
    go_wp2
    go_ret2
    exact ⟨ret_ib (by rw [e.out]; rfl) (by rw [e.out]; rfl), rfl⟩
  · obtain ⟨k, hk, hk64⟩ : ∃ k : Nat, (63 - min v 63).toNat = k ∧ k < 64 := ⟨_, rfl, by omega⟩
    have E := Lib.hid (pv_high s k v (by split <;> omega) (by omega))
    have CW := high_word s k hk64 hs
    have hl : s * 2 ^ k % 2 ^ 64 / 2 ^ k < 18446744073709551616 := high_lt s k hk64
    generalize hx : s * 2 ^ k % 2 ^ 64 / 2 ^ k = x at *
    clear hx
    rw [← hk] at CW
    have HK := Lib.hid hk
    clear hk
    by_cases h0 : x = 0
    · subst h0
      have EE := Lib.hid (E.out.symm.trans (pv_zero 63))
      clear E
      have hz : (((0 : Nat) : Int) == 0) = true := rfl
      clear hl
      go_enter Tryd.func30, Tryd.ntmps30
      go_wp2
      go_ret2
      exact ⟨ret_ib (by rw [EE.out]; rfl) (by rw [EE.out]; rfl), rfl⟩
    · have EE := Lib.hid (E.out.symm.trans (pv_len x h0 (by omega)))
      clear E
      have hz : ((x : Int) == 0) = false := by simp; omega
      have hb := (BM.bitLen_spec x h0).1
      have hb2 := bitLen_le64 x (by omega)
      have e := Lib.hid (bitLen_lib x (by omega))
      generalize bitLen x = l at *
      go_enter Tryd.func30, Tryd.ntmps30
      go_wp2_with (go_at_call 40; refine (len_ok x _ (by omega)).mono ?_; rintro e w' ⟨rfl, rfl⟩; rw [e.out])
      go_ret2
      exact ⟨ret_ib (by rw [EE.out]; show _ = ((l - 1 : Nat) : Int); omega) (by rw [EE.out]; rfl), rfl⟩

set_option maxHeartbeats 400000 in
theorem rnext_ok (s : Nat) (v : Int) (hs : s < 18446744073709551616) (w : World) :
    Calls Tryd.prog 31 #[.int .u64 s, .int .i64 v] w fun e w' => e = .returned (.tuple #[.int .i64 (num (nx s v)), .bool (nx s v).isSome]) ∧ w = w' := by
  go_enter Tryd.func31, Tryd.ntmps31
  go_wp2
  go_loop [6] (fun i => ∃ k : Nat, k ≤ 64 ∧ i = .int .i64 k ∧ ∀ j : Nat, j < k → v ≤ (j : Int) → s.testBit j = false) (fun i => 64 - (intOf i).toNat)
  case atStart => exact ⟨0, by omega, rfl, fun j hj => by omega⟩
  case round =>
    obtain ⟨k, hk, rfl, hall⟩ := hrel
    have H := Lib.hid hall
    clear hall
    by_cases hlt : k < 64
    · have hh := Lib.hid (has_nat s k hlt)
      by_cases hv : v ≤ (k : Int)
      · by_cases hb : s.testBit k = true
        · have HB := Lib.hid hb
          clear hb
          go_wp2_with (go_at_call 34; refine (rhas_ok _ _ hs _).mono ?_; rintro e w' ⟨rfl, rfl⟩; rw [hh.out, HB.out])
          go_ret2
          have e := nx_some.2 ⟨hlt, hv, HB.out, H.out⟩
          exact ⟨ret_ib (by rw [e]; rfl) (by rw [e]; rfl), rfl⟩
        · have HB := Lib.hid hb
          clear hb
          go_wp2_with (go_at_call 34; refine (rhas_ok _ _ hs _).mono ?_; rintro e w' ⟨rfl, rfl⟩; rw [hh.out, Bool.eq_false_iff.2 HB.out])
          go_round
          case rel => exact ⟨k + 1, by omega, by go_num, fun j hj hvj => by
            by_cases e : j = k
            · subst e; exact Bool.eq_false_iff.2 HB.out
            · exact H.out j (by omega) hvj⟩
          case measure => simp [intOf]; omega
      · go_wp2
        go_round
        case rel => exact ⟨k + 1, by omega, by go_num, fun j hj hvj => by
          by_cases e : j = k
          · subst e; omega
          · exact H.out j (by omega) hvj⟩
        case measure => simp [intOf]; omega
    · have e := Lib.hid (nx_none.2 fun i hi hvi => H.out i (by omega) hvi)
      go_wp2
      go_ret2
      exact ⟨ret_ib (by rw [e.out]; rfl) (by rw [e.out]; rfl), rfl⟩

set_option maxHeartbeats 400000 in
theorem rprev_ok (s : Nat) (v : Int) (hs : s < 18446744073709551616) (w : World) :
    Calls Tryd.prog 32 #[.int .u64 s, .int .i64 v] w fun e w' => e = .returned (.tuple #[.int .i64 (num (pv s v)), .bool (pv s v).isSome]) ∧ w = w' := by
  go_enter Tryd.func32, Tryd.ntmps32
  go_wp2
  go_loop [6] (fun i => ∃ k : Int, -1 ≤ k ∧ k ≤ 63 ∧ i = .int .i64 k ∧ ∀ j : Nat, k < (j : Int) → j < 64 → (j : Int) ≤ v → s.testBit j = false) (fun i => (1 + intOf i).toNat)
  case atStart => exact ⟨63, by omega, by omega, rfl, fun j hj => by omega⟩
  case round =>
    obtain ⟨k, hk, hk2, rfl, hall⟩ := hrel
    have H := Lib.hid hall
    clear hall
    by_cases hlt : 0 ≤ k
    · obtain ⟨n, rfl⟩ := Int.eq_ofNat_of_zero_le hlt
      have hh := Lib.hid (has_nat s n (by omega))
      by_cases hv : (n : Int) ≤ v
      · by_cases hb : s.testBit n = true
        · have HB := Lib.hid hb
          clear hb
          go_wp2_with (go_at_call 34; refine (rhas_ok _ _ hs _).mono ?_; rintro e w' ⟨rfl, rfl⟩; rw [hh.out, HB.out])
          go_ret2
          have e := pv_some.2 ⟨by omega, hv, HB.out, fun j hj hj2 hvj => H.out j (by omega) hj2 hvj⟩
          exact ⟨ret_ib (by rw [e]; rfl) (by rw [e]; rfl), rfl⟩
        · have HB := Lib.hid hb
          clear hb
          go_wp2_with (go_at_call 34; refine (rhas_ok _ _ hs _).mono ?_; rintro e w' ⟨rfl, rfl⟩; rw [hh.out, Bool.eq_false_iff.2 HB.out])
          go_round
          case rel => exact ⟨(n : Int) - 1, by omega, by omega, rfl, fun j hj hj2 hvj => by
            by_cases e : j = n
            · subst e; exact Bool.eq_false_iff.2 HB.out
            · exact H.out j (by omega) hj2 hvj⟩
          case measure => simp [intOf]; omega
      · go_wp2
        go_round
        case rel => exact ⟨(n : Int) - 1, by omega, by omega, rfl, fun j hj hj2 hvj => by
          by_cases e : j = n
          · subst e; omega
          · exact H.out j (by omega) hj2 hvj⟩
        case measure => simp [intOf]; omega
    · have e := Lib.hid (pv_none.2 fun i hi hvi => H.out i (by omega) hi hvi)
      go_wp2
      go_ret2
      exact ⟨ret_ib (by rw [e.out]; rfl) (by rw [e.out]; rfl), rfl⟩

end Go.Proofs.YtcgnnmpgdnajnaaDoor.BW
