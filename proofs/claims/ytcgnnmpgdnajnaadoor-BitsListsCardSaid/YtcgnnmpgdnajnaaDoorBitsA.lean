/- Contracts of bits.inside, bits.Has, the reference's Has, math/bits.TrailingZeros64 and Len64: each function computes what the plain definition says, and leaves the world alone. -/
import Derived.Test.YtcgnnmpgdnajnaaDoorProg
import Derived.Shelf.Strconv.Itoa0
import Derived.WalkKit
import Derived.Lib.Hide
import Derived.Test.YtcgnnmpgdnajnaaDoorBitsMath
namespace Go.Proofs.YtcgnnmpgdnajnaaDoor.BW
open Go.RowKit BM

set_option maxHeartbeats 400000 in
theorem inside_ok (v : Int) (w : World) : Calls Tryd.prog 35 #[.int .i64 v] w fun e w' => e = .returned (.bool (decide (0 ≤ v) && decide (v < 64))) ∧ w = w' := by
  by_cases h1 : 0 ≤ v
  · by_cases h2 : v < 64
    · go_enter Tryd.func35, Tryd.ntmps35
      go_wp2
      go_ret
      exact ⟨by simp [h1, h2], rfl⟩
    · go_enter Tryd.func35, Tryd.ntmps35
      go_wp2
      go_ret
      exact ⟨by simp; omega, rfl⟩
  · go_enter Tryd.func35, Tryd.ntmps35
    go_wp2
    go_ret
    exact ⟨by simp; omega, rfl⟩

theorem word_bit (s k : Nat) (hs : s < 18446744073709551616) : bits .and .u64 ((s : Int) / 2 ^ k) 1 = ((s / 2 ^ k % 2 : Nat) : Int) := by
  have := and1 (s / 2 ^ k) (Nat.lt_of_le_of_lt (Nat.div_le_self _ _) hs)
  rw [← this]
  rw [Int.natCast_ediv]; simp
theorem min64 (v : Int) (h : v < 64) : min v.toNat 64 = v.toNat := by omega

theorem ret_bool {a b : Bool} (h : a = b) : Ending.returned (.bool a) = .returned (.bool b) := by rw [h]
theorem ret_i64 {a b : Int} (h : a = b) : Ending.returned (.int .i64 a) = .returned (.int .i64 b) := by rw [h]
theorem has_word (s : Nat) (v : Int) (hs : s < 18446744073709551616) (h1 : 0 ≤ v) (h2 : v < 64) : (bits .and .u64 ((s : Int) / 2 ^ v.toNat) 1 == 1) = has s v := by
  rw [word_bit s v.toNat hs]
  simp only [has, h1, h2, testBit_eq, decide_true, Bool.true_and]
  rw [Bool.eq_iff_iff]
  simp only [beq_iff_eq, decide_eq_true_eq]
  omega

set_option maxHeartbeats 400000 in
theorem has_ok (s : Nat) (v : Int) (hs : s < 18446744073709551616) (w : World) :
    Calls Tryd.prog 16 #[.int .u64 s, .int .i64 v] w fun e w' => e = .returned (.bool (has s v)) ∧ w = w' := by
  by_cases h : 0 ≤ v ∧ v < 64
  · obtain ⟨h1, h2⟩ := h
    have e1 : (decide (0 ≤ v) && decide (v < 64)) = true := by simp [h1, h2]
    go_enter Tryd.func16, Tryd.ntmps16
    go_wp2_with (go_at_call 35; refine (inside_ok _ _).mono ?_; rintro e w' ⟨rfl, rfl⟩; rw [e1])
    go_ret
    exact ⟨ret_bool (has_word s v hs h1 h2), rfl⟩
  · have e1 : (decide (0 ≤ v) && decide (v < 64)) = false := by simp; omega
    have e2 := has_out s v (by omega)
    go_enter Tryd.func16, Tryd.ntmps16
    go_wp2_with (go_at_call 35; refine (inside_ok _ _).mono ?_; rintro e w' ⟨rfl, rfl⟩; rw [e1])
    go_ret
    exact ⟨ret_bool e2.symm, rfl⟩

set_option maxHeartbeats 400000 in
theorem rhas_ok (s : Nat) (v : Int) (hs : s < 18446744073709551616) (w : World) :
    Calls Tryd.prog 34 #[.int .u64 s, .int .i64 v] w fun e w' => e = .returned (.bool (has s v)) ∧ w = w' := by
  by_cases h1 : 0 ≤ v
  · by_cases h2 : v ≤ 63
    · go_enter Tryd.func34, Tryd.ntmps34
      go_wp2
      go_ret
      exact ⟨ret_bool (has_word s v hs h1 (by omega)), rfl⟩
    · have e2 := Lib.hid (has_out s v (by omega))
      go_enter Tryd.func34, Tryd.ntmps34
      go_wp2
      go_ret
      exact ⟨ret_bool (by rw [e2.out]), rfl⟩
  · have e2 := Lib.hid (has_out s v (by omega))
    go_enter Tryd.func34, Tryd.ntmps34
    go_wp2
    go_ret
    exact ⟨ret_bool (by rw [e2.out]), rfl⟩

/-! ### math/bits.TrailingZeros64 -/
/-- The library's table in its variable. -/
def Tab (w : World) : Prop := ∀ j, j < 64 → w.cell? ⟨0, j, none⟩ = some (.int .u8 ((Lib.deBruijn64tab.getD j 0 : Nat) : Int))
set_option maxHeartbeats 1000000 in
theorem tz_core (x k idx : Nat) (w : World) (hx0 : ((x : Int) == 0) = false)
    (key : IntKind.u64.wrap (bits BinOp.and IntKind.u64 (x : Int) (IntKind.u64.wrap (-(x : Int))) * 285870213051353865) / 288230376151711744 = (idx : Int))
    (hi : idx < 64) (hk : k < 64) (hcell : w.cell? ⟨0, idx, none⟩ = some (.int .u8 k)) :
    Calls Tryd.prog 37 #[.int .u64 x] w fun e w' => e = .returned (.int .i64 k) ∧ w = w' := by
  go_enter Tryd.func37, Tryd.ntmps37
  go_wp2_with (simp only [key])
  go_ret
  exact ⟨rfl, rfl⟩
theorem tz_key (x a : Nat) (hx : x < 18446744073709551616) (hx0 : x ≠ 0) (hlow : x &&& (18446744073709551616 - x) = a) :
    IntKind.u64.wrap (bits BinOp.and IntKind.u64 (x : Int) (IntKind.u64.wrap (-(x : Int))) * 285870213051353865) / 288230376151711744 = ((a * 285870213051353865 % 18446744073709551616 / 288230376151711744 : Nat) : Int) := by
  have e1 : IntKind.u64.wrap (-(x : Int)) = ((18446744073709551616 - x : Nat) : Int) := by rw [IntKind.wrap_u64]; omega
  rw [e1, bits_and_u64_nat x _ hx (by omega), hlow, IntKind.wrap_u64]
  omega
theorem tz_ok (x : Nat) (hx : x < 18446744073709551616) (hx0 : x ≠ 0) (w : World) (hT : Tab w) :
    Calls Tryd.prog 37 #[.int .u64 x] w fun e w' => e = .returned (.int .i64 (Lib.ctz 64 x)) ∧ w = w' := by
  obtain ⟨hlow, hk⟩ := Lib.lowest_bit 64 x hx0 hx
  obtain ⟨hi, htab⟩ := Lib.deBruijn64_at _ hk
  have hcell := hT _ hi
  rw [htab] at hcell
  exact tz_core x _ _ w (by simp; omega) (tz_key x _ hx hx0 hlow) hi hk hcell

/-! ### math/bits.Len64: the kit's contract, laid at this program's numbers -/
section
open Go.Shelf
def lays129_ren : Go.Shelf.Ren := ⟨fun | 129 => 40 | n => n, fun | 53 => 22 | 3 => 3 | 4 => 4 | 46 => 51 | 5 => 5 | 9 => 9 | n => n, fun | n => n⟩
theorem lays129 : Go.Proofs.Lays.n129 Tryd.prog lays129_ren := {
  mixed := by kernel_rfl
  f129 := Tryd.func40.trans (congrArg some (by kernel_rfl))
  t3 := Tryd.underlying3
  a3 := Tryd.isAgg3
  z3 := Tryd.sizeOf3
  v3 := Tryd.zeroValue3
  t4 := Tryd.underlying4
  a4 := Tryd.isAgg4
  z4 := Tryd.sizeOf4
  v4 := Tryd.zeroValue4
  t5 := Tryd.underlying5
  a5 := Tryd.isAgg5
  z5 := Tryd.sizeOf5
  v5 := Tryd.zeroValue5
  t9 := Tryd.underlying9
  a9 := Tryd.isAgg9
  z9 := Tryd.sizeOf9
  v9 := Tryd.zeroValue9
  t46 := Tryd.underlying51
  a46 := Tryd.isAgg51
  z46 := Tryd.sizeOf51
  v46 := Tryd.zeroValue51
  t53 := Tryd.underlying22
  a53 := Tryd.isAgg22
  z53 := Tryd.sizeOf22
  v53 := Tryd.zeroValue22 }
theorem len_ok (x : Nat) (w : World) (h : x < 18446744073709551616) :
    Calls Tryd.prog 40 #[.int .u64 x] w fun e w' => e = .returned (.int .i64 (Lib.bitLen x)) ∧ w = w' :=
  (Any.bits_Len64 lays129 (x : Int) w (by omega) (by omega)).mono fun e w' ⟨h1, h2⟩ => ⟨by rw [h1, Int.toNat_natCast], h2.symm⟩
end
end Go.Proofs.YtcgnnmpgdnajnaaDoor.BW
