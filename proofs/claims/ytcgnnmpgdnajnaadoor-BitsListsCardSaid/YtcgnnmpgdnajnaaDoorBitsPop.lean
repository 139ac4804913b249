/- math/bits.OnesCount64 counts the members of a set. -/
import Derived.Test.YtcgnnmpgdnajnaaDoorBitsA
import Derived.Lib.BitFns
namespace Go.Proofs.YtcgnnmpgdnajnaaDoor.BW
open Go.RowKit BM

/-! ### The word's arithmetic, byte by byte -/
theorem and_byte (a b c d : Nat) (ha : a < 256) (hc : c < 256) : (a + 256 * b) &&& (c + 256 * d) = (a &&& c) + 256 * (b &&& d) := by
  have h1 := Nat.and_mod_two_pow (a := a + 256 * b) (b := c + 256 * d) (n := 8)
  have h2 := Nat.and_div_two_pow (a := a + 256 * b) (b := c + 256 * d) (n := 8)
  have e1 : (a + 256 * b) % 2 ^ 8 = a := by omega
  have e2 : (c + 256 * d) % 2 ^ 8 = c := by omega
  have e3 : (a + 256 * b) / 2 ^ 8 = b := by omega
  have e4 : (c + 256 * d) / 2 ^ 8 = d := by omega
  rw [e1, e2] at h1
  rw [e3, e4] at h2
  omega
def p1 (a : Nat) : Nat := (a / 2 &&& 85) + (a &&& 85)
def p2 (a : Nat) : Nat := (a / 4 &&& 51) + (a &&& 51)
def p3 (a : Nat) : Nat := (a / 16 + a) &&& 15
def M (c : Nat) : Nat → Nat
  | 0 => 0
  | n + 1 => c + 256 * M c n
theorem M_succ (c n : Nat) : M c (n + 1) = c + 256 * M c n := rfl
def S1 (n x : Nat) : Nat := (x / 2 &&& M 85 n) + (x &&& M 85 n)
def S2 (n x : Nat) : Nat := (x / 4 &&& M 51 n) + (x &&& M 51 n)
def S3 (n x : Nat) : Nat := (x / 16 + x) &&& M 15 n
theorem half_mask : ∀ a : Fin 256, ∀ t : Fin 2, (a.val / 2 + 128 * t.val) &&& 85 = (a.val / 2 &&& 85) := by decide +kernel
theorem quarter_mask : ∀ a : Fin 256, ∀ t : Fin 4, (a.val / 4 + 64 * t.val) &&& 51 = (a.val / 4 &&& 51) := by decide +kernel
theorem p1_facts : ∀ a : Fin 256, p1 a.val < 256 := by decide +kernel
theorem p2_facts : ∀ a : Fin 256, p2 (p1 a.val) < 256 ∧ p2 (p1 a.val) % 16 ≤ 4 ∧ p2 (p1 a.val) / 16 ≤ 4 ∧ p3 (p2 (p1 a.val)) = Lib.popAux 8 a.val ∧ Lib.popAux 8 a.val ≤ 8 := by decide +kernel
theorem low_mask : ∀ a : Fin 256, ∀ t : Fin 5, a.val % 16 ≤ 4 → a.val / 16 ≤ 4 → a.val / 16 + a.val + 16 * t.val < 256 ∧ (a.val / 16 + a.val + 16 * t.val) &&& 15 = p3 a.val := by decide +kernel
theorem S1_step (n a b : Nat) (ha : a < 256) : S1 (n + 1) (a + 256 * b) = p1 a + 256 * S1 n b := by
  have e : (a + 256 * b) / 2 = (a / 2 + 128 * (b % 2)) + 256 * (b / 2) := by omega
  have h := half_mask ⟨a, ha⟩ ⟨b % 2, by omega⟩
  simp only at h
  unfold S1 p1; rw [M_succ]
  rw [e, and_byte _ _ _ _ (by omega) (by omega), and_byte _ _ _ _ ha (by omega), h]
  omega
theorem S2_step (n a b : Nat) (ha : a < 256) : S2 (n + 1) (a + 256 * b) = p2 a + 256 * S2 n b := by
  have e : (a + 256 * b) / 4 = (a / 4 + 64 * (b % 4)) + 256 * (b / 4) := by omega
  have h := quarter_mask ⟨a, ha⟩ ⟨b % 4, by omega⟩
  simp only at h
  unfold S2 p2; rw [M_succ]
  rw [e, and_byte _ _ _ _ (by omega) (by omega), and_byte _ _ _ _ ha (by omega), h]
  omega
theorem S3_step (n a b : Nat) (ha : a < 256) (h1 : a % 16 ≤ 4) (h2 : a / 16 ≤ 4) (hb : b % 16 ≤ 4) : S3 (n + 1) (a + 256 * b) = p3 a + 256 * S3 n b := by
  have h := low_mask ⟨a, ha⟩ ⟨b % 16, by omega⟩ h1 h2
  simp only at h
  have e : (a + 256 * b) / 16 + (a + 256 * b) = (a / 16 + a + 16 * (b % 16)) + 256 * (b / 16 + b) := by omega
  unfold S3; rw [M_succ]
  rw [e, and_byte _ _ _ _ h.1 (by omega), h.2]
/-- Each byte becomes the number of its bits. -/
def D : Nat → Nat → Nat
  | 0, _ => 0
  | n + 1, x => Lib.popAux 8 (x % 256) + 256 * D n (x / 256)
theorem S123 : ∀ (n x : Nat), x < 256 ^ n → S3 n (S2 n (S1 n x)) = D n x ∧ S2 n (S1 n x) % 16 ≤ 4
  | 0, x, h => by simp at h; subst h; simp [S1, S2, S3, M, D]
  | n + 1, x, h => by
    have hx : x / 256 < 256 ^ n := by rw [Nat.pow_succ] at h; omega
    obtain ⟨ih, ihb⟩ := S123 n (x / 256) hx
    have e : x = x % 256 + 256 * (x / 256) := by omega
    have hm : x % 256 < 256 := by omega
    obtain ⟨f1, f2, f3, f4, f5⟩ := p2_facts ⟨x % 256, hm⟩
    simp only at f1 f2 f3 f4 f5
    have g1 := p1_facts ⟨x % 256, hm⟩
    simp only at g1
    have hS : S2 (n + 1) (S1 (n + 1) x) = p2 (p1 (x % 256)) + 256 * S2 n (S1 n (x / 256)) := by
      conv => lhs; rw [e]
      rw [S1_step _ _ _ hm, S2_step _ _ _ g1]
    refine ⟨?_, by rw [hS]; omega⟩
    rw [hS, S3_step _ _ _ f1 f2 f3 ihb, ih, f4]
    rfl
theorem popAux_add : ∀ (m n x : Nat), Lib.popAux (m + n) x = Lib.popAux m (x % 2 ^ m) + Lib.popAux n (x / 2 ^ m)
  | 0, n, x => by simp [Lib.popAux]
  | m + 1, n, x => by
    have e : m + 1 + n = (m + n) + 1 := by omega
    rw [e]
    show x % 2 + Lib.popAux (m + n) (x / 2) = (x % 2 ^ (m + 1)) % 2 + Lib.popAux m (x % 2 ^ (m + 1) / 2) + _
    rw [popAux_add m n (x / 2)]
    have e1 : x % 2 ^ (m + 1) % 2 = x % 2 := by rw [Nat.pow_succ, Nat.mul_comm]; exact Nat.mod_mul_right_mod _ _ _
    have e2 : x % 2 ^ (m + 1) / 2 = x / 2 % 2 ^ m := by rw [Nat.pow_succ, Nat.mul_comm]; exact Nat.mod_mul_right_div_self _ _ _
    have e3 : x / 2 / 2 ^ m = x / 2 ^ (m + 1) := by rw [Nat.div_div_eq_div_mul, Nat.pow_succ, Nat.mul_comm]
    rw [e1, e2, e3]
    omega
theorem sum8 (c0 c1 c2 c3 c4 c5 c6 c7 : Nat) (h0 : c0 ≤ 8) (h1 : c1 ≤ 8) (h2 : c2 ≤ 8) (h3 : c3 ≤ 8) (h4 : c4 ≤ 8) (h5 : c5 ≤ 8) (h6 : c6 ≤ 8) (h7 : c7 ≤ 8) (y z u v : Nat)
    (hy : y = c0 + 256 * (c1 + 256 * (c2 + 256 * (c3 + 256 * (c4 + 256 * (c5 + 256 * (c6 + 256 * c7)))))))
    (hz : z = y + y / 256) (hu : u = z + z / 65536) (hv : v = u + u / 4294967296) : v < 9223372036854775808 ∧ v % 128 = c0 + c1 + c2 + c3 + c4 + c5 + c6 + c7 := by
  have e1 : y / 256 = c1 + 256 * (c2 + 256 * (c3 + 256 * (c4 + 256 * (c5 + 256 * (c6 + 256 * c7))))) := by omega
  have e2 : z = (c0 + c1) + 256 * ((c1 + c2) + 256 * ((c2 + c3) + 256 * ((c3 + c4) + 256 * ((c4 + c5) + 256 * ((c5 + c6) + 256 * ((c6 + c7) + 256 * c7)))))) := by omega
  have e3 : z / 65536 = (c2 + c3) + 256 * ((c3 + c4) + 256 * ((c4 + c5) + 256 * ((c5 + c6) + 256 * ((c6 + c7) + 256 * c7)))) := by clear e1 hy hz hu hv; omega
  have e4 : u = (c0 + c1 + c2 + c3) + 256 * ((c1 + c2 + c3 + c4) + 256 * ((c2 + c3 + c4 + c5) + 256 * ((c3 + c4 + c5 + c6) + 256 * ((c4 + c5 + c6 + c7) + 256 * ((c5 + c6 + c7) + 256 * ((c6 + c7) + 256 * c7)))))) := by clear e1 hy hz hv; omega
  have e5 : u / 4294967296 = (c4 + c5 + c6 + c7) + 256 * ((c5 + c6 + c7) + 256 * ((c6 + c7) + 256 * c7)) := by clear e1 e2 e3 hy hz hu hv; omega
  clear e1 e2 e3 hy hz hu
  constructor <;> omega
theorem popAux_le : ∀ (m x : Nat), Lib.popAux m x ≤ m
  | 0, _ => by simp [Lib.popAux]
  | m + 1, x => by have := popAux_le m (x / 2); simp only [Lib.popAux]; omega
theorem D_sum (x y z u v : Nat) (hx : x < 2 ^ 64) (hy : y = D 8 x) (hz : z = y + y / 256) (hu : u = z + z / 65536) (hv : v = u + u / 4294967296) :
    v < 9223372036854775808 ∧ v % 128 = Lib.popAux 64 x := by
  have hp : Lib.popAux 64 x = Lib.popAux 8 (x % 256) + (Lib.popAux 8 (x / 256 % 256) + (Lib.popAux 8 (x / 256 / 256 % 256) + (Lib.popAux 8 (x / 256 / 256 / 256 % 256) + (Lib.popAux 8 (x / 256 / 256 / 256 / 256 % 256) + (Lib.popAux 8 (x / 256 / 256 / 256 / 256 / 256 % 256) + (Lib.popAux 8 (x / 256 / 256 / 256 / 256 / 256 / 256 % 256) + Lib.popAux 8 (x / 256 / 256 / 256 / 256 / 256 / 256 / 256 % 256))))))) := by
    rw [show 64 = 8 + (8 + (8 + (8 + (8 + (8 + (8 + 8)))))) from rfl]
    rw [popAux_add, popAux_add, popAux_add, popAux_add, popAux_add, popAux_add, popAux_add]
    have e : ∀ n : Nat, n % 2 ^ 8 = n % 256 := fun _ => rfl
    have e' : ∀ n : Nat, n / 2 ^ 8 = n / 256 := fun _ => rfl
    simp only [e, e']
    have hl : x / 256 / 256 / 256 / 256 / 256 / 256 / 256 < 256 := by omega
    rw [Nat.mod_eq_of_lt hl]
  have := sum8 (Lib.popAux 8 (x % 256)) (Lib.popAux 8 (x / 256 % 256)) (Lib.popAux 8 (x / 256 / 256 % 256)) (Lib.popAux 8 (x / 256 / 256 / 256 % 256)) (Lib.popAux 8 (x / 256 / 256 / 256 / 256 % 256)) (Lib.popAux 8 (x / 256 / 256 / 256 / 256 / 256 % 256)) (Lib.popAux 8 (x / 256 / 256 / 256 / 256 / 256 / 256 % 256)) (Lib.popAux 8 (x / 256 / 256 / 256 / 256 / 256 / 256 / 256 % 256))
    (popAux_le _ _) (popAux_le _ _) (popAux_le _ _) (popAux_le _ _) (popAux_le _ _) (popAux_le _ _) (popAux_le _ _) (popAux_le _ _) y z u v (by rw [hy]; simp only [D]; omega) hz hu hv
  omega
theorem M85 : M 85 8 = 6148914691236517205 := by decide +kernel
theorem M51 : M 51 8 = 3689348814741910323 := by decide +kernel
theorem M15 : M 15 8 = 1085102592571150095 := by decide +kernel
theorem le_mask (a m : Nat) : a &&& m ≤ m := Nat.and_le_right
def popW (x : Nat) : Nat :=
  let a := (x / 2 &&& 6148914691236517205) + (x &&& 6148914691236517205)
  let b := (a / 4 &&& 3689348814741910323) + (a &&& 3689348814741910323)
  let c := (b / 16 + b) &&& 1085102592571150095
  let d := c + c / 256
  let e := d + d / 65536
  (e + e / 4294967296) % 128
theorem popW_eq (x : Nat) (hx : x < 2 ^ 64) : popW x = Lib.popAux 64 x := by
  have h := (S123 8 x (by omega)).1
  unfold S1 S2 S3 at h
  rw [M85, M51, M15] at h
  exact (D_sum x _ _ _ _ hx h rfl rfl rfl).2

theorem andN (a m : Nat) (ha : a < 18446744073709551616) (hm : m < 18446744073709551616) : bits .and .u64 (a : Int) (m : Int) = ((a &&& m : Nat) : Int) := bits_and_u64_nat a m ha hm
theorem wrapN (a : Nat) (ha : a < 18446744073709551616) : IntKind.u64.wrap (a : Int) = (a : Int) := by rw [IntKind.wrap_u64]; omega
theorem and127 (a : Nat) (ha : a < 9223372036854775808) : bits .and .i64 (wrap64 (a : Int)) 127 = ((a % 128 : Nat) : Int) := by
  have e : wrap64 (a : Int) = a := by unfold wrap64; omega
  rw [e]
  show IntKind.i64.wrap ((BitVec.ofInt 64 (a : Int) &&& BitVec.ofInt 64 127).toNat : Int) = _
  have h1 : (BitVec.ofInt 64 (a : Int)).toNat = a := by
    rw [BitVec.ofInt_natCast, BitVec.toNat_ofNat]; exact Nat.mod_eq_of_lt (by omega)
  rw [BitVec.toNat_and, h1, show (BitVec.ofInt 64 127).toNat = 127 from rfl, show a &&& 127 = a % 128 from Nat.and_two_pow_sub_one_eq_mod a 7, IntKind.wrap_i64]
  omega

set_option maxHeartbeats 400000 in
theorem pop_ok (x : Nat) (hs : x < 18446744073709551616) (w : World) :
    Calls Tryd.prog 36 #[.int .u64 x] w fun e w' => e = .returned (.int .i64 (Lib.popAux 64 x)) ∧ w = w' := by
  have hD := Lib.hid ((S123 8 x (by omega)).1)
  go_enter Tryd.func36, Tryd.ntmps36
  go_wp2
  go_ret
  refine ⟨ret_i64 ?_, rfl⟩
  have h := hD.out
  unfold S1 S2 S3 at h
  rw [M85, M51, M15] at h
  have d2 : (x : Int) / 2 = ((x / 2 : Nat) : Int) := by omega
  have a1 : bits .and .u64 ((x : Int) / 2) 6148914691236517205 = ((x / 2 &&& 6148914691236517205 : Nat) : Int) := by rw [d2]; exact andN _ 6148914691236517205 (by omega) (by omega)
  have a2 : bits .and .u64 (x : Int) 6148914691236517205 = ((x &&& 6148914691236517205 : Nat) : Int) := andN _ 6148914691236517205 (by omega) (by omega)
  have l1 := le_mask (x / 2) 6148914691236517205
  have l2 := le_mask x 6148914691236517205
  rw [a1, a2]
  clear a1 a2 d2
  generalize ha : (x / 2 &&& 6148914691236517205) + (x &&& 6148914691236517205) = a at *
  have w1 : IntKind.u64.wrap (((x / 2 &&& 6148914691236517205 : Nat) : Int) + ((x &&& 6148914691236517205 : Nat) : Int)) = (a : Int) := by rw [IntKind.wrap_u64]; omega
  rw [w1]
  have ha' : a < 18446744073709551616 := by omega
  clear w1 l1 l2 ha
  have d4 : (a : Int) / 4 = ((a / 4 : Nat) : Int) := by omega
  have a1 : bits .and .u64 ((a : Int) / 4) 3689348814741910323 = ((a / 4 &&& 3689348814741910323 : Nat) : Int) := by rw [d4]; exact andN _ 3689348814741910323 (by omega) (by omega)
  have a2 : bits .and .u64 (a : Int) 3689348814741910323 = ((a &&& 3689348814741910323 : Nat) : Int) := andN _ 3689348814741910323 (by omega) (by omega)
  have l1 := le_mask (a / 4) 3689348814741910323
  have l2 := le_mask a 3689348814741910323
  rw [a1, a2]
  clear a1 a2 d4
  generalize hb : (a / 4 &&& 3689348814741910323) + (a &&& 3689348814741910323) = b at *
  have w1 : IntKind.u64.wrap (((a / 4 &&& 3689348814741910323 : Nat) : Int) + ((a &&& 3689348814741910323 : Nat) : Int)) = (b : Int) := by rw [IntKind.wrap_u64]; omega
  rw [w1]
  have hb' : b < 8000000000000000000 := by omega
  clear w1 l1 l2 hb
  have w2 : IntKind.u64.wrap ((b : Int) / 16 + (b : Int)) = ((b / 16 + b : Nat) : Int) := by rw [IntKind.wrap_u64]; omega
  rw [w2, show (1085102592571150095 : Int) = ((1085102592571150095 : Nat) : Int) from rfl, andN _ 1085102592571150095 (by omega) (by omega)]
  have l3 := le_mask (b / 16 + b) 1085102592571150095
  generalize (b / 16 + b) &&& 1085102592571150095 = c at *
  clear w2
  have w3 : IntKind.u64.wrap ((c : Int) + (c : Int) / 256) = ((c + c / 256 : Nat) : Int) := by rw [IntKind.wrap_u64]; omega
  rw [w3]
  have w4 : IntKind.u64.wrap (((c + c / 256 : Nat) : Int) + ((c + c / 256 : Nat) : Int) / 65536) = ((c + c / 256 + (c + c / 256) / 65536 : Nat) : Int) := by rw [IntKind.wrap_u64]; omega
  rw [w4]
  have w5 : IntKind.u64.wrap (((c + c / 256 + (c + c / 256) / 65536 : Nat) : Int) + ((c + c / 256 + (c + c / 256) / 65536 : Nat) : Int) / 4294967296) = ((c + c / 256 + (c + c / 256) / 65536 + (c + c / 256 + (c + c / 256) / 65536) / 4294967296 : Nat) : Int) := by rw [IntKind.wrap_u64]; omega
  rw [w5]
  obtain ⟨f1, f2⟩ := D_sum x c _ _ _ hs h rfl rfl rfl
  rw [and127 _ f1, f2]

/-! ### The count as the length of a list -/
/-- The members, in order. -/
def mem (s : Nat) : List Nat := (List.range 64).filter fun i => s.testBit i
theorem popAux_filter : ∀ (n s : Nat), Lib.popAux n s = ((List.range n).filter fun i => s.testBit i).length
  | 0, s => by simp [Lib.popAux]
  | n + 1, s => by
    rw [List.range_succ_eq_map, List.filter_cons]
    simp only [Lib.popAux, popAux_filter n (s / 2), List.filter_map, Function.comp_def, Nat.testBit_succ, Nat.testBit_zero]
    by_cases h : s % 2 = 1
    · simp [h]; omega
    · have : s % 2 = 0 := by omega
      simp [this]
theorem count_mem (s : Nat) : Lib.popAux 64 s = (mem s).length := popAux_filter 64 s
set_option maxHeartbeats 400000 in
theorem count_ok (x : Nat) (hs : x < 18446744073709551616) (w : World) :
    Calls Tryd.prog 13 #[.int .u64 x] w fun e w' => e = .returned (.int .i64 ((mem x).length : Int)) ∧ w = w' := by
  go_enter Tryd.func13, Tryd.ntmps13
  go_wp2_with (go_at_call 36; refine (pop_ok _ hs _).mono ?_; rintro e w' ⟨rfl, rfl⟩)
  go_ret
  exact ⟨ret_i64 (by rw [count_mem]), rfl⟩
end Go.Proofs.YtcgnnmpgdnajnaaDoor.BW
