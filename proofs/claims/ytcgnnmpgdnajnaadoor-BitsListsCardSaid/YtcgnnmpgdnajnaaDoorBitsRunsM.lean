/- Plain facts on the runs of a set. No program in sight. -/
import Derived.Test.YtcgnnmpgdnajnaaDoorBitsMath
namespace Go.Proofs.YtcgnnmpgdnajnaaDoor.BM
open Go

/-! ### Taking a member away; the members above one -/
def cut (s v : Nat) : Nat := s ^^^ (s &&& 2 ^ v)
theorem cut_bit (s v i : Nat) : (cut s v).testBit i = (s.testBit i && !decide (i = v)) := by
  unfold cut
  rw [Nat.testBit_xor, Nat.testBit_and, Nat.testBit_two_pow]
  by_cases h : v = i
  · subst h; cases s.testBit v <;> simp
  · have h' : ¬ i = v := fun e => h e.symm
    simp [h, h']
theorem cut_lt {s v : Nat} (h : s < 18446744073709551616) : cut s v < 18446744073709551616 :=
  Nat.xor_lt_two_pow (show s < 2 ^ 64 from h) (Nat.lt_of_le_of_lt Nat.and_le_left (show s < 2 ^ 64 from h))
theorem high_bit {s i : Nat} (h : s < 18446744073709551616) (hi : 64 ≤ i) : s.testBit i = false :=
  Nat.testBit_lt_two_pow (Nat.lt_of_lt_of_le (show s < 2 ^ 64 from h) (Nat.pow_le_pow_right (by decide) hi))
theorem bit_lt {s i : Nat} (h : s < 18446744073709551616) (hi : s.testBit i = true) : i < 64 := by
  apply Nat.lt_of_not_le; intro hle; rw [high_bit h hle] at hi; cases hi
/-- The members above v. -/
def above (s v : Nat) : Nat := s / 2 ^ (v + 1) * 2 ^ (v + 1)
theorem above_bit (s v i : Nat) : (above s v).testBit i = (decide (v < i) && s.testBit i) := cut_testBit s (v + 1) i
theorem above_lt {s v : Nat} (h : s < 18446744073709551616) : above s v < 18446744073709551616 := Nat.lt_of_le_of_lt (cut_le s (v + 1)) h
theorem above_above {s v u : Nat} (h : v ≤ u) : above (above s v) u = above s u := by
  apply Nat.eq_of_testBit_eq; intro i
  rw [above_bit, above_bit, above_bit]
  by_cases hi : u < i
  · have : v < i := by omega
    simp [hi, this]
  · simp [hi]
theorem nx_above (s v : Nat) : nx (above s v) 0 = nx s ((v : Int) + 1) := by
  have := nx_cut s (v + 1) ((v : Int) + 1) (by omega)
  exact this

/-! ### One run -/
/-- How far the members go on at a distance. -/
def follow (s st : Nat) : Nat → Nat → Nat
  | 0, v => v
  | f + 1, v => if nx s ((v : Int) + 1) = some (v + st) then follow s st f (v + st) else v
theorem follow_stop {s st v : Nat} (h : nx s ((v : Int) + 1) ≠ some (v + st)) : ∀ f, follow s st f v = v
  | 0 => rfl
  | f + 1 => by simp [follow, h]
theorem follow_ge (s st : Nat) : ∀ f v, v ≤ follow s st f v
  | 0, v => Nat.le_refl _
  | f + 1, v => by
    simp only [follow]
    split
    · have := follow_ge s st f (v + st); omega
    · exact Nat.le_refl _
/-- With enough fuel the fuel does not matter. -/
theorem follow_fuel {s st : Nat} (hst : 1 ≤ st) : ∀ (f g v : Nat), 64 ≤ v + f → 64 ≤ v + g → follow s st f v = follow s st g v
  | 0, g, v, hf, hg => by
    rw [follow_stop (s := s) (st := st) (v := v) (by intro h; have := (nx_some.1 h).1; omega) g]; rfl
  | f + 1, 0, v, hf, hg => by
    rw [follow_stop (s := s) (st := st) (v := v) (by intro h; have := (nx_some.1 h).1; omega) (f + 1)]; rfl
  | f + 1, g + 1, v, hf, hg => by
    simp only [follow]
    split
    · exact follow_fuel hst f g (v + st) (by omega) (by omega)
    · rfl
def far (s st v : Nat) : Nat := follow s st 64 v
theorem far_next {s st v : Nat} (hst : 1 ≤ st) (h : nx s ((v : Int) + 1) = some (v + st)) : far s st v = far s st (v + st) := by
  unfold far
  have e : follow s st 64 v = follow s st 63 (v + st) := by
    show (if nx s ((v : Int) + 1) = some (v + st) then follow s st 63 (v + st) else v) = _
    rw [if_pos h]
  rw [e]
  have := (nx_some.1 h).1
  exact follow_fuel hst _ _ _ (by omega) (by omega)
theorem far_stop {s st v : Nat} (h : nx s ((v : Int) + 1) ≠ some (v + st)) : far s st v = v := follow_stop h 64

/-- A run: its first number, its last one, its step. -/
structure Run where
  lo : Int
  hi : Int
  st : Int
deriving DecidableEq

/-- The first run of a set whose least member is lo, the others being s: the run, and what is left. -/
def oneRun (s lo : Nat) : Run × Nat :=
  match nx s (lo : Int) with
  | none => (⟨lo, lo, 1⟩, s)
  | some b => if b - lo = 1 ∨ nx s ((b : Int) + 1) = some (b + (b - lo)) then (⟨lo, far s (b - lo) b, (b - lo : Nat)⟩, above s (far s (b - lo) b)) else (⟨lo, lo, 1⟩, s)
def runsF : Nat → Nat → List Run
  | 0, _ => []
  | f + 1, s => if s = 0 then [] else (oneRun (cut s (Lib.ctz 64 s)) (Lib.ctz 64 s)).1 :: runsF f (oneRun (cut s (Lib.ctz 64 s)) (Lib.ctz 64 s)).2
end Go.Proofs.YtcgnnmpgdnajnaaDoor.BM
