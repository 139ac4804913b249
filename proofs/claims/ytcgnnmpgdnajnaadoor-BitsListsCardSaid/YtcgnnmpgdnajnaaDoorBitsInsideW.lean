/- The walk of BitsInside. -/
import Derived.Test.YtcgnnmpgdnajnaaDoorBitsList
import Derived.Test.YtcgnnmpgdnajnaaDoorBitsNearW
namespace Go.Proofs.YtcgnnmpgdnajnaaDoor.BW
open Go.RowKit BM

theorem mem_mem {s i : Nat} : i ∈ mem s ↔ i < 64 ∧ s.testBit i = true := by simp [mem]
theorem sub_mem {a b : Nat} (ha : a < 18446744073709551616) : sub a b = (mem a).all fun i => b.testBit i := by
  rw [Bool.eq_iff_iff, sub_iff ha, List.all_eq_true]
  constructor
  · intro h i hi
    obtain ⟨h1, h2⟩ := mem_mem.1 hi
    exact h i h1 h2
  · intro h i h1 h2
    exact h i (mem_mem.2 ⟨h1, h2⟩)
theorem sub_call {a b : Nat} {c : Bool} (ha : a < 18446744073709551616) (hb : b < 18446744073709551616) (h : sub a b = c) (w : World) :
    Calls Tryd.prog 28 #[.int .u64 a, .int .u64 b] w fun e w' => e = .returned (.bool c) ∧ w = w' := by
  subst h; exact sub_ok a b ha hb w

set_option maxHeartbeats 2000000 in
theorem inside_walk (a b : Nat) (ha : a < 18446744073709551616) (hb : b < 18446744073709551616) (w : World) (hT0 : Tab w) :
    Calls Tryd.prog 8 #[.int .u64 a, .int .u64 b] w fun e w' => e = .returned (.bool true) ∧ Below w.heap.size w w' := by
  have hT := Lib.hid hT0
  have CL := Lib.hid (list_ok a ha w hT0)
  have hx64 : ∀ k (h : k < (mem a).length), (mem a)[k] < 64 := fun k h => (mem_mem.1 (List.getElem_mem h)).1
  have hlen := mem_le a
  have HA := Lib.hid (sub_mem (b := b) ha)
  have hand : a &&& b < 18446744073709551616 := Nat.lt_of_le_of_lt Nat.and_le_left ha
  have hor : a ||| b < 18446744073709551616 := Nat.or_lt_two_pow (n := 64) ha hb
  have S2 := Lib.hid (sub_call hand ha (show sub (a &&& b) a = true from (sub_iff hand).2 fun i _ h => by rw [Nat.testBit_and] at h; simp at h; exact h.1))
  have S3 := Lib.hid (sub_call ha hor (show sub a (a ||| b) = true from (sub_iff ha).2 fun i _ h => by rw [Nat.testBit_or, h]; rfl))
  have S4 := Lib.hid (sub_call (a := 0) (by decide) hb (show sub 0 b = true from (sub_iff (by decide)).2 fun i _ h => by simp at h))
  have hA : bits .and .u64 (a : Int) (b : Int) = ((a &&& b : Nat) : Int) := bits_and_u64_nat _ _ ha hb
  have hO : bits .or .u64 (a : Int) (b : Int) = ((a ||| b : Nat) : Int) := bits_or_u64_nat _ _ ha hb
  generalize a &&& b = ab at *
  generalize a ||| b = ob at *
  clear hT0
  go_enter Tryd.func8, Tryd.ntmps8
  go_wp2_with fail
  refine CL.out.mono ?_
  rintro e w1 ⟨v, rfl, hown, hbl⟩
  obtain ⟨ad, cap, rfl, hat0⟩ := hown.shape
  have hat := Lib.hid hat0
  have HB := Lib.hid hbl
  have CW := Lib.hid (works_ok w1 (hT.out.below hbl hT.out.size))
  have HX := Lib.hid hx64
  have S1 := Lib.hid (fun w => sub_call (c := (mem a).all fun i => b.testBit i) ha hb (sub_mem ha) w)
  clear hat0 hown hbl hx64 CL
  generalize mem a = xs at *
  go_wp2_with fail
  go_loop [5, 7] (fun al i => ∃ k : Nat, k ≤ xs.length ∧ i = .int .i64 k ∧ al = .bool ((xs.take k).all fun i => b.testBit i)) (fun _ i => xs.length - (intOf i).toNat)
  case atStart => exact ⟨0, by omega, rfl, rfl⟩
  case round =>
    obtain ⟨k, hk, rfl, rfl⟩ := hrel
    by_cases hlt : k < xs.length
    · have HN : Hid ((xs.take (k + 1)).all (fun i => b.testBit i) = ((xs.take k).all (fun i => b.testBit i) && b.testBit xs[k])) := Lib.hid (by rw [List.take_succ_eq_append_getElem hlt, List.all_append]; simp)
      obtain ⟨bl, off, rfl, hc⟩ := hat.out k (by simpa using hlt)
      simp only [List.getElem_map] at hc
      have CH := has_ok b (xs[k] : Nat) hb w1
      rw [has_nat b xs[k] (HX.out k hlt)] at CH
      have CH' := Lib.hid CH
      clear CH
      generalize xs[k] = x at *
      generalize b.testBit x = bx at *
      generalize hal : (xs.take k).all (fun i => b.testBit i) = al at *
      clear hal
      cases al
      · go_wp2
        go_round
        case rel => exact ⟨k + 1, by omega, by go_num, by rw [HN.out]; rfl⟩
        case measure => simp [intOf]; omega
      · go_wp2_with (go_at_call 16; refine CH'.out.mono ?_; rintro e w' ⟨rfl, rfl⟩)
        go_round
        case rel => exact ⟨k + 1, by omega, by go_num, by rw [HN.out]; rfl⟩
        case measure => simp [intOf]; omega
    · obtain rfl : k = xs.length := by omega
      rw [List.take_length]
      generalize (xs.all fun i => b.testBit i) = c at *
      go_wp2_with fail
      refine (S1.out _).mono ?_
      rintro e w' ⟨rfl, rfl⟩
      go_wp2_with fail
      refine (S2.out _).mono ?_
      rintro e w' ⟨rfl, rfl⟩
      go_wp2_with fail
      refine (S3.out _).mono ?_
      rintro e w' ⟨rfl, rfl⟩
      go_wp2_with fail
      refine (S4.out _).mono ?_
      rintro e w' ⟨rfl, rfl⟩
      go_wp2_with fail
      refine CW.out.mono ?_
      rintro e w' ⟨rfl, hb2⟩
      go_wp2
      go_ret
      exact ⟨rfl, HB.out.trans (Below.mono (by assumption) HB.out.size)⟩
end Go.Proofs.YtcgnnmpgdnajnaaDoor.BW
