/- The walk of BitsTurns. -/
import Derived.Test.YtcgnnmpgdnajnaaDoorBitsNearW
namespace Go.Proofs.YtcgnnmpgdnajnaaDoor.BW
open Go.RowKit BM

/-- Around the circle every place is met. -/
theorem tn_all {s g n i : Nat} (hg : g < n) (h : tn s g n = none) (hi : i < n) : s.testBit i = false := by
  rw [tn_none] at h
  by_cases hle : g ≤ i
  · have := h (i - g) (by omega)
    rwa [show g + (i - g) = i from by omega, Nat.mod_eq_of_lt hi] at this
  · have := h (i + n - g) (by omega)
    rwa [show g + (i + n - g) = i + n from by omega, Nat.add_mod_right, Nat.mod_eq_of_lt hi] at this

set_option maxHeartbeats 2000000 in
theorem turns_walk (s f z : Nat) (hs : s < 18446744073709551616) (hf : f < 256) (hz : z < 256) (w : World) (hT0 : Tab w) :
    Calls Tryd.prog 6 #[.int .u64 s, .int .u8 f, .int .u8 z] w fun e w' => e = .returned (.bool true) ∧ Below w.heap.size w w' := by
  have hT := Lib.hid hT0
  have CW := Lib.hid (works_ok w hT.out)
  clear hT0
  go_enter Tryd.func6, Tryd.ntmps6
  go_wp2_with fail
  have e1 : (1 + (z : Int) % 64) = ((1 + z % 64 : Nat) : Int) := by omega
  rw [e1]
  have hn1 : 1 ≤ 1 + z % 64 := by omega
  have hn64 : 1 + z % 64 ≤ 64 := by omega
  clear e1
  generalize 1 + z % 64 = n at *
  have e2 : (f : Int) % (n : Int) = ((f % n : Nat) : Int) := by simp
  rw [e2]
  have hg : f % n < n := Nat.mod_lt _ (by omega)
  clear e2 hf hz
  generalize f % n = g at *
  have C := turn_ok s g n hs w hT.out
  rw [turnR_in hn64 hg] at C
  cases ht : tn s g n with
  | none =>
    rw [ht] at C
    have HA := Lib.hid (fun i (hi : i < n) => tn_all hg ht hi)
    clear ht
    refine C.mono ?_
    rintro e w' ⟨rfl, rfl⟩
    clear C
    simp only [T1, T2, Option.map_none, Option.getD_none, Option.isSome_none]
    cases hx : nx s 0 with
    | none =>
      have C2 := Lib.hid (next_none (v := 0) hs w hT.out hx)
      clear hx
      go_wp2_with (first
        | (go_at_call 21; refine C2.out.mono ?_; rintro e w' ⟨rfl, rfl⟩)
        | (go_at_call 15; refine CW.out.mono ?_; rintro e w' ⟨rfl, hb⟩))
      go_ret
      exact ⟨rfl, by assumption⟩
    | some i =>
      have C2 := Lib.hid (next_some (v := 0) hs w hT.out hx)
      have hin : n ≤ i := by
        apply Nat.le_of_not_lt; intro hlt
        have h1 := (nx_some.1 hx).2.2.1
        rw [HA.out i hlt] at h1; cases h1
      clear hx
      go_wp2_with (first
        | (go_at_call 21; refine C2.out.mono ?_; rintro e w' ⟨rfl, rfl⟩)
        | (go_at_call 15; refine CW.out.mono ?_; rintro e w' ⟨rfl, hb⟩))
      go_ret
      exact ⟨rfl, by assumption⟩
  | some k =>
    rw [ht] at C
    obtain ⟨hk, hb, hno⟩ := tn_some.1 ht
    have hlt : (g + k) % n < n := Nat.mod_lt _ (by omega)
    have HM : Hid ((((g + k) % n : Nat) : Int) = ((g : Int) + (k : Int)) % (n : Int)) := Lib.hid (by rw [Int.natCast_emod, Int.natCast_add])
    have H1 := has_yes hs (by omega) hb w
    have HNO := Lib.hid hno
    clear ht hb hno hlt
    simp only [T1, T2, Option.map_some, Option.getD_some, Option.isSome_some] at C
    rw [HM.out] at C H1
    have H1' := Lib.hid H1
    clear H1
    refine C.mono ?_
    rintro e w' ⟨rfl, rfl⟩
    clear C
    have d1 : decide (n ≤ k) = false := decide_eq_false (by omega)
    have d2 : decide ((n : Int) ≤ (k : Int)) = false := decide_eq_false (by omega)
    have hv : (((g : Int) + (k : Int)) % (n : Int) != ((g : Int) + (k : Int)) % (n : Int)) = false := by simp
    go_wp2_with (go_at_call 16; refine H1'.out.mono ?_; rintro e w' ⟨rfl, rfl⟩)
    go_loop [14] (fun i => ∃ j : Nat, j ≤ k ∧ i = .int .i64 j) (fun i => k - (intOf i).toNat)
    case atStart => exact ⟨0, by omega, rfl⟩
    case round =>
      obtain ⟨j, hj, rfl⟩ := hrel
      by_cases hjk : j < k
      · have H2 := has_no hs (show (g + j) % n < 64 from Nat.lt_of_lt_of_le (Nat.mod_lt _ (by omega)) hn64) (HNO.out j hjk) w
        rw [Int.natCast_emod, Int.natCast_add] at H2
        have H2' := Lib.hid H2
        clear H2
        go_wp2_with (go_at_call 16; refine H2'.out.mono ?_; rintro e w' ⟨rfl, rfl⟩)
        go_round
        case rel =>
          exact ⟨j + 1, by omega, by go_num⟩
        case measure => simp [intOf]; omega
      · obtain rfl : j = k := by omega
        go_wp2_with (go_at_call 15; refine CW.out.mono ?_; rintro e w' ⟨rfl, hb⟩)
        go_ret
        exact ⟨rfl, by assumption⟩
end Go.Proofs.YtcgnnmpgdnajnaaDoor.BW
