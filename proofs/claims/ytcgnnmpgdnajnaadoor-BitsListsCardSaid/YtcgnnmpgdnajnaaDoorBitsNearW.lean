/- The walk of BitsNeighbours. -/
import Derived.Test.YtcgnnmpgdnajnaaDoorBitsWorks
import Derived.Test.YtcgnnmpgdnajnaaDoorBitsE
namespace Go.Proofs.YtcgnnmpgdnajnaaDoor.BW
open Go.RowKit BM

theorem has_yes {s i : Nat} (hs : s < 18446744073709551616) (hi : i < 64) (h : s.testBit i = true) (w : World) : Calls Tryd.prog 16 #[.int .u64 s, .int .i64 i] w fun e w' => e = .returned (.bool true) ∧ w = w' := by
  have := has_ok s i hs w
  rw [has_nat s i hi, h] at this
  exact this
theorem has_no {s i : Nat} (hs : s < 18446744073709551616) (hi : i < 64) (h : s.testBit i = false) (w : World) : Calls Tryd.prog 16 #[.int .u64 s, .int .i64 i] w fun e w' => e = .returned (.bool false) ∧ w = w' := by
  have := has_ok s i hs w
  rw [has_nat s i hi, h] at this
  exact this

/-- What a neighbour is: found or not, its number, and none of the set where no nearer one may lie. -/
theorem next_near (s : Nat) (v : Int) (hs : s < 18446744073709551616) (w : World) (hT : Tab w) : ∃ (n : Nat) (ok : Bool), Calls Tryd.prog 21 #[.int .u64 s, .int .i64 v] w (fun e w' => e = .returned (.tuple #[.int .i64 n, .bool ok]) ∧ w = w') ∧
    n < 64 ∧ (ok = true → v ≤ n ∧ s.testBit n = true) ∧ (ok = false → n = 0) ∧ ∀ k : Nat, k < 64 → v ≤ (k : Int) → (ok = true → k < n) → s.testBit k = false := by
  cases hn : nx s v with
  | none =>
    refine ⟨0, false, next_none hs w hT hn, by omega, by simp, fun _ => rfl, fun k hk hv _ => nx_none.1 hn k hk hv⟩
  | some i =>
    obtain ⟨h1, h2, h3, h4⟩ := nx_some.1 hn
    exact ⟨i, true, next_some hs w hT hn, h1, fun _ => ⟨h2, h3⟩, by simp, fun k _ hv hlt => h4 k (hlt rfl) hv⟩
theorem prev_near (s : Nat) (v : Int) (hs : s < 18446744073709551616) (w : World) : ∃ (n : Nat) (ok : Bool), Calls Tryd.prog 30 #[.int .u64 s, .int .i64 v] w (fun e w' => e = .returned (.tuple #[.int .i64 n, .bool ok]) ∧ w = w') ∧
    n < 64 ∧ (ok = true → (n : Int) ≤ v ∧ s.testBit n = true) ∧ (ok = false → n = 0) ∧ ∀ k : Nat, k < 64 → (k : Int) ≤ v → (ok = true → n < k) → s.testBit k = false := by
  have C := prev_ok s v hs w
  cases hn : pv s v with
  | none =>
    rw [hn] at C
    refine ⟨0, false, C, by omega, by simp, fun _ => rfl, fun k hk hv _ => pv_none.1 hn k hk hv⟩
  | some i =>
    rw [hn] at C
    obtain ⟨h1, h2, h3, h4⟩ := pv_some.1 hn
    exact ⟨i, true, C, h1, fun _ => ⟨h2, h3⟩, by simp, fun k hk hv hlt => h4 k (hlt rfl) hk hv⟩

set_option maxHeartbeats 2000000 in
theorem near_walk (s : Nat) (v : Int) (hs : s < 18446744073709551616) (w : World) (hT0 : Tab w) :
    Calls Tryd.prog 9 #[.int .u64 s, .int .i64 v] w fun e w' => e = .returned (.bool true) ∧ Below w.heap.size w w' := by
  have hT := Lib.hid hT0
  have CW := Lib.hid (works_ok w hT.out)
  obtain ⟨n, ok, c1, hn64, h1, h0, hno⟩ := next_near s v hs w hT0
  obtain ⟨m, is, c2, hm64, g1, g0, gno⟩ := prev_near s v hs w
  have C1 := Lib.hid c1
  have C2 := Lib.hid c2
  have HNO := Lib.hid hno
  have GNO := Lib.hid gno
  clear hT0 c1 c2 hno gno
  go_enter Tryd.func9, Tryd.ntmps9
  cases ok
  · obtain rfl : n = 0 := h0 rfl
    clear h1 h0
    go_wp2_with (go_at_call 21; refine C1.out.mono ?_; rintro e w' ⟨rfl, rfl⟩)
    go_loop [7] (fun i => ∃ k : Nat, k ≤ 64 ∧ i = .int .i64 k) (fun i => 64 - (intOf i).toNat)
    case atStart => exact ⟨0, by omega, rfl⟩
    case round =>
      obtain ⟨k, hk, rfl⟩ := hrel
      by_cases hlt : k < 64
      · by_cases hv : v ≤ (k : Int)
        · have HF := Lib.hid (has_no hs hlt (HNO.out k hlt hv (by simp)))
          go_wp2_with (go_at_call 16; refine (HF.out _).mono ?_; rintro e w' ⟨rfl, rfl⟩)
          go_round
          case rel => exact ⟨k + 1, by omega, by go_num⟩
          case measure => simp [intOf]; omega
        · go_wp2
          go_round
          case rel => exact ⟨k + 1, by omega, by go_num⟩
          case measure => simp [intOf]; omega
      · obtain rfl : k = 64 := by omega
        cases is
        · obtain rfl : m = 0 := g0 rfl
          clear g1 g0
          go_wp2_with (go_at_call 30; refine C2.out.mono ?_; rintro e w' ⟨rfl, rfl⟩)
          go_loop [10] (fun i => ∃ k : Nat, k ≤ 64 ∧ i = .int .i64 k) (fun i => 64 - (intOf i).toNat)
          case atStart => exact ⟨0, by omega, rfl⟩
          case round =>
            obtain ⟨k, hk, rfl⟩ := hrel
            by_cases hlt : k < 64
            · by_cases hv : (k : Int) ≤ v
              · have HF := Lib.hid (has_no hs hlt (GNO.out k hlt hv (by simp)))
                go_wp2_with (go_at_call 16; refine (HF.out _).mono ?_; rintro e w' ⟨rfl, rfl⟩)
                go_round
                case rel => exact ⟨k + 1, by omega, by go_num⟩
                case measure => simp [intOf]; omega
              · go_wp2
                go_round
                case rel => exact ⟨k + 1, by omega, by go_num⟩
                case measure => simp [intOf]; omega
            · obtain rfl : k = 64 := by omega
              go_wp2_with (go_at_call 15; refine CW.out.mono ?_; rintro e w' ⟨rfl, hb⟩)
              go_ret
              exact ⟨rfl, by assumption⟩
        · obtain ⟨hv2, hb2⟩ := g1 rfl
          have H2 := Lib.hid (has_yes hs hm64 hb2)
          clear g1 g0 hb2
          go_wp2_with (first
            | (go_at_call 30; refine C2.out.mono ?_; rintro e w' ⟨rfl, rfl⟩)
            | (go_at_call 16; refine (H2.out _).mono ?_; rintro e w' ⟨rfl, rfl⟩))
          go_loop [10] (fun i => ∃ k : Nat, k ≤ 64 ∧ i = .int .i64 k) (fun i => 64 - (intOf i).toNat)
          case atStart => exact ⟨0, by omega, rfl⟩
          case round =>
            obtain ⟨k, hk, rfl⟩ := hrel
            by_cases hlt : k < 64
            · by_cases hv : (k : Int) ≤ v
              · by_cases ha : m < k
                · have HF := Lib.hid (has_no hs hlt (GNO.out k hlt hv (fun _ => ha)))
                  go_wp2_with (go_at_call 16; refine (HF.out _).mono ?_; rintro e w' ⟨rfl, rfl⟩)
                  go_round
                  case rel => exact ⟨k + 1, by omega, by go_num⟩
                  case measure => simp [intOf]; omega
                · go_wp2
                  go_round
                  case rel => exact ⟨k + 1, by omega, by go_num⟩
                  case measure => simp [intOf]; omega
              · go_wp2
                go_round
                case rel => exact ⟨k + 1, by omega, by go_num⟩
                case measure => simp [intOf]; omega
            · obtain rfl : k = 64 := by omega
              go_wp2_with (go_at_call 15; refine CW.out.mono ?_; rintro e w' ⟨rfl, hb⟩)
              go_ret
              exact ⟨rfl, by assumption⟩
  · obtain ⟨hv1, hb1⟩ := h1 rfl
    have H1 := Lib.hid (has_yes hs hn64 hb1)
    clear h1 h0 hb1
    go_wp2_with (first
      | (go_at_call 21; refine C1.out.mono ?_; rintro e w' ⟨rfl, rfl⟩)
      | (go_at_call 16; refine (H1.out _).mono ?_; rintro e w' ⟨rfl, rfl⟩))
    go_loop [7] (fun i => ∃ k : Nat, k ≤ 64 ∧ i = .int .i64 k) (fun i => 64 - (intOf i).toNat)
    case atStart => exact ⟨0, by omega, rfl⟩
    case round =>
      obtain ⟨k, hk, rfl⟩ := hrel
      by_cases hlt : k < 64
      · by_cases hv : v ≤ (k : Int)
        · by_cases ha : k < n
          · have HF := Lib.hid (has_no hs hlt (HNO.out k hlt hv (fun _ => ha)))
            go_wp2_with (go_at_call 16; refine (HF.out _).mono ?_; rintro e w' ⟨rfl, rfl⟩)
            go_round
            case rel => exact ⟨k + 1, by omega, by go_num⟩
            case measure => simp [intOf]; omega
          · go_wp2
            go_round
            case rel => exact ⟨k + 1, by omega, by go_num⟩
            case measure => simp [intOf]; omega
        · go_wp2
          go_round
          case rel => exact ⟨k + 1, by omega, by go_num⟩
          case measure => simp [intOf]; omega
      · obtain rfl : k = 64 := by omega
        cases is
        · obtain rfl : m = 0 := g0 rfl
          clear g1 g0
          go_wp2_with (go_at_call 30; refine C2.out.mono ?_; rintro e w' ⟨rfl, rfl⟩)
          go_loop [10] (fun i => ∃ k : Nat, k ≤ 64 ∧ i = .int .i64 k) (fun i => 64 - (intOf i).toNat)
          case atStart => exact ⟨0, by omega, rfl⟩
          case round =>
            obtain ⟨k, hk, rfl⟩ := hrel
            by_cases hlt : k < 64
            · by_cases hv : (k : Int) ≤ v
              · have HF := Lib.hid (has_no hs hlt (GNO.out k hlt hv (by simp)))
                go_wp2_with (go_at_call 16; refine (HF.out _).mono ?_; rintro e w' ⟨rfl, rfl⟩)
                go_round
                case rel => exact ⟨k + 1, by omega, by go_num⟩
                case measure => simp [intOf]; omega
              · go_wp2
                go_round
                case rel => exact ⟨k + 1, by omega, by go_num⟩
                case measure => simp [intOf]; omega
            · obtain rfl : k = 64 := by omega
              go_wp2_with (go_at_call 15; refine CW.out.mono ?_; rintro e w' ⟨rfl, hb⟩)
              go_ret
              exact ⟨rfl, by assumption⟩
        · obtain ⟨hv2, hb2⟩ := g1 rfl
          have H2 := Lib.hid (has_yes hs hm64 hb2)
          clear g1 g0 hb2
          go_wp2_with (first
            | (go_at_call 30; refine C2.out.mono ?_; rintro e w' ⟨rfl, rfl⟩)
            | (go_at_call 16; refine (H2.out _).mono ?_; rintro e w' ⟨rfl, rfl⟩))
          go_loop [10] (fun i => ∃ k : Nat, k ≤ 64 ∧ i = .int .i64 k) (fun i => 64 - (intOf i).toNat)
          case atStart => exact ⟨0, by omega, rfl⟩
          case round =>
            obtain ⟨k, hk, rfl⟩ := hrel
            by_cases hlt : k < 64
            · by_cases hv : (k : Int) ≤ v
              · by_cases ha : m < k
                · have HF := Lib.hid (has_no hs hlt (GNO.out k hlt hv (fun _ => ha)))
                  go_wp2_with (go_at_call 16; refine (HF.out _).mono ?_; rintro e w' ⟨rfl, rfl⟩)
                  go_round
                  case rel => exact ⟨k + 1, by omega, by go_num⟩
                  case measure => simp [intOf]; omega
                · go_wp2
                  go_round
                  case rel => exact ⟨k + 1, by omega, by go_num⟩
                  case measure => simp [intOf]; omega
              · go_wp2
                go_round
                case rel => exact ⟨k + 1, by omega, by go_num⟩
                case measure => simp [intOf]; omega
            · obtain rfl : k = 64 := by omega
              go_wp2_with (go_at_call 15; refine CW.out.mono ?_; rintro e w' ⟨rfl, hb⟩)
              go_ret
              exact ⟨rfl, by assumption⟩
end Go.Proofs.YtcgnnmpgdnajnaaDoor.BW
