/- The walk of BitsBack. -/
import Derived.Test.YtcgnnmpgdnajnaaDoorBitsInsideW
import Derived.Test.YtcgnnmpgdnajnaaDoorBitsF
namespace Go.Proofs.YtcgnnmpgdnajnaaDoor.BW
open Go.RowKit BM

theorem of_mem {s : Nat} (hs : s < 18446744073709551616) : ofR ((mem s).map fun (i : Nat) => (i : Int)) = (s, 0) := by
  rw [of_good (fun k hk => by
    simp only [List.getElem_map]
    have := (mem_mem.1 (List.getElem_mem (l := mem s) (n := k) (by simpa using hk))).1
    omega)]
  congr 1
  apply Nat.eq_of_testBit_eq; intro i
  rw [mk_bit, Bool.eq_iff_iff]
  simp only [Bool.and_eq_true, decide_eq_true_eq, List.contains_eq_mem, List.mem_map]
  constructor
  · rintro ⟨h1, j, hj, e⟩
    obtain rfl : j = i := by omega
    exact (mem_mem.1 hj).2
  · intro h
    have := bit_lt hs h
    exact ⟨this, i, mem_mem.2 ⟨this, h⟩, rfl⟩
theorem memN_split (s : Nat) {j m : Nat} (h : j ≤ m) : ∃ r, memN s m = memN s j ++ r := by
  unfold memN
  refine ⟨(List.range' j (m - j)).filter fun i => s.testBit i, ?_⟩
  rw [← List.filter_append]
  congr 1
  rw [List.range_eq_range', List.range_eq_range', show m = j + (m - j) from by omega, ← List.range'_append_1]
  simp
theorem memN_at {s j : Nat} (hj : j < 64) (hb : s.testBit j = true) : ∃ h : (memN s j).length < (mem s).length, (mem s)[(memN s j).length] = j := by
  obtain ⟨r, hr⟩ := memN_split s (show j + 1 ≤ 64 from hj)
  rw [memN_64, memN_hit hb] at hr
  have hl : (memN s j).length < (mem s).length := by rw [hr]; simp
  refine ⟨hl, ?_⟩
  have : (mem s)[(memN s j).length]? = some j := by
    rw [hr, List.append_assoc, List.getElem?_append_right (Nat.le_refl _)]
    simp
  rw [List.getElem?_eq_getElem hl] at this
  simpa using this
theorem memN_high {s : Nat} (hs : s < 18446744073709551616) : ∀ n, memN s (64 + n) = mem s
  | 0 => memN_64 s
  | n + 1 => by
    rw [show 64 + (n + 1) = 64 + n + 1 from by omega, memN_miss (high_bit hs (by omega))]
    exact memN_high hs n

def valI : Value → Int
  | .int _ x => x
  | _ => 0

set_option maxHeartbeats 2000000 in
theorem back_walk (s : Nat) (hs : s < 18446744073709551616) (w : World) (hT0 : Tab w) :
    Calls Tryd.prog 10 #[.int .u64 s] w fun e w' => e = .returned (.bool true) ∧ Below w.heap.size w w' := by
  have hT := Lib.hid hT0
  have CL := Lib.hid (list_ok s hs w hT0)
  have hlen := mem_le s
  clear hT0
  go_enter Tryd.func10, Tryd.ntmps10
  go_wp2_with fail
  refine CL.out.mono ?_
  rintro e w1 ⟨v, rfl, hown, hbl⟩
  obtain ⟨ad, cap, rfl, hat0⟩ := hown.shape
  have CO := of_ok ad cap _ (by simp; omega) w1 hat0
  rw [of_mem hs, List.length_map] at CO
  have CO' := Lib.hid CO
  have CC := Lib.hid (count_ok s hs w1)
  have hat := Lib.hid hat0
  have HB := Lib.hid hbl
  have CW := Lib.hid (works_ok w1 (hT.out.below hbl hT.out.size))
  clear hat0 hown hbl CL CO
  go_wp2_with (first
    | (go_at_call 18; refine CO'.out.mono ?_; rintro e w' ⟨rfl, rfl⟩)
    | (go_at_call 13; refine CC.out.mono ?_; rintro e w' ⟨rfl, rfl⟩))
  go_loop [6, 7] (fun n i => ∃ k : Nat, k ≤ 72 ∧ i = .int .i64 ((k : Int) - 2) ∧ n = .int .i64 (memN s (k - 2)).length) (fun _ i => (70 - valI i).toNat)
  case atStart => exact ⟨0, by omega, rfl, rfl⟩
  case round =>
    obtain ⟨k, hk, rfl, rfl⟩ := hrel
    by_cases hk2 : k < 2
    · have hneg : decide ((0 : Int) ≤ (k : Int) - 2) = false := decide_eq_false (by omega)
      have h70 : (k : Int) - 2 < 70 := by omega
      have CH := has_ok s ((k : Int) - 2) hs w1
      rw [has_out s _ (by omega)] at CH
      have CH' := Lib.hid CH
      have e0 : k - 2 = 0 := by omega
      have e1 : k + 1 - 2 = 0 := by omega
      rw [e0]
      clear CH
      go_wp2_with (go_at_call 16; refine CH'.out.mono ?_; rintro e w' ⟨rfl, rfl⟩)
      go_round
      case rel => exact ⟨k + 1, by omega, by go_num, by rw [e1]⟩
      case measure => simp only [valI]; omega
    · obtain ⟨j, rfl⟩ : ∃ j, k = j + 2 := ⟨k - 2, by omega⟩
      rw [show ((j + 2 : Nat) : Int) - 2 = j from by omega, show j + 2 - 2 = j from rfl]
      clear hk2
      by_cases h64 : j < 64
      · have h70 : (j : Int) < 70 := by omega
        have hw := has_word s j hs (by omega) (by omega)
        rw [has_nat s j h64, Int.toNat_natCast] at hw
        have CH := has_ok s j hs w1
        rw [has_nat s j h64] at CH
        by_cases hb : s.testBit j = true
        · obtain ⟨hl, hel⟩ := memN_at h64 hb
          obtain ⟨b, off, rfl, hc⟩ := hat.out (memN s j).length (by simpa using hl)
          simp only [List.getElem_map, hel] at hc
          have HN := Lib.hid (memN_hit hb)
          rw [hb] at hw CH
          have CH' := Lib.hid CH
          clear CH hb hel
          have hl' : ((memN s j).length : Int) < ((mem s).length : Int) := by omega
          have hd : decide (((mem s).length : Int) ≤ ((memN s j).length : Int)) = false := decide_eq_false (by omega)
          have hlN := congrArg List.length HN.out
          rw [List.length_append, List.length_singleton] at hlN
          have HLN := Lib.hid hlN
          clear hlN HN
          generalize (memN s j).length = n at *
          generalize (mem s).length = len at *
          go_wp2_with (go_at_call 16; refine CH'.out.mono ?_; rintro e w' ⟨rfl, rfl⟩)
          go_round
          case rel => exact ⟨j + 3, by omega, by go_num, by rw [show j + 3 - 2 = j + 1 from rfl, HLN.out]; go_num⟩
          case measure => simp only [valI]; omega
        · have hb' : s.testBit j = false := Bool.eq_false_iff.2 hb
          have HN := Lib.hid (congrArg List.length (memN_miss hb'))
          rw [hb'] at hw CH
          have CH' := Lib.hid CH
          clear CH hb hb'
          generalize (memN s j).length = n at *
          go_wp2_with (go_at_call 16; refine CH'.out.mono ?_; rintro e w' ⟨rfl, rfl⟩)
          go_round
          case rel => exact ⟨j + 3, by omega, by go_num, by rw [show j + 3 - 2 = j + 1 from rfl, HN.out]⟩
          case measure => simp only [valI]; omega
      · obtain ⟨m, rfl⟩ : ∃ m, j = 64 + m := ⟨j - 64, by omega⟩
        have HM := Lib.hid (congrArg List.length (memN_high hs m))
        have HM2 := Lib.hid (congrArg List.length (memN_high hs (m + 1)))
        rw [HM.out]
        by_cases h70 : m < 6
        · have h70' : ((64 + m : Nat) : Int) < 70 := by omega
          have h64' : ¬ ((64 + m : Nat) : Int) < 64 := by omega
          have CH := has_ok s ((64 + m : Nat) : Int) hs w1
          rw [has_out s _ (by omega)] at CH
          have CH' := Lib.hid CH
          clear CH
          generalize (mem s).length = len at *
          generalize hjm : 64 + m = jm at *
          have HJ := Lib.hid hjm
          clear hjm
          have hd0 : decide ((jm : Int) < 64) = false := decide_eq_false h64'
          go_wp2_with (go_at_call 16; refine CH'.out.mono ?_; rintro e w' ⟨rfl, rfl⟩)
          go_round
          case rel => exact ⟨jm + 3, by have := HJ.out; omega, by go_num, by rw [show jm + 3 - 2 = 64 + (m + 1) from by have := HJ.out; omega, HM2.out]⟩
          case measure => simp only [valI]; omega
        · have h70' : ¬ ((64 + m : Nat) : Int) < 70 := by omega
          generalize (mem s).length = len at *
          generalize 64 + m = jm at *
          go_wp2_with (go_at_call 15; refine CW.out.mono ?_; rintro e w' ⟨rfl, hb⟩)
          go_ret
          exact ⟨rfl, HB.out.trans (Below.mono (by assumption) HB.out.size)⟩
end Go.Proofs.YtcgnnmpgdnajnaaDoor.BW
