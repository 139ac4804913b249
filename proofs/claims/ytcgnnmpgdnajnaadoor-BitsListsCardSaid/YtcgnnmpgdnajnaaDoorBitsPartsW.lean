/- The walk of BitsParts. -/
import Derived.Test.YtcgnnmpgdnajnaaDoorBitsPartsM
import Derived.Test.YtcgnnmpgdnajnaaDoorBitsNearW
import Derived.Test.YtcgnnmpgdnajnaaDoorLex
namespace Go.Proofs.YtcgnnmpgdnajnaaDoor.BW
open Go.RowKit BM

theorem setR_lt (r : Run) : setR r < 18446744073709551616 := mk_lt _
theorem un_lt (rs : List Run) : un rs < 18446744073709551616 := by
  induction rs with
  | nil => simp [un]
  | cons r rs ih => exact Nat.or_lt_two_pow (n := 64) (setR_lt r) ih
theorem rangeR_good {r : Run} (h : GoodR r) : rangeR r.lo r.hi r.st = (setR r, 0) := by
  obtain ⟨h1, h2, h3, h4, _, _, _⟩ := h
  unfold rangeR
  rw [if_neg (by omega), if_neg (by omega)]
  rfl
theorem setR_hi {r : Run} (h : GoodR r) : (setR r).testBit r.hi.toNat = true := by
  obtain ⟨h1, h2, h3, h4, h5, _, _⟩ := h
  unfold setR
  rw [rangeS_bit, h5]
  simp; omega
theorem quiet_flip {P : Program} {f : FuncId} {args : Array Value} {w : World} {n : Nat} {v : Value}
    (h : ∀ w, Calls P f args w fun e w' => e = .returned v ∧ w = w') : Calls P f args (w.drewN n) fun e w'' => e = .returned v ∧ ∃ m, w'' = w.drewN m :=
  (h _).mono fun _ _ ⟨he, hm⟩ => ⟨he, n, hm.symm⟩
theorem quiet_flip2 {P : Program} {f : FuncId} {args : Array Value} {w : World} {n a : Nat} {v : Value}
    (h : ∀ w, Calls P f args w fun e w' => e = .returned v ∧ w = w') : Calls P f args (w.drewN (n + a)) fun e w'' => e = .returned v ∧ ∃ m, w'' = w.drewN (n + m) :=
  (h _).mono fun _ _ ⟨he, hm⟩ => ⟨he, a, hm.symm⟩
theorem take_next {rs : List Run} {k : Nat} (h : k < rs.length) : rs.take (k + 1) = rs.take k ++ [rs[k]] := by simp
theorem RunsAt.drewN {w : World} {a : Option Addr} {rs : List Run} (h : RunsAt w a rs) (n : Nat) : RunsAt (w.drewN n) a rs := h

set_option maxRecDepth 10000 in
set_option maxHeartbeats 4000000 in
theorem parts_walk (s : Nat) (hs : s < 18446744073709551616) (w : World) (hT0 : Tab w) :
    Calls Tryd.prog 4 #[.int .u64 s] w fun e w' => e = .returned (.bool true) ∧ Below w.heap.size w w' := by
  have hT := Lib.hid hT0
  have CU := Lib.hid (runs_walk s hs w hT0)
  obtain ⟨p1, p2⟩ := parts 64 s hs (fun i _ => by omega)
  have hle := runsF_le 64 s
  generalize runsF 64 s = rs at *
  have P1 := Lib.hid p1
  have P2 := Lib.hid (fun k (hk : k < rs.length) => p2 (rs.take k) rs[k] (rs.drop (k + 1)) (by simp))
  clear p1 p2 hT0
  go_enter Tryd.func4, Tryd.ntmps4
  go_wp2_with (go_at_call 14; refine CU.out.mono ?_; rintro e w1 ⟨v, rfl, hown, hb⟩; obtain ⟨a, cap, rfl, hat0⟩ := hown.shape; have hat := Lib.hid hat0; have hbl := Lib.hid hb; clear hat0 hown hb)
  go_loopw [4, 5] (fun al i wr => ∃ k : Nat, k ≤ rs.length ∧ i = .int .i64 k ∧ al = .int .u64 (un (rs.take k)) ∧ ∃ n, wr = w1.drewN n) (fun _ i _ => rs.length - (intOf i).toNat)
  case atStart => exact ⟨0, by omega, rfl, rfl, 0, rfl⟩
  case round =>
    obtain ⟨k, hk, rfl, rfl, n, rfl⟩ := hrel
    by_cases hlt : k < rs.length
    · obtain ⟨b, off, rfl, x0, x1, x2⟩ := hat.out k hlt
      obtain ⟨g1, g2, g3, g4⟩ := P2.out k hlt
      have CR := range_ok rs[k].lo rs[k].hi rs[k].st
      rw [rangeR_good g1] at CR
      have hbit := setR_hi g1
      have hh := g1.hi
      have hA : bits .and .u64 ((setR rs[k] : Nat) : Int) ((un (rs.take k) : Nat) : Int) = ((setR rs[k] &&& un (rs.take k) : Nat) : Int) := bits_and_u64_nat _ _ (setR_lt _) (un_lt _)
      have hO : bits .or .u64 ((un (rs.take k) : Nat) : Int) ((setR rs[k] : Nat) : Int) = ((un (rs.take (k + 1)) : Nat) : Int) := by
        rw [bits_or_u64_nat _ _ (un_lt _) (setR_lt _), take_next hlt, un_snoc]
      rw [g2] at hA
      obtain ⟨l, hl⟩ := Int.eq_ofNat_of_zero_le g1.lo
      obtain ⟨h, hh1⟩ := Int.eq_ofNat_of_zero_le (Int.le_trans g1.lo g1.le)
      obtain ⟨t, ht⟩ := Int.eq_ofNat_of_zero_le (show 0 ≤ rs[k].st from by have := g1.st; omega)
      obtain ⟨q1, q2, q3, q4, q5, q6, q7⟩ := g1
      have G3 := Lib.hid g3
      rw [hl, hh1, ht] at CR
      rw [hl] at x0 q1 q2 q5 q6 q7
      rw [hh1] at x1 q2 q3 q5 q6 q7 hbit hh
      rw [ht] at x2 q4 q5 q6 q7
      simp only [Int.toNat_natCast] at q5 hbit
      have CH := has_yes (setR_lt rs[k]) (by omega) hbit
      have CR' := Lib.hid CR
      have CH' := Lib.hid CH
      have dt1 : decide ((t : Int) < 1) = false := decide_eq_false (by omega)
      rw [show ((0 : Nat) : Int) = 0 from rfl] at hA
      clear CR CH g2 g4 hT CU
      generalize setR rs[k] = T at *
      generalize un (rs.take k) = U at *
      generalize hU' : un (rs.take (k + 1)) = U' at *
      have HO := Lib.hid hU'
      clear hU' hbit
      cases k with
      | zero =>
        simp only [Nat.zero_mul, Nat.add_zero] at x0 x1 x2
        clear hl hh1 ht hk
        by_cases e1 : l = h
        · subst e1
          obtain rfl : t = 1 := by have := q6 rfl; omega
          have d0 : ((l : Int) - (l : Int)) = 0 := by omega
          have d1 : decide ((1 : Int) < 1) = false := by decide
          clear q6 q7 q5
          go_wp2
          go_quiet (first | (go_at_call 12; exact quiet_flip2 CR'.out))
          go_wp2
          refine wp_region_quiet_lit (by kernel_rfl) (RK.lexB_of _ (by kernel_rfl) (by kernel_rfl)) ?_
          dsimp only [List.append]
          repeat (go_big_quiet_step (first | (go_at_call 16; exact quiet_flip2 CH'.out)))
          refine wpQuiet_nil ?_
          intro _ hw'
          obtain ⟨nq2, hw''⟩ := hw'
          subst hw''
          go_wp2
          go_roundw
          case rel => exact ⟨0 + 1, by omega, by go_num, by first | rfl | rw [HO.out], _, rfl⟩
          case measure => simp [intOf]; omega
        · have e1' : ((l : Int) == (h : Int)) = false := by rw [beq_eq_false_iff_ne]; omega
          by_cases e2 : h - l = t
          · obtain rfl : t = 1 := by have := q7 (by omega); omega
            have e2' : ((h : Int) - (l : Int) == 1) = true := by rw [beq_iff_eq]; omega
            have e3 : ((h : Int) - (l : Int)) % 1 = 0 := by omega
            clear q6 q7 q5 e2 e1
            go_wp2
            go_quiet (first | (go_at_call 12; exact quiet_flip2 CR'.out))
            go_wp2
            refine wp_region_quiet_lit (by kernel_rfl) (RK.lexB_of _ (by kernel_rfl) (by kernel_rfl)) ?_
            dsimp only [List.append]
            repeat (go_big_quiet_step (first | (go_at_call 16; exact quiet_flip2 CH'.out)))
            refine wpQuiet_nil ?_
            intro _ hw'
            obtain ⟨nq2, hw''⟩ := hw'
            subst hw''
            go_wp2
            go_roundw
            case rel => exact ⟨0 + 1, by omega, by go_num, by first | rfl | rw [HO.out], _, rfl⟩
            case measure => simp [intOf]; omega
          · have e2' : ((h : Int) - (l : Int) == (t : Int)) = false := by rw [beq_eq_false_iff_ne]; omega
            have e3 : ((h : Int) - (l : Int)) % (t : Int) = 0 := by
              rw [← Int.ofNat_sub (by omega)]; exact_mod_cast q5
            have e4 : t ≠ 0 := by omega
            clear q6 q7 q5 e2 e1
            go_wp2
            go_quiet (first | (go_at_call 12; exact quiet_flip2 CR'.out))
            go_wp2
            refine wp_region_quiet_lit (by kernel_rfl) (RK.lexB_of _ (by kernel_rfl) (by kernel_rfl)) ?_
            dsimp only [List.append]
            repeat (go_big_quiet_step (first | (go_at_call 16; exact quiet_flip2 CH'.out)))
            refine wpQuiet_nil ?_
            intro _ hw'
            obtain ⟨nq2, hw''⟩ := hw'
            subst hw''
            go_wp2
            go_roundw
            case rel => exact ⟨0 + 1, by omega, by go_num, by first | rfl | rw [HO.out], _, rfl⟩
            case measure => simp [intOf]; omega
      | succ j =>
        obtain ⟨b', off', eb, y0, _, _⟩ := hat.out j (by omega)
        obtain ⟨rfl, rfl⟩ : b' = b ∧ off' = off := by simpa using eb.symm
        have hlt2 := G3.out rs[j] (by rw [List.mem_iff_getElem]; exact ⟨j, by simp; omega, by simp⟩)
        rw [hl] at hlt2
        generalize rs[j].lo = y at *
        have dy : decide ((l : Int) ≤ y) = false := decide_eq_false (by omega)
        have dj : (0 : Int) < (j : Int) + 1 := by omega
        clear hl hh1 ht eb
        by_cases e1 : l = h
        · subst e1
          obtain rfl : t = 1 := by have := q6 rfl; omega
          have d0 : ((l : Int) - (l : Int)) = 0 := by omega
          have d1 : decide ((1 : Int) < 1) = false := by decide
          clear q6 q7 q5
          go_wp2
          go_quiet (first | (go_at_call 12; exact quiet_flip2 CR'.out))
          go_wp2
          refine wp_region_quiet_lit (by kernel_rfl) (RK.lexB_of _ (by kernel_rfl) (by kernel_rfl)) ?_
          dsimp only [List.append]
          repeat (go_big_quiet_step (first | (go_at_call 16; exact quiet_flip2 CH'.out)))
          refine wpQuiet_nil ?_
          intro _ hw'
          obtain ⟨nq2, hw''⟩ := hw'
          subst hw''
          go_wp2
          go_roundw
          case rel => exact ⟨j + 1 + 1, by omega, by go_num, by first | rfl | rw [HO.out], _, rfl⟩
          case measure => simp [intOf]; omega
        · have e1' : ((l : Int) == (h : Int)) = false := by rw [beq_eq_false_iff_ne]; omega
          by_cases e2 : h - l = t
          · obtain rfl : t = 1 := by have := q7 (by omega); omega
            have e2' : ((h : Int) - (l : Int) == 1) = true := by rw [beq_iff_eq]; omega
            have e3 : ((h : Int) - (l : Int)) % 1 = 0 := by omega
            clear q6 q7 q5 e2 e1
            go_wp2
            go_quiet (first | (go_at_call 12; exact quiet_flip2 CR'.out))
            go_wp2
            refine wp_region_quiet_lit (by kernel_rfl) (RK.lexB_of _ (by kernel_rfl) (by kernel_rfl)) ?_
            dsimp only [List.append]
            repeat (go_big_quiet_step (first | (go_at_call 16; exact quiet_flip2 CH'.out)))
            refine wpQuiet_nil ?_
            intro _ hw'
            obtain ⟨nq2, hw''⟩ := hw'
            subst hw''
            go_wp2
            go_roundw
            case rel => exact ⟨j + 1 + 1, by omega, by go_num, by first | rfl | rw [HO.out], _, rfl⟩
            case measure => simp [intOf]; omega
          · have e2' : ((h : Int) - (l : Int) == (t : Int)) = false := by rw [beq_eq_false_iff_ne]; omega
            have e3 : ((h : Int) - (l : Int)) % (t : Int) = 0 := by
              rw [← Int.ofNat_sub (by omega)]; exact_mod_cast q5
            have e4 : t ≠ 0 := by omega
            clear q6 q7 q5 e2 e1
            go_wp2
            go_quiet (first | (go_at_call 12; exact quiet_flip2 CR'.out))
            go_wp2
            refine wp_region_quiet_lit (by kernel_rfl) (RK.lexB_of _ (by kernel_rfl) (by kernel_rfl)) ?_
            dsimp only [List.append]
            repeat (go_big_quiet_step (first | (go_at_call 16; exact quiet_flip2 CH'.out)))
            refine wpQuiet_nil ?_
            intro _ hw'
            obtain ⟨nq2, hw''⟩ := hw'
            subst hw''
            go_wp2
            go_roundw
            case rel => exact ⟨j + 1 + 1, by omega, by go_num, by first | rfl | rw [HO.out], _, rfl⟩
            case measure => simp [intOf]; omega
    · obtain rfl : k = rs.length := by omega
      have HP := Lib.hid (show un (rs.take rs.length) = s from by rw [List.take_length]; exact P1.out)
      have HW := works_ok (w1.drewN n) ((hT.out.below (below_drewN hbl.out n) hT.out.size))
      generalize un (rs.take rs.length) = U at *
      obtain rfl := HP.out
      have HW' := Lib.hid HW
      clear HW
      go_wp2_with (go_at_call 15; refine HW'.out.mono ?_; rintro e w' ⟨rfl, hb⟩)
      go_ret
      exact ⟨rfl, (below_drewN hbl.out n).trans (Below.mono (by assumption) hbl.out.size)⟩
end Go.Proofs.YtcgnnmpgdnajnaaDoor.BW
