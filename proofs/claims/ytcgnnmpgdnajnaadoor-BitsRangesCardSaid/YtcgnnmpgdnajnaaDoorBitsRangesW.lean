/- The walk of BitsRanges. -/
import Derived.Test.YtcgnnmpgdnajnaaDoorBitsRangesM
import Derived.Test.YtcgnnmpgdnajnaaDoorBitsPartsW
namespace Go.Proofs.YtcgnnmpgdnajnaaDoor.BW
open Go.RowKit BM

theorem rangeR_in {lo hi st : Nat} (h1 : lo ≤ hi) (h2 : hi < 64) (h3 : 1 ≤ st) : rangeR lo hi st = (rangeS lo hi st, 0) := by
  unfold rangeR
  rw [if_neg (by omega), if_neg (by omega)]
  rfl

set_option maxRecDepth 10000 in
set_option maxHeartbeats 4000000 in
theorem ranges_walk (a b c : Nat) (ha : a < 256) (hb : b < 256) (hc : c < 256) (w : World) (hT0 : Tab w) :
    Calls Tryd.prog 3 #[.int .u8 a, .int .u8 b, .int .u8 c] w fun e w' => e = .returned (.bool true) ∧ Below w.heap.size w w' := by
  have hT := Lib.hid hT0
  clear hT0
  by_cases hsw : b % 64 < a % 64
  · have hsw' : (b : Int) % 64 < (a : Int) % 64 := by omega
    go_enter Tryd.func3, Tryd.ntmps3
    go_wp2_with fail
    have e1 : (b : Int) % 64 = ((b % 64 : Nat) : Int) := by omega
    have e2 : (a : Int) % 64 = ((a % 64 : Nat) : Int) := by omega
    have e3 : (1 + (c : Int) % 31) = ((1 + c % 31 : Nat) : Int) := by omega
    rw [e1, e2, e3]
    have h64 : a % 64 < 64 := by omega
    have hle : b % 64 ≤ a % 64 := by omega
    have hst : 1 ≤ 1 + c % 31 := by omega
    have hst2 : 1 + c % 31 ≤ 31 := by omega
    clear e1 e2 e3 hsw hsw'
    generalize b % 64 = lo at *
    generalize a % 64 = hi at *
    generalize 1 + c % 31 = st at *
    have CR := range_ok lo hi st w
    rw [rangeR_in hle h64 hst] at CR
    have CC := count_ok (rangeS lo hi st) (mk_lt _)
    rw [mem_rng hle h64 hst] at CC
    have CC' := Lib.hid CC
    have CU := Lib.hid (fun w (h : Tab w) => runs_walk (rangeS lo hi st) (mk_lt _) w h)
    have H1 := Lib.hid (runs_rng_one hle h64 hst)
    have H2 := Lib.hid (runs_rng_len hle h64 hst)
    have hle2 := runsF_le 64 (rangeS lo hi st)
    clear CC
    generalize runsF 64 (rangeS lo hi st) = rs at *
    generalize rangeS lo hi st = S at *
    have hq : ((hi : Int) - (lo : Int)) / (st : Int) = (((hi - lo) / st : Nat) : Int) := by
      rw [Int.natCast_ediv, Int.ofNat_sub hle]
    have hq64 : (hi - lo) / st ≤ 63 := Nat.le_trans (Nat.div_le_self _ _) (by omega)
    have hql : lo + ((hi - lo) / st) * st ≤ hi := by
      have := Nat.div_mul_le_self (hi - lo) st; omega
    generalize (hi - lo) / st = q at *
    have hqs : (q : Int) * (st : Int) = ((q * st : Nat) : Int) := by simp
    generalize q * st = qs at *
    refine CR.mono ?_
    rintro e w' ⟨rfl, rfl⟩
    clear CR
    go_wp2_with fail
    go_quiet (first | (go_at_call 13; exact quiet_flip CC'.out))
    go_wp2_with fail
    refine (CU.out (w.drewN nq) hT.out).mono ?_
    rintro e w1 ⟨v, rfl, hown, hb⟩
    have hbl := Lib.hid ((below_drewN (Below.refl w.heap.size w) nq).trans hb)
    clear hb CU CC'
    by_cases h1 : st = 1 ∨ 2 ≤ q
    · obtain rfl := H1.out h1
      obtain ⟨a', cap, rfl, hat⟩ := hown.shape
      obtain ⟨b', off, rfl, x0, x1, x2⟩ := hat 0 (by simp)
      simp only [Nat.zero_mul, Nat.add_zero, List.getElem_cons_zero] at x0 x1 x2
      rw [show ((lo + qs : Nat) : Int) = (lo : Int) + (qs : Int) from by simp] at x1
      have CW := Lib.hid (works_ok w1 (hT.out.below hbl.out hT.out.size))
      have heq := fun w => run_eq_arr3 lo ((lo : Int) + (qs : Int)) st lo ((lo : Int) + (qs : Int)) st w
      rw [show ((lo : Int) == (lo : Int) && ((lo : Int) + (qs : Int)) == ((lo : Int) + (qs : Int)) && (st : Int) == (st : Int)) = true from by simp] at heq
      clear H1 H2 hown hat hle2
      by_cases h3 : st = 1
      · subst h3
        clear h1
        simp only [show ((1 : Nat) : Int) = 1 from rfl] at heq
        go_wp2_with (go_at_call 15; refine CW.out.mono ?_; rintro e w' ⟨rfl, hb⟩)
        go_ret
        exact ⟨rfl, hbl.out.trans (Below.mono (by assumption) hbl.out.size)⟩
      · have h3' : ((st : Int) == 1) = false := by rw [beq_eq_false_iff_ne]; omega
        have h4 : (2 : Int) ≤ (q : Int) := by omega
        clear h1 h3
        go_wp2_with (go_at_call 15; refine CW.out.mono ?_; rintro e w' ⟨rfl, hb⟩)
        go_ret
        exact ⟨rfl, hbl.out.trans (Below.mono (by assumption) hbl.out.size)⟩
    · have hlen := H2.out h1
      obtain ⟨a', cap, rfl, _⟩ := hown.shape
      have CW := Lib.hid (works_ok w1 (hT.out.below hbl.out hT.out.size))
      have h3' : ((st : Int) == 1) = false := by rw [beq_eq_false_iff_ne]; omega
      have h4 : decide ((2 : Int) ≤ (q : Int)) = false := decide_eq_false (by omega)
      clear H1 H2 hown h1
      generalize rs.length = n at *
      subst hlen
      go_wp2_with (go_at_call 15; refine CW.out.mono ?_; rintro e w' ⟨rfl, hb⟩)
      go_ret
      exact ⟨rfl, hbl.out.trans (Below.mono (by assumption) hbl.out.size)⟩
  · have hsw' : ¬ (b : Int) % 64 < (a : Int) % 64 := by omega
    go_enter Tryd.func3, Tryd.ntmps3
    go_wp2_with fail
    have e1 : (a : Int) % 64 = ((a % 64 : Nat) : Int) := by omega
    have e2 : (b : Int) % 64 = ((b % 64 : Nat) : Int) := by omega
    have e3 : (1 + (c : Int) % 31) = ((1 + c % 31 : Nat) : Int) := by omega
    rw [e1, e2, e3]
    have h64 : b % 64 < 64 := by omega
    have hle : a % 64 ≤ b % 64 := by omega
    have hst : 1 ≤ 1 + c % 31 := by omega
    have hst2 : 1 + c % 31 ≤ 31 := by omega
    clear e1 e2 e3 hsw hsw'
    generalize a % 64 = lo at *
    generalize b % 64 = hi at *
    generalize 1 + c % 31 = st at *
    have CR := range_ok lo hi st w
    rw [rangeR_in hle h64 hst] at CR
    have CC := count_ok (rangeS lo hi st) (mk_lt _)
    rw [mem_rng hle h64 hst] at CC
    have CC' := Lib.hid CC
    have CU := Lib.hid (fun w (h : Tab w) => runs_walk (rangeS lo hi st) (mk_lt _) w h)
    have H1 := Lib.hid (runs_rng_one hle h64 hst)
    have H2 := Lib.hid (runs_rng_len hle h64 hst)
    have hle2 := runsF_le 64 (rangeS lo hi st)
    clear CC
    generalize runsF 64 (rangeS lo hi st) = rs at *
    generalize rangeS lo hi st = S at *
    have hq : ((hi : Int) - (lo : Int)) / (st : Int) = (((hi - lo) / st : Nat) : Int) := by
      rw [Int.natCast_ediv, Int.ofNat_sub hle]
    have hq64 : (hi - lo) / st ≤ 63 := Nat.le_trans (Nat.div_le_self _ _) (by omega)
    have hql : lo + ((hi - lo) / st) * st ≤ hi := by
      have := Nat.div_mul_le_self (hi - lo) st; omega
    generalize (hi - lo) / st = q at *
    have hqs : (q : Int) * (st : Int) = ((q * st : Nat) : Int) := by simp
    generalize q * st = qs at *
    refine CR.mono ?_
    rintro e w' ⟨rfl, rfl⟩
    clear CR
    go_wp2_with fail
    go_quiet (first | (go_at_call 13; exact quiet_flip CC'.out))
    go_wp2_with fail
    refine (CU.out (w.drewN nq) hT.out).mono ?_
    rintro e w1 ⟨v, rfl, hown, hb⟩
    have hbl := Lib.hid ((below_drewN (Below.refl w.heap.size w) nq).trans hb)
    clear hb CU CC'
    by_cases h1 : st = 1 ∨ 2 ≤ q
    · obtain rfl := H1.out h1
      obtain ⟨a', cap, rfl, hat⟩ := hown.shape
      obtain ⟨b', off, rfl, x0, x1, x2⟩ := hat 0 (by simp)
      simp only [Nat.zero_mul, Nat.add_zero, List.getElem_cons_zero] at x0 x1 x2
      rw [show ((lo + qs : Nat) : Int) = (lo : Int) + (qs : Int) from by simp] at x1
      have CW := Lib.hid (works_ok w1 (hT.out.below hbl.out hT.out.size))
      have heq := fun w => run_eq_arr3 lo ((lo : Int) + (qs : Int)) st lo ((lo : Int) + (qs : Int)) st w
      rw [show ((lo : Int) == (lo : Int) && ((lo : Int) + (qs : Int)) == ((lo : Int) + (qs : Int)) && (st : Int) == (st : Int)) = true from by simp] at heq
      clear H1 H2 hown hat hle2
      by_cases h3 : st = 1
      · subst h3
        clear h1
        simp only [show ((1 : Nat) : Int) = 1 from rfl] at heq
        go_wp2_with (go_at_call 15; refine CW.out.mono ?_; rintro e w' ⟨rfl, hb⟩)
        go_ret
        exact ⟨rfl, hbl.out.trans (Below.mono (by assumption) hbl.out.size)⟩
      · have h3' : ((st : Int) == 1) = false := by rw [beq_eq_false_iff_ne]; omega
        have h4 : (2 : Int) ≤ (q : Int) := by omega
        clear h1 h3
        go_wp2_with (go_at_call 15; refine CW.out.mono ?_; rintro e w' ⟨rfl, hb⟩)
        go_ret
        exact ⟨rfl, hbl.out.trans (Below.mono (by assumption) hbl.out.size)⟩
    · have hlen := H2.out h1
      obtain ⟨a', cap, rfl, _⟩ := hown.shape
      have CW := Lib.hid (works_ok w1 (hT.out.below hbl.out hT.out.size))
      have h3' : ((st : Int) == 1) = false := by rw [beq_eq_false_iff_ne]; omega
      have h4 : decide ((2 : Int) ≤ (q : Int)) = false := decide_eq_false (by omega)
      clear H1 H2 hown h1
      generalize rs.length = n at *
      subst hlen
      go_wp2_with (go_at_call 15; refine CW.out.mono ?_; rintro e w' ⟨rfl, hb⟩)
      go_ret
      exact ⟨rfl, hbl.out.trans (Below.mono (by assumption) hbl.out.size)⟩
end Go.Proofs.YtcgnnmpgdnajnaaDoor.BW
