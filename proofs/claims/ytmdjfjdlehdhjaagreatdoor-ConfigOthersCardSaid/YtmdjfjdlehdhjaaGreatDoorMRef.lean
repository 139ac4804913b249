/- Contracts of zone.Check and civil.Date. Contracts of the reference's Leap, leaps, before and Length. Contract of the reference's Length. Contract of the reference's Date. Contract of the reference's Check of a zone. -/
import Derived.Test.YtmdjfjdlehdhjaaGreatDoorMBits
import Derived.Test.YtmdjfjdlehdhjaaGreatDoorMTimes
import Derived.Below
import Derived.Deep.QuietTactic
import Derived.BigQuiet
import Derived.Deep.LoopGhost
namespace Go.Proofs.YtmdjfjdlehdhjaaGreatDoor.BW
open Go.RowKit BM MC

/-- What zone.Check answers. -/
def zoneR (z : Int) : Int := if -840 ≤ z ∧ z ≤ 840 then 0 else 2
set_option maxHeartbeats 1000000 in
theorem zone_ok (z : Int) (w : World) : Calls Tryz.prog 106 #[.int .i64 z] w fun e w' => e = .returned (.int .i64 (zoneR z)) ∧ w = w' := by
  by_cases h : -840 ≤ z ∧ z ≤ 840
  · have E : Hid (zoneR z = 0) := Lib.hid (if_pos h)
    go_enter Tryz.func106, Tryz.ntmps106
    go_wp2
    all_goals first
      | (exfalso; omega)
      | (go_ret; exact ⟨ret_i64 (by rw [E.out]), rfl⟩)
  · have E : Hid (zoneR z = 2) := Lib.hid (if_neg h)
    go_enter Tryz.func106, Tryz.ntmps106
    go_wp2
    all_goals first
      | (exfalso; omega)
      | (go_ret; exact ⟨ret_i64 (by rw [E.out]), rfl⟩)

/-! ### Four results -/
theorem results_four {fn : Func} {t u v x : Tmp} (h : fn.results = #[.tmp t, .tmp u, .tmp v, .tmp x]) (tmps : Array Value) (P : Program) (w : World) :
    (results fn tmps).run P w = .ok (.tuple #[tmps.getD t undef, tmps.getD u undef, tmps.getD v undef, tmps.getD x undef]) w := by
  simp [results, h]
/-! ### The date's arithmetic -/
theorem ret_iiii {a b c a' b' c' : Int} (h : a = a') (h2 : b = b') (h3 : c = c') : Ending.returned (.tuple #[.int .i64 a, .int .i64 b, .int .i64 c, .int .i64 0]) = .returned (.tuple #[.int .i64 a', .int .i64 b', .int .i64 c', .int .i64 0]) := by rw [h, h2, h3]
theorem doy_int (d : Nat) (h : d < 146097) :
    (d : Int) - (365 * (((d : Int) - d / 1460 + d / 36524 - d / 146096) / 365) + ((d : Int) - d / 1460 + d / 36524 - d / 146096) / 365 / 4 - ((d : Int) - d / 1460 + d / 36524 - d / 146096) / 365 / 100) = ((d - sy (fy d) : Nat) : Int) ∧
    ((d : Int) - d / 1460 + d / 36524 - d / 146096) / 365 = (fy d : Nat) ∧ d - sy (fy d) ≤ 365 := by
  obtain ⟨f1, f2, f3⟩ := fy_spec d h
  have e : ((d : Int) - d / 1460 + d / 36524 - d / 146096) / 365 = (fy d : Nat) := by unfold fy; omega
  refine ⟨?_, e, ?_⟩
  · rw [e]
    generalize fy d = y at *
    unfold sy at *
    omega
  · generalize fy d = y at *
    unfold syE sy at *
    split at f3 <;> omega
theorem day_int (D : Nat) (h : D ≤ 365) : (D : Int) - (153 * ((5 * (D : Int) + 2) / 153) + 2) / 5 + 1 = ((D - (153 * ((5 * D + 2) / 153) + 2) / 5 + 1 : Nat) : Int) := by
  have q := (mp_at D (by omega)).2.1
  unfold cumM mp at q
  have h1 : (5 * (D : Int) + 2) / 153 = (((5 * D + 2) / 153 : Nat) : Int) := by rw [Int.natCast_ediv]; simp
  rw [h1]
  generalize (5 * D + 2) / 153 = e at q ⊢
  have h2 : (153 * (e : Int) + 2) / 5 = (((153 * e + 2) / 5 : Nat) : Int) := by rw [Int.natCast_ediv]; simp
  rw [h2]
  generalize (153 * e + 2) / 5 = f at q ⊢
  omega
set_option maxHeartbeats 2000000 in
theorem date_ok (n : Nat) (h : n ≤ 2932896) (w : World) : Calls Tryz.prog 184 #[.int .i64 n] w fun e w' => e = .returned (.tuple #[.int .i64 ((ymdC n).1 : Nat), .int .i64 ((ymdC n).2.1 : Nat), .int .i64 ((ymdC n).2.2 : Nat), .int .i64 0]) ∧ w = w' := by
  obtain ⟨d1, d2, d3⟩ := doy_int ((n + 719468) % 146097) (Nat.mod_lt _ (by omega))
  have hc : (((n + 719468) % 146097 : Nat) : Int) = ((n : Int) + 719468) % 146097 := by omega
  rw [hc] at d1 d2
  obtain ⟨D, hD⟩ : ∃ D, D = (n + 719468) % 146097 - sy (fy ((n + 719468) % 146097)) := ⟨_, rfl⟩
  rw [← hD] at d1 d3
  have Y : Hid (ymdC n = if 12 < (5 * D + 2) / 153 + 3 then (400 * ((n + 719468) / 146097) + fy ((n + 719468) % 146097) + 1, (5 * D + 2) / 153 + 3 - 12, D - (153 * ((5 * D + 2) / 153) + 2) / 5 + 1) else (400 * ((n + 719468) / 146097) + fy ((n + 719468) % 146097), (5 * D + 2) / 153 + 3, D - (153 * ((5 * D + 2) / 153) + 2) / 5 + 1)) := Lib.hid (by rw [hD]; rfl)
  clear hD
  have d2' := Lib.hid d2
  clear d2
  go_enter Tryz.func184, Tryz.ntmps184
  go_wp2
  · (try simp only [Exit.inBlock, Exit.then])
    refine bodyPost_ret (results_four rfl _ _ _) rfl ?_
    have Z := Y.out
    rw [if_pos (by omega)] at Z
    refine ⟨ret_iiii ?_ ?_ ?_, rfl⟩
    · rw [d2'.out, Z]; omega
    · rw [Z]; simp only; omega
    · rw [Z]; exact day_int D d3
  · (try simp only [Exit.inBlock, Exit.then])
    refine bodyPost_ret (results_four rfl _ _ _) rfl ?_
    have Z := Y.out
    rw [if_neg (by omega)] at Z
    refine ⟨ret_iiii ?_ ?_ ?_, rfl⟩
    · rw [d2'.out, Z]; omega
    · rw [Z]; simp only; omega
    · rw [Z]; exact day_int D d3
end Go.Proofs.YtmdjfjdlehdhjaaGreatDoor.BW
namespace Go.Proofs.YtmdjfjdlehdhjaaGreatDoor.BW
open Go.RowKit BM MC

set_option maxHeartbeats 400000 in
theorem leap_ok (y : Nat) (_h : y ≤ 20000) (w : World) : Calls Tryz.prog 207 #[.int .i64 y] w fun e w' => e = .returned (.bool (leap y)) ∧ w = w' := by
  have E : Hid (leap y = (if (y : Int) % 4 = 0 ∧ (y : Int) % 100 ≠ 0 ∨ (y : Int) % 400 = 0 then true else false)) := Lib.hid (by
    unfold leap
    rw [Bool.eq_iff_iff]
    simp only [Bool.or_eq_true, Bool.and_eq_true, decide_eq_true_eq, Bool.not_eq_true', decide_eq_false_iff_not, ite_eq_left_iff, Bool.false_eq_true, imp_false, Decidable.not_not]
    omega)
  go_enter Tryz.func207, Tryz.ntmps207
  go_wp2
  all_goals
    go_ret
    refine ⟨ret_bool ?_, rfl⟩
    rw [E.out]
    split <;> simp_all <;> omega

set_option maxHeartbeats 400000 in
theorem leaps_ok (y : Nat) (_h : y ≤ 20000) (w : World) : Calls Tryz.prog 206 #[.int .i64 y] w fun e w' => e = .returned (.int .i64 (leaps y : Nat)) ∧ w = w' := by
  go_enter Tryz.func206, Tryz.ntmps206
  go_wp2
  go_ret
  exact ⟨ret_i64 (by unfold leaps; omega), rfl⟩

set_option maxHeartbeats 400000 in
theorem before_ok (y : Nat) (h1 : 1970 ≤ y) (h2 : y ≤ 20000) (w : World) : Calls Tryz.prog 190 #[.int .i64 y] w fun e w' => e = .returned (.int .i64 (before y : Nat)) ∧ w = w' := by
  have L1 := fun w => leaps_ok (y - 1) (by omega) w
  have L2 := fun w => leaps_ok 1969 (by omega) w
  have e1 : ((y - 1 : Nat) : Int) = (y : Int) - 1 := by omega
  have hb : leaps (y - 1) ≤ 5000 := by unfold leaps; omega
  have hc : 477 ≤ leaps (y - 1) := by unfold leaps; omega
  have hd : ((leaps 1969 : Nat) : Int) = 477 := rfl
  have hB : Hid (((before y : Nat) : Int) = 365 * ((y : Int) - 1970) + (leaps (y - 1) : Nat) - 477) := Lib.hid (by unfold before; omega)
  rw [e1] at L1
  rw [hd] at L2
  generalize leaps (y - 1) = l at *
  have L1' := Lib.hid L1
  have L2' := Lib.hid L2
  clear L1 L2
  go_enter Tryz.func190, Tryz.ntmps190
  go_wp2_with fail
  refine (L1'.out _).mono ?_
  rintro e w' ⟨rfl, rfl⟩
  go_wp2_with fail
  refine (L2'.out _).mono ?_
  rintro e w' ⟨rfl, rfl⟩
  go_wp2_with fail
  go_ret
  exact ⟨ret_i64 (by rw [hB.out]), rfl⟩
end Go.Proofs.YtmdjfjdlehdhjaaGreatDoor.BW
namespace Go.Proofs.YtmdjfjdlehdhjaaGreatDoor.BW
open Go.RowKit BM MC

theorem ret_ii {a b : Int} {c d : Int} (h : a = b) (h' : c = d) : Ending.returned (.tuple #[.int .i64 a, .int .i64 c]) = .returned (.tuple #[.int .i64 b, .int .i64 d]) := by rw [h, h']
set_option maxRecDepth 8000 in
set_option maxHeartbeats 4000000 in
theorem rlen_ok (y m : Nat) (h1 : 1970 ≤ y) (h2 : y ≤ 9999) (h3 : 1 ≤ m) (h4 : m ≤ 12) (w : World) : Calls Tryz.prog 191 #[.int .i64 y, .int .i64 m] w fun e w' => e = .returned (.tuple #[.int .i64 (mlen y m : Nat), .int .i64 0]) ∧ Below w.heap.size w w' := by
  have L := Lib.hid (fun w => leap_ok y (by omega) w)
  by_cases hm : m = 2
  · subst hm
    cases hl : leap y with
    | true =>
      have E : Hid (mlen y 2 = 29) := Lib.hid (by unfold mlen lp; rw [hl]; rfl)
      rw [hl] at L
      go_enter Tryz.func191, Tryz.ntmps191
      go_wp2_with fail
      refine (L.out _).mono ?_
      rintro e w' ⟨rfl, rfl⟩
      go_wp2_with fail
      go_ret2
      exact ⟨ret_ii (by rw [E.out]; rfl) rfl, Below.refl _ _⟩
    | false =>
      have E : Hid (mlen y 2 = 28) := Lib.hid (by unfold mlen lp; rw [hl]; rfl)
      rw [hl] at L
      go_enter Tryz.func191, Tryz.ntmps191
      go_wp2_with fail
      refine (L.out _).mono ?_
      rintro e w' ⟨rfl, rfl⟩
      go_wp2_with fail
      go_ret2
      exact ⟨ret_ii (by rw [E.out]; rfl) rfl, (Below.refl _ _).alloc (Nat.le_refl _) _⟩
  · clear L
    have hc : m = 1 ∨ m = 3 ∨ m = 4 ∨ m = 5 ∨ m = 6 ∨ m = 7 ∨ m = 8 ∨ m = 9 ∨ m = 10 ∨ m = 11 ∨ m = 12 := by omega
    clear hm h3 h4
    rcases hc with rfl | rfl | rfl | rfl | rfl | rfl | rfl | rfl | rfl | rfl | rfl
    all_goals
      go_enter Tryz.func191, Tryz.ntmps191
      go_wp2_with fail
      go_ret2
      exact ⟨ret_ii (by rfl) rfl, (Below.refl _ _).alloc (Nat.le_refl _) _⟩
end Go.Proofs.YtmdjfjdlehdhjaaGreatDoor.BW
namespace Go.Proofs.YtmdjfjdlehdhjaaGreatDoor.BW
open Go.RowKit BM MC

theorem before_start (n : Nat) : before (1970 + n / 366) ≤ n := by
  have hl : leaps (1970 + n / 366 - 1) ≤ 477 + n / 366 := by
    unfold leaps
    generalize n / 366 = q
    omega
  unfold before
  generalize leaps (1970 + n / 366 - 1) = l at *
  omega
theorem before_last {n k : Nat} (h : n ≤ 2932896) (_ : 1970 ≤ k) (hb : before k ≤ n) : k ≤ 9999 := by
  rcases Nat.lt_or_ge 9999 k with hlt | hge
  · have h1 := before_mono (y := 10000) (z := k) (by omega) (by omega)
    have h2 : before 10000 = 2932897 := rfl
    omega
  · exact hge
theorem date_here {n y m l : Nat} (hy : 1970 ≤ y) (h1 : 1 ≤ m) (h2 : m ≤ 12) (hn : n = before y + cum y m + l) (hl : l < mlen y m) : ymd n = (y, m, l + 1) := by
  have e : n = dn y m (l + 1) := by unfold dn; omega
  rw [e]
  exact ymd_dn ⟨hy, h1, h2, by omega, by omega⟩

set_option maxRecDepth 8000 in
set_option maxHeartbeats 4000000 in
theorem rdate_ok (n : Nat) (h : n ≤ 2932896) (w : World) : Calls Tryz.prog 177 #[.int .i64 n] w fun e w' => e = .returned (.tuple #[.int .i64 ((ymd n).1 : Nat), .int .i64 ((ymd n).2.1 : Nat), .int .i64 ((ymd n).2.2 : Nat), .int .i64 0]) ∧ Below w.heap.size w w' := by
  have BS := Lib.hid (before_start n)
  go_enter Tryz.func177, Tryz.ntmps177
  go_wp2
  go_loop [6] (fun y => ∃ k : Nat, 1970 ≤ k ∧ before k ≤ n ∧ y = .int .i64 k) (fun y => 10000 - (intOf y).toNat)
  case atStart => exact ⟨1970 + n / 366, by omega, BS.out, by go_num⟩
  case round =>
    obtain ⟨k, hk, hb, rfl⟩ := hrel
    have hk2 := before_last h hk hb
    have HB := Lib.hid hb
    clear hb
    by_cases hn : before (k + 1) ≤ n
    · have C1 := Lib.hid (fun w => before_ok (k + 1) (by omega) (by omega) w)
      have HN := Lib.hid hn
      go_wp2_with (go_at_call 190; refine (C1.out _).mono ?_; rintro e w' ⟨rfl, rfl⟩)
      refine ⟨⟨k + 1, by omega, HN.out, by go_num⟩, ?_⟩
      simp [intOf]; omega
    · have C1 := Lib.hid (fun w => before_ok (k + 1) (by omega) (by omega) w)
      have C2 := Lib.hid (fun w => before_ok k (by omega) (by omega) w)
      have hs := before_succ hk
      have hle := HB.out
      obtain ⟨b, hbe⟩ : ∃ b, b = before k := ⟨_, rfl⟩
      have hlp := lp_le k
      have BB := Lib.hid hbe
      rw [← hbe] at C2 hs hle
      have hd : n - b < 365 + lp k := by omega
      have hn' : ((before (k + 1) : Nat) : Int) > n := by omega
      have HD := Lib.hid hd
      clear hd hs hbe
      generalize before (k + 1) = b1 at *
      go_wp2_with fail
      refine (C1.out _).mono ?_
      rintro e w' ⟨rfl, rfl⟩
      go_wp2_with fail
      refine (C2.out _).mono ?_
      rintro e w' ⟨rfl, rfl⟩
      go_wp2_with fail
      go_loopw [7, 8] (fun l m wr => ∃ q j : Nat, 1 ≤ q ∧ q ≤ 12 ∧ l = .int .i64 j ∧ m = .int .i64 q ∧ j + cum k q = n - b ∧ Below w.heap.size w wr) (fun _ m _ => 13 - (intOf m).toNat)
      case atStart => exact ⟨1, n - b, by omega, by omega, by go_num, rfl, by rw [cum_one]; rfl, Below.refl _ _⟩
      case round =>
        obtain ⟨q, j, q1, q2, rfl, rfl, hj, hB⟩ := hrel
        have L := Lib.hid (fun w => rlen_ok k q hk hk2 q1 q2 w)
        have hJ := Lib.hid hj
        have ml := mlen_bounds k q
        have hbd : j ≤ 400 := by have := HD.out; omega
        by_cases hlt : j < mlen k q
        · have E := Lib.hid (date_here hk q1 q2 (n := n) (by have := BB.out; omega) hlt)
          clear hj
          generalize mlen k q = z at *
          go_wp2_with fail
          refine (L.out _).mono ?_
          rintro e w' ⟨rfl, hb⟩
          go_wp2_with fail
          (try simp only [Exit.inBlock, Exit.then])
          refine bodyPost_ret (results_four rfl _ _ _) rfl ?_
          exact ⟨ret_iiii (by rw [E.out]) (by rw [E.out]) (by rw [E.out]; rfl), hB.trans (hb.mono hB.size)⟩
        · have hq : q < 12 := by
            rcases Nat.lt_or_ge q 12 with h | h
            · exact h
            · obtain rfl : q = 12 := by omega
              have := cum_last k
              have := HD.out
              omega
          have hc := Lib.hid (cum_succ k q q1 hq)
          clear hj
          generalize mlen k q = z at *
          go_wp2_with fail
          refine (L.out _).mono ?_
          rintro e w' ⟨rfl, hb⟩
          go_wp2_with fail
          refine ⟨⟨q + 1, j - z, by omega, by omega, by go_num, by go_num, by have := hJ.out; have := hc.out; omega, hB.trans (hb.mono hB.size)⟩, ?_⟩
          simp [intOf]; omega
end Go.Proofs.YtmdjfjdlehdhjaaGreatDoor.BW
namespace Go.Proofs.YtmdjfjdlehdhjaaGreatDoor.BW
open Go.RowKit BM MC

set_option maxHeartbeats 1000000 in
theorem rzone_ok (z : Int) (w : World) : Calls Tryz.prog 90 #[.int .i64 z] w fun e w' => e = .returned (.int .i64 (zoneR z)) ∧ w = w' := by
  by_cases h : -840 ≤ z ∧ z ≤ 840
  · have E : Hid (zoneR z = 0) := Lib.hid (if_pos h)
    go_enter Tryz.func90, Tryz.ntmps90
    go_wp2
    all_goals first
      | (exfalso; omega)
      | (go_ret; exact ⟨ret_i64 (by rw [E.out]), rfl⟩)
  · have E : Hid (zoneR z = 2) := Lib.hid (if_neg h)
    go_enter Tryz.func90, Tryz.ntmps90
    go_wp2
    all_goals first
      | (exfalso; omega)
      | (go_ret; exact ⟨ret_i64 (by rw [E.out]), rfl⟩)

end Go.Proofs.YtmdjfjdlehdhjaaGreatDoor.BW
