/- Contract of match.upTo: how many seconds of a day up to one are matched. -/
import Derived.Test.YtihadbkjfocdoaaGreatDoorMatN
import Derived.Test.YtihadbkjfocdoaaGreatDoorMTimes
import Derived.Test.YtihadbkjfocdoaaGreatDoorMBits
namespace Go.Proofs.YtihadbkjfocdoaaGreatDoor.BW
open Go.RowKit BM Go.Shelf MC
open BK hiding ret_bool ret_i64

theorem mem_cnt (s : Nat) (n : Nat) : ((List.range n).filter fun i => s.testBit i).length = cnt s.testBit n := by
  induction n with
  | zero => rfl
  | succ n ih =>
    rw [List.range_succ, List.filter_append, List.length_append, ih, cnt]
    cases h : s.testBit n <;> simp [h]
theorem cnt_cut (p : Nat → Bool) (v n : Nat) (hv : v ≤ n) (h : ∀ i, v ≤ i → i < n → p i = false) : cnt p n = cnt p v := by
  obtain ⟨k, rfl⟩ : ∃ k, n = v + k := ⟨n - v, by omega⟩
  rw [cnt_add, cnt_false k (fun i hi => h _ (by omega) (by omega))]
  rfl
theorem mem_mask (s v : Nat) (hv : v ≤ 64) : (mem (s &&& (2 ^ v - 1))).length = cnt s.testBit v := by
  unfold mem
  rw [mem_cnt _ 64, cnt_cut _ v 64 hv]
  · refine cnt_congr v fun i hi => ?_
    rw [Nat.testBit_and, Nat.testBit_two_pow_sub_one]
    simp [hi]
  · intro i h1 h2
    rw [Nat.testBit_and, Nat.testBit_two_pow_sub_one]
    simp; intro _; omega
theorem mem60 (s : Nat) (h : s < 2 ^ 60) : (mem s).length = cnt s.testBit 60 := by
  unfold mem
  rw [mem_cnt _ 64, cnt_cut _ 60 64 (by omega)]
  intro i h1 h2
  exact Nat.testBit_lt_two_pow (Nat.lt_of_lt_of_le h (Nat.pow_le_pow_right (by decide) h1))
theorem clk_upto (x : Ex) (s : Nat) : cnt (clk x) (s + 1) =
    cnt x.h.testBit (s / 3600) * (cnt x.mi.testBit 60) * cnt x.s.testBit 60 +
    if x.h.testBit (s / 3600) then cnt x.mi.testBit (s / 60 % 60) * cnt x.s.testBit 60 + (if x.mi.testBit (s / 60 % 60) then cnt x.s.testBit (s % 60 + 1) else 0) else 0 := by
  have h1 : cnt (clk x) (s + 1) = cnt (clk x) s + if clk x s then 1 else 0 := rfl
  have h2 : cnt x.s.testBit (s % 60 + 1) = cnt x.s.testBit (s % 60) + if x.s.testBit (s % 60) then 1 else 0 := rfl
  have e1 : s % 3600 / 60 = s / 60 % 60 := by omega
  rw [h1, clk_count, e1, Nat.mul_assoc, h2]
  unfold clk
  generalize cnt x.s.testBit (s % 60) = k1
  generalize cnt x.h.testBit (s / 3600) * (cnt x.mi.testBit 60 * cnt x.s.testBit 60) = k2
  generalize cnt x.mi.testBit (s / 60 % 60) * cnt x.s.testBit 60 = k3
  cases x.h.testBit (s / 3600) <;> cases x.mi.testBit (s / 60 % 60) <;> cases x.s.testBit (s % 60) <;> simp <;> omega

set_option maxHeartbeats 1000000 in
theorem below_ok (s v : Nat) (hs : s < 18446744073709551616) (hv : v ≤ 60) (w : World) :
    Calls Tryz.prog 110 #[.int .u64 s, .int .i64 v] w fun e w' => e = .returned (.int .i64 (cnt s.testBit v : Nat)) ∧ w = w' := by
  have hp : 2 ^ v ≤ 2 ^ 60 := Nat.pow_le_pow_right (by decide) hv
  have hp0 : 0 < 2 ^ v := Nat.pow_pos (by decide)
  have C := Lib.hid (count_ok (s &&& (2 ^ v - 1)) (Nat.lt_of_le_of_lt Nat.and_le_left hs) w)
  rw [mem_mask s v (by omega)] at C
  have HA := Lib.hid (andN s (2 ^ v - 1) hs (by omega))
  have hw : IntKind.u64.wrap (2 ^ v) = ((2 ^ v : Nat) : Int) := by
    rw [show ((2 : Int) ^ v) = ((2 ^ v : Nat) : Int) from by simp]
    exact wrapN _ (by omega)
  generalize hP : (2 : Nat) ^ v = p at *
  have hw2 : ((p - 1 : Nat) : Int) = (p : Int) - 1 := by omega
  rw [hw2] at HA
  clear hw2
  go_enter Tryz.func110, Tryz.ntmps110
  go_wp2_with fail
  rw [HA.out]
  refine (C.out).mono ?_
  rintro e w' ⟨rfl, rfl⟩
  go_wp2_with fail
  go_ret
  exact ⟨rfl, rfl⟩

def upR (x : Ex) (tt : Int) : Nat := if tt < 0 then 0 else cnt (clk x) (tt.toNat + 1)
set_option maxRecDepth 60000 in
set_option maxHeartbeats 4000000 in
theorem upto_ok (x : Ex) (hu : U64s x) (hx : x.Ok) (tt : Int) (h0 : -1 ≤ tt) (h1 : tt < 86400) (w : World) :
    Calls Tryz.prog 97 #[.agg (exV x), .int .i64 tt] w fun e w' => e = .returned (.int .i64 (upR x tt : Nat)) ∧ Below w.heap.size w w' := by
  have e0 : exV x = #[.int .u64 x.s, .int .u64 x.mi, .int .u64 x.h, .int .u64 x.d, .int .u64 x.mo, .int .u64 x.w, .bool x.ad, .bool x.aw] := rfl
  by_cases hneg : tt < 0
  · have HE : Hid (upR x tt = 0) := Lib.hid (if_pos hneg)
    rw [e0]
    go_enter Tryz.func97, Tryz.ntmps97
    go_wp2
    go_ret
    exact ⟨by rw [HE.out]; rfl, (Below.refl _ w).alloc (Nat.le_refl _) _⟩
  · obtain ⟨t, rfl⟩ := Int.eq_ofNat_of_zero_le (show 0 ≤ tt by omega)
    have HE : Hid (upR x t = cnt (clk x) (t + 1)) := Lib.hid (if_neg hneg)
    have HC := Lib.hid (clk_upto x t)
    rw [HE.out, HC.out]
    clear HE HC h0 hneg
    have h2 : t < 86400 := by omega
    clear h1
    have hB0 : Below w.heap.size w (w.alloc (.cells (exV x) 47)) := (Below.refl _ w).alloc (Nat.le_refl _) _
    have hbx := Blk.new w 47 (exV x)
    have k0 := cell_regrown (show _ = some (.int .u64 x.s) from hbx.cell 0)
    have k1 := cell_regrown (show _ = some (.int .u64 x.mi) from hbx.cell 1)
    have k2 := cell_regrown (show _ = some (.int .u64 x.h) from hbx.cell 2)
    have CB1 := Lib.hid (fun W => below_ok x.h (t / 3600) hu.h (by omega) W)
    have CB2 := Lib.hid (fun W => below_ok x.mi (t / 60 % 60) hu.mi (by omega) W)
    have CB3 := Lib.hid (fun W => below_ok x.s (t % 60 + 1) hu.s (by omega) W)
    have CM := Lib.hid (fun W => count_ok x.mi hu.mi W)
    have CS := Lib.hid (fun W => count_ok x.s hu.s W)
    rw [mem60 _ hx.mi60] at CM
    rw [mem60 _ hx.s60] at CS
    have CH := Lib.hid (fun W => has_ok x.h (t / 3600 : Nat) hu.h W)
    have CN := Lib.hid (fun W => has_ok x.mi (t / 60 % 60 : Nat) hu.mi W)
    rw [BW.has_nat _ _ (by omega)] at CH
    rw [BW.has_nat _ _ (by omega)] at CN
    have b1 := cnt_le x.h.testBit (t / 3600)
    have b2 := cnt_le x.mi.testBit 60
    have b3 := cnt_le x.s.testBit 60
    have b4 := cnt_le x.mi.testBit (t / 60 % 60)
    have b5 := cnt_le x.s.testBit (t % 60 + 1)
    obtain ⟨q1, e1⟩ : ∃ q, q = t / 3600 := ⟨_, rfl⟩
    obtain ⟨q2, e2⟩ : ∃ q, q = t / 60 % 60 := ⟨_, rfl⟩
    obtain ⟨q3, e3⟩ : ∃ q, q = t % 60 := ⟨_, rfl⟩
    have f1 : (t : Int) / 3600 = (q1 : Int) := by omega
    have f2 : (t : Int) / 60 % 60 = (q2 : Int) := by omega
    have f3 : (t : Int) % 60 = (q3 : Int) := by omega
    have f4 : ((q3 + 1 : Nat) : Int) = (q3 : Int) + 1 := by omega
    have g1 : q1 < 24 := by omega
    have g2 : q2 < 60 := by omega
    have g3 : q3 < 60 := by omega
    rw [← e1] at CB1 CH b1
    rw [← e2] at CB2 CN b4
    rw [← e3] at CB3 b5
    rw [f4] at CB3
    rw [← e1, ← e2, ← e3]
    clear e1 e2 e3 f4
    generalize cnt x.h.testBit q1 = n1 at *
    generalize cnt x.mi.testBit 60 = n2 at *
    generalize cnt x.s.testBit 60 = n3 at *
    generalize cnt x.mi.testBit q2 = n4 at *
    generalize cnt x.s.testBit (q3 + 1) = n5 at *
    generalize x.h.testBit q1 = p1 at *
    generalize x.mi.testBit q2 = p2 at *
    have F1 := Lib.hid f1
    have F2 := Lib.hid f2
    have F3 := Lib.hid f3
    clear f1 f2 f3
    have m1 : n1 * n2 ≤ 24 * 60 := Nat.mul_le_mul (by omega) b2
    have m2 : n1 * n2 * n3 ≤ 24 * 60 * 60 := Nat.mul_le_mul m1 b3
    have m3 : n4 * n3 ≤ 60 * 60 := Nat.mul_le_mul (by omega) b3
    have HB0 := Lib.hid hB0
    clear hB0 hbx hu hx
    have HF : Hid (∀ r : Int, r = ((n1 * n2 * n3 : Nat) : Int) + (if p1 then ((n4 * n3 : Nat) : Int) + (if p2 then (n5 : Int) else 0) else 0) → (((n1 * n2 * n3 + if p1 then n4 * n3 + (if p2 then n5 else 0) else 0) : Nat) : Int) = r) := Lib.hid (by
      rintro r rfl
      cases p1 <;> cases p2 <;> simp)
    obtain ⟨R, hR⟩ : ∃ R : Int, R = (((n1 * n2 * n3 + if p1 then n4 * n3 + (if p2 then n5 else 0) else 0) : Nat) : Int) := ⟨_, rfl⟩
    rw [← hR]
    rw [← hR] at HF
    clear hR
    obtain ⟨a12, h12⟩ : ∃ q, q = n1 * n2 := ⟨_, rfl⟩
    obtain ⟨a3, h3⟩ : ∃ q, q = a12 * n3 := ⟨_, rfl⟩
    obtain ⟨a4, h4⟩ : ∃ q, q = n4 * n3 := ⟨_, rfl⟩
    rw [← h12] at m1 m2 HF
    rw [← h3] at m2 HF
    rw [← h4] at m3 HF
    have w12 : IntKind.i64.wrap ((n1 : Int) * (n2 : Int)) = (a12 : Int) := by rw [h12, Int.natCast_mul]; exact IntWalk.i64_in _ (by rw [← Int.natCast_mul, ← h12]; omega)
    have w123 : IntKind.i64.wrap ((a12 : Int) * (n3 : Int)) = (a3 : Int) := by rw [h3, Int.natCast_mul]; exact IntWalk.i64_in _ (by rw [← Int.natCast_mul, ← h3]; omega)
    have w43 : IntKind.i64.wrap ((n4 : Int) * (n3 : Int)) = (a4 : Int) := by rw [h4, Int.natCast_mul]; exact IntWalk.i64_in _ (by rw [← Int.natCast_mul, ← h4]; omega)
    have wsum : IntKind.i64.wrap ((a3 : Int) + (a4 : Int)) = (a3 : Int) + (a4 : Int) := IntWalk.i64_in _ (by omega)
    clear h12 h3 h4 m1 b1 b2 b4
    have D1 := Lib.hid (fun d os => regrown_same (w := w.alloc (.cells (exV x) 47)) (CB1.out (Sort.grow (redrawn _ d) os)))
    have D2 := Lib.hid (fun (w0 : World) d os => regrown_same (w := w0) (CB2.out (Sort.grow (redrawn w0 d) os)))
    have DM := Lib.hid (fun (w0 : World) d os => regrown_same (w := w0) (CM.out (Sort.grow (redrawn w0 d) os)))
    have DS := Lib.hid (fun (w0 : World) d os => regrown_same (w := w0) (CS.out (Sort.grow (redrawn w0 d) os)))
    clear CB1 CB2 CM CS
    rw [e0]
    clear e0
    unfold exV at HB0 k0 k1 k2 D1
    go_enter Tryz.func97, Tryz.ntmps97
    go_wp2_with fail
    rw [F1.out, F2.out, F3.out]
    clear F1 F2 F3
    refine wp_region_quiet_below (by kernel_rfl) (by kernel_rfl) ?_
    repeat (go_big_quiet_step (fail))
    go_big_quiet_step ((go_at_call 110; exact D1.out _ _))
    repeat (go_big_quiet_step (fail))
    go_big_quiet_step ((go_at_call 111; exact DM.out _ _ _))
    repeat (go_big_quiet_step (fail))
    go_big_quiet_step ((go_at_call 111; exact DS.out _ _ _))
    repeat (go_big_quiet_step (fail))
    refine wpQuiet_nil ?_
    intro _ hw'
    obtain ⟨⟨dq, osq⟩, hw''⟩ := hw'
    subst hw''
    have HB2 := Lib.hid (HB0.out.trans ((below_regrown _ dq osq).mono HB0.out.size))
    have j0 := k0 dq osq
    have j1 := k1 dq osq
    have j2 := k2 dq osq
    clear k0 k1 k2 HB0 D1 w12 w123
    generalize Sort.grow (redrawn _ dq) osq = W2 at *
    have i0 := cell_regrown j0
    have i1 := cell_regrown j1
    cases p1
    · go_wp2_with fail
      refine (CH.out _).mono ?_
      rintro e w' ⟨rfl, rfl⟩
      go_wp2_with fail
      go_ret
      exact ⟨by rw [HF.out a3 (by simp)]; rfl, HB2.out⟩
    · go_wp2_with fail
      refine (CH.out _).mono ?_
      rintro e w' ⟨rfl, rfl⟩
      go_wp2_with fail
      refine wp_region_quiet_below (by kernel_rfl) (by kernel_rfl) ?_
      repeat (go_big_quiet_step (fail))
      go_big_quiet_step ((go_at_call 110; exact D2.out _ _ _))
      repeat (go_big_quiet_step (fail))
      go_big_quiet_step ((go_at_call 111; exact DS.out _ _ _))
      repeat (go_big_quiet_step (fail))
      refine wpQuiet_nil ?_
      intro _ hw'
      obtain ⟨⟨dq2, osq2⟩, hw''⟩ := hw'
      subst hw''
      have HB3 := Lib.hid (HB2.out.trans ((below_regrown W2 dq2 osq2).mono HB2.out.size))
      have l0 := i0 dq2 osq2
      have l1 := i1 dq2 osq2
      clear i0 i1 j0 j1 j2 HB2 D2 DS DM w43 wsum
      generalize Sort.grow (redrawn W2 dq2) osq2 = W3 at *
      cases p2
      · go_wp2_with fail
        refine (CN.out _).mono ?_
        rintro e w' ⟨rfl, rfl⟩
        go_wp2_with fail
        go_ret
        exact ⟨by rw [HF.out ((a3 : Int) + a4) (by simp)]; rfl, HB3.out⟩
      · go_wp2_with fail
        refine (CN.out _).mono ?_
        rintro e w' ⟨rfl, rfl⟩
        go_wp2_with fail
        refine (CB3.out _).mono ?_
        rintro e w' ⟨rfl, rfl⟩
        go_wp2_with fail
        go_ret
        exact ⟨by rw [HF.out ((a3 : Int) + a4 + n5) (by simp; omega)]; rfl, HB3.out⟩
end Go.Proofs.YtihadbkjfocdoaaGreatDoor.BW
