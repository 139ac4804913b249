/- Contracts of the reference's Day and Is. -/
import Derived.Test.YtmdjfjdlehdhjaaGreatDoorMWork
namespace Go.Proofs.YtmdjfjdlehdhjaaGreatDoor.BW
open Go.RowKit BM Go.Shelf MC
open BK hiding ret_bool ret_i64

set_option maxRecDepth 8000 in
set_option maxHeartbeats 4000000 in
theorem rday_ok (x : Ex) (hx : U64s x) (z t : Int) (w : World) : Calls Tryz.prog 124 #[.agg (exV x), .int .i64 z, .int .i64 t] w fun e w' =>
    e = .returned (.tuple #[.bool (dayV x z t), .int .i64 (chk x z [t])]) ∧ Below w.heap.size w w' := by
  have HDV : Hid (dayV x z t = (decide (chk x z [t] = 0) && (decide (0 ≤ t + z * 60) && decide (t + z * 60 ≤ 253402300799) && MC.M x ((t + z * 60).toNat / 86400)))) := Lib.hid rfl
  generalize dayV x z t = R at *
  have HX := Lib.hid hx
  obtain ⟨W1, hW1⟩ : ∃ W1, W1 = (w.alloc (.cells (exV x) 24)).alloc (.cells #[.int .i64 t] 2) := ⟨_, rfl⟩
  have hbx : Blk W1 w.heap.size 24 (exV x) := by rw [hW1]; exact (Blk.new w _ _).alloc _
  have hts : Blk W1 (w.heap.size + 1) 2 #[.int .i64 t] := by rw [hW1]; exact Blk.newAt (by simp)
  have hB1 : Below w.heap.size w W1 := by rw [hW1]; exact ((Below.refl _ w).alloc (Nat.le_refl _) _).alloc (by simp) _
  have CK := Lib.hid (rpcheck_ok x hx z [t] (w.heap.size + 1) 1 1 rfl (by decide) W1 (fun k hk => by
    have : k = 0 := by simpa using hk
    subst this; exact hts.cell 0))
  have HW1 := Lib.hid hW1
  rw [hW1] at CK
  clear hW1 hx
  have e0 : exV x = #[.int .u64 x.s, .int .u64 x.mi, .int .u64 x.h, .int .u64 x.d, .int .u64 x.mo, .int .u64 x.w, .bool x.ad, .bool x.aw] := rfl
  rw [e0]
  clear e0
  unfold exV at CK
  go_enter Tryz.func124, Tryz.ntmps124
  go_wp2_with fail
  refine (CK.out).mono ?_
  rintro e w2 ⟨rfl, hb⟩
  have hb : Below W1.heap.size W1 w2 := by rw [HW1.out]; exact hb
  have hx2 := hbx.below hb hbx.lt
  have HB2 := Lib.hid (hB1.trans (hb.mono hB1.size))
  have HX2 := Lib.hid hx2
  clear hb hbx hB1 CK HW1 hts hx2
  by_cases hcz : chk x z [t] = 0
  · obtain ⟨o1, o2, o3⟩ := chk_zero hcz
    have ht := o3 t (by simp)
    have HCZ := Lib.hid hcz
    clear o1 o3
    have k0 := cell_regrown (show w2.cell? ⟨w.heap.size, 0, none⟩ = some (.int .u64 x.s) from HX2.out.cell 0)
    have k1 := cell_regrown (show w2.cell? ⟨w.heap.size, 1, none⟩ = some (.int .u64 x.mi) from HX2.out.cell 1)
    have k2 := cell_regrown (show w2.cell? ⟨w.heap.size, 2, none⟩ = some (.int .u64 x.h) from HX2.out.cell 2)
    have k3 := cell_regrown (show w2.cell? ⟨w.heap.size, 3, none⟩ = some (.int .u64 x.d) from HX2.out.cell 3)
    have k4 := cell_regrown (show w2.cell? ⟨w.heap.size, 4, none⟩ = some (.int .u64 x.mo) from HX2.out.cell 4)
    have k5 := cell_regrown (show w2.cell? ⟨w.heap.size, 5, none⟩ = some (.int .u64 x.w) from HX2.out.cell 5)
    have k6 := cell_regrown (show w2.cell? ⟨w.heap.size, 6, none⟩ = some (.bool x.ad) from HX2.out.cell 6)
    have k7 := cell_regrown (show w2.cell? ⟨w.heap.size, 7, none⟩ = some (.bool x.aw) from HX2.out.cell 7)
    by_cases h0 : 0 ≤ t + z * 60
    · by_cases h1 : t + z * 60 ≤ 253402300799
      · have hge : decide (0 ≤ t + z * 60) = true := decide_eq_true h0
        have hle : decide (t + z * 60 ≤ 253402300799) = true := decide_eq_true h1
        obtain ⟨n, hn⟩ : ∃ n : Nat, n = (t + z * 60).toNat / 86400 := ⟨_, rfl⟩
        have en : (t + z * 60) / 86400 = (n : Int) := by omega
        have HR : Hid (R = MC.M x n) := Lib.hid (by rw [HDV.out, hcz, hge, hle, ← hn]; rfl)
        have hn2 : n ≤ 2932896 := by omega
        clear hn

        have CD := Lib.hid (fun d os => Calls.regrown_of (rdt_ok n hn2 (Sort.grow (redrawn w2 d) os)))
        have CM := Lib.hid (fun d os => Calls.regrown_of (rmatch_ok x HX.out n (Sort.grow (redrawn w2 d) os)))
        generalize MC.M x n = r at *
        unfold exV dtV at CM
        unfold dtV at CD
        generalize (ymd n).1 = q0 at *
        generalize (ymd n).2.1 = q1 at *
        generalize (ymd n).2.2 = q2 at *
        generalize (n + 4) % 7 = q3 at *
        clear hn2 HX2
        go_wp2_with fail
        refine wp_region_quiet_below (by kernel_rfl) (by kernel_rfl) ?_
        repeat (go_big_quiet_step (fail))
        go_big_quiet_step ((go_at_call 157; exact CD.out _ _))
        repeat (go_big_quiet_step (fail))
        go_big_quiet_step ((go_at_call 156; exact CM.out _ _))
        repeat (go_big_quiet_step (fail))
        refine wpQuiet_nil ?_
        intro _ hw'
        obtain ⟨⟨dq, osq⟩, hw''⟩ := hw'
        subst hw''
        go_wp2_with fail
        go_ret2
        exact ⟨ret_be HR.out.symm HCZ.out.symm, HB2.out.trans ((below_regrown w2 dq osq).mono HB2.out.size)⟩
      · have hge : decide (0 ≤ t + z * 60) = true := decide_eq_true h0
        have hle : decide (t + z * 60 ≤ 253402300799) = false := decide_eq_false h1
        have HR : Hid (R = false) := Lib.hid (by rw [HDV.out, hle]; simp)
        clear HX2
        go_wp2_with fail
        refine wp_region_quiet_below (by kernel_rfl) (by kernel_rfl) ?_
        repeat (go_big_quiet_step (fail))
        refine wpQuiet_nil ?_
        intro _ hw'
        obtain ⟨⟨dq, osq⟩, hw''⟩ := hw'
        subst hw''
        go_wp2_with fail
        go_ret2
        exact ⟨ret_be HR.out.symm HCZ.out.symm, HB2.out.trans ((below_regrown w2 dq osq).mono HB2.out.size)⟩
    · have hge : decide (0 ≤ t + z * 60) = false := decide_eq_false h0
      have HR : Hid (R = false) := Lib.hid (by rw [HDV.out, hge]; simp)
      clear HX2
      go_wp2_with fail
      refine wp_region_quiet_below (by kernel_rfl) (by kernel_rfl) ?_
      repeat (go_big_quiet_step (fail))
      refine wpQuiet_nil ?_
      intro _ hw'
      obtain ⟨⟨dq, osq⟩, hw''⟩ := hw'
      subst hw''
      go_wp2_with fail
      go_ret2
      exact ⟨ret_be HR.out.symm HCZ.out.symm, HB2.out.trans ((below_regrown w2 dq osq).mono HB2.out.size)⟩
  · have HR : Hid (R = false) := Lib.hid (by rw [HDV.out, decide_eq_false hcz]; rfl)
    obtain ⟨c, hc⟩ : ∃ c, c = chk x z [t] := ⟨_, rfl⟩
    have HC := Lib.hid hc
    rw [← hc] at hcz
    have hc2 := hc.symm
    clear hc
    have hcz2 : (c == 0) = false := by rw [beq_eq_false_iff_ne]; exact hcz
    go_wp2_with fail
    go_ret2
    exact ⟨ret_be HR.out.symm HC.out, HB2.out⟩

set_option maxRecDepth 8000 in
set_option maxHeartbeats 4000000 in
theorem ris_ok (x : Ex) (hx : U64s x) (z t : Int) (w : World) : Calls Tryz.prog 79 #[.agg (exV x), .int .i64 z, .int .i64 t] w fun e w' =>
    e = .returned (.tuple #[.bool (isV x z t), .int .i64 (chk x z [t])]) ∧ Below w.heap.size w w' := by
  have hB0 : Below w.heap.size w (w.alloc (.cells (exV x) 24)) := (Below.refl _ w).alloc (Nat.le_refl _) _
  have CD := Lib.hid (rday_ok x hx z t (w.alloc (.cells (exV x) 24)))
  have hbx := Blk.new w 24 (exV x)
  have HDV : Hid (dayV x z t = (decide (chk x z [t] = 0) && (decide (0 ≤ t + z * 60) && decide (t + z * 60 ≤ 253402300799) && MC.M x ((t + z * 60).toNat / 86400)))) := Lib.hid rfl
  have HIV : Hid (isV x z t = (decide (chk x z [t] = 0) && (decide (0 ≤ t + z * 60) && decide (t + z * 60 ≤ 253402300799) && T x (t + z * 60).toNat))) := Lib.hid rfl
  generalize dayV x z t = D at *
  generalize isV x z t = R at *
  have HX := Lib.hid hx
  have HB0 := Lib.hid hB0
  clear hB0 hx
  have e0 : exV x = #[.int .u64 x.s, .int .u64 x.mi, .int .u64 x.h, .int .u64 x.d, .int .u64 x.mo, .int .u64 x.w, .bool x.ad, .bool x.aw] := rfl
  rw [e0]
  clear e0
  have hb' := hbx
  unfold exV at CD hbx
  go_enter Tryz.func79, Tryz.ntmps79
  go_wp2_with fail
  refine (CD.out).mono ?_
  rintro e w2 ⟨rfl, hb⟩
  have hx2 := Blk.below hbx hb hbx.lt
  have HB2 := Lib.hid (HB0.out.trans (Below.mono (w := w.alloc (.cells (exV x) 24)) hb (HB0.out.size)))
  have c0 : w2.cell? ⟨w.heap.size, 0, none⟩ = some (.int .u64 x.s) := hx2.cell 0
  have c1 : w2.cell? ⟨w.heap.size, 1, none⟩ = some (.int .u64 x.mi) := hx2.cell 1
  have c2 : w2.cell? ⟨w.heap.size, 2, none⟩ = some (.int .u64 x.h) := hx2.cell 2
  have c3 : w2.cell? ⟨w.heap.size, 3, none⟩ = some (.int .u64 x.d) := hx2.cell 3
  have c4 : w2.cell? ⟨w.heap.size, 4, none⟩ = some (.int .u64 x.mo) := hx2.cell 4
  have c5 : w2.cell? ⟨w.heap.size, 5, none⟩ = some (.int .u64 x.w) := hx2.cell 5
  have c6 : w2.cell? ⟨w.heap.size, 6, none⟩ = some (.bool x.ad) := hx2.cell 6
  have c7 : w2.cell? ⟨w.heap.size, 7, none⟩ = some (.bool x.aw) := hx2.cell 7
  clear hb hbx hb' CD hx2
  by_cases hcz : chk x z [t] = 0
  · cases hD : D with
    | false =>
      have HR : Hid (R = false) := Lib.hid (by
        rw [HIV.out]
        have h := HDV.out
        rw [hD, decide_eq_true hcz, Bool.true_and] at h
        unfold T
        rw [decide_eq_true hcz, Bool.true_and, ← Bool.and_assoc, ← h]
        rfl)
      have HCZ := Lib.hid hcz
      subst hD
      go_wp2_with fail
      go_ret2
      exact ⟨ret_be HR.out.symm HCZ.out.symm, HB2.out⟩
    | true =>
      obtain ⟨o1, o2, o3⟩ := chk_zero hcz
      have ht := o3 t (by simp)
      have hrange : (0 ≤ t + z * 60 ∧ t + z * 60 ≤ 253402300799) ∧ MC.M x ((t + z * 60).toNat / 86400) = true := by
        have h := HDV.out
        rw [hD] at h
        simpa [hcz] using h.symm
      obtain ⟨f, hf⟩ : ∃ f : Nat, f = (t + z * 60).toNat % 86400 := ⟨_, rfl⟩
      have HR : Hid (R = clk x f) := Lib.hid (by
        rw [HIV.out, hcz]
        unfold T
        rw [hrange.2, ← hf, decide_eq_true hrange.1.1, decide_eq_true hrange.1.2]
        simp)
      have ef : (t + z * 60) % 86400 = (f : Int) := by omega
      have hf1 : f < 86400 := by omega
      have EF : Hid ((t + z * 60).tmod 86400 = (f : Int)) := Lib.hid (by rw [Int.tmod_eq_emod_of_nonneg hrange.1.1]; exact ef)
      have HCZ := Lib.hid hcz
      have CF := Lib.hid (rclock_ok x HX.out f hf1 w2)
      subst hD
      clear ef hf o1 o3 hrange
      generalize clk x f = r at *
      unfold exV at CF
      go_wp2_with fail
      rw [EF.out]
      refine (CF.out).mono ?_
      rintro e w3 ⟨rfl, hb3⟩
      go_wp2_with fail
      go_ret2
      exact ⟨ret_be HR.out.symm HCZ.out.symm, HB2.out.trans (hb3.mono HB2.out.size)⟩
  · have HR : Hid (R = false) := Lib.hid (by rw [HIV.out, decide_eq_false hcz]; rfl)
    obtain ⟨c, hc⟩ : ∃ c, c = chk x z [t] := ⟨_, rfl⟩
    have HC := Lib.hid hc
    have hc2 := hc.symm
    have hcz2 : (c == 0) = false := by rw [beq_eq_false_iff_ne, hc]; exact hcz
    clear hc hcz
    go_wp2_with fail
    go_ret2
    exact ⟨ret_be HR.out.symm HC.out, HB2.out⟩
end Go.Proofs.YtmdjfjdlehdhjaaGreatDoor.BW
