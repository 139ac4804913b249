/- Contract of the reference's Count. -/
import Derived.Test.YtmkdjdfhkhmejaaGreatDoorRCountM
namespace Go.Proofs.YtmkdjdfhkhmejaaGreatDoor.BW
open Go.RowKit BM Go.Shelf MC RK
open BK hiding ret_bool ret_i64

set_option maxRecDepth 8000 in
set_option maxHeartbeats 8000000 in
theorem rcnt_ok (x : Ex) (hx : U64s x) (z a b : Int) (w : World) : Calls Tryz.prog 68 #[.agg (exV x), .int .i64 z, .int .i64 a, .int .i64 b] w fun e w' =>
    e = .returned (.tuple #[.int .i64 (ctR x z a b : Nat), .int .i64 (chk x z [a, b])]) ∧ Below w.heap.size w w' := by
  have HCR : Hid (ctR x z a b = if chk x z [a, b] = 0 ∧ ¬ hiI z b < loI z a then ctV x (loI z a).toNat (hiI z b).toNat else 0) := Lib.hid rfl
  generalize ctR x z a b = R at *
  have HX := Lib.hid hx
  obtain ⟨W1, hW1⟩ : ∃ W1, W1 = (w.alloc (.cells (exV x) 24)).alloc (.cells #[.int .i64 a, .int .i64 b] 2) := ⟨_, rfl⟩
  have hbx : Blk W1 w.heap.size 24 (exV x) := by rw [hW1]; exact (Blk.new w _ _).alloc _
  have hts : Blk W1 (w.heap.size + 1) 2 #[.int .i64 a, .int .i64 b] := by rw [hW1]; exact Blk.newAt (by simp)
  have hB1 : Below w.heap.size w W1 := by rw [hW1]; exact ((Below.refl _ w).alloc (Nat.le_refl _) _).alloc (by simp) _
  have CK := Lib.hid (rpcheck_ok x hx z [a, b] (w.heap.size + 1) 2 2 rfl (by decide) W1 (fun k hk => by
    have : k = 0 ∨ k = 1 := by have : k < 2 := hk; omega
    rcases this with rfl | rfl
    · exact hts.cell 0
    · exact hts.cell 1))
  have HW1 := Lib.hid hW1
  rw [hW1] at CK
  clear hW1 hx
  have e0 : exV x = #[.int .u64 x.s, .int .u64 x.mi, .int .u64 x.h, .int .u64 x.d, .int .u64 x.mo, .int .u64 x.w, .bool x.ad, .bool x.aw] := rfl
  rw [e0]
  clear e0
  unfold exV at CK
  go_enter Tryz.func68, Tryz.ntmps68
  go_wp2_with fail
  refine (CK.out).mono ?_
  rintro e w2 ⟨rfl, hb⟩
  have hb : Below W1.heap.size W1 w2 := by rw [HW1.out]; exact hb
  have hx2 := hbx.below hb hbx.lt
  have HB2 := Lib.hid (hB1.trans (hb.mono hB1.size))
  have HX2 := Lib.hid hx2
  clear hb hbx hB1 CK HW1 hts hx2
  by_cases hcz : chk x z [a, b] = 0
  · obtain ⟨o1, hz, o3⟩ := chk_zero hcz
    have ha := o3 a (by simp)
    have hbb := o3 b (by simp)
    have HCZ := Lib.hid hcz
    have hok := ok_of_ck o1
    obtain ⟨lo, elo⟩ : ∃ n : Nat, max (a + z * 60) 0 = n := ⟨(max (a + z * 60) 0).toNat, by omega⟩
    obtain ⟨hi, ehi⟩ : ∃ n : Int, min (b + z * 60) 253402300799 = n := ⟨_, rfl⟩
    have hlo : loI z a = lo := by unfold loI; omega
    have hhi : hiI z b = hi := by unfold hiI; omega
    clear o1 o3
    by_cases hlt : hi < lo
    · have HE : Hid (R = 0) := Lib.hid (by rw [HCR.out, if_neg (fun h => absurd hlt (by rw [← hhi, ← hlo]; have := h.2; omega))])
      have hd : decide (hi < (lo : Int)) = true := decide_eq_true hlt
      clear hlt hlo hhi
      go_wp2_with fail
      go_ret2
      exact ⟨ret_ii (by rw [HE.out]; rfl) (by first | rfl | exact HCZ.out.symm), HB2.out⟩
    · obtain ⟨hi, rfl⟩ := Int.eq_ofNat_of_zero_le (show 0 ≤ hi by omega)
      have hlh : lo ≤ hi := by omega
      have hh9 : hi ≤ 253402300799 := by omega
      have hd : decide (hi < lo) = false := decide_eq_false (by omega)
      have hd' : decide ((hi : Int) < lo) = false := decide_eq_false hlt
      have HE : Hid (R + cnt (T x) lo = cnt (T x) (hi + 1)) := Lib.hid (by
        rw [HCR.out, if_pos ⟨hcz, by rw [hhi, hlo]; omega⟩, hhi, hlo, Int.toNat_natCast, Int.toNat_natCast]
        unfold ctV
        have := cnt_mono (T x) (show lo ≤ hi + 1 by omega)
        omega)
      have hA := clk_all hok hok.h24
      obtain ⟨A, eA⟩ : ∃ A, A = cnt (clk x) 86400 := ⟨_, rfl⟩
      have HAE := Lib.hid eA
      rw [← eA] at hA
      have HCL := Lib.hid (fun n => cnt_le (clk x) n)
      have hA9 : A ≤ 86400 := by rw [eA]; exact cnt_le _ _
      have m1 := mem_le x.h
      have m2 := mem_le x.mi
      have m3 := mem_le x.s
      have C1 := Lib.hid (fun d os => Calls.regrown_of (rcount_ok x.h HX.out.h (Sort.grow (redrawn w2 d) os)))
      have C2 := Lib.hid (fun d os => Calls.regrown_of (rcount_ok x.mi HX.out.mi (Sort.grow (redrawn w2 d) os)))
      have C3 := Lib.hid (fun d os => Calls.regrown_of (rcount_ok x.s HX.out.s (Sort.grow (redrawn w2 d) os)))
      generalize (mem x.h).length = nh at *
      generalize (mem x.mi).length = nm at *
      generalize (mem x.s).length = ns at *
      have p1 : nh * nm ≤ 64 * 64 := Nat.mul_le_mul m1 m2
      have q1 : (nh : Int) * nm = ((nh * nm : Nat) : Int) := by simp
      have q2 : ((nh : Int) * nm) * ns = (A : Int) := by rw [hA]; simp
      generalize nh * nm = nn at *
      have k0 := cell_regrown (show w2.cell? ⟨w.heap.size, 0, none⟩ = some (.int .u64 x.s) from HX2.out.cell 0)
      have k1 := cell_regrown (show w2.cell? ⟨w.heap.size, 1, none⟩ = some (.int .u64 x.mi) from HX2.out.cell 1)
      have k2 := cell_regrown (show w2.cell? ⟨w.heap.size, 2, none⟩ = some (.int .u64 x.h) from HX2.out.cell 2)
      rw [q1] at q2
      have w1 : IntKind.i64.wrap ((nh : Int) * nm) = nn := by rw [q1]; exact IntWalk.i64_in _ (by omega)
      have w2' : IntKind.i64.wrap ((nn : Int) * ns) = A := by rw [q2]; exact IntWalk.i64_in _ (by omega)
      obtain ⟨d0, hd0⟩ : ∃ n : Nat, n = lo / 86400 := ⟨_, rfl⟩
      have en : (lo : Int) / 86400 = (d0 : Int) := by omega
      have hd2 : d0 ≤ 2932896 := by omega
      have HD0 := Lib.hid hd0
      clear hlo hhi hlt eA hA m1 m2 m3 p1 q1 q2 hd0 hok HCR
      go_wp2_with fail
      refine wp_region_quiet_below (by kernel_rfl) (by kernel_rfl) ?_
      repeat (go_big_quiet_step (fail))
      go_big_quiet_step ((go_at_call 102; exact C1.out _ _))
      repeat (go_big_quiet_step (fail))
      go_big_quiet_step ((go_at_call 102; exact C2.out _ _))
      repeat (go_big_quiet_step (fail))
      go_big_quiet_step ((go_at_call 102; exact C3.out _ _))
      repeat (go_big_quiet_step (fail))
      refine wpQuiet_nil ?_
      intro _ hw'
      obtain ⟨⟨dq, osq⟩, hw''⟩ := hw'
      subst hw''
      have HB3 := Lib.hid (HB2.out.trans ((below_regrown w2 dq osq).mono HB2.out.size))
      have HX3 := Lib.hid (HX2.out.below (below_regrown w2 dq osq) HX2.out.lt)
      clear C1 C2 C3 k0 k1 k2 HB2 HX2 hd hd'
      generalize Sort.grow (redrawn w2 dq) osq = w3 at *
      go_wp2_with fail
      refine (rdt_ok d0 hd2 _).mono ?_
      rintro e w4 ⟨rfl, hb⟩
      have HB4 := Lib.hid (HB3.out.trans (hb.mono HB3.out.size))
      have HX4 := Lib.hid (HX3.out.below hb HX3.out.lt)
      clear hb HB3 HX3 w1 w2'
      have H5 : Hid (DayI w x w.heap.size w4.heap.size d0 (w4.alloc (.cells (dtV d0) 109))) := Lib.hid ⟨HX4.out.alloc _, Blk.new _ _ _, HB4.out.alloc HB4.out.size _⟩
      have hlt4 : w.heap.size < w4.heap.size := HX4.out.lt
      clear HB4 HX4
      unfold dtV
      unfold dtV at H5
      go_wp2_with fail
      go_loopw [14, 16] (fun s14 s16 wr => ∃ (n d S : Nat), d0 ≤ n ∧ n ≤ 2932897 ∧ s14 = .int .i64 S ∧ s16 = .pointer (some ⟨d, 0, none⟩) ∧ w.heap.size < d ∧ DayI w x w.heap.size d n wr ∧ S + cnt (T x) lo = cnt (T x) (eN lo hi n)) (fun _ s16 wr => 2932898 - dayOf s16 wr)
      case atStart => exact ⟨d0, w4.heap.size, 0, by omega, by omega, rfl, rfl, hlt4, H5.out, by rw [HD0.out, eN_start hlh, Nat.zero_add]⟩
      case round =>
        clear H5 en
        obtain ⟨n, d, S, hn0, hn9, rfl, rfl, hdw, hD, hS⟩ := hrel
        have HD := Lib.hid hD
        have HS := Lib.hid hS
        have hS9 : S ≤ 253402300800 := by
          have h1 := cnt_le (T x) (eN lo hi n)
          have h2 := eN_le (n := n) hlh
          omega
        clear hD hS
        obtain ⟨d0', d1, d2, d3, d4⟩ := HD.out.dcells
        by_cases hend : n * 86400 ≤ hi
        · have he : decide (n * 86400 ≤ hi) = true := decide_eq_true hend
          have he' : decide ((n : Int) * 86400 ≤ hi) = true := decide_eq_true (by omega)
          have hd9 : n ≤ 2932896 := by omega
          have hd8 : 0 ≤ (n : Int) * 86400 ∧ (n : Int) * 86400 ≤ 253402300799 := by omega
          obtain ⟨c0, c1, c2, c3, c4, c5, c6, c7⟩ := HD.out.cells
          have CM := Lib.hid (HD.out.matches HX.out)
          have CO := Lib.hid (fun W d (h : DayI w x w.heap.size d n W) => h.on hd9)
          have HNX : Hid (∀ W dd (v : Int) (S' : Nat), v = S' → w.heap.size < dd → DayI w x w.heap.size dd (n + 1) W → S' + cnt (T x) lo = cnt (T x) (eN lo hi (n + 1)) → (∃ (n d S : Nat), d0 ≤ n ∧ n ≤ 2932897 ∧ Value.int .i64 v = .int .i64 S ∧ Value.pointer (some ⟨dd, 0, none⟩) = .pointer (some ⟨d, 0, none⟩) ∧ w.heap.size < d ∧ DayI w x w.heap.size d n W ∧ S + cnt (T x) lo = cnt (T x) (eN lo hi n)) ∧ 2932898 - dayOf (.pointer (some ⟨dd, 0, none⟩)) W < 2932898 - dayOf (.pointer (some ⟨d, 0, none⟩)) wr) := Lib.hid (by
            rintro W dd v S' rfl h1 h2 h3
            refine ⟨⟨n + 1, dd, S', by omega, by omega, rfl, rfl, h1, h2, h3⟩, ?_⟩
            rw [h2.dayOf, HD.out.dayOf]
            omega)
          obtain ⟨b', hb⟩ : ∃ b', MC.M x n = b' := ⟨_, rfl⟩
          rw [hb] at CM
          have HM := Lib.hid hb
          clear hb
          cases b'
          · have HSK := Lib.hid (ct_skip hlh (by have := HD0.out; omega) hend HM.out)
            clear hend
            go_wp2_with fail
            refine (CM.out).mono ?_
            rintro e w5 ⟨rfl, hb⟩
            clear c0 c1 c2 c3 c4 c5 c6 c7 d0' d1 d2 d3 d4
            obtain ⟨d0', d1, d2, d3, d4⟩ := hb.dcells
            have H5 := Lib.hid hb
            clear hb CM
            go_wp2_with fail
            refine (CO.out _ _ (H5.out.copy)).mono ?_
            rintro e w9 ⟨rfl, hb⟩
            have hlt9 := H5.out.below.size
            clear d0' d1 d2 d3 d4
            obtain ⟨d0', d1, d2, d3, d4⟩ := hb.dcells
            obtain ⟨f0, f1, f2, f3, f4⟩ := hb.frozen
            have H9 := Lib.hid hb
            have hdw9 := Nat.lt_of_lt_of_le hdw (Nat.le_of_lt H5.out.db.lt)
            clear hb
            go_wp2_with fail
            exact HNX.out _ _ _ S rfl hdw9 (H9.out.set (by omega) (by omega) (n + 1) (by omega) (by omega)) (by rw [HSK.out]; exact HS.out)
          · have HDY := Lib.hid (ct_day hlh (by have := HD0.out; omega) hend HM.out)
            obtain ⟨F, hF⟩ : ∃ F, F = lo - n * 86400 := ⟨_, rfl⟩
            obtain ⟨E, hE⟩ : ∃ E, E = min 86400 (hi + 1 - n * 86400) := ⟨_, rfl⟩
            rw [← hF, ← hE] at HDY
            have HFE := Lib.hid (And.intro hF hE)
            have hF9 : F < 86400 := by have := HD0.out; omega
            have hE1 : 1 ≤ E := by omega
            have hE9 : E ≤ 86400 := by omega
            clear hF hE
            go_wp2_with fail
            refine (CM.out).mono ?_
            rintro e w5 ⟨rfl, hb⟩
            clear c0 c1 c2 c3 c4 c5 c6 c7 d0' d1 d2 d3 d4
            have H5 := Lib.hid hb
            clear hb CM
            go_wp2_with fail
            go_loopw [14, 17] (fun s14 s17 wr2 => ∃ s : Nat, s ≤ F ∧ s17 = .int .i64 s ∧ s14 = .int .i64 ((S : Int) + A - (cnt (clk x) s : Nat)) ∧ DayI w x w.heap.size d n wr2) (fun _ s17 _ => F - intM s17)
            case atStart => exact ⟨0, Nat.zero_le _, rfl, by simp [cnt], H5.out⟩
            case round =>
              clear H5
              obtain ⟨s, hs, rfl, rfl, hD⟩ := hrel
              have H6 := Lib.hid hD
              clear hD
              obtain ⟨c0, c1, c2, c3, c4, c5, c6, c7⟩ := H6.out.cells
              obtain ⟨d0', d1, d2, d3, d4⟩ := H6.out.dcells
              have hcs := HCL.out s
              have HCS := Lib.hid (clk_succ x s)
              by_cases hsF : s < F
              · have ht : decide (n * 86400 + s < lo) = true := decide_eq_true (by have := HFE.out.1; omega)
                have ht' : decide ((n : Int) * 86400 + s < lo) = true := decide_eq_true (by have := HFE.out.1; omega)
                have CC := Lib.hid (H6.out.clock HX.out (s := s) (by omega))
                have HNX2 : Hid (∀ W (v : Int), v = (S : Int) + A - (cnt (clk x) (s + 1) : Nat) → DayI w x w.heap.size d n W → (∃ s_1 : Nat, s_1 ≤ F ∧ Value.int .i64 (s + 1) = .int .i64 s_1 ∧ Value.int .i64 v = .int .i64 ((S : Int) + A - (cnt (clk x) s_1 : Nat)) ∧ DayI w x w.heap.size d n W) ∧ F - intM (.int .i64 (s + 1)) < F - intM (.int .i64 s)) := Lib.hid (by
                  rintro W v rfl h1
                  exact ⟨⟨s + 1, by omega, by go_num, rfl, h1⟩, by simp [intM]; omega⟩)
                obtain ⟨k, hk⟩ : ∃ k, k = cnt (clk x) s := ⟨_, rfl⟩
                rw [← hk] at hcs HCS
                rw [← hk]
                have HK := Lib.hid hk
                have hk9 : k ≤ 86400 := by omega
                clear hk hsF
                obtain ⟨b', hb⟩ : ∃ b', clk x s = b' := ⟨_, rfl⟩
                rw [hb] at CC HCS
                clear hb
                cases b'
                all_goals
                  go_wp2_with fail
                  refine (CC.out).mono ?_
                  rintro e w7 ⟨rfl, hb⟩
                  have H7 := Lib.hid hb
                  clear hb c0 c1 c2 c3 c4 c5 c6 c7 d0' d1 d2 d3 d4
                  go_wp2_with fail
                  exact HNX2.out _ _ (by have h := HCS.out; simp only [Bool.false_eq_true, if_false, if_true] at h; omega) H7.out
              · obtain rfl : s = F := by omega
                have ht : decide (n * 86400 + s < lo) = false := decide_eq_false (by have := HFE.out.1; omega)
                have ht' : decide ((n : Int) * 86400 + s < lo) = false := decide_eq_false (by have := HFE.out.1; omega)
                obtain ⟨k, hk⟩ : ∃ k, k = cnt (clk x) s := ⟨_, rfl⟩
                rw [← hk] at HDY hcs
                rw [← hk]
                have hk9 : k ≤ 86400 := by omega
                clear HCS hk hsF
                go_wp2_with fail
                go_loopw [14, 18] (fun s14 s18 wr3 => ∃ s : Nat, E ≤ s + 1 ∧ s ≤ 86399 ∧ s18 = .int .i64 s ∧ s14 = .int .i64 ((S : Int) - k + (cnt (clk x) (s + 1) : Nat)) ∧ DayI w x w.heap.size d n wr3) (fun _ s18 _ => intM s18)
                case atStart => exact ⟨86399, by omega, by omega, rfl, by rw [← HAE.out]; congr 1; omega, H6.out⟩
                case round =>
                  clear H6 c0 c1 c2 c3 c4 c5 c6 c7 d0' d1 d2 d3 d4 ht ht'
                  obtain ⟨s, hs, hs9, rfl, rfl, hD⟩ := hrel
                  have H6 := Lib.hid hD
                  clear hD
                  obtain ⟨c0, c1, c2, c3, c4, c5, c6, c7⟩ := H6.out.cells
                  obtain ⟨d0', d1, d2, d3, d4⟩ := H6.out.dcells
                  have hcs := HCL.out (s + 1)
                  have HCS := Lib.hid (clk_succ x s)
                  by_cases hsE : E ≤ s
                  · have ht : decide (hi < n * 86400 + s) = true := decide_eq_true (by have := HFE.out.2; omega)
                    have ht' : decide ((hi : Int) < (n : Int) * 86400 + s) = true := decide_eq_true (by have := HFE.out.2; omega)
                    have CC := Lib.hid (H6.out.clock HX.out (s := s) (by omega))
                    have HNX2 : Hid (∀ W (v : Int), v = (S : Int) - k + (cnt (clk x) s : Nat) → DayI w x w.heap.size d n W → (∃ s_1 : Nat, E ≤ s_1 + 1 ∧ s_1 ≤ 86399 ∧ Value.int .i64 ((s : Int) - 1) = .int .i64 s_1 ∧ Value.int .i64 v = .int .i64 ((S : Int) - k + (cnt (clk x) (s_1 + 1) : Nat)) ∧ DayI w x w.heap.size d n W) ∧ intM (.int .i64 ((s : Int) - 1)) < intM (.int .i64 s)) := Lib.hid (by
                      rintro W v rfl h1
                      obtain ⟨u, rfl⟩ : ∃ u, s = u + 1 := ⟨s - 1, by omega⟩
                      exact ⟨⟨u, by omega, by omega, by go_num, rfl, h1⟩, by simp [intM]⟩)
                    obtain ⟨j, hj⟩ : ∃ j, j = cnt (clk x) (s + 1) := ⟨_, rfl⟩
                    rw [← hj] at hcs HCS
                    rw [← hj]
                    have hj9 : j ≤ 86400 := by omega
                    clear hj hsE
                    obtain ⟨b', hb⟩ : ∃ b', clk x s = b' := ⟨_, rfl⟩
                    rw [hb] at CC HCS
                    clear hb
                    cases b'
                    all_goals
                      go_wp2_with fail
                      refine (CC.out).mono ?_
                      rintro e w7 ⟨rfl, hb⟩
                      have H7 := Lib.hid hb
                      clear hb c0 c1 c2 c3 c4 c5 c6 c7 d0' d1 d2 d3 d4
                      go_wp2_with fail
                      exact HNX2.out _ _ (by have h := HCS.out; simp only [Bool.false_eq_true, if_false, if_true] at h; omega) H7.out
                  · obtain rfl : E = s + 1 := by omega
                    have ht : decide (hi < n * 86400 + s) = false := decide_eq_false (by have := HFE.out.2; omega)
                    have ht' : decide ((hi : Int) < (n : Int) * 86400 + s) = false := decide_eq_false (by have := HFE.out.2; omega)
                    obtain ⟨j, hj⟩ : ∃ j, j = cnt (clk x) (s + 1) := ⟨_, rfl⟩
                    rw [← hj] at hcs HDY
                    rw [← hj]
                    have hj9 : j ≤ 86400 := by omega
                    have HSK : Hid (k ≤ S + j ∧ (S + j - k) + cnt (T x) lo = cnt (T x) (eN lo hi (n + 1))) := Lib.hid (by
                      have h1 := HDY.out
                      have h2 := HS.out
                      have h3 := cnt_mono (T x) (show lo ≤ eN lo hi (n + 1) by unfold eN; omega)
                      constructor <;> omega)
                    clear HCS hj hsE
                    go_wp2_with fail
                    refine (CO.out _ _ (H6.out.copy)).mono ?_
                    rintro e w9 ⟨rfl, hb⟩
                    have hlt9 := H6.out.below.size
                    clear d0' d1 d2 d3 d4
                    obtain ⟨d0', d1, d2, d3, d4⟩ := hb.dcells
                    obtain ⟨f0, f1, f2, f3, f4⟩ := hb.frozen
                    have H9 := Lib.hid hb
                    have hdw9 := Nat.lt_of_lt_of_le hdw (Nat.le_of_lt H6.out.db.lt)
                    clear hb
                    go_wp2_with fail
                    exact HNX.out _ _ _ (S + j - k) (by have := HSK.out.1; omega) hdw9 (H9.out.set (by omega) (by omega) (n + 1) (by omega) (by omega)) HSK.out.2

        · have he : decide (n * 86400 ≤ hi) = false := decide_eq_false hend
          have he' : decide ((n : Int) * 86400 ≤ hi) = false := decide_eq_false (by omega)
          have HR : Hid (R = S) := Lib.hid (by have h1 := HS.out; have h2 := HE.out; rw [eN_end hlh (by omega)] at h1; omega)
          have hd8 : 0 ≤ (n : Int) * 86400 ∧ (n : Int) * 86400 ≤ 253402300799 + 253402300799 := by omega
          clear hend
          go_wp2_with fail
          go_ret2
          exact ⟨ret_ii (by rw [HR.out]) (by first | rfl | exact HCZ.out.symm), HD.out.below⟩
  · have HE : Hid (R = 0) := Lib.hid (by rw [HCR.out, if_neg (fun h => hcz h.1)])
    obtain ⟨c, hc⟩ : ∃ c, c = chk x z [a, b] := ⟨_, rfl⟩
    have HC := Lib.hid hc
    have hc2 := hc.symm
    have hcz2 : (c == 0) = false := by rw [beq_eq_false_iff_ne, hc]; exact hcz
    clear hc hcz HCR
    go_wp2_with fail
    go_ret2
    exact ⟨ret_ii (by rw [HE.out]; rfl) HC.out, HB2.out⟩
end Go.Proofs.YtmkdjdfhkhmejaaGreatDoor.BW
