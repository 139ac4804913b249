/- The walk of MatchSums. -/
import Derived.Test.YtepoegcpfhjlpaaDoorMSumsM
namespace Go.Proofs.YtepoegcpfhjlpaaDoor.BW
open Go.RowKit BM Go.Shelf MC RK
open BK hiding ret_bool ret_i64

set_option maxRecDepth 8000 in
set_option maxHeartbeats 8000000 in
theorem msums_ok (x : Ex) (hx : U64s x) (z a : Int) (f g : Nat) (hf : f < 4294967296) (hg : g < 4294967296) (w : World) (hT : SpTab w) (hTab : Tab w) : Calls Tryd.prog 7 #[.agg (exV x), .int .i64 z, .int .i64 a, .int .u32 f, .int .u32 g] w fun e w' =>
    e = .returned (.bool true) ∧ Below w.heap.size w w' := by
  have H0 := Lib.hid (Box.first x hT hTab)
  obtain ⟨p, hp⟩ : ∃ p : Nat, p = f % 17280000 := ⟨_, rfl⟩
  obtain ⟨q, hq⟩ : ∃ q : Nat, q = g % 17280000 := ⟨_, rfl⟩
  obtain ⟨r, hr⟩ : ∃ r : Nat, r = f % 2 := ⟨_, rfl⟩
  have ep : (f : Int) % 17280000 = (p : Int) := by omega
  have eq_ : (g : Int) % 17280000 = (q : Int) := by omega
  have er : (f : Int) % 2 = (r : Int) := by omega
  have hr2 : r = 0 ∨ r = 1 := by omega
  have hp9 : p < 17280000 := by omega
  have hq9 : q < 17280000 := by omega
  clear hp hq hr
  have e0 : exV x = #[.int .u64 x.s, .int .u64 x.mi, .int .u64 x.h, .int .u64 x.d, .int .u64 x.mo, .int .u64 x.w, .bool x.ad, .bool x.aw] := rfl
  by_cases h1 : a < 0
  · rw [e0] at *
    clear e0
    have d1 : decide (a < 0) = true := decide_eq_true h1
    clear h1 hx hT hTab hr2 er
    go_enter Tryd.func7, Tryd.ntmps7
    go_wp2_with fail
    refine (H0.out.works).mono ?_
    rintro e w1 ⟨rfl, hb⟩
    go_wp2_with fail
    go_ret
    exact ⟨rfl, hb.below⟩
  · by_cases h2 : 253402300799 < a
    · rw [e0] at *
      clear e0
      have d1 : decide (a < 0) = false := decide_eq_false h1
      have d2 : decide (253402300799 < a) = true := decide_eq_true h2
      clear h1 h2 hx hT hTab hr2 er
      go_enter Tryd.func7, Tryd.ntmps7
      go_wp2_with fail
      refine (H0.out.works).mono ?_
      rintro e w1 ⟨rfl, hb⟩
      go_wp2_with fail
      go_ret
      exact ⟨rfl, hb.below⟩
    · have d1 : decide (a < 0) = false := decide_eq_false h1
      have d2 : decide (253402300799 < a) = false := decide_eq_false h2
      obtain ⟨b, hb⟩ : ∃ b, a + (p : Int) = b := ⟨_, rfl⟩
      obtain ⟨c, hc⟩ : ∃ c, b + (q : Int) = c := ⟨_, rfl⟩
      have hab : a ≤ b := by omega
      have hbc : b ≤ c := by omega
      have ha0 : 0 ≤ a := by omega
      have hc9 : c ≤ 253436860799 := by omega
      clear h1 h2
      by_cases h3 : 253402300799 ≤ c
      · rw [e0] at *
        clear e0
        have d3 : decide (253402300799 ≤ c) = true := decide_eq_true h3
        clear h3 hx hT hTab hr2 er
        go_enter Tryd.func7, Tryd.ntmps7
        go_wp2_with fail
        refine (H0.out.works).mono ?_
        rintro e w1 ⟨rfl, hb⟩
        go_wp2_with fail
        go_ret
        exact ⟨rfl, hb.below⟩
      · have d3 : decide (253402300799 ≤ c) = false := decide_eq_false h3
        have hcM : c < 253402300799 := by omega
        clear h3
        have A1 := Lib.hid (fun W => Box.cnt (w := w) (W := W) hx z a b rfl rfl)
        have AB := Lib.hid (fun h => sums_bad (x := x) (z := z) (a := a) (b := b) h)
        by_cases hcz : chk x z [a, b] = 0
        · obtain ⟨k1, k2, k3⟩ := sums_law hcz hab hbc hcM
          have SF := Lib.hid (sum_law hcz)
          have A2 := Lib.hid (fun W => Box.cnt (w := w) (W := W) hx z (b + 1) (c + 1) rfl k1)
          have A3 := Lib.hid (fun W => Box.cnt (w := w) (W := W) hx z a (c + 1) rfl k2)
          have A4 := Lib.hid (fun W => Box.lst (w := w) (W := W) hx z a b 30 (by decide) rfl hcz)
          rw [hcz] at A1
          have m9 := Lib.hid (show ctR x z a b ≤ 100000000000000 ∧ ctR x z (b + 1) (c + 1) ≤ 100000000000000 from ⟨ctR_le .., ctR_le ..⟩)
          generalize ctR x z a b = m at *
          generalize ctR x z (b + 1) (c + 1) = n at *
          generalize ctR x z a (c + 1) = all at *
          generalize lsV x z a b 30 = l at *
          have HX := Lib.hid hx
          clear hx hT hTab k1 k2 hcz AB
          rw [e0] at *
          clear e0
          obtain ⟨k, hk⟩ : ∃ k, l.length = k := ⟨_, rfl⟩
          have hkm : k = min m 30 := by rw [← hk]; exact SF.out.len
          rw [hk] at A4
          have ek : min (m : Int) 30 = (k : Int) := by omega
          have es : (m : Int) + n = all := by omega
          have hm9 := m9.out
          have HKM := Lib.hid hkm
          clear hkm k3 m9
          go_enter Tryd.func7, Tryd.ntmps7
          go_wp2_with fail
          refine (A1.out _ H0.out).mono ?_
          rintro e w1 ⟨rfl, hb⟩
          obtain ⟨c0, c1, c2, c3, c4, c5, c6, c7⟩ := hb.cells
          have H1 := Lib.hid hb
          clear hb H0 A1
          go_wp2_with fail
          refine (A2.out _ H1.out).mono ?_
          rintro e w2 ⟨rfl, hb⟩
          clear c0 c1 c2 c3 c4 c5 c6 c7
          obtain ⟨c0, c1, c2, c3, c4, c5, c6, c7⟩ := hb.cells
          have H2 := Lib.hid hb
          clear hb H1
          go_wp2_with fail
          refine (A3.out _ H2.out).mono ?_
          rintro e w3 ⟨rfl, hb⟩
          clear c0 c1 c2 c3 c4 c5 c6 c7
          obtain ⟨c0, c1, c2, c3, c4, c5, c6, c7⟩ := hb.cells
          have H3 := Lib.hid hb
          clear hb H2
          go_wp2_with fail
          refine (A4.out _ H3.out).mono ?_
          rintro e w4 ⟨pt, kc, rfl, hi, hb⟩
          have H4 := Lib.hid (And.intro hb hi)
          clear hb hi H3 A2 A3 A4 c0 c1 c2 c3 c4 c5 c6 c7 d1 d2 d3
          go_wp2_with fail
          go_loopw [21] (fun s21 wr => ∃ i : Nat, i ≤ k ∧ s21 = .int .i64 i ∧ Box w x wr ∧ IntsAt wr pt l) (fun s21 _ => k - intM s21)
          case atStart => exact ⟨0, Nat.zero_le _, rfl, H4.out.1, H4.out.2⟩
          case round =>
            clear H4
            obtain ⟨i, hik, rfl, hB, hI⟩ := hrel
            have HB := Lib.hid hB
            have HI := Lib.hid hI
            clear hB hI
            rcases Nat.lt_or_ge i k with hlt | hge
            · have hil : i < l.length := by omega
              obtain ⟨g1, g2, g3, g4⟩ := SF.out.get i hil
              obtain ⟨bq, off, rfl, hc1⟩ := HI.out i hil
              obtain ⟨v, hv⟩ : ∃ v, l[i] = v := ⟨_, rfl⟩
              rw [hv] at g1 g2 g3 g4 hc1
              have dv1 : decide (v < a) = false := decide_eq_false (by omega)
              have dv2 : decide (b < v) = false := decide_eq_false (by omega)
              have D1 := Lib.hid (fun d os => Calls.regrown_of (is_at HX.out z v g1 g2 (Sort.grow (redrawn wr d) os) (HB.out.next (below_regrown wr d os))))
              have HC1 := Lib.hid hc1
              have kv := cell_regrown hc1
              have c0 := cell_regrown (show wr.cell? ⟨w.heap.size, 0, none⟩ = some (.int .u64 x.s) from HB.out.blk.cell 0)
              have c1 := cell_regrown (show wr.cell? ⟨w.heap.size, 1, none⟩ = some (.int .u64 x.mi) from HB.out.blk.cell 1)
              have c2 := cell_regrown (show wr.cell? ⟨w.heap.size, 2, none⟩ = some (.int .u64 x.h) from HB.out.blk.cell 2)
              have c3 := cell_regrown (show wr.cell? ⟨w.heap.size, 3, none⟩ = some (.int .u64 x.d) from HB.out.blk.cell 3)
              have c4 := cell_regrown (show wr.cell? ⟨w.heap.size, 4, none⟩ = some (.int .u64 x.mo) from HB.out.blk.cell 4)
              have c5 := cell_regrown (show wr.cell? ⟨w.heap.size, 5, none⟩ = some (.int .u64 x.w) from HB.out.blk.cell 5)
              have c6 := cell_regrown (show wr.cell? ⟨w.heap.size, 6, none⟩ = some (.bool x.ad) from HB.out.blk.cell 6)
              have c7 := cell_regrown (show wr.cell? ⟨w.heap.size, 7, none⟩ = some (.bool x.aw) from HB.out.blk.cell 7)
              have HV := Lib.hid hv
              clear g1 g2 g3 g4 hc1 hv
              go_wp2_with fail
              refine wp_region_quiet_below (by kernel_rfl) (by kernel_rfl) ?_
              repeat (go_big_quiet_step (fail))
              go_big_quiet_step ((go_at_call 23; exact D1.out _ _))
              repeat (go_big_quiet_step (fail))
              refine wpQuiet_nil ?_
              intro _ hw'
              obtain ⟨⟨dq, osq⟩, hw''⟩ := hw'
              subst hw''
              have HB5 := Lib.hid (HB.out.next (below_regrown wr dq osq))
              have HI5 := Lib.hid (HI.out.below (below_regrown wr dq osq))
              have kv0 := kv dq osq
              clear c0 c1 c2 c3 c4 c5 c6 c7 kv D1 HB HI HC1
              generalize Sort.grow (redrawn wr dq) osq = w5 at *
              rcases i with _ | j
              · clear HV
                rw [Nat.add_zero] at kv0
                have kv := cell_regrown kv0
                go_wp2_with fail
                refine wp_region_quiet_below (by kernel_rfl) (by kernel_rfl) ?_
                repeat (go_big_quiet_step (fail))
                refine wpQuiet_nil ?_
                intro _ hw'
                obtain ⟨⟨dq, osq⟩, hw''⟩ := hw'
                subst hw''
                have HB6 := Lib.hid (HB5.out.next (below_regrown w5 dq osq))
                have HI6 := Lib.hid (HI5.out.below (below_regrown w5 dq osq))
                clear kv kv0 HB5 HI5
                generalize Sort.grow (redrawn w5 dq) osq = w6 at *
                go_wp2_with fail
                exact ⟨⟨1, by omega, by go_num, HB6.out, HI6.out⟩, by simp [intM]; omega⟩
              · have kv := cell_regrown kv0
                have hinc := SF.out.inc j hil
                obtain ⟨bq', off', he, hc2⟩ := HI5.out j (by omega)
                obtain ⟨u, hu⟩ : ∃ u, l[j]'(by omega) = u := ⟨_, rfl⟩
                rw [hu] at hinc hc2
                rw [HV.out] at hinc
                obtain ⟨rfl, rfl⟩ : bq = bq' ∧ off = off' := by simpa using he
                have du : decide (v ≤ u) = false := decide_eq_false (by omega)
                have ku := cell_regrown hc2
                clear hinc hc2 he hu HV
                go_wp2_with fail
                refine wp_region_quiet_below (by kernel_rfl) (by kernel_rfl) ?_
                repeat (go_big_quiet_step (fail))
                refine wpQuiet_nil ?_
                intro _ hw'
                obtain ⟨⟨dq, osq⟩, hw''⟩ := hw'
                subst hw''
                have HB6 := Lib.hid (HB5.out.next (below_regrown w5 dq osq))
                have HI6 := Lib.hid (HI5.out.below (below_regrown w5 dq osq))
                clear kv kv0 ku HB5 HI5
                generalize Sort.grow (redrawn w5 dq) osq = w6 at *
                go_wp2_with fail
                exact ⟨⟨j + 1 + 1, by omega, by go_num, HB6.out, HI6.out⟩, by simp [intM]; omega⟩
            · obtain rfl : k = i := by omega
              clear hge hik
              rcases k with _ | k1
              · clear HKM hr2 er SF
                go_wp2_with fail
                refine (HB.out.works).mono ?_
                rintro e w8 ⟨rfl, hb⟩
                go_wp2_with fail
                go_ret
                exact ⟨rfl, hb.below⟩
              · have hll : l.length = k1 + 1 := hk
                rcases hr2 with rfl | rfl
                · rcases k1 with _ | k2
                  · have dlen : True := trivial
                    obtain ⟨g1, _, _, _⟩ := SF.out.get 0 (by omega)
                    obtain ⟨bq, off, rfl, hc1⟩ := HI.out 0 (by omega)
                    have few := SF.out.few 0 (by omega)
                    have many := SF.out.many 0 (by omega)
                    obtain ⟨v, hv⟩ : ∃ v, l[0]'(by omega) = v := ⟨_, rfl⟩
                    rw [hv] at g1 hc1 few many
                    rw [hk] at few many
                    clear hv
                    rw [Nat.add_zero] at hc1
                    cases hR : nxV x z v with
                    | none =>
                      have D1 := Lib.hid (fun d os => Calls.regrown_of (nx_none HX.out z v g1 hR (Sort.grow (redrawn wr d) os) (HB.out.next (below_regrown wr d os))))
                      have kv := cell_regrown hc1
                      have c0 := cell_regrown (show wr.cell? ⟨w.heap.size, 0, none⟩ = some (.int .u64 x.s) from HB.out.blk.cell 0)
                      have c1 := cell_regrown (show wr.cell? ⟨w.heap.size, 1, none⟩ = some (.int .u64 x.mi) from HB.out.blk.cell 1)
                      have c2 := cell_regrown (show wr.cell? ⟨w.heap.size, 2, none⟩ = some (.int .u64 x.h) from HB.out.blk.cell 2)
                      have c3 := cell_regrown (show wr.cell? ⟨w.heap.size, 3, none⟩ = some (.int .u64 x.d) from HB.out.blk.cell 3)
                      have c4 := cell_regrown (show wr.cell? ⟨w.heap.size, 4, none⟩ = some (.int .u64 x.mo) from HB.out.blk.cell 4)
                      have c5 := cell_regrown (show wr.cell? ⟨w.heap.size, 5, none⟩ = some (.int .u64 x.w) from HB.out.blk.cell 5)
                      have c6 := cell_regrown (show wr.cell? ⟨w.heap.size, 6, none⟩ = some (.bool x.ad) from HB.out.blk.cell 6)
                      have c7 := cell_regrown (show wr.cell? ⟨w.heap.size, 7, none⟩ = some (.bool x.aw) from HB.out.blk.cell 7)
                      clear g1 hc1 hR few many
                      go_wp2_with fail
                      refine wp_region_quiet_below (by kernel_rfl) (by kernel_rfl) ?_
                      repeat (go_big_quiet_step (fail))
                      go_big_quiet_step ((go_at_call 24; exact D1.out _ _))
                      repeat (go_big_quiet_step (fail))
                      refine wpQuiet_nil ?_
                      intro _ hw'
                      obtain ⟨⟨dq, osq⟩, hw''⟩ := hw'
                      subst hw''
                      have HB5 := Lib.hid (HB.out.next (below_regrown wr dq osq))
                      clear c0 c1 c2 c3 c4 c5 c6 c7 kv D1 HB HI
                      generalize Sort.grow (redrawn wr dq) osq = w5 at *
                      go_wp2_with fail
                      refine (HB5.out.works).mono ?_
                      rintro e w8 ⟨rfl, hb⟩
                      go_wp2_with fail
                      go_ret
                      exact ⟨rfl, hb.below⟩
                    | some u =>
                      have du : decide (b < u) = true := decide_eq_true (few (by decide) u hR)
                      have D1 := Lib.hid (fun d os => Calls.regrown_of (nx_some HX.out z v g1 hR (Sort.grow (redrawn wr d) os) (HB.out.next (below_regrown wr d os))))
                      have kv := cell_regrown hc1
                      have c0 := cell_regrown (show wr.cell? ⟨w.heap.size, 0, none⟩ = some (.int .u64 x.s) from HB.out.blk.cell 0)
                      have c1 := cell_regrown (show wr.cell? ⟨w.heap.size, 1, none⟩ = some (.int .u64 x.mi) from HB.out.blk.cell 1)
                      have c2 := cell_regrown (show wr.cell? ⟨w.heap.size, 2, none⟩ = some (.int .u64 x.h) from HB.out.blk.cell 2)
                      have c3 := cell_regrown (show wr.cell? ⟨w.heap.size, 3, none⟩ = some (.int .u64 x.d) from HB.out.blk.cell 3)
                      have c4 := cell_regrown (show wr.cell? ⟨w.heap.size, 4, none⟩ = some (.int .u64 x.mo) from HB.out.blk.cell 4)
                      have c5 := cell_regrown (show wr.cell? ⟨w.heap.size, 5, none⟩ = some (.int .u64 x.w) from HB.out.blk.cell 5)
                      have c6 := cell_regrown (show wr.cell? ⟨w.heap.size, 6, none⟩ = some (.bool x.ad) from HB.out.blk.cell 6)
                      have c7 := cell_regrown (show wr.cell? ⟨w.heap.size, 7, none⟩ = some (.bool x.aw) from HB.out.blk.cell 7)
                      clear g1 hc1 hR few many
                      go_wp2_with fail
                      refine wp_region_quiet_below (by kernel_rfl) (by kernel_rfl) ?_
                      repeat (go_big_quiet_step (fail))
                      go_big_quiet_step ((go_at_call 24; exact D1.out _ _))
                      repeat (go_big_quiet_step (fail))
                      refine wpQuiet_nil ?_
                      intro _ hw'
                      obtain ⟨⟨dq, osq⟩, hw''⟩ := hw'
                      subst hw''
                      have HB5 := Lib.hid (HB.out.next (below_regrown wr dq osq))
                      clear c0 c1 c2 c3 c4 c5 c6 c7 kv D1 HB HI
                      generalize Sort.grow (redrawn wr dq) osq = w5 at *
                      go_wp2_with fail
                      refine (HB5.out.works).mono ?_
                      rintro e w8 ⟨rfl, hb⟩
                      go_wp2_with fail
                      go_ret
                      exact ⟨rfl, hb.below⟩
                  · obtain ⟨g1, _, _, _⟩ := SF.out.get 0 (by omega)
                    have hR := SF.out.nxt 0 (by omega)
                    obtain ⟨bq, off, rfl, hc1⟩ := HI.out 0 (by omega)
                    obtain ⟨bq', off', he, hc2⟩ := HI.out 1 (by omega)
                    obtain ⟨rfl, rfl⟩ : bq = bq' ∧ off = off' := by simpa using he
                    obtain ⟨v, hv⟩ : ∃ v, l[0]'(by omega) = v := ⟨_, rfl⟩
                    obtain ⟨u, hu⟩ : ∃ u, l[1]'(by omega) = u := ⟨_, rfl⟩
                    rw [hv] at g1 hR hc1
                    rw [hu] at hc2
                    have hR : nxV x z v = some u := by rw [← hu]; exact hR
                    rw [Nat.add_zero] at hc1
                    have hl1 : decide ((1 : Int) < (k2 : Int) + 1 + 1) = true := decide_eq_true (by omega)
                    have hl2 : decide (1 < k2 + 1 + 1) = true := decide_eq_true (by omega)
                    have D1 := Lib.hid (fun d os => Calls.regrown_of (nx_some HX.out z v g1 hR (Sort.grow (redrawn wr d) os) (HB.out.next (below_regrown wr d os))))
                    have kv := cell_regrown hc1
                    have ku := cell_regrown hc2
                    have c0 := cell_regrown (show wr.cell? ⟨w.heap.size, 0, none⟩ = some (.int .u64 x.s) from HB.out.blk.cell 0)
                    have c1 := cell_regrown (show wr.cell? ⟨w.heap.size, 1, none⟩ = some (.int .u64 x.mi) from HB.out.blk.cell 1)
                    have c2 := cell_regrown (show wr.cell? ⟨w.heap.size, 2, none⟩ = some (.int .u64 x.h) from HB.out.blk.cell 2)
                    have c3 := cell_regrown (show wr.cell? ⟨w.heap.size, 3, none⟩ = some (.int .u64 x.d) from HB.out.blk.cell 3)
                    have c4 := cell_regrown (show wr.cell? ⟨w.heap.size, 4, none⟩ = some (.int .u64 x.mo) from HB.out.blk.cell 4)
                    have c5 := cell_regrown (show wr.cell? ⟨w.heap.size, 5, none⟩ = some (.int .u64 x.w) from HB.out.blk.cell 5)
                    have c6 := cell_regrown (show wr.cell? ⟨w.heap.size, 6, none⟩ = some (.bool x.ad) from HB.out.blk.cell 6)
                    have c7 := cell_regrown (show wr.cell? ⟨w.heap.size, 7, none⟩ = some (.bool x.aw) from HB.out.blk.cell 7)
                    clear g1 hc1 hc2 hR hv hu he HKM SF
                    go_wp2_with fail
                    refine wp_region_quiet_below (by kernel_rfl) (by kernel_rfl) ?_
                    repeat (go_big_quiet_step (fail))
                    go_big_quiet_step ((go_at_call 24; exact D1.out _ _))
                    repeat (go_big_quiet_step (fail))
                    refine wpQuiet_nil ?_
                    intro _ hw'
                    obtain ⟨⟨dq, osq⟩, hw''⟩ := hw'
                    subst hw''
                    have HB5 := Lib.hid (HB.out.next (below_regrown wr dq osq))
                    have ku5 := ku dq osq
                    clear c0 c1 c2 c3 c4 c5 c6 c7 kv ku D1 HB HI
                    generalize Sort.grow (redrawn wr dq) osq = w5 at *
                    go_wp2_with fail
                    refine (HB5.out.works).mono ?_
                    rintro e w8 ⟨rfl, hb⟩
                    go_wp2_with fail
                    go_ret
                    exact ⟨rfl, hb.below⟩
                · skip
                  obtain ⟨g1, _, _, _⟩ := SF.out.get k1 (by omega)
                  obtain ⟨bq, off, rfl, hc1⟩ := HI.out k1 (by omega)
                  have few := SF.out.few k1 (by omega)
                  have many := SF.out.many k1 (by omega)
                  obtain ⟨v, hv⟩ : ∃ v, l[k1]'(by omega) = v := ⟨_, rfl⟩
                  rw [hv] at g1 hc1 few many
                  rw [hk] at few many
                  clear hv
                  by_cases h30 : k1 + 1 < 30
                  · have dk : decide (k1 + 1 < 30) = true := decide_eq_true h30
                    have dk' : decide (((k1 : Nat) : Int) + 1 < 30) = true := decide_eq_true (by omega)
                    cases hR : nxV x z v with
                    | none =>
                      have D1 := Lib.hid (fun d os => Calls.regrown_of (nx_none HX.out z v g1 hR (Sort.grow (redrawn wr d) os) (HB.out.next (below_regrown wr d os))))
                      have kv := cell_regrown hc1
                      have c0 := cell_regrown (show wr.cell? ⟨w.heap.size, 0, none⟩ = some (.int .u64 x.s) from HB.out.blk.cell 0)
                      have c1 := cell_regrown (show wr.cell? ⟨w.heap.size, 1, none⟩ = some (.int .u64 x.mi) from HB.out.blk.cell 1)
                      have c2 := cell_regrown (show wr.cell? ⟨w.heap.size, 2, none⟩ = some (.int .u64 x.h) from HB.out.blk.cell 2)
                      have c3 := cell_regrown (show wr.cell? ⟨w.heap.size, 3, none⟩ = some (.int .u64 x.d) from HB.out.blk.cell 3)
                      have c4 := cell_regrown (show wr.cell? ⟨w.heap.size, 4, none⟩ = some (.int .u64 x.mo) from HB.out.blk.cell 4)
                      have c5 := cell_regrown (show wr.cell? ⟨w.heap.size, 5, none⟩ = some (.int .u64 x.w) from HB.out.blk.cell 5)
                      have c6 := cell_regrown (show wr.cell? ⟨w.heap.size, 6, none⟩ = some (.bool x.ad) from HB.out.blk.cell 6)
                      have c7 := cell_regrown (show wr.cell? ⟨w.heap.size, 7, none⟩ = some (.bool x.aw) from HB.out.blk.cell 7)
                      clear g1 hc1 hR few many
                      go_wp2_with fail
                      refine wp_region_quiet_below (by kernel_rfl) (by kernel_rfl) ?_
                      repeat (go_big_quiet_step (fail))
                      go_big_quiet_step ((go_at_call 24; exact D1.out _ _))
                      repeat (go_big_quiet_step (fail))
                      refine wpQuiet_nil ?_
                      intro _ hw'
                      obtain ⟨⟨dq, osq⟩, hw''⟩ := hw'
                      subst hw''
                      have HB5 := Lib.hid (HB.out.next (below_regrown wr dq osq))
                      clear c0 c1 c2 c3 c4 c5 c6 c7 kv D1 HB HI
                      generalize Sort.grow (redrawn wr dq) osq = w5 at *
                      go_wp2_with fail
                      refine (HB5.out.works).mono ?_
                      rintro e w8 ⟨rfl, hb⟩
                      go_wp2_with fail
                      go_ret
                      exact ⟨rfl, hb.below⟩
                    | some u =>
                      have du : decide (b < u) = true := decide_eq_true (few h30 u hR)
                      have D1 := Lib.hid (fun d os => Calls.regrown_of (nx_some HX.out z v g1 hR (Sort.grow (redrawn wr d) os) (HB.out.next (below_regrown wr d os))))
                      have kv := cell_regrown hc1
                      have c0 := cell_regrown (show wr.cell? ⟨w.heap.size, 0, none⟩ = some (.int .u64 x.s) from HB.out.blk.cell 0)
                      have c1 := cell_regrown (show wr.cell? ⟨w.heap.size, 1, none⟩ = some (.int .u64 x.mi) from HB.out.blk.cell 1)
                      have c2 := cell_regrown (show wr.cell? ⟨w.heap.size, 2, none⟩ = some (.int .u64 x.h) from HB.out.blk.cell 2)
                      have c3 := cell_regrown (show wr.cell? ⟨w.heap.size, 3, none⟩ = some (.int .u64 x.d) from HB.out.blk.cell 3)
                      have c4 := cell_regrown (show wr.cell? ⟨w.heap.size, 4, none⟩ = some (.int .u64 x.mo) from HB.out.blk.cell 4)
                      have c5 := cell_regrown (show wr.cell? ⟨w.heap.size, 5, none⟩ = some (.int .u64 x.w) from HB.out.blk.cell 5)
                      have c6 := cell_regrown (show wr.cell? ⟨w.heap.size, 6, none⟩ = some (.bool x.ad) from HB.out.blk.cell 6)
                      have c7 := cell_regrown (show wr.cell? ⟨w.heap.size, 7, none⟩ = some (.bool x.aw) from HB.out.blk.cell 7)
                      clear g1 hc1 hR few many
                      go_wp2_with fail
                      refine wp_region_quiet_below (by kernel_rfl) (by kernel_rfl) ?_
                      repeat (go_big_quiet_step (fail))
                      go_big_quiet_step ((go_at_call 24; exact D1.out _ _))
                      repeat (go_big_quiet_step (fail))
                      refine wpQuiet_nil ?_
                      intro _ hw'
                      obtain ⟨⟨dq, osq⟩, hw''⟩ := hw'
                      subst hw''
                      have HB5 := Lib.hid (HB.out.next (below_regrown wr dq osq))
                      clear c0 c1 c2 c3 c4 c5 c6 c7 kv D1 HB HI
                      generalize Sort.grow (redrawn wr dq) osq = w5 at *
                      go_wp2_with fail
                      refine (HB5.out.works).mono ?_
                      rintro e w8 ⟨rfl, hb⟩
                      go_wp2_with fail
                      go_ret
                      exact ⟨rfl, hb.below⟩
                  · obtain rfl : k1 = 29 := by have := HKM.out; omega
                    clear h30
                    by_cases hm30 : m = 30
                    · have dm : ((m : Int) == 30) = true := by subst hm30; rfl
                      have dm' : (m == 30) = true := by subst hm30; rfl
                      clear few
                      cases hR : nxV x z v with
                      | none =>
                        have D1 := Lib.hid (fun d os => Calls.regrown_of (nx_none HX.out z v g1 hR (Sort.grow (redrawn wr d) os) (HB.out.next (below_regrown wr d os))))
                        have kv := cell_regrown hc1
                        have c0 := cell_regrown (show wr.cell? ⟨w.heap.size, 0, none⟩ = some (.int .u64 x.s) from HB.out.blk.cell 0)
                        have c1 := cell_regrown (show wr.cell? ⟨w.heap.size, 1, none⟩ = some (.int .u64 x.mi) from HB.out.blk.cell 1)
                        have c2 := cell_regrown (show wr.cell? ⟨w.heap.size, 2, none⟩ = some (.int .u64 x.h) from HB.out.blk.cell 2)
                        have c3 := cell_regrown (show wr.cell? ⟨w.heap.size, 3, none⟩ = some (.int .u64 x.d) from HB.out.blk.cell 3)
                        have c4 := cell_regrown (show wr.cell? ⟨w.heap.size, 4, none⟩ = some (.int .u64 x.mo) from HB.out.blk.cell 4)
                        have c5 := cell_regrown (show wr.cell? ⟨w.heap.size, 5, none⟩ = some (.int .u64 x.w) from HB.out.blk.cell 5)
                        have c6 := cell_regrown (show wr.cell? ⟨w.heap.size, 6, none⟩ = some (.bool x.ad) from HB.out.blk.cell 6)
                        have c7 := cell_regrown (show wr.cell? ⟨w.heap.size, 7, none⟩ = some (.bool x.aw) from HB.out.blk.cell 7)
                        clear g1 hc1 hR many
                        go_wp2_with fail
                        refine wp_region_quiet_below (by kernel_rfl) (by kernel_rfl) ?_
                        repeat (go_big_quiet_step (fail))
                        go_big_quiet_step ((go_at_call 24; exact D1.out _ _))
                        repeat (go_big_quiet_step (fail))
                        refine wpQuiet_nil ?_
                        intro _ hw'
                        obtain ⟨⟨dq, osq⟩, hw''⟩ := hw'
                        subst hw''
                        have HB5 := Lib.hid (HB.out.next (below_regrown wr dq osq))
                        clear c0 c1 c2 c3 c4 c5 c6 c7 kv D1 HB HI
                        generalize Sort.grow (redrawn wr dq) osq = w5 at *
                        go_wp2_with fail
                        refine (HB5.out.works).mono ?_
                        rintro e w8 ⟨rfl, hb⟩
                        go_wp2_with fail
                        go_ret
                        exact ⟨rfl, hb.below⟩
                      | some u =>
                        have D1 := Lib.hid (fun d os => Calls.regrown_of (nx_some HX.out z v g1 hR (Sort.grow (redrawn wr d) os) (HB.out.next (below_regrown wr d os))))
                        have kv := cell_regrown hc1
                        have c0 := cell_regrown (show wr.cell? ⟨w.heap.size, 0, none⟩ = some (.int .u64 x.s) from HB.out.blk.cell 0)
                        have c1 := cell_regrown (show wr.cell? ⟨w.heap.size, 1, none⟩ = some (.int .u64 x.mi) from HB.out.blk.cell 1)
                        have c2 := cell_regrown (show wr.cell? ⟨w.heap.size, 2, none⟩ = some (.int .u64 x.h) from HB.out.blk.cell 2)
                        have c3 := cell_regrown (show wr.cell? ⟨w.heap.size, 3, none⟩ = some (.int .u64 x.d) from HB.out.blk.cell 3)
                        have c4 := cell_regrown (show wr.cell? ⟨w.heap.size, 4, none⟩ = some (.int .u64 x.mo) from HB.out.blk.cell 4)
                        have c5 := cell_regrown (show wr.cell? ⟨w.heap.size, 5, none⟩ = some (.int .u64 x.w) from HB.out.blk.cell 5)
                        have c6 := cell_regrown (show wr.cell? ⟨w.heap.size, 6, none⟩ = some (.bool x.ad) from HB.out.blk.cell 6)
                        have c7 := cell_regrown (show wr.cell? ⟨w.heap.size, 7, none⟩ = some (.bool x.aw) from HB.out.blk.cell 7)
                        clear g1 hc1 hR many
                        go_wp2_with fail
                        refine wp_region_quiet_below (by kernel_rfl) (by kernel_rfl) ?_
                        repeat (go_big_quiet_step (fail))
                        go_big_quiet_step ((go_at_call 24; exact D1.out _ _))
                        repeat (go_big_quiet_step (fail))
                        refine wpQuiet_nil ?_
                        intro _ hw'
                        obtain ⟨⟨dq, osq⟩, hw''⟩ := hw'
                        subst hw''
                        have HB5 := Lib.hid (HB.out.next (below_regrown wr dq osq))
                        clear c0 c1 c2 c3 c4 c5 c6 c7 kv D1 HB HI
                        generalize Sort.grow (redrawn wr dq) osq = w5 at *
                        go_wp2_with fail
                        refine (HB5.out.works).mono ?_
                        rintro e w8 ⟨rfl, hb⟩
                        go_wp2_with fail
                        go_ret
                        exact ⟨rfl, hb.below⟩
                    · have dm : ((m : Int) == 30) = false := by rw [beq_eq_false_iff_ne]; omega
                      have dm' : (m == 30) = false := by rw [beq_eq_false_iff_ne]; exact hm30
                      obtain ⟨u, hR, hub⟩ := many rfl hm30
                      have du : decide (u ≤ b) = true := decide_eq_true hub
                      clear hub
                      have D1 := Lib.hid (fun d os => Calls.regrown_of (nx_some HX.out z v g1 hR (Sort.grow (redrawn wr d) os) (HB.out.next (below_regrown wr d os))))
                      have kv := cell_regrown hc1
                      have c0 := cell_regrown (show wr.cell? ⟨w.heap.size, 0, none⟩ = some (.int .u64 x.s) from HB.out.blk.cell 0)
                      have c1 := cell_regrown (show wr.cell? ⟨w.heap.size, 1, none⟩ = some (.int .u64 x.mi) from HB.out.blk.cell 1)
                      have c2 := cell_regrown (show wr.cell? ⟨w.heap.size, 2, none⟩ = some (.int .u64 x.h) from HB.out.blk.cell 2)
                      have c3 := cell_regrown (show wr.cell? ⟨w.heap.size, 3, none⟩ = some (.int .u64 x.d) from HB.out.blk.cell 3)
                      have c4 := cell_regrown (show wr.cell? ⟨w.heap.size, 4, none⟩ = some (.int .u64 x.mo) from HB.out.blk.cell 4)
                      have c5 := cell_regrown (show wr.cell? ⟨w.heap.size, 5, none⟩ = some (.int .u64 x.w) from HB.out.blk.cell 5)
                      have c6 := cell_regrown (show wr.cell? ⟨w.heap.size, 6, none⟩ = some (.bool x.ad) from HB.out.blk.cell 6)
                      have c7 := cell_regrown (show wr.cell? ⟨w.heap.size, 7, none⟩ = some (.bool x.aw) from HB.out.blk.cell 7)
                      clear g1 hc1 hR few many
                      go_wp2_with fail
                      refine wp_region_quiet_below (by kernel_rfl) (by kernel_rfl) ?_
                      repeat (go_big_quiet_step (fail))
                      go_big_quiet_step ((go_at_call 24; exact D1.out _ _))
                      repeat (go_big_quiet_step (fail))
                      refine wpQuiet_nil ?_
                      intro _ hw'
                      obtain ⟨⟨dq, osq⟩, hw''⟩ := hw'
                      subst hw''
                      have HB5 := Lib.hid (HB.out.next (below_regrown wr dq osq))
                      clear c0 c1 c2 c3 c4 c5 c6 c7 kv D1 HB HI
                      generalize Sort.grow (redrawn wr dq) osq = w5 at *
                      go_wp2_with fail
                      refine (HB5.out.works).mono ?_
                      rintro e w8 ⟨rfl, hb⟩
                      go_wp2_with fail
                      go_ret
                      exact ⟨rfl, hb.below⟩
        · have hne : (chk x z [a, b] == 0) = false := by rw [beq_eq_false_iff_ne]; exact hcz
          rw [AB.out hcz] at A1
          clear hx hT hTab AB hcz hr2 er
          generalize chk x z [a, b] = e at *
          rw [e0] at *
          clear e0
          go_enter Tryd.func7, Tryd.ntmps7
          go_wp2_with fail
          refine (A1.out _ H0.out).mono ?_
          rintro e w1 ⟨rfl, hb⟩
          have H1 := Lib.hid hb
          clear hb H0
          go_wp2_with fail
          refine (H1.out.works).mono ?_
          rintro e w2 ⟨rfl, hb⟩
          go_wp2_with fail
          go_ret
          exact ⟨rfl, hb.below⟩
end Go.Proofs.YtepoegcpfhjlpaaDoor.BW
