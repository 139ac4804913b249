/- Walk of PlanLists. -/
import Derived.Test.YtmkdjdfhkhmejaaGreatDoorPWk
namespace Go.Proofs.YtmkdjdfhkhmejaaGreatDoor.BW
open Go.RowKit BM Go.Shelf MC RK
open BK hiding ret_bool ret_i64

set_option maxRecDepth 8000 in
set_option maxHeartbeats 8000000 in
theorem llists_ok (p : Pl) (l : List (Int × Int)) (a b most : Int) (hb9 : -9223372036854775808 ≤ most ∧ most ≤ 9223372036854775807) (w : World) (hp : PIn w p l) (hT : SpTab w) (hTab : Tab w) : Calls Tryz.prog 4 #[.agg (plV p), .int .i64 a, .int .i64 b, .int .i64 most] w fun e w' => e = .returned (.bool true) ∧ Below w.heap.size w w' := by
  have hB1 : Below w.heap.size w (w.alloc (.cells (plV p) 29)) := (Below.refl _ w).alloc (Nat.le_refl _) _
  have e0 : plV p = #[.int .i64 p.k, .int .u64 p.x.s, .int .u64 p.x.mi, .int .u64 p.x.h, .int .u64 p.x.d, .int .u64 p.x.mo, .int .u64 p.x.w, .bool p.x.ad, .bool p.x.aw, .int .i64 p.z, .int .i64 p.e.s, .int .i64 p.e.p, .int .i64 p.e.c, .slice p.a p.n p.c] := rfl
  by_cases h200 : 200 < p.n
  · have d1 : decide (200 < p.n) = true := decide_eq_true h200
    have d1' : decide ((200 : Int) < p.n) = true := decide_eq_true (by omega)
    have CW := Lib.hid (plworks_ok _ (hT.below hB1) (tab_below hTab hB1 (World.block_lt_of_cell? w _ (hTab 0 (by decide)))))
    have HB1 := Lib.hid hB1
    rw [e0] at CW ⊢
    clear hT hTab hp h200 hB1 e0
    go_enter Tryz.func4, Tryz.ntmps4
    go_wp2_with fail
    refine (CW.out).mono ?_
    rintro e w2 ⟨rfl, hb⟩
    go_wp2_with fail
    go_ret
    exact ⟨rfl, HB1.out.trans (Below.mono (w := w.alloc _) hb HB1.out.size)⟩
  · have d1 : decide (200 < p.n) = false := decide_eq_false h200
    have d1' : decide ((200 : Int) < p.n) = false := decide_eq_false (by omega)
    have HI := Lib.hid (show PBx w p l (w.alloc (.cells (plV p) 29)) from ⟨Blk.new w _ _, (hp.arg (by omega) hT hTab).below hB1, hB1⟩)
    obtain ⟨m, hm⟩ : ∃ m, min most 20 = m := ⟨_, rfl⟩
    have hm9 : m ≤ 20 := by omega
    have CL := Lib.hid (fun W (h : PBx w p l W) => pllist_ok p l a b m (by omega) W h.arg)
    have CR := Lib.hid (fun W (h : PBx w p l W) => rpllist_ok p l a b m (by omega) W h.arg)
    have CC := Lib.hid (fun W (h : PBx w p l W) => plcount_ok p l a b W h.arg)
    have CD := Lib.hid (fun W (h : PBx w p l W) => rplct_ok p l a b W h.arg)
    have CW := Lib.hid (fun W (h : PBx w p l W) => plworks_ok W h.arg.sp h.arg.tab)
    have HLEN : Hid ((lsQ p l a b m).length ≤ 20) := Lib.hid (by
      unfold lsQ
      split
      · rw [List.length_take]; omega
      · simp)
    obtain ⟨Y, hY⟩ : ∃ Y, lsQ p l a b m = Y := ⟨_, rfl⟩
    rw [hY] at CL CR HLEN
    have HEZ : Hid (finE p l [a, b] = finE p l [a, b]) := Lib.hid rfl
    generalize finE p l [a, b] = E at *
    generalize ctQ p l a b = C0 at *
    rw [e0] at CL CR CC CD
    rw [e0]
    clear hT hTab hp h200 hB1 hY hm9 e0 HEZ
    go_enter Tryz.func4, Tryz.ntmps4
    go_wp2_with fail
    refine (CL.out _ HI.out).mono ?_
    rintro e w2 ⟨v1, rfl, ho, hb⟩
    have HI := Lib.hid (HI.out.next hb)
    obtain ⟨a1, cap1, rfl, hi1⟩ := ho.shape
    have HI1 := Lib.hid hi1
    obtain ⟨c0, c1, c2, c3, c4, c5, c6, c7, c8, c9, c10, c11, c12, c13⟩ := HI.out.cells
    clear hb ho hi1
    go_wp2_with fail
    refine (CR.out _ HI.out).mono ?_
    rintro e w3 ⟨v2, rfl, ho, hb⟩
    have HI := Lib.hid (HI.out.next hb)
    obtain ⟨a2, cap2, rfl, hi2⟩ := ho.shape
    have HI1 := Lib.hid (IntsAt.below HI1.out hb)
    have HI2 := Lib.hid hi2
    clear hb ho hi2 c0 c1 c2 c3 c4 c5 c6 c7 c8 c9 c10 c11 c12 c13
    obtain ⟨c0, c1, c2, c3, c4, c5, c6, c7, c8, c9, c10, c11, c12, c13⟩ := HI.out.cells
    have SM := same_ok a1 a2 Y Y.length cap1 cap2 rfl (by have := HLEN.out; omega) w3 HI1.out HI2.out
    have SMH := Lib.hid SM
    clear SM
    generalize Y.length = N at *
    go_wp2_with fail
    refine (SMH.out).mono ?_
    rintro e w4 ⟨rfl, hb⟩
    have HI := Lib.hid (HI.out.next hb)
    clear hb SMH c0 c1 c2 c3 c4 c5 c6 c7 c8 c9 c10 c11 c12 c13
    obtain ⟨c0, c1, c2, c3, c4, c5, c6, c7, c8, c9, c10, c11, c12, c13⟩ := HI.out.cells
    by_cases hin : (0 ≤ a ∧ a ≤ 253402300799) ∧ 0 ≤ b ∧ b ≤ 253402300799
    · have e1 : decide (0 ≤ a) = true := decide_eq_true hin.1.1
      have e2 : decide (a ≤ 253402300799) = true := decide_eq_true hin.1.2
      have e3 : decide (0 ≤ b) = true := decide_eq_true hin.2.1
      have e4 : decide (b ≤ 253402300799) = true := decide_eq_true hin.2.2
      have hwr : IntKind.i64.wrap (b - a) = b - a := IntWalk.i64_in _ (by omega)
      by_cases hlong : 34560000 < b - a
      · have e5 : decide (34560000 < b - a) = true := decide_eq_true hlong
        clear hin hlong
        go_wp2_with fail
        refine (CW.out _ HI.out).mono ?_
        rintro e w5 ⟨rfl, hb⟩
        have HI := Lib.hid (HI.out.next hb)
        clear hb
        go_wp2_with fail
        go_ret
        exact ⟨rfl, HI.out.below⟩
      · have e5 : decide (34560000 < b - a) = false := decide_eq_false hlong
        clear hin hlong
        go_wp2_with fail
        refine (CC.out _ HI.out).mono ?_
        rintro e w5 ⟨rfl, hb⟩
        have HI := Lib.hid (HI.out.next hb)
        clear hb c0 c1 c2 c3 c4 c5 c6 c7 c8 c9 c10 c11 c12 c13
        obtain ⟨c0, c1, c2, c3, c4, c5, c6, c7, c8, c9, c10, c11, c12, c13⟩ := HI.out.cells
        go_wp2_with fail
        refine (CD.out _ HI.out).mono ?_
        rintro e w6 ⟨rfl, hb⟩
        have HI := Lib.hid (HI.out.next hb)
        clear hb c0 c1 c2 c3 c4 c5 c6 c7 c8 c9 c10 c11 c12 c13
        obtain ⟨c0, c1, c2, c3, c4, c5, c6, c7, c8, c9, c10, c11, c12, c13⟩ := HI.out.cells
        go_wp2_with fail
        refine (CW.out _ HI.out).mono ?_
        rintro e w7 ⟨rfl, hb⟩
        have HI := Lib.hid (HI.out.next hb)
        clear hb
        go_wp2_with fail
        go_ret
        exact ⟨rfl, HI.out.below⟩
    · have hcase : a < 0 ∨ 253402300799 < a ∨ b < 0 ∨ 253402300799 < b := by omega
      clear hin
      obtain ⟨x1, hx1⟩ : ∃ x, decide (0 ≤ a) = x := ⟨_, rfl⟩
      obtain ⟨x2, hx2⟩ : ∃ x, decide (a ≤ 253402300799) = x := ⟨_, rfl⟩
      obtain ⟨x3, hx3⟩ : ∃ x, decide (0 ≤ b) = x := ⟨_, rfl⟩
      obtain ⟨x4, hx4⟩ : ∃ x, decide (b ≤ 253402300799) = x := ⟨_, rfl⟩
      have hxx : (x1 && x2 && x3 && x4) = false := by
        rw [← hx1, ← hx2, ← hx3, ← hx4]
        rcases hcase with h | h | h | h
        · rw [decide_eq_false (show ¬ (0 ≤ a) by omega)]; rfl
        · rw [decide_eq_false (show ¬ (a ≤ 253402300799) by omega)]; simp
        · rw [decide_eq_false (show ¬ (0 ≤ b) by omega)]; simp
        · rw [decide_eq_false (show ¬ (b ≤ 253402300799) by omega)]; simp
      clear hcase
      cases x1 <;> cases x2 <;> cases x3 <;> cases x4 <;> simp only [Bool.and_self, Bool.and_true, Bool.and_false, Bool.true_eq_false] at hxx
      all_goals
        clear hxx
        go_wp2_with fail
        refine (CC.out _ HI.out).mono ?_
        rintro e w5 ⟨rfl, hb⟩
        have HI := Lib.hid (HI.out.next hb)
        clear hb c0 c1 c2 c3 c4 c5 c6 c7 c8 c9 c10 c11 c12 c13
        obtain ⟨c0, c1, c2, c3, c4, c5, c6, c7, c8, c9, c10, c11, c12, c13⟩ := HI.out.cells
        go_wp2_with fail
        refine (CD.out _ HI.out).mono ?_
        rintro e w6 ⟨rfl, hb⟩
        have HI := Lib.hid (HI.out.next hb)
        clear hb c0 c1 c2 c3 c4 c5 c6 c7 c8 c9 c10 c11 c12 c13
        obtain ⟨c0, c1, c2, c3, c4, c5, c6, c7, c8, c9, c10, c11, c12, c13⟩ := HI.out.cells
        go_wp2_with fail
        refine (CW.out _ HI.out).mono ?_
        rintro e w7 ⟨rfl, hb⟩
        have HI := Lib.hid (HI.out.next hb)
        clear hb
        go_wp2_with fail
        go_ret
        exact ⟨rfl, HI.out.below⟩
end Go.Proofs.YtmkdjdfhkhmejaaGreatDoor.BW
