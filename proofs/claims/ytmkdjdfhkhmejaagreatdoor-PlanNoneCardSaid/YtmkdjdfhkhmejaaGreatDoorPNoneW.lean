/- Walk of PlanNone: a plan without a kind has no times. -/
import Derived.Test.YtmkdjdfhkhmejaaGreatDoorPWk
namespace Go.Proofs.YtmkdjdfhkhmejaaGreatDoor.BW
open Go.RowKit BM Go.Shelf MC RK
open BK hiding ret_bool ret_i64

def p0 : Pl := ⟨0, zX, 0, ⟨0, 0, 0⟩, none, 0, 0⟩
theorem plE_p0 : plE p0 [] = 0 := by decide +kernel
theorem isP_p0 : isP p0 [] = fun _ => false := by
  funext t
  exact isP_no (by unfold qK; rw [if_neg (show ¬ p0.k = 1 by decide), if_neg (show ¬ p0.k = 2 by decide)])
theorem nx_p0 (t : Int) : nxQ p0 [] t = none := by
  unfold nxQ
  split
  · rw [isP_p0, nxP_fr]; exact frP_none.2 (fun _ _ _ => rfl)
  · rfl
theorem ls_p0 (a b n : Int) : lsQ p0 [] a b n = [] := by
  unfold lsQ
  split
  · rw [isP_p0, tmsP_nil (fun _ _ _ => rfl), List.take_nil]
  · rfl
theorem ct_p0 (a b : Int) : ctQ p0 [] a b = 0 := by
  unfold ctQ
  split
  · rw [isP_p0, ctP_nil (fun _ _ _ => rfl)]
  · rfl
theorem plV_p0 : plV p0 = #[.int .i64 0, .int .u64 0, .int .u64 0, .int .u64 0, .int .u64 0, .int .u64 0, .int .u64 0, .bool false, .bool false, .int .i64 0, .int .i64 0, .int .i64 0, .int .i64 0, .slice none 0 0] := rfl
structure ZBx (w : World) (W : World) : Prop where
  xb : Blk W w.heap.size 29 (plV p0)
  arg : PArg W p0 []
  below : Below w.heap.size w W
theorem ZBx.next {w X Y : World} (h : ZBx w X) (hb : Below X.heap.size X Y) : ZBx w Y := ⟨h.xb.below hb h.xb.lt, h.arg.below hb, h.below.trans (hb.mono h.below.size)⟩
theorem ZBx.cells {w W : World} (h : ZBx w W) : W.cell? ⟨w.heap.size, 0, none⟩ = some (.int .i64 0) ∧ W.cell? ⟨w.heap.size, 1, none⟩ = some (.int .u64 0) ∧ W.cell? ⟨w.heap.size, 2, none⟩ = some (.int .u64 0) ∧ W.cell? ⟨w.heap.size, 3, none⟩ = some (.int .u64 0) ∧ W.cell? ⟨w.heap.size, 4, none⟩ = some (.int .u64 0) ∧ W.cell? ⟨w.heap.size, 5, none⟩ = some (.int .u64 0) ∧ W.cell? ⟨w.heap.size, 6, none⟩ = some (.int .u64 0) ∧ W.cell? ⟨w.heap.size, 7, none⟩ = some (.bool false) ∧ W.cell? ⟨w.heap.size, 8, none⟩ = some (.bool false) ∧ W.cell? ⟨w.heap.size, 9, none⟩ = some (.int .i64 0) ∧ W.cell? ⟨w.heap.size, 10, none⟩ = some (.int .i64 0) ∧ W.cell? ⟨w.heap.size, 11, none⟩ = some (.int .i64 0) ∧ W.cell? ⟨w.heap.size, 12, none⟩ = some (.int .i64 0) ∧ W.cell? ⟨w.heap.size, 13, none⟩ = some (.slice none 0 0) := ⟨h.xb.cell 0, h.xb.cell 1, h.xb.cell 2, h.xb.cell 3, h.xb.cell 4, h.xb.cell 5, h.xb.cell 6, h.xb.cell 7, h.xb.cell 8, h.xb.cell 9, h.xb.cell 10, h.xb.cell 11, h.xb.cell 12, h.xb.cell 13⟩
set_option maxRecDepth 100000 in
set_option maxHeartbeats 8000000 in
theorem lnone_ok (t : Int) (w : World) (hT : SpTab w) (hTab : Tab w) : Calls Tryz.prog 9 #[.int .i64 t] w fun e w' => e = .returned (.bool true) ∧ Below w.heap.size w w' := by
  have hB1 : Below w.heap.size w (w.alloc (.cells (plV p0) 29)) := (Below.refl _ w).alloc (Nat.le_refl _) _
  have HI := Lib.hid (show ZBx w (w.alloc (.cells (plV p0) 29)) from ⟨Blk.new w _ _, PArg.below ⟨u64_zX, rfl, by decide, SpansAt.nil _ _, hT, hTab⟩ hB1, hB1⟩)
  have C1 := Lib.hid (fun W (h : ZBx w W) => plis_ok p0 [] t W h.arg)
  have C2 := Lib.hid (fun W (h : ZBx w W) => plnext_ok p0 [] t W h.arg)
  have C3 := Lib.hid (fun W (h : ZBx w W) => pllist_ok p0 [] t 253402300799 5 (by decide) W h.arg)
  have C4 := Lib.hid (fun W (h : ZBx w W) => plcount_ok p0 [] 0 t W h.arg)
  have CW := Lib.hid (fun W (h : ZBx w W) => plworks_ok W h.arg.sp h.arg.tab)
  obtain ⟨E, hE⟩ : ∃ E, E = timesR [t] := ⟨_, rfl⟩
  have hE2 : timesR [t, 253402300799] = E := by
    rw [hE]; unfold timesR tOk; simp
  have hE3 : timesR [0, t] = E := by
    rw [hE]; unfold timesR tOk; simp
  have hEV : E = if 0 ≤ t ∧ t ≤ 253402300799 then 0 else 14 := by rw [hE]; unfold timesR tOk; simp
  rw [fin_of plE_p0, ← hE, isP_p0, Bool.and_false] at C1
  rw [fin_of plE_p0, ← hE, nx_p0] at C2
  rw [fin_of plE_p0, hE2, ls_p0] at C3
  rw [fin_of plE_p0, hE3, ct_p0] at C4
  simp only [optI, Option.getD_none, Option.isSome_none] at C2
  rw [plV_p0] at C1 C2 C3 C4
  clear hT hTab hB1 hE hE2 hE3
  by_cases hv : 0 ≤ t ∧ t ≤ 253402300799
  · have d1 : decide (0 ≤ t) = true := decide_eq_true hv.1
    have d2 : decide (t ≤ 253402300799) = true := decide_eq_true hv.2
    obtain rfl : E = 0 := by rw [hEV, if_pos hv]
    clear hEV hv
    go_enter Tryz.func9, Tryz.ntmps9
    go_wp2_with fail
    refine (C1.out _ HI.out).mono ?_
    rintro e w2 ⟨rfl, hb⟩
    have HI := Lib.hid (HI.out.next hb)
    obtain ⟨c0, c1, c2, c3, c4, c5, c6, c7, c8, c9, c10, c11, c12, c13⟩ := HI.out.cells
    clear hb
    go_wp2_with fail
    refine (C2.out _ HI.out).mono ?_
    rintro e w3 ⟨rfl, hb⟩
    have HI := Lib.hid (HI.out.next hb)
    clear hb c0 c1 c2 c3 c4 c5 c6 c7 c8 c9 c10 c11 c12 c13
    obtain ⟨c0, c1, c2, c3, c4, c5, c6, c7, c8, c9, c10, c11, c12, c13⟩ := HI.out.cells
    go_wp2_with fail
    refine (C3.out _ HI.out).mono ?_
    rintro e w4 ⟨v, rfl, ho, hb⟩
    have HI := Lib.hid (HI.out.next hb)
    obtain ⟨al, capl, rfl, -⟩ := ho.shape
    clear hb ho c0 c1 c2 c3 c4 c5 c6 c7 c8 c9 c10 c11 c12 c13
    obtain ⟨c0, c1, c2, c3, c4, c5, c6, c7, c8, c9, c10, c11, c12, c13⟩ := HI.out.cells
    go_wp2_with fail
    refine (C4.out _ HI.out).mono ?_
    rintro e w5 ⟨rfl, hb⟩
    have HI := Lib.hid (HI.out.next hb)
    clear hb c0 c1 c2 c3 c4 c5 c6 c7 c8 c9 c10 c11 c12 c13
    go_wp2_with fail
    refine (CW.out _ HI.out).mono ?_
    rintro e w6 ⟨rfl, hb⟩
    have HI := Lib.hid (HI.out.next hb)
    clear hb
    go_wp2_with fail
    go_ret
    exact ⟨rfl, HI.out.below⟩
  · have hd : (decide (0 ≤ t) && decide (t ≤ 253402300799)) = false := by
      by_cases h1 : 0 ≤ t
      · rw [decide_eq_false (show ¬ t ≤ 253402300799 by omega), Bool.and_false]
      · rw [decide_eq_false h1]; rfl
    obtain ⟨y1, hy1⟩ : ∃ y, decide (0 ≤ t) = y := ⟨_, rfl⟩
    obtain ⟨y2, hy2⟩ : ∃ y, decide (t ≤ 253402300799) = y := ⟨_, rfl⟩
    rw [hy1, hy2] at hd
    obtain rfl : E = 14 := by rw [hEV, if_neg hv]
    clear hEV hv
    cases y1
    · clear hd
      go_enter Tryz.func9, Tryz.ntmps9
      go_wp2_with fail
      refine (C1.out _ HI.out).mono ?_
      rintro e w2 ⟨rfl, hb⟩
      have HI := Lib.hid (HI.out.next hb)
      obtain ⟨c0, c1, c2, c3, c4, c5, c6, c7, c8, c9, c10, c11, c12, c13⟩ := HI.out.cells
      clear hb
      go_wp2_with fail
      refine (C2.out _ HI.out).mono ?_
      rintro e w3 ⟨rfl, hb⟩
      have HI := Lib.hid (HI.out.next hb)
      clear hb c0 c1 c2 c3 c4 c5 c6 c7 c8 c9 c10 c11 c12 c13
      obtain ⟨c0, c1, c2, c3, c4, c5, c6, c7, c8, c9, c10, c11, c12, c13⟩ := HI.out.cells
      go_wp2_with fail
      refine (C3.out _ HI.out).mono ?_
      rintro e w4 ⟨v, rfl, ho, hb⟩
      have HI := Lib.hid (HI.out.next hb)
      obtain ⟨al, capl, rfl, -⟩ := ho.shape
      clear hb ho c0 c1 c2 c3 c4 c5 c6 c7 c8 c9 c10 c11 c12 c13
      obtain ⟨c0, c1, c2, c3, c4, c5, c6, c7, c8, c9, c10, c11, c12, c13⟩ := HI.out.cells
      go_wp2_with fail
      refine (C4.out _ HI.out).mono ?_
      rintro e w5 ⟨rfl, hb⟩
      have HI := Lib.hid (HI.out.next hb)
      clear hb c0 c1 c2 c3 c4 c5 c6 c7 c8 c9 c10 c11 c12 c13
      go_wp2_with fail
      refine (CW.out _ HI.out).mono ?_
      rintro e w6 ⟨rfl, hb⟩
      have HI := Lib.hid (HI.out.next hb)
      clear hb
      go_wp2_with fail
      go_ret
      exact ⟨rfl, HI.out.below⟩
    · obtain rfl : y2 = false := hd
      go_enter Tryz.func9, Tryz.ntmps9
      go_wp2_with fail
      refine (C1.out _ HI.out).mono ?_
      rintro e w2 ⟨rfl, hb⟩
      have HI := Lib.hid (HI.out.next hb)
      obtain ⟨c0, c1, c2, c3, c4, c5, c6, c7, c8, c9, c10, c11, c12, c13⟩ := HI.out.cells
      clear hb
      go_wp2_with fail
      refine (C2.out _ HI.out).mono ?_
      rintro e w3 ⟨rfl, hb⟩
      have HI := Lib.hid (HI.out.next hb)
      clear hb c0 c1 c2 c3 c4 c5 c6 c7 c8 c9 c10 c11 c12 c13
      obtain ⟨c0, c1, c2, c3, c4, c5, c6, c7, c8, c9, c10, c11, c12, c13⟩ := HI.out.cells
      go_wp2_with fail
      refine (C3.out _ HI.out).mono ?_
      rintro e w4 ⟨v, rfl, ho, hb⟩
      have HI := Lib.hid (HI.out.next hb)
      obtain ⟨al, capl, rfl, -⟩ := ho.shape
      clear hb ho c0 c1 c2 c3 c4 c5 c6 c7 c8 c9 c10 c11 c12 c13
      obtain ⟨c0, c1, c2, c3, c4, c5, c6, c7, c8, c9, c10, c11, c12, c13⟩ := HI.out.cells
      go_wp2_with fail
      refine (C4.out _ HI.out).mono ?_
      rintro e w5 ⟨rfl, hb⟩
      have HI := Lib.hid (HI.out.next hb)
      clear hb c0 c1 c2 c3 c4 c5 c6 c7 c8 c9 c10 c11 c12 c13
      go_wp2_with fail
      refine (CW.out _ HI.out).mono ?_
      rintro e w6 ⟨rfl, hb⟩
      have HI := Lib.hid (HI.out.next hb)
      clear hb
      go_wp2_with fail
      go_ret
      exact ⟨rfl, HI.out.below⟩
end Go.Proofs.YtmkdjdfhkhmejaaGreatDoor.BW
