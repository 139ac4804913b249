/- Walk of PlanSums: the numbers of two spans, one behind the other, add up. -/
import Derived.Test.YtmkdjdfhkhmejaaGreatDoorPWk
namespace Go.Proofs.YtmkdjdfhkhmejaaGreatDoor.BW
open Go.RowKit BM Go.Shelf MC RK
open BK hiding ret_bool ret_i64

theorem ls_len {p : Pl} {l : List (Int × Int)} {a b : Int} (h : finE p l [a, b] = 0) : ((lsQ p l a b 25).length : Int) = min (ctQ p l a b) 25 := by
  unfold lsQ ctQ
  rw [if_pos h, if_pos h, List.length_take]
  unfold ctP
  omega
set_option maxRecDepth 100000 in
set_option maxHeartbeats 8000000 in
theorem lsums_ok (p : Pl) (l : List (Int × Int)) (a : Int) (f g : Nat) (hf : f < 4294967296) (hg : g < 4294967296) (w : World) (hp : PIn w p l) (hT : SpTab w) (hTab : Tab w) : Calls Tryz.prog 8 #[.agg (plV p), .int .i64 a, .int .u32 f, .int .u32 g] w fun e w' => e = .returned (.bool true) ∧ Below w.heap.size w w' := by
  have hB1 : Below w.heap.size w (w.alloc (.cells (plV p) 29)) := (Below.refl _ w).alloc (Nat.le_refl _) _
  have e0 : plV p = #[.int .i64 p.k, .int .u64 p.x.s, .int .u64 p.x.mi, .int .u64 p.x.h, .int .u64 p.x.d, .int .u64 p.x.mo, .int .u64 p.x.w, .bool p.x.ad, .bool p.x.aw, .int .i64 p.z, .int .i64 p.e.s, .int .i64 p.e.p, .int .i64 p.e.c, .slice p.a p.n p.c] := rfl
  have CW1 := Lib.hid (plworks_ok _ (hT.below hB1) (tab_below hTab hB1 (World.block_lt_of_cell? w _ (hTab 0 (by decide)))))
  have HB1 := Lib.hid hB1
  rw [e0] at CW1
  by_cases hbad : 64 < p.n ∨ a < 0 ∨ 253367740797 < a
  · obtain ⟨y1, hy1⟩ : ∃ y, decide (64 < p.n) = y := ⟨_, rfl⟩
    have hy1' : decide ((64 : Int) < p.n) = y1 := by rw [← hy1]; exact decide_eq_decide.2 (by omega)
    obtain ⟨y2, hy2⟩ : ∃ y, decide (a < 0) = y := ⟨_, rfl⟩
    obtain ⟨y3, hy3⟩ : ∃ y, decide (253367740797 < a) = y := ⟨_, rfl⟩
    have hyy : (y1 || y2 || y3) = true := by
      rw [← hy1, ← hy2, ← hy3]
      rcases hbad with h | h | h
      · rw [decide_eq_true h]; rfl
      · rw [decide_eq_true h]; simp
      · rw [decide_eq_true h]; simp
    rw [e0]
    clear hT hTab hp hbad hB1 e0
    cases y1
    · cases y2
      · obtain rfl : y3 = true := hyy
        go_enter Tryz.func8, Tryz.ntmps8
        go_wp2_with fail
        refine (CW1.out).mono ?_
        rintro e w2 ⟨rfl, hb⟩
        go_wp2_with fail
        go_ret
        exact ⟨rfl, HB1.out.trans (Below.mono (w := w.alloc _) hb HB1.out.size)⟩
      · clear hyy
        go_enter Tryz.func8, Tryz.ntmps8
        go_wp2_with fail
        refine (CW1.out).mono ?_
        rintro e w2 ⟨rfl, hb⟩
        go_wp2_with fail
        go_ret
        exact ⟨rfl, HB1.out.trans (Below.mono (w := w.alloc _) hb HB1.out.size)⟩
    · clear hyy
      go_enter Tryz.func8, Tryz.ntmps8
      go_wp2_with fail
      refine (CW1.out).mono ?_
      rintro e w2 ⟨rfl, hb⟩
      go_wp2_with fail
      go_ret
      exact ⟨rfl, HB1.out.trans (Below.mono (w := w.alloc _) hb HB1.out.size)⟩
  · have d1 : decide (64 < p.n) = false := decide_eq_false (by omega)
    have d1' : decide ((64 : Int) < p.n) = false := decide_eq_false (by omega)
    have d2 : decide (a < 0) = false := decide_eq_false (by omega)
    have d3 : decide (253367740797 < a) = false := decide_eq_false (by omega)
    have HI := Lib.hid (show PBx w p l (w.alloc (.cells (plV p) 29)) from ⟨Blk.new w _ _, (hp.arg (by omega) hT hTab).below hB1, hB1⟩)
    obtain ⟨pn, hpn⟩ : ∃ p : Nat, p = f % 17280000 := ⟨_, rfl⟩
    obtain ⟨qn, hqn⟩ : ∃ q : Nat, q = g % 17280000 := ⟨_, rfl⟩
    have ep : (f : Int) % 17280000 = (pn : Int) := by omega
    have eq_ : (g : Int) % 17280000 = (qn : Int) := by omega
    obtain ⟨b, hb⟩ : ∃ b, a + (pn : Int) = b := ⟨_, rfl⟩
    obtain ⟨b1, hb1⟩ : ∃ b1, b + 1 = b1 := ⟨_, rfl⟩
    obtain ⟨c, hc⟩ : ∃ c, b1 + (qn : Int) = c := ⟨_, rfl⟩
    have r1 : 0 ≤ a := by omega
    have r2 : a ≤ b := by omega
    have r3 : b + 1 ≤ b1 := by omega
    have r4 : b1 ≤ c := by omega
    have r5 : c ≤ 253402300799 := by omega
    have r6 : pn < 17280000 := by omega
    have r7 : qn < 17280000 := by omega
    have CT := Lib.hid (fun x y W (h : PBx w p l W) => plcount_ok p l x y W h.arg)
    have CL := Lib.hid (fun W (h : PBx w p l W) => pllist_ok p l a b 25 (by decide) W h.arg)
    have CW := Lib.hid (fun W (h : PBx w p l W) => plworks_ok W h.arg.sp h.arg.tab)
    by_cases hE : finE p l [a, b] = 0
    · have hpe := finE_plE hE
      have f1 : finE p l [b1, c] = 0 := by rw [fin_of hpe]; exact timesR_two (by omega) (by omega)
      have f2 : finE p l [a, c] = 0 := by rw [fin_of hpe]; exact timesR_two (by omega) (by omega)
      have f3 : finE p l [b1, b] = 0 := by rw [fin_of hpe]; exact timesR_two (by omega) (by omega)
      have g0 : ctQ p l a b = ctP (isP p l) a b := by unfold ctQ; rw [if_pos hE]
      have g1 : ctQ p l b1 c = ctP (isP p l) b1 c := by unfold ctQ; rw [if_pos f1]
      have g2 : ctQ p l a c = ctQ p l a b + ctQ p l b1 c := by
        rw [g0, g1]; unfold ctQ; rw [if_pos f2, ctP_split (c := b) (by omega) (by omega), hb1]
      have g3 : ctQ p l b1 b = 0 := by unfold ctQ; rw [if_pos f3, ctP_nil (fun t h1 h2 => by omega)]
      have HLEN := ls_len hE
      have C1 := Lib.hid (CT.out a b)
      have C2 := Lib.hid (CT.out b1 c)
      have C3 := Lib.hid (CT.out a c)
      have C4 := Lib.hid (CT.out b1 b)
      rw [hE] at C1 CL
      rw [f1] at C2
      rw [f2, g2] at C3
      rw [f3, g3] at C4
      have hm0 : 0 ≤ ctQ p l a b ∧ ctQ p l a b ≤ 253402300800 := by rw [g0]; have := ctP_nonneg (isP p l) a b; have := ctP_le (isP p l) (show a ≤ b + 1 by omega); omega
      have hn0 : 0 ≤ ctQ p l b1 c ∧ ctQ p l b1 c ≤ 253402300800 := by rw [g1]; have := ctP_nonneg (isP p l) b1 c; have := ctP_le (isP p l) (show b1 ≤ c + 1 by omega); omega
      obtain ⟨Y, hY⟩ : ∃ Y, lsQ p l a b 25 = Y := ⟨_, rfl⟩
      rw [hY] at CL HLEN
      clear hE hpe f1 f2 f3 g0 g1 g2 g3 CT hY
      generalize ctQ p l a b = m at *
      generalize ctQ p l b1 c = n at *
      have hmn : IntKind.i64.wrap (m + n) = m + n := IntWalk.i64_in _ (by omega)
      have hmin : min m 25 = (Y.length : Int) := HLEN.symm

      rw [e0] at C1 C2 C3 C4 CL
      rw [e0]
      clear hT hTab hp hbad hB1 e0 HLEN hpn hqn hmn
      go_enter Tryz.func8, Tryz.ntmps8
      go_wp2_with fail
      refine (C1.out _ HI.out).mono ?_
      rintro e w2 ⟨rfl, hb⟩
      have HI := Lib.hid (HI.out.next hb)
      obtain ⟨c0, c1, c2, c3, c4, c5, c6, c7, c8, c9, c10, c11, c12, c13⟩ := HI.out.cells
      clear hb
      go_wp2_with fail
      refine (C2.out _ HI.out).mono ?_
      rintro e w3 ⟨rfl, hb⟩
      have HI := Lib.hid (HI.out.next hb)
      clear hb c0 c1 c2 c3 c4 c5 c6 c7 c8 c9 c10 c11 c12 c13
      obtain ⟨c0, c1, c2, c3, c4, c5, c6, c7, c8, c9, c10, c11, c12, c13⟩ := HI.out.cells
      go_wp2_with fail
      refine (C3.out _ HI.out).mono ?_
      rintro e w4 ⟨rfl, hb⟩
      have HI := Lib.hid (HI.out.next hb)
      clear hb c0 c1 c2 c3 c4 c5 c6 c7 c8 c9 c10 c11 c12 c13
      obtain ⟨c0, c1, c2, c3, c4, c5, c6, c7, c8, c9, c10, c11, c12, c13⟩ := HI.out.cells
      go_wp2_with fail
      refine (CL.out _ HI.out).mono ?_
      rintro e w5 ⟨v, rfl, ho, hb⟩
      obtain ⟨al, capl, rfl, -⟩ := ho.shape
      clear ho
      have HI := Lib.hid (HI.out.next hb)
      clear hb c0 c1 c2 c3 c4 c5 c6 c7 c8 c9 c10 c11 c12 c13
      obtain ⟨c0, c1, c2, c3, c4, c5, c6, c7, c8, c9, c10, c11, c12, c13⟩ := HI.out.cells
      go_wp2_with fail
      refine (C4.out _ HI.out).mono ?_
      rintro e w6 ⟨rfl, hb⟩
      have HI := Lib.hid (HI.out.next hb)
      clear hb c0 c1 c2 c3 c4 c5 c6 c7 c8 c9 c10 c11 c12 c13
      obtain ⟨c0, c1, c2, c3, c4, c5, c6, c7, c8, c9, c10, c11, c12, c13⟩ := HI.out.cells
      go_wp2_with fail
      refine (CW.out _ HI.out).mono ?_
      rintro e w7 ⟨rfl, hb⟩
      have HI := Lib.hid (HI.out.next hb)
      clear hb
      go_wp2_with fail
      go_ret
      exact ⟨rfl, HI.out.below⟩
    · have C1 := Lib.hid (CT.out a b)
      have g0 : ctQ p l a b = 0 := by unfold ctQ; rw [if_neg hE]
      rw [g0] at C1
      have h1 : (finE p l [a, b] == 0) = false := by rw [beq_eq_false_iff_ne]; exact hE
      have h2 : (finE p l [a, b] != 0) = true := by rw [bne, h1]; rfl
      generalize finE p l [a, b] = E at *
      rw [e0] at C1
      rw [e0]
      clear hT hTab hp hbad hB1 e0 hpn hqn hE g0 CT CL
      go_enter Tryz.func8, Tryz.ntmps8
      go_wp2_with fail
      refine (C1.out _ HI.out).mono ?_
      rintro e w2 ⟨rfl, hb⟩
      have HI := Lib.hid (HI.out.next hb)
      obtain ⟨c0, c1, c2, c3, c4, c5, c6, c7, c8, c9, c10, c11, c12, c13⟩ := HI.out.cells
      clear hb
      go_wp2_with fail
      refine (CW.out _ HI.out).mono ?_
      rintro e w7 ⟨rfl, hb⟩
      have HI := Lib.hid (HI.out.next hb)
      clear hb
      go_wp2_with fail
      go_ret
      exact ⟨rfl, HI.out.below⟩
end Go.Proofs.YtmkdjdfhkhmejaaGreatDoor.BW
