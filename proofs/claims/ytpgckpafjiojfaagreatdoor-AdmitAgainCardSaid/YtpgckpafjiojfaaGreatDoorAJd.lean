/- Contracts of admit.possible and admit.bring. -/
import Derived.Test.YtpgckpafjiojfaaGreatDoorAJb
namespace Go.Proofs.YtpgckpafjiojfaaGreatDoor.AD
open Go Go.RowKit BW
open BK (Bx BoxAt Blk only_refl only_drew only_drewN only_setCell only_trans only_of_below only_alloc below_drewN)
set_option maxHeartbeats 4000000 in
theorem poss_ok {f o p un fa go ud now : Int} (hn : timeB now = true) (ho_ : 0 ≤ o ∧ o ≤ 68719476736) (hp_ : 0 ≤ p ∧ p ≤ 100) (w : World) : Calls Tryz.prog 92 #[.agg #[.int .i64 f, .int .i64 o, .int .i64 p], .agg #[.int .i64 un, .int .i64 fa, .int .i64 go, .int .i64 ud], .int .i64 now] w fun e w' => e = .returned (.bool (possB f o p ⟨un, fa, go, ud⟩ now)) ∧ Below w.heap.size w w' := by
  have hn2 := timeB_iff.1 hn
  go_enter Tryz.func92, Tryz.ntmps92
  by_cases h1 : fa < 0
  · have q1 : decide (fa < 0) = true := decide_eq_true (by omega)
    have hp : possB f o p ⟨un, fa, go, ud⟩ now = false := by
      unfold possB
      simp only
      (repeat' split) <;> first | rfl | (exfalso; omega) | (simp only [decide_eq_false_iff_not]; omega)
    rw [hp]
    go_wp2_with fail
    go_ret
    exact ⟨rfl, two_boxes w _ _⟩
  · have q1 : decide (fa < 0) = false := decide_eq_false (by omega)
    by_cases h2 : go < 0
    · have q2 : decide (go < 0) = true := decide_eq_true (by omega)
      have hp : possB f o p ⟨un, fa, go, ud⟩ now = false := by
        unfold possB
        simp only
        (repeat' split) <;> first | rfl | (exfalso; omega) | (simp only [decide_eq_false_iff_not]; omega)
      rw [hp]
      go_wp2_with fail
      go_ret
      exact ⟨rfl, two_boxes w _ _⟩
    · have q2 : decide (go < 0) = false := decide_eq_false (by omega)
      by_cases h3 : ud < 0
      · have q3 : decide (ud < 0) = true := decide_eq_true (by omega)
        have hp : possB f o p ⟨un, fa, go, ud⟩ now = false := by
          unfold possB
          simp only
          (repeat' split) <;> first | rfl | (exfalso; omega) | (simp only [decide_eq_false_iff_not]; omega)
        rw [hp]
        go_wp2_with fail
        go_ret
        exact ⟨rfl, two_boxes w _ _⟩
      · have q3 : decide (ud < 0) = false := decide_eq_false (by omega)
        by_cases h4 : un = 0
        · have q4 : (un == 0) = true := by rw [beq_iff_eq]; omega
          by_cases g0 : go = 0
          · have r0 : (go == 0) = true := by rw [beq_iff_eq]; omega
            by_cases u0 : ud = 0
            · have s0 : (ud == 0) = true := by rw [beq_iff_eq]; omega
              by_cases fa0 : fa = 0
              · have t0 : (fa == 0) = true := by rw [beq_iff_eq]; omega
                have hp : possB f o p ⟨un, fa, go, ud⟩ now = true := by
                  unfold possB
                  simp only
                  (repeat' split) <;> first | rfl | (exfalso; omega) | (simp only [decide_eq_true_eq]; omega)
                rw [hp]
                go_wp2_with fail
                go_ret
                exact ⟨rfl, two_boxes w _ _⟩
              · have t0 : (fa == 0) = false := by rw [beq_eq_false_iff_ne]; omega
                by_cases ff : fa < f
                · have v0 : decide (fa < f) = true := decide_eq_true (by omega)
                  have hp : possB f o p ⟨un, fa, go, ud⟩ now = true := by
                    unfold possB
                    simp only
                    (repeat' split) <;> first | rfl | (exfalso; omega) | (simp only [decide_eq_true_eq]; omega)
                  rw [hp]
                  go_wp2_with fail
                  go_ret
                  exact ⟨rfl, two_boxes w _ _⟩
                · have v0 : decide (fa < f) = false := decide_eq_false (by omega)
                  have hp : possB f o p ⟨un, fa, go, ud⟩ now = false := by
                    unfold possB
                    simp only
                    (repeat' split) <;> first | rfl | (exfalso; omega) | (simp only [decide_eq_false_iff_not]; omega)
                  rw [hp]
                  go_wp2_with fail
                  go_ret
                  exact ⟨rfl, two_boxes w _ _⟩
            · have s0 : (ud == 0) = false := by rw [beq_eq_false_iff_ne]; omega
              have hp : possB f o p ⟨un, fa, go, ud⟩ now = false := by
                unfold possB
                simp only
                (repeat' split) <;> first | rfl | (exfalso; omega) | (simp only [decide_eq_false_iff_not]; omega)
              rw [hp]
              go_wp2_with fail
              go_ret
              exact ⟨rfl, two_boxes w _ _⟩
          · have r0 : (go == 0) = false := by rw [beq_eq_false_iff_ne]; omega
            have hp : possB f o p ⟨un, fa, go, ud⟩ now = false := by
              unfold possB
              simp only
              (repeat' split) <;> first | rfl | (exfalso; omega) | (simp only [decide_eq_false_iff_not]; omega)
            rw [hp]
            go_wp2_with fail
            go_ret
            exact ⟨rfl, two_boxes w _ _⟩
        · have q4 : (un == 0) = false := by rw [beq_eq_false_iff_ne]; omega
          by_cases hf : f = 0
          · have qf : (f == 0) = true := by rw [beq_iff_eq]; omega
            have hp : possB f o p ⟨un, fa, go, ud⟩ now = false := by
              unfold possB
              simp only
              (repeat' split) <;> first | rfl | (exfalso; omega) | (simp only [decide_eq_false_iff_not]; omega)
            rw [hp]
            go_wp2_with fail
            go_ret
            exact ⟨rfl, two_boxes w _ _⟩
          · have qf : (f == 0) = false := by rw [beq_eq_false_iff_ne]; omega
            by_cases ha : fa = 0
            · have qa : (fa == 0) = true := by rw [beq_iff_eq]; omega
              by_cases ho : un < o
              · have qo : decide (un < o) = true := decide_eq_true (by omega)
                have hp : possB f o p ⟨un, fa, go, ud⟩ now = false := by
                  unfold possB
                  simp only
                  (repeat' split) <;> first | rfl | (exfalso; omega) | (simp only [decide_eq_false_iff_not]; omega)
                rw [hp]
                go_wp2_with fail
                go_ret
                exact ⟨rfl, two_boxes w _ _⟩
              · have qo : decide (un < o) = false := decide_eq_false (by omega)
                have hw0 : IntKind.i64.wrap (now + o) = now + o := IntWalk.i64_in _ (by omega)
                by_cases hx : now + o < un
                · have qx : decide ((now + o) < un) = true := decide_eq_true (by omega)
                  have hp : possB f o p ⟨un, fa, go, ud⟩ now = false := by
                    unfold possB
                    simp only
                    (repeat' split) <;> first | rfl | (exfalso; omega) | (simp only [decide_eq_false_iff_not]; omega)
                  rw [hp]
                  go_wp2_with fail
                  go_ret
                  exact ⟨rfl, two_boxes w _ _⟩
                · have qx : decide ((now + o) < un) = false := decide_eq_false (by omega)
                  by_cases h9 : now < un
                  · have q9 : decide (now < un) = true := decide_eq_true (by omega)
                    by_cases g0 : go = 0
                    · have r0 : (go == 0) = true := by rw [beq_iff_eq]; omega
                      by_cases u0 : ud = 0
                      · have s0 : (ud == 0) = true := by rw [beq_iff_eq]; omega
                        have hp : possB f o p ⟨un, fa, go, ud⟩ now = true := by
                          unfold possB
                          simp only
                          (repeat' split) <;> first | rfl | (exfalso; omega) | (simp only [decide_eq_true_eq]; omega)
                        rw [hp]
                        go_wp2_with fail
                        go_ret
                        exact ⟨rfl, two_boxes w _ _⟩
                      · have s0 : (ud == 0) = false := by rw [beq_eq_false_iff_ne]; omega
                        have hp : possB f o p ⟨un, fa, go, ud⟩ now = false := by
                          unfold possB
                          simp only
                          (repeat' split) <;> first | rfl | (exfalso; omega) | (simp only [decide_eq_false_iff_not]; omega)
                        rw [hp]
                        go_wp2_with fail
                        go_ret
                        exact ⟨rfl, two_boxes w _ _⟩
                    · have r0 : (go == 0) = false := by rw [beq_eq_false_iff_ne]; omega
                      have hp : possB f o p ⟨un, fa, go, ud⟩ now = false := by
                        unfold possB
                        simp only
                        (repeat' split) <;> first | rfl | (exfalso; omega) | (simp only [decide_eq_false_iff_not]; omega)
                      rw [hp]
                      go_wp2_with fail
                      go_ret
                      exact ⟨rfl, two_boxes w _ _⟩
                  · have q9 : decide (now < un) = false := decide_eq_false (by omega)
                    by_cases g1 : go < p
                    · have r1 : decide (go < p) = true := decide_eq_true (by omega)
                      have hw : IntKind.i64.wrap (p - go) = p - go := IntWalk.i64_in _ (by omega)
                      by_cases u1 : ud ≤ p - go
                      · have s1 : decide (ud ≤ (p - go)) = true := decide_eq_true (by omega)
                        have hp : possB f o p ⟨un, fa, go, ud⟩ now = true := by
                          unfold possB
                          simp only
                          (repeat' split) <;> first | rfl | (exfalso; omega) | (simp only [decide_eq_true_eq]; omega)
                        rw [hp]
                        go_wp2_with fail
                        go_ret
                        exact ⟨rfl, two_boxes w _ _⟩
                      · have s1 : decide (ud ≤ (p - go)) = false := decide_eq_false (by omega)
                        have hp : possB f o p ⟨un, fa, go, ud⟩ now = false := by
                          unfold possB
                          simp only
                          (repeat' split) <;> first | rfl | (exfalso; omega) | (simp only [decide_eq_false_iff_not]; omega)
                        rw [hp]
                        go_wp2_with fail
                        go_ret
                        exact ⟨rfl, two_boxes w _ _⟩
                    · have r1 : decide (go < p) = false := decide_eq_false (by omega)
                      have hp : possB f o p ⟨un, fa, go, ud⟩ now = false := by
                        unfold possB
                        simp only
                        (repeat' split) <;> first | rfl | (exfalso; omega) | (simp only [decide_eq_false_iff_not]; omega)
                      rw [hp]
                      go_wp2_with fail
                      go_ret
                      exact ⟨rfl, two_boxes w _ _⟩
            · have qa : (fa == 0) = false := by rw [beq_eq_false_iff_ne]; omega
              have hp : possB f o p ⟨un, fa, go, ud⟩ now = false := by
                unfold possB
                simp only
                (repeat' split) <;> first | rfl | (exfalso; omega) | (simp only [decide_eq_false_iff_not]; omega)
              rw [hp]
              go_wp2_with fail
              go_ret
              exact ⟨rfl, two_boxes w _ _⟩

set_option maxHeartbeats 4000000 in
theorem bring_ok {w : World} {b : Nat} {f o p un fa go ud now : Int} (hB : BoxAt w b (BK.fresh f o p)) (hn : timeB now = true) (hr : BK.zero f o p = true ∨ BK.ruled f o p = true) (hp : possB f o p ⟨un, fa, go, ud⟩ now = true) : Calls Tryz.prog 93 #[.pointer (some ⟨b, 0, none⟩), .agg #[.int .i64 f, .int .i64 o, .int .i64 p], .agg #[.int .i64 un, .int .i64 fa, .int .i64 go, .int .i64 ud], .int .i64 now] w fun e w' => e = .returned (.tuple #[]) ∧ BoxAt w' b (bringB f o p ⟨un, fa, go, ud⟩ now) ∧ w.grownBy w' (some b) := by
  have hn2 := timeB_iff.1 hn
  have hrs : 0 ≤ f ∧ f ≤ 100 ∧ 0 ≤ o ∧ o ≤ 68719476736 ∧ 0 ≤ p ∧ p ≤ 100 := by
    unfold BK.zero BK.ruled BK.maxSpan at hr
    simp only [decide_eq_true_eq] at hr
    omega
  have HR := Lib.hid hr
  have HT := Lib.hid hn
  have HP := Lib.hid hp
  have hlb : b < w.heap.size := Blk.lt hB
  have HNE : Hid (some w.heap.size ≠ some b ∧ some (w.heap.size + 1) ≠ some b) := Lib.hid ⟨fun e => by injection e with e; omega, fun e => by injection e with e; omega⟩
  rw [← bring_fresh (now := now)] at hB
  obtain ⟨W0, hW0⟩ : ∃ W0, W0 = (w.alloc (.cells #[.int .i64 f, .int .i64 o, .int .i64 p] 51)).alloc (.cells #[.int .i64 un, .int .i64 fa, .int .i64 go, .int .i64 ud] 101) := ⟨_, rfl⟩
  have hb0 : Below w.heap.size w W0 := by rw [hW0]; exact two_boxes w _ _
  have K0 : Hid (BoxAt W0 b (bringB f o p ⟨0, 0, 0, 0⟩ now) ∧ Blk W0 w.heap.size 51 #[.int .i64 f, .int .i64 o, .int .i64 p] ∧ Blk W0 (w.heap.size + 1) 101 #[.int .i64 un, .int .i64 fa, .int .i64 go, .int .i64 ud] ∧ w.grownBy W0 (some b)) := Lib.hid ⟨Blk.below hB hb0 hlb, by rw [hW0]; exact (Blk.new _ _ _).alloc _, by rw [hW0]; exact blk_newAt (by simp), only_of_below hb0 _⟩
  have hfa : 0 ≤ fa ∧ (0 < fa → fa < f) ∧ fa ≤ 100 := by
    by_cases hu : un = 0
    · have := poss_shut hp hu
      simp only at this
      omega
    · have := poss_open hp hu
      simp only at this
      omega
  obtain ⟨m, rfl⟩ : ∃ m : Nat, fa = m := ⟨fa.toNat, by omega⟩
  clear hr hn hp hB hb0
  go_enter Tryz.func93, Tryz.ntmps93
  go_upto_region 1 with fail
  rw [← hW0]
  clear hW0
  have k1 : W0.cell? ⟨w.heap.size + 1, 1, none⟩ = some (.int .i64 m) := K0.out.2.2.1.cell 1
  go_wp2_with fail
  go_loopw [10] (fun s10 wr => ∃ k : Nat, k ≤ m ∧ s10 = .int .i64 k ∧ BoxAt wr b (bringB f o p ⟨0, k, 0, 0⟩ now) ∧ Blk wr w.heap.size 51 #[.int .i64 f, .int .i64 o, .int .i64 p] ∧ Blk wr (w.heap.size + 1) 101 #[.int .i64 un, .int .i64 m, .int .i64 go, .int .i64 ud] ∧ w.grownBy wr (some b)) (fun s10 _ => m - intA s10)
  case atStart => exact ⟨0, Nat.zero_le _, rfl, K0.out⟩
  case round =>
    obtain ⟨k, hk, rfl, hI⟩ := hrel
    have KW := Lib.hid hI
    clear hI K0 k1
    rcases Nat.lt_or_ge k m with hlt | hge
    · have HF := Lib.hid (bring_fail (f := f) (o := o) (p := p) HT.out (k := k) (by omega) (by omega))
      have HI := Lib.hid (bring_inv HR.out HT.out (poss_mk (f := f) (o := o) (p := p) (now := now) (s := ⟨0, k, 0, 0⟩) (.inl ⟨rfl, (show (0 : Int) ≤ k by omega), rfl, rfl, (show (k : Int) = 0 ∨ (k : Int) < f by omega)⟩)))
      go_wp2_with fail
      refine (BK.report_ok KW.out.1 HI.out false now).mono ?_
      rintro e_ X1 ⟨rfl, hb_, hg_⟩
      rw [HF.out] at hb_ ⊢
      have KX1 : Hid (BoxAt X1 b (bringB f o p ⟨0, k + 1, 0, 0⟩ now) ∧ Blk X1 w.heap.size 51 #[.int .i64 f, .int .i64 o, .int .i64 p] ∧ Blk X1 (w.heap.size + 1) 101 #[.int .i64 un, .int .i64 m, .int .i64 go, .int .i64 ud] ∧ w.grownBy X1 (some b)) := Lib.hid ⟨hb_, (hg_.block _ KW.out.2.1.lt (HNE.out.1)).trans KW.out.2.1, (hg_.block _ KW.out.2.2.1.lt (HNE.out.2)).trans KW.out.2.2.1, only_trans KW.out.2.2.2 hg_⟩
      clear hb_ hg_ KW
      go_wp2_with fail
      refine ⟨⟨k + 1, by omega, by go_num, ?_⟩, ?_⟩
      · have := KX1.out
        rwa [show ((k : Int) + 1) = ((k + 1 : Nat) : Int) by omega] at this
      · simp [intA]; omega
    · obtain rfl : m = k := by omega
      have k0 : wr.cell? ⟨w.heap.size + 1, 0, none⟩ = some (.int .i64 un) := KW.out.2.2.1.cell 0
      by_cases hu : un = 0
      · have qu : (un == 0) = true := by rw [beq_iff_eq]; exact hu
        have hgu := poss_shut HP.out hu
        simp only at hgu
        obtain ⟨-, h1, h2, -⟩ := hgu
        subst hu h1 h2
        go_wp2_with fail
        refine bodyPost_ret (results_none rfl _ _ _) rfl ?_
        exact ⟨rfl, KW.out.1, KW.out.2.2.2⟩
      · have qu : (un == 0) = false := by rw [beq_eq_false_iff_ne]; exact hu
        have hop := poss_open HP.out hu
        simp only at hop
        obtain ⟨hf0, hm0, hg0, hu0, hou, hun, hhalf⟩ := hop
        obtain rfl : m = 0 := by omega
        have KZ : Hid (BoxAt wr b (bringB f o p ⟨0, 0, 0, 0⟩ now) ∧ Blk wr w.heap.size 51 #[.int .i64 f, .int .i64 o, .int .i64 p] ∧ Blk wr (w.heap.size + 1) 101 #[.int .i64 un, .int .i64 (0 : Nat), .int .i64 go, .int .i64 ud] ∧ w.grownBy wr (some b)) := KW
        clear KW
        have KW := KZ
        clear KZ
        have hto : timeB (un - o) = true := timeB_iff.2 (by omega)
        have HTO := Lib.hid hto
        have HF := Lib.hid (bring_trip (f := f) (o := o) (p := p) (now := now) hf0 hu hto)
        have HI := Lib.hid (bring_inv HR.out HT.out (poss_mk (f := f) (o := o) (p := p) (now := now) (s := ⟨0, 0, 0, 0⟩) (.inl ⟨rfl, Int.le_refl _, rfl, rfl, .inl rfl⟩)))
        have hw : IntKind.i64.wrap (un - o) = un - o := IntWalk.i64_in _ (by omega)
        have o1 : wr.cell? ⟨w.heap.size, 1, none⟩ = some (.int .i64 o) := KW.out.2.1.cell 1
        clear hto
        go_wp2_with fail
        refine (BK.trip_ok KW.out.1 HI.out (un - o)).mono ?_
        rintro e_ X2 ⟨rfl, hb_, hg_⟩
        rw [HF.out] at hb_ ⊢
        have KX2 : Hid (BoxAt X2 b (bringB f o p ⟨un, 0, 0, 0⟩ now) ∧ Blk X2 w.heap.size 51 #[.int .i64 f, .int .i64 o, .int .i64 p] ∧ Blk X2 (w.heap.size + 1) 101 #[.int .i64 un, .int .i64 (0 : Nat), .int .i64 go, .int .i64 ud] ∧ w.grownBy X2 (some b)) := Lib.hid ⟨hb_, (hg_.block _ KW.out.2.1.lt (HNE.out.1)).trans KW.out.2.1, (hg_.block _ KW.out.2.2.1.lt (HNE.out.2)).trans KW.out.2.2.1, only_trans KW.out.2.2.2 hg_⟩
        clear hb_ hg_ KW
        clear k0 o1
        have k2 : X2.cell? ⟨w.heap.size + 1, 2, none⟩ = some (.int .i64 go) := KX2.out.2.2.1.cell 2
        have k3 : X2.cell? ⟨w.heap.size + 1, 3, none⟩ = some (.int .i64 ud) := KX2.out.2.2.1.cell 3
        obtain ⟨g, rfl⟩ : ∃ g : Nat, go = g := ⟨go.toNat, by omega⟩
        obtain ⟨t, ht⟩ : ∃ t : Nat, (g : Int) + ud = t := ⟨((g : Int) + ud).toNat, by omega⟩
        obtain rfl : ud = t - g := by omega
        have hw2 : IntKind.i64.wrap ((g : Int) + ((t : Int) - g)) = t := by rw [IntWalk.i64_in _ (by omega)]; omega
        clear ht
        go_wp2_with fail
        go_loopw [34] (fun s34 wr => ∃ k : Nat, k ≤ t ∧ s34 = .int .i64 k ∧ BoxAt wr b (bringB f o p ⟨un, 0, 0, k⟩ now) ∧ Blk wr w.heap.size 51 #[.int .i64 f, .int .i64 o, .int .i64 p] ∧ Blk wr (w.heap.size + 1) 101 #[.int .i64 un, .int .i64 (0 : Nat), .int .i64 g, .int .i64 ((t : Int) - g)] ∧ w.grownBy wr (some b)) (fun s34 _ => t - intA s34)
        case atStart => exact ⟨0, Nat.zero_le _, rfl, KX2.out⟩
        case round =>
          obtain ⟨k, hk, rfl, hI⟩ := hrel
          have KW := Lib.hid hI
          clear hI KX2 k2 k3 hw2
          rcases Nat.lt_or_ge k t with hlt | hge
          · have htu : timeB un = true := timeB_iff.2 (by omega)
            have HF := Lib.hid (bring_take (f := f) (o := o) (p := p) (now := now) hu (by omega) htu (j := k) (by omega) (by omega))
            have HI := Lib.hid (bring_inv HR.out HT.out (poss_mk (f := f) (o := o) (p := p) (now := now) (s := ⟨un, 0, 0, k⟩) (.inr ⟨hu, hf0, rfl, Int.le_refl _, (show (0 : Int) ≤ k by omega), hou, hun, .inr (show un ≤ now ∧ (0 : Int) < p ∧ (0 : Int) + k ≤ p by omega)⟩)))
            have k0 : wr.cell? ⟨w.heap.size + 1, 0, none⟩ = some (.int .i64 un) := KW.out.2.2.1.cell 0
            clear htu
            go_wp2_with fail
            refine (BK.take_ok KW.out.1 HI.out un).mono ?_
            rintro e_ X3 ⟨rfl, hb_, hg_⟩
            rw [HF.out] at hb_ ⊢
            have KX3 : Hid (BoxAt X3 b (bringB f o p ⟨un, 0, 0, k + 1⟩ now) ∧ Blk X3 w.heap.size 51 #[.int .i64 f, .int .i64 o, .int .i64 p] ∧ Blk X3 (w.heap.size + 1) 101 #[.int .i64 un, .int .i64 (0 : Nat), .int .i64 g, .int .i64 ((t : Int) - g)] ∧ w.grownBy X3 (some b)) := Lib.hid ⟨hb_, (hg_.block _ KW.out.2.1.lt (HNE.out.1)).trans KW.out.2.1, (hg_.block _ KW.out.2.2.1.lt (HNE.out.2)).trans KW.out.2.2.1, only_trans KW.out.2.2.2 hg_⟩
            clear hb_ hg_ KW
            go_wp2_with fail
            refine ⟨⟨k + 1, by omega, by go_num, ?_⟩, ?_⟩
            · have := KX3.out
              rwa [show ((k : Int) + 1) = ((k + 1 : Nat) : Int) by omega] at this
            · simp [intA]; omega
          · obtain rfl : t = k := by omega
            have k2 : wr.cell? ⟨w.heap.size + 1, 2, none⟩ = some (.int .i64 g) := KW.out.2.2.1.cell 2
            go_wp2_with fail
            go_loopw [43] (fun s43 wr => ∃ k : Nat, k ≤ g ∧ s43 = .int .i64 k ∧ BoxAt wr b (bringB f o p ⟨un, 0, k, t - k⟩ now) ∧ Blk wr w.heap.size 51 #[.int .i64 f, .int .i64 o, .int .i64 p] ∧ Blk wr (w.heap.size + 1) 101 #[.int .i64 un, .int .i64 (0 : Nat), .int .i64 g, .int .i64 ((t : Int) - g)] ∧ w.grownBy wr (some b)) (fun s43 _ => g - intA s43)
            case atStart => exact ⟨0, Nat.zero_le _, rfl, by have := KW.out; rwa [show (t : Int) = (t : Int) - ((0 : Nat) : Int) by omega] at this⟩
            case round =>
              obtain ⟨k, hk, rfl, hI⟩ := hrel
              have KY := Lib.hid hI
              clear hI KW k2
              have KW := KY
              clear KY
              rcases Nat.lt_or_ge k g with hlt | hge
              · have htu : timeB un = true := timeB_iff.2 (by omega)
                have HF := Lib.hid (bring_good (f := f) (o := o) (p := p) (now := now) hf0 hu htu (q := k) (t := t) (by omega) (by omega) (by omega))
                have HI := Lib.hid (bring_inv HR.out HT.out (poss_mk (f := f) (o := o) (p := p) (now := now) (s := ⟨un, 0, k, t - k⟩) (.inr ⟨hu, hf0, rfl, (show (0 : Int) ≤ k by omega), (show (0 : Int) ≤ (t : Int) - k by omega), hou, hun, .inr (show un ≤ now ∧ (k : Int) < p ∧ (k : Int) + ((t : Int) - k) ≤ p by omega)⟩)))
                have k0 : wr.cell? ⟨w.heap.size + 1, 0, none⟩ = some (.int .i64 un) := KW.out.2.2.1.cell 0
                clear htu
                go_wp2_with fail
                refine (BK.report_ok KW.out.1 HI.out true un).mono ?_
                rintro e_ X4 ⟨rfl, hb_, hg_⟩
                rw [HF.out] at hb_ ⊢
                have KX4 : Hid (BoxAt X4 b (bringB f o p ⟨un, 0, k + 1, t - (k + 1)⟩ now) ∧ Blk X4 w.heap.size 51 #[.int .i64 f, .int .i64 o, .int .i64 p] ∧ Blk X4 (w.heap.size + 1) 101 #[.int .i64 un, .int .i64 (0 : Nat), .int .i64 g, .int .i64 ((t : Int) - g)] ∧ w.grownBy X4 (some b)) := Lib.hid ⟨hb_, (hg_.block _ KW.out.2.1.lt (HNE.out.1)).trans KW.out.2.1, (hg_.block _ KW.out.2.2.1.lt (HNE.out.2)).trans KW.out.2.2.1, only_trans KW.out.2.2.2 hg_⟩
                clear hb_ hg_ KW
                go_wp2_with fail
                refine ⟨⟨k + 1, by omega, by go_num, ?_⟩, ?_⟩
                · have := KX4.out
                  rwa [show ((k : Int) + 1) = ((k + 1 : Nat) : Int) by omega] at this
                · simp [intA]; omega
              · obtain rfl : g = k := by omega
                go_wp2_with fail
                go_end0
                exact ⟨rfl, KW.out.1, KW.out.2.2.2⟩
end Go.Proofs.YtpgckpafjiojfaaGreatDoor.AD
