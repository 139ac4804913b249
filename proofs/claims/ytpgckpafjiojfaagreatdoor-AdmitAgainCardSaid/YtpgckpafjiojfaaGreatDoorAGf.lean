/- Contracts of the limiters, fourth part: Restore. -/
import Derived.Test.YtpgckpafjiojfaaGreatDoorAGe
namespace Go.Proofs.YtpgckpafjiojfaaGreatDoor.AD
open Go Go.RowKit
open BK (Blk only_refl only_drew only_drewN only_setCell only_trans only_of_below only_alloc below_drewN)
open BW (limB inB)
theorem LmAt.below {w w' : World} {b n : Nat} {x : Lm} (h : LmAt w b x) (hb : Below n w w') (hn : b < n) : LmAt w' b x := Blk.below h hb hn
/-- What Restore answers: a limiter, or nil; and the error. -/
def ResP (At : World → Nat → Lm → Prop) (r : Option Lm × Int) (w : World) (e : Ending) (w' : World) : Prop := Below w.heap.size w w' ∧ match r.1 with
  | some x => ∃ n, e = .returned (.tuple #[.pointer (some ⟨n, 0, none⟩), .int .i64 r.2]) ∧ At w' n x ∧ w.heap.size ≤ n ∧ n < w'.heap.size
  | none => e = .returned (.tuple #[.pointer none, .int .i64 r.2])
set_option maxRecDepth 8000 in
set_option maxHeartbeats 1000000 in
theorem lrestore_ok {t tau tat now : Int} (hl : limB t tau = true) (w : World) : Calls Tryz.prog 91 #[.agg #[.int .i64 t, .int .i64 tau], .int .i64 tat, .int .i64 now] w (ResP LmAt (lmR t tau tat now) w) := by
  have C := Lib.hid (fun W => lnew_ok hl W)
  have T := Lib.hid (fun W => istime_ok now W)
  have HV : Hid (lmR t tau tat now = if timeB now = false then (none, 14) else if tat = -1 then (some (lm0 t tau), 0) else if tat < t ∨ now + t + tau < tat then (none, 2) else (some ⟨t, tau, true, tat, now⟩, 0)) := Lib.hid rfl
  have hs : 0 ≤ t ∧ t ≤ 68719476736 ∧ 0 ≤ tau ∧ tau ≤ 68719476736 := by
    unfold limB inB at hl
    simp only [Bool.and_eq_true, Bool.or_eq_true, decide_eq_true_eq, beq_iff_eq] at hl
    exact ⟨hl.1.1.1, hl.1.1.2, hl.1.2.1, hl.1.2.2⟩
  generalize lmR t tau tat now = R at *
  clear hl
  by_cases h0 : 0 ≤ now
  · by_cases h1 : now ≤ 253402300799
    · have tb : timeB now = true := timeB_iff.2 ⟨h0, h1⟩
      rw [tb, if_neg (by simp)] at HV
      rw [tb] at T
      clear tb
      have hw1 : IntKind.i64.wrap (now + t) = now + t := IntWalk.i64_in _ (by omega)
      have hw2 : IntKind.i64.wrap (now + t + tau) = now + t + tau := IntWalk.i64_in _ (by omega)
      by_cases hm : tat = -1
      · rw [if_pos hm] at HV
        subst hm
        go_enter Tryz.func91, Tryz.ntmps91
        go_wp2_with fail
        refine (C.out _).mono ?_
        rintro e w1 ⟨n, rfl, h1, h2, h3, h4⟩
        have HB := Lib.hid (((Below.refl w.heap.size w).alloc (Nat.le_refl _) (.cells #[.int .i64 t, .int .i64 tau] 26)).trans (h2.mono (by simp)))
        have HL := Lib.hid h1
        have k0 : w1.cell? ⟨w.heap.size, 0, none⟩ = some (.int .i64 t) := by rw [h2.cell (p := ⟨w.heap.size, 0, none⟩) (by simp)]; simp
        have k1 : w1.cell? ⟨w.heap.size, 1, none⟩ = some (.int .i64 tau) := by rw [h2.cell (p := ⟨w.heap.size, 1, none⟩) (by simp)]; simp
        have hn0 : w.heap.size < n := by simp at h3; omega
        clear h1 h2 h3
        go_wp2_with fail
        refine (T.out _).mono ?_
        rintro e w' ⟨rfl, rfl⟩
        go_wp2_with fail
        go_ret2
        unfold ResP
        rw [HV.out]
        exact ⟨HB.out, n, rfl, HL.out, by omega, by simpa using h4⟩
      · rw [if_neg hm] at HV
        have q1 : (tat == -1) = false := by rw [beq_eq_false_iff_ne]; exact hm
        by_cases h2 : tat < t
        · rw [if_pos (.inl h2)] at HV
          go_enter Tryz.func91, Tryz.ntmps91
          go_wp2_with fail
          refine (C.out _).mono ?_
          rintro e w1 ⟨n, rfl, h1, h2, h3, h4⟩
          have HB := Lib.hid (((Below.refl w.heap.size w).alloc (Nat.le_refl _) (.cells #[.int .i64 t, .int .i64 tau] 26)).trans (h2.mono (by simp)))
          have HL := Lib.hid h1
          have k0 : w1.cell? ⟨w.heap.size, 0, none⟩ = some (.int .i64 t) := by rw [h2.cell (p := ⟨w.heap.size, 0, none⟩) (by simp)]; simp
          have k1 : w1.cell? ⟨w.heap.size, 1, none⟩ = some (.int .i64 tau) := by rw [h2.cell (p := ⟨w.heap.size, 1, none⟩) (by simp)]; simp
          have hn0 : w.heap.size < n := by simp at h3; omega
          clear h1 h2 h3
          go_wp2_with fail
          refine (T.out _).mono ?_
          rintro e w' ⟨rfl, rfl⟩
          go_wp2_with fail
          go_ret2
          unfold ResP
          rw [HV.out]
          exact ⟨HB.out, rfl⟩
        · by_cases h3 : now + t + tau < tat
          · rw [if_pos (.inr h3)] at HV
            go_enter Tryz.func91, Tryz.ntmps91
            go_wp2_with fail
            refine (C.out _).mono ?_
            rintro e w1 ⟨n, rfl, h1, h2, h3, h4⟩
            have HB := Lib.hid (((Below.refl w.heap.size w).alloc (Nat.le_refl _) (.cells #[.int .i64 t, .int .i64 tau] 26)).trans (h2.mono (by simp)))
            have HL := Lib.hid h1
            have k0 : w1.cell? ⟨w.heap.size, 0, none⟩ = some (.int .i64 t) := by rw [h2.cell (p := ⟨w.heap.size, 0, none⟩) (by simp)]; simp
            have k1 : w1.cell? ⟨w.heap.size, 1, none⟩ = some (.int .i64 tau) := by rw [h2.cell (p := ⟨w.heap.size, 1, none⟩) (by simp)]; simp
            have hn0 : w.heap.size < n := by simp at h3; omega
            clear h1 h2 h3
            go_wp2_with fail
            refine (T.out _).mono ?_
            rintro e w' ⟨rfl, rfl⟩
            go_wp2_with fail
            go_ret2
            unfold ResP
            rw [HV.out]
            exact ⟨HB.out, rfl⟩
          · rw [if_neg (by omega)] at HV
            go_enter Tryz.func91, Tryz.ntmps91
            go_wp2_with fail
            refine (C.out _).mono ?_
            rintro e w1 ⟨n, rfl, h1, h2, h3, h4⟩
            have HB := Lib.hid (((Below.refl w.heap.size w).alloc (Nat.le_refl _) (.cells #[.int .i64 t, .int .i64 tau] 26)).trans (h2.mono (by simp)))
            have HL := Lib.hid h1
            have k0 : w1.cell? ⟨w.heap.size, 0, none⟩ = some (.int .i64 t) := by rw [h2.cell (p := ⟨w.heap.size, 0, none⟩) (by simp)]; simp
            have k1 : w1.cell? ⟨w.heap.size, 1, none⟩ = some (.int .i64 tau) := by rw [h2.cell (p := ⟨w.heap.size, 1, none⟩) (by simp)]; simp
            have hn0 : w.heap.size < n := by simp at h3; omega
            clear h1 h2 h3
            have c0 : w1.cell? ⟨n, 0, none⟩ = some (.bool false) := Blk.cell HL.out 0
            have c1 : w1.cell? ⟨n, 1, none⟩ = some (.int .i64 0) := Blk.cell HL.out 1
            have c2 : w1.cell? ⟨n, 2, none⟩ = some (.int .i64 0) := Blk.cell HL.out 2
            have f0 : w1.frozen? ⟨n, 0, none⟩ = false := Blk.frozen HL.out 0
            have f1 : w1.frozen? ⟨n, 1, none⟩ = false := Blk.frozen HL.out 1
            have f2 : w1.frozen? ⟨n, 2, none⟩ = false := Blk.frozen HL.out 2
            go_wp2_with fail
            refine (T.out _).mono ?_
            rintro e w' ⟨rfl, rfl⟩
            go_wp2_with fail
            go_ret2
            unfold ResP
            rw [HV.out]
            refine ⟨((HB.out.setCell ?_ _).setCell ?_ _).setCell ?_ _, n, rfl, ?_, by omega, by simpa using h4⟩
            · exact Nat.le_of_lt hn0
            · exact Nat.le_of_lt hn0
            · exact Nat.le_of_lt hn0
            · have h5 := (((HL.out).set_ 0 (.bool true)).set_ 1 (.int .i64 tat)).set_ 2 (.int .i64 now)
              exact h5
    · have tb : timeB now = false := by unfold timeB; rw [decide_eq_false h1, Bool.and_false]
      rw [tb, if_pos rfl] at HV
      rw [tb] at T
      clear tb
      go_enter Tryz.func91, Tryz.ntmps91
      go_wp2_with fail
      refine (C.out _).mono ?_
      rintro e w1 ⟨n, rfl, h1, h2, h3, h4⟩
      have HB := Lib.hid (((Below.refl w.heap.size w).alloc (Nat.le_refl _) (.cells #[.int .i64 t, .int .i64 tau] 26)).trans (h2.mono (by simp)))
      have HL := Lib.hid h1
      have k0 : w1.cell? ⟨w.heap.size, 0, none⟩ = some (.int .i64 t) := by rw [h2.cell (p := ⟨w.heap.size, 0, none⟩) (by simp)]; simp
      have k1 : w1.cell? ⟨w.heap.size, 1, none⟩ = some (.int .i64 tau) := by rw [h2.cell (p := ⟨w.heap.size, 1, none⟩) (by simp)]; simp
      have hn0 : w.heap.size < n := by simp at h3; omega
      clear h1 h2 h3
      go_wp2_with fail
      refine (T.out _).mono ?_
      rintro e w' ⟨rfl, rfl⟩
      go_wp2_with fail
      go_ret2
      unfold ResP
      rw [HV.out]
      exact ⟨HB.out, rfl⟩
  · have tb : timeB now = false := by unfold timeB; rw [decide_eq_false h0, Bool.false_and]
    rw [tb, if_pos rfl] at HV
    rw [tb] at T
    clear tb
    go_enter Tryz.func91, Tryz.ntmps91
    go_wp2_with fail
    refine (C.out _).mono ?_
    rintro e w1 ⟨n, rfl, h1, h2, h3, h4⟩
    have HB := Lib.hid (((Below.refl w.heap.size w).alloc (Nat.le_refl _) (.cells #[.int .i64 t, .int .i64 tau] 26)).trans (h2.mono (by simp)))
    have HL := Lib.hid h1
    have k0 : w1.cell? ⟨w.heap.size, 0, none⟩ = some (.int .i64 t) := by rw [h2.cell (p := ⟨w.heap.size, 0, none⟩) (by simp)]; simp
    have k1 : w1.cell? ⟨w.heap.size, 1, none⟩ = some (.int .i64 tau) := by rw [h2.cell (p := ⟨w.heap.size, 1, none⟩) (by simp)]; simp
    have hn0 : w.heap.size < n := by simp at h3; omega
    clear h1 h2 h3
    go_wp2_with fail
    refine (T.out _).mono ?_
    rintro e w' ⟨rfl, rfl⟩
    go_wp2_with fail
    go_ret2
    unfold ResP
    rw [HV.out]
    exact ⟨HB.out, rfl⟩
end Go.Proofs.YtpgckpafjiojfaaGreatDoor.AD
