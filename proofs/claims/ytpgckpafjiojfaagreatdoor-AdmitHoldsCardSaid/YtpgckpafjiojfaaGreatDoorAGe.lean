/- Contracts of the limiters, third part: the reference's Take; making and copying. -/
import Derived.Test.YtpgckpafjiojfaaGreatDoorAGd
namespace Go.Proofs.YtpgckpafjiojfaaGreatDoor.AD
open Go Go.RowKit
open BK (Blk only_refl only_drew only_drewN only_setCell only_trans only_of_below only_alloc below_drewN)
open BW (limB inB)
section
variable {w : World} {b : Nat} {x : Lm}
end
theorem in_ok (n : Int) (w : World) : Calls Tryz.prog 147 #[.int .i64 n] w fun e w' => e = .returned (.bool (inB n 0 68719476736)) ∧ w' = w := by
  unfold inB
  by_cases h : 0 ≤ n
  all_goals
    go_enter Tryz.func147, Tryz.ntmps147
    go_wp2
    go_ret
    exact ⟨retB (by simp; try omega), rfl⟩
theorem lvalid_ok {t tau : Int} (hl : limB t tau = true) (w : World) : Calls Tryz.prog 101 #[.agg #[.int .i64 t, .int .i64 tau]] w fun e w' => e = .returned (.bool true) ∧ Below w.heap.size w w' := by
  have C1 := Lib.hid (fun W => in_ok t W)
  have C2 := Lib.hid (fun W => in_ok tau W)
  unfold limB at hl
  simp only [Bool.and_eq_true, Bool.or_eq_true] at hl
  obtain ⟨⟨h1, h2⟩, h3⟩ := hl
  rw [h1] at C1
  rw [h2] at C2
  clear h1 h2
  by_cases hp : 0 < t
  · clear h3
    go_enter Tryz.func101, Tryz.ntmps101
    go_wp2_with fail
    refine (C1.out _).mono ?_
    rintro e w' ⟨rfl, rfl⟩
    go_wp2_with fail
    refine (C2.out _).mono ?_
    rintro e w' ⟨rfl, rfl⟩
    go_wp2_with fail
    go_ret
    exact ⟨rfl, (Below.refl _ _).alloc (Nat.le_refl _) _⟩
  · have hz : tau = 0 := by
      rcases h3 with h3 | h3
      · exact absurd (of_decide_eq_true h3) hp
      · exact eq_of_beq h3
    subst hz
    clear h3
    go_enter Tryz.func101, Tryz.ntmps101
    go_wp2_with fail
    refine (C1.out _).mono ?_
    rintro e w' ⟨rfl, rfl⟩
    go_wp2_with fail
    refine (C2.out _).mono ?_
    rintro e w' ⟨rfl, rfl⟩
    go_wp2_with fail
    go_ret
    exact ⟨rfl, (Below.refl _ _).alloc (Nat.le_refl _) _⟩
theorem lnew_ok {t tau : Int} (hl : limB t tau = true) (w : World) : Calls Tryz.prog 41 #[.agg #[.int .i64 t, .int .i64 tau]] w fun e w' => ∃ n, e = .returned (.tuple #[.pointer (some ⟨n, 0, none⟩), .int .i64 0]) ∧ LmAt w' n (lm0 t tau) ∧ Below w.heap.size w w' ∧ w.heap.size ≤ n ∧ n < w'.heap.size := by
  have C := Lib.hid (fun W => lvalid_ok hl W)
  clear hl
  go_enter Tryz.func41, Tryz.ntmps41
  go_wp2_with fail
  refine (C.out _).mono ?_
  rintro e w1 ⟨rfl, hb⟩
  have HB := Lib.hid hb
  have h0 : w1.cell? ⟨w.heap.size, 0, none⟩ = some (.int .i64 t) := by rw [hb.cell (p := ⟨w.heap.size, 0, none⟩) (by simp)]; simp
  have h1 : w1.cell? ⟨w.heap.size, 1, none⟩ = some (.int .i64 tau) := by rw [hb.cell (p := ⟨w.heap.size, 1, none⟩) (by simp)]; simp
  clear hb
  go_wp2_with fail
  go_ret2
  have h9 := HB.out.size
  simp at h9
  exact ⟨_, rfl, Blk.newAt rfl, (((Below.refl _ _).alloc (Nat.le_refl _) _).trans (HB.out.mono (by simp))).alloc (by omega) _, by omega, by simp⟩
end Go.Proofs.YtpgckpafjiojfaaGreatDoor.AD
