/- Contracts of caps: a block of 132 cells. -/
import Derived.Test.YtpgckpafjiojfaaGreatDoorAGf
namespace Go.Proofs.YtpgckpafjiojfaaGreatDoor.AD
open Go Go.RowKit
open BK (Blk only_refl only_drew only_drewN only_setCell only_trans only_of_below only_alloc below_drewN)
structure Cp where
  all : Int
  n : Nat
  most : Nat → Int
  runs : Nat → Int
  total : Int
def Cp.cell (c : Cp) (i : Nat) : Value := if i = 0 then .bool true else if i = 1 then .int .i64 c.all else if i = 2 then .int .i64 c.n else if i < 67 then .int .i64 (c.most (i - 3)) else if i < 131 then .int .i64 (c.runs (i - 67)) else .int .i64 c.total
def Cp.cells (c : Cp) : Array Value := Array.ofFn (n := 132) fun i => c.cell i.val
def CpAt (w : World) (b : Nat) (c : Cp) : Prop := Blk w b 174 c.cells
theorem Cp.cells_get (c : Cp) {i : Nat} (h : i < 132) : c.cells[i]? = some (c.cell i) := by
  unfold Cp.cells
  simp [h]
theorem Cp.cells_at (c : Cp) {i : Nat} (h : i < c.cells.size) : c.cells[i] = c.cell i := by simp [Cp.cells]
theorem CpAt.cell {w : World} {b : Nat} {c : Cp} (h : CpAt w b c) {i : Nat} (hi : i < 132) : w.cell? ⟨b, i, none⟩ = some (c.cell i) := by rw [Blk.cell h, c.cells_get hi]
theorem CpAt.run {w : World} {b : Nat} {c : Cp} (h : CpAt w b c) {j : Nat} (hj : j < 64) : w.cell? ⟨b, 67 + j, none⟩ = some (.int .i64 (c.runs j)) := by
  rw [h.cell (by omega)]
  unfold Cp.cell
  rw [if_neg (by omega), if_neg (by omega), if_neg (by omega), if_neg (by omega), if_pos (by omega), Nat.add_sub_cancel_left]
theorem CpAt.cap {w : World} {b : Nat} {c : Cp} (h : CpAt w b c) {j : Nat} (hj : j < 64) : w.cell? ⟨b, 3 + j, none⟩ = some (.int .i64 (c.most j)) := by
  rw [h.cell (by omega)]
  unfold Cp.cell
  rw [if_neg (by omega), if_neg (by omega), if_neg (by omega), if_pos (by omega), Nat.add_sub_cancel_left]
/-- One more run of a job, or one less. -/
def Cp.put (c : Cp) (j : Nat) (by' : Int) : Cp := ⟨c.all, c.n, c.most, fun k => if k = j then c.runs j + by' else c.runs k, c.total + by'⟩
theorem Cp.put_cells (c : Cp) {j : Nat} (hj : j < 64) (by' : Int) : (c.cells.setIfInBounds (67 + j) (.int .i64 (c.runs j + by'))).setIfInBounds 131 (.int .i64 (c.total + by')) = (c.put j by').cells := by
  apply Array.ext
  · simp [Cp.cells]
  · intro i h1 h2
    have h3 : i < 132 := by simpa [Cp.cells] using h2
    rw [Array.getElem_setIfInBounds (by simpa [Cp.cells] using h3), Array.getElem_setIfInBounds (by simpa [Cp.cells] using h3)]
    rw [Cp.cells_at, Cp.cells_at]
    unfold Cp.cell Cp.put
    by_cases h4 : 131 = i
    · subst h4
      simp
    · rw [if_neg h4]
      by_cases h5 : 67 + j = i
      · subst h5
        simp only [if_true]
        rw [if_neg (by omega), if_neg (by omega), if_neg (by omega), if_neg (by omega), if_pos (by omega), if_pos (by omega)]
      · rw [if_neg h5]
        simp only
        by_cases h6 : i < 67
        · rw [if_pos h6, if_pos h6]
        · by_cases h7 : i < 131
          · rw [if_pos h7, if_pos h7, if_neg (show ¬ (i - 67 = j) by omega)]
          · exact absurd h3 (by omega)
section
variable {w : World} {b : Nat} {c : Cp}
theorem ctotal_ok (h : CpAt w b c) : Calls Tryz.prog 56 #[.pointer (some ⟨b, 0, none⟩)] w fun e w' => e = .returned (.int .i64 c.total) ∧ w = w' := by
  have c131 : w.cell? ⟨b, 131, none⟩ = some (.int .i64 c.total) := h.cell (by decide)
  clear h
  go_enter Tryz.func56, Tryz.ntmps56
  go_wp2_with fail
  go_ret
  exact ⟨rfl, rfl⟩
theorem cused1_ok (h : CpAt w b c) {q r j : Nat} (hj : j < 64) (hq : w.cell? ⟨q, 0, none⟩ = some (.pointer (some ⟨b, 0, none⟩))) (hr : w.cell? ⟨r, 0, none⟩ = some (.int .i64 j)) :
    Calls Tryz.prog 117 #[.pointer (some ⟨q, 0, none⟩), .pointer (some ⟨r, 0, none⟩)] w fun e w' => e = .returned (.tuple #[.int .i64 (c.runs j), .int .i64 0]) ∧ ∃ n, w' = w.drewN n := by
  have c1 := h.run hj
  clear h
  go_enter Tryz.func117, Tryz.ntmps117
  go_wp2_with fail
  go_quiet (fail)
  go_wp2_with fail
  go_ret2
  exact ⟨rfl, _, rfl⟩
set_option maxRecDepth 8000 in
set_option maxHeartbeats 1000000 in
/-- A closure's own answer, taken by of. -/
theorem cof_ok (h : CpAt w b c) {j : Nat} (hj : j < c.n) (f q r : Nat) (he : ∀ args w, (callFunc f args).run Tryz.prog w = .ok (.enter f args) w) (x y : Value) {P : World → Prop} (hf : Calls Tryz.prog f #[.pointer (some ⟨q, 0, none⟩), .pointer (some ⟨r, 0, none⟩)] w fun e w' => e = .returned (.tuple #[x, y]) ∧ P w') :
    Calls Tryz.prog 103 #[.pointer (some ⟨b, 0, none⟩), .int .i64 j, .func (.func f) #[] #[.pointer (some ⟨q, 0, none⟩), .pointer (some ⟨r, 0, none⟩)]] w fun e w' => e = .returned (.tuple #[x, y]) ∧ P w' := by
  have c0 : w.cell? ⟨b, 0, none⟩ = some (.bool true) := h.cell (by decide)
  have c2 : w.cell? ⟨b, 2, none⟩ = some (.int .i64 c.n) := h.cell (by decide)
  have HF := Lib.hid hf
  clear h hf
  have hj' : (j : Int) < c.n := by omega
  have hj0 : (0 : Int) ≤ j := by omega
  go_enter Tryz.func103, Tryz.ntmps103
  go_wp2_with fail
  refine (HF.out).mono ?_
  rintro e w' ⟨rfl, hp⟩
  have HP := Lib.hid hp
  clear hp
  go_wp2_with fail
  go_ret2
  exact ⟨rfl, HP.out⟩
end
end Go.Proofs.YtpgckpafjiojfaaGreatDoor.AD
