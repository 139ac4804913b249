/- Plain facts on boxes that laws use. -/
import Derived.Test.YtfeblkoconjakaaBrkMath
namespace Go.Proofs.Ytfeblkoconjakaa.BK
open Go

/-- A closed box with a rule, a row of failures, and a last time. -/
def shutB (f o p row last : Int) : Bx := ⟨f, o, p, false, 0, row, 0, 0, last⟩
def openB (f o p u last : Int) : Bx := ⟨f, o, p, true, u, 0, 0, 0, last⟩
section
variable {f o p row last now : Int}
theorem shut_check (h0 : 0 ≤ now) (h1 : now ≤ maxTime) (h2 : last ≤ now) : check (shutB f o p row last) now = 0 := by
  unfold check shutB; rw [if_neg (by omega), if_neg (by simp only []; omega)]
theorem shut_report_ok (hf : f ≠ 0) (h0 : 0 ≤ now) (h1 : now ≤ maxTime) (h2 : last ≤ now) : report (shutB f o p row last) true now = (0, 0, shutB f o p 0 now) := by
  unfold report; rw [shut_check h0 h1 h2]; simp [shutB, hf, ended, closed, seen]
theorem shut_report_fail (hf : f ≠ 0) (h0 : 0 ≤ now) (h1 : now ≤ maxTime) (h2 : last ≤ now) (h : row + 1 < f) : report (shutB f o p row last) false now = (0, 0, shutB f o p (row + 1) now) := by
  unfold report; rw [shut_check h0 h1 h2]; simp [shutB, hf, ended, closed, seen, h]
theorem shut_report_open (hf : f ≠ 0) (h0 : 0 ≤ now) (h1 : now ≤ maxTime) (h2 : last ≤ now) (h : ¬ row + 1 < f) : report (shutB f o p row last) false now = (7, 0, openB f o p (now + o) now) := by
  unfold report; rw [shut_check h0 h1 h2]; simp [shutB, openB, hf, ended, closed, seen, start, h]
theorem open_reset (hf : f ≠ 0) {u : Int} (h0 : 0 ≤ now) (h1 : now ≤ maxTime) (h2 : last ≤ now) : reset (openB f o p u last) now = (0, shutB f o p 0 now) := by
  have hc : check (openB f o p u last) now = 0 := by unfold check openB; rw [if_neg (by omega), if_neg (by simp only []; omega)]
  unfold reset switched; rw [hc]; simp [openB, shutB, hf, stop, seen]
theorem shut_trip (hf : f ≠ 0) (h0 : 0 ≤ now) (h1 : now ≤ maxTime) (h2 : last ≤ now) : trip (shutB f o p row last) now = (0, openB f o p (now + o) now) := by
  unfold trip switched; rw [shut_check h0 h1 h2]; simp [openB, shutB, hf, start, seen]
end
end Go.Proofs.Ytfeblkoconjakaa.BK
