/- The tables as the rows lay them. -/
import Derived.Test.YtihadbkjfocdoaaGreatDoorRows
import Derived.Test.YtihadbkjfocdoaaGreatDoorMStr
import Derived.Test.YtihadbkjfocdoaaGreatDoorMSeq
import Derived.Test.YtihadbkjfocdoaaGreatDoorMBits
import Derived.Lay
import Derived.LaidMore
import Derived.OpenShut
import Derived.Lib.LaidTab
namespace Go.Proofs.YtihadbkjfocdoaaGreatDoor.BW
open Go.ChangeShapes Go.WideShapes Go.ChangeAt Go.WideMaps Go.WideElems Go.RowKit

theorem own : ownKnob Tryz.prog.godebug = none := by kernel_rfl
def lay : List (String × DataW Unit) := [("math/bits.deBruijn64tab", Rows.laid_math_bits_deBruijn64tab), ("unicode/utf8.acceptRanges", Rows.laid_unicode_utf8_acceptRanges), ("unicode.White_Space", Rows.laid_unicode_White_Space), ("strings.asciiSpace", Rows.laid_strings_asciiSpace), ("unicode/utf8.first", Rows.laid_unicode_utf8_first)]
theorem lay_plain (w : World) : laidMetH Tryz.prog lay w = laidMet Tryz.prog lay w := MakeChecks.laidMetH_plain _ _ _ (by kernel_rfl)
theorem ascii_data : Rows.laid_strings_asciiSpace = Lib.tabData (H := Unit) .u8 Lib.asciiSpaceTab := by kernel_rfl
def dbT : List Int := Lib.deBruijn64tab.map fun (n : Nat) => ((n : Nat) : Int)
theorem db_data : Rows.laid_math_bits_deBruijn64tab = Lib.tabData (H := Unit) .u8 dbT := by kernel_rfl
theorem gTab : Tryz.prog.globalNamed "math/bits.deBruijn64tab" = some 1 := by kernel_rfl
theorem tTab : (Tryz.prog.globals[1]?).map (·.type) = some 184 := by kernel_rfl
theorem gSp : Tryz.prog.globalNamed "strings.asciiSpace" = some 0 := by kernel_rfl
theorem tSp : (Tryz.prog.globals[0]?).map (·.type) = some 181 := by kernel_rfl
theorem c5 : Tryz.prog.cellsOf 5 = 1 := by kernel_rfl
theorem of_laid {W : World} (h : laidMetH Tryz.prog lay W) : Tab W ∧ SpTab W := by
  rw [lay_plain] at h
  constructor
  · have ht : Lib.TabIs Tryz.prog W "math/bits.deBruijn64tab" .u8 dbT := by
      unfold lay at h
      rw [db_data] at h
      exact Lib.tabIs_of_head gTab tTab Tryz.underlying184 Tryz.underlying5 c5 (by kernel_rfl) h
    intro j hj
    have := ht.cell gTab j (by simpa [dbT] using (show j < Lib.deBruijn64tab.length from hj))
    rw [this]
    unfold dbT
    congr 2
    have hj2 : j < Lib.deBruijn64tab.length := hj
    simp [List.getD, hj2]
  · obtain ⟨ps, hv, _, _⟩ := h
    obtain ⟨g0, t0, cs0, f0, p0, q0, hg0, ht0, hv0, hd0, r1, _⟩ := hv
    obtain ⟨g1, t1, cs1, f1, p1, q1, hg1, ht1, hv1, hd1, r2, _⟩ := r1
    obtain ⟨g2, t2, cs2, f2, p2, q2, hg2, ht2, hv2, hd2, r3, _⟩ := r2
    obtain ⟨g3, t3, cs3, f3, p3, q3, hg3, ht3, hv3, hd3, _, _⟩ := r3
    obtain rfl := Option.some.inj (gSp.symm.trans hg3)
    obtain rfl := Option.some.inj (tSp.symm.trans ht3)
    rw [ascii_data] at hd3
    unfold SpTab Lib.TabIs
    rw [hv3, ← Lib.cells_of_tab Tryz.underlying181 Tryz.underlying5 c5 (by kernel_rfl) hd3]
end Go.Proofs.YtihadbkjfocdoaaGreatDoor.BW
