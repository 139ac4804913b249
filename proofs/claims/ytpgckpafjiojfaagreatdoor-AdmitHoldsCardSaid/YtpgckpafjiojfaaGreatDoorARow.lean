/- The tables as the rows lay them. A plan as an argument, and a list of plans: their cells, opened. A configuration as an argument: its cells, opened. -/
import Derived.Test.YtpgckpafjiojfaaGreatDoorRows
import Derived.Test.YtpgckpafjiojfaaGreatDoorMStr
import Derived.Test.YtpgckpafjiojfaaGreatDoorMSeq
import Derived.Test.YtpgckpafjiojfaaGreatDoorABits
import Derived.Lay
import Derived.LaidMore
import Derived.OpenShut
import Derived.Lib.LaidTab
import Derived.Test.YtpgckpafjiojfaaGreatDoorAPlan
import Derived.Test.YtpgckpafjiojfaaGreatDoorMatI
import Derived.Lib.SmallJoins
import Derived.Deep.Slices
import Derived.Deep.Fields
import Derived.ChangeSlices
import Derived.Test.YtpgckpafjiojfaaGreatDoorCJob
namespace Go.Proofs.YtpgckpafjiojfaaGreatDoor.BW
open Go.ChangeShapes Go.WideShapes Go.ChangeAt Go.WideMaps Go.WideElems Go.RowKit

theorem own : ownKnob Tryz.prog.godebug = none := by kernel_rfl
def lay : List (String × DataW Unit) := [("math/bits.deBruijn64tab", Rows.laid_math_bits_deBruijn64tab), ("unicode/utf8.acceptRanges", Rows.laid_unicode_utf8_acceptRanges), ("unicode.White_Space", Rows.laid_unicode_White_Space), ("strings.asciiSpace", Rows.laid_strings_asciiSpace), ("unicode/utf8.first", Rows.laid_unicode_utf8_first)]
theorem lay_plain (w : World) : laidMetH Tryz.prog lay w = laidMet Tryz.prog lay w := MakeChecks.laidMetH_plain _ _ _ (by kernel_rfl)
theorem ascii_data : Rows.laid_strings_asciiSpace = Lib.tabData (H := Unit) .u8 Lib.asciiSpaceTab := by kernel_rfl
def dbT : List Int := Lib.deBruijn64tab.map fun (n : Nat) => ((n : Nat) : Int)
theorem db_data : Rows.laid_math_bits_deBruijn64tab = Lib.tabData (H := Unit) .u8 dbT := by kernel_rfl
theorem gTab : Tryz.prog.globalNamed "math/bits.deBruijn64tab" = some 1 := by kernel_rfl
theorem tTab : (Tryz.prog.globals[1]?).map (·.type) = some 293 := by kernel_rfl
theorem gSp : Tryz.prog.globalNamed "strings.asciiSpace" = some 0 := by kernel_rfl
theorem tSp : (Tryz.prog.globals[0]?).map (·.type) = some 290 := by kernel_rfl
theorem c5 : Tryz.prog.cellsOf 5 = 1 := by kernel_rfl
theorem of_laid {W : World} (h : laidMetH Tryz.prog lay W) : Tab W ∧ SpTab W := by
  rw [lay_plain] at h
  constructor
  · have ht : Lib.TabIs Tryz.prog W "math/bits.deBruijn64tab" .u8 dbT := by
      unfold lay at h
      rw [db_data] at h
      exact Lib.tabIs_of_head gTab tTab Tryz.underlying293 Tryz.underlying5 c5 (by kernel_rfl) h
    intro j hj
    have := ht.cell gTab j (by simpa [dbT] using (show j < Lib.deBruijn64tab.length from hj))
    rw [this]
    unfold dbT
    congr 2
    have hj2 : j < Lib.deBruijn64tab.length := hj
    simp [List.getD, hj2]
  · obtain ⟨ps, hv, _, _⟩ := h
    obtain ⟨g0, t0, cs0, f0, p0, q0, hg0, ht0, hv0, hd0, r1, _⟩ := hv
    obtain ⟨g1, t1, cs1, f1, p1, q1, hg1, ht1, hv1, hd1, r2, _⟩ := r1
    obtain ⟨g2, t2, cs2, f2, p2, q2, hg2, ht2, hv2, hd2, r3, _⟩ := r2
    obtain ⟨g3, t3, cs3, f3, p3, q3, hg3, ht3, hv3, hd3, _, _⟩ := r3
    obtain rfl := Option.some.inj (gSp.symm.trans hg3)
    obtain rfl := Option.some.inj (tSp.symm.trans ht3)
    rw [ascii_data] at hd3
    unfold SpTab Lib.TabIs
    rw [hv3, ← Lib.cells_of_tab Tryz.underlying290 Tryz.underlying5 c5 (by kernel_rfl) hd3]
end Go.Proofs.YtpgckpafjiojfaaGreatDoor.BW

namespace Go.Proofs.YtpgckpafjiojfaaGreatDoor.BW
open Go.ChangeShapes Go.WideShapes Go.ChangeAt Go.WideMaps Go.WideElems Go.RowKit BM MC RK Go.Joins Go.Deep

section
variable {H : Type} {enc : TypeId × Value → H} {P : Program} {w : World} {base : Nat} {spare : Nat → Bool} {held : Bool}
theorem open_slice_fields {t e : TypeId} {fs : Array Field} {fuel : Nat} {cs : List Value} {x : DataW H × List MemPlace} (ht : P.underlying t = some (.slice e)) (he : P.underlying e = some (.struct fs))
    (hone : oneCellFields P fs = true) (hC : P.cellsOf e = fs.size) (h : DataW.trod enc P w base spare held fuel t cs = some x) :
    (cs = [.slice none 0 0] ∧ x = (.nil, [])) ∨
    ∃ (a : Addr) (len cap m : Nat) (D : Nat → DataW H) (Pl : Nat → List MemPlace), cs = [.slice (some a) len cap] ∧ base ≤ a.block ∧ len ≤ cap ∧ cap ≤ maxLen ∧ m = (if spare a.block then cap else len) ∧
      x = (.slice ((List.range len).map D) ((List.range (m - len)).map fun j => D (len + j)), MemPlace.row a (m * fs.size) ++ (List.range m).flatMap Pl) ∧
      ∀ i, i < m → ∃ (ys : List (DataW H × List MemPlace)) (n : Nat), D i = .agg (ys.map (·.1)) ∧ Pl i = ys.flatMap (·.2) ∧ ys.length = fs.size ∧
        ∀ (j : Nat) (f : Field), fs[j]? = some f → ∃ (v : Value) (y : DataW H × List MemPlace), w.cell? (a.add (i * fs.size + j)) = some v ∧ ys[j]? = some y ∧ DataW.trod enc P w base spare held n f.type [v] = some y := by
  rcases open_slice ht h with h0 | ⟨a, len, cap, m, n, D, Pl, hcs, hb, hl, hm, hmm, hx, hi⟩
  · exact .inl h0
  · refine .inr ⟨a, len, cap, m, D, Pl, hcs, hb, hl, hm, hmm, by rw [hC] at hx; exact hx, fun i him => ?_⟩
    obtain ⟨cs', hc, ht'⟩ := hi i him
    rw [hC] at hc
    obtain ⟨ys, n', hn', hy, hlen, hyl, hf⟩ := DataW.trod_struct he ht'
    obtain ⟨_, hcl, hat⟩ := World.cells?_some hc
    simp only [Prod.mk.injEq] at hy
    refine ⟨ys, n', hy.1, hy.2, hyl, fun j f hj => ?_⟩
    obtain ⟨ho, hk⟩ := hone_of hone j f hj
    have hjl : j < fs.size := (Array.getElem?_eq_some_iff.1 hj).1
    have hcell := hat j hjl
    have hv : cs'[j]? = some (cs'[j]'(by omega)) := List.getElem?_eq_getElem (by omega)
    have h1 := hf j f hj
    rw [ho, hk] at h1
    have hone' : (cs'.drop j).take 1 = [cs'[j]'(by omega)] := by
      rw [List.drop_eq_getElem_cons (by omega)]
      rfl
    rw [hone'] at h1
    have hys : ys[j]? = some (ys[j]'(by omega)) := List.getElem?_eq_getElem (by omega)
    refine ⟨_, _, ?_, hys, h1.trans hys⟩
    rw [← Go.Deep.add_add, hcell, hv]
end
section
variable {H : Type} {enc : TypeId × Value → H} {w : World} {base : Nat} {spare : Nat → Bool} {held : Bool}
end
theorem door_met (os : Os) (args : Array Value) : laidMetH Tryz.prog lay ((World.laidAll Tryz.prog os lay).forCall (fun _ _ => 0) ⟨#[], args, []⟩).memory := by
  rw [lay_plain]
  exact laidMet_laidAll _ (by kernel_rfl) (by kernel_rfl)
end Go.Proofs.YtpgckpafjiojfaaGreatDoor.BW

namespace Go.Proofs.YtpgckpafjiojfaaGreatDoor.BW
open Go.ChangeShapes Go.WideShapes Go.ChangeAt Go.WideMaps Go.WideElems Go.RowKit BM MC RK Go.Joins Go.Deep

section
variable {H : Type} {enc : TypeId × Value → H} {w : World} {base : Nat} {spare : Nat → Bool} {held : Bool}
theorem list_choice' {α : Type} {Q : Nat → α → Prop} : ∀ n : Nat, (∀ i, i < n → ∃ x, Q i x) → ∃ L : List α, L.length = n ∧ ∀ i (hi : i < L.length), Q i L[i]
  | 0, _ => ⟨[], rfl, fun _ hi => absurd hi (Nat.not_lt_zero _)⟩
  | n + 1, h => by
    obtain ⟨L, hl, hq⟩ := list_choice' n (fun i hi => h i (by omega))
    obtain ⟨x, hx⟩ := h n (by omega)
    refine ⟨L ++ [x], by simp [hl], fun i hi => ?_⟩
    rcases Nat.lt_or_ge i L.length with h1 | h1
    · rw [List.getElem_append_left h1]; exact hq i h1
    · obtain rfl : i = L.length := by simp at hi; omega
      rw [List.getElem_append_right (Nat.le_refl _)]
      simpa [hl] using hx
end
end Go.Proofs.YtpgckpafjiojfaaGreatDoor.BW
