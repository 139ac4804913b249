/- The table of math/bits as the row lays it. -/
import Derived.Test.YtcgnnmpgdnajnaaDoorRows
import Derived.Test.YtcgnnmpgdnajnaaDoorBitsA
import Derived.Test.YtcgnnmpgdnajnaaDoorRowKit
import Derived.LaidMore
import Derived.OpenShut
namespace Go.Proofs.YtcgnnmpgdnajnaaDoor.BW
open Go.ChangeShapes Go.WideShapes Go.ChangeAt Go.WideMaps Go.WideElems Go.RowKit

theorem own : ownKnob Tryd.prog.godebug = none := by kernel_rfl
def lay {H : Type} : List (String × DataW H) := [("math/bits.deBruijn64tab", Rows.laid_math_bits_deBruijn64tab)]
theorem gTab : Tryd.prog.globalNamed "math/bits.deBruijn64tab" = some 0 := by kernel_rfl
theorem tTab : (Tryd.prog.globals[0]?).map (·.type) = some 52 := by kernel_rfl
theorem c5 : Tryd.prog.cellsOf 5 = 1 := by kernel_rfl

/-- The door's own heap meets the condition. -/
theorem door_met (os : Os) (args : Array Value) : laidMetH Tryd.prog lay ((World.doorLaid Tryd.prog 400 os).forCall (fun _ _ => 0) ⟨#[], args, []⟩).memory :=
  laidMetH_of_parts3 (fuel := 8) (laidMet_of_run' 8 (by kernel_rfl) (by kernel_rfl)) (by kernel_rfl) (by kernel_rfl)

def tabD {H : Type} : List (DataW H) := (List.range 64).map fun j => .lit (.int .u8 ((Lib.deBruijn64tab.getD j 0 : Nat) : Int))
theorem tabD_eq {H : Type} : (Rows.laid_math_bits_deBruijn64tab : DataW H) = .agg tabD := rfl

theorem of_laid {W : World} (h : laidMetH Tryd.prog lay W) : Tab W := by
  rw [MakeChecks.laidMetH_plain _ _ _ (by kernel_rfl)] at h
  obtain ⟨ps, ⟨g0, t0, cs0, f0, p0, q0, hg0, ht0, hv0, hd0, _, _⟩, _, _⟩ := h
  obtain rfl := Option.some.inj (gTab.symm.trans hg0)
  obtain rfl := Option.some.inj (tTab.symm.trans ht0)
  obtain ⟨xs, m1, rfl, hx1, hlen, hn3, hel⟩ := DataW.trod_array Tryd.underlying52 hd0
  have hx : xs.map (·.1) = tabD := by
    have := congrArg Prod.fst hx1
    rw [tabD_eq] at this
    simpa using this.symm
  intro j hj
  have h0 := hel j hj
  rw [c5] at h0
  simp only [Nat.mul_one] at h0
  have hjx : j < xs.length := by omega
  rw [List.getElem?_eq_getElem hjx] at h0
  obtain ⟨k, e1, e2, _⟩ := DataW.trod_int Tryd.underlying5 h0
  have hk : (xs.map (·.1))[j]? = some (.lit (.int .u8 ((Lib.deBruijn64tab.getD j 0 : Nat) : Int))) := by
    rw [hx]; unfold tabD; rw [List.getElem?_map, List.getElem?_range hj]; rfl
  rw [List.getElem?_map, List.getElem?_eq_getElem hjx, e2] at hk
  have hk' : k = ((Lib.deBruijn64tab.getD j 0 : Nat) : Int) := by simpa using hk
  have := World.var?_cell hg0 hv0 j
  rw [this]
  have h3 : cs0.toList[j]? = some (.int .u8 k) := by
    have h4 := congrArg (fun l => l[0]?) e1
    simp only [List.getElem?_take, List.getElem?_drop, Nat.add_zero] at h4
    simpa using h4
  rw [← hk']
  simpa using h3
end Go.Proofs.YtcgnnmpgdnajnaaDoor.BW
