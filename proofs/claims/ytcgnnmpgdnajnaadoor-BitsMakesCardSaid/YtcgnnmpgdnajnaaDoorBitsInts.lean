/- A slice of numbers that came in, as the walks want it. -/
import Derived.Test.YtcgnnmpgdnajnaaDoorBitsF
import Derived.Test.YtcgnnmpgdnajnaaDoorRowKit
import Derived.ChangeSlices
namespace Go.Proofs.YtcgnnmpgdnajnaaDoor.BW
open Go.ChangeShapes Go.WideShapes Go.ChangeAt Go.WideMaps Go.WideElems Go.RowKit

theorem ints_open {H : Type} {enc : TypeId × Value → H} {W : World} {sp : Nat → Bool} {b : Nat} {held : Bool} {a : Option Addr} {len cap : Nat} {d : DataW H} {p : List MemPlace}
    (h : DataW.Trod enc Tryd.prog W b sp held 34 (.slice a len cap) d p) : ∃ xs : List Int, len = xs.length ∧ xs.length ≤ 9223372036854775807 ∧ IntsAt W a xs := by
  obtain ⟨fuel, hf⟩ := h
  rcases open_ints Tryd.underlying34 Tryd.underlying3 (by kernel_rfl) hf with ⟨hcs, _⟩ | ⟨x, l, c, zs, hcs, _, hl, hm, hz, _, hcell, hwz⟩
  · simp [Value.cells] at hcs
    obtain ⟨rfl, rfl, rfl⟩ := hcs
    exact ⟨[], rfl, by simp, fun k hk => by simp at hk⟩
  · simp [Value.cells] at hcs
    obtain ⟨rfl, rfl, rfl⟩ := hcs
    have hz' : len ≤ zs.length ∧ zs.length ≤ cap := by rw [hz]; split <;> omega
    refine ⟨zs.take len, ?_, ?_, ?_⟩
    · simp; omega
    · have : maxLen ≤ 9223372036854775807 := by decide
      simp; omega
    · intro k hk
      have hk' : k < len ∧ k < zs.length := by simpa [List.length_take, Nat.lt_min] using hk
      have hc := hcell k hk'.2
      obtain ⟨b, off, spot⟩ := x
      have hspot : spot = none := by
        have h0 := hcell 0 (by omega)
        simpa [Addr.add] using World.cell?_spot h0
      subst hspot
      refine ⟨b, off, rfl, ?_⟩
      rw [List.getElem_take]
      rw [show (⟨b, off, none⟩ : Addr).add k = ⟨b, off + k, none⟩ from by unfold Addr.add; split <;> simp_all] at hc
      rw [hc]
      simp [List.getD_eq_getElem?_getD, List.getElem?_eq_getElem hk'.2]
end Go.Proofs.YtcgnnmpgdnajnaaDoor.BW
