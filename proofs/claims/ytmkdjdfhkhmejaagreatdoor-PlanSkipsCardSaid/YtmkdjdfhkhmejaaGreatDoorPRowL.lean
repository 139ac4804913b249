/- A list of plans, and a span, as arguments: their cells, opened. -/
import Derived.Test.YtmkdjdfhkhmejaaGreatDoorPRow
import Derived.Test.YtmkdjdfhkhmejaaGreatDoorPDuesW
namespace Go.Proofs.YtmkdjdfhkhmejaaGreatDoor.BW
open Go.ChangeShapes Go.WideShapes Go.ChangeAt Go.WideMaps Go.WideElems Go.RowKit BM MC RK Go.Joins Go.Deep

theorem list_choice {α : Type} {Q : Nat → α → Prop} : ∀ n : Nat, (∀ i, i < n → ∃ x, Q i x) → ∃ L : List α, L.length = n ∧ ∀ i (hi : i < L.length), Q i L[i]
  | 0, _ => ⟨[], rfl, fun _ hi => absurd hi (Nat.not_lt_zero _)⟩
  | n + 1, h => by
    obtain ⟨L, hl, hq⟩ := list_choice n (fun i hi => h i (by omega))
    obtain ⟨x, hx⟩ := h n (by omega)
    refine ⟨L ++ [x], by simp [hl], fun i hi => ?_⟩
    rcases Nat.lt_or_ge i L.length with h1 | h1
    · rw [List.getElem_append_left h1]; exact hq i h1
    · obtain rfl : i = L.length := by simp at hi; omega
      rw [List.getElem_append_right (Nat.le_refl _)]
      simpa [hl] using hx
section
variable {H : Type} {enc : TypeId × Value → H} {w : World} {base : Nat} {spare : Nat → Bool} {held : Bool}
theorem list14 {α : Type} {cs : List α} (h : cs.length = 14) : ∃ c0 c1 c2 c3 c4 c5 c6 c7 c8 c9 c10 c11 c12 c13, cs = [c0, c1, c2, c3, c4, c5, c6, c7, c8, c9, c10, c11, c12, c13] := by
  match cs, h with
  | [c0, c1, c2, c3, c4, c5, c6, c7, c8, c9, c10, c11, c12, c13], _ => exact ⟨c0, c1, c2, c3, c4, c5, c6, c7, c8, c9, c10, c11, c12, c13, rfl⟩
set_option maxRecDepth 8000 in
theorem open_plans {r : Reach} {b0 : Nat} {v : Value} {d : DataW H} {q : List MemPlace} (hv : Value.okWide Tryz.prog w r b0 47 v) (h : DataW.Trod enc Tryz.prog w base spare held 47 v d q) :
    ∃ (L : List (Pl × List (Int × Int))) (a : Option Addr) (n c : Nat), v = .slice a n c ∧ PlsIn w a L ∧ L.length = n ∧ n ≤ 9223372036854775807 := by
  obtain ⟨a0, len0, cap0, rfl⟩ := okWide_slice Tryz.underlying47 hv
  obtain ⟨fuel, hf⟩ := h
  rcases open_slice Tryz.underlying47 hf with ⟨hcs, _⟩ | ⟨x, len, cap, m, n, D, Pl', hcs, hb, hl, hm, hmm, hx, hi⟩
  · refine ⟨[], none, 0, 0, ?_, fun k hk => absurd hk (Nat.not_lt_zero _), rfl, by decide⟩
    simpa [Value.cells] using hcs
  · have hml : len ≤ m := by rw [hmm]; split <;> omega
    have hmax : maxLen ≤ 9223372036854775807 := by decide
    obtain ⟨bb, off, spot⟩ := x
    have hstep : ∀ i, i < len → ∃ y : Pl × List (Int × Int), (∀ j, j < 14 → w.cell? (((⟨bb, off, spot⟩ : Addr).add (i * 14)).add j) = (plV y.1)[j]?) ∧ PIn w y.1 y.2 := fun i hil => by
      obtain ⟨cs', hc, ht'⟩ := hi i (by omega)
      rw [plan_cells] at hc
      obtain ⟨_, hcl, hat⟩ := World.cells?_some hc
      obtain ⟨c0, c1, c2, c3, c4, c5, c6, c7, c8, c9, c10, c11, c12, c13, rfl⟩ := list14 hcl
      obtain ⟨p, l, e, hp⟩ := plan_cellsP ht'
      refine ⟨(p, l), fun j hj => ?_, hp⟩
      rw [hat j hj, ← e]
      simp
    obtain ⟨L, hL, hq⟩ := list_choice len hstep
    have hspot : 0 < len → spot = none := fun h0 => by
      have h1 := (hq 0 (by omega)).1 0 (by decide)
      have h2 : (plV L[0].1)[0]? = some (.int .i64 L[0].1.k) := rfl
      rw [h2] at h1
      simpa [Addr.add] using World.cell?_spot h1
    refine ⟨L, some ⟨bb, off, spot⟩, len, cap, ?_, fun k hk => ?_, hL, by omega⟩
    · simpa [Value.cells] using hcs
    · obtain rfl := hspot (by omega)
      obtain ⟨h1, h2⟩ := hq k hk
      refine ⟨bb, off, rfl, fun i hi' => ?_, h2⟩
      have := h1 i hi'
      rw [Go.Deep.add_add] at this
      rw [← this]
      congr 1
      unfold Addr.add
      split <;> simp_all <;> omega
set_option maxRecDepth 8000 in
theorem open_span {r : Reach} {b0 : Nat} {v : Value} {d : DataW H} {q : List MemPlace} (hv : Value.okWide Tryz.prog w r b0 54 v) (h : DataW.Trod enc Tryz.prog w base spare held 54 v d q) : ∃ f u : Int, v = .agg #[.int .i64 f, .int .i64 u] := by
  obtain ⟨v0, v1, y0, y1, n, rfl, -, -, h0, h1⟩ := open_agg2 Tryz.underlying54 (by kernel_rfl) (by kernel_rfl) hv h
  obtain ⟨f, rfl⟩ := i64_cellP h0
  obtain ⟨u, rfl⟩ := i64_cellP h1
  exact ⟨f, u, rfl⟩
end
end Go.Proofs.YtmkdjdfhkhmejaaGreatDoor.BW
