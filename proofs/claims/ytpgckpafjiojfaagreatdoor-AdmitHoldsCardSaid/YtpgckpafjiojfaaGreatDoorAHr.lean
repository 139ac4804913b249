/- Rules and moves as arguments: their cells, opened. -/
import Derived.Test.YtpgckpafjiojfaaGreatDoorAHf
import Derived.Test.YtpgckpafjiojfaaGreatDoorARow
import Derived.Lib.SmallJoins
namespace Go.Proofs.YtpgckpafjiojfaaGreatDoor.AD
open Go.ChangeShapes Go.WideShapes Go.ChangeAt Go.WideMaps Go.WideElems Go.RowKit Go.Joins BW RK
theorem u8_natA {a : Int} (w : (Lit.int .u8 a).wf = true) : ∃ n : Nat, a = n ∧ n < 256 := by
  have h : (0 ≤ a ∧ a ≤ 255) := by simpa [Lit.wf, IntKind.min, IntKind.max, IntKind.signed, IntKind.bits] using w
  exact ⟨a.toNat, by omega, by omega⟩
section
variable {H : Type} {enc : TypeId × Value → H} {w : World} {base : Nat} {spare : Nat → Bool} {held : Bool}
theorem u8_cell {n : Nat} {v : Value} {y : DataW H × List MemPlace} (h : DataW.trod enc Tryz.prog w base spare held n 5 [v] = some y) : ∃ s : Nat, v = .int .u8 s ∧ s < 256 := by
  obtain ⟨k, h1, hx, hw⟩ := DataW.trod_int Tryz.underlying5 h
  obtain ⟨s, rfl, hs⟩ := u8_natA hw
  exact ⟨s, by simpa using h1, hs⟩
set_option maxRecDepth 8000 in
theorem open_moves {r : Reach} {b0 : Nat} {v : Value} {d : DataW H} {q : List MemPlace} (hv : Value.okWide Tryz.prog w r b0 23 v) (h : DataW.Trod enc Tryz.prog w base spare held 23 v d q) :
    ∃ (L : List Mv) (a : Option Addr) (n c : Nat), v = .slice a n c ∧ MovesAt w a L ∧ L.length = n ∧ n ≤ c ∧ n ≤ 9223372036854775807 := by
  obtain ⟨a0, len0, cap0, rfl⟩ := okWide_slice Tryz.underlying23 hv
  obtain ⟨fuel, hf⟩ := h
  rcases open_slice_fields Tryz.underlying23 Tryz.underlying42 (by kernel_rfl) (by kernel_rfl) hf with ⟨hcs, _⟩ | ⟨x, l, c, m, D, Pl, hcs, _, hl, hm, hmm, _, hel⟩
  · simp [Value.cells] at hcs
    obtain ⟨rfl, rfl, rfl⟩ := hcs
    exact ⟨[], none, 0, 0, rfl, fun k hk => by simp at hk, rfl, Nat.le_refl _, by decide⟩
  · simp [Value.cells] at hcs
    obtain ⟨rfl, rfl, rfl⟩ := hcs
    have hml : len0 ≤ m := by rw [hmm]; split <;> omega
    have hmax : maxLen ≤ 9223372036854775807 := by decide
    obtain ⟨bb, off, spot⟩ := x
    have hspot : 0 < len0 → spot = none := fun h0 => by
      obtain ⟨ys, n, -, -, -, hfs⟩ := hel 0 (by omega)
      obtain ⟨v0, y0, c0, -, -⟩ := hfs 0 _ rfl
      simpa [Addr.add] using World.cell?_spot c0
    have hstep : ∀ i, i < len0 → ∃ y : Mv, (∀ j, j < 3 → w.cell? ⟨bb, off + i * 3 + j, none⟩ = (mvC y)[j]?) ∧ y.ok := fun i hil => by
      obtain rfl := hspot (by omega)
      have hadd : ∀ j, (⟨bb, off, none⟩ : Addr).add j = ⟨bb, off + j, none⟩ := fun j => by unfold Addr.add; split <;> simp_all
      obtain ⟨ys, n, -, -, -, hfs⟩ := hel i (by omega)
      obtain ⟨v0, y0, c0, -, t0⟩ := hfs 0 _ rfl
      obtain ⟨v1, y1, c1, -, t1⟩ := hfs 1 _ rfl
      obtain ⟨v2, y2, c2, -, t2⟩ := hfs 2 _ rfl
      obtain ⟨s0, rfl, b0⟩ := u8_cell t0
      obtain ⟨s1, rfl, b1⟩ := u8_cell t1
      obtain ⟨s2, rfl, b2⟩ := u8_cell t2
      rw [hadd] at c0 c1 c2
      refine ⟨⟨s0, s1, s2⟩, fun j hj => ?_, b0, b1, b2⟩
      rw [Nat.add_assoc]
      match j, hj with
      | 0, _ => exact c0
      | 1, _ => exact c1
      | 2, _ => exact c2
    obtain ⟨L, hL, hq⟩ := list_choice' len0 hstep
    refine ⟨L, some ⟨bb, off, spot⟩, len0, cap0, rfl, fun k hk => ?_, hL, hl, by omega⟩
    obtain rfl := hspot (by omega)
    obtain ⟨h1, h2⟩ := hq k hk
    exact ⟨bb, off, rfl, h1, h2⟩
set_option maxRecDepth 8000 in
theorem open_rules {r : Reach} {b0 : Nat} {v : Value} {d : DataW H} {q : List MemPlace} (hv : Value.okWide Tryz.prog w r b0 22 v) (h : DataW.Trod enc Tryz.prog w base spare held 22 v d q) :
    ∃ (L : List Rl) (a : Option Addr) (n c : Nat), v = .slice a n c ∧ RulesAt w a L ∧ L.length = n ∧ n ≤ c ∧ n ≤ 9223372036854775807 := by
  obtain ⟨a0, len0, cap0, rfl⟩ := okWide_slice Tryz.underlying22 hv
  obtain ⟨fuel, hf⟩ := h
  rcases open_slice_fields Tryz.underlying22 Tryz.underlying110 (by kernel_rfl) (by kernel_rfl) hf with ⟨hcs, _⟩ | ⟨x, l, c, m, D, Pl, hcs, _, hl, hm, hmm, _, hel⟩
  · simp [Value.cells] at hcs
    obtain ⟨rfl, rfl, rfl⟩ := hcs
    exact ⟨[], none, 0, 0, rfl, fun k hk => by simp at hk, rfl, Nat.le_refl _, by decide⟩
  · simp [Value.cells] at hcs
    obtain ⟨rfl, rfl, rfl⟩ := hcs
    have hml : len0 ≤ m := by rw [hmm]; split <;> omega
    have hmax : maxLen ≤ 9223372036854775807 := by decide
    obtain ⟨bb, off, spot⟩ := x
    have hspot : 0 < len0 → spot = none := fun h0 => by
      obtain ⟨ys, n, -, -, -, hfs⟩ := hel 0 (by omega)
      obtain ⟨v0, y0, c0, -, -⟩ := hfs 0 _ rfl
      simpa [Addr.add] using World.cell?_spot c0
    have hstep : ∀ i, i < len0 → ∃ y : Rl, (∀ j, j < 6 → w.cell? ⟨bb, off + i * 6 + j, none⟩ = (rlC y)[j]?) ∧ y.ok := fun i hil => by
      obtain rfl := hspot (by omega)
      have hadd : ∀ j, (⟨bb, off, none⟩ : Addr).add j = ⟨bb, off + j, none⟩ := fun j => by unfold Addr.add; split <;> simp_all
      obtain ⟨ys, n, -, -, -, hfs⟩ := hel i (by omega)
      obtain ⟨v0, y0, c0, -, t0⟩ := hfs 0 _ rfl
      obtain ⟨v1, y1, c1, -, t1⟩ := hfs 1 _ rfl
      obtain ⟨v2, y2, c2, -, t2⟩ := hfs 2 _ rfl
      obtain ⟨v3, y3, c3, -, t3⟩ := hfs 3 _ rfl
      obtain ⟨v4, y4, c4, -, t4⟩ := hfs 4 _ rfl
      obtain ⟨v5, y5, c5, -, t5⟩ := hfs 5 _ rfl
      obtain ⟨s0, rfl, b0⟩ := u8_cell t0
      obtain ⟨s1, rfl, b1⟩ := u8_cell t1
      obtain ⟨s2, rfl, b2⟩ := u8_cell t2
      obtain ⟨s3, rfl, b3⟩ := u8_cell t3
      obtain ⟨s4, rfl, b4⟩ := u8_cell t4
      obtain ⟨s5, rfl, b5⟩ := u8_cell t5
      rw [hadd] at c0 c1 c2 c3 c4 c5
      refine ⟨⟨s0, s1, s2, s3, s4, s5⟩, fun j hj => ?_, b0, b1, b2, b3, b4, b5⟩
      rw [Nat.add_assoc]
      match j, hj with
      | 0, _ => exact c0
      | 1, _ => exact c1
      | 2, _ => exact c2
      | 3, _ => exact c3
      | 4, _ => exact c4
      | 5, _ => exact c5
    obtain ⟨L, hL, hq⟩ := list_choice' len0 hstep
    refine ⟨L, some ⟨bb, off, spot⟩, len0, cap0, rfl, fun k hk => ?_, hL, hl, by omega⟩
    obtain rfl := hspot (by omega)
    obtain ⟨h1, h2⟩ := hq k hk
    exact ⟨bb, off, rfl, h1, h2⟩
end
end Go.Proofs.YtpgckpafjiojfaaGreatDoor.AD