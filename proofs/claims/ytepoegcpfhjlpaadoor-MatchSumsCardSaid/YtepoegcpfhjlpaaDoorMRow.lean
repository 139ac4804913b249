/- An expression as an argument: its cells, opened. -/
import Derived.Test.YtepoegcpfhjlpaaDoorMatI
import Derived.Test.YtepoegcpfhjlpaaDoorMLaid
import Derived.Lib.SmallJoins
namespace Go.Proofs.YtepoegcpfhjlpaaDoor.BW
open Go.ChangeShapes Go.WideShapes Go.ChangeAt Go.WideMaps Go.WideElems Go.RowKit BM MC RK Go.Joins

theorem expr_cells : Tryd.prog.cellsOf 24 = 8 := by kernel_rfl
theorem array8 {α : Type} {cs : Array α} (h : cs.size = 8) : ∃ c0 c1 c2 c3 c4 c5 c6 c7, cs = #[c0, c1, c2, c3, c4, c5, c6, c7] := by
  obtain ⟨l⟩ := cs
  match l, h with
  | [c0, c1, c2, c3, c4, c5, c6, c7], _ => exact ⟨c0, c1, c2, c3, c4, c5, c6, c7, rfl⟩
theorem c1u : Tryd.prog.cellsOf 22 = 1 := by kernel_rfl
theorem c1b : Tryd.prog.cellsOf 4 = 1 := by kernel_rfl
section
variable {H : Type} {enc : TypeId × Value → H} {w : World} {base : Nat} {spare : Nat → Bool} {held : Bool}
theorem u64_cell {n : Nat} {v : Value} {y : DataW H × List MemPlace} (h : DataW.trod enc Tryd.prog w base spare held n 22 [v] = some y) : ∃ s : Nat, v = .int .u64 s ∧ s < 18446744073709551616 ∧ y.2 = [] := by
  obtain ⟨k, h1, hx, hw⟩ := DataW.trod_int Tryd.underlying22 h
  obtain ⟨s, rfl, hs⟩ := u64_nat hw
  rw [hx]
  exact ⟨s, by simpa using h1, hs, rfl⟩
theorem bool_cell {n : Nat} {v : Value} {y : DataW H × List MemPlace} (h : DataW.trod enc Tryd.prog w base spare held n 4 [v] = some y) : ∃ b : Bool, v = .bool b ∧ y.2 = [] := by
  obtain ⟨b, h1, hx⟩ := DataW.trod_bool Tryd.underlying4 h
  rw [hx]
  exact ⟨b, by simpa using h1, rfl⟩
set_option maxRecDepth 8000 in
theorem open_expr {r : Reach} {b0 : Nat} {v : Value} {d : DataW H} {p : List MemPlace} (hv : Value.okWide Tryd.prog w r b0 24 v) (h : DataW.Trod enc Tryd.prog w base spare held 24 v d p) :
    ∃ x : Ex, v = .agg (exV x) ∧ U64s x ∧ p = [] := by
  obtain ⟨cs, rfl, hsz⟩ := okWide_struct Tryd.underlying24 hv
  obtain ⟨c0, c1, c2, c3, c4, c5, c6, c7, rfl⟩ := array8 (hsz.trans expr_cells)
  obtain ⟨fuel, hf⟩ := h
  obtain ⟨xs, n, rfl, hx, _, hlen, hel⟩ := DataW.trod_struct Tryd.underlying24 hf
  match xs, hlen with
  | [y0, y1, y2, y3, y4, y5, y6, y7], _ =>
    obtain ⟨s0, rfl, b0, q0⟩ := u64_cell (by simpa [Value.cells, c1u] using hel 0 _ rfl)
    obtain ⟨s1, rfl, b1, q1⟩ := u64_cell (by simpa [Value.cells, c1u] using hel 1 _ rfl)
    obtain ⟨s2, rfl, b2, q2⟩ := u64_cell (by simpa [Value.cells, c1u] using hel 2 _ rfl)
    obtain ⟨s3, rfl, b3, q3⟩ := u64_cell (by simpa [Value.cells, c1u] using hel 3 _ rfl)
    obtain ⟨s4, rfl, b4, q4⟩ := u64_cell (by simpa [Value.cells, c1u] using hel 4 _ rfl)
    obtain ⟨s5, rfl, b5, q5⟩ := u64_cell (by simpa [Value.cells, c1u] using hel 5 _ rfl)
    obtain ⟨e6, rfl, q6⟩ := bool_cell (by simpa [Value.cells, c1b] using hel 6 _ rfl)
    obtain ⟨e7, rfl, q7⟩ := bool_cell (by simpa [Value.cells, c1b] using hel 7 _ rfl)
    refine ⟨⟨s0, s1, s2, s3, s4, s5, e6, e7⟩, rfl, ⟨b0, b1, b2, b3, b4, b5⟩, ?_⟩
    have := congrArg Prod.snd hx
    simpa [q0, q1, q2, q3, q4, q5, q6, q7] using this
end
theorem u32_nat {a : Int} (w : (Lit.int .u32 a).wf = true) : ∃ n : Nat, a = n ∧ n < 4294967296 := by
  have h : (0 ≤ a ∧ a ≤ 4294967295) := by simpa [Lit.wf, IntKind.min, IntKind.max, IntKind.signed, IntKind.bits] using w
  exact ⟨a.toNat, by omega, by omega⟩
/-- The heap that meets the premise. -/
theorem door_met (os : Os) (args : Array Value) : laidMetH Tryd.prog lay ((World.laidAll Tryd.prog os lay).forCall (fun _ _ => 0) ⟨#[], args, []⟩).memory := by
  rw [lay_plain]
  exact laidMet_laidAll _ (by kernel_rfl) (by kernel_rfl)
end Go.Proofs.YtepoegcpfhjlpaaDoor.BW
