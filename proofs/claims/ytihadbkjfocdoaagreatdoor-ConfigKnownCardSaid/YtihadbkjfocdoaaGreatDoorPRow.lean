/- A plan as an argument, and a list of plans: their cells, opened. -/
import Derived.Test.YtihadbkjfocdoaaGreatDoorPWk
import Derived.Test.YtihadbkjfocdoaaGreatDoorMLaid
import Derived.Test.YtihadbkjfocdoaaGreatDoorMatI
import Derived.Lib.SmallJoins
import Derived.Deep.Slices
import Derived.Deep.Fields
import Derived.ChangeSlices
namespace Go.Proofs.YtihadbkjfocdoaaGreatDoor.BW
open Go.ChangeShapes Go.WideShapes Go.ChangeAt Go.WideMaps Go.WideElems Go.RowKit BM MC RK Go.Joins Go.Deep

theorem expr_cells : Tryz.prog.cellsOf 47 = 8 := by kernel_rfl
theorem plan_cells : Tryz.prog.cellsOf 52 = 14 := by kernel_rfl
theorem every_cells : Tryz.prog.cellsOf 49 = 3 := by kernel_rfl
theorem c1u : Tryz.prog.cellsOf 22 = 1 := by kernel_rfl
theorem c1b : Tryz.prog.cellsOf 4 = 1 := by kernel_rfl
theorem c1i : Tryz.prog.cellsOf 3 = 1 := by kernel_rfl
theorem c1l : Tryz.prog.cellsOf 2 = 1 := by kernel_rfl
theorem c1s : Tryz.prog.cellsOf 50 = 1 := by kernel_rfl
section
variable {H : Type} {enc : TypeId × Value → H} {P : Program} {w : World} {base : Nat} {spare : Nat → Bool} {held : Bool}
theorem open_slice_fields {t e : TypeId} {fs : Array Field} {fuel : Nat} {cs : List Value} {x : DataW H × List MemPlace} (ht : P.underlying t = some (.slice e)) (he : P.underlying e = some (.struct fs))
    (hone : oneCellFields P fs = true) (hC : P.cellsOf e = fs.size) (h : DataW.trod enc P w base spare held fuel t cs = some x) :
    (cs = [.slice none 0 0] ∧ x = (.nil, [])) ∨
    ∃ (a : Addr) (len cap m : Nat) (D : Nat → DataW H) (Pl : Nat → List MemPlace), cs = [.slice (some a) len cap] ∧ base ≤ a.block ∧ len ≤ cap ∧ cap ≤ maxLen ∧ m = (if spare a.block then cap else len) ∧
      x = (.slice ((List.range len).map D) ((List.range (m - len)).map fun j => D (len + j)), MemPlace.row a (m * fs.size) ++ (List.range m).flatMap Pl) ∧
      ∀ i, i < m → ∃ (ys : List (DataW H × List MemPlace)) (n : Nat), D i = .agg (ys.map (·.1)) ∧ Pl i = ys.flatMap (·.2) ∧ ys.length = fs.size ∧
        ∀ (j : Nat) (f : Field), fs[j]? = some f → ∃ (v : Value) (y : DataW H × List MemPlace), w.cell? (a.add (i * fs.size + j)) = some v ∧ ys[j]? = some y ∧ DataW.trod enc P w base spare held n f.type [v] = some y := by
  rcases open_slice ht h with h0 | ⟨a, len, cap, m, n, D, Pl, hcs, hb, hl, hm, hmm, hx, hi⟩
  · exact .inl h0
  · refine .inr ⟨a, len, cap, m, D, Pl, hcs, hb, hl, hm, hmm, by rw [hC] at hx; exact hx, fun i him => ?_⟩
    obtain ⟨cs', hc, ht'⟩ := hi i him
    rw [hC] at hc
    obtain ⟨ys, n', hn', hy, hlen, hyl, hf⟩ := DataW.trod_struct he ht'
    obtain ⟨_, hcl, hat⟩ := World.cells?_some hc
    simp only [Prod.mk.injEq] at hy
    refine ⟨ys, n', hy.1, hy.2, hyl, fun j f hj => ?_⟩
    obtain ⟨ho, hk⟩ := hone_of hone j f hj
    have hjl : j < fs.size := (Array.getElem?_eq_some_iff.1 hj).1
    have hcell := hat j hjl
    have hv : cs'[j]? = some (cs'[j]'(by omega)) := List.getElem?_eq_getElem (by omega)
    have h1 := hf j f hj
    rw [ho, hk] at h1
    have hone' : (cs'.drop j).take 1 = [cs'[j]'(by omega)] := by
      rw [List.drop_eq_getElem_cons (by omega)]
      rfl
    rw [hone'] at h1
    have hys : ys[j]? = some (ys[j]'(by omega)) := List.getElem?_eq_getElem (by omega)
    refine ⟨_, _, ?_, hys, h1.trans hys⟩
    rw [← Go.Deep.add_add, hcell, hv]
end
section
variable {H : Type} {enc : TypeId × Value → H} {w : World} {base : Nat} {spare : Nat → Bool} {held : Bool}
theorem u64_cellP {n : Nat} {v : Value} {y : DataW H × List MemPlace} (h : DataW.trod enc Tryz.prog w base spare held n 22 [v] = some y) : ∃ s : Nat, v = .int .u64 s ∧ s < 18446744073709551616 := by
  obtain ⟨k, h1, hx, hw⟩ := DataW.trod_int Tryz.underlying22 h
  obtain ⟨s, rfl, hs⟩ := u64_nat hw
  exact ⟨s, by simpa using h1, hs⟩
theorem bool_cellP {n : Nat} {v : Value} {y : DataW H × List MemPlace} (h : DataW.trod enc Tryz.prog w base spare held n 4 [v] = some y) : ∃ b : Bool, v = .bool b := by
  obtain ⟨b, h1, hx⟩ := DataW.trod_bool Tryz.underlying4 h
  exact ⟨b, by simpa using h1⟩
theorem int_cellP {n : Nat} {v : Value} {y : DataW H × List MemPlace} (h : DataW.trod enc Tryz.prog w base spare held n 3 [v] = some y) : ∃ b : Int, v = .int .i64 b := by
  obtain ⟨b, h1, -, -⟩ := DataW.trod_int Tryz.underlying3 h
  exact ⟨b, by simpa using h1⟩
theorem i64_cellP {n : Nat} {v : Value} {y : DataW H × List MemPlace} (h : DataW.trod enc Tryz.prog w base spare held n 2 [v] = some y) : ∃ b : Int, v = .int .i64 b := by
  obtain ⟨b, h1, -, -⟩ := DataW.trod_int Tryz.underlying2 h
  exact ⟨b, by simpa using h1⟩
def rdSp (W : World) (bb off i : Nat) : Int × Int :=
  ⟨match W.cell? ⟨bb, off + i * 2, none⟩ with | some (.int _ n) => n | _ => 0, match W.cell? ⟨bb, off + i * 2 + 1, none⟩ with | some (.int _ n) => n | _ => 0⟩
theorem spans_openP {n : Nat} {v : Value} {y : DataW H × List MemPlace} (h : DataW.trod enc Tryz.prog w base spare held n 50 [v] = some y) :
    ∃ (a : Option Addr) (m c : Nat) (l : List (Int × Int)), v = .slice a m c ∧ l.length = m ∧ SpansAt w a l := by
  rcases open_slice_fields Tryz.underlying50 Tryz.underlying66 (by kernel_rfl) (by kernel_rfl) h with ⟨hcs, _⟩ | ⟨x, len, c, m, D, Pl, hcs, _, hl, hm, hmm, _, hel⟩
  · exact ⟨none, 0, 0, [], by simpa using hcs, rfl, SpansAt.nil _ _⟩
  · have hml : len ≤ m := by rw [hmm]; split <;> omega
    obtain ⟨bb, off, spot⟩ := x
    have hspot : 0 < len → spot = none := fun h0 => by
      obtain ⟨ys, n, -, -, -, hfs⟩ := hel 0 (by omega)
      obtain ⟨v0, y0, c0, -, -⟩ := hfs 0 _ rfl
      simpa [Addr.add] using World.cell?_spot c0
    refine ⟨some ⟨bb, off, spot⟩, len, c, (List.range len).map fun i => rdSp w bb off i, by simpa using hcs, by simp, fun k hk => ?_⟩
    have hk' : k < len := by simpa using hk
    obtain rfl := hspot (by omega)
    have hadd : ∀ j, (⟨bb, off, none⟩ : Addr).add j = ⟨bb, off + j, none⟩ := fun j => by unfold Addr.add; split <;> simp_all
    obtain ⟨ys, n, -, -, -, hfs⟩ := hel k (by omega)
    obtain ⟨v0, y0, c0, -, t0⟩ := hfs 0 _ rfl
    obtain ⟨v1, y1, c1, -, t1⟩ := hfs 1 _ rfl
    obtain ⟨k0, rfl⟩ := i64_cellP t0
    obtain ⟨k1, rfl⟩ := i64_cellP t1
    rw [hadd] at c0 c1
    have c0 : w.cell? ⟨bb, off + k * 2, none⟩ = some (.int .i64 k0) := c0
    have c1 : w.cell? ⟨bb, off + k * 2 + 1, none⟩ = some (.int .i64 k1) := by rw [Nat.add_assoc]; exact c1
    have hr : ((List.range len).map fun i => rdSp w bb off i)[k] = (k0, k1) := by
      rw [List.getElem_map, List.getElem_range]
      simp only [rdSp, c0, c1]
    rw [hr]
    exact ⟨bb, off, rfl, c0, c1⟩
set_option maxRecDepth 8000 in
theorem plan_cellsP {fuel : Nat} {c0 c1 c2 c3 c4 c5 c6 c7 c8 c9 c10 c11 c12 c13 : Value} {y : DataW H × List MemPlace} (hf : DataW.trod enc Tryz.prog w base spare held fuel 52 [c0, c1, c2, c3, c4, c5, c6, c7, c8, c9, c10, c11, c12, c13] = some y) :
    ∃ (p : Pl) (l : List (Int × Int)), #[c0, c1, c2, c3, c4, c5, c6, c7, c8, c9, c10, c11, c12, c13] = plV p ∧ PIn w p l := by
  obtain ⟨xs, n, -, -, _, hlen, hel⟩ := DataW.trod_struct Tryz.underlying52 hf
  match xs, hlen with
  | [z0, z1, z2, z3, z4], _ =>
    obtain ⟨k, rfl⟩ := int_cellP (by simpa [c1i] using hel 0 _ rfl)
    have hx : DataW.trod enc Tryz.prog w base spare held n 47 [c1, c2, c3, c4, c5, c6, c7, c8] = some z1 := by simpa [expr_cells] using hel 1 _ rfl
    obtain ⟨z, rfl⟩ := int_cellP (by simpa [c1i] using hel 2 _ rfl)
    have he : DataW.trod enc Tryz.prog w base spare held n 49 [c10, c11, c12] = some z3 := by simpa [every_cells] using hel 3 _ rfl
    obtain ⟨a, m, c, l, rfl, hl, hs⟩ := spans_openP (by simpa [c1s] using hel 4 _ rfl)
    obtain ⟨us, n2, -, -, _, hlen2, hel2⟩ := DataW.trod_struct Tryz.underlying47 hx
    obtain ⟨vs, n3, -, -, _, hlen3, hel3⟩ := DataW.trod_struct Tryz.underlying49 he
    match us, hlen2, vs, hlen3 with
    | [u0, u1, u2, u3, u4, u5, u6, u7], _, [v0, v1, v2], _ =>
      obtain ⟨s0, rfl, b0⟩ := u64_cellP (by simpa [c1u] using hel2 0 _ rfl)
      obtain ⟨s1, rfl, b1⟩ := u64_cellP (by simpa [c1u] using hel2 1 _ rfl)
      obtain ⟨s2, rfl, b2⟩ := u64_cellP (by simpa [c1u] using hel2 2 _ rfl)
      obtain ⟨s3, rfl, b3⟩ := u64_cellP (by simpa [c1u] using hel2 3 _ rfl)
      obtain ⟨s4, rfl, b4⟩ := u64_cellP (by simpa [c1u] using hel2 4 _ rfl)
      obtain ⟨s5, rfl, b5⟩ := u64_cellP (by simpa [c1u] using hel2 5 _ rfl)
      obtain ⟨e6, rfl⟩ := bool_cellP (by simpa [c1b] using hel2 6 _ rfl)
      obtain ⟨e7, rfl⟩ := bool_cellP (by simpa [c1b] using hel2 7 _ rfl)
      obtain ⟨g0, rfl⟩ := i64_cellP (by simpa [c1l] using hel3 0 _ rfl)
      obtain ⟨g1, rfl⟩ := i64_cellP (by simpa [c1l] using hel3 1 _ rfl)
      obtain ⟨g2, rfl⟩ := int_cellP (by simpa [c1i] using hel3 2 _ rfl)
      exact ⟨⟨k, ⟨s0, s1, s2, s3, s4, s5, e6, e7⟩, z, ⟨g0, g1, g2⟩, a, m, c⟩, l, rfl, ⟨⟨b0, b1, b2, b3, b4, b5⟩, hl, hs⟩⟩
end
theorem door_met (os : Os) (args : Array Value) : laidMetH Tryz.prog lay ((World.laidAll Tryz.prog os lay).forCall (fun _ _ => 0) ⟨#[], args, []⟩).memory := by
  rw [lay_plain]
  exact laidMet_laidAll _ (by kernel_rfl) (by kernel_rfl)
end Go.Proofs.YtihadbkjfocdoaaGreatDoor.BW
