/- What came in, opened: a rule, a slice of numbers, a slice of steps. -/
import Derived.Test.YtfeblkoconjakaaRows
import Derived.Test.YtfeblkoconjakaaRowKit
import Derived.Test.YtfeblkoconjakaaBrkSteps
import Derived.Lib.SmallJoins
import Derived.Deep.Slices
import Derived.Deep.Fields
import Derived.ChangeSlices
namespace Go.Proofs.Ytfeblkoconjakaa.BK
open Go.ChangeShapes Go.WideShapes Go.ChangeAt Go.WideMaps Go.WideElems Go.RowKit Go.Joins Go.Deep

section
variable {H : Type} {enc : TypeId × Value → H} {P : Program} {w : World} {base : Nat} {spare : Nat → Bool} {held : Bool}
theorem open_slice_fields {t e : TypeId} {fs : Array Field} {fuel : Nat} {cs : List Value} {x : DataW H × List MemPlace} (ht : P.underlying t = some (.slice e)) (he : P.underlying e = some (.struct fs))
    (hone : oneCellFields P fs = true) (hC : P.cellsOf e = fs.size) (h : DataW.trod enc P w base spare held fuel t cs = some x) :
    (cs = [.slice none 0 0] ∧ x = (.nil, [])) ∨
    ∃ (a : Addr) (len cap m : Nat) (D : Nat → DataW H) (Pl : Nat → List MemPlace), cs = [.slice (some a) len cap] ∧ base ≤ a.block ∧ len ≤ cap ∧ cap ≤ maxLen ∧ m = (if spare a.block then cap else len) ∧
      x = (.slice ((List.range len).map D) ((List.range (m - len)).map fun j => D (len + j)), MemPlace.row a (m * fs.size) ++ (List.range m).flatMap Pl) ∧
      ∀ i, i < m → ∃ (ys : List (DataW H × List MemPlace)) (n : Nat), D i = .agg (ys.map (·.1)) ∧ Pl i = ys.flatMap (·.2) ∧ ys.length = fs.size ∧
        ∀ (j : Nat) (f : Field), fs[j]? = some f → ∃ (v : Value) (y : DataW H × List MemPlace), w.cell? (a.add (i * fs.size + j)) = some v ∧ ys[j]? = some y ∧ DataW.trod enc P w base spare held n f.type [v] = some y := by
  rcases open_slice ht h with h0 | ⟨a, len, cap, m, n, D, Pl, hcs, hb, hl, hm, hmm, hx, hi⟩
  · exact .inl h0
  · refine .inr ⟨a, len, cap, m, D, Pl, hcs, hb, hl, hm, hmm, by rw [hC] at hx; exact hx, fun i him => ?_⟩
    obtain ⟨cs', hc, ht'⟩ := hi i him
    rw [hC] at hc
    obtain ⟨ys, n', hn', hy, hlen, hyl, hf⟩ := DataW.trod_struct he ht'
    obtain ⟨_, hcl, hat⟩ := World.cells?_some hc
    simp only [Prod.mk.injEq] at hy
    refine ⟨ys, n', hy.1, hy.2, hyl, fun j f hj => ?_⟩
    obtain ⟨ho, hk⟩ := hone_of hone j f hj
    have hjl : j < fs.size := (Array.getElem?_eq_some_iff.1 hj).1
    have hcell := hat j hjl
    have hv : cs'[j]? = some (cs'[j]'(by omega)) := List.getElem?_eq_getElem (by omega)
    have h1 := hf j f hj
    rw [ho, hk] at h1
    have hone' : (cs'.drop j).take 1 = [cs'[j]'(by omega)] := by
      rw [List.drop_eq_getElem_cons (by omega)]
      rfl
    rw [hone'] at h1
    have hys : ys[j]? = some (ys[j]'(by omega)) := List.getElem?_eq_getElem (by omega)
    refine ⟨_, _, ?_, hys, h1.trans hys⟩
    rw [← Go.Deep.add_add, hcell, hv]
end
theorem own : ownKnob Try.prog.godebug = none := by kernel_rfl
section
variable {H : Type} {enc : TypeId × Value → H} {W : World} {sp : Nat → Bool} {b b0 : Nat} {held : Bool} {d : DataW H} {p : List MemPlace} {r : Reach} {v : Value}
theorem rule_open (hv : Value.okWide Try.prog W r b0 23 v) (h : DataW.Trod enc Try.prog W b sp held 23 v d p) : ∃ f o q : Int, v = .agg #[.int .i64 f, .int .i64 o, .int .i64 q] := by
  obtain ⟨v0, v1, v2, y0, y1, y2, n, rfl, -, -, h0, h1, h2⟩ := open_agg3 Try.underlying23 (by kernel_rfl) (by kernel_rfl) hv h
  obtain ⟨f, e0, -, -⟩ := DataW.trod_int Try.underlying3 h0
  obtain ⟨o, e1, -, -⟩ := DataW.trod_int Try.underlying2 h1
  obtain ⟨q, e2, -, -⟩ := DataW.trod_int Try.underlying3 h2
  obtain rfl : v0 = .int .i64 f := by simpa using e0
  obtain rfl : v1 = .int .i64 o := by simpa using e1
  obtain rfl : v2 = .int .i64 q := by simpa using e2
  exact ⟨f, o, q, rfl⟩
theorem nums_open {K : IntKind} {t e : TypeId} (ht : Try.prog.underlying t = some (.slice e)) (he : Try.prog.underlying e = some (.int K)) (hc1 : Try.prog.cellsOf e = 1) {a : Option Addr} {len cap : Nat}
    (h : DataW.Trod enc Try.prog W b sp held t (.slice a len cap) d p) : ∃ xs : List Int, len = xs.length ∧ xs.length ≤ 9223372036854775807 ∧ NumsAt K W a xs ∧ ∀ n ∈ xs, (Lit.int K n).wf = true := by
  obtain ⟨fuel, hf⟩ := h
  rcases open_ints ht he hc1 hf with ⟨hcs, _⟩ | ⟨x, l, c, zs, hcs, _, hl, hm, hz, _, hcell, hwz⟩
  · simp [Value.cells] at hcs
    obtain ⟨rfl, rfl, rfl⟩ := hcs
    exact ⟨[], rfl, by simp, (fun k hk => by simp at hk), by simp⟩
  · simp [Value.cells] at hcs
    obtain ⟨rfl, rfl, rfl⟩ := hcs
    have hz' : len ≤ zs.length ∧ zs.length ≤ cap := by rw [hz]; split <;> omega
    refine ⟨zs.take len, ?_, ?_, ?_, fun n hn => hwz n (List.mem_of_mem_take hn)⟩
    · simp; omega
    · have : maxLen ≤ 9223372036854775807 := by decide
      simp; omega
    · intro k hk
      have hk' : k < len ∧ k < zs.length := by simpa [List.length_take, Nat.lt_min] using hk
      have hc := hcell k hk'.2
      obtain ⟨bb, off, spot⟩ := x
      have hspot : spot = none := by
        have h0 := hcell 0 (by omega)
        simpa [Addr.add] using World.cell?_spot h0
      subst hspot
      rw [show (⟨bb, off, none⟩ : Addr).add k = ⟨bb, off + k, none⟩ from by unfold Addr.add; split <;> simp_all] at hc
      refine ⟨bb, off, rfl, World.block_lt_of_cell? W _ hc, ?_⟩
      rw [List.getElem_take, hc]
      simp [List.getD_eq_getElem?_getD, List.getElem?_eq_getElem hk'.2]
def rdSt (W : World) (bb off i : Nat) : St :=
  ⟨match W.cell? ⟨bb, off + i * 3, none⟩ with | some (.int _ n) => n | _ => 0, match W.cell? ⟨bb, off + i * 3 + 1, none⟩ with | some (.bool c) => c | _ => false, match W.cell? ⟨bb, off + i * 3 + 2, none⟩ with | some (.int _ n) => n | _ => 0⟩
theorem steps_open {a : Option Addr} {len cap : Nat} (h : DataW.Trod enc Try.prog W b sp held 43 (.slice a len cap) d p) :
    ∃ xs : List St, len = xs.length ∧ xs.length ≤ 9223372036854775807 ∧ StepsAt W a xs := by
  obtain ⟨fuel, hf⟩ := h
  rcases open_slice_fields Try.underlying43 Try.underlying48 (by kernel_rfl) (by kernel_rfl) hf with ⟨hcs, _⟩ | ⟨x, l, c, m, D, Pl, hcs, _, hl, hm, hmm, _, hel⟩
  · simp [Value.cells] at hcs
    obtain ⟨rfl, rfl, rfl⟩ := hcs
    exact ⟨[], rfl, by simp, fun k hk => by simp at hk⟩
  · simp [Value.cells] at hcs
    obtain ⟨rfl, rfl, rfl⟩ := hcs
    have hml : len ≤ m := by rw [hmm]; split <;> omega
    have hmax : maxLen ≤ 9223372036854775807 := by decide
    obtain ⟨bb, off, spot⟩ := x
    have hspot : 0 < len → spot = none := fun h0 => by
      obtain ⟨ys, n, -, -, -, hfs⟩ := hel 0 (by omega)
      obtain ⟨v0, y0, c0, -, -⟩ := hfs 0 _ rfl
      simpa [Addr.add] using World.cell?_spot c0
    refine ⟨(List.range len).map fun i => rdSt W bb off i, by simp, by simp; omega, fun k hk => ?_⟩
    have hk' : k < len := by simpa using hk
    obtain rfl := hspot (by omega)
    have hadd : ∀ j, (⟨bb, off, none⟩ : Addr).add j = ⟨bb, off + j, none⟩ := fun j => by unfold Addr.add; split <;> simp_all
    obtain ⟨ys, n, -, -, -, hfs⟩ := hel k (by omega)
    obtain ⟨v0, y0, c0, -, t0⟩ := hfs 0 _ rfl
    obtain ⟨v1, y1, c1, -, t1⟩ := hfs 1 _ rfl
    obtain ⟨v2, y2, c2, -, t2⟩ := hfs 2 _ rfl
    obtain ⟨k0, e0, -⟩ := DataW.trod_int Try.underlying3 t0
    obtain ⟨k1, e1, -⟩ := DataW.trod_bool Try.underlying4 t1
    obtain ⟨k2, e2, -⟩ := DataW.trod_int Try.underlying2 t2
    obtain rfl : v0 = .int .i64 k0 := by simpa using e0
    obtain rfl : v1 = .bool k1 := by simpa using e1
    obtain rfl : v2 = .int .i64 k2 := by simpa using e2
    rw [hadd] at c0 c1 c2
    have c0 : W.cell? ⟨bb, off + k * 3, none⟩ = some (.int .i64 k0) := c0
    have c1 : W.cell? ⟨bb, off + k * 3 + 1, none⟩ = some (.bool k1) := by rw [Nat.add_assoc]; exact c1
    have c2 : W.cell? ⟨bb, off + k * 3 + 2, none⟩ = some (.int .i64 k2) := by rw [Nat.add_assoc]; exact c2
    have hr : ((List.range len).map fun i => rdSt W bb off i)[k] = ⟨k0, k1, k2⟩ := by
      rw [List.getElem_map, List.getElem_range]
      simp only [rdSt, c0, c1, c2]
    rw [hr]
    exact ⟨bb, off, rfl, World.block_lt_of_cell? W _ c0, c0, c1, c2⟩
theorem step_open (hv : Value.okWide Try.prog W r b0 48 v) (h : DataW.Trod enc Try.prog W b sp held 48 v d p) : ∃ s : St, v = .agg #[.int .i64 s.what, .bool s.ok, .int .i64 s.at_] := by
  obtain ⟨v0, v1, v2, y0, y1, y2, n, rfl, -, -, h0, h1, h2⟩ := open_agg3 Try.underlying48 (by kernel_rfl) (by kernel_rfl) hv h
  obtain ⟨f, e0, -, -⟩ := DataW.trod_int Try.underlying3 h0
  obtain ⟨o, e1, -⟩ := DataW.trod_bool Try.underlying4 h1
  obtain ⟨q, e2, -, -⟩ := DataW.trod_int Try.underlying2 h2
  obtain rfl : v0 = .int .i64 f := by simpa using e0
  obtain rfl : v1 = .bool o := by simpa using e1
  obtain rfl : v2 = .int .i64 q := by simpa using e2
  exact ⟨⟨f, o, q⟩, rfl⟩
end
end Go.Proofs.Ytfeblkoconjakaa.BK
