/- A configuration as an argument: its cells, opened. -/
import Derived.Test.YtihadbkjfocdoaaGreatDoorCJob
import Derived.Test.YtihadbkjfocdoaaGreatDoorPRow
namespace Go.Proofs.YtihadbkjfocdoaaGreatDoor.BW
open Go.ChangeShapes Go.WideShapes Go.ChangeAt Go.WideMaps Go.WideElems Go.RowKit BM MC RK Go.Joins Go.Deep

theorem lim_cells : Tryz.prog.cellsOf 24 = 2 := by kernel_rfl
theorem brk_cells : Tryz.prog.cellsOf 54 = 3 := by kernel_rfl
theorem rty_cells : Tryz.prog.cellsOf 56 = 4 := by kernel_rfl
theorem pol_cells : Tryz.prog.cellsOf 58 = 15 := by kernel_rfl
theorem job_cells : Tryz.prog.cellsOf 60 = 30 := by kernel_rfl
theorem glo_cells : Tryz.prog.cellsOf 26 = 7 := by kernel_rfl
theorem cfg_cells : Tryz.prog.cellsOf 29 = 8 := by kernel_rfl
theorem c1str : Tryz.prog.cellsOf 9 = 1 := by kernel_rfl
theorem c1jobs : Tryz.prog.cellsOf 27 = 1 := by kernel_rfl
theorem arr8' {α : Type} {cs : Array α} (h : cs.size = 8) : ∃ c0 c1 c2 c3 c4 c5 c6 c7, cs = #[c0, c1, c2, c3, c4, c5, c6, c7] := by
  obtain ⟨l⟩ := cs
  match l, h with
  | [c0, c1, c2, c3, c4, c5, c6, c7], _ => exact ⟨c0, c1, c2, c3, c4, c5, c6, c7, rfl⟩

theorem lst30 {α : Type} {cs : List α} (h : cs.length = 30) : ∃ c0 c1 c2 c3 c4 c5 c6 c7 c8 c9 c10 c11 c12 c13 c14 c15 c16 c17 c18 c19 c20 c21 c22 c23 c24 c25 c26 c27 c28 c29, cs = [c0, c1, c2, c3, c4, c5, c6, c7, c8, c9, c10, c11, c12, c13, c14, c15, c16, c17, c18, c19, c20, c21, c22, c23, c24, c25, c26, c27, c28, c29] := by
  match cs, h with
  | [c0, c1, c2, c3, c4, c5, c6, c7, c8, c9, c10, c11, c12, c13, c14, c15, c16, c17, c18, c19, c20, c21, c22, c23, c24, c25, c26, c27, c28, c29], _ => exact ⟨c0, c1, c2, c3, c4, c5, c6, c7, c8, c9, c10, c11, c12, c13, c14, c15, c16, c17, c18, c19, c20, c21, c22, c23, c24, c25, c26, c27, c28, c29, rfl⟩
section
variable {H : Type} {enc : TypeId × Value → H} {w : World} {base : Nat} {spare : Nat → Bool} {held : Bool}
theorem lim_open {n : Nat} {c0 c1 : Value} {y : DataW H × List MemPlace} (h : DataW.trod enc Tryz.prog w base spare held n 24 [c0, c1] = some y) : ∃ a b : Int, c0 = .int .i64 a ∧ c1 = .int .i64 b := by
  obtain ⟨us, n2, -, -, _, hlen, hel⟩ := DataW.trod_struct Tryz.underlying24 h
  match us, hlen with
  | [u0, u1], _ =>
    obtain ⟨a, rfl⟩ := i64_cellP (by simpa [c1l] using hel 0 _ rfl)
    obtain ⟨b, rfl⟩ := i64_cellP (by simpa [c1l] using hel 1 _ rfl)
    exact ⟨a, b, rfl, rfl⟩
theorem brk_open {n : Nat} {c0 c1 c2 : Value} {y : DataW H × List MemPlace} (h : DataW.trod enc Tryz.prog w base spare held n 54 [c0, c1, c2] = some y) : ∃ a b c : Int, c0 = .int .i64 a ∧ c1 = .int .i64 b ∧ c2 = .int .i64 c := by
  obtain ⟨us, n2, -, -, _, hlen, hel⟩ := DataW.trod_struct Tryz.underlying54 h
  match us, hlen with
  | [u0, u1, u2], _ =>
    obtain ⟨a, rfl⟩ := int_cellP (by simpa [c1i] using hel 0 _ rfl)
    obtain ⟨b, rfl⟩ := i64_cellP (by simpa [c1l] using hel 1 _ rfl)
    obtain ⟨c, rfl⟩ := int_cellP (by simpa [c1i] using hel 2 _ rfl)
    exact ⟨a, b, c, rfl, rfl, rfl⟩
theorem rty_open {n : Nat} {c0 c1 c2 c3 : Value} {y : DataW H × List MemPlace} (h : DataW.trod enc Tryz.prog w base spare held n 56 [c0, c1, c2, c3] = some y) : ∃ a b c d : Int, c0 = .int .i64 a ∧ c1 = .int .i64 b ∧ c2 = .int .i64 c ∧ c3 = .int .i64 d := by
  obtain ⟨us, n2, -, -, _, hlen, hel⟩ := DataW.trod_struct Tryz.underlying56 h
  match us, hlen with
  | [u0, u1, u2, u3], _ =>
    obtain ⟨a, rfl⟩ := int_cellP (by simpa [c1i] using hel 0 _ rfl)
    obtain ⟨b, rfl⟩ := i64_cellP (by simpa [c1l] using hel 1 _ rfl)
    obtain ⟨c, rfl⟩ := i64_cellP (by simpa [c1l] using hel 2 _ rfl)
    obtain ⟨d, rfl⟩ := i64_cellP (by simpa [c1l] using hel 3 _ rfl)
    exact ⟨a, b, c, d, rfl, rfl, rfl, rfl⟩
set_option maxRecDepth 8000 in
theorem pol_open {n : Nat} {c0 c1 c2 c3 c4 c5 c6 c7 c8 c9 c10 c11 c12 c13 c14 : Value} {y : DataW H × List MemPlace} (h : DataW.trod enc Tryz.prog w base spare held n 58 [c0, c1, c2, c3, c4, c5, c6, c7, c8, c9, c10, c11, c12, c13, c14] = some y) : ∃ y : Po, [c0, c1, c2, c3, c4, c5, c6, c7, c8, c9, c10, c11, c12, c13, c14] = (poV y).toList := by
  obtain ⟨us, n2, -, -, _, hlen, hel⟩ := DataW.trod_struct Tryz.underlying58 h
  match us, hlen with
  | [u0, u1, u2, u3, u4, u5, u6, u7, u8], _ =>
    obtain ⟨a0, rfl⟩ := int_cellP (by simpa [c1i] using hel 0 _ rfl)
    obtain ⟨a1, rfl⟩ := int_cellP (by simpa [c1i] using hel 1 _ rfl)
    obtain ⟨a2, rfl⟩ := i64_cellP (by simpa [c1l] using hel 2 _ rfl)
    obtain ⟨a3, rfl⟩ := i64_cellP (by simpa [c1l] using hel 3 _ rfl)
    obtain ⟨a4, rfl⟩ := int_cellP (by simpa [c1i] using hel 4 _ rfl)
    obtain ⟨a5, rfl⟩ := int_cellP (by simpa [c1i] using hel 5 _ rfl)
    obtain ⟨a6, a7, rfl, rfl⟩ := lim_open (by simpa [lim_cells] using hel 6 _ rfl)
    obtain ⟨a8, a9, a10, rfl, rfl, rfl⟩ := brk_open (by simpa [brk_cells] using hel 7 _ rfl)
    obtain ⟨a11, a12, a13, a14, rfl, rfl, rfl, rfl⟩ := rty_open (by simpa [rty_cells] using hel 8 _ rfl)
    exact ⟨⟨a0, a1, a2, a3, a4, a5, a6, a7, a8, a9, a10, a11, a12, a13, a14⟩, rfl⟩
set_option maxRecDepth 8000 in
theorem job_open {n : Nat} {c0 c1 c2 c3 c4 c5 c6 c7 c8 c9 c10 c11 c12 c13 c14 c15 c16 c17 c18 c19 c20 c21 c22 c23 c24 c25 c26 c27 c28 c29 : Value} {y : DataW H × List MemPlace} (h : DataW.trod enc Tryz.prog w base spare held n 60 [c0, c1, c2, c3, c4, c5, c6, c7, c8, c9, c10, c11, c12, c13, c14, c15, c16, c17, c18, c19, c20, c21, c22, c23, c24, c25, c26, c27, c28, c29] = some y) : ∃ (j : Jb) (l : List (Int × Int)), [c0, c1, c2, c3, c4, c5, c6, c7, c8, c9, c10, c11, c12, c13, c14, c15, c16, c17, c18, c19, c20, c21, c22, c23, c24, c25, c26, c27, c28, c29] = (jbV j).toList ∧ PIn w j.p l ∧ j.nm.size ≤ maxLen := by
  obtain ⟨us, n2, -, -, _, hlen, hel⟩ := DataW.trod_struct Tryz.underlying60 h
  match us, hlen with
  | [u0, u1, u2], _ =>
    obtain ⟨s, e0, _, hs⟩ := DataW.trod_string Tryz.underlying9 (by simpa [c1str] using hel 0 _ rfl : DataW.trod enc Tryz.prog w base spare held n2 9 [c0] = some u0)
    obtain rfl : c0 = .string s := by simpa using e0
    obtain ⟨p, l, e1, hp⟩ := plan_cellsP (by simpa [plan_cells] using hel 1 _ rfl : DataW.trod enc Tryz.prog w base spare held n2 52 [c1, c2, c3, c4, c5, c6, c7, c8, c9, c10, c11, c12, c13, c14] = some u1)
    obtain ⟨y, e2⟩ := pol_open (by simpa [pol_cells] using hel 2 _ rfl : DataW.trod enc Tryz.prog w base spare held n2 58 [c15, c16, c17, c18, c19, c20, c21, c22, c23, c24, c25, c26, c27, c28, c29] = some u2)
    refine ⟨⟨s, p, y⟩, l, ?_, hp, hs⟩
    have e1' : [c1, c2, c3, c4, c5, c6, c7, c8, c9, c10, c11, c12, c13, c14] = (plV p).toList := congrArg Array.toList e1
    show Value.string s :: ([c1, c2, c3, c4, c5, c6, c7, c8, c9, c10, c11, c12, c13, c14] ++ [c15, c16, c17, c18, c19, c20, c21, c22, c23, c24, c25, c26, c27, c28, c29]) = _
    rw [e1', e2]
    rfl
theorem list_choice' {α : Type} {Q : Nat → α → Prop} : ∀ n : Nat, (∀ i, i < n → ∃ x, Q i x) → ∃ L : List α, L.length = n ∧ ∀ i (hi : i < L.length), Q i L[i]
  | 0, _ => ⟨[], rfl, fun _ hi => absurd hi (Nat.not_lt_zero _)⟩
  | n + 1, h => by
    obtain ⟨L, hl, hq⟩ := list_choice' n (fun i hi => h i (by omega))
    obtain ⟨x, hx⟩ := h n (by omega)
    refine ⟨L ++ [x], by simp [hl], fun i hi => ?_⟩
    rcases Nat.lt_or_ge i L.length with h1 | h1
    · rw [List.getElem_append_left h1]; exact hq i h1
    · obtain rfl : i = L.length := by simp at hi; omega
      rw [List.getElem_append_right (Nat.le_refl _)]
      simpa [hl] using hx
set_option maxRecDepth 8000 in
theorem jobs_open {fuel : Nat} {v : Value} {y : DataW H × List MemPlace} (hf : DataW.trod enc Tryz.prog w base spare held fuel 27 [v] = some y) :
    ∃ (L : JL) (a : Option Addr) (n c : Nat), v = .slice a n c ∧ L.length = n ∧ JobsAt w a L ∧ n ≤ 9223372036854775807 ∧ n ≤ c := by
  rcases open_slice Tryz.underlying27 hf with ⟨hcs, _⟩ | ⟨x, len, cap, m, n, D, Pl', hcs, hb, hl, hm, hmm, hx, hi⟩
  · refine ⟨[], none, 0, 0, by simpa using hcs, rfl, fun k hk => absurd hk (Nat.not_lt_zero _), by decide, Nat.le_refl _⟩
  · have hml : len ≤ m := by rw [hmm]; split <;> omega
    have hmax : maxLen ≤ 9223372036854775807 := by decide
    obtain ⟨bb, off, spot⟩ := x
    have hstep : ∀ i, i < len → ∃ y : Jb × List (Int × Int), (∀ j, j < 30 → w.cell? (((⟨bb, off, spot⟩ : Addr).add (i * 30)).add j) = (jbV y.1)[j]?) ∧ PIn w y.1.p y.2 := fun i hil => by
      obtain ⟨cs', hc, ht'⟩ := hi i (by omega)
      rw [job_cells] at hc
      obtain ⟨_, hcl, hat⟩ := World.cells?_some hc
      obtain ⟨c0, c1, c2, c3, c4, c5, c6, c7, c8, c9, c10, c11, c12, c13, c14, c15, c16, c17, c18, c19, c20, c21, c22, c23, c24, c25, c26, c27, c28, c29, rfl⟩ := lst30 hcl
      obtain ⟨j, l, e, hp, _⟩ := job_open ht'
      refine ⟨(j, l), fun q hq => ?_, hp⟩
      rw [hat q hq, e, Array.getElem?_toList]
    obtain ⟨L, hL, hq⟩ := list_choice' len hstep
    have hspot : 0 < len → spot = none := fun h0 => by
      have h1 := (hq 0 (by omega)).1 0 (by decide)
      have h2 : (jbV L[0].1)[0]? = some (.string L[0].1.nm) := rfl
      rw [h2] at h1
      simpa [Addr.add] using World.cell?_spot h1
    refine ⟨L, some ⟨bb, off, spot⟩, len, cap, by simpa using hcs, hL, fun k hk => ?_, by omega, by omega⟩
    obtain rfl := hspot (by omega)
    obtain ⟨h1, h2⟩ := hq k hk
    refine ⟨bb, off, rfl, fun i hi' => ?_, h2⟩
    have := h1 i hi'
    rw [Go.Deep.add_add] at this
    rw [← this]
    congr 1
    unfold Addr.add
    split <;> simp_all <;> omega
set_option maxRecDepth 8000 in
theorem open_cfg2 {r : Reach} {b0 : Nat} {v : Value} {d : DataW H} {q : List MemPlace} (hv : Value.okWide Tryz.prog w r b0 29 v) (h : DataW.Trod enc Tryz.prog w base spare held 29 v d q) :
    ∃ (c : Cf) (L : JL), v = .agg (cfV c) ∧ CIn w c L ∧ c.n ≤ 9223372036854775807 ∧ c.n ≤ c.c := by
  obtain ⟨cs, rfl, hsz⟩ := okWide_struct Tryz.underlying29 hv
  obtain ⟨c0, c1, c2, c3, c4, c5, c6, c7, rfl⟩ := arr8' (hsz.trans cfg_cells)
  obtain ⟨fuel, hf⟩ := h
  obtain ⟨us, n2, -, -, _, hlen, hel⟩ := DataW.trod_struct Tryz.underlying29 hf
  match us, hlen with
  | [u0, u1], _ =>
    have hg : DataW.trod enc Tryz.prog w base spare held n2 26 [c0, c1, c2, c3, c4, c5, c6] = some u0 := by simpa [glo_cells, Value.cells] using hel 0 _ rfl
    obtain ⟨L, a, n, c, rfl, hL, hj, hn⟩ := jobs_open (by simpa [c1jobs, Value.cells] using hel 1 _ rfl : DataW.trod enc Tryz.prog w base spare held n2 27 [c7] = some u1)
    obtain ⟨vs, n3, -, -, _, hlen3, hel3⟩ := DataW.trod_struct Tryz.underlying26 hg
    match vs, hlen3 with
    | [v0, v1, v2, v3, v4, v5], _ =>
      obtain ⟨a0, rfl⟩ := int_cellP (by simpa [c1i] using hel3 0 _ rfl)
      obtain ⟨a1, rfl⟩ := int_cellP (by simpa [c1i] using hel3 1 _ rfl)
      obtain ⟨a2, rfl⟩ := int_cellP (by simpa [c1i] using hel3 2 _ rfl)
      obtain ⟨a3, rfl⟩ := i64_cellP (by simpa [c1l] using hel3 3 _ rfl)
      obtain ⟨a4, rfl, hb4⟩ := u64_cellP (by simpa [c1u] using hel3 4 _ rfl)
      obtain ⟨a5, a6, rfl, rfl⟩ := lim_open (by simpa [lim_cells] using hel3 5 _ rfl)
      exact ⟨⟨⟨a0, a1, a2, a3, a4, a5, a6⟩, a, n, c⟩, L, rfl, ⟨hL, hj, hb4⟩, hn⟩
set_option maxRecDepth 8000 in
theorem open_cfg {r : Reach} {b0 : Nat} {v : Value} {d : DataW H} {q : List MemPlace} (hv : Value.okWide Tryz.prog w r b0 29 v) (h : DataW.Trod enc Tryz.prog w base spare held 29 v d q) :
    ∃ (c : Cf) (L : JL), v = .agg (cfV c) ∧ CIn w c L ∧ c.n ≤ 9223372036854775807 := by
  obtain ⟨c, L, h1, h2, h3, _⟩ := open_cfg2 hv h
  exact ⟨c, L, h1, h2, h3⟩
end
end Go.Proofs.YtihadbkjfocdoaaGreatDoor.BW
