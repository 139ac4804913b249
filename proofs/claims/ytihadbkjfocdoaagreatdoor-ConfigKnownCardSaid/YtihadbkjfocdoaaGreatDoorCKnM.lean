/- ConfigKnown: its configurations, as plain facts. -/
import Derived.Test.YtihadbkjfocdoaaGreatDoorCNamesW
import Derived.Laws.MakeOwn
namespace Go.Proofs.YtihadbkjfocdoaaGreatDoor.BW
open Go.RowKit BM Go.Shelf MC RK
open BK hiding ret_bool ret_i64

def wrG : List Gl := [⟨1001, 10, 10, 60, 0, 0, 0⟩, ⟨(-1), 10, 10, 60, 0, 0, 0⟩, ⟨2, 0, 10, 60, 0, 0, 0⟩, ⟨2, 10, (-1), 60, 0, 0, 0⟩, ⟨2, 10, 4097, 60, 0, 0, 0⟩, ⟨2, 10, 10, 0, 0, 0, 0⟩, ⟨2, 10, 10, 68719476737, 0, 0, 0⟩, ⟨2, 10, 10, 60, 0, (-1), 0⟩, ⟨2, 10, 10, 60, 0, 1, 68719476737⟩]
theorem wrG_bad : ∀ k (hk : k < wrG.length), glB wrG[k] = false := fun k hk => by
  have h : (wrG.all fun g => !glB g) = true := by decide +kernel
  have := List.all_eq_true.1 h _ (List.getElem_mem hk)
  simpa using this
def wrC : Array Value := #[.int .i64 1001, .int .i64 10, .int .i64 10, .int .i64 60, .int .u64 0, .int .i64 0, .int .i64 0, .int .i64 (-1), .int .i64 10, .int .i64 10, .int .i64 60, .int .u64 0, .int .i64 0, .int .i64 0, .int .i64 2, .int .i64 0, .int .i64 10, .int .i64 60, .int .u64 0, .int .i64 0, .int .i64 0, .int .i64 2, .int .i64 10, .int .i64 (-1), .int .i64 60, .int .u64 0, .int .i64 0, .int .i64 0, .int .i64 2, .int .i64 10, .int .i64 4097, .int .i64 60, .int .u64 0, .int .i64 0, .int .i64 0, .int .i64 2, .int .i64 10, .int .i64 10, .int .i64 0, .int .u64 0, .int .i64 0, .int .i64 0, .int .i64 2, .int .i64 10, .int .i64 10, .int .i64 68719476737, .int .u64 0, .int .i64 0, .int .i64 0, .int .i64 2, .int .i64 10, .int .i64 10, .int .i64 60, .int .u64 0, .int .i64 (-1), .int .i64 0, .int .i64 2, .int .i64 10, .int .i64 10, .int .i64 60, .int .u64 0, .int .i64 1, .int .i64 68719476737]
theorem wrC_at : ∀ k (hk : k < wrG.length), ∀ j, j < 7 → wrC[k * 7 + j]? = (glV wrG[k])[j]? := fun k hk j hj => by
  have hk9 : k < 9 := hk
  obtain rfl | rfl | rfl | rfl | rfl | rfl | rfl | rfl | rfl : k = 0 ∨ k = 1 ∨ k = 2 ∨ k = 3 ∨ k = 4 ∨ k = 5 ∨ k = 6 ∨ k = 7 ∨ k = 8 := by omega
  all_goals
    obtain rfl | rfl | rfl | rfl | rfl | rfl | rfl : j = 0 ∨ j = 1 ∨ j = 2 ∨ j = 3 ∨ j = 4 ∨ j = 5 ∨ j = 6 := by omega
    all_goals rfl
/-- The globals at their limits. -/
def kG : Gl := ⟨1, 1, 0, 1, 18446744073709551615, 1, 68719476736⟩
theorem kG_ok : glB kG = true := by decide +kernel
/-- A job that make makes. -/
def jZ : Jb := ⟨ByteArray.empty, pNo, ⟨0, 0, 0, 0, 0, 0, 0, 0, 0, 0, 0, 0, 0, 0, 0⟩⟩
theorem jZ_cells : jbV jZ = zJ := rfl
def z65 : JL := List.replicate 65 (jZ, [])
theorem z65_get {k : Nat} (hk : k < z65.length) : z65[k] = (jZ, []) := List.getElem_replicate ..
theorem cfE_bad65 {g : Gl} (h : glB g = false) : cfE g z65 = 16 := cfE_g h
theorem cfE_many65 : cfE kG z65 = 12 := cfE_many kG_ok (by decide)
theorem madeJ_at (m j : Nat) (hj : j < m * 30) : (madeCells (Value.agg zJ).cells (m * 30))[j]? = zJ[j % 30]? := by
  have h30 : (Value.agg zJ).cells = zJ := by kernel_rfl
  rw [h30]
  have hs : zJ.size = 30 := rfl
  have hl : j % 30 < zJ.size := by rw [hs]; omega
  unfold madeCells
  simp only [Array.getElem?_map, hs]
  rw [Array.getElem?_range, if_pos hj, Option.map_some, Array.getElem?_eq_getElem hl, getElem!_pos zJ (j % 30) hl]
set_option maxRecDepth 10000 in
theorem mk_jobs (w : World) : (Instr.makeSlice 27 (.int .i64 65) (.int .i64 65)).run Tryz.prog w = .ok (.slice (some ⟨w.heap.size, 0, none⟩) 65 65) (w.alloc (.cells (madeCells (Value.agg zJ).cells (65 * 30)) 60)) := by
  obtain ⟨i0, hi0, hz0, hz1, hz2⟩ := info_parts info_job
  have h := run_makeSlice (P := Tryz.prog) w 27 60 i0 (.agg zJ) Tryz.underlying27 hi0 hz0 .i64 .i64 65 65 (by decide) (by decide) (by rw [hz1]; decide) (by rw [hz2]; decide) (by decide)
  rw [hz1] at h
  exact h
theorem jobs_65 {w : World} {E : Nat} (hE : Blk w E 60 (madeCells (Value.agg zJ).cells (65 * 30))) : JobsAt w (some ⟨E, 0, none⟩) z65 := fun k hk => by
  have hk' : k < 65 := by simpa [z65] using hk
  refine ⟨E, 0, rfl, fun i hi => ?_, ?_⟩
  · rw [Nat.zero_add, hE.cell, madeJ_at 65 _ (by omega), show (k * 30 + i) % 30 = i by omega]
    rw [z65_get, jZ_cells]
  · rw [z65_get]
    exact PIn.plain u64_zX rfl
theorem arg_65 {w : World} {E : Nat} (g : Gl) (hsd : g.sd < 18446744073709551616) (hE : JobsAt w (some ⟨E, 0, none⟩) z65) (h1 : SpTab w) (h2 : Tab w) : CArg w ⟨g, some ⟨E, 0, none⟩, 65, 65⟩ z65 :=
  ⟨⟨by simp [z65], hE, hsd⟩, (show (65 : Nat) ≤ 200 by decide), fun k hk => by
    rw [z65_get]
    exact (show (0 : Nat) ≤ 200 by decide), h1, h2⟩
theorem arg_none {w : World} (h1 : SpTab w) (h2 : Tab w) : CArg w ⟨kG, none, 0, 0⟩ [] :=
  ⟨⟨rfl, fun k hk => absurd hk (Nat.not_lt_zero _), by decide⟩, (show (0 : Nat) ≤ 200 by decide), fun k hk => absurd hk (Nat.not_lt_zero _), h1, h2⟩
theorem kG_empty : CfOk kG [] where
  gl := kG_ok
  many := by decide
  nms := fun k hk => absurd hk (Nat.not_lt_zero _)
  new := fun i hi => absurd hi (Nat.not_lt_zero _)
  all := fun k hk => absurd hk (Nat.not_lt_zero _)
theorem cdE_none : cdE kG [] 0 = 0 := by unfold cdE; rw [if_pos (cfE_zero.2 kG_empty), if_pos (show vT 0 = true from rfl)]
theorem cnS_none : cnS kG [] 0 = (none, []) := by unfold cnS; rw [if_pos cdE_none]; rfl
theorem cdE_bad {t : Int} (h : vT t = false) : cdE exG exL t = 14 := by unfold cdE; rw [if_pos (cfE_zero.2 exOk), if_neg (by rw [h]; simp)]
theorem cdV_0 : cdV exG exL 0 = [] := by
  unfold cdV
  rw [if_pos (cdE_ex (show vT 0 = true from rfl)), plans_ex]
  simp only [dueA, isP_pEv, isP_pNo]
  decide +kernel
theorem nx_A70 : nxQ (pEv 10 60) [] 70 = some 130 := nx_ev pl_exA (by decide) (by decide) (by decide +kernel) (fun m m1 m2 => by
  have h : ∀ k : Fin 59, (⟨10, 60, 0⟩ : Ev).has (71 + (k.val : Int)) = false := by decide +kernel
  have h2 := h ⟨(m - 71).toNat, by omega⟩
  have e : (71 : Int) + ((m - 71).toNat : Int) = m := by omega
  simp only [e] at h2
  exact h2)
theorem nx_B70 : nxQ (pEv 70 90) [] 70 = some 160 := nx_ev pl_exB (by decide) (by decide) (by decide +kernel) (fun m m1 m2 => by
  have h : ∀ k : Fin 89, (⟨70, 90, 0⟩ : Ev).has (71 + (k.val : Int)) = false := by decide +kernel
  have h2 := h ⟨(m - 71).toNat, by omega⟩
  have e : (71 : Int) + ((m - 71).toNat : Int) = m := by omega
  simp only [e] at h2
  exact h2)
theorem cnS_70 : cnS exG exL 70 = (some 130, [0]) := by
  unfold cnS
  rw [if_pos (cdE_ex (by decide)), plans_ex]
  show nxA 70 [(pEv 10 60, []), (pEv 70 90, []), (pNo, [])] 3 = _
  rw [nxA_succ (k := 2) (p := pNo) (l := []) rfl, nxA_succ (k := 1) (p := pEv 70 90) (l := []) rfl, nxA_succ (k := 0) (p := pEv 10 60) (l := []) rfl, nx_A70, nx_B70, nx_no (by decide)]
  rfl
theorem fd_x : fdI exL ⟨#[120]⟩ = 0 ∧ fdB exL ⟨#[120]⟩ = false := by decide +kernel
/-- Jobs without spans. -/
def PlainJ (L : JL) : Prop := ∀ k (hk : k < L.length), U64s L[k].1.p.x ∧ L[k].1.p.n = 0 ∧ L[k].2 = []
theorem plain_ex : PlainJ exL := fun k hk => by
  have hk3 : k < 3 := hk
  obtain rfl | rfl | rfl : k = 0 ∨ k = 1 ∨ k = 2 := by omega
  all_goals exact ⟨u64_zX, rfl, rfl⟩
theorem SameJ.plain {L L' : JL} (h : SameJ L L') (hp : PlainJ L) : PlainJ L' := fun k hk' => by
  have hk : k < L.length := by rw [← h.len]; exact hk'
  obtain ⟨a, c, e⟩ := h.at_ k hk hk'
  rw [e]; exact hp k hk
theorem PlainJ.set {L : JL} (h : PlainJ L) {k : Nat} (hk : k < L.length) {y : Jb × List (Int × Int)} (hy : y.1.p = L[k].1.p ∧ y.2 = L[k].2) : PlainJ (L.set k y) := fun i hi => by
  have hi' : i < L.length := by simpa using hi
  by_cases e : k = i
  · subst e
    rw [List.getElem_set_self, hy.1, hy.2]; exact h k hk
  · rw [List.getElem_set_ne e]; exact h i hi'
theorem row_arg {W : World} {g cap : Nat} {M : JL} (hr : RowC W g M) (hp : PlainJ M) (hn : M.length = 3) (h1 : SpTab W) (h2 : Tab W) : CArg W ⟨exG, some ⟨g, 0, none⟩, 3, cap⟩ M :=
  ⟨⟨hn, fun k hk => ⟨g, 0, rfl, fun i hi => by rw [Nat.zero_add]; exact (hr k hk i hi).1, by rw [(hp k hk).2.2]; exact PIn.plain (hp k hk).1 (hp k hk).2.1⟩, (show (0 : Nat) < 18446744073709551616 by decide)⟩, (show (3 : Nat) ≤ 200 by decide), fun k hk => by rw [(hp k hk).2.1]; decide, h1, h2⟩
/-- A name is written. -/
def nmJ (L : JL) (k : Nat) (s : ByteArray) (hk : k < L.length) : JL := L.set k (⟨s, L[k].1.p, L[k].1.y⟩, L[k].2)
theorem RowC.setN {W : World} {g : Nat} {L : JL} (h : RowC W g L) {k : Nat} (hk : k < L.length) (s : ByteArray) : RowC (W.setCell ⟨g, k * 30, none⟩ (.string s)) g (nmJ L k s hk) := fun i hi m hm => by
  unfold nmJ at hi ⊢
  have hi' : i < L.length := by simpa using hi
  refine ⟨?_, by rw [World.frozen?_setCell]; exact (h i hi' m hm).2⟩
  have hold := (h i hi' m hm).1
  by_cases e : k = i
  · subst e
    rw [List.getElem_set_self]
    by_cases e2 : m = 0
    · subst e2
      rw [Array.getElem?_eq_getElem (show 0 < (jbV L[k].1).size from (show 0 < 30 by decide))] at hold
      rw [Nat.add_zero] at hold ⊢
      rw [World.cell?_setCell_same _ _ _ hold]; rfl
    · rw [World.cell?_setCell_other _ _ _ _ (by simp <;> omega), hold]
      obtain rfl | rfl | rfl | rfl | rfl | rfl | rfl | rfl | rfl | rfl | rfl | rfl | rfl | rfl | rfl | rfl | rfl | rfl | rfl | rfl | rfl | rfl | rfl | rfl | rfl | rfl | rfl | rfl | rfl : m = 1 ∨ m = 2 ∨ m = 3 ∨ m = 4 ∨ m = 5 ∨ m = 6 ∨ m = 7 ∨ m = 8 ∨ m = 9 ∨ m = 10 ∨ m = 11 ∨ m = 12 ∨ m = 13 ∨ m = 14 ∨ m = 15 ∨ m = 16 ∨ m = 17 ∨ m = 18 ∨ m = 19 ∨ m = 20 ∨ m = 21 ∨ m = 22 ∨ m = 23 ∨ m = 24 ∨ m = 25 ∨ m = 26 ∨ m = 27 ∨ m = 28 ∨ m = 29 := by omega
      all_goals rfl
  · rw [List.getElem_set_ne e, ← hold]
    exact World.cell?_setCell_other _ _ _ _ (by simp <;> omega)
theorem nm_same {L' : JL} (h : SameJ exL L') {k : Nat} (hk : k < exL.length) (hk' : k < L'.length) : L'[k].1.nm = exL[k].1.nm := by
  obtain ⟨a, c, e⟩ := h.at_ k hk hk'
  rw [e]; rfl
theorem nmJ_len {L : JL} {k : Nat} {s : ByteArray} (hk : k < L.length) : (nmJ L k s hk).length = L.length := by unfold nmJ; simp
theorem nmJ_nm {L : JL} {k : Nat} {s : ByteArray} (hk : k < L.length) {i : Nat} (hi : i < (nmJ L k s hk).length) (hi' : i < L.length) : (nmJ L k s hk)[i].1.nm = if i = k then s else L[i].1.nm := by
  unfold nmJ at hi ⊢
  by_cases e : i = k
  · subst e
    rw [List.getElem_set_self, if_pos rfl]
  · rw [List.getElem_set_ne (fun e' => e e'.symm), if_neg e]
theorem nmJ_plain {L : JL} {k : Nat} {s : ByteArray} (hk : k < L.length) (h : PlainJ L) : PlainJ (nmJ L k s hk) := h.set hk ⟨rfl, rfl⟩
theorem twice_have {L' : JL} (h : SameJ exL L') (hk : 1 < L'.length) : cfE exG (nmJ L' 1 ⟨#[97]⟩ hk) = 6 := by
  have hl : L'.length = 3 := h.len
  have hl1 : (nmJ L' 1 ⟨#[97]⟩ hk).length = 3 := by rw [nmJ_len, hl]
  refine cfE_have (i := 1) exOk.gl (by omega) (fun k hk2 => ?_) (by omega) (fun hh => ?_)
  · have hk3 : k < 3 := by omega
    rw [nmJ_nm hk hk2 (by omega)]
    by_cases e : k = 1
    · rw [if_pos e]; decide
    · rw [if_neg e, nm_same h (show k < exL.length from hk3) (by omega)]
      exact ex_nm _ (List.getElem_mem _)
  · refine hh 0 (by omega) (by omega) (by decide) ?_
    rw [nmJ_nm hk (by omega) (by omega), nmJ_nm hk (by omega) (by omega), if_neg (by decide), if_pos rfl, nm_same h (show 0 < exL.length by decide) (by omega)]
    rfl
theorem twice_name {L' : JL} (h : SameJ exL L') (hk : 1 < L'.length) (hk2 : 2 < (nmJ L' 1 ⟨#[97]⟩ hk).length) : cfE exG (nmJ (nmJ L' 1 ⟨#[97]⟩ hk) 2 ByteArray.empty hk2) = 15 := by
  have hl : L'.length = 3 := h.len
  have hl1 : (nmJ L' 1 ⟨#[97]⟩ hk).length = 3 := by rw [nmJ_len, hl]
  have hl2 : (nmJ (nmJ L' 1 ⟨#[97]⟩ hk) 2 ByteArray.empty hk2).length = 3 := by rw [nmJ_len, hl1]
  refine cfE_name exOk.gl (by omega) (fun hh => ?_)
  have := hh 2 (by omega)
  rw [nmJ_nm hk2 (by omega) (by omega), if_pos rfl] at this
  revert this
  decide
theorem cdE_err {g : Gl} {L : JL} {E : Int} (h : cfE g L = E) (hE : E ≠ 0) (t : Int) : cdE g L t = E := by rw [(cd_bad (by rw [h]; exact hE) t).1, h]
theorem ints_one1 (W : World) (x : Int) : IntsAt (W.alloc (.cells #[.int .i64 x] 3)) (some ⟨W.heap.size, 0, none⟩) [x] := fun k hk => by
  have : k = 0 := by simpa using hk
  subst this
  exact ⟨W.heap.size, 0, rfl, (Blk.new W _ _).cell 0⟩
end Go.Proofs.YtihadbkjfocdoaaGreatDoor.BW

