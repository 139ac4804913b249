/- The law's examples ('works') hold. -/
import Derived.Test.YtcgnnmpgdnajnaaDoorBitsRunsW
namespace Go.Proofs.YtcgnnmpgdnajnaaDoor.BW
open Go.RowKit BM

theorem below_drewN {B : Nat} {a w : World} (h : Below B a w) (n : Nat) : Below B a (w.drewN n) := ⟨h.os, h.tape, h.output, h.size, h.block⟩
theorem OwnsR.drew {B : Nat} {v : Value} {rs : List Run} {w : World} (h : OwnsR B v rs w) : OwnsR B v rs w.drew := h
theorem OwnsR.drewN {B : Nat} {v : Value} {rs : List Run} {w : World} (h : OwnsR B v rs w) (n : Nat) : OwnsR B v rs (w.drewN n) := h

theorem cellsR_len (rs : List Run) : (cellsR rs).length = rs.length * 3 := by
  induction rs with
  | nil => rfl
  | cons r rs ih => simp only [cellsR, List.flatMap_cons, List.length_append, List.length_cons, List.length_nil] at *; omega
theorem cellsR_get (rs : List Run) : ∀ k (h : k < rs.length), (cellsR rs)[k * 3]? = some (.int .i64 rs[k].lo) ∧ (cellsR rs)[k * 3 + 1]? = some (.int .i64 rs[k].hi) ∧ (cellsR rs)[k * 3 + 2]? = some (.int .i64 rs[k].st) := by
  induction rs with
  | nil => intro k h; simp at h
  | cons r rs ih =>
    intro k h
    cases k with
    | zero => simp [cellsR]
    | succ k =>
      have := ih k (by simpa using h)
      simp only [cellsR, List.flatMap_cons] at *
      rw [show (k + 1) * 3 = k * 3 + 3 from by omega]
      simp only [List.getElem_cons_succ]
      rw [List.getElem?_append_right (by simp), List.getElem?_append_right (by simp), List.getElem?_append_right (by simp)]
      simp only [List.length_cons, List.length_nil]
      rw [show k * 3 + 3 - (0 + 1 + 1 + 1) = k * 3 from by omega, show k * 3 + 3 + 1 - (0 + 1 + 1 + 1) = k * 3 + 1 from by omega, show k * 3 + 3 + 2 - (0 + 1 + 1 + 1) = k * 3 + 2 from by omega]
      exact this
/-- What owning gives a reader. -/
theorem OwnsR.shape {B : Nat} {v : Value} {rs : List Run} {w : World} (h : OwnsR B v rs w) : ∃ a cap, v = .slice a rs.length cap ∧ RunsAt w a rs := by
  obtain ⟨hl, h⟩ := h
  rcases h with ⟨rfl, h0⟩ | ⟨g, cap, cur, rfl, hb, hg, hn, hc, hs, ht⟩
  · have : rs = [] := List.eq_nil_of_length_eq_zero h0
    subst this
    exact ⟨none, 0, rfl, fun k hk => by simp at hk⟩
  · refine ⟨_, cap, rfl, fun k hk => ⟨g, 0, rfl, ?_⟩⟩
    have key : ∀ j u, j < rs.length * 3 → (cellsR rs)[j]? = some u → w.cell? ⟨g, 0 + j, none⟩ = some u := by
      intro j u hj hu
      rw [← ht, List.getElem?_take] at hu
      simp only [hj, if_true] at hu
      have h2 : cur[j]? = some u := by simpa using hu
      simp only [World.cell?, hg, Nat.zero_add, Option.isSome_none, Bool.false_eq_true, if_false, h2]
    obtain ⟨k0, k1, k2⟩ := cellsR_get rs k hk
    exact ⟨key _ _ (by omega) k0, by have := key _ _ (by omega) k1; rwa [← Nat.add_assoc] at this, by have := key _ _ (by omega) k2; rwa [← Nat.add_assoc] at this⟩
theorem runsF_le : ∀ f s, (runsF f s).length ≤ f
  | 0, s => Nat.le_refl _
  | f + 1, s => by
    simp only [runsF]
    split
    · simp
    · have := runsF_le f (oneRun (cut s (Lib.ctz 64 s)) (Lib.ctz 64 s)).2
      simp only [List.length_cons]; omega
theorem RunsAt.below {B : Nat} {w w' : World} {a : Option Addr} {rs : List Run} (h : RunsAt w a rs) (hb : Below B w w') (ha : ∀ b off, a = some ⟨b, off, none⟩ → b < B) : RunsAt w' a rs := by
  intro k hk
  obtain ⟨b, off, e, h1, h2, h3⟩ := h k hk
  have := ha b off e
  exact ⟨b, off, e, by rw [hb.cell (by exact this)]; exact h1, by rw [hb.cell (by exact this)]; exact h2, by rw [hb.cell (by exact this)]; exact h3⟩
theorem RunsAt.cells {w w' : World} {a : Option Addr} {rs : List Run} (h : RunsAt w a rs) (hb : ∀ b off, a = some ⟨b, off, none⟩ → ∀ j, w'.cell? ⟨b, j, none⟩ = w.cell? ⟨b, j, none⟩) : RunsAt w' a rs := by
  intro k hk
  obtain ⟨b, off, e, h1, h2, h3⟩ := h k hk
  have := hb b off e
  exact ⟨b, off, e, by rw [this]; exact h1, by rw [this]; exact h2, by rw [this]; exact h3⟩
theorem cell_alloc_old {w : World} {o : Obj} {b j : Nat} {v : Value} (h : w.cell? ⟨b, j, none⟩ = some v) : (w.alloc o).cell? ⟨b, j, none⟩ = some v := by
  have hlt := World.block_lt_of_cell? w _ h
  rw [World.cell?_of_block (w := w) (Below.heap_alloc w o b hlt)]; exact h
theorem RunsAt.alloc {w : World} {a : Option Addr} {rs : List Run} (h : RunsAt w a rs) (o : Obj) : RunsAt (w.alloc o) a rs := by
  intro k hk
  obtain ⟨b, off, e, h1, h2, h3⟩ := h k hk
  exact ⟨b, off, e, cell_alloc_old h1, cell_alloc_old h2, cell_alloc_old h3⟩

theorem ex_range : rangeR 0 59 15 = (35185445863425, 0) := by decide +kernel
theorem ex_next : nx 40 4 = some 5 := by decide +kernel
theorem ex_runs : runsF 64 117 = [⟨0, 4, 2⟩, ⟨5, 6, 1⟩] := by decide +kernel
theorem ex_count : (mem 40).length = 2 := by decide +kernel

set_option maxHeartbeats 1000000 in
theorem works_ok (w : World) (hT0 : Tab w) :
    Calls Tryd.prog 15 #[] w fun e w' => e = .returned (.bool true) ∧ Below w.heap.size w w' := by
  have hT := Lib.hid hT0
  clear hT0
  have CR := range_ok 0 59 15
  rw [ex_range] at CR
  have CN := Lib.hid (fun w h => next_some (s := 40) (i := 5) (v := 4) (by decide) w h ex_next)
  have CU := Lib.hid (runs_walk 117 (by decide) w hT.out)
  have CC := count_ok 40 (by decide)
  rw [ex_count] at CC
  have CR' := Lib.hid CR
  have CC' := Lib.hid CC
  clear CR CC
  go_enter Tryd.func15, Tryd.ntmps15
  go_wp2_with (first
    | (go_at_call 12; refine (CR'.out _).mono ?_; rintro e w' ⟨rfl, rfl⟩)
    | (go_at_call 21; refine (CN.out _ hT.out).mono ?_; rintro e w' ⟨rfl, rfl⟩)
    | (go_at_call 14; refine CU.out.mono ?_; rintro e w1 ⟨v, rfl, hown, hb⟩; rw [ex_runs] at hown; obtain ⟨a, cap, rfl, hat0⟩ := hown.shape; have hat := Lib.hid hat0; have hbl := Lib.hid hb; clear hat0 hown hb))
  have hl2 : RunsAt (w1.alloc (.cells #[.int .i64 0, .int .i64 4, .int .i64 2, .int .i64 5, .int .i64 6, .int .i64 1] 29)) (some ⟨w1.heap.size, 0, none⟩) [⟨0, 4, 2⟩, ⟨5, 6, 1⟩] := by
    intro k hk
    refine ⟨w1.heap.size, 0, rfl, ?_⟩
    match k, hk with
    | 0, _ => simp
    | 1, _ => simp
  have C4 := runs_ok a (some ⟨w1.heap.size, 0, none⟩) cap 2 [⟨0, 4, 2⟩, ⟨5, 6, 1⟩] [⟨0, 4, 2⟩, ⟨5, 6, 1⟩] (by simp) (by simp) _ (hat.out.alloc _) hl2
  refine C4.mono ?_
  rintro e w' ⟨rfl, n, rfl⟩
  clear hl2 C4
  have hb2 := Lib.hid (below_drewN (hbl.out.alloc hbl.out.size (.cells #[.int .i64 0, .int .i64 4, .int .i64 2, .int .i64 5, .int .i64 6, .int .i64 1] 29)) n)
  go_wp2_with (go_at_call 13; refine (CC'.out _).mono ?_; rintro e w' ⟨rfl, rfl⟩)
  go_ret
  exact ⟨rfl, hb2.out⟩
end Go.Proofs.YtcgnnmpgdnajnaaDoor.BW
