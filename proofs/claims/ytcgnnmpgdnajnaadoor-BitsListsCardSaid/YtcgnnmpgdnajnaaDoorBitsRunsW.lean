/- The contract of bits.Runs: the walk. -/
import Derived.Test.YtcgnnmpgdnajnaaDoorBitsH
import Derived.StillTailTactics
import Derived.RangeFuncBox
namespace Go.Proofs.YtcgnnmpgdnajnaaDoor.BW
open Go.RowKit BM

theorem Tab.below {B : Nat} {w w' : World} (h : Tab w) (hb : Below B w w') (hB : 0 < B) : Tab w' := fun j hj => by
  rw [hb.cell (p := ⟨0, j, none⟩) hB]; exact h j hj
theorem Tab.size {w : World} (h : Tab w) : 0 < w.heap.size := World.block_lt_of_cell? w _ (h 0 (by decide))

set_option maxHeartbeats 400000 in
theorem goes_ok (s v st B1 B8 : Nat) (hs : s < 18446744073709551616) (hv : v < 64) (hst : st < 64) (w : World) (hT0 : Tab w)
    (hc1 : w.cell? ⟨B1, 0, none⟩ = some (.int .u64 s)) (hc8 : w.cell? ⟨B8, 0, none⟩ = some (.int .i64 st)) :
    Calls Tryd.prog 38 #[.int .i64 v, .pointer (some ⟨B1, 0, none⟩), .pointer (some ⟨B8, 0, none⟩)] w fun e w' => e = .returned (.bool (decide (nx s ((v : Int) + 1) = some (v + st)))) ∧ w = w' := by
  have hT := Lib.hid hT0
  clear hT0
  cases hn : nx s ((v : Int) + 1) with
  | none =>
    have C := Lib.hid (fun w (h : Tab w) => next_none hs w h hn)
    clear hn
    go_enter Tryd.func38, Tryd.ntmps38
    go_wp2_with (go_at_call 21; refine (C.out _ hT.out).mono ?_; rintro e w' ⟨rfl, rfl⟩)
    go_ret
    exact ⟨rfl, rfl⟩
  | some i =>
    have C := Lib.hid (fun w (h : Tab w) => next_some hs w h hn)
    have hi := (nx_some.1 hn).1
    clear hn
    go_enter Tryd.func38, Tryd.ntmps38
    go_wp2_with (go_at_call 21; refine (C.out _ hT.out).mono ?_; rintro e w' ⟨rfl, rfl⟩)
    go_ret
    exact ⟨ret_bool (by rw [Bool.eq_iff_iff]; simp; omega), rfl⟩

theorem cut_word' (a n : Nat) (ha : a < 18446744073709551616) (hn : n < 64) : bits .andNot .u64 (a : Int) (IntKind.u64.wrap (2 ^ n)) = ((cut a n : Nat) : Int) := by
  have hp : (2 : Nat) ^ n < 18446744073709551616 := Nat.lt_of_lt_of_le (Nat.pow_lt_pow_right (by decide) hn) (by decide)
  have e : ((2 : Int) ^ n) = ((2 ^ n : Nat) : Int) := by simp
  unfold cut
  rw [e]
  generalize (2 : Nat) ^ n = p at *
  rw [show IntKind.u64.wrap (p : Int) = p from by rw [IntKind.wrap_u64]; omega]
  exact andNot_word a p ha hp
theorem info_run : (Tryd.prog.info? 29).map (fun i => (i.zero, i.size, i.bytes)) = some (some (.agg #[.int .i64 0, .int .i64 0, .int .i64 0]), 3, 24) := by kernel_rfl
/-- A run's cells. -/
def cellsR (rs : List Run) : List Value := rs.flatMap fun r => [.int .i64 r.lo, .int .i64 r.hi, .int .i64 r.st]
def OwnsR (B : Nat) (v : Value) (rs : List Run) (w : World) : Prop := w.ownsRow B 29 3 v rs.length (cellsR rs)

theorem cellsR_snoc (rs : List Run) (r : Run) : cellsR (rs ++ [r]) = cellsR rs ++ [.int .i64 r.lo, .int .i64 r.hi, .int .i64 r.st] := by simp [cellsR]

/-- The state within a round: the set's box, the runs so far, the run's block. -/
structure InRun (H : Nat) (w0 w : World) (v : Value) (done : List Run) (s R : Nat) (lo hi st : Int) : Prop where
  box : Boxed w H 22 (.int .u64 s)
  own : OwnsR (H + 1) v done w
  run : w.heap[R]? = some (.cells #[.int .i64 lo, .int .i64 hi, .int .i64 st] 29 (0, 0))
  ne : v.ownBlock ≠ some R
  gt : H < R
  below : Below H w0 w

theorem InRun.grown {H R : Nat} {w0 w w' : World} {v : Value} {done : List Run} {s : Nat} {lo hi st : Int} (h : InRun H w0 w v done s R lo hi st) {row : Option Nat}
    (hg : w.grownBy w' row) (h1 : some H ≠ row) (h2 : some R ≠ row) (h3 : v.ownBlock = none ∨ v.ownBlock ≠ row) (h4 : ∀ k, row = some k → H ≤ k) : InRun H w0 w' v done s R lo hi st where
  box := h.box.kept hg h1
  own := h.own.kept hg h3
  run := by rw [hg.block R (Array.getElem?_eq_some_iff.1 h.run).1 h2]; exact h.run
  ne := h.ne
  gt := h.gt
  below := h.below.grown hg (Nat.le_of_lt h.box.lt) h4
theorem InRun.alloc {H R : Nat} {w0 w : World} {v : Value} {done : List Run} {s : Nat} {lo hi st : Int} (h : InRun H w0 w v done s R lo hi st) (o : Obj) : InRun H w0 (w.alloc o) v done s R lo hi st :=
  h.grown (World.grownBy_alloc w o none) (by simp) (by simp) (by cases v.ownBlock <;> simp) (by simp)
theorem InRun.drew {H R : Nat} {w0 w : World} {v : Value} {done : List Run} {s : Nat} {lo hi st : Int} (h : InRun H w0 w v done s R lo hi st) : InRun H w0 w.drew v done s R lo hi st :=
  ⟨h.box, h.own, h.run, h.ne, h.gt, h.below.drew⟩
theorem InRun.tab {H R : Nat} {w0 w : World} {v : Value} {done : List Run} {s : Nat} {lo hi st : Int} (h : InRun H w0 w v done s R lo hi st) (hT : Tab w0) (hH : w0.heap.size ≤ H) : Tab w :=
  hT.below h.below (Nat.lt_of_lt_of_le hT.size hH)
theorem InRun.cells {H R : Nat} {w0 w : World} {v : Value} {done : List Run} {s : Nat} {lo hi st : Int} (h : InRun H w0 w v done s R lo hi st) :
    w.cell? ⟨R, 0, none⟩ = some (.int .i64 lo) ∧ w.cell? ⟨R, 1, none⟩ = some (.int .i64 hi) ∧ w.cell? ⟨R, 2, none⟩ = some (.int .i64 st) := by
  simp [World.cell?, h.run]
theorem InRun.free {H R : Nat} {w0 w : World} {v : Value} {done : List Run} {s : Nat} {lo hi st : Int} (h : InRun H w0 w v done s R lo hi st) (j : Nat) : w.frozen? ⟨R, j, none⟩ = false := by
  simp [World.frozen?, h.run]
theorem InRun.lt {H R : Nat} {w0 w : World} {v : Value} {done : List Run} {s : Nat} {lo hi st : Int} (h : InRun H w0 w v done s R lo hi st) : R < w.heap.size := (Array.getElem?_eq_some_iff.1 h.run).1
theorem heap_set (w : World) (B j : Nat) (cs : Array Value) (T : TypeId) (x : Value) (h : w.heap[B]? = some (.cells cs T (0, 0))) : (w.setCell ⟨B, j, none⟩ x).heap[B]? = some (.cells (cs.setIfInBounds j x) T (0, 0)) := by
  obtain ⟨hlt, hk⟩ := Array.getElem?_eq_some_iff.1 h
  show (w.heap.modify B _)[B]? = _
  rw [Array.getElem?_eq_getElem (by rw [Array.size_modify]; exact hlt), Array.getElem_modify_self, hk]
  rfl
theorem grownBy_cell (w : World) (b j : Nat) (v : Value) : w.grownBy (w.setCell ⟨b, j, none⟩ v) (some b) :=
  ⟨rfl, rfl, rfl, (KeepsWalks.setCell w _ v).size, fun k _ hk => Below.heap_setCell _ _ _ k (fun e => hk (by rw [e]))⟩
theorem InRun.setS {H R : Nat} {w0 w : World} {v : Value} {done : List Run} {s : Nat} {lo hi st : Int} (h : InRun H w0 w v done s R lo hi st) (s' : Nat) : InRun H w0 (w.setCell ⟨H, 0, none⟩ (.int .u64 s')) v done s' R lo hi st where
  box := h.box.set _
  own := h.own.kept (grownBy_cell w H 0 _) (.inr (fun e => by have := (h.own.lt H (by rw [e])).1; omega))
  run := by rw [Below.heap_setCell _ _ _ R (fun e => by have := h.gt; simp at e; omega)]; exact h.run
  ne := h.ne
  gt := h.gt
  below := h.below.setCell (p := ⟨H, 0, none⟩) (Nat.le_refl _) _
theorem InRun.set1 {H R : Nat} {w0 w : World} {v : Value} {done : List Run} {s : Nat} {lo hi st : Int} (h : InRun H w0 w v done s R lo hi st) (x : Int) : InRun H w0 (w.setCell ⟨R, 1, none⟩ (.int .i64 x)) v done s R lo x st where
  box := h.box.kept (grownBy_cell w R 1 _) (by have := h.gt; simp; omega)
  own := h.own.kept (grownBy_cell w R 1 _) (.inr h.ne)
  run := heap_set w R 1 _ _ _ h.run
  ne := h.ne
  gt := h.gt
  below := h.below.setCell (p := ⟨R, 1, none⟩) (Nat.le_of_lt h.gt) _
theorem InRun.set2 {H R : Nat} {w0 w : World} {v : Value} {done : List Run} {s : Nat} {lo hi st : Int} (h : InRun H w0 w v done s R lo hi st) (x : Int) : InRun H w0 (w.setCell ⟨R, 2, none⟩ (.int .i64 x)) v done s R lo hi x where
  box := h.box.kept (grownBy_cell w R 2 _) (by have := h.gt; simp; omega)
  own := h.own.kept (grownBy_cell w R 2 _) (.inr h.ne)
  run := heap_set w R 2 _ _ _ h.run
  ne := h.ne
  gt := h.gt
  below := h.below.setCell (p := ⟨R, 2, none⟩) (Nat.le_of_lt h.gt) _
/-- Behind the append. -/
theorem InRun.appended {H R : Nat} {w0 w w1 : World} {v v' : Value} {done : List Run} {s : Nat} {lo hi st : Int} (h : InRun H w0 w v done s R lo hi st) (o : Obj)
    (hown : w1.ownsRow (H + 1) 29 3 v' (done.length + 1) (cellsR done ++ [.int .i64 lo, .int .i64 hi, .int .i64 st])) (hg : (w.alloc o).grownBy w1 v.ownBlock) :
    Boxed w1 H 22 (.int .u64 s) ∧ OwnsR (H + 1) v' (done ++ [⟨lo, hi, st⟩]) w1 ∧ Below H w0 w1 := by
  have h' := h.alloc o
  refine ⟨h'.box.kept hg (fun e => ?_), ?_, h'.below.grown hg (Nat.le_of_lt h'.box.lt) (fun k e => ?_)⟩
  · have := (h'.own.lt H e.symm).1; omega
  · unfold OwnsR
    rw [cellsR_snoc]
    simpa using hown
  · have := (h'.own.lt k e).1; omega

theorem runsF_zero (f : Nat) : runsF f 0 = [] := by cases f <;> simp [runsF]
theorem cut_ge (s : Nat) {f : Nat} (hf : ∀ i, s.testBit i = true → 64 ≤ i + (f + 1)) (hs : s < 18446744073709551616) (h0 : s ≠ 0) : ∀ i, (cut s (Lib.ctz 64 s)).testBit i = true → 64 ≤ i + f := by
  intro i hi
  obtain ⟨c1, c2, c3⟩ := ctz_spec s h0 hs
  rw [cut_bit] at hi
  simp at hi
  have h1 := hf _ c2
  rcases Nat.lt_or_ge i (Lib.ctz 64 s) with h | h
  · rw [c3 i h] at hi; simp at hi
  · omega

theorem far_bit {s st : Nat} : ∀ (f v : Nat), s.testBit v = true → s.testBit (BM.follow s st f v) = true
  | 0, v, h => h
  | f + 1, v, h => by
    simp only [BM.follow]
    split
    · rename_i hn; exact far_bit f _ (nx_some.1 hn).2.2.1
    · exact h
/-- The members from v on. -/
def onw (s v : Nat) : Nat := s / 2 ^ v * 2 ^ v
theorem onw_bit (s v i : Nat) : (onw s v).testBit i = (decide (v ≤ i) && s.testBit i) := cut_testBit s v i
theorem onw_lt {s v : Nat} (h : s < 18446744073709551616) : onw s v < 18446744073709551616 := Nat.lt_of_le_of_lt (cut_le s v) h
theorem onw_above (s v : Nat) : onw s (v + 1) = above s v := rfl
theorem cut_onw (s v : Nat) : cut (onw s v) v = above s v := by
  apply Nat.eq_of_testBit_eq; intro i
  rw [cut_bit, onw_bit, above_bit]
  rcases Nat.lt_trichotomy i v with h | h | h
  · have h1 : ¬ v ≤ i := by omega
    have h2 : ¬ v < i := by omega
    simp [h1, h2]
  · subst h; simp
  · have h1 : v ≤ i := by omega
    have h2 : ¬ i = v := by omega
    simp [h, h1, h2]
theorem onw_next {s v u : Nat} (h : nx s ((v : Int) + 1) = some u) : above s v = onw s u := by
  apply Nat.eq_of_testBit_eq; intro i
  rw [onw_bit, above_bit]
  obtain ⟨h1, h2, h3, h4⟩ := nx_some.1 h
  rcases Nat.lt_or_ge i u with hi | hi
  · have h5 : ¬ u ≤ i := by omega
    by_cases hv : v < i
    · have := h4 i hi (by omega)
      simp [this]
    · simp [h5, hv]
  · have : v < i := by omega
    simp [this, hi]
theorem onw_all {s v : Nat} (h : ∀ i, s.testBit i = true → v ≤ i) : onw s v = s := by
  apply Nat.eq_of_testBit_eq; intro i
  rw [onw_bit]
  cases hb : s.testBit i with
  | false => simp
  | true => simp [h i hb]
theorem above_sub {s v i : Nat} (h : (above s v).testBit i = true) : s.testBit i = true := by
  rw [above_bit] at h; simp at h; exact h.2
theorem read3 (w : World) (a b c : Int) (T : TypeId) : ∀ (j : Nat) (u : Value), [Value.int .i64 a, .int .i64 b, .int .i64 c][j]? = some u →
    (w.alloc (.cells #[.int .i64 a, .int .i64 b, .int .i64 c] T)).cell? ((⟨w.heap.size, 0, none⟩ : Addr).add j) = some u := by
  intro j u hj
  match j, hj with
  | 0, hj => simp at hj; subst hj; simp [Addr.add]
  | 1, hj => simp at hj; subst hj; simp [Addr.add]
  | 2, hj => simp at hj; subst hj; simp [Addr.add]
theorem one3 (a b c : Int) : ∀ u ∈ [Value.int .i64 a, .int .i64 b, .int .i64 c], u.oneCell' = true := by
  intro u hu; simp at hu; rcases hu with rfl | rfl | rfl <;> rfl

theorem boxed_drew {w : World} {B : Nat} {T : TypeId} {v : Value} (h : Boxed w B T v) : Boxed w.drew B T v := h
theorem boxed_other {w : World} {B : Nat} {T : TypeId} {v : Value} (h : Boxed w B T v) (R j : Nat) (x : Value) (hne : B ≠ R) : Boxed (w.setCell ⟨R, j, none⟩ x) B T v :=
  h.kept (grownBy_cell w R j x) (fun e => hne (Option.some.inj e))

set_option maxHeartbeats 2000000 in
theorem runs_walk (s0 : Nat) (hs0 : s0 < 18446744073709551616) (w : World) (hT0 : Tab w) :
    Calls Tryd.prog 14 #[.int .u64 s0] w fun e w' => ∃ v, e = .returned v ∧ OwnsR (w.heap.size + 1) v (runsF 64 s0) w' ∧ Below w.heap.size w w' := by
  obtain ⟨i0, hi, hz0, hz1, hz2⟩ := info_parts info_run
  have hT := Lib.hid hT0
  clear hT0
  go_enter Tryd.func14, Tryd.ntmps14
  go_wp2
  go_loopg [3] 64 (fun f v wr => ∃ (s : Nat) (done : List Run), s < 18446744073709551616 ∧ Boxed wr w.heap.size 22 (.int .u64 s) ∧ OwnsR (w.heap.size + 1) v done wr ∧ Below w.heap.size w wr ∧ (∀ i, s.testBit i = true → 64 ≤ i + f) ∧ done.length + f ≤ 64 ∧ done ++ runsF f s = runsF 64 s0)
  case atStart => exact ⟨s0, [], hs0, Boxed.new w _ _, World.ownsRow_nil _ _ _ _, (Below.refl _ w).alloc (Nat.le_refl _) _, fun i _ => by omega, by simp, by simp⟩
  case round =>
    obtain ⟨s, done, hs, hbox, hown, hnx, hf, hdl, hR⟩ := hrel
    have HF := Lib.hid hf
    have HR := Lib.hid hR
    have HD := Lib.hid hdl
    clear hf hR hdl
    have hc1 := hbox.cell
    have hfr1 := hbox.frozen
    have hBlt := hbox.lt
    have hTr := Lib.hid (hT.out.below hnx hT.out.size)
    by_cases h0 : s = 0
    · have hz : ((s : Int) != 0) = false := by rw [bne_eq_false_iff_eq]; omega
      subst h0
      go_wp2
      go_ret
      exact ⟨_, rfl, by have := HR.out; rw [runsF_zero, List.append_nil] at this; rw [← this]; exact hown, hnx⟩
    · obtain ⟨c1, c2, c3⟩ := ctz_spec s h0 hs
      obtain ⟨G, rfl⟩ : ∃ G, gk = G + 1 := ⟨gk - 1, by have := HF.out _ c2; omega⟩
      have HF' : Hid (∀ i, (cut s (Lib.ctz 64 s)).testBit i = true → 64 ≤ i + G) := Lib.hid (cut_ge s HF.out hs h0)
      have HR' : Hid (done ++ (oneRun (cut s (Lib.ctz 64 s)) (Lib.ctz 64 s)).1 :: runsF G (oneRun (cut s (Lib.ctz 64 s)) (Lib.ctz 64 s)).2 = runsF 64 s0) := Lib.hid (by
        have := HR.out
        simp only [runsF, h0, if_false] at this
        exact this)
      have hz : ((s : Int) != 0) = true := by rw [bne_iff_ne]; omega
      have CZ := Lib.hid (fun w (h : Tab w) => tz_ok s hs h0 w h)
      have HC3 := Lib.hid c3
      clear HF HR
      generalize hlo : Lib.ctz 64 s = lo at *
      have hCW := cut_word' s lo hs c1
      have hs1 := cut_lt (v := lo) hs
      obtain ⟨s1, hs1n⟩ : ∃ s1, Hid (s1 = cut s lo) := ⟨_, Lib.hid rfl⟩
      rw [← hs1n.out] at HF' HR' hCW hs1
      clear c2 c3
      go_wp2_with (go_at_call 37; refine (CZ.out _ hTr.out).mono ?_; rintro e w' ⟨rfl, rfl⟩)
      go_region
      go_wp2_with fail
      have I0 : InRun w.heap.size w (((wr.setCell ⟨w.heap.size, 0, none⟩ (.int .u64 s1)).alloc (.cells #[.int .i64 lo, .int .i64 lo, .int .i64 1] 29)).drew) u3 done s1 wr.heap.size lo lo 1 := by
        refine ⟨(Boxed.alloc (hbox.set _) _), ?_, ?_, ?_, hBlt, ?_⟩
        · exact World.ownsRow.alloc (hown.kept (grownBy_cell wr w.heap.size 0 _) (.inr (fun e => by have := (hown.lt w.heap.size (by rw [e])).1; omega))) _
        · have := World.alloc_heap_new (wr.setCell ⟨w.heap.size, 0, none⟩ (.int .u64 s1)) (.cells #[.int .i64 lo, .int .i64 lo, .int .i64 1] 29)
          rw [show (wr.setCell ⟨w.heap.size, 0, none⟩ (.int .u64 s1)).heap.size = wr.heap.size from by simp [World.setCell]] at this
          exact this
        · intro e; have := (hown.lt _ e).2; omega
        · exact ((hnx.setCell (p := ⟨w.heap.size, 0, none⟩) (Nat.le_refl _) _).alloc (by simp [World.setCell]; omega) _).drew
      generalize (((wr.setCell ⟨w.heap.size, 0, none⟩ (.int .u64 s1)).alloc (.cells #[.int .i64 lo, .int .i64 lo, .int .i64 1] 29)).drew) = w3 at *
      generalize wr.heap.size = R at *
      clear hbox hown hnx hc1 hfr1 hTr hCW hz CZ
      have hT3 := Lib.hid (I0.tab hT.out (Nat.le_refl _))
      have hcs := I0.box.cell
      have hfs := I0.box.frozen
      obtain ⟨hr0, hr1, hr2⟩ := I0.cells
      have hrf := I0.free
      cases hn : nx s1 (lo : Int) with
      | none =>
        have C := Lib.hid (fun w (h : Tab w) => next_none hs1 w h hn)
        have HRr := Lib.hid (show (oneRun s1 lo) = (⟨lo, lo, 1⟩, s1) from by simp [oneRun, hn])
        clear hn
        refine (C.out _ hT3.out).mono ?_
        rintro e w' ⟨rfl, rfl⟩
        go_wp2_with (at_builtin; refine wpList_append_own _ rfl _ _ 27 rfl (w.heap.size + 1) 29 i0 (.agg #[.int .i64 0, .int .i64 0, .int .i64 0]) 3 24 Tryd.underlying27 hi hz0 hz1 hz2 rfl (by decide) _ _ _ rfl (World.ownsRow.alloc I0.own _) ⟨(w3).heap.size, 0, none⟩ 1 1 [.int .i64 lo, .int .i64 lo, .int .i64 1] rfl rfl (read3 _ _ _ _ _) (one3 _ _ _) (by have := HD.out; unfold maxLen; omega) (by have := HD.out; omega) (by have := I0.box.lt; simp; omega) ?_)
        intro v' w9 hown9 hgrow9 _
        obtain ⟨E1, E2, E3⟩ := I0.appended _ hown9 hgrow9
        clear hown9 hgrow9
        go_wp2
        go_roundg G
        case measure => omega
        case rel => exact ⟨_, _, hs1, E1, E2, E3, HF'.out, by have := HD.out; simp; omega, by have := HR'.out; rw [HRr.out] at this; simpa using this⟩
      | some b =>
        have C := Lib.hid (fun w (h : Tab w) => next_some hs1 w h hn)
        have HN := Lib.hid (nx_some.1 hn)
        have HO := Lib.hid (show oneRun s1 lo = (if b - lo = 1 ∨ nx s1 ((b : Int) + 1) = some (b + (b - lo)) then (⟨lo, far s1 (b - lo) b, (b - lo : Nat)⟩, above s1 (far s1 (b - lo) b)) else (⟨lo, lo, 1⟩, s1)) from by simp [oneRun, hn])
        clear hn
        have hne : b ≠ lo := by
          intro e
          have := HN.out.2.2.1
          rw [e, hs1n.out, cut_bit] at this
          simp at this
        have hb64 : b < 64 := HN.out.1
        obtain ⟨st, hst⟩ : ∃ st, b - lo = st := ⟨_, rfl⟩
        rw [hst] at HO
        have hlb := HN.out.2.1
        have hbl : (b : Int) - (lo : Int) = (st : Int) := by omega
        have hst1 : 1 ≤ st := by omega
        have hst64 : st < 64 := by omega
        have HLO : Hid (∀ i, s1.testBit i = true → lo < i) := Lib.hid (fun i hi => by
          apply Nat.lt_of_not_le; intro hle
          rw [hs1n.out, cut_bit] at hi; simp at hi
          rcases Nat.lt_or_ge i lo with h | h
          · rw [HC3.out i h] at hi; simp at hi
          · omega)
        have HST := Lib.hid hst
        clear hst hlb hne
        refine (C.out _ hT3.out).mono ?_
        rintro e w' ⟨rfl, rfl⟩
        have I4 := (I0.alloc (.cells #[.int .i64 st] 3))
        have B4 := Boxed.new w3 3 (.int .i64 st)
        have hS1 : w.heap.size < w3.heap.size := I0.box.lt
        have hS2 : R < w3.heap.size := I0.lt
        generalize hw4 : w3.alloc (.cells #[.int .i64 st] 3) = w4 at *
        generalize hS : w3.heap.size = S at *
        have HW := Lib.hid hw4
        clear hw4
        have hT4 := Lib.hid (I4.tab hT.out (Nat.le_refl _))
        have hc4 := I4.box.cell
        have hf4 := I4.box.frozen
        obtain ⟨hr40, hr41, hr42⟩ := I4.cells
        have hrf4 := I4.free
        have hcs4 := B4.cell
        by_cases h1 : st = 1
        · have HO' := Lib.hid (show oneRun s1 lo = (⟨lo, far s1 st b, st⟩, above s1 (far s1 st b)) from by rw [HO.out, if_pos (.inl h1)])
          have h1b : ((st : Int) == 1) = true := by rw [beq_iff_eq]; omega
          clear HO h1
          go_wp2_with fail
          rw [HW.out]
          have C := I4
          have C' := I4
          go_region
          go_wp2_with fail
          have I5 := ((I4.set1 (b : Int)).set2 (st : Int)).drew
          have B5 : Boxed (((w4.setCell ⟨R, 1, none⟩ (.int .i64 b)).setCell ⟨R, 2, none⟩ (.int .i64 st)).drew) S 3 (.int .i64 st) :=
            boxed_drew (boxed_other (boxed_other B4 R 1 _ (by omega)) R 2 _ (by omega))
          generalize (((w4.setCell ⟨R, 1, none⟩ (.int .i64 b)).setCell ⟨R, 2, none⟩ (.int .i64 st)).drew) = w5 at *
          clear I0 I4 B4 hcs hfs hr0 hr1 hr2 hrf hT3 hT4 hc4 hf4 hr40 hr41 hr42 hrf4 hcs4 HW C C'
          go_loopg [] 64 (fun f wr5 => ∃ tp : Nat, InRun w.heap.size w wr5 u3 done s1 R lo tp st ∧ Boxed wr5 S 3 (.int .i64 st) ∧ tp < 64 ∧ s1.testBit tp = true ∧ far s1 st tp = far s1 st b ∧ 64 ≤ tp + f)
          case atStart => exact ⟨b, I5, B5, hb64, HN.out.2.2.1, rfl, by omega⟩
          clear I5 B5
          case round =>
            obtain ⟨tp, I5, B5, hi64, hib, hif, hgk5⟩ := hrel
            have HIB := Lib.hid hib
            have HIF := Lib.hid hif
            clear hib hif
            have hT5 := Lib.hid (I5.tab hT.out (Nat.le_refl _))
            have hc5 := I5.box.cell
            have hf5 := I5.box.frozen
            obtain ⟨hr50, hr51, hr52⟩ := I5.cells
            have hrf5 := I5.free
            have hcs5 := B5.cell
            have C := goes_ok s1 tp st w.heap.size S hs1 hi64 hst64 wr hT5.out hc5 hcs5
            by_cases h3 : nx s1 ((tp : Int) + 1) = some (tp + st)
            · rw [decide_eq_true h3] at C
              have C' := Lib.hid C
              have H3 := Lib.hid h3
              have h3lt := (nx_some.1 h3).1
              clear h3 C
              go_wp2_with fail
              refine C'.out.mono ?_
              rintro e w' ⟨rfl, rfl⟩
              go_wp2_with fail
              go_roundg (gk - 1)
              case measure => omega
              case rel => exact ⟨tp + st, by have := I5.set1 ((tp : Int) + st); simpa using this, boxed_other B5 R 1 _ (by omega), h3lt, (nx_some.1 H3.out).2.2.1, (far_next hst1 H3.out).symm.trans HIF.out, by omega⟩
            · rw [decide_eq_false h3] at C
              have C' := Lib.hid C
              have HF3 := Lib.hid (show tp = far s1 st b from (far_stop h3).symm.trans HIF.out)
              clear h3 C
              go_wp2_with fail
              refine C'.out.mono ?_
              rintro e w' ⟨rfl, rfl⟩
              clear C' hgk5
              go_wp2_with fail
              have HF4 := Lib.hid (show far s1 st tp = tp from HIF.out.trans HF3.out.symm)
              have HR9 := Lib.hid HF3.out.symm
              rw [← HF3.out] at HO'
              clear hT5 hc5 hf5 hr50 hr51 hr52 hrf5 hcs5 HIF HF3
              go_loopg [10] 64 (fun f v wr6 => ∃ u s2 : Nat, v = .int .i64 u ∧ InRun w.heap.size w wr6 u3 done s2 R lo tp st ∧ Boxed wr6 S 3 (.int .i64 st) ∧ s2 < 18446744073709551616 ∧ 64 ≤ u + f ∧ u ≤ 128 ∧ ((u ≤ tp ∧ s2 = onw s1 u ∧ far s1 st u = tp) ∨ (tp < u ∧ s2 = above s1 tp)))
              case atStart =>
                refine ⟨b, s1, rfl, I5, B5, hs1, by omega, by omega, .inl ⟨?_, (onw_all ?_).symm, ?_⟩⟩
                · have := follow_ge s1 st 64 b; have h := HR9.out; unfold far at h; omega
                · intro i hi
                  apply Nat.le_of_not_lt; intro hlt
                  by_cases hl : lo ≤ i
                  · have := HN.out.2.2.2 i hlt (by omega)
                    rw [this] at hi; cases hi
                  · have := HLO.out i hi
                    omega
                · exact HR9.out
              clear I5 B5
              case round =>
                obtain ⟨u, s2, rfl, I6, B6, hs2, hgk6, hu, hor⟩ := hrel
                have HOR := Lib.hid hor
                clear hor
                have hc6 := I6.box.cell
                have hf6 := I6.box.frozen
                obtain ⟨hr60, hr61, hr62⟩ := I6.cells
                have hcs6 := B6.cell
                by_cases hut : u ≤ tp
                · obtain ⟨e1, e2⟩ : s2 = onw s1 u ∧ far s1 st u = tp := by
                    rcases HOR.out with h | h
                    · exact h.2
                    · exact absurd h.1 (by omega)
                  have hCW := cut_word' s2 u hs2 (by omega)
                  rw [show cut s2 u = above s1 u from by rw [e1, cut_onw]] at hCW
                  have hs3 := above_lt (v := u) hs1
                  have E2 := Lib.hid e2
                  clear e1 e2 HOR
                  generalize hs3e : above s1 u = s3 at *
                  have HS3 := Lib.hid hs3e
                  clear hs3e
                  go_wp2_with fail
                  go_region
                  go_wp2_with fail
                  have I7 := (I6.setS s3).drew
                  have B7 := boxed_drew (boxed_other B6 w.heap.size 0 (.int .u64 s3) (by omega))
                  go_roundg (gk - 1)
                  case measure => omega
                  case rel =>
                    refine ⟨u + st, s3, by go_num, I7, B7, hs3, by omega, by omega, ?_⟩
                    by_cases hn : nx s1 ((u : Int) + 1) = some (u + st)
                    · have h9 := (far_next hst1 hn).symm.trans E2.out
                      refine .inl ⟨?_, by rw [← HS3.out]; exact onw_next hn, h9⟩
                      have := follow_ge s1 st 64 (u + st); unfold far at h9; omega
                    · have h9 := (far_stop hn).symm.trans E2.out
                      refine .inr ⟨by omega, by rw [← HS3.out, h9]⟩
                · have e1 : s2 = above s1 tp := by
                    rcases HOR.out with h | h
                    · exact absurd h.1 hut
                    · exact h.2
                  have HF8 : Hid (∀ i, s2.testBit i = true → 64 ≤ i + G) := Lib.hid (fun i h => HF'.out i (by rw [e1] at h; exact above_sub h))
                  rw [← e1] at HO'
                  clear e1 HOR
                  go_wp2_with (at_builtin; refine wpList_append_own _ rfl _ _ 27 rfl (w.heap.size + 1) 29 i0 (.agg #[.int .i64 0, .int .i64 0, .int .i64 0]) 3 24 Tryd.underlying27 hi hz0 hz1 hz2 rfl (by decide) _ _ _ rfl (World.ownsRow.alloc I6.own _) ⟨(wr).heap.size, 0, none⟩ 1 1 [.int .i64 lo, .int .i64 tp, .int .i64 st] rfl rfl (read3 _ _ _ _ _) (one3 _ _ _) (by have := HD.out; unfold maxLen; omega) (by have := HD.out; omega) (by have := I6.box.lt; simp; omega) ?_)
                  intro v' w9 hown9 hgrow9 _
                  obtain ⟨E1, E2, E3⟩ := I6.appended _ hown9 hgrow9
                  clear hown9 hgrow9
                  go_wp2
                  go_roundg G
                  case measure => omega
                  case rel => exact ⟨_, _, hs2, E1, E2, E3, HF8.out, by have := HD.out; simp; omega, by have := HR'.out; rw [HO'.out] at this; simpa using this⟩
        · have h1b : ((st : Int) == 1) = false := by rw [beq_eq_false_iff_ne]; omega
          by_cases h2 : nx s1 ((b : Int) + 1) = some (b + st)
          · have HO' := Lib.hid (show oneRun s1 lo = (⟨lo, far s1 st b, st⟩, above s1 (far s1 st b)) from by rw [HO.out, if_pos (.inr h2)])
            have C := goes_ok s1 b st w.heap.size S hs1 hb64 hst64 w4 hT4.out hc4 hcs4
            rw [decide_eq_true h2] at C
            have C' := Lib.hid C
            clear HO h1 h2 C
            go_wp2_with fail
            rw [HW.out]
            refine C'.out.mono ?_
            rintro e w' ⟨rfl, rfl⟩
            go_wp2_with fail
            go_region
            go_wp2_with fail
            have C := I4
            have I5 := ((I4.set1 (b : Int)).set2 (st : Int)).drew
            have B5 : Boxed (((w4.setCell ⟨R, 1, none⟩ (.int .i64 b)).setCell ⟨R, 2, none⟩ (.int .i64 st)).drew) S 3 (.int .i64 st) :=
              boxed_drew (boxed_other (boxed_other B4 R 1 _ (by omega)) R 2 _ (by omega))
            generalize (((w4.setCell ⟨R, 1, none⟩ (.int .i64 b)).setCell ⟨R, 2, none⟩ (.int .i64 st)).drew) = w5 at *
            clear I0 I4 B4 hcs hfs hr0 hr1 hr2 hrf hT3 hT4 hc4 hf4 hr40 hr41 hr42 hrf4 hcs4 HW C C'
            go_loopg [] 64 (fun f wr5 => ∃ tp : Nat, InRun w.heap.size w wr5 u3 done s1 R lo tp st ∧ Boxed wr5 S 3 (.int .i64 st) ∧ tp < 64 ∧ s1.testBit tp = true ∧ far s1 st tp = far s1 st b ∧ 64 ≤ tp + f)
            case atStart => exact ⟨b, I5, B5, hb64, HN.out.2.2.1, rfl, by omega⟩
            clear I5 B5
            case round =>
              obtain ⟨tp, I5, B5, hi64, hib, hif, hgk5⟩ := hrel
              have HIB := Lib.hid hib
              have HIF := Lib.hid hif
              clear hib hif
              have hT5 := Lib.hid (I5.tab hT.out (Nat.le_refl _))
              have hc5 := I5.box.cell
              have hf5 := I5.box.frozen
              obtain ⟨hr50, hr51, hr52⟩ := I5.cells
              have hrf5 := I5.free
              have hcs5 := B5.cell
              have C := goes_ok s1 tp st w.heap.size S hs1 hi64 hst64 wr hT5.out hc5 hcs5
              by_cases h3 : nx s1 ((tp : Int) + 1) = some (tp + st)
              · rw [decide_eq_true h3] at C
                have C' := Lib.hid C
                have H3 := Lib.hid h3
                have h3lt := (nx_some.1 h3).1
                clear h3 C
                go_wp2_with fail
                refine C'.out.mono ?_
                rintro e w' ⟨rfl, rfl⟩
                go_wp2_with fail
                go_roundg (gk - 1)
                case measure => omega
                case rel => exact ⟨tp + st, by have := I5.set1 ((tp : Int) + st); simpa using this, boxed_other B5 R 1 _ (by omega), h3lt, (nx_some.1 H3.out).2.2.1, (far_next hst1 H3.out).symm.trans HIF.out, by omega⟩
              · rw [decide_eq_false h3] at C
                have C' := Lib.hid C
                have HF3 := Lib.hid (show tp = far s1 st b from (far_stop h3).symm.trans HIF.out)
                clear h3 C
                go_wp2_with fail
                refine C'.out.mono ?_
                rintro e w' ⟨rfl, rfl⟩
                clear C' hgk5
                go_wp2_with fail
                have HF4 := Lib.hid (show far s1 st tp = tp from HIF.out.trans HF3.out.symm)
                have HR9 := Lib.hid HF3.out.symm
                rw [← HF3.out] at HO'
                clear hT5 hc5 hf5 hr50 hr51 hr52 hrf5 hcs5 HIF HF3
                go_loopg [10] 64 (fun f v wr6 => ∃ u s2 : Nat, v = .int .i64 u ∧ InRun w.heap.size w wr6 u3 done s2 R lo tp st ∧ Boxed wr6 S 3 (.int .i64 st) ∧ s2 < 18446744073709551616 ∧ 64 ≤ u + f ∧ u ≤ 128 ∧ ((u ≤ tp ∧ s2 = onw s1 u ∧ far s1 st u = tp) ∨ (tp < u ∧ s2 = above s1 tp)))
                case atStart =>
                  refine ⟨b, s1, rfl, I5, B5, hs1, by omega, by omega, .inl ⟨?_, (onw_all ?_).symm, ?_⟩⟩
                  · have := follow_ge s1 st 64 b; have h := HR9.out; unfold far at h; omega
                  · intro i hi
                    apply Nat.le_of_not_lt; intro hlt
                    by_cases hl : lo ≤ i
                    · have := HN.out.2.2.2 i hlt (by omega)
                      rw [this] at hi; cases hi
                    · have := HLO.out i hi
                      omega
                  · exact HR9.out
                clear I5 B5
                case round =>
                  obtain ⟨u, s2, rfl, I6, B6, hs2, hgk6, hu, hor⟩ := hrel
                  have HOR := Lib.hid hor
                  clear hor
                  have hc6 := I6.box.cell
                  have hf6 := I6.box.frozen
                  obtain ⟨hr60, hr61, hr62⟩ := I6.cells
                  have hcs6 := B6.cell
                  by_cases hut : u ≤ tp
                  · obtain ⟨e1, e2⟩ : s2 = onw s1 u ∧ far s1 st u = tp := by
                      rcases HOR.out with h | h
                      · exact h.2
                      · exact absurd h.1 (by omega)
                    have hCW := cut_word' s2 u hs2 (by omega)
                    rw [show cut s2 u = above s1 u from by rw [e1, cut_onw]] at hCW
                    have hs3 := above_lt (v := u) hs1
                    have E2 := Lib.hid e2
                    clear e1 e2 HOR
                    generalize hs3e : above s1 u = s3 at *
                    have HS3 := Lib.hid hs3e
                    clear hs3e
                    go_wp2_with fail
                    go_region
                    go_wp2_with fail
                    have I7 := (I6.setS s3).drew
                    have B7 := boxed_drew (boxed_other B6 w.heap.size 0 (.int .u64 s3) (by omega))
                    go_roundg (gk - 1)
                    case measure => omega
                    case rel =>
                      refine ⟨u + st, s3, by go_num, I7, B7, hs3, by omega, by omega, ?_⟩
                      by_cases hn : nx s1 ((u : Int) + 1) = some (u + st)
                      · have h9 := (far_next hst1 hn).symm.trans E2.out
                        refine .inl ⟨?_, by rw [← HS3.out]; exact onw_next hn, h9⟩
                        have := follow_ge s1 st 64 (u + st); unfold far at h9; omega
                      · have h9 := (far_stop hn).symm.trans E2.out
                        refine .inr ⟨by omega, by rw [← HS3.out, h9]⟩
                  · have e1 : s2 = above s1 tp := by
                      rcases HOR.out with h | h
                      · exact absurd h.1 hut
                      · exact h.2
                    have HF8 : Hid (∀ i, s2.testBit i = true → 64 ≤ i + G) := Lib.hid (fun i h => HF'.out i (by rw [e1] at h; exact above_sub h))
                    rw [← e1] at HO'
                    clear e1 HOR
                    go_wp2_with (at_builtin; refine wpList_append_own _ rfl _ _ 27 rfl (w.heap.size + 1) 29 i0 (.agg #[.int .i64 0, .int .i64 0, .int .i64 0]) 3 24 Tryd.underlying27 hi hz0 hz1 hz2 rfl (by decide) _ _ _ rfl (World.ownsRow.alloc I6.own _) ⟨(wr).heap.size, 0, none⟩ 1 1 [.int .i64 lo, .int .i64 tp, .int .i64 st] rfl rfl (read3 _ _ _ _ _) (one3 _ _ _) (by have := HD.out; unfold maxLen; omega) (by have := HD.out; omega) (by have := I6.box.lt; simp; omega) ?_)
                    intro v' w9 hown9 hgrow9 _
                    obtain ⟨E1, E2, E3⟩ := I6.appended _ hown9 hgrow9
                    clear hown9 hgrow9
                    go_wp2
                    go_roundg G
                    case measure => omega
                    case rel => exact ⟨_, _, hs2, E1, E2, E3, HF8.out, by have := HD.out; simp; omega, by have := HR'.out; rw [HO'.out] at this; simpa using this⟩
          · have HO' := Lib.hid (show oneRun s1 lo = (⟨lo, lo, 1⟩, s1) from by rw [HO.out, if_neg (by simp [h1, h2])])
            have C := goes_ok s1 b st w.heap.size S hs1 hb64 hst64 w4 hT4.out hc4 hcs4
            rw [decide_eq_false h2] at C
            have C' := Lib.hid C
            clear HO h1 h2 C
            go_wp2_with fail
            rw [HW.out]
            refine C'.out.mono ?_
            rintro e w' ⟨rfl, rfl⟩
            go_wp2_with (at_builtin; refine wpList_append_own _ rfl _ _ 27 rfl (w.heap.size + 1) 29 i0 (.agg #[.int .i64 0, .int .i64 0, .int .i64 0]) 3 24 Tryd.underlying27 hi hz0 hz1 hz2 rfl (by decide) _ _ _ rfl (World.ownsRow.alloc I4.own _) ⟨(w4).heap.size, 0, none⟩ 1 1 [.int .i64 lo, .int .i64 lo, .int .i64 1] rfl rfl (read3 _ _ _ _ _) (one3 _ _ _) (by have := HD.out; unfold maxLen; omega) (by have := HD.out; omega) (by have := I4.box.lt; simp; omega) ?_)
            intro v' w9 hown9 hgrow9 _
            obtain ⟨E1, E2, E3⟩ := I4.appended _ hown9 hgrow9
            clear hown9 hgrow9
            go_wp2
            go_roundg G
            case measure => omega
            case rel => exact ⟨_, _, hs1, E1, E2, E3, HF'.out, by have := HD.out; simp; omega, by have := HR'.out; rw [HO'.out] at this; simpa using this⟩
end Go.Proofs.YtcgnnmpgdnajnaaDoor.BW
