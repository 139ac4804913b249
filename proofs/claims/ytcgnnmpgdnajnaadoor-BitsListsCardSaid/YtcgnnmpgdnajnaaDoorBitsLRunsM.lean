/- Plain facts: the reference's runs of the list of a set are the runs of the set. -/
import Derived.Test.YtcgnnmpgdnajnaaDoorBitsInsideW
import Derived.Test.YtcgnnmpgdnajnaaDoorBitsListM
namespace Go.Proofs.YtcgnnmpgdnajnaaDoor.BW
open Go.RowKit BM

/-- How far a list goes on at a distance, from index n on. -/
def ext (ys : List Nat) (st : Int) : Nat → Nat → Nat
  | 0, n => n
  | f + 1, n => if ((ys.getD n 0 : Nat) : Int) - ((ys.getD (n - 1) 0 : Nat) : Int) = st then ext ys st f (n + 1) else n
theorem ext_ge (ys : List Nat) (st : Int) : ∀ f n, n ≤ ext ys st f n
  | 0, n => Nat.le_refl _
  | f + 1, n => by
    simp only [ext]
    split
    · have := ext_ge ys st f (n + 1); omega
    · exact Nat.le_refl _
theorem ext_le (ys : List Nat) (st : Int) : ∀ f n, ext ys st f n ≤ n + f
  | 0, n => Nat.le_refl _
  | f + 1, n => by
    simp only [ext]
    split
    · have := ext_le ys st f (n + 1); omega
    · omega
/-- The length and the step of the first run of a list. -/
def stOf (ys : List Nat) : Int := ((ys.getD 1 0 : Nat) : Int) - ((ys.getD 0 0 : Nat) : Int)
def lhead (ys : List Nat) : Nat × Int :=
  if ys.length ≤ 1 then (1, 1) else if ext ys (stOf ys) (ys.length - 2) 2 = 2 ∧ 1 < stOf ys then (1, 1) else (ext ys (stOf ys) (ys.length - 2) 2, stOf ys)
def lrun (ys : List Nat) : Run := ⟨((ys.getD 0 0 : Nat) : Int), ((ys.getD ((lhead ys).1 - 1) 0 : Nat) : Int), (lhead ys).2⟩
def lruns : Nat → List Nat → List Run
  | 0, _ => []
  | f + 1, ys => if ys = [] then [] else lrun ys :: lruns f (ys.drop (lhead ys).1)

theorem mem_sorted (s : Nat) : (mem s).Pairwise (· < ·) := List.Pairwise.filter _ List.pairwise_lt_range
theorem mem_after {s v : Nat} {xs post : List Nat} (h : mem s = xs ++ v :: post) : mem (above s v) = post := by
  have e : mem (above s v) = (mem s).filter fun i => decide (v < i) := by
    unfold mem
    rw [List.filter_filter]
    apply List.filter_congr
    intro i _
    rw [above_bit]
  have hs := mem_sorted s
  rw [h] at hs e
  rw [e, List.filter_append, List.filter_cons_of_neg (by simp)]
  obtain ⟨_, h2, h3⟩ := List.pairwise_append.1 hs
  have e1 : xs.filter (fun i => decide (v < i)) = [] := by
    rw [List.filter_eq_nil_iff]; intro i hi
    have := h3 i hi v (List.mem_cons_self ..)
    simp; omega
  have e2 : post.filter (fun i => decide (v < i)) = post := by
    rw [List.filter_eq_self]; intro i hi
    have := (List.pairwise_cons.1 h2).1 i hi
    simp [this]
  rw [e1, e2]
  rfl
theorem nx_head (s : Nat) : nx s 0 = (mem s).head? := by
  unfold mem nx
  rw [List.head?_filter]
  congr 1
theorem nx_after {s v : Nat} {xs post : List Nat} (h : mem s = xs ++ v :: post) : nx s ((v : Int) + 1) = post.head? := by
  rw [← nx_above, nx_head, mem_after h]

theorem getD_tail {ys t : List Nat} {lo : Nat} (hy : ys = lo :: t) {i : Nat} (hi : 1 ≤ i) (h : i - 1 < t.length) : ys.getD i 0 = t[i - 1] := by
  subst hy
  obtain ⟨j, rfl⟩ : ∃ j, i = j + 1 := ⟨i - 1, by omega⟩
  rw [List.getD_cons_succ, List.getD_eq_getElem?_getD, List.getElem?_eq_getElem (by simpa using h)]
  rfl
/-- The run's end and what is left, along the list. -/
theorem far_ext {s lo st : Nat} (hst : 1 ≤ st) {ys : List Nat} (hy : ys = lo :: mem s) : ∀ (f i : Nat), 2 ≤ i → i + f = ys.length →
    ys.getD (ext ys st f i - 1) 0 = far s st (ys.getD (i - 1) 0) ∧ mem (above s (far s st (ys.getD (i - 1) 0))) = ys.drop (ext ys st f i) := by
  intro f
  induction f with
  | zero =>
    intro i hi hl
    have hlen : ys.length = (mem s).length + 1 := by rw [hy]; simp
    have hsplit : mem s = (mem s).take (i - 2) ++ (mem s)[i - 2]'(by omega) :: [] := by
      conv => lhs; rw [← List.take_append_drop (i - 2) (mem s)]
      rw [List.drop_eq_getElem_cons (by omega), List.drop_of_length_le (by omega)]
    have hv : ys.getD (i - 1) 0 = (mem s)[i - 2]'(by omega) := getD_tail hy (i := i - 1) (by omega) (by omega)
    rw [← hv] at hsplit
    have hn := nx_after hsplit
    have hfar : far s st (ys.getD (i - 1) 0) = ys.getD (i - 1) 0 := far_stop (by rw [hn]; simp)
    rw [hfar]
    refine ⟨rfl, ?_⟩
    rw [mem_after hsplit]
    simp only [ext]
    rw [List.drop_of_length_le (by omega)]
  | succ f ih =>
    intro i hi hl
    have hlen : ys.length = (mem s).length + 1 := by rw [hy]; simp
    have hsplit : mem s = (mem s).take (i - 2) ++ (mem s)[i - 2]'(by omega) :: (mem s).drop (i - 1) := by
      conv => lhs; rw [← List.take_append_drop (i - 2) (mem s)]
      rw [List.drop_eq_getElem_cons (by omega), show i - 2 + 1 = i - 1 from by omega]
    have hv : ys.getD (i - 1) 0 = (mem s)[i - 2]'(by omega) := getD_tail hy (i := i - 1) (by omega) (by omega)
    have hu : ys.getD i 0 = (mem s)[i - 1]'(by omega) := getD_tail hy (by omega) (by omega)
    rw [← hv] at hsplit
    have hn := nx_after hsplit
    rw [List.drop_eq_getElem_cons (by omega), List.head?_cons, ← hu] at hn
    simp only [ext]
    by_cases hd : ((ys.getD i 0 : Nat) : Int) - ((ys.getD (i - 1) 0 : Nat) : Int) = st
    · rw [if_pos hd]
      have hu2 : ys.getD i 0 = ys.getD (i - 1) 0 + st := by omega
      have := ih (i + 1) (by omega) (by omega)
      rw [show i + 1 - 1 = i from by omega] at this
      rw [far_next hst (by rw [hn, hu2]), ← hu2]
      exact this
    · rw [if_neg hd]
      have hfar : far s st (ys.getD (i - 1) 0) = ys.getD (i - 1) 0 := far_stop (by rw [hn]; intro h; have := Option.some.inj h; omega)
      rw [hfar]
      refine ⟨rfl, ?_⟩
      rw [mem_after hsplit, hy, show i = i - 1 + 1 from by omega, List.drop_succ_cons]
      rfl

theorem lruns_eq : ∀ (f s : Nat), s < 18446744073709551616 → runsF f s = lruns f (mem s)
  | 0, s, _ => rfl
  | f + 1, s, hs => by
    by_cases h0 : s = 0
    · subst h0; simp [runsF, lruns, mem_zero]
    · obtain ⟨c1, c2, c3⟩ := ctz_spec s h0 hs
      have hr : runsF (f + 1) s = (oneRun (cut s (Lib.ctz 64 s)) (Lib.ctz 64 s)).1 :: runsF f (oneRun (cut s (Lib.ctz 64 s)) (Lib.ctz 64 s)).2 := by
        simp only [runsF, h0, if_false]
      have hm := mem_next c1 c2 c3
      have hs1 := cut_lt (v := Lib.ctz 64 s) hs
      have habove : ∀ i, (cut s (Lib.ctz 64 s)).testBit i = true → Lib.ctz 64 s < i := by
        intro i h
        rw [cut_bit] at h; simp at h
        apply Nat.lt_of_not_le; intro hle
        rcases Nat.eq_or_lt_of_le hle with e | e
        · exact h.2 e
        · rw [c3 i e] at h; simp at h
      generalize Lib.ctz 64 s = lo at *
      generalize cut s lo = s1 at *
      rw [hr, lruns, if_neg (by rw [hm]; simp)]
      suffices hh : (oneRun s1 lo).1 = lrun (mem s) ∧ mem (oneRun s1 lo).2 = (mem s).drop (lhead (mem s)).1 ∧ (oneRun s1 lo).2 < 18446744073709551616 by
        rw [hh.1, lruns_eq f _ hh.2.2, hh.2.1]
      cases hms : mem s1 with
      | nil =>
        have hn : nx s1 (lo : Int) = none := nx_none.2 fun i hi _ => by
          rw [Bool.eq_false_iff]; intro hb
          have : i ∈ mem s1 := mem_mem.2 ⟨hi, hb⟩
          rw [hms] at this; cases this
        have e : oneRun s1 lo = (⟨lo, lo, 1⟩, s1) := by simp [oneRun, hn]
        rw [e, hm, hms]
        exact ⟨rfl, rfl, hs1⟩
      | cons b zs =>
        have hb := mem_mem.1 (show b ∈ mem s1 from by rw [hms]; exact List.mem_cons_self ..)
        have hlb := habove b hb.2
        have hn : nx s1 (lo : Int) = some b := by
          refine nx_some.2 ⟨hb.1, by omega, hb.2, fun i hi _ => ?_⟩
          rw [Bool.eq_false_iff]; intro hbi
          have hi2 : i ∈ mem s1 := mem_mem.2 ⟨by omega, hbi⟩
          rw [hms] at hi2
          rcases List.mem_cons.1 hi2 with e | e
          · omega
          · have hsd := mem_sorted s1
            rw [hms] at hsd
            have := (List.pairwise_cons.1 hsd).1 i e
            omega
        obtain ⟨st, hst⟩ : ∃ st, b - lo = st := ⟨_, rfl⟩
        have hst1 : 1 ≤ st := by omega
        have hys : mem s = lo :: mem s1 := hm
        have hlen : ¬ (mem s).length ≤ 1 := by rw [hm, hms]; simp
        have hstO : stOf (mem s) = (st : Int) := by
          rw [hm, hms]; simp [stOf]; omega
        have g1 : (mem s).getD (2 - 1) 0 = b := by rw [hm, hms]; rfl
        have g0 : (mem s).getD 0 0 = lo := by rw [hm]; rfl
        have hl2 : 2 + ((mem s).length - 2) = (mem s).length := by omega
        obtain ⟨f1, f2⟩ := far_ext hst1 hys ((mem s).length - 2) 2 (Nat.le_refl _) hl2
        rw [g1] at f1 f2
        have hge := ext_ge (mem s) st ((mem s).length - 2) 2
        have hcond : (st = 1 ∨ nx s1 ((b : Int) + 1) = some (b + st)) ↔ ¬ (ext (mem s) (st : Int) ((mem s).length - 2) 2 = 2 ∧ (1 : Int) < st) := by
          have hnx : nx s1 ((b : Int) + 1) = zs.head? := nx_after (xs := []) (by rw [hms]; rfl)
          have hext : ext (mem s) (st : Int) ((mem s).length - 2) 2 = 2 ↔ nx s1 ((b : Int) + 1) ≠ some (b + st) := by
            rw [hnx, hm, hms]
            cases zs with
            | nil => simp [ext]
            | cons u us =>
              simp only [List.length_cons, List.head?_cons]
              rw [show us.length + 1 + 1 + 1 - 2 = us.length + 1 from by omega]
              simp only [ext]
              rw [show (lo :: b :: u :: us).getD 2 0 = u from rfl, show (lo :: b :: u :: us).getD (2 - 1) 0 = b from rfl]
              split
              · rename_i h
                have := ext_ge (lo :: b :: u :: us) st us.length (2 + 1)
                constructor
                · intro h2; omega
                · intro h2; exact absurd (show some u = some (b + st) from by congr 1; omega) h2
              · rename_i h
                constructor
                · intro _ h2; have := Option.some.inj h2; omega
                · intro _; rfl
          rw [hext]
          constructor
          · rintro (h | h)
            · omega
            · exact fun h2 => h2.1 h
          · intro h
            by_cases h1 : st = 1
            · exact .inl h1
            · right
              apply Classical.byContradiction; intro h2
              exact h ⟨h2, by omega⟩
        by_cases hg : st = 1 ∨ nx s1 ((b : Int) + 1) = some (b + st)
        · have e : oneRun s1 lo = (⟨lo, far s1 st b, st⟩, above s1 (far s1 st b)) := by simp only [oneRun, hn]; rw [hst, if_pos hg]
          have hl : lhead (mem s) = (ext (mem s) (st : Int) ((mem s).length - 2) 2, (st : Int)) := by
            unfold lhead; rw [if_neg hlen, hstO, if_neg (hcond.1 hg)]
          rw [e]
          refine ⟨?_, ?_, above_lt hs1⟩
          · unfold lrun; rw [hl, g0]; simp only; rw [f1]
          · rw [hl]; exact f2
        · have e : oneRun s1 lo = (⟨lo, lo, 1⟩, s1) := by simp only [oneRun, hn]; rw [hst, if_neg hg]
          have hl : lhead (mem s) = (1, 1) := by
            unfold lhead; rw [if_neg hlen, hstO, if_pos (Classical.not_not.1 (fun h => hg (hcond.2 h)))]
          rw [e]
          refine ⟨?_, ?_, hs1⟩
          · unfold lrun; rw [hl, g0]; simp only [Nat.sub_self]; rw [g0]
          · rw [hl, hm]; rfl
end Go.Proofs.YtcgnnmpgdnajnaaDoor.BW
