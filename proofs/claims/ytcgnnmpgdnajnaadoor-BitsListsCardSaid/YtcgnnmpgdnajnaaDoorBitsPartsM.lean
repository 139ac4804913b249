/- Plain facts: the runs of a set are its parts. -/
import Derived.Test.YtcgnnmpgdnajnaaDoorBitsWorks
namespace Go.Proofs.YtcgnnmpgdnajnaaDoor.BW
open Go.RowKit BM

theorem rangeS_bit (lo hi st i : Nat) : (rangeS lo hi st).testBit i = (decide (i < 64) && (decide (lo ≤ i) && decide (i ≤ hi) && decide ((i - lo) % st = 0))) := mk_bit _ _

theorem near_rest {i st : Nat} (h1 : 0 < i) (h2 : i < st) : i % st ≠ 0 := by rw [Nat.mod_eq_of_lt h2]; omega

/-- The members from v to the run's end are those at its distance. -/
theorem follow_bits {s st : Nat} (hst : 1 ≤ st) : ∀ (f v : Nat), s.testBit v = true → (BM.follow s st f v - v) % st = 0 ∧ ∀ i, v ≤ i → i ≤ BM.follow s st f v → s.testBit i = decide ((i - v) % st = 0)
  | 0, v, h => by
    refine ⟨by simp [BM.follow], fun i h1 h2 => ?_⟩
    obtain rfl : i = v := by simp only [BM.follow] at h2; omega
    simp [h]
  | f + 1, v, h => by
    simp only [BM.follow]
    split
    · rename_i hn
      obtain ⟨n1, n2, n3, n4⟩ := nx_some.1 hn
      obtain ⟨i1, i2⟩ := follow_bits hst f (v + st) n3
      have hge := follow_ge s st f (v + st)
      refine ⟨?_, fun i h1 h2 => ?_⟩
      · rw [show BM.follow s st f (v + st) - v = BM.follow s st f (v + st) - (v + st) + st from by omega, Nat.add_mod_right]; exact i1
      · rcases Nat.lt_or_ge i (v + st) with hi | hi
        · rcases Nat.eq_or_lt_of_le h1 with e | e
          · subst e; simp [h]
          · rw [n4 i hi (by omega)]
            have := near_rest (i := i - v) (st := st) (by omega) (by omega)
            simp [this]
        · rw [i2 i hi h2]
          rw [show i - v = i - (v + st) + st from by omega, Nat.add_mod_right]
    · refine ⟨by simp, fun i h1 h2 => ?_⟩
      obtain rfl : i = v := by omega
      simp [h]

/-- What one run is of a set whose least member is lo. -/
theorem oneRun_spec {s lo : Nat} (hs : s < 18446744073709551616) (hlo : s.testBit lo = true) (hmin : ∀ i, i < lo → s.testBit i = false) :
    ∃ hi st : Nat, (oneRun (cut s lo) lo).1 = ⟨lo, hi, st⟩ ∧ lo ≤ hi ∧ hi < 64 ∧ 1 ≤ st ∧ (hi - lo) % st = 0 ∧ (lo = hi → st = 1) ∧ (hi - lo = st → st = 1) ∧ (oneRun (cut s lo) lo).2 < 18446744073709551616 ∧
      (∀ i, s.testBit i = ((decide (lo ≤ i) && decide (i ≤ hi) && decide ((i - lo) % st = 0)) || (oneRun (cut s lo) lo).2.testBit i)) ∧
      (∀ i, (oneRun (cut s lo) lo).2.testBit i = true → lo < i ∧ ¬ (i ≤ hi ∧ (i - lo) % st = 0)) := by
  have hlo64 := bit_lt hs hlo
  have hs1 := cut_lt (v := lo) hs
  have hc := cut_bit s lo
  have habove : ∀ i, (cut s lo).testBit i = true → lo < i := by
    intro i h
    rw [hc] at h; simp at h
    apply Nat.lt_of_not_le; intro hle
    rcases Nat.eq_or_lt_of_le hle with e | e
    · exact h.2 e
    · rw [hmin i e] at h; simp at h
  have single : ∀ i, s.testBit i = ((decide (lo ≤ i) && decide (i ≤ lo) && decide ((i - lo) % 1 = 0)) || (cut s lo).testBit i) := by
    intro i
    rw [hc]
    by_cases e : i = lo
    · subst e; simp [hlo]
    · have : (decide (lo ≤ i) && decide (i ≤ lo)) = false := by simp; omega
      simp [this, e]
  cases hn : nx (cut s lo) (lo : Int) with
  | none =>
    have e : oneRun (cut s lo) lo = (⟨lo, lo, 1⟩, cut s lo) := by simp [oneRun, hn]
    rw [e]
    refine ⟨lo, 1, rfl, Nat.le_refl _, hlo64, by omega, by simp, fun _ => rfl, fun _ => rfl, hs1, single, fun i h => ⟨habove i h, fun hh => ?_⟩⟩
    have := habove i h; omega
  | some b =>
    obtain ⟨b1, b2, b3, b4⟩ := nx_some.1 hn
    have hb := habove b b3
    obtain ⟨st, hst⟩ : ∃ st, b - lo = st := ⟨_, rfl⟩
    have hst1 : 1 ≤ st := by omega
    by_cases hg : st = 1 ∨ nx (cut s lo) ((b : Int) + 1) = some (b + st)
    · have e : oneRun (cut s lo) lo = (⟨lo, far (cut s lo) st b, st⟩, above (cut s lo) (far (cut s lo) st b)) := by
        simp only [oneRun, hn]; rw [hst, if_pos hg]
      rw [e]
      obtain ⟨f1, f2⟩ := follow_bits hst1 64 b b3
      have hge := follow_ge (cut s lo) st 64 b
      have hbit := far_bit (st := st) 64 b b3
      have hFlt := bit_lt hs1 hbit
      change (far (cut s lo) st b - b) % st = 0 at f1
      change ∀ i, b ≤ i → i ≤ far (cut s lo) st b → (cut s lo).testBit i = decide ((i - b) % st = 0) at f2
      change b ≤ far (cut s lo) st b at hge
      change far (cut s lo) st b < 64 at hFlt
      have hlong : st ≠ 1 → far (cut s lo) st b ≠ b := by
        intro h1
        have hn2 := hg.resolve_left h1
        rw [far_next hst1 hn2]
        have := follow_ge (cut s lo) st 64 (b + st)
        unfold far; omega
      generalize far (cut s lo) st b = F at *
      have hrest : ∀ i, b ≤ i → (i - lo) % st = (i - b) % st := by
        intro i hi
        rw [show i - lo = i - b + st from by omega, Nat.add_mod_right]
      refine ⟨F, st, rfl, by omega, hFlt, hst1, ?_, by omega, fun h => ?_, above_lt hs1, fun i => ?_, fun i h => ?_⟩
      · rw [hrest F hge]; exact f1
      · apply Classical.byContradiction; intro h1
        exact hlong h1 (by omega)
      · rw [above_bit]
        rcases Nat.lt_trichotomy i lo with h | h | h
        · have h1 : ¬ lo ≤ i := by omega
          have h2 : ¬ F < i := by omega
          simp [hmin i h, h1, h2]
        · subst h
          have : i ≤ F := by omega
          simp [hlo, this]
        · have hcs : (cut s lo).testBit i = s.testBit i := by
            rw [hc]
            have : i ≠ lo := by omega
            simp [this]
          have h0 : lo ≤ i := by omega
          rcases Nat.lt_or_ge F i with hF | hF
          · have h1 : ¬ i ≤ F := by omega
            simp [hF, h1, hcs]
          · have h2 : ¬ F < i := by omega
            rw [← hcs]
            rcases Nat.lt_or_ge i b with hib | hib
            · have := near_rest (i := i - lo) (st := st) (by omega) (by omega)
              rw [b4 i hib (by omega)]
              simp [this, h2]
            · rw [f2 i hib hF, hrest i hib]
              simp [h0, hF, h2]
      · rw [above_bit] at h
        simp at h
        exact ⟨by omega, fun hh => by omega⟩
    · have e : oneRun (cut s lo) lo = (⟨lo, lo, 1⟩, cut s lo) := by
        simp only [oneRun, hn]; rw [hst, if_neg hg]
      rw [e]
      refine ⟨lo, 1, rfl, Nat.le_refl _, hlo64, by omega, by simp, fun _ => rfl, fun _ => rfl, hs1, single, fun i h => ⟨habove i h, fun hh => ?_⟩⟩
      have := habove i h; omega

/-- The set of a run; of some runs. -/
def setR (r : Run) : Nat := rangeS r.lo.toNat r.hi.toNat r.st.toNat
def un : List Run → Nat
  | [] => 0
  | r :: rs => setR r ||| un rs
theorem un_snoc (rs : List Run) (r : Run) : un (rs ++ [r]) = un rs ||| setR r := by
  induction rs with
  | nil => simp [un]
  | cons q rs ih => simp only [List.cons_append, un, ih, Nat.or_assoc]
/-- A run as the law wants it. -/
structure GoodR (r : Run) : Prop where
  lo : 0 ≤ r.lo
  le : r.lo ≤ r.hi
  hi : r.hi < 64
  st : 1 ≤ r.st
  div : (r.hi.toNat - r.lo.toNat) % r.st.toNat = 0
  one : r.lo = r.hi → r.st = 1
  two : r.hi - r.lo = r.st → r.st = 1

theorem parts : ∀ (f s : Nat), s < 18446744073709551616 → (∀ i, s.testBit i = true → 64 ≤ i + f) → un (runsF f s) = s ∧
    ∀ xs r ys, runsF f s = xs ++ r :: ys → GoodR r ∧ setR r &&& un xs = 0 ∧ (∀ q, q ∈ xs → q.lo < r.lo) ∧ s.testBit r.lo.toNat = true
  | 0, s, hs, h => by
    have h0 : s = 0 := by
      apply Nat.eq_of_testBit_eq; intro i
      rw [Nat.zero_testBit]
      cases hb : s.testBit i with
      | false => rfl
      | true => have := h i hb; have := bit_lt hs hb; omega
    subst h0
    exact ⟨rfl, fun xs r ys h => by simp [runsF] at h⟩
  | f + 1, s, hs, h => by
    by_cases h0 : s = 0
    · subst h0
      exact ⟨by simp [runsF, un], fun xs r ys h => by simp [runsF] at h⟩
    · obtain ⟨c1, c2, c3⟩ := ctz_spec s h0 hs
      generalize hlo : Lib.ctz 64 s = lo at *
      obtain ⟨hi, st, e1, h1, h2, h3, h4, h5, h6, h7, h8, h9⟩ := oneRun_spec hs c2 c3
      have hr : runsF (f + 1) s = (oneRun (cut s lo) lo).1 :: runsF f (oneRun (cut s lo) lo).2 := by
        simp only [runsF, h0, if_false, hlo]
      rw [e1] at hr
      generalize (oneRun (cut s lo) lo).2 = s' at *
      have hss : ∀ i, s'.testBit i = true → s.testBit i = true := fun i hi => by rw [h8, hi]; simp
      obtain ⟨i1, i2⟩ := parts f s' h7 (fun i hi => by
        have := h9 i hi; have := h _ c2; omega)
      have hset : ∀ i, (setR ⟨lo, hi, st⟩).testBit i = (decide (lo ≤ i) && decide (i ≤ hi) && decide ((i - lo) % st = 0)) := by
        intro i
        unfold setR
        rw [rangeS_bit]
        simp only [Int.toNat_natCast]
        by_cases hi64 : i < 64
        · simp [hi64]
        · have : ¬ i ≤ hi := by omega
          simp [this]
      refine ⟨?_, fun xs r ys hx => ?_⟩
      · rw [hr]
        simp only [un, i1]
        apply Nat.eq_of_testBit_eq; intro i
        rw [Nat.testBit_or, hset, h8]
      · rw [hr] at hx
        cases xs with
        | nil =>
          simp only [List.nil_append, List.cons.injEq] at hx
          obtain ⟨rfl, rfl⟩ := hx
          refine ⟨⟨by simp, by simp; omega, by simp; omega, by simp; omega, by simpa using h4, ?_, ?_⟩, by simp [un], by simp, by simpa using c2⟩
          · intro e; have e2 : (lo : Int) = hi := e; have := h5 (by omega); simp [this]
          · intro e; have e2 : (hi : Int) - lo = st := e; have := h6 (by omega); simp [this]
        | cons q xs =>
          simp only [List.cons_append, List.cons.injEq] at hx
          obtain ⟨rfl, hx⟩ := hx
          obtain ⟨j1, j2, j3, j4⟩ := i2 xs r ys hx
          have hlt := (h9 _ j4).1
          refine ⟨j1, ?_, ?_, hss _ j4⟩
          · apply Nat.eq_of_testBit_eq; intro i
            have hj2 := congrArg (fun n => n.testBit i) j2
            simp only [Nat.testBit_and, Nat.zero_testBit] at hj2
            simp only [un, Nat.testBit_and, Nat.testBit_or, Nat.zero_testBit, hset]
            cases hb : (setR r).testBit i with
            | false => simp
            | true =>
              rw [hb] at hj2
              simp only [Bool.true_and] at hj2 ⊢
              rw [hj2, Bool.or_false]
              have hmem : s'.testBit i = true := by
                rw [← i1, hx]
                have : ∀ (l : List Run) (r : Run) (m : List Run), (setR r).testBit i = true → (un (l ++ r :: m)).testBit i = true := by
                  intro l r m hh
                  induction l with
                  | nil => simp [un, hh]
                  | cons a l ih => simp [un, ih]
                exact this xs r ys hb
              have := (h9 i hmem).2
              have := (h9 i hmem).1
              by_cases hz : (i - lo) % st = 0
              · have : ¬ i ≤ hi := fun hle => (h9 i hmem).2 ⟨hle, hz⟩
                simp [this]
              · simp [hz]
          · intro q hq
            rcases List.mem_cons.1 hq with rfl | hq
            · have := j1.lo
              show (lo : Int) < r.lo
              omega
            · exact j3 q hq
end Go.Proofs.YtcgnnmpgdnajnaaDoor.BW
