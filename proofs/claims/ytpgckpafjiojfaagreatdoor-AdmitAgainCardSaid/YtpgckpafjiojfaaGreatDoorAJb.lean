/- A gate that is brought into a state, plainly. -/
import Derived.Test.YtpgckpafjiojfaaGreatDoorAJa
namespace Go.Proofs.YtpgckpafjiojfaaGreatDoor.AD
open Go Go.RowKit BW
open BK (Bx BoxAt Blk only_refl only_drew only_drewN only_setCell only_trans only_of_below only_alloc below_drewN)
/-- The state of a box: until when, failures, successes, probes under way. -/
structure Bs where
  un : Int
  fa : Int
  go : Int
  ud : Int
def possB (f o p : Int) (s : Bs) (now : Int) : Bool :=
  if s.fa < 0 ∨ s.go < 0 ∨ s.ud < 0 then false
  else if s.un = 0 then decide (s.go = 0 ∧ s.ud = 0 ∧ (s.fa = 0 ∨ s.fa < f))
  else if f = 0 ∨ s.fa ≠ 0 ∨ s.un < o ∨ now + o < s.un then false
  else if now < s.un then decide (s.go = 0 ∧ s.ud = 0)
  else decide (s.go < p ∧ s.ud ≤ p - s.go)
def bringB (f o p : Int) (s : Bs) (now : Int) : Bx :=
  if s.un = 0 then ⟨f, o, p, false, 0, s.fa, 0, 0, if s.fa = 0 then 0 else now⟩
  else ⟨f, o, p, true, s.un, 0, s.go, s.ud, if s.go + s.ud = 0 then s.un - o else s.un⟩
/-- What is possible, in parts. -/
theorem poss_shut {f o p now : Int} {s : Bs} (h : possB f o p s now = true) (hu : s.un = 0) : 0 ≤ s.fa ∧ s.go = 0 ∧ s.ud = 0 ∧ (s.fa = 0 ∨ s.fa < f) := by
  unfold possB at h
  by_cases h1 : s.fa < 0 ∨ s.go < 0 ∨ s.ud < 0
  · rw [if_pos h1] at h; cases h
  · rw [if_neg h1, if_pos hu, decide_eq_true_eq] at h
    omega
theorem poss_open {f o p now : Int} {s : Bs} (h : possB f o p s now = true) (hu : s.un ≠ 0) : f ≠ 0 ∧ s.fa = 0 ∧ 0 ≤ s.go ∧ 0 ≤ s.ud ∧ o ≤ s.un ∧ s.un ≤ now + o ∧ ((now < s.un ∧ s.go = 0 ∧ s.ud = 0) ∨ (s.un ≤ now ∧ s.go < p ∧ s.go + s.ud ≤ p)) := by
  unfold possB at h
  by_cases h1 : s.fa < 0 ∨ s.go < 0 ∨ s.ud < 0
  · rw [if_pos h1] at h; cases h
  · rw [if_neg h1, if_neg hu] at h
    by_cases h2 : f = 0 ∨ s.fa ≠ 0 ∨ s.un < o ∨ now + o < s.un
    · rw [if_pos h2] at h; cases h
    · rw [if_neg h2] at h
      by_cases h3 : now < s.un
      · rw [if_pos h3, decide_eq_true_eq] at h
        omega
      · rw [if_neg h3, decide_eq_true_eq] at h
        omega
theorem check0 {x : Bx} {t : Int} (ht : timeB t = true) (hl : x.last ≤ t) : BK.check x t = 0 := by
  have := timeB_iff.1 ht
  unfold BK.check
  rw [if_neg (show ¬ (t < 0 ∨ BK.maxTime < t) by unfold BK.maxTime; omega), if_neg (by omega)]
theorem br_fail {f o p k l t : Int} (ht : timeB t = true) (hl : l ≤ t) (hf : f ≠ 0) (hk : k + 1 < f) : BK.report ⟨f, o, p, false, 0, k, 0, 0, l⟩ false t = (0, 0, ⟨f, o, p, false, 0, k + 1, 0, 0, t⟩) := by
  unfold BK.report
  rw [check0 ht hl, if_neg (by decide), if_neg hf]
  unfold BK.ended BK.closed BK.seen
  simp only [if_true, Bool.false_eq_true, if_false]
  rw [if_pos hk]
theorem br_trip {f o p t : Int} (ht : timeB t = true) (hf : f ≠ 0) : BK.trip ⟨f, o, p, false, 0, 0, 0, 0, 0⟩ t = (0, ⟨f, o, p, true, t + o, 0, 0, 0, t⟩) := by
  have h0 := (timeB_iff.1 ht).1
  unfold BK.trip BK.switched
  rw [check0 ht h0]
  simp only [ne_eq, not_true_eq_false, if_false]
  rw [if_neg hf]
  rfl
theorem br_take {f o p un g u l : Int} (ht : timeB un = true) (hl : l ≤ un) (hp : g + u < p) : BK.take ⟨f, o, p, true, un, 0, g, u, l⟩ un = (0, ⟨f, o, p, true, un, 0, g, u + 1, un⟩) := by
  have ha : BK.allows ⟨f, o, p, true, un, 0, g, u, l⟩ un = true := by
    unfold BK.allows
    simp only [Bool.true_eq_false, if_false]
    rw [if_neg (by omega)]
    exact decide_eq_true hp
  unfold BK.take
  rw [check0 ht hl, ha]
  simp only [ne_eq, not_true_eq_false, if_false, Bool.true_eq_false]
  rw [if_pos ⟨trivial, Int.le_refl _⟩]
  rfl
theorem br_good {f o p un g u l : Int} (ht : timeB un = true) (hl : l ≤ un) (hf : f ≠ 0) (hu : u ≠ 0) (hp : g + 1 < p) : BK.report ⟨f, o, p, true, un, 0, g, u, l⟩ true un = (0, 0, ⟨f, o, p, true, un, 0, g + 1, u - 1, un⟩) := by
  unfold BK.report
  rw [check0 ht hl, if_neg (by decide), if_neg hf]
  unfold BK.ended BK.half BK.seen
  simp only [Bool.true_eq_false, if_false, Int.lt_irrefl]
  rw [if_neg hu, if_pos hp]
theorem bring_inv {f o p now : Int} {s : Bs} (hr : BK.zero f o p = true ∨ BK.ruled f o p = true) (ht : timeB now = true) (h : possB f o p s now = true) : BK.Inv (bringB f o p s now) := by
  have hn := timeB_iff.1 ht
  unfold BK.zero BK.ruled BK.maxSpan at hr
  simp only [decide_eq_true_eq] at hr
  unfold bringB
  by_cases hu : s.un = 0
  · have := poss_shut h hu
    rw [if_pos hu]
    refine ⟨?_, ?_, ?_, this.1, Int.le_refl _, Int.le_refl _, fun _ => ⟨rfl, rfl, rfl⟩, fun ho => by cases ho⟩
    · show (f = 0 ∧ o = 0 ∧ p = 0 ∧ false = false ∧ s.fa = 0) ∨ (1 ≤ f ∧ f ≤ 100 ∧ 1 ≤ o ∧ o ≤ BK.maxSpan ∧ 1 ≤ p ∧ p ≤ 100 ∧ s.fa < f)
      unfold BK.maxSpan
      rcases hr with hr | hr
      · exact .inl ⟨hr.1, hr.2.1, hr.2.2, rfl, by omega⟩
      · exact .inr (by omega)
    · show 0 ≤ (if s.fa = 0 then (0 : Int) else now)
      split <;> omega
    · show (if s.fa = 0 then (0 : Int) else now) ≤ BK.maxTime
      unfold BK.maxTime
      split <;> omega
  · have := poss_open h hu
    rw [if_neg hu]
    refine ⟨?_, ?_, ?_, Int.le_refl _, this.2.2.1, this.2.2.2.1, (fun ho => by cases ho), fun _ => ⟨rfl, ?_, ?_, ?_, ?_⟩⟩
    · show (f = 0 ∧ _) ∨ (1 ≤ f ∧ f ≤ 100 ∧ 1 ≤ o ∧ o ≤ BK.maxSpan ∧ 1 ≤ p ∧ p ≤ 100 ∧ (0 : Int) < f)
      unfold BK.maxSpan
      right
      omega
    · show 0 ≤ (if s.go + s.ud = 0 then s.un - o else s.un)
      split <;> omega
    · show (if s.go + s.ud = 0 then s.un - o else s.un) ≤ BK.maxTime
      unfold BK.maxTime
      split <;> omega
    · show 0 ≤ s.un
      omega
    · show s.un ≤ BK.maxTime + BK.maxSpan
      unfold BK.maxTime BK.maxSpan
      omega
    · show s.go + s.ud ≤ p
      omega
    · show s.go < p
      omega
theorem poss_mk {f o p now : Int} {s : Bs} (h : (s.un = 0 ∧ 0 ≤ s.fa ∧ s.go = 0 ∧ s.ud = 0 ∧ (s.fa = 0 ∨ s.fa < f)) ∨ (s.un ≠ 0 ∧ f ≠ 0 ∧ s.fa = 0 ∧ 0 ≤ s.go ∧ 0 ≤ s.ud ∧ o ≤ s.un ∧ s.un ≤ now + o ∧ ((now < s.un ∧ s.go = 0 ∧ s.ud = 0) ∨ (s.un ≤ now ∧ s.go < p ∧ s.go + s.ud ≤ p)))) : possB f o p s now = true := by
  unfold possB
  rw [if_neg (by omega)]
  by_cases hu : s.un = 0
  · rw [if_pos hu, decide_eq_true_eq]
    omega
  · rw [if_neg hu, if_neg (by omega)]
    by_cases h3 : now < s.un
    · rw [if_pos h3, decide_eq_true_eq]; omega
    · rw [if_neg h3, decide_eq_true_eq]; omega
section
variable {f o p now : Int}
theorem bring_fresh : bringB f o p ⟨0, 0, 0, 0⟩ now = BK.fresh f o p := rfl
theorem bring_fail (ht : timeB now = true) {k : Int} (hk0 : 0 ≤ k) (hk : k + 1 < f) : BK.report (bringB f o p ⟨0, k, 0, 0⟩ now) false now = (0, 0, bringB f o p ⟨0, k + 1, 0, 0⟩ now) := by
  have hn := timeB_iff.1 ht
  have e1 : bringB f o p ⟨0, k, 0, 0⟩ now = ⟨f, o, p, false, 0, k, 0, 0, if k = 0 then 0 else now⟩ := if_pos rfl
  have e2 : bringB f o p ⟨0, k + 1, 0, 0⟩ now = ⟨f, o, p, false, 0, k + 1, 0, 0, now⟩ := by
    unfold bringB
    rw [if_pos rfl]
    simp only
    rw [if_neg (by omega)]
  rw [e1, e2]
  exact br_fail ht (by split <;> omega) (by omega) hk
theorem bring_trip {un : Int} (hf : f ≠ 0) (hu : un ≠ 0) (ht : timeB (un - o) = true) : BK.trip (bringB f o p ⟨0, 0, 0, 0⟩ now) (un - o) = (0, bringB f o p ⟨un, 0, 0, 0⟩ now) := by
  have e2 : bringB f o p ⟨un, 0, 0, 0⟩ now = ⟨f, o, p, true, un, 0, 0, 0, un - o⟩ := by
    unfold bringB
    rw [if_neg hu]
    rfl
  rw [e2]
  have := br_trip (f := f) (o := o) (p := p) ht hf
  rw [show un - o + o = un by omega] at this
  exact this
theorem bring_take {un j : Int} (hu : un ≠ 0) (ho : 0 ≤ o) (ht : timeB un = true) (hj0 : 0 ≤ j) (hj : j < p) : BK.take (bringB f o p ⟨un, 0, 0, j⟩ now) un = (0, bringB f o p ⟨un, 0, 0, j + 1⟩ now) := by
  have e1 : bringB f o p ⟨un, 0, 0, j⟩ now = ⟨f, o, p, true, un, 0, 0, j, if (0 : Int) + j = 0 then un - o else un⟩ := if_neg hu
  have e2 : bringB f o p ⟨un, 0, 0, j + 1⟩ now = ⟨f, o, p, true, un, 0, 0, j + 1, un⟩ := by
    unfold bringB
    rw [if_neg hu]
    simp only
    rw [if_neg (by omega)]
  rw [e1, e2]
  exact br_take ht (by split <;> omega) (by omega)
theorem bring_good {un q t : Int} (hf : f ≠ 0) (hu : un ≠ 0) (ht : timeB un = true) (hq0 : 0 ≤ q) (hq : q < t) (hp : q + 1 < p) : BK.report (bringB f o p ⟨un, 0, q, t - q⟩ now) true un = (0, 0, bringB f o p ⟨un, 0, q + 1, t - (q + 1)⟩ now) := by
  have e1 : bringB f o p ⟨un, 0, q, t - q⟩ now = ⟨f, o, p, true, un, 0, q, t - q, un⟩ := by
    unfold bringB
    rw [if_neg hu]
    simp only
    rw [if_neg (by omega)]
  have e2 : bringB f o p ⟨un, 0, q + 1, t - (q + 1)⟩ now = ⟨f, o, p, true, un, 0, q + 1, t - q - 1, un⟩ := by
    unfold bringB
    rw [if_neg hu]
    simp only
    rw [if_neg (by omega), show t - (q + 1) = t - q - 1 by omega]
  rw [e1, e2]
  exact br_good ht (Int.le_refl _) hf (by omega) hp
end
/-- A box's own state is possible, and what is brought into it is alike. -/
theorem bring_self {x : Bx} {now : Int} (hi : BK.Inv x) (hr : BxR x) (hl : x.last ≤ now) : possB x.f x.o x.p ⟨BK.untilOf x, x.fails, x.good, x.under⟩ now = true ∧ BxA x (bringB x.f x.o x.p ⟨BK.untilOf x, x.fails, x.good, x.under⟩ now) now := by
  have h0 := hi.last0
  have h1 := hi.rule
  have h2 := hi.fails0
  have h3 := hi.good0
  have h4 := hi.under0
  cases ho : x.op
  · have hs := hi.shut ho
    have hu : BK.untilOf x = 0 := by unfold BK.untilOf; rw [ho]; rfl
    rw [hu]
    refine ⟨?_, ?_⟩
    · unfold possB
      rw [if_neg (by simp only; omega), if_pos rfl, decide_eq_true_eq]
      simp only
      omega
    · unfold bringB
      rw [if_pos rfl]
      refine ⟨rfl, rfl, rfl, ho, hs.1, rfl, hs.2.1, hs.2.2, hl, ?_⟩
      show (if x.fails = 0 then (0 : Int) else now) ≤ now
      split <;> omega
  · have hs := hi.opened ho
    have hq := hr ho
    have hu : BK.untilOf x = x.un := by unfold BK.untilOf; rw [ho]; rfl
    rw [hu]
    have hf : 1 ≤ x.f ∧ 1 ≤ x.o := by
      rcases h1 with h1 | h1
      · rw [ho] at h1; exact absurd h1.2.2.2.1 (by decide)
      · omega
    have hun : x.un ≠ 0 := by omega
    refine ⟨?_, ?_⟩
    · unfold possB
      rw [if_neg (by simp only; omega), if_neg hun, if_neg (by simp only; omega)]
      simp only
      split
      · rw [decide_eq_true_eq]; omega
      · rw [decide_eq_true_eq]; omega
    · unfold bringB
      rw [if_neg hun]
      refine ⟨rfl, rfl, rfl, ho, rfl, hs.1, rfl, rfl, hl, ?_⟩
      show (if x.good + x.under = 0 then x.un - x.o else x.un) ≤ now
      split <;> omega
theorem lm_self {x : Lm} {now : Int} (hi : x.Inv) (hl : x.last ≤ now) (ht : timeB now = true) : ∃ l, lmR x.t x.tau x.arr now = (some l, 0) ∧ LmA x l now := by
  have hn := timeB_iff.1 ht
  have h0 := hi.t0
  unfold lmR Lm.arr
  rw [ht, if_neg (by decide)]
  cases hs : x.so
  · have := hi.no hs
    refine ⟨_, if_pos rfl, rfl, rfl, hs, this.1, hl, hn.1⟩
  · have := hi.ta hs
    simp only [if_true]
    rw [if_neg (by omega), if_neg (by omega)]
    exact ⟨_, rfl, rfl, rfl, hs, rfl, hl, Int.le_refl _⟩
/-- A job that is brought into a state. -/
def rsJ (y : Po) (r tat : Int) (s : Bs) (now : Int) : Option Jt := match (lmR y.t y.tau tat now).1 with
  | none => none
  | some l => if r < 0 ∨ y.cap < r ∨ possB y.f y.o y.r s now = false then none else some ⟨y.cap, r, l, bringB y.f y.o y.r s now⟩
def rsL (L : JL) (rs ts : List Int) (bs : List Bs) (now : Int) : Nat → Option (List Jt)
  | 0 => some []
  | k + 1 => match rsL L rs ts bs now k with
    | none => none
    | some js => match L[k]?, rs[k]?, ts[k + 1]?, bs[k]? with
      | some x, some r, some t, some b => match rsJ x.1.y r t b now with
        | none => none
        | some j => some (js ++ [j])
      | _, _, _, _ => none
def rsG (g : Gl) (L : JL) (rs ts : List Int) (bs : List Bs) (now : Int) : Option Gt :=
  if rs.length ≠ L.length ∨ bs.length ≠ L.length ∨ ts.length ≠ L.length + 1 then none
  else match (lmR g.t g.tau (ts.getD 0 0) now).1 with
    | none => none
    | some b => match rsL L rs ts bs now L.length with
      | none => none
      | some js => if sumR js ≤ g.cap then some ⟨g.cap, b, js, now⟩ else none
section
variable {L : JL} {rs ts : List Int} {bs : List Bs} {now : Int}
theorem rsL_succ {k : Nat} {js : List Jt} {x : Jb × List (Int × Int)} {r t : Int} {b : Bs} (h : rsL L rs ts bs now k = some js) (h1 : L[k]? = some x) (h2 : rs[k]? = some r) (h3 : ts[k + 1]? = some t) (h4 : bs[k]? = some b) : rsL L rs ts bs now (k + 1) = (rsJ x.1.y r t b now).map (js ++ [·]) := by
  simp only [rsL, h, h1, h2, h3, h4]
  cases rsJ x.1.y r t b now <;> rfl
theorem rsL_none {k n : Nat} (h : rsL L rs ts bs now k = none) (hk : k ≤ n) : rsL L rs ts bs now n = none := by
  induction n with
  | zero => obtain rfl : k = 0 := by omega
            exact h
  | succ n ih =>
    by_cases he : k = n + 1
    · rw [← he]; exact h
    · simp only [rsL, ih (by omega)]
theorem rsJ_some {y : Po} {r t : Int} {b : Bs} {j : Jt} (h : rsJ y r t b now = some j) : ∃ l, (lmR y.t y.tau t now).1 = some l ∧ 0 ≤ r ∧ r ≤ y.cap ∧ possB y.f y.o y.r b now = true ∧ j = ⟨y.cap, r, l, bringB y.f y.o y.r b now⟩ := by
  unfold rsJ at h
  cases hl : (lmR y.t y.tau t now).1 with
  | none => rw [hl] at h; cases h
  | some l =>
    rw [hl] at h
    simp only at h
    by_cases hc : r < 0 ∨ y.cap < r ∨ possB y.f y.o y.r b now = false
    · rw [if_pos hc] at h; cases h
    · rw [if_neg hc] at h
      injection h with h
      refine ⟨l, rfl, by omega, by omega, ?_, h.symm⟩
      cases hp : possB y.f y.o y.r b now
      · exact absurd (.inr (.inr hp)) hc
      · rfl
theorem rsL_len {k : Nat} {js : List Jt} (h : rsL L rs ts bs now k = some js) : js.length = k := by
  induction k generalizing js with
  | zero => simp only [rsL] at h; injection h with h; subst h; rfl
  | succ k ih =>
    simp only [rsL] at h
    cases hk : rsL L rs ts bs now k with
    | none => rw [hk] at h; cases h
    | some js' =>
      rw [hk] at h
      simp only at h
      split at h
      · split at h
        · cases h
        · injection h with h
          subst h
          rw [List.length_append, ih hk]
          rfl
      · cases h
theorem sumR_snoc (l : List Jt) (j : Jt) : sumR (l ++ [j]) = sumR l + j.runs := by
  induction l with
  | nil => show j.runs + 0 = 0 + j.runs; omega
  | cons a l ih => show a.runs + sumR (l ++ [j]) = a.runs + sumR l + j.runs; rw [ih]; omega
/-- What is brought so far has no more runs than all. -/
theorem rsL_sum {k n : Nat} {js ks : List Jt} (h : rsL L rs ts bs now k = some js) (hn : rsL L rs ts bs now n = some ks) (hk : k ≤ n) : sumR js ≤ sumR ks := by
  induction n generalizing ks with
  | zero =>
    obtain rfl : k = 0 := by omega
    rw [h] at hn
    injection hn with hn
    rw [hn]
    exact Int.le_refl _
  | succ n ih =>
    by_cases he : k = n + 1
    · subst he
      rw [h] at hn
      injection hn with hn
      rw [hn]
      exact Int.le_refl _
    · cases hk2 : rsL L rs ts bs now n with
      | none => rw [rsL_none hk2 (Nat.le_succ n)] at hn; cases hn
      | some js' =>
        have := ih hk2 (by omega)
        simp only [rsL, hk2] at hn
        split at hn
        · split at hn
          · cases hn
          · next hj =>
            injection hn with hn
            obtain ⟨l, -, h0, -, -, rfl⟩ := rsJ_some hj
            subst hn
            rw [sumR_snoc]
            show _ ≤ _ + _
            simp only
            omega
        · cases hn
end
/-- The state of a box, as All gives it. -/
def bsOf (x : Bx) : Bs := ⟨BK.untilOf x, x.fails, x.good, x.under⟩
/-- A job with its policy. -/
structure JPol (y : Po) (j : Jt) : Prop where
  cap : j.cap = y.cap
  t : j.lm.t = y.t
  tau : j.lm.tau = y.tau
  f : j.bx.f = y.f
  o : j.bx.o = y.o
  p : j.bx.p = y.r
theorem job_self {y : Po} {j : Jt} {now : Int} (hp : JPol y j) (hr : 0 ≤ j.runs ∧ j.runs ≤ j.cap) (hi : j.lm.Inv) (hb : BK.Inv j.bx) (hx : BxR j.bx) (hl : j.lm.last ≤ now) (hl2 : j.bx.last ≤ now) (ht : timeB now = true) : ∃ i, rsJ y j.runs j.lm.arr (bsOf j.bx) now = some i ∧ JtA j i now := by
  obtain ⟨l, h1, h2⟩ := lm_self hi hl ht
  obtain ⟨h3, h4⟩ := bring_self hb hx hl2
  rw [hp.t, hp.tau] at h1
  rw [hp.f, hp.o, hp.p] at h3 h4
  unfold rsJ
  rw [h1]
  simp only
  rw [if_neg (by
    have := hp.cap
    rintro (h | h | h)
    · omega
    · omega
    · unfold bsOf at h; rw [h3] at h; cases h)]
  exact ⟨_, rfl, hp.cap, rfl, h2, h4⟩
/-- All of a gate's own state is possible, and the gate that is restored is alike. -/
theorem rs_self {g : Gl} {L : JL} {x : Gt} {now : Int} (hi : x.Inv) (hc : x.cap = g.cap) (ht0 : x.both.t = g.t) (hta : x.both.tau = g.tau) (hn : x.js.length = L.length) (hj : ∀ (k : Nat) (y : Jb × List (Int × Int)) (j : Jt), L[k]? = some y → x.js[k]? = some j → JPol y.1.y j) (hr : ∀ j ∈ x.js, BxR j.bx ∧ j.lm.last ≤ now ∧ j.bx.last ≤ now) (hb : x.both.last ≤ now) (hl : x.last ≤ now) (ht : timeB now = true) (hs : x.total ≤ x.cap) :
    ∃ z, rsG g L x.runsL x.tatsL (x.js.map (bsOf ·.bx)) now = some z ∧ GtA x z now := by
  have key : ∀ k, k ≤ x.js.length → ∃ js, rsL L x.runsL x.tatsL (x.js.map (bsOf ·.bx)) now k = some js ∧ ∀ (q : Nat) (i j : Jt), q < k → x.js[q]? = some i → js[q]? = some j → JtA i j now := by
    intro k
    induction k with
    | zero => intro _; exact ⟨[], rfl, fun q _ _ hq => absurd hq (Nat.not_lt_zero _)⟩
    | succ k ih =>
      intro hk
      obtain ⟨js, h1, h2⟩ := ih (by omega)
      have hx : x.js[k]? = some x.js[k] := List.getElem?_eq_getElem (by omega)
      have hL : L[k]? = some L[k] := List.getElem?_eq_getElem (by omega)
      have hm := List.mem_of_getElem? hx
      obtain ⟨b1, b2, b3⟩ := hr _ hm
      obtain ⟨-, c2, c3, c4⟩ := hi.js _ hm
      obtain ⟨i, e1, e2⟩ := job_self (hj k _ _ hL hx) c2 c3 c4 b1 b2 b3 ht
      refine ⟨js ++ [i], ?_, fun q a b hq ha hb => ?_⟩
      · rw [rsL_succ h1 hL (show x.runsL[k]? = some x.js[k].runs by unfold Gt.runsL; rw [List.getElem?_map, hx]; rfl) (show x.tatsL[k + 1]? = some x.js[k].lm.arr by unfold Gt.tatsL; rw [List.getElem?_cons_succ, List.getElem?_map, hx]; rfl) (show (x.js.map (bsOf ·.bx))[k]? = some (bsOf x.js[k].bx) by rw [List.getElem?_map, hx]; rfl), e1]
        rfl
      · have hlen := rsL_len h1
        rcases Nat.lt_or_ge q k with hqk | hqk
        · rw [List.getElem?_append_left (by omega)] at hb
          exact h2 q a b hqk ha hb
        · obtain rfl : q = k := by omega
          rw [List.getElem?_append_right (by omega), hlen, Nat.sub_self] at hb
          rw [hx] at ha
          injection ha with ha
          simp at hb
          subst ha hb
          exact e2
  obtain ⟨js, h1, h2⟩ := key x.js.length (Nat.le_refl _)
  have hlen := rsL_len h1
  obtain ⟨b, e1, e2⟩ := lm_self hi.both hb ht
  rw [ht0, hta] at e1
  have hsum : sumR x.js = sumR js := sumR_same _ _ hlen.symm fun k i j hi hj => (h2 k i j (List.getElem?_eq_some_iff.1 hi).1 hi hj).runs
  refine ⟨⟨g.cap, b, js, now⟩, ?_, hc, e2, hlen.symm, fun k i j hi hj => h2 k i j (List.getElem?_eq_some_iff.1 hi).1 hi hj, hl, Int.le_refl _⟩
  unfold rsG
  rw [if_neg (by
    have a1 : x.runsL.length = L.length := by unfold Gt.runsL; rw [List.length_map]; exact hn
    have a2 : (x.js.map (bsOf ·.bx)).length = L.length := by rw [List.length_map]; exact hn
    have a3 : x.tatsL.length = L.length + 1 := by unfold Gt.tatsL; rw [List.length_cons, List.length_map, hn]
    omega)]
  have hg : x.tatsL.getD 0 0 = x.both.arr := rfl
  rw [hg, e1, ← hn]
  simp only
  rw [h1]
  simp only
  rw [if_pos (by unfold Gt.total at hs; omega)]
end Go.Proofs.YtpgckpafjiojfaaGreatDoor.AD
