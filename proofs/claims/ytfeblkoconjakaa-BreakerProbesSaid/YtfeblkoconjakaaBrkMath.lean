/- Circuit breakers, plainly: a box's state, and what each call makes of it. No program in sight. -/
import Derived.Below
namespace Go.Proofs.Ytfeblkoconjakaa.BK
open Go

/-- A box: its rule (three numbers), whether it is open, until when, the counts, the last time. -/
structure Bx where
  f : Int
  o : Int
  p : Int
  op : Bool
  un : Int
  fails : Int
  good : Int
  under : Int
  last : Int
deriving DecidableEq

def maxTime : Int := 253402300799
def maxSpan : Int := 68719476736
def zero (f o p : Int) : Bool := decide (f = 0 ∧ o = 0 ∧ p = 0)
def ruled (f o p : Int) : Bool := decide (1 ≤ f ∧ f ≤ 100 ∧ 1 ≤ o ∧ o ≤ maxSpan ∧ 1 ≤ p ∧ p ≤ 100)
def fresh (f o p : Int) : Bx := ⟨f, o, p, false, 0, 0, 0, 0, 0⟩
def state (x : Bx) (now : Int) : Int := if x.op = false then 0 else if now < x.un then 1 else 2
def allows (x : Bx) (now : Int) : Bool := if x.op = false then true else if now < x.un then false else decide (x.good + x.under < x.p)
def check (x : Bx) (now : Int) : Int := if now < 0 ∨ maxTime < now then 14 else if now < x.last then 8 else 0
def start (x : Bx) (now : Int) : Bx := ⟨x.f, x.o, x.p, true, now + x.o, 0, 0, 0, x.last⟩
def stop (x : Bx) : Bx := ⟨x.f, x.o, x.p, false, 0, 0, 0, 0, x.last⟩
def seen (x : Bx) (now : Int) : Bx := { x with last := now }
def untilOf (x : Bx) : Int := if x.op then x.un else 0

def take (x : Bx) (now : Int) : Int × Bx :=
  if check x now ≠ 0 then (check x now, x) else if allows x now = false then (9, x)
  else (0, seen (if x.op = true ∧ x.un ≤ now then { x with under := x.under + 1 } else x) now)
/-- An end in the state Closed, and in the state Half. -/
def closed (x : Bx) (ok : Bool) (now : Int) : Int × Bx :=
  if ok then (0, { x with fails := 0 }) else if x.fails + 1 < x.f then (0, { x with fails := x.fails + 1 }) else (7, start x now)
def half (x : Bx) (ok : Bool) (now : Int) : Int × Bx :=
  if ok = false then (7, start x now) else if x.under = 0 then (0, x)
  else if x.good + 1 < x.p then (0, { x with under := x.under - 1, good := x.good + 1 }) else (8, stop x)
def ended (x : Bx) (ok : Bool) (now : Int) : Int × Bx :=
  if x.op = false then closed x ok now else if now < x.un then (0, x) else half x ok now
def report (x : Bx) (ok : Bool) (now : Int) : Int × Int × Bx :=
  if check x now ≠ 0 then (0, check x now, x)
  else if x.f = 0 then (0, 0, seen x now)
  else ((ended (seen x now) ok now).1, 0, (ended (seen x now) ok now).2)
def switched (x : Bx) (now : Int) : Int := if check x now ≠ 0 then check x now else if x.f = 0 then 9 else 0
def trip (x : Bx) (now : Int) : Int × Bx := if switched x now ≠ 0 then (switched x now, x) else (0, start (seen x now) now)
def reset (x : Bx) (now : Int) : Int × Bx := if switched x now ≠ 0 then (switched x now, x) else (0, stop (seen x now))

/-- What holds of every box that calls can make. -/
structure Inv (x : Bx) : Prop where
  rule : (x.f = 0 ∧ x.o = 0 ∧ x.p = 0 ∧ x.op = false ∧ x.fails = 0) ∨ (1 ≤ x.f ∧ x.f ≤ 100 ∧ 1 ≤ x.o ∧ x.o ≤ maxSpan ∧ 1 ≤ x.p ∧ x.p ≤ 100 ∧ x.fails < x.f)
  last0 : 0 ≤ x.last
  last1 : x.last ≤ maxTime
  fails0 : 0 ≤ x.fails
  good0 : 0 ≤ x.good
  under0 : 0 ≤ x.under
  shut : x.op = false → x.un = 0 ∧ x.good = 0 ∧ x.under = 0
  opened : x.op = true → x.fails = 0 ∧ 0 ≤ x.un ∧ x.un ≤ maxTime + maxSpan ∧ x.good + x.under ≤ x.p ∧ x.good < x.p
theorem Inv.small {x : Bx} (h : Inv x) : 0 ≤ x.f ∧ x.f ≤ 100 ∧ 0 ≤ x.o ∧ x.o ≤ 68719476736 ∧ 0 ≤ x.p ∧ x.p ≤ 100 ∧ 0 ≤ x.fails ∧ x.fails ≤ 100 ∧ 0 ≤ x.good ∧ x.good ≤ 100 ∧ 0 ≤ x.under ∧ x.under ≤ 100 ∧ 0 ≤ x.un ∧ x.un ≤ 322121777535 ∧ 0 ≤ x.last ∧ x.last ≤ 253402300799 := by
  have h1 := h.rule; have h2 := h.last0; have h3 := h.last1; have h4 := h.fails0; have h5 := h.good0; have h6 := h.under0
  unfold maxSpan at h1
  unfold maxTime at h3
  cases ho : x.op
  · have h7 := h.shut ho
    omega
  · have h7 := h.opened ho
    unfold maxTime maxSpan at h7
    omega
theorem inv_fresh {f o p : Int} (h : zero f o p = true ∨ ruled f o p = true) : Inv (fresh f o p) := by
  unfold zero ruled at h
  simp only [decide_eq_true_eq] at h
  refine ⟨?_, by simp [fresh], by simp [fresh, maxTime], by simp [fresh], by simp [fresh], by simp [fresh], by simp [fresh], by simp [fresh]⟩
  simp only [fresh]
  rcases h with h | h
  · exact .inl ⟨h.1, h.2.1, h.2.2, by simp, by simp⟩
  · exact .inr (by omega)
theorem check_zero {x : Bx} {now : Int} (h : check x now = 0) : 0 ≤ now ∧ now ≤ maxTime ∧ x.last ≤ now := by
  unfold check at h
  split at h
  · omega
  · split at h <;> omega
theorem inv_seen {x : Bx} {now : Int} (h : Inv x) (hc : check x now = 0) : Inv (seen x now) := by
  obtain ⟨c1, c2, c3⟩ := check_zero hc
  exact ⟨h.rule, c1, c2, h.fails0, h.good0, h.under0, h.shut, fun ho => by
    have := h.opened ho
    simp only [seen] at *
    omega⟩
theorem inv_start {x : Bx} {now : Int} (h : Inv x) (hf : x.f ≠ 0) (h0 : 0 ≤ now) (h1 : now ≤ maxTime) : Inv (start x now) := by
  have hr := h.rule
  have := h.last0
  refine ⟨?_, h.last0, h.last1, by simp [start], by simp [start], by simp [start], by simp [start], ?_⟩
  · simp only [start]; right; omega
  · intro _; refine ⟨rfl, ?_, ?_, ?_, ?_⟩ <;> simp only [start] <;> omega
theorem inv_stop {x : Bx} (h : Inv x) : Inv (stop x) := by
  have hr := h.rule
  have := h.fails0
  refine ⟨?_, h.last0, h.last1, by simp [stop], by simp [stop], by simp [stop], by simp [stop], by simp [stop]⟩
  simp only [stop]
  rcases hr with hr | hr
  · exact .inl ⟨hr.1, hr.2.1, hr.2.2.1, by simp, by simp⟩
  · right; omega
theorem inv_ended {x : Bx} {ok : Bool} {now : Int} (h : Inv x) (hf : x.f ≠ 0) (h0 : 0 ≤ now) (h1 : now ≤ maxTime) : Inv (ended x ok now).2 := by
  have hr := h.rule
  have h2 := h.last0; have h3 := h.last1; have h4 := h.fails0; have h5 := h.good0; have h6 := h.under0
  unfold ended
  cases ho : x.op
  · rw [if_pos rfl]
    have hs := h.shut ho
    unfold closed
    split
    · exact ⟨by simp only []; omega, h2, h3, by simp, h5, h6, fun _ => hs, fun h' => by simp [ho] at h'⟩
    · split
      · exact ⟨by simp only []; omega, h2, h3, by simp only []; omega, h5, h6, fun _ => hs, fun h' => by simp [ho] at h'⟩
      · exact inv_start h hf h0 h1
  · rw [if_neg (by simp)]
    have hs := h.opened ho
    split
    · exact h
    · unfold half
      split
      · exact inv_start h hf h0 h1
      · split
        · exact h
        · split
          · exact ⟨by simp only []; omega, h2, h3, h4, by simp only []; omega, by simp only []; omega, fun h' => by simp [ho] at h', fun _ => by simp only []; omega⟩
          · exact inv_stop h
theorem inv_report {x : Bx} {ok : Bool} {now : Int} (h : Inv x) : Inv (report x ok now).2.2 := by
  unfold report
  split
  · exact h
  · rename_i hc
    have hc : check x now = 0 := by omega
    have hs := inv_seen h hc
    split
    · exact hs
    · rename_i hf
      obtain ⟨c1, c2, c3⟩ := check_zero hc
      exact inv_ended hs hf c1 c2
theorem inv_take {x : Bx} {now : Int} (h : Inv x) : Inv (take x now).2 := by
  unfold take
  split
  · exact h
  · rename_i hc
    have hc : check x now = 0 := by omega
    split
    · exact h
    · rename_i ha
      by_cases hh : x.op = true ∧ x.un ≤ now
      · rw [if_pos hh]
        have ho := h.opened hh.1
        have h1 := h.rule; have h5 := h.good0; have h6 := h.under0
        unfold allows at ha
        simp only [hh.1, Bool.true_eq_false, if_false] at ha
        rw [if_neg (by omega)] at ha
        simp only [Bool.not_eq_false, decide_eq_true_eq] at ha
        apply inv_seen (x := { x with under := x.under + 1 }) _ hc
        exact ⟨h1, h.last0, h.last1, h.fails0, h5, by simp only []; omega, fun h' => by simp [hh.1] at h', fun _ => by simp only []; omega⟩
      · rw [if_neg hh]
        exact inv_seen h hc
theorem switched_zero {x : Bx} {now : Int} (h : switched x now = 0) : check x now = 0 ∧ x.f ≠ 0 := by
  unfold switched at h
  split at h
  · rename_i hc; exact absurd h hc
  · split at h
    · omega
    · rename_i hc hf; exact ⟨by omega, hf⟩
theorem inv_trip {x : Bx} {now : Int} (h : Inv x) : Inv (trip x now).2 := by
  unfold trip
  split
  · exact h
  · rename_i hc
    obtain ⟨hc, hf⟩ := switched_zero (x := x) (now := now) (by omega)
    obtain ⟨c1, c2, c3⟩ := check_zero hc
    exact inv_start (inv_seen h hc) hf c1 c2
theorem inv_reset {x : Bx} {now : Int} (h : Inv x) : Inv (reset x now).2 := by
  unfold reset
  split
  · exact h
  · rename_i hc
    obtain ⟨hc, hf⟩ := switched_zero (x := x) (now := now) (by omega)
    exact inv_stop (inv_seen h hc)
end Go.Proofs.Ytfeblkoconjakaa.BK
