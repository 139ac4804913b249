/- Two gates that differ in their last times alone go on alike. -/
import Derived.Test.YtpgckpafjiojfaaGreatDoorAHn
namespace Go.Proofs.YtpgckpafjiojfaaGreatDoor.AD
open Go Go.RowKit BW
open BK (Bx BoxAt Blk only_refl only_drew only_drewN only_setCell only_trans only_of_below only_alloc below_drewN)
structure LmA (a b : Lm) (now : Int) : Prop where
  t : a.t = b.t
  tau : a.tau = b.tau
  so : a.so = b.so
  tat : a.tat = b.tat
  la : a.last ≤ now
  lb : b.last ≤ now
structure BxA (a b : Bx) (now : Int) : Prop where
  f : a.f = b.f
  o : a.o = b.o
  p : a.p = b.p
  op : a.op = b.op
  un : a.un = b.un
  fails : a.fails = b.fails
  good : a.good = b.good
  under : a.under = b.under
  la : a.last ≤ now
  lb : b.last ≤ now
structure JtA (i j : Jt) (now : Int) : Prop where
  cap : i.cap = j.cap
  runs : i.runs = j.runs
  lm : LmA i.lm j.lm now
  bx : BxA i.bx j.bx now
structure GtA (x y : Gt) (now : Int) : Prop where
  cap : x.cap = y.cap
  both : LmA x.both y.both now
  len : x.js.length = y.js.length
  js : ∀ (k : Nat) (i j : Jt), x.js[k]? = some i → y.js[k]? = some j → JtA i j now
  la : x.last ≤ now
  lb : y.last ≤ now
section
variable {a b : Lm} {now t : Int}
theorem LmA.later (h : LmA a b now) (ht : now ≤ t) : LmA a b t := ⟨h.t, h.tau, h.so, h.tat, Int.le_trans h.la ht, Int.le_trans h.lb ht⟩
theorem LmA.early (h : LmA a b now) (s : Int) : a.early s = b.early s := by unfold Lm.early; rw [h.t, h.tau, h.so, h.tat]
theorem LmA.check (h : LmA a b now) (ht : now ≤ t) : a.check t = b.check t := by
  have h1 := h.la
  have h2 := h.lb
  unfold Lm.check
  rw [h.early t, h.so, decide_eq_false (p := t < a.last) (by omega), decide_eq_false (p := t < b.last) (by omega)]
theorem LmA.allows (h : LmA a b now) (ht : now ≤ t) : a.allows t = b.allows t := by unfold Lm.allows; rw [h.check ht]
theorem LmA.count (h : LmA a b now) (t : Int) : LmA (a.count t) (b.count t) t := ⟨h.t, h.tau, rfl, by show max t a.tat + a.t = max t b.tat + b.t; rw [h.tat, h.t], Int.le_refl _, Int.le_refl _⟩
theorem LmA.arr (h : LmA a b now) : a.arr = b.arr := by unfold Lm.arr; rw [h.so, h.tat]
end
section
variable {a b : Bx} {now t : Int}
theorem BxA.later (h : BxA a b now) (ht : now ≤ t) : BxA a b t := ⟨h.f, h.o, h.p, h.op, h.un, h.fails, h.good, h.under, Int.le_trans h.la ht, Int.le_trans h.lb ht⟩
theorem BxA.check (h : BxA a b now) (ht : now ≤ t) : BK.check a t = BK.check b t := by
  have h1 := h.la
  have h2 := h.lb
  unfold BK.check
  rw [if_neg (show ¬ t < a.last by omega), if_neg (show ¬ t < b.last by omega)]
theorem BxA.allows (h : BxA a b now) (s : Int) : BK.allows a s = BK.allows b s := by unfold BK.allows; rw [h.op, h.un, h.good, h.under, h.p]
theorem BxA.seen (h : BxA a b now) (t : Int) : BxA (BK.seen a t) (BK.seen b t) t := ⟨h.f, h.o, h.p, h.op, h.un, h.fails, h.good, h.under, Int.le_refl _, Int.le_refl _⟩
theorem BxA.start (h : BxA a b now) (s : Int) : BxA (BK.start a s) (BK.start b s) now := ⟨h.f, h.o, h.p, rfl, by show s + a.o = s + b.o; rw [h.o], rfl, rfl, rfl, h.la, h.lb⟩
theorem BxA.stop (h : BxA a b now) : BxA (BK.stop a) (BK.stop b) now := ⟨h.f, h.o, h.p, rfl, rfl, rfl, rfl, rfl, h.la, h.lb⟩
theorem BxA.take (h : BxA a b now) (ht : now ≤ t) : ∃ r a' b', BK.take a t = (r, a') ∧ BK.take b t = (r, b') ∧ BxA a' b' t := by
  unfold BK.take
  rw [h.check ht, h.allows t]
  by_cases h1 : BK.check b t ≠ 0
  · rw [if_pos h1, if_pos h1]
    exact ⟨_, _, _, rfl, rfl, h.later ht⟩
  · rw [if_neg h1, if_neg h1]
    by_cases h2 : BK.allows b t = false
    · rw [if_pos h2, if_pos h2]
      exact ⟨_, _, _, rfl, rfl, h.later ht⟩
    · rw [if_neg h2, if_neg h2, h.op, h.un]
      refine ⟨_, _, _, rfl, rfl, ?_⟩
      by_cases h3 : b.op = true ∧ b.un ≤ t
      · rw [if_pos h3, if_pos h3]
        exact ⟨h.f, h.o, h.p, rfl, rfl, h.fails, h.good, by show a.under + 1 = b.under + 1; rw [h.under], Int.le_refl _, Int.le_refl _⟩
      · rw [if_neg h3, if_neg h3]
        exact h.seen t
theorem BxA.ended (h : BxA a b now) (ok : Bool) (s : Int) : ∃ r a' b', BK.ended a ok s = (r, a') ∧ BK.ended b ok s = (r, b') ∧ BxA a' b' now := by
  unfold BK.ended
  rw [h.op, h.un]
  by_cases h1 : b.op = false
  · rw [if_pos h1, if_pos h1]
    unfold BK.closed
    cases ok
    · rw [if_neg (show ¬ (false = true) by decide), if_neg (show ¬ (false = true) by decide), h.fails, h.f]
      by_cases h2 : b.fails + 1 < b.f
      · rw [if_pos h2, if_pos h2]
        exact ⟨_, _, _, rfl, rfl, ⟨rfl, h.o, h.p, h.op, h.un, rfl, h.good, h.under, h.la, h.lb⟩⟩
      · rw [if_neg h2, if_neg h2]
        exact ⟨_, _, _, rfl, rfl, h.start s⟩
    · rw [if_pos rfl, if_pos rfl]
      exact ⟨_, _, _, rfl, rfl, ⟨h.f, h.o, h.p, h.op, h.un, rfl, h.good, h.under, h.la, h.lb⟩⟩
  · rw [if_neg h1, if_neg h1]
    by_cases h2 : s < b.un
    · rw [if_pos h2, if_pos h2]
      exact ⟨_, _, _, rfl, rfl, h⟩
    · rw [if_neg h2, if_neg h2]
      unfold BK.half
      by_cases h3 : ok = false
      · rw [if_pos h3, if_pos h3]
        exact ⟨_, _, _, rfl, rfl, h.start s⟩
      · rw [if_neg h3, if_neg h3, h.under, h.good, h.p]
        by_cases h4 : b.under = 0
        · rw [if_pos h4, if_pos h4]
          exact ⟨_, _, _, rfl, rfl, h⟩
        · rw [if_neg h4, if_neg h4]
          by_cases h5 : b.good + 1 < b.p
          · rw [if_pos h5, if_pos h5]
            exact ⟨_, _, _, rfl, rfl, ⟨h.f, h.o, rfl, h.op, h.un, h.fails, rfl, rfl, h.la, h.lb⟩⟩
          · rw [if_neg h5, if_neg h5]
            exact ⟨_, _, _, rfl, rfl, h.stop⟩
theorem BxA.report (h : BxA a b now) (ht : now ≤ t) (ok : Bool) : ∃ ev er a' b', BK.report a ok t = (ev, er, a') ∧ BK.report b ok t = (ev, er, b') ∧ BxA a' b' t := by
  unfold BK.report
  rw [h.check ht, h.f]
  by_cases h1 : BK.check b t ≠ 0
  · rw [if_pos h1, if_pos h1]
    exact ⟨_, _, _, _, rfl, rfl, h.later ht⟩
  · rw [if_neg h1, if_neg h1]
    by_cases h2 : b.f = 0
    · rw [if_pos h2, if_pos h2]
      exact ⟨_, _, _, _, rfl, rfl, h.seen t⟩
    · rw [if_neg h2, if_neg h2]
      obtain ⟨r, a', b', e1, e2, h3⟩ := (h.seen t).ended ok t
      rw [e1, e2]
      exact ⟨_, _, _, _, rfl, rfl, h3⟩
theorem BxA.switched (h : BxA a b now) (ht : now ≤ t) : BK.switched a t = BK.switched b t := by unfold BK.switched; rw [h.check ht, h.f]
theorem BxA.trip (h : BxA a b now) (ht : now ≤ t) : ∃ r a' b', BK.trip a t = (r, a') ∧ BK.trip b t = (r, b') ∧ BxA a' b' t := by
  unfold BK.trip
  rw [h.switched ht]
  by_cases h1 : BK.switched b t ≠ 0
  · rw [if_pos h1, if_pos h1]
    exact ⟨_, _, _, rfl, rfl, h.later ht⟩
  · rw [if_neg h1, if_neg h1]
    exact ⟨_, _, _, rfl, rfl, (h.seen t).start t⟩
theorem BxA.reset (h : BxA a b now) (ht : now ≤ t) : ∃ r a' b', BK.reset a t = (r, a') ∧ BK.reset b t = (r, b') ∧ BxA a' b' t := by
  unfold BK.reset
  rw [h.switched ht]
  by_cases h1 : BK.switched b t ≠ 0
  · rw [if_pos h1, if_pos h1]
    exact ⟨_, _, _, rfl, rfl, h.later ht⟩
  · rw [if_neg h1, if_neg h1]
    exact ⟨_, _, _, rfl, rfl, (h.seen t).stop⟩
theorem BxA.until (h : BxA a b now) : BK.untilOf a = BK.untilOf b := by unfold BK.untilOf; rw [h.op, h.un]
end
theorem JtA.later {i j : Jt} {now t : Int} (h : JtA i j now) (ht : now ≤ t) : JtA i j t := ⟨h.cap, h.runs, h.lm.later ht, h.bx.later ht⟩
theorem sumR_same : ∀ (l m : List Jt), l.length = m.length → (∀ (k : Nat) (i j : Jt), l[k]? = some i → m[k]? = some j → i.runs = j.runs) → sumR l = sumR m
  | [], [], _, _ => rfl
  | [], _ :: _, h, _ => by simp at h
  | _ :: _, [], h, _ => by simp at h
  | i :: l, j :: m, h, hr => by
    have h1 := hr 0 i j rfl rfl
    have h2 := sumR_same l m (by simpa using h) fun k a b ha hb => hr (k + 1) a b (by simpa using ha) (by simpa using hb)
    simp only [sumR, h1, h2]
section
variable {x y : Gt} {now t : Int}
theorem GtA.later (h : GtA x y now) (ht : now ≤ t) : GtA x y t := ⟨h.cap, h.both.later ht, h.len, fun k i j hi hj => (h.js k i j hi hj).later ht, Int.le_trans h.la ht, Int.le_trans h.lb ht⟩
theorem GtA.total (h : GtA x y now) : x.total = y.total := sumR_same _ _ h.len fun k i j hi hj => (h.js k i j hi hj).runs
theorem GtA.asked (h : GtA x y now) (job t : Int) : x.asked job t = y.asked job t := by unfold Gt.asked; rw [h.len]
theorem GtA.call (h : GtA x y now) (ht : now ≤ t) (job : Int) : x.call job t = y.call job t := by
  have h1 := h.la
  have h2 := h.lb
  unfold Gt.call
  rw [h.asked, if_neg (show ¬ t < x.last by omega), if_neg (show ¬ t < y.last by omega)]
/-- A job of both, or of none. -/
theorem GtA.job (h : GtA x y now) (job : Int) : (x.job job = none ∧ y.job job = none) ∨ ∃ i j, x.job job = some i ∧ y.job job = some j ∧ JtA i j now := by
  unfold Gt.job
  rcases Nat.lt_or_ge job.toNat x.js.length with hl | hg
  · have hl2 : job.toNat < y.js.length := by rw [← h.len]; exact hl
    exact .inr ⟨_, _, List.getElem?_eq_getElem hl, List.getElem?_eq_getElem hl2, h.js _ _ _ (List.getElem?_eq_getElem hl) (List.getElem?_eq_getElem hl2)⟩
  · exact .inl ⟨List.getElem?_eq_none hg, List.getElem?_eq_none (by rw [← h.len]; exact hg)⟩
theorem GtA.whyJ (h : GtA x y now) (ht : now ≤ t) {i j : Jt} (hj : JtA i j now) : x.whyJ i t = y.whyJ j t := by
  unfold Gt.whyJ
  rw [h.total, h.cap, h.both.allows ht, hj.cap, hj.runs, hj.lm.allows ht, hj.bx.allows t]
theorem GtA.Why (h : GtA x y now) (ht : now ≤ t) (job : Int) : x.Why job t = y.Why job t := by
  unfold Gt.Why Gt.why
  rw [h.call ht job]
  rcases h.job job with ⟨e1, e2⟩ | ⟨i, j, e1, e2, hj⟩
  · rw [e1, e2]
  · rw [e1, e2]
    simp only
    rw [h.whyJ ht hj]
theorem GtA.put (h : GtA x y now) (ht : now ≤ t) {k : Nat} {i j : Jt} (hj : JtA i j t) {a b : Lm} (hb : LmA a b t) : GtA ⟨x.cap, a, x.js.set k i, t⟩ ⟨y.cap, b, y.js.set k j, t⟩ t :=
  ⟨h.cap, hb, by show (x.js.set k i).length = (y.js.set k j).length; rw [List.length_set, List.length_set]; exact h.len, fun q a b ha hb => by
    have ha : (x.js.set k i)[q]? = some a := ha
    have hb : (y.js.set k j)[q]? = some b := hb
    rw [List.getElem?_set] at ha hb
    by_cases hq : k = q
    · rw [if_pos hq] at ha hb
      split at ha
      · split at hb
        · injection ha with ha
          injection hb with hb
          subst ha hb
          exact hj
        · cases hb
      · cases ha
    · rw [if_neg hq] at ha hb
      exact (h.js q a b ha hb).later ht, Int.le_refl _, Int.le_refl _⟩
theorem GtA.take (h : GtA x y now) (ht : now ≤ t) (job : Int) : ∃ r x' y', x.take job t = (r, x') ∧ y.take job t = (r, y') ∧ GtA x' y' t := by
  unfold Gt.take
  rw [h.call ht job]
  by_cases h1 : y.call job t ≠ 0
  · rw [if_pos h1, if_pos h1]
    exact ⟨_, _, _, rfl, rfl, h.later ht⟩
  · rw [if_neg h1, if_neg h1]
    rcases h.job job with ⟨e1, e2⟩ | ⟨i, j, e1, e2, hj⟩
    · rw [e1, e2]
      exact ⟨_, _, _, rfl, rfl, h.later ht⟩
    · rw [e1, e2]
      simp only
      rw [h.whyJ ht hj]
      by_cases h2 : y.whyJ j t ≠ 0
      · rw [if_pos h2, if_pos h2]
        exact ⟨_, _, _, rfl, rfl, h.later ht⟩
      · rw [if_neg h2, if_neg h2]
        refine ⟨_, _, _, rfl, rfl, ?_⟩
        obtain ⟨r, a', b', e3, e4, hb⟩ := hj.bx.take ht
        exact h.put ht (i := ⟨i.cap, i.runs + 1, i.lm.count t, (BK.take i.bx t).2⟩) (j := ⟨j.cap, j.runs + 1, j.lm.count t, (BK.take j.bx t).2⟩) ⟨hj.cap, by show i.runs + 1 = j.runs + 1; rw [hj.runs], hj.lm.count t, by show BxA (BK.take i.bx t).2 (BK.take j.bx t).2 t; rw [e3, e4]; exact hb⟩ (h.both.count t)
theorem GtA.give (h : GtA x y now) (ht : now ≤ t) (job : Int) (ok : Bool) : ∃ ev er x' y', x.give job ok t = (ev, er, x') ∧ y.give job ok t = (ev, er, y') ∧ GtA x' y' t := by
  unfold Gt.give
  rw [h.call ht job]
  by_cases h1 : y.call job t ≠ 0
  · rw [if_pos h1, if_pos h1]
    exact ⟨_, _, _, _, rfl, rfl, h.later ht⟩
  · rw [if_neg h1, if_neg h1]
    rcases h.job job with ⟨e1, e2⟩ | ⟨i, j, e1, e2, hj⟩
    · rw [e1, e2]
      exact ⟨_, _, _, _, rfl, rfl, h.later ht⟩
    · rw [e1, e2]
      simp only
      rw [hj.runs]
      by_cases h2 : j.runs = 0
      · rw [if_pos h2, if_pos h2]
        exact ⟨_, _, _, _, rfl, rfl, h.later ht⟩
      · rw [if_neg h2, if_neg h2]
        obtain ⟨ev, er, a', b', e3, e4, hb⟩ := hj.bx.report ht ok
        rw [e3, e4]
        exact ⟨_, _, _, _, rfl, rfl, h.put ht (i := ⟨i.cap, j.runs - 1, i.lm, a'⟩) (j := ⟨j.cap, j.runs - 1, j.lm, b'⟩) ⟨hj.cap, rfl, hj.lm.later ht, hb⟩ (h.both.later ht)⟩
theorem GtA.switch (h : GtA x y now) (ht : now ≤ t) (job : Int) {f : Bx → Int → Int × Bx} (hf : ∀ {a b : Bx}, BxA a b now → ∃ r a' b', f a t = (r, a') ∧ f b t = (r, b') ∧ BxA a' b' t) : ∃ r x' y', x.switch job t f = (r, x') ∧ y.switch job t f = (r, y') ∧ GtA x' y' t := by
  unfold Gt.switch
  rw [h.call ht job]
  by_cases h1 : y.call job t ≠ 0
  · rw [if_pos h1, if_pos h1]
    exact ⟨_, _, _, rfl, rfl, h.later ht⟩
  · rw [if_neg h1, if_neg h1]
    rcases h.job job with ⟨e1, e2⟩ | ⟨i, j, e1, e2, hj⟩
    · rw [e1, e2]
      exact ⟨_, _, _, rfl, rfl, h.later ht⟩
    · rw [e1, e2]
      simp only
      obtain ⟨r, a', b', e3, e4, hb⟩ := hf hj.bx
      rw [e3, e4]
      simp only
      by_cases h2 : r ≠ 0
      · rw [if_pos h2, if_pos h2]
        exact ⟨_, _, _, rfl, rfl, h.later ht⟩
      · rw [if_neg h2, if_neg h2]
        exact ⟨_, _, _, rfl, rfl, h.put ht (i := ⟨i.cap, i.runs, i.lm, a'⟩) (j := ⟨j.cap, j.runs, j.lm, b'⟩) ⟨hj.cap, hj.runs, hj.lm.later ht, hb⟩ (h.both.later ht)⟩
theorem GtA.trip (h : GtA x y now) (ht : now ≤ t) (job : Int) : ∃ r x' y', x.trip job t = (r, x') ∧ y.trip job t = (r, y') ∧ GtA x' y' t := h.switch ht job fun hb => hb.trip ht
theorem GtA.reset (h : GtA x y now) (ht : now ≤ t) (job : Int) : ∃ r x' y', x.reset job t = (r, x') ∧ y.reset job t = (r, y') ∧ GtA x' y' t := h.switch ht job fun hb => hb.reset ht
theorem map_same {α : Type} (f : Jt → α) (hf : ∀ {i j : Jt}, JtA i j now → f i = f j) (h : GtA x y now) : x.js.map f = y.js.map f := by
  refine List.ext_getElem? fun k => ?_
  rw [List.getElem?_map, List.getElem?_map]
  rcases Nat.lt_or_ge k x.js.length with hl | hg
  · have hl2 : k < y.js.length := by rw [← h.len]; exact hl
    rw [List.getElem?_eq_getElem hl, List.getElem?_eq_getElem hl2]
    exact congrArg some (hf (h.js _ _ _ (List.getElem?_eq_getElem hl) (List.getElem?_eq_getElem hl2)))
  · rw [List.getElem?_eq_none hg, List.getElem?_eq_none (by rw [← h.len]; exact hg)]
theorem GtA.runsL (h : GtA x y now) : x.runsL = y.runsL := map_same _ (fun hj => hj.runs) h
theorem GtA.tatsL (h : GtA x y now) : x.tatsL = y.tatsL := by
  unfold Gt.tatsL
  rw [h.both.arr, map_same (fun j => j.lm.arr) (fun hj => hj.lm.arr) h]
theorem GtA.boxesL (h : GtA x y now) : x.boxesL = y.boxesL := map_same _ (fun {i j} hj => by rw [hj.bx.until, hj.bx.fails, hj.bx.good, hj.bx.under]) h
end
end Go.Proofs.YtpgckpafjiojfaaGreatDoor.AD
