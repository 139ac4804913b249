/- Gates of small numbers: what Next says is when a launch is admitted; Made of any rules. -/
import Derived.Test.YtpgckpafjiojfaaGreatDoorAHs
import Derived.Test.YtpgckpafjiojfaaGreatDoorAHf
namespace Go.Proofs.YtpgckpafjiojfaaGreatDoor.AD
open Go Go.RowKit BW
open BK (Bx BoxAt Blk only_refl only_drew only_drewN only_setCell only_trans only_of_below only_alloc below_drewN)
def LmS (l : Lm) (now : Int) : Prop := l.t ≤ 7 ∧ l.last ≤ now
def BxS (b : Bx) (now : Int) : Prop := b.o ≤ 32 ∧ b.last ≤ now ∧ b.un ≤ now + 32
/-- What an open box has seen. -/
def BxR (b : Bx) : Prop := b.op = true → b.o ≤ b.un ∧ b.un ≤ b.last + b.o ∧ (b.un ≤ b.last ∨ (b.good = 0 ∧ b.under = 0))
theorem BxR.seen {b : Bx} {now : Int} (h : BxR b) (hl : b.last ≤ now) : BxR (BK.seen b now) := fun ho => by
  have := h ho
  show b.o ≤ b.un ∧ b.un ≤ now + b.o ∧ (b.un ≤ now ∨ (b.good = 0 ∧ b.under = 0))
  omega
theorem BxR.start {b : Bx} {now : Int} (h0 : 0 ≤ now) (hl : now ≤ b.last) : BxR (BK.start b now) := fun _ => by
  show b.o ≤ now + b.o ∧ now + b.o ≤ b.last + b.o ∧ (_ ∨ ((0 : Int) = 0 ∧ (0 : Int) = 0))
  exact ⟨by omega, by omega, .inr ⟨rfl, rfl⟩⟩
theorem BxR.stop {b : Bx} : BxR (BK.stop b) := fun h => by cases h
theorem BxR.take {b : Bx} {now : Int} (h : BxR b) : BxR (BK.take b now).2 := by
  unfold BK.take
  by_cases hc : BK.check b now ≠ 0
  · rw [if_pos hc]; exact h
  · rw [if_neg hc]
    obtain ⟨-, -, hl⟩ := BK.check_zero (x := b) (now := now) (by omega)
    split
    · exact h
    · show BxR (BK.seen (if _ then _ else _) now)
      split
      · next hh =>
        intro ho
        have := h hh.1
        show b.o ≤ b.un ∧ b.un ≤ now + b.o ∧ (b.un ≤ now ∨ _)
        exact ⟨by omega, by omega, .inl hh.2⟩
      · exact h.seen hl
theorem BxR.ended {b : Bx} {ok : Bool} {now : Int} (h : BxR b) (h0 : 0 ≤ now) (hl : now ≤ b.last) : BxR (BK.ended b ok now).2 := by
  unfold BK.ended
  split
  · next ho =>
    unfold BK.closed
    split
    · exact fun h' => by rw [show b.op = true from h'] at ho; cases ho
    · split
      · exact fun h' => by rw [show b.op = true from h'] at ho; cases ho
      · exact BxR.start h0 hl
  · split
    · exact h
    · next hu =>
      unfold BK.half
      split
      · exact BxR.start h0 hl
      · split
        · exact h
        · split
          · intro ho
            have := h ho
            show b.o ≤ b.un ∧ b.un ≤ b.last + b.o ∧ (b.un ≤ b.last ∨ _)
            exact ⟨by omega, by omega, .inl (by omega)⟩
          · exact BxR.stop
theorem BxR.report {b : Bx} {ok : Bool} {now : Int} (h : BxR b) : BxR (BK.report b ok now).2.2 := by
  unfold BK.report
  by_cases hc : BK.check b now ≠ 0
  · rw [if_pos hc]; exact h
  · rw [if_neg hc]
    obtain ⟨h0, -, hl⟩ := BK.check_zero (x := b) (now := now) (by omega)
    split
    · exact h.seen hl
    · exact (h.seen hl).ended h0 (Int.le_refl _)
theorem BxR.trip {b : Bx} {now : Int} (h : BxR b) : BxR (BK.trip b now).2 := by
  unfold BK.trip
  by_cases hc : BK.switched b now ≠ 0
  · rw [if_pos hc]; exact h
  · rw [if_neg hc]
    obtain ⟨h0, -, -⟩ := BK.check_zero (BK.switched_zero (x := b) (now := now) (by omega)).1
    exact BxR.start h0 (Int.le_refl _)
theorem BxR.reset {b : Bx} {now : Int} (h : BxR b) : BxR (BK.reset b now).2 := by
  unfold BK.reset
  split
  · exact h
  · exact BxR.stop
/-- A gate of small numbers, all of whose calls were made by now. -/
structure Sm (x : Gt) (now : Int) : Prop where
  both : LmS x.both now
  js : ∀ j ∈ x.js, LmS j.lm now ∧ BxS j.bx now
  last : x.last ≤ now
  br : ∀ j ∈ x.js, BxR j.bx
theorem LmS.later {l : Lm} {now t : Int} (h : LmS l now) (ht : now ≤ t) : LmS l t := ⟨h.1, Int.le_trans h.2 ht⟩
theorem BxS.later {b : Bx} {now t : Int} (h : BxS b now) (ht : now ≤ t) : BxS b t := ⟨h.1, Int.le_trans h.2.1 ht, by have := h.2.2; omega⟩
theorem Sm.later {x : Gt} {now t : Int} (h : Sm x now) (ht : now ≤ t) : Sm x t := ⟨h.both.later ht, fun j hj => ⟨(h.js j hj).1.later ht, (h.js j hj).2.later ht⟩, Int.le_trans h.last ht, h.br⟩
theorem LmS.count {l : Lm} {now : Int} (h : LmS l now) : LmS (l.count now) now := ⟨h.1, Int.le_refl _⟩
theorem BxS.seen {b : Bx} {now : Int} (h : BxS b now) : BxS (BK.seen b now) now := ⟨h.1, Int.le_refl _, h.2.2⟩
theorem BxS.start {b : Bx} {now : Int} (h : BxS b now) : BxS (BK.start b now) now := ⟨h.1, h.2.1, by have := h.1; show now + b.o ≤ now + 32; omega⟩
theorem BxS.stop {b : Bx} {now : Int} (h : BxS b now) (h0 : 0 ≤ now) : BxS (BK.stop b) now := ⟨h.1, h.2.1, by show (0 : Int) ≤ now + 32; omega⟩
theorem BxS.take {b : Bx} {now : Int} (h : BxS b now) : BxS (BK.take b now).2 now := by
  unfold BK.take
  split
  · exact h
  · split
    · exact h
    · show BxS (BK.seen (if _ then _ else _) now) now
      split
      · exact BxS.seen (b := { b with under := b.under + 1 }) ⟨h.1, h.2.1, h.2.2⟩
      · exact h.seen
theorem BxS.ended {b : Bx} {ok : Bool} {now : Int} (h : BxS b now) (h0 : 0 ≤ now) : BxS (BK.ended b ok now).2 now := by
  unfold BK.ended
  split
  · unfold BK.closed
    split
    · exact ⟨h.1, h.2.1, h.2.2⟩
    · split
      · exact ⟨h.1, h.2.1, h.2.2⟩
      · exact h.start
  · split
    · exact h
    · unfold BK.half
      split
      · exact h.start
      · split
        · exact h
        · split
          · exact ⟨h.1, h.2.1, h.2.2⟩
          · exact h.stop h0
theorem BxS.report {b : Bx} {ok : Bool} {now : Int} (h : BxS b now) (h0 : 0 ≤ now) : BxS (BK.report b ok now).2.2 now := by
  unfold BK.report
  split
  · exact h
  · split
    · exact h.seen
    · exact h.seen.ended h0
theorem BxS.trip {b : Bx} {now : Int} (h : BxS b now) : BxS (BK.trip b now).2 now := by
  unfold BK.trip
  split
  · exact h
  · exact h.seen.start
theorem BxS.reset {b : Bx} {now : Int} (h : BxS b now) (h0 : 0 ≤ now) : BxS (BK.reset b now).2 now := by
  unfold BK.reset
  split
  · exact h
  · exact h.seen.stop h0
section
variable {x : Gt} {now t : Int}
theorem Sm.put (h : Sm x now) (ht : now ≤ t) {k : Nat} {j : Jt} (hl : LmS j.lm t) (hb : BxS j.bx t) (hr : BxR j.bx) {c : Int} {m : Lm} (hm : LmS m t) : Sm ⟨c, m, x.js.set k j, t⟩ t :=
  ⟨hm, fun i hi => by
    rcases List.mem_or_eq_of_mem_set hi with h' | rfl
    · exact (h.later ht).js i h'
    · exact ⟨hl, hb⟩, Int.le_refl _, fun i hi => by
    rcases List.mem_or_eq_of_mem_set hi with h' | rfl
    · exact h.br i h'
    · exact hr⟩
theorem job_mem {k : Int} {j : Jt} (h : x.job k = some j) : j ∈ x.js := List.mem_of_getElem? h
theorem Sm.take (h : Sm x now) (ht : now ≤ t) (k : Int) : Sm (x.take k t).2 t := by
  unfold Gt.take
  split
  · exact h.later ht
  · split
    · next j hj =>
      split
      · exact h.later ht
      · obtain ⟨h1, h2⟩ := (h.later ht).js j (job_mem hj)
        exact h.put ht h1.count h2.take (h.br j (job_mem hj)).take (h.later ht).both.count
    · exact h.later ht
theorem Sm.give (h : Sm x now) (ht : now ≤ t) (h0 : 0 ≤ t) (k : Int) (ok : Bool) : Sm (x.give k ok t).2.2 t := by
  unfold Gt.give
  split
  · exact h.later ht
  · split
    · next j hj =>
      split
      · exact h.later ht
      · obtain ⟨h1, h2⟩ := (h.later ht).js j (job_mem hj)
        exact h.put (j := ⟨j.cap, j.runs - 1, j.lm, (BK.report j.bx ok t).2.2⟩) ht h1 (h2.report h0) (h.br j (job_mem hj)).report (h.later ht).both
    · exact h.later ht
theorem Sm.trip (h : Sm x now) (ht : now ≤ t) (k : Int) : Sm (x.trip k t).2 t := by
  unfold Gt.trip Gt.switch
  split
  · exact h.later ht
  · split
    · next j hj =>
      split
      · exact h.later ht
      · obtain ⟨h1, h2⟩ := (h.later ht).js j (job_mem hj)
        exact h.put (j := ⟨j.cap, j.runs, j.lm, (BK.trip j.bx t).2⟩) ht h1 h2.trip (h.br j (job_mem hj)).trip (h.later ht).both
    · exact h.later ht
theorem Sm.reset (h : Sm x now) (ht : now ≤ t) (h0 : 0 ≤ t) (k : Int) : Sm (x.reset k t).2 t := by
  unfold Gt.reset Gt.switch
  split
  · exact h.later ht
  · split
    · next j hj =>
      split
      · exact h.later ht
      · obtain ⟨h1, h2⟩ := (h.later ht).js j (job_mem hj)
        exact h.put (j := ⟨j.cap, j.runs, j.lm, (BK.reset j.bx t).2⟩) ht h1 (h2.reset h0) (h.br j (job_mem hj)).reset (h.later ht).both
    · exact h.later ht
theorem sm_call (h : Sm x now) (ht : now ≤ t) (h0 : 0 ≤ t) (h9 : t ≤ 253402300799) {k : Int} (hk : 0 ≤ k ∧ k < x.js.length) : x.call k t = 0 := by
  have hl := h.last
  unfold Gt.call Gt.asked
  have hb : timeB t = true := timeB_iff.2 ⟨h0, h9⟩
  rw [hb]
  simp
  omega
end
theorem sm_made (rs : List Rl) (lim tau most : Nat) : Sm (g0 (madeG lim tau most) (madeFrom 0 rs)) 50 := by
  refine ⟨⟨?_, (show (0 : Int) ≤ 50 by decide)⟩, fun j hj => ?_, (show (0 : Int) ≤ 50 by decide), fun j hj => by
    obtain ⟨y, hy, rfl⟩ := List.mem_map.1 hj
    exact fun h => by cases h⟩
  · show smT lim ≤ 7
    unfold smT
    omega
  · obtain ⟨y, hy, rfl⟩ := List.mem_map.1 hj
    obtain ⟨k, hk, e⟩ := List.mem_iff_getElem.1 hy
    obtain ⟨r, _, e2⟩ := made_at hk
    rw [e2] at e
    subst e
    refine ⟨⟨?_, (show (0 : Int) ≤ 50 by decide)⟩, ?_, (show (0 : Int) ≤ 50 by decide), (show (0 : Int) ≤ 50 + 32 by decide)⟩
    · show smT r.t ≤ 7
      unfold smT
      omega
    · show (polR r).o ≤ 32
      unfold polR
      simp only
      split <;> omega
/-- Made of any rules. -/
theorem made_any (rs : List Rl) (a : Option Addr) (n c : Nat) (hn : rs.length = n) (lim tau most : Nat) (h1 : lim < 256) (h2 : tau < 256) (h3 : most < 256) (h9 : n ≤ 9223372036854775807) (hnc : n ≤ c) (w : World) (hA : RulesAt w a rs) :
    Calls Tryz.prog 8 #[.slice a n c, .int .u8 lim, .int .u8 tau, .int .u8 most] w fun e w' => ∃ (qs : List Rl) (m g c' : Nat), qs.length = m ∧ 0 < m ∧ m ≤ 4 ∧ e = .returned (.agg #[.int .i64 (1 + (most : Int) % 8), .int .i64 1, .int .i64 0, .int .i64 1, .int .u64 0, .int .i64 (smT lim), .int .i64 (smA lim tau), .slice (some ⟨g, 0, none⟩) m c']) ∧ OwnsC w.heap.size (.slice (some ⟨g, 0, none⟩) m c') (madeFrom 0 qs) w' ∧ Below w.heap.size w w' := by
  have key : ∀ (qs : List Rl) (a' : Option Addr) (c' : Nat) (w' : World), 0 < qs.length → qs.length ≤ 4 → OwnsC w.heap.size (.slice a' qs.length c') (madeFrom 0 qs) w' → ∃ g, a' = some ⟨g, 0, none⟩ := fun qs a' c' w' hp _ ho => by
    obtain ⟨a2, c2, e2, h4, h5⟩ := ho.shape
    injection e2 with e3 e4 e5
    subst e3
    exact h5 (by rw [madeFrom_len]; exact hp)
  by_cases h0 : n = 0
  · subst h0
    refine (made0_ok [rl0] rfl a c lim tau most h1 h2 h3 w).mono ?_
    rintro e w' ⟨a', c', rfl, ho, hb⟩
    obtain ⟨g, rfl⟩ := key [rl0] a' c' w' (by decide) (by decide) ho
    exact ⟨[rl0], 1, g, c', rfl, by decide, by decide, rfl, ho, hb⟩
  · refine (made_ok rs a n c hn lim tau most h1 h2 h3 (by omega) h9 hnc w hA).mono ?_
    rintro e w' ⟨a', c', rfl, ho, hb⟩
    have hl : 0 < (rs.take 4).length ∧ (rs.take 4).length ≤ 4 := by rw [List.length_take]; omega
    obtain ⟨g, rfl⟩ := key (rs.take 4) a' c' w' hl.1 hl.2 ho
    exact ⟨rs.take 4, _, g, c', rfl, hl.1, hl.2, rfl, ho, hb⟩
end Go.Proofs.YtpgckpafjiojfaaGreatDoor.AD
