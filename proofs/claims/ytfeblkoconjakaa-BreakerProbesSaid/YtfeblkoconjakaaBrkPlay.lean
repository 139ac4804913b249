/- Scripts: what played, latest and alike do. -/
import Derived.Test.YtfeblkoconjakaaBrkSteps
namespace Go.Proofs.Ytfeblkoconjakaa.BK
open Go Go.RowKit

def play1 (x : Bx) (s : St) : Bx :=
  if s.what = 0 then (take x s.at_).2 else if s.what = 1 then (report x s.ok s.at_).2.2 else if s.what = 2 then (trip x s.at_).2 else if s.what = 3 then (reset x s.at_).2 else x
def plays (x : Bx) (xs : List St) : Bx := xs.foldl play1 x
theorem plays_succ (x : Bx) (xs : List St) (k : Nat) (h : k < xs.length) : plays x (xs.take (k + 1)) = play1 (plays x (xs.take k)) xs[k] := by
  unfold plays
  rw [List.take_succ_eq_append_getElem h, List.foldl_append]
  rfl
def latestF (xs : List St) : Int := xs.foldl (fun m s => if s.at_ ≤ maxTime then max m s.at_ else m) 0
theorem latestF_succ (xs : List St) (k : Nat) (h : k < xs.length) : latestF (xs.take (k + 1)) = if xs[k].at_ ≤ maxTime then max (latestF (xs.take k)) xs[k].at_ else latestF (xs.take k) := by
  unfold latestF
  rw [List.take_succ_eq_append_getElem h, List.foldl_append]
  rfl
theorem maxif (m d : Int) : max m d = if m < d then d else m := by split <;> omega
theorem latestF_bounds (xs : List St) : ∀ k, k ≤ xs.length → 0 ≤ latestF (xs.take k) ∧ latestF (xs.take k) ≤ maxTime := by
  intro k
  induction k with
  | zero => intro _; simp [latestF, maxTime]
  | succ k ih =>
    intro hk
    have := ih (by omega)
    rw [latestF_succ xs k (by omega)]
    split <;> omega
/-- A box's last time is never above the latest one of its script; its rule stays. -/
theorem play1_last (x : Bx) (s : St) : (play1 x s).f = x.f ∧ (play1 x s).o = x.o ∧ (play1 x s).p = x.p ∧ ((play1 x s).last = x.last ∨ ((play1 x s).last = s.at_ ∧ s.at_ ≤ maxTime)) := by
  have hc : ∀ {x : Bx} {now : Int}, ¬ check x now ≠ 0 → now ≤ maxTime := fun {x now} h => (check_zero (x := x) (now := now) (by omega)).2.1
  unfold play1
  split
  · unfold take
    split
    · simp
    · rename_i h
      have := hc h
      split
      · simp
      · split <;> simp [seen, this]
  · split
    · unfold report
      split
      · simp
      · rename_i h
        have := hc h
        split
        · simp [seen, this]
        · unfold ended
          split
          · unfold closed
            split
            · simp [seen, this]
            · split <;> simp [seen, start, this]
          · split
            · simp [seen, this]
            · unfold half
              split
              · simp [seen, start, this]
              · split
                · simp [seen, this]
                · split <;> simp [seen, stop, this]
    · split
      · unfold trip
        split
        · simp
        · rename_i h
          have := hc (x := x) (now := s.at_) (by have := (switched_zero (x := x) (now := s.at_) (by omega)).1; omega)
          simp [seen, start, this]
      · split
        · unfold reset
          split
          · simp
          · rename_i h
            have := hc (x := x) (now := s.at_) (by have := (switched_zero (x := x) (now := s.at_) (by omega)).1; omega)
            simp [seen, stop, this]
        · simp
theorem plays_last (x : Bx) (xs : List St) (hx : x.last = 0) : (plays x xs).f = x.f ∧ (plays x xs).o = x.o ∧ (plays x xs).p = x.p ∧ (plays x xs).last ≤ latestF xs := by
  have key : ∀ k, k ≤ xs.length → (plays x (xs.take k)).f = x.f ∧ (plays x (xs.take k)).o = x.o ∧ (plays x (xs.take k)).p = x.p ∧ (plays x (xs.take k)).last ≤ latestF (xs.take k) := by
    intro k
    induction k with
    | zero => intro _; simp [plays, latestF, hx]
    | succ k ih =>
      intro hk
      obtain ⟨h1, h2, h3, h4⟩ := ih (by omega)
      obtain ⟨g1, g2, g3, g4⟩ := play1_last (plays x (xs.take k)) xs[k]
      rw [plays_succ x xs k (by omega), latestF_succ xs k (by omega)]
      refine ⟨g1.trans h1, g2.trans h2, g3.trans h3, ?_⟩
      rcases g4 with g4 | ⟨g4, g5⟩
      · rw [g4]; split <;> omega
      · rw [g4, if_pos g5]; omega
  have := key xs.length (Nat.le_refl _)
  rwa [List.take_length] at this
theorem inv_play1 {x : Bx} (h : Inv x) (s : St) : Inv (play1 x s) := by
  unfold play1
  split
  · exact inv_take h
  · split
    · exact inv_report h
    · split
      · exact inv_trip h
      · split
        · exact inv_reset h
        · exact h

set_option maxHeartbeats 4000000 in
set_option maxRecDepth 100000 in
theorem played_yes {f o p : Int} (hv : zero f o p = true ∨ ruled f o p = true) (a : Option Addr) (cap : Nat) (xs : List St) (hl : xs.length ≤ 9223372036854775807) (w : World) (hA : StepsAt w a xs) :
    Calls Try.prog 21 #[.agg #[.int .i64 f, .int .i64 o, .int .i64 p], .slice a xs.length cap] w fun e w' => ∃ b, e = .returned (.pointer (some ⟨b, 0, none⟩)) ∧ w.heap.size ≤ b ∧ BoxAt w' b (plays (fresh f o p) xs) ∧ Inv (plays (fresh f o p) xs) ∧ Below w.heap.size w w' := by
  have HA := Lib.hid hA
  have HV := Lib.hid hv
  clear hA hv
  go_enter Try.func21, Try.ntmps21
  go_wp2_with fail
  have C := has_new (B := w.heap.size + 1) (Below.refl _ (w.alloc (.cells #[.int .i64 f, .int .i64 o, .int .i64 p] 23))) (by simp) HV.out
  (with_reducible refine C.mono ?_)
  rintro e w1 ⟨b, rfl, -, h, -⟩
  clear C
  have H := Lib.hid h
  clear h
  go_wp2_with fail
  go_loopw [7] (fun iv wr => ∃ k : Nat, iv = .int .i64 k ∧ k ≤ xs.length ∧ Has (w.heap.size + 1) (w.alloc (.cells #[.int .i64 f, .int .i64 o, .int .i64 p] 23)) wr b (plays (fresh f o p) (xs.take k))) (fun i _ => xs.length - (intOf i).toNat)
  case atStart => exact ⟨0, rfl, by omega, H.out⟩
  clear H
  case round =>
    obtain ⟨k, rfl, hk, h⟩ := hrel
    have H := Lib.hid h
    by_cases hlt : k < xs.length
    · obtain ⟨c, off, rfl, hcell0, hcell1, hcell2⟩ := (HA.out.alloc _).get h.bel (by simp) hlt
      have HP := Lib.hid (plays_succ (fresh f o p) xs k hlt)
      generalize xs[k] = d at *
      generalize plays (fresh f o p) (xs.take k) = x at *
      clear h
      by_cases h0 : d.what = 0
      · have hb0 : (d.what == 0) = true := by simp [h0]
        have HQ : Hid (plays (fresh f o p) (xs.take (k + 1)) = (take x d.at_).2) := Lib.hid (by rw [HP.out, play1, if_pos h0])
        clear h0 HP
        go_wp2_with fail
        have C := has_take H.out d.at_ rfl
        (with_reducible refine C.mono ?_)
        rintro e w2 ⟨rfl, h, -⟩
        clear C
        have H2 := Lib.hid h
        clear h H
        go_wp2_with fail
        go_roundw
        case rel => exact ⟨k + 1, by go_num, by omega, by rw [HQ.out]; exact H2.out⟩
        case measure => simp [intOf]; omega
      · have hb0 : (d.what == 0) = false := by simp [h0]
        by_cases h1 : d.what = 1
        · have hb1 : (d.what == 1) = true := by simp [h1]
          have HQ : Hid (plays (fresh f o p) (xs.take (k + 1)) = (report x d.ok d.at_).2.2) := Lib.hid (by rw [HP.out, play1, if_neg h0, if_pos h1])
          clear h0 h1 HP
          go_wp2_with fail
          go_still_tail 11, (by kernel_rfl)
          change wpList _ _ _ _ _ wr.drew
          go_wp2_with fail
          have C := has_report H.out.drew d.ok d.at_ rfl
          (with_reducible refine C.mono ?_)
          rintro e w2 ⟨rfl, h, -⟩
          clear C
          have H2 := Lib.hid h
          clear h H
          go_wp2_with fail
          go_roundw
          case rel => exact ⟨k + 1, by go_num, by omega, by rw [HQ.out]; exact H2.out⟩
          case measure => simp [intOf]; omega
        · have hb1 : (d.what == 1) = false := by simp [h1]
          by_cases h2 : d.what = 2
          · have hb2 : (d.what == 2) = true := by simp [h2]
            have HQ : Hid (plays (fresh f o p) (xs.take (k + 1)) = (trip x d.at_).2) := Lib.hid (by rw [HP.out, play1, if_neg h0, if_neg h1, if_pos h2])
            clear h0 h1 h2 HP
            go_wp2_with fail
            have C := has_trip H.out d.at_ rfl
            (with_reducible refine C.mono ?_)
            rintro e w2 ⟨rfl, h, -⟩
            clear C
            have H2 := Lib.hid h
            clear h H
            go_wp2_with fail
            go_roundw
            case rel => exact ⟨k + 1, by go_num, by omega, by rw [HQ.out]; exact H2.out⟩
            case measure => simp [intOf]; omega
          · have hb2 : (d.what == 2) = false := by simp [h2]
            by_cases h3 : d.what = 3
            · have hb3 : (d.what == 3) = true := by simp [h3]
              have HQ : Hid (plays (fresh f o p) (xs.take (k + 1)) = (reset x d.at_).2) := Lib.hid (by rw [HP.out, play1, if_neg h0, if_neg h1, if_neg h2, if_pos h3])
              clear h0 h1 h2 h3 HP
              go_wp2_with fail
              have C := has_reset H.out d.at_ rfl
              (with_reducible refine C.mono ?_)
              rintro e w2 ⟨rfl, h, -⟩
              clear C
              have H2 := Lib.hid h
              clear h H
              go_wp2_with fail
              go_roundw
              case rel => exact ⟨k + 1, by go_num, by omega, by rw [HQ.out]; exact H2.out⟩
              case measure => simp [intOf]; omega
            · have hb3 : (d.what == 3) = false := by simp [h3]
              have HQ : Hid (plays (fresh f o p) (xs.take (k + 1)) = x) := Lib.hid (by rw [HP.out, play1, if_neg h0, if_neg h1, if_neg h2, if_neg h3])
              clear h0 h1 h2 h3 HP
              go_wp2_with fail
              go_roundw
              case rel => exact ⟨k + 1, by go_num, by omega, by rw [HQ.out]; exact H.out⟩
              case measure => simp [intOf]; omega
    · clear h
      obtain rfl : k = xs.length := by omega
      rw [List.take_length] at H
      go_wp2_with fail
      go_ret
      exact ⟨b, rfl, by have := H.out.le; omega, H.out.box, H.out.inv, ((Below.refl _ _).alloc (Nat.le_refl _) _).trans (H.out.bel.mono (by simp))⟩
set_option maxHeartbeats 1000000 in
theorem played_no {f o p : Int} (hv : ¬ (zero f o p = true ∨ ruled f o p = true)) (v : Value) (w : World) :
    Calls Try.prog 21 #[.agg #[.int .i64 f, .int .i64 o, .int .i64 p], v] w fun e w' => e = .returned (.pointer none) ∧ Below w.heap.size w w' := by
  have HV := Lib.hid hv
  clear hv
  go_enter Try.func21, Try.ntmps21
  go_wp2_with fail
  have C := (fun W => new_no (w := W) HV.out)
  (with_reducible refine (C _).mono ?_)
  rintro e w1 ⟨rfl, h⟩
  clear C
  have H := Lib.hid h
  clear h
  go_wp2_with fail
  go_ret
  exact ⟨rfl, ((Below.refl _ _).alloc (Nat.le_refl _) _).trans (H.out.mono (by simp))⟩
set_option maxHeartbeats 1000000 in
theorem latest_ok (a : Option Addr) (cap : Nat) (xs : List St) (hl : xs.length ≤ 9223372036854775807) (w : World) (hA : StepsAt w a xs) :
    Calls Try.prog 22 #[.slice a xs.length cap] w fun e w' => e = .returned (.int .i64 (latestF xs)) ∧ w = w' := by
  have HA := Lib.hid hA
  clear hA
  go_enter Try.func22, Try.ntmps22
  go_wp2_with fail
  go_loop [3, 4] (fun mv iv => ∃ k : Nat, iv = .int .i64 k ∧ k ≤ xs.length ∧ mv = .int .i64 (latestF (xs.take k))) (fun _ i => xs.length - (intOf i).toNat)
  case atStart => exact ⟨0, rfl, by omega, rfl⟩
  case round =>
    obtain ⟨k, rfl, hk, rfl⟩ := hrel
    by_cases hlt : k < xs.length
    · obtain ⟨c, off, rfl, hcell0, hcell1, hcell2⟩ := HA.out.get (Below.refl w.heap.size w) (Nat.le_refl _) hlt
      have HP := Lib.hid (latestF_succ xs k hlt)
      generalize xs[k] = d at *
      generalize latestF (xs.take k) = m at *
      by_cases hm : d.at_ ≤ 253402300799
      · have HQ : Hid (latestF (xs.take (k + 1)) = if m < d.at_ then d.at_ else m) := Lib.hid (by rw [HP.out, if_pos (by unfold maxTime; exact hm), maxif])
        go_wp2_with fail
        all_goals
          go_round
          case rel => exact ⟨k + 1, by go_num, by omega, by rw [HQ.out]⟩
          case measure => simp [intOf]; omega
      · go_wp2_with fail
        go_round
        case rel => exact ⟨k + 1, by go_num, by omega, by rw [HP.out, if_neg (by unfold maxTime; exact hm)]⟩
        case measure => simp [intOf]; omega
    · obtain rfl : k = xs.length := by omega
      rw [List.take_length]
      go_wp2_with fail
      go_ret
      exact ⟨rfl, rfl⟩
end Go.Proofs.Ytfeblkoconjakaa.BK
