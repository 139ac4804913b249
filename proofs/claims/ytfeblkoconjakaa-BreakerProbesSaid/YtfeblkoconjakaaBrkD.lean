/- Contracts of Copy and New. -/
import Derived.Test.YtfeblkoconjakaaBrkC
namespace Go.Proofs.Ytfeblkoconjakaa.BK
open Go Go.RowKit

section
variable {w : World} {b : Nat} {x : Bx}
set_option maxHeartbeats 400000 in
theorem copy_ok (h : BoxAt w b x) :
    Calls Try.prog 28 #[.pointer (some ⟨b, 0, none⟩)] w fun e w' => e = .returned (.pointer (some ⟨w.heap.size, 0, none⟩)) ∧ BoxAt w' w.heap.size x ∧ Below w.heap.size w w' ∧ w.heap.size < w'.heap.size := by
  have V := Lib.hid (valid_ok h)
  obtain ⟨f, o, p, op, un, fails, good, under, last⟩ := x
  obtain ⟨h0, h1, h2, h3, h4, h5, h6, h7, h8, h9⟩ := box_cells h
  clear h
  go_enter Try.func28, Try.ntmps28
  go_wp2_with fail
  refine V.out.mono ?_
  rintro e w' ⟨rfl, rfl⟩
  go_wp2_with fail
  go_ret
  exact ⟨rfl, Blk.new _ _ _, (Below.refl _ _).alloc (Nat.le_refl _) _, by simp⟩
theorem in_yes {n m : Int} (h1 : 1 ≤ n) (h2 : n ≤ m) : Calls Try.prog 32 #[.int .i64 n, .int .i64 m] w fun e w' => e = .returned (.bool true) ∧ w = w' := by
  go_enter Try.func32, Try.ntmps32
  go_wp2_with fail
  go_ret
  exact ⟨rfl, rfl⟩
theorem in_no {n m : Int} (h : n < 1 ∨ m < n) : Calls Try.prog 32 #[.int .i64 n, .int .i64 m] w fun e w' => e = .returned (.bool false) ∧ w = w' := by
  by_cases h1 : n < 1
  · clear h
    go_enter Try.func32, Try.ntmps32
    go_wp2_with fail
    go_ret
    exact ⟨rfl, rfl⟩
  · have h2 : m < n := by omega
    clear h
    go_enter Try.func32, Try.ntmps32
    go_wp2_with fail
    go_ret
    exact ⟨ret_bool (decide_eq_false (by omega)), rfl⟩
set_option maxHeartbeats 1000000 in
theorem new_yes {f o p : Int} (h : zero f o p = true ∨ ruled f o p = true) :
    Calls Try.prog 11 #[.agg #[.int .i64 f, .int .i64 o, .int .i64 p]] w fun e w' => ∃ n, e = .returned (.tuple #[.pointer (some ⟨n, 0, none⟩), .int .i64 0]) ∧ BoxAt w' n (fresh f o p) ∧ Below w.heap.size w w' ∧ w.heap.size ≤ n := by
  by_cases hz : zero f o p = true
  · unfold zero at hz
    obtain ⟨rfl, rfl, rfl⟩ := of_decide_eq_true hz
    clear h hz
    go_enter Try.func11, Try.ntmps11
    go_wp2_with fail
    go_ret2
    exact ⟨_, rfl, Blk.newAt (by simp), ((Below.refl _ _).alloc (Nat.le_refl _) _).alloc (by simp) _, by omega⟩
  · have hr := h.resolve_left hz
    unfold ruled maxSpan at hr
    obtain ⟨f1, f2, o1, o2, p1, p2⟩ := of_decide_eq_true hr
    have hf : ¬ f = 0 := by omega
    clear h hz hr
    go_enter Try.func11, Try.ntmps11
    go_wp2_with fail
    refine (in_yes f1 f2).mono ?_
    rintro e w' ⟨rfl, rfl⟩
    go_wp2_with fail
    refine (in_yes o1 o2).mono ?_
    rintro e w' ⟨rfl, rfl⟩
    go_wp2_with fail
    refine (in_yes p1 p2).mono ?_
    rintro e w' ⟨rfl, rfl⟩
    go_wp2_with fail
    go_ret2
    exact ⟨_, rfl, Blk.newAt (by simp), ((Below.refl _ _).alloc (Nat.le_refl _) _).alloc (by simp) _, by omega⟩
set_option maxHeartbeats 1000000 in
theorem new_no {f o p : Int} (h : ¬ (zero f o p = true ∨ ruled f o p = true)) :
    Calls Try.prog 11 #[.agg #[.int .i64 f, .int .i64 o, .int .i64 p]] w fun e w' => e = .returned (.tuple #[.pointer none, .int .i64 16]) ∧ Below w.heap.size w w' := by
  have hz : ¬ (f = 0 ∧ o = 0 ∧ p = 0) := fun h1 => h (.inl (by unfold zero; exact decide_eq_true h1))
  have hr : ¬ (1 ≤ f ∧ f ≤ 100 ∧ 1 ≤ o ∧ o ≤ 68719476736 ∧ 1 ≤ p ∧ p ≤ 100) := fun h1 => h (.inr (by unfold ruled; exact decide_eq_true h1))
  clear h
  by_cases hf : f = 0
  · subst hf
    by_cases ho : o = 0
    · subst ho
      have hp : ¬ p = 0 := by omega
      clear hz hr
      go_enter Try.func11, Try.ntmps11
      go_wp2_with fail
      refine (in_no (by omega)).mono ?_
      rintro e w' ⟨rfl, rfl⟩
      go_wp2_with fail
      go_ret2
      exact ⟨rfl, (Below.refl _ _).alloc (Nat.le_refl _) _⟩
    · clear hz hr
      go_enter Try.func11, Try.ntmps11
      go_wp2_with fail
      refine (in_no (by omega)).mono ?_
      rintro e w' ⟨rfl, rfl⟩
      go_wp2_with fail
      go_ret2
      exact ⟨rfl, (Below.refl _ _).alloc (Nat.le_refl _) _⟩
  · by_cases f1 : 1 ≤ f ∧ f ≤ 100
    · obtain ⟨f1, f2⟩ := f1
      by_cases o1 : 1 ≤ o ∧ o ≤ 68719476736
      · obtain ⟨o1, o2⟩ := o1
        have hp : p < 1 ∨ 100 < p := by omega
        have hp' := Lib.hid hp
        clear hz hr hp
        go_enter Try.func11, Try.ntmps11
        go_wp2_with fail
        refine (in_yes f1 f2).mono ?_
        rintro e w' ⟨rfl, rfl⟩
        go_wp2_with fail
        refine (in_yes o1 o2).mono ?_
        rintro e w' ⟨rfl, rfl⟩
        go_wp2_with fail
        refine (in_no hp'.out).mono ?_
        rintro e w' ⟨rfl, rfl⟩
        go_wp2_with fail
        go_ret2
        exact ⟨rfl, (Below.refl _ _).alloc (Nat.le_refl _) _⟩
      · have hp : o < 1 ∨ 68719476736 < o := by omega
        have hp' := Lib.hid hp
        clear hz hr hp o1
        go_enter Try.func11, Try.ntmps11
        go_wp2_with fail
        refine (in_yes f1 f2).mono ?_
        rintro e w' ⟨rfl, rfl⟩
        go_wp2_with fail
        refine (in_no hp'.out).mono ?_
        rintro e w' ⟨rfl, rfl⟩
        go_wp2_with fail
        go_ret2
        exact ⟨rfl, (Below.refl _ _).alloc (Nat.le_refl _) _⟩
    · have hp : f < 1 ∨ 100 < f := by omega
      have hp' := Lib.hid hp
      clear hz hr hp f1
      go_enter Try.func11, Try.ntmps11
      go_wp2_with fail
      refine (in_no hp'.out).mono ?_
      rintro e w' ⟨rfl, rfl⟩
      go_wp2_with fail
      go_ret2
      exact ⟨rfl, (Below.refl _ _).alloc (Nat.le_refl _) _⟩
theorem two_ok : Calls Try.prog 33 #[] w fun e w' => e = .returned (.agg #[.int .i64 2, .int .i64 10, .int .i64 2]) ∧ Below w.heap.size w w' := by
  go_enter Try.func33, Try.ntmps33
  go_wp2_with fail
  exact bodyPost_ret (v := .agg #[.int .i64 2, .int .i64 10, .int .i64 2]) (by simp [results, Try.results33, go_sem]) rfl ⟨rfl, (Below.refl _ _).alloc (Nat.le_refl _) _⟩
end
end Go.Proofs.Ytfeblkoconjakaa.BK
