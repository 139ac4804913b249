/- The times that are matched at a zone, and what next, previous and count say of them. -/
import Derived.Test.YtihadbkjfocdoaaGreatDoorMCount
import Derived.Test.YtihadbkjfocdoaaGreatDoorMList
import Derived.Test.YtihadbkjfocdoaaGreatDoorMWork
namespace Go.Proofs.YtihadbkjfocdoaaGreatDoor.BW
open Go.RowKit BM Go.Shelf MC
open BK hiding ret_bool ret_i64

/-- Whether a time is matched at a zone. -/
noncomputable def At (x : Ex) (z t : Int) : Bool := decide (0 ≤ t ∧ t ≤ 253402300799 ∧ 0 ≤ t + z * 60 ∧ t + z * 60 ≤ 253402300799) && T x (t + z * 60).toNat
theorem isV_At {x : Ex} {z t : Int} (h : chk x z [t] = 0) : isV x z t = At x z t := by
  obtain ⟨o1, o2, o3⟩ := chk_zero h
  have ht := o3 t (by simp)
  rw [isV_ok h]
  unfold At
  congr 1
  rw [← Bool.decide_and]
  simp [ht]
theorem timesL_mem {x : Ex} {z a b t : Int} (hz : -840 ≤ z ∧ z ≤ 840) : t ∈ timesL x z a b ↔ a ≤ t ∧ t ≤ b ∧ At x z t = true := by
  unfold timesL loI hiI At
  split
  · simp only [List.not_mem_nil, false_iff, Bool.and_eq_true, decide_eq_true_eq]
    omega
  · rw [List.mem_map]
    simp only [Bool.and_eq_true, decide_eq_true_eq]
    constructor
    · rintro ⟨l, hl, rfl⟩
      obtain ⟨h1, h2, h3⟩ := rest_mem.1 hl
      refine ⟨by omega, by omega, ⟨by omega, by omega, by omega, by omega⟩, ?_⟩
      rw [show ((l : Int) - z * 60 + z * 60).toNat = l from by omega]
      exact h3
    · rintro ⟨h1, h2, ⟨h3, h4, h5, h6⟩, h7⟩
      exact ⟨(t + z * 60).toNat, rest_mem.2 ⟨by omega, by omega, h7⟩, by omega⟩
theorem timesL_sorted (x : Ex) (z a b : Int) : (timesL x z a b).Pairwise (· < ·) := by
  unfold timesL
  split
  · exact List.Pairwise.nil
  · rw [List.pairwise_map]
    exact (rest_sorted x _ _).imp (by intro p q h; omega)
theorem head_some {l : List Int} (hs : l.Pairwise (· < ·)) {n : Int} : l.head? = some n ↔ n ∈ l ∧ ∀ m ∈ l, n ≤ m := by
  cases l with
  | nil => simp
  | cons a l =>
    rw [List.head?_cons, Option.some.injEq]
    have h1 := (List.pairwise_cons.1 hs).1
    constructor
    · rintro rfl
      exact ⟨by simp, fun m hm => by rcases List.mem_cons.1 hm with rfl | hm; exact Int.le_refl _; exact Int.le_of_lt (h1 m hm)⟩
    · rintro ⟨hn, hall⟩
      have h2 := hall a (by simp)
      rcases List.mem_cons.1 hn with rfl | hn
      · rfl
      · have := h1 n hn; omega
end Go.Proofs.YtihadbkjfocdoaaGreatDoor.BW
