/- The times that are matched at a zone, and what next, previous and count say of them. -/
import Derived.Test.YtmdjfjdlehdhjaaGreatDoorMCount
import Derived.Test.YtmdjfjdlehdhjaaGreatDoorMList
import Derived.Test.YtmdjfjdlehdhjaaGreatDoorMWork
namespace Go.Proofs.YtmdjfjdlehdhjaaGreatDoor.BW
open Go.RowKit BM Go.Shelf MC
open BK hiding ret_bool ret_i64

/-- Whether a time is matched at a zone. -/
noncomputable def At (x : Ex) (z t : Int) : Bool := decide (0 ≤ t ∧ t ≤ 253402300799 ∧ 0 ≤ t + z * 60 ∧ t + z * 60 ≤ 253402300799) && T x (t + z * 60).toNat
theorem At_range {x : Ex} {z t : Int} (h : At x z t = true) : 0 ≤ t ∧ t ≤ 253402300799 ∧ 0 ≤ t + z * 60 ∧ t + z * 60 ≤ 253402300799 := by
  unfold At at h
  simp only [Bool.and_eq_true, decide_eq_true_eq] at h
  exact h.1
theorem At_T {x : Ex} {z t : Int} (h : At x z t = true) : T x (t + z * 60).toNat = true := by
  unfold At at h
  simp only [Bool.and_eq_true] at h
  exact h.2
theorem isV_At {x : Ex} {z t : Int} (h : chk x z [t] = 0) : isV x z t = At x z t := by
  obtain ⟨o1, o2, o3⟩ := chk_zero h
  have ht := o3 t (by simp)
  rw [isV_ok h]
  unfold At
  congr 1
  rw [← Bool.decide_and]
  simp [ht]
theorem timesL_mem {x : Ex} {z a b t : Int} (hz : -840 ≤ z ∧ z ≤ 840) : t ∈ timesL x z a b ↔ a ≤ t ∧ t ≤ b ∧ At x z t = true := by
  unfold timesL loI hiI At
  split
  · simp only [List.not_mem_nil, false_iff, Bool.and_eq_true, decide_eq_true_eq]
    omega
  · rw [List.mem_map]
    simp only [Bool.and_eq_true, decide_eq_true_eq]
    constructor
    · rintro ⟨l, hl, rfl⟩
      obtain ⟨h1, h2, h3⟩ := rest_mem.1 hl
      refine ⟨by omega, by omega, ⟨by omega, by omega, by omega, by omega⟩, ?_⟩
      rw [show ((l : Int) - z * 60 + z * 60).toNat = l from by omega]
      exact h3
    · rintro ⟨h1, h2, ⟨h3, h4, h5, h6⟩, h7⟩
      exact ⟨(t + z * 60).toNat, rest_mem.2 ⟨by omega, by omega, h7⟩, by omega⟩
theorem timesL_sorted (x : Ex) (z a b : Int) : (timesL x z a b).Pairwise (· < ·) := by
  unfold timesL
  split
  · exact List.Pairwise.nil
  · rw [List.pairwise_map]
    exact (rest_sorted x _ _).imp (by intro p q h; omega)
theorem head_some {l : List Int} (hs : l.Pairwise (· < ·)) {n : Int} : l.head? = some n ↔ n ∈ l ∧ ∀ m ∈ l, n ≤ m := by
  cases l with
  | nil => simp
  | cons a l =>
    rw [List.head?_cons, Option.some.injEq]
    have h1 := (List.pairwise_cons.1 hs).1
    constructor
    · rintro rfl
      exact ⟨by simp, fun m hm => by rcases List.mem_cons.1 hm with rfl | hm; exact Int.le_refl _; exact Int.le_of_lt (h1 m hm)⟩
    · rintro ⟨hn, hall⟩
      have h2 := hall a (by simp)
      rcases List.mem_cons.1 hn with rfl | hn
      · rfl
      · have := h1 n hn; omega
/-- The first time from one on. -/
noncomputable def fromV (x : Ex) (z t : Int) : Option Int := (timesL x z t 253402300799).head?
theorem fromV_some {x : Ex} {z t n : Int} (hz : -840 ≤ z ∧ z ≤ 840) : fromV x z t = some n ↔ t ≤ n ∧ At x z n = true ∧ ∀ m, t ≤ m → m < n → At x z m = false := by
  unfold fromV
  rw [head_some (timesL_sorted ..), timesL_mem hz]
  constructor
  · rintro ⟨⟨h1, _, h2⟩, h3⟩
    refine ⟨h1, h2, fun m hm1 hm2 => ?_⟩
    cases hm : At x z m
    · rfl
    · have := h3 m ((timesL_mem hz).2 ⟨hm1, (At_range hm).2.1, hm⟩); omega
  · rintro ⟨h1, h2, h3⟩
    refine ⟨⟨h1, (At_range h2).2.1, h2⟩, fun m hm => ?_⟩
    obtain ⟨k1, k2, k3⟩ := (timesL_mem hz).1 hm
    rcases Int.lt_or_le m n with h | h
    · rw [h3 m k1 h] at k3; cases k3
    · exact h
theorem fromV_none {x : Ex} {z t : Int} (hz : -840 ≤ z ∧ z ≤ 840) : fromV x z t = none ↔ ∀ m, t ≤ m → At x z m = false := by
  unfold fromV
  rw [List.head?_eq_none_iff, List.eq_nil_iff_forall_not_mem]
  constructor
  · intro h m hm
    cases hA : At x z m
    · rfl
    · exact absurd ((timesL_mem hz).2 ⟨hm, (At_range hA).2.1, hA⟩) (h m)
  · intro h m hm
    obtain ⟨k1, k2, k3⟩ := (timesL_mem hz).1 hm
    rw [h m k1] at k3; cases k3
theorem nxV_ok {x : Ex} {z t : Int} (h : chk x z [t] = 0) : nxV x z t = fromV x z (t + 1) := by unfold nxV fromV; rw [if_pos h]
theorem nxV_bad {x : Ex} {z t : Int} (h : chk x z [t] ≠ 0) : nxV x z t = none := by unfold nxV; rw [if_neg h]
end Go.Proofs.YtmdjfjdlehdhjaaGreatDoor.BW
