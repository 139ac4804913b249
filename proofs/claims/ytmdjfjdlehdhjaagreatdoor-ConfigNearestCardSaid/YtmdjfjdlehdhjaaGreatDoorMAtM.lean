/- The times that are matched at a zone, and what next, previous and count say of them. -/
import Derived.Test.YtmdjfjdlehdhjaaGreatDoorMCount
import Derived.Test.YtmdjfjdlehdhjaaGreatDoorMList
import Derived.Test.YtmdjfjdlehdhjaaGreatDoorMWork
namespace Go.Proofs.YtmdjfjdlehdhjaaGreatDoor.BW
open Go.RowKit BM Go.Shelf MC
open BK hiding ret_bool ret_i64

/-- Whether a time is matched at a zone. -/
noncomputable def At (x : Ex) (z t : Int) : Bool := decide (0 ≤ t ∧ t ≤ 253402300799 ∧ 0 ≤ t + z * 60 ∧ t + z * 60 ≤ 253402300799) && T x (t + z * 60).toNat
theorem At_range {x : Ex} {z t : Int} (h : At x z t = true) : 0 ≤ t ∧ t ≤ 253402300799 ∧ 0 ≤ t + z * 60 ∧ t + z * 60 ≤ 253402300799 := by
  unfold At at h
  simp only [Bool.and_eq_true, decide_eq_true_eq] at h
  exact h.1
theorem At_T {x : Ex} {z t : Int} (h : At x z t = true) : T x (t + z * 60).toNat = true := by
  unfold At at h
  simp only [Bool.and_eq_true] at h
  exact h.2
theorem isV_At {x : Ex} {z t : Int} (h : chk x z [t] = 0) : isV x z t = At x z t := by
  obtain ⟨o1, o2, o3⟩ := chk_zero h
  have ht := o3 t (by simp)
  rw [isV_ok h]
  unfold At
  congr 1
  rw [← Bool.decide_and]
  simp [ht]
theorem timesL_mem {x : Ex} {z a b t : Int} (hz : -840 ≤ z ∧ z ≤ 840) : t ∈ timesL x z a b ↔ a ≤ t ∧ t ≤ b ∧ At x z t = true := by
  unfold timesL loI hiI At
  split
  · simp only [List.not_mem_nil, false_iff, Bool.and_eq_true, decide_eq_true_eq]
    omega
  · rw [List.mem_map]
    simp only [Bool.and_eq_true, decide_eq_true_eq]
    constructor
    · rintro ⟨l, hl, rfl⟩
      obtain ⟨h1, h2, h3⟩ := rest_mem.1 hl
      refine ⟨by omega, by omega, ⟨by omega, by omega, by omega, by omega⟩, ?_⟩
      rw [show ((l : Int) - z * 60 + z * 60).toNat = l from by omega]
      exact h3
    · rintro ⟨h1, h2, ⟨h3, h4, h5, h6⟩, h7⟩
      exact ⟨(t + z * 60).toNat, rest_mem.2 ⟨by omega, by omega, h7⟩, by omega⟩
theorem timesL_sorted (x : Ex) (z a b : Int) : (timesL x z a b).Pairwise (· < ·) := by
  unfold timesL
  split
  · exact List.Pairwise.nil
  · rw [List.pairwise_map]
    exact (rest_sorted x _ _).imp (by intro p q h; omega)
theorem head_some {l : List Int} (hs : l.Pairwise (· < ·)) {n : Int} : l.head? = some n ↔ n ∈ l ∧ ∀ m ∈ l, n ≤ m := by
  cases l with
  | nil => simp
  | cons a l =>
    rw [List.head?_cons, Option.some.injEq]
    have h1 := (List.pairwise_cons.1 hs).1
    constructor
    · rintro rfl
      exact ⟨by simp, fun m hm => by rcases List.mem_cons.1 hm with rfl | hm; exact Int.le_refl _; exact Int.le_of_lt (h1 m hm)⟩
    · rintro ⟨hn, hall⟩
      have h2 := hall a (by simp)
      rcases List.mem_cons.1 hn with rfl | hn
      · rfl
      · have := h1 n hn; omega
theorem last_some {l : List Int} (hs : l.Pairwise (· < ·)) {n : Int} : l.getLast? = some n ↔ n ∈ l ∧ ∀ m ∈ l, m ≤ n := by
  rw [← List.head?_reverse]
  cases hr : l.reverse with
  | nil => rw [List.reverse_eq_nil_iff] at hr; subst hr; simp
  | cons a k =>
    have hp : (a :: k).Pairwise (fun p q => q < p) := by rw [← hr, List.pairwise_reverse]; exact hs
    have h1 := (List.pairwise_cons.1 hp).1
    have hm : ∀ m, m ∈ l ↔ m ∈ a :: k := fun m => by rw [← hr, List.mem_reverse]
    rw [List.head?_cons, Option.some.injEq]
    simp only [hm]
    constructor
    · rintro rfl
      exact ⟨by simp, fun m hm => by rcases List.mem_cons.1 hm with rfl | hm; exact Int.le_refl _; exact Int.le_of_lt (h1 m hm)⟩
    · rintro ⟨hn, hall⟩
      have h2 := hall a (by simp)
      rcases List.mem_cons.1 hn with rfl | hn
      · rfl
      · have := h1 n hn; omega
/-- The first time from one on. -/
noncomputable def fromV (x : Ex) (z t : Int) : Option Int := (timesL x z t 253402300799).head?
/-- The last time before one. -/
noncomputable def beforeV (x : Ex) (z t : Int) : Option Int := (timesL x z 0 (t - 1)).getLast?
theorem fromV_some {x : Ex} {z t n : Int} (hz : -840 ≤ z ∧ z ≤ 840) : fromV x z t = some n ↔ t ≤ n ∧ At x z n = true ∧ ∀ m, t ≤ m → m < n → At x z m = false := by
  unfold fromV
  rw [head_some (timesL_sorted ..), timesL_mem hz]
  constructor
  · rintro ⟨⟨h1, _, h2⟩, h3⟩
    refine ⟨h1, h2, fun m hm1 hm2 => ?_⟩
    cases hm : At x z m
    · rfl
    · have := h3 m ((timesL_mem hz).2 ⟨hm1, (At_range hm).2.1, hm⟩); omega
  · rintro ⟨h1, h2, h3⟩
    refine ⟨⟨h1, (At_range h2).2.1, h2⟩, fun m hm => ?_⟩
    obtain ⟨k1, k2, k3⟩ := (timesL_mem hz).1 hm
    rcases Int.lt_or_le m n with h | h
    · rw [h3 m k1 h] at k3; cases k3
    · exact h
theorem fromV_none {x : Ex} {z t : Int} (hz : -840 ≤ z ∧ z ≤ 840) : fromV x z t = none ↔ ∀ m, t ≤ m → At x z m = false := by
  unfold fromV
  rw [List.head?_eq_none_iff, List.eq_nil_iff_forall_not_mem]
  constructor
  · intro h m hm
    cases hA : At x z m
    · rfl
    · exact absurd ((timesL_mem hz).2 ⟨hm, (At_range hA).2.1, hA⟩) (h m)
  · intro h m hm
    obtain ⟨k1, k2, k3⟩ := (timesL_mem hz).1 hm
    rw [h m k1] at k3; cases k3
theorem beforeV_some {x : Ex} {z t n : Int} (hz : -840 ≤ z ∧ z ≤ 840) : beforeV x z t = some n ↔ n < t ∧ At x z n = true ∧ ∀ m, n < m → m < t → At x z m = false := by
  unfold beforeV
  rw [last_some (timesL_sorted ..), timesL_mem hz]
  constructor
  · rintro ⟨⟨_, h1, h2⟩, h3⟩
    refine ⟨by omega, h2, fun m hm1 hm2 => ?_⟩
    cases hm : At x z m
    · rfl
    · have := h3 m ((timesL_mem hz).2 ⟨(At_range hm).1, by omega, hm⟩); omega
  · rintro ⟨h1, h2, h3⟩
    refine ⟨⟨(At_range h2).1, by omega, h2⟩, fun m hm => ?_⟩
    obtain ⟨k1, k2, k3⟩ := (timesL_mem hz).1 hm
    rcases Int.lt_or_le n m with h | h
    · rw [h3 m h (by omega)] at k3; cases k3
    · exact h
theorem beforeV_none {x : Ex} {z t : Int} (hz : -840 ≤ z ∧ z ≤ 840) : beforeV x z t = none ↔ ∀ m, m < t → At x z m = false := by
  unfold beforeV
  rw [List.getLast?_eq_none_iff, List.eq_nil_iff_forall_not_mem]
  constructor
  · intro h m hm
    cases hA : At x z m
    · rfl
    · exact absurd ((timesL_mem hz).2 ⟨(At_range hA).1, by omega, hA⟩) (h m)
  · intro h m hm
    obtain ⟨k1, k2, k3⟩ := (timesL_mem hz).1 hm
    rw [h m (by omega)] at k3; cases k3
theorem nxV_ok {x : Ex} {z t : Int} (h : chk x z [t] = 0) : nxV x z t = fromV x z (t + 1) := by unfold nxV fromV; rw [if_pos h]
theorem nxV_bad {x : Ex} {z t : Int} (h : chk x z [t] ≠ 0) : nxV x z t = none := by unfold nxV; rw [if_neg h]
/-- The time before, if there is one. -/
noncomputable def pvV (x : Ex) (z t : Int) : Option Int := if chk x z [t] = 0 then beforeV x z t else none
theorem pvV_ok {x : Ex} {z t : Int} (h : chk x z [t] = 0) : pvV x z t = beforeV x z t := if_pos h
theorem pvV_bad {x : Ex} {z t : Int} (h : chk x z [t] ≠ 0) : pvV x z t = none := if_neg h
theorem ever_true {x : Ex} {n : Nat} (h : MC.M x n = true) : everR x = true := by
  unfold everR
  cases hd : daysL x (fun j => j) 2930 with
  | cons a l => rfl
  | nil =>
    have : MC.M x n = false := M_never (k := 0) (fun m _ hm => by
      cases hmm : MC.M x m
      · rfl
      · have : m ∈ daysL x (fun j => j) 2930 := by
          unfold daysL
          rw [List.mem_filter, List.mem_map]
          exact ⟨⟨m, List.mem_range.2 (by omega), rfl⟩, hmm⟩
        rw [hd] at this; cases this) n
    rw [h] at this; cases this
theorem ever_false {x : Ex} (h : ∀ n, n < 10227 → MC.M x n = false) : everR x = false := by
  unfold everR
  rw [daysL_none (M_never (k := 0) fun n _ hn => h n (by omega))]
  rfl
theorem ever_day {x : Ex} (h : everR x = true) : ∃ n, n < 2930 ∧ MC.M x n = true := by
  unfold everR at h
  cases hd : daysL x (fun j => j) 2930 with
  | nil => rw [hd] at h; cases h
  | cons a l =>
    have : a ∈ daysL x (fun j => j) 2930 := by rw [hd]; simp
    unfold daysL at this
    rw [List.mem_filter, List.mem_map] at this
    obtain ⟨⟨m, hm, rfl⟩, h2⟩ := this
    exact ⟨m, List.mem_range.1 hm, h2⟩
theorem ever_law {x : Ex} (h : ckR x = 0) : everR x = ((nxV x 0 0).isSome || isV x 0 0) := by
  have hc : chk x 0 [0] = 0 := by rw [chk_one h zone0]; rfl
  rw [isV_At hc, nxV_ok hc]
  have hz : (-840 : Int) ≤ 0 ∧ (0 : Int) ≤ 840 := by omega
  cases he : everR x with
  | true =>
    obtain ⟨n, hn, hm⟩ := ever_day he
    obtain ⟨s, hs, hk⟩ := (ok_of_ck h).some_second
    have hT : At x 0 (n * 86400 + s : Nat) = true := by
      unfold At
      rw [show (((n * 86400 + s : Nat) : Int) + 0 * 60).toNat = n * 86400 + s from by omega, T_at x n s hs, hm, hk]
      simp
      omega
    cases hf : fromV x 0 (0 + 1) with
    | some v => rfl
    | none =>
      have h1 := (fromV_none hz).1 hf
      rcases Nat.eq_zero_or_pos (n * 86400 + s) with h0 | h0
      · rw [h0] at hT
        exact hT.symm
      · rw [h1 _ (by omega)] at hT; cases hT
  | false =>
    have hA : ∀ t, At x 0 t = false := fun t => by
      cases hA : At x 0 t
      · rfl
      · have := At_T hA
        unfold T at this
        rw [Bool.and_eq_true] at this
        rw [ever_true this.1] at he; cases he
    rw [hA, (fromV_none hz).2 fun m _ => hA m]
    rfl
end Go.Proofs.YtmdjfjdlehdhjaaGreatDoor.BW
