/- What MatchSums knows of the times of two spans. -/
import Derived.Test.YtepoegcpfhjlpaaDoorRListM
import Derived.Test.YtepoegcpfhjlpaaDoorMTurnsW
import Derived.Test.YtepoegcpfhjlpaaDoorMCountsW
import Derived.Test.YtepoegcpfhjlpaaDoorMListsW
namespace Go.Proofs.YtepoegcpfhjlpaaDoor.BW
open Go.RowKit BM Go.Shelf MC
open BK hiding ret_bool ret_i64

theorem mem_cnt_p (p : Nat → Bool) (n : Nat) : ((List.range n).filter p).length = cnt p n := by
  induction n with
  | zero => rfl
  | succ n ih =>
    rw [List.range_succ, List.filter_append, List.length_append, ih, cnt]
    cases h : p n <;> simp [h]
theorem rest_len (x : Ex) (c hi : Nat) (h : c ≤ hi + 1) : (rest x c hi).length + cnt (T x) c = cnt (T x) (hi + 1) := by
  unfold rest
  have e : List.range' c (hi + 1 - c) = (List.range (hi + 1 - c)).map (c + ·) := by rw [List.range'_eq_map_range]
  rw [e, List.filter_map, List.length_map]
  have h1 := mem_cnt_p (fun i => T x (c + i)) (hi + 1 - c)
  have h2 := cnt_add (T x) c (hi + 1 - c)
  rw [show c + (hi + 1 - c) = hi + 1 from by omega] at h2
  have h3 : ((List.range (hi + 1 - c)).filter (T x ∘ fun b => c + b)).length = cnt (fun i => T x (c + i)) (hi + 1 - c) := h1
  omega
theorem ctR_len {x : Ex} {z a b : Int} (h : chk x z [a, b] = 0) : ctR x z a b = (timesL x z a b).length := by
  unfold ctR timesL
  by_cases hlt : hiI z b < loI z a
  · rw [if_neg (fun hh => hh.2 hlt), if_pos hlt]; rfl
  · rw [if_pos ⟨h, hlt⟩, if_neg hlt, List.length_map]
    unfold ctV
    have h0 : 0 ≤ loI z a := by unfold loI; omega
    have := rest_len x (loI z a).toNat (hiI z b).toNat (by omega)
    omega
theorem times_append {x : Ex} {z a b c : Int} (hz : -840 ≤ z ∧ z ≤ 840) (h1 : a ≤ b + 1) (h2 : b ≤ c) : timesL x z a c = timesL x z a b ++ timesL x z (b + 1) c := by
  refine sorted_ext (timesL_sorted ..) (List.pairwise_append.2 ⟨timesL_sorted .., timesL_sorted .., fun p hp q hq => ?_⟩) fun t => ?_
  · have := (timesL_mem hz).1 hp
    have := (timesL_mem hz).1 hq
    omega
  · rw [List.mem_append, timesL_mem hz, timesL_mem hz, timesL_mem hz]
    constructor
    · rintro ⟨t1, t2, t3⟩
      by_cases hb : t ≤ b
      · exact .inl ⟨t1, hb, t3⟩
      · exact .inr ⟨by omega, t2, t3⟩
    · rintro (⟨t1, t2, t3⟩ | ⟨t1, t2, t3⟩)
      · exact ⟨t1, by omega, t3⟩
      · exact ⟨by omega, t2, t3⟩
theorem times_get {x : Ex} {z a b : Int} (hz : -840 ≤ z ∧ z ≤ 840) {i : Nat} (hi : i < (timesL x z a b).length) : a ≤ (timesL x z a b)[i] ∧ (timesL x z a b)[i] ≤ b ∧ At x z (timesL x z a b)[i] = true := (timesL_mem hz).1 (List.getElem_mem hi)
theorem times_lt {x : Ex} {z a b : Int} {i j : Nat} (hj : j < (timesL x z a b).length) (hij : i < j) : (timesL x z a b)[i]'(by omega) < (timesL x z a b)[j] := List.pairwise_iff_getElem.1 (timesL_sorted x z a b) i j (by omega) hj hij
theorem times_next {x : Ex} {z a b : Int} (hz : -840 ≤ z ∧ z ≤ 840) {i : Nat} (hi : i + 1 < (timesL x z a b).length) : fromV x z ((timesL x z a b)[i]'(by omega) + 1) = some (timesL x z a b)[i + 1] := by
  have h1 := times_get hz (x := x) (a := a) (b := b) (i := i) (by omega)
  have h2 := times_get hz hi
  have h3 := times_lt hi (Nat.lt_succ_self i)
  refine (fromV_some hz).2 ⟨by omega, h2.2.2, fun m m1 m2 => ?_⟩
  cases hA : At x z m
  · rfl
  · obtain ⟨j, hj, rfl⟩ := List.getElem_of_mem ((timesL_mem (x := x) (a := a) (b := b) hz).2 ⟨by omega, by omega, hA⟩)
    rcases Nat.lt_trichotomy j (i + 1) with h | h | h
    · rcases Nat.lt_or_ge j i with h' | h'
      · have := times_lt (x := x) (z := z) (a := a) (b := b) (i := j) (j := i) (by omega) h'; omega
      · obtain rfl : j = i := by omega
        omega
    · subst h; omega
    · have := times_lt hj h; omega
theorem times_last {x : Ex} {z a b : Int} (hz : -840 ≤ z ∧ z ≤ 840) {i : Nat} (hi : i + 1 = (timesL x z a b).length) {u : Int} (hu : fromV x z ((timesL x z a b)[i]'(by omega) + 1) = some u) : b < u := by
  obtain ⟨u1, u2, u3⟩ := (fromV_some hz).1 hu
  have h1 := times_get hz (x := x) (a := a) (b := b) (i := i) (by omega)
  rcases Int.lt_or_le b u with h | h
  · exact h
  · obtain ⟨j, hj, rfl⟩ := List.getElem_of_mem ((timesL_mem (x := x) (a := a) (b := b) hz).2 ⟨by omega, h, u2⟩)
    rcases Nat.lt_or_ge j i with h' | h'
    · have := times_lt (x := x) (z := z) (a := a) (b := b) (i := j) (j := i) (by omega) h'; omega
    · obtain rfl : j = i := by omega
      omega
/-- All that the law asks of the first times of a span. -/
structure SumF (x : Ex) (z a b : Int) (m : Nat) (l : List Int) : Prop where
  len : l.length = min m 30
  get : ∀ i (hi : i < l.length), chk x z [l[i]] = 0 ∧ isV x z l[i] = true ∧ a ≤ l[i] ∧ l[i] ≤ b
  inc : ∀ i (hi : i + 1 < l.length), l[i]'(by omega) < l[i + 1]
  nxt : ∀ i (hi : i + 1 < l.length), nxV x z (l[i]'(by omega)) = some l[i + 1]
  few : ∀ i (hi : i + 1 = l.length), l.length < 30 → ∀ u, nxV x z (l[i]'(by omega)) = some u → b < u
  many : ∀ i (hi : i + 1 = l.length), l.length = 30 → m ≠ 30 → ∃ u, nxV x z (l[i]'(by omega)) = some u ∧ u ≤ b
theorem sum_law {x : Ex} {z a b : Int} (h : chk x z [a, b] = 0) : SumF x z a b (ctR x z a b) (lsV x z a b 30) := by
  obtain ⟨o1, hz, o3⟩ := chk_zero h
  have hl : lsV x z a b 30 = (timesL x z a b).take 30 := by
    unfold lsV
    rw [if_pos ⟨h, by decide⟩]; rfl
  have hck : ∀ t, At x z t = true → chk x z [t] = 0 := fun t ht => by
    have := At_range ht
    rw [chk_one o1 (zone_of h), if_pos ⟨this.1, this.2.1⟩]
  have hlen : ∀ i, i < (lsV x z a b 30).length → i < (timesL x z a b).length ∧ i < 30 := fun i hi => by
    rw [hl, List.length_take] at hi; omega
  have hget : ∀ i (hi : i < (lsV x z a b 30).length), (lsV x z a b 30)[i] = (timesL x z a b)[i]'(hlen i hi).1 := fun i hi => by
    simp only [hl, List.getElem_take]
  have hL : (lsV x z a b 30).length = min (timesL x z a b).length 30 := by rw [hl, List.length_take]; omega
  refine ⟨by rw [ctR_len h]; exact hL, fun i hi => ?_, fun i hi => ?_, fun i hi => ?_, fun i hi h30 u hu => ?_, fun i hi h30 hm => ?_⟩
  · rw [hget i hi]
    obtain ⟨g1, g2, g3⟩ := times_get hz (hlen i hi).1
    exact ⟨hck _ g3, by rw [isV_At (hck _ g3)]; exact g3, g1, g2⟩
  · rw [hget i (by omega), hget (i + 1) hi]
    exact times_lt (hlen _ hi).1 (Nat.lt_succ_self i)
  · rw [hget i (by omega), hget (i + 1) hi]
    obtain ⟨g1, g2, g3⟩ := times_get hz (hlen i (by omega)).1
    rw [nxV_ok (hck _ g3)]
    exact times_next hz (hlen _ hi).1
  · rw [hget i (by omega)] at hu
    obtain ⟨g1, g2, g3⟩ := times_get hz (hlen i (by omega)).1
    rw [nxV_ok (hck _ g3)] at hu
    exact times_last hz (by omega) hu
  · rw [ctR_len h] at hm
    rw [hget i (by omega)]
    obtain ⟨g1, g2, g3⟩ := times_get hz (hlen i (by omega)).1
    rw [nxV_ok (hck _ g3)]
    have hi2 : i + 1 < (timesL x z a b).length := by omega
    exact ⟨_, times_next hz hi2, (times_get hz hi2).2.1⟩
theorem sums_law {x : Ex} {z a b c : Int} (h : chk x z [a, b] = 0) (h1 : a ≤ b) (h2 : b ≤ c) (hc : c < 253402300799) : chk x z [b + 1, c + 1] = 0 ∧ chk x z [a, c + 1] = 0 ∧ ctR x z a b + ctR x z (b + 1) (c + 1) = ctR x z a (c + 1) := by
  obtain ⟨o1, hz, o3⟩ := chk_zero h
  have ha := o3 a (by simp)
  have hz0 := zone_of h
  have hk : ∀ p q, 0 ≤ p → p ≤ 253402300799 → 0 ≤ q → q ≤ 253402300799 → chk x z [p, q] = 0 := fun p q p1 p2 q1 q2 => by
    rw [chk_times o1 hz0]
    unfold timesR tOk
    simp [p1, p2, q1, q2]
  have k1 := hk (b + 1) (c + 1) (by omega) (by omega) (by omega) (by omega)
  have k2 := hk a (c + 1) (by omega) (by omega) (by omega) (by omega)
  refine ⟨k1, k2, ?_⟩
  rw [ctR_len h, ctR_len k1, ctR_len k2, times_append (x := x) (a := a) (b := b) (c := c + 1) hz (by omega) (by omega), List.length_append]
theorem sums_bad {x : Ex} {z a b : Int} (h : chk x z [a, b] ≠ 0) : ctR x z a b = 0 := by unfold ctR; rw [if_neg (fun hh => h hh.1)]
theorem ctR_le (x : Ex) (z a b : Int) : ctR x z a b ≤ 100000000000000 := by
  unfold ctR
  split
  · unfold ctV
    have h1 := cnt_le (T x) ((hiI z b).toNat + 1)
    have h2 : hiI z b ≤ 253402300799 := by unfold hiI; omega
    omega
  · exact Nat.zero_le _
theorem is_at {w : World} {x : Ex} (hx : U64s x) (z v : Int) (h1 : chk x z [v] = 0) (h2 : isV x z v = true) (W : World) (h : Box w x W) : Calls Tryd.prog 23 #[.agg #[.int .u64 x.s, .int .u64 x.mi, .int .u64 x.h, .int .u64 x.d, .int .u64 x.mo, .int .u64 x.w, .bool x.ad, .bool x.aw], .int .i64 z, .int .i64 v] W fun e W' =>
    e = .returned (.tuple #[.bool true, .int .i64 0]) ∧ Below W.heap.size W W' := by
  have C := pis_ok x hx z v W h.sp h.tab
  rw [h1, h2] at C
  exact C
theorem nx_at {w : World} {x : Ex} (hx : U64s x) (z v : Int) {r : Option Int} (h1 : chk x z [v] = 0) (h2 : nxV x z v = r) (W : World) (h : Box w x W) : Calls Tryd.prog 24 #[.agg #[.int .u64 x.s, .int .u64 x.mi, .int .u64 x.h, .int .u64 x.d, .int .u64 x.mo, .int .u64 x.w, .bool x.ad, .bool x.aw], .int .i64 z, .int .i64 v] W fun e W' =>
    e = .returned (.tuple #[.int .i64 (optI r), .bool r.isSome, .int .i64 0]) ∧ Below W.heap.size W W' := by
  have C := pnext_ok x hx z v W h.sp h.tab
  rw [h1, h2] at C
  exact C
theorem nx_some {w : World} {x : Ex} (hx : U64s x) (z v : Int) {u : Int} (h1 : chk x z [v] = 0) (h2 : nxV x z v = some u) (W : World) (h : Box w x W) : Calls Tryd.prog 24 #[.agg #[.int .u64 x.s, .int .u64 x.mi, .int .u64 x.h, .int .u64 x.d, .int .u64 x.mo, .int .u64 x.w, .bool x.ad, .bool x.aw], .int .i64 z, .int .i64 v] W fun e W' =>
    e = .returned (.tuple #[.int .i64 u, .bool true, .int .i64 0]) ∧ Below W.heap.size W W' := nx_at hx z v h1 h2 W h
theorem nx_none {w : World} {x : Ex} (hx : U64s x) (z v : Int) (h1 : chk x z [v] = 0) (h2 : nxV x z v = none) (W : World) (h : Box w x W) : Calls Tryd.prog 24 #[.agg #[.int .u64 x.s, .int .u64 x.mi, .int .u64 x.h, .int .u64 x.d, .int .u64 x.mo, .int .u64 x.w, .bool x.ad, .bool x.aw], .int .i64 z, .int .i64 v] W fun e W' =>
    e = .returned (.tuple #[.int .i64 0, .bool false, .int .i64 0]) ∧ Below W.heap.size W W' := nx_at hx z v h1 h2 W h
end Go.Proofs.YtepoegcpfhjlpaaDoor.BW
