/- Contracts of bits.Of and the reference's Of: the set of a list. -/
import Derived.Test.YtcgnnmpgdnajnaaDoorBitsE
namespace Go.Proofs.YtcgnnmpgdnajnaaDoor.BW
open Go.RowKit BM

/-- The numbers xs lie at a, one a cell. -/
def IntsAt (w : World) (a : Option Addr) (xs : List Int) : Prop := ∀ k (h : k < xs.length), ∃ b off, a = some ⟨b, off, none⟩ ∧ w.cell? ⟨b, off + k, none⟩ = some (.int .i64 xs[k])

/-- What Of returns: the set, the error. -/
def ofR (xs : List Int) : Nat × Int := if xs.all (fun v => decide (0 ≤ v) && decide (v ≤ 63)) then (mk fun i => xs.contains (i : Int), 0) else (0, 3)
theorem of_next {xs : List Int} {k n : Nat} (hk : k < xs.length) (hn : n < 64) (h : xs[k] = (n : Int)) :
    (mk fun i => (xs.take k).contains (i : Int)) ||| 2 ^ n = mk fun i => (xs.take (k + 1)).contains (i : Int) := by
  rw [mk_or hn]
  apply mk_ext
  intro i _
  rw [List.take_succ_eq_append_getElem hk, h]
  rw [Bool.eq_iff_iff]
  simp only [Bool.or_eq_true, List.contains_eq_mem, decide_eq_true_eq, List.mem_append, List.mem_singleton]
  constructor
  · rintro (h | h)
    · exact .inl h
    · exact .inr (by omega)
  · rintro (h | h)
    · exact .inl h
    · exact .inr (by omega)
theorem of_bad {xs : List Int} {k : Nat} (hk : k < xs.length) (h : ¬ (0 ≤ xs[k] ∧ xs[k] ≤ 63)) : ofR xs = (0, 3) := by
  unfold ofR
  rw [if_neg]
  intro hall
  rw [List.all_eq_true] at hall
  have := hall xs[k] (List.getElem_mem hk)
  simp at this
  omega
theorem of_good {xs : List Int} (h : ∀ k (hk : k < xs.length), 0 ≤ xs[k] ∧ xs[k] ≤ 63) : ofR xs = (mk fun i => xs.contains (i : Int), 0) := by
  unfold ofR
  rw [if_pos]
  rw [List.all_eq_true]
  intro v hv
  obtain ⟨k, hk, rfl⟩ := List.getElem_of_mem hv
  have := h k hk
  simp; omega

set_option maxHeartbeats 1000000 in
theorem of_ok (a : Option Addr) (cap : Nat) (xs : List Int) (hl : xs.length ≤ 9223372036854775807) (w : World) (hA0 : IntsAt w a xs) :
    Calls Tryd.prog 18 #[.slice a xs.length cap] w fun e w' => e = .returned (.tuple #[.int .u64 ((ofR xs).1 : Nat), .int .i64 (ofR xs).2]) ∧ w = w' := by
  have hA := Lib.hid hA0
  clear hA0
  go_enter Tryd.func18, Tryd.ntmps18
  go_wp2
  go_loop [4, 9] (fun o i => ∃ k : Nat, k ≤ xs.length ∧ (∀ j (hj : j < xs.length), j < k → 0 ≤ xs[j] ∧ xs[j] ≤ 63) ∧ i = .int .i64 k ∧ o = .int .u64 ((mk fun i => (xs.take k).contains (i : Int) : Nat) : Int)) (fun _ i => xs.length - (intOf i).toNat)
  case atStart => exact ⟨0, by omega, fun j hj h => by omega, rfl, by simp only [List.take_zero, List.contains_nil, mk_none]; rfl⟩
  case round =>
    obtain ⟨k, hk, hall, rfl, rfl⟩ := hrel
    have H := Lib.hid hall
    clear hall
    by_cases hlt : k < xs.length
    · obtain ⟨b, off, rfl, hc⟩ := hA.out k hlt
      by_cases hin : 0 ≤ xs[k] ∧ xs[k] ≤ 63
      · obtain ⟨n, hn⟩ := Int.eq_ofNat_of_zero_le hin.1
        rw [hn] at hc
        have hn64 : n < 64 := by omega
        have HN := Lib.hid (of_next hlt hn64 hn)
        have HH := Lib.hid hn
        have C := Lib.hid (inside_yes (v := (n : Int)) (by omega))
        have hlo := mk_lt fun i => (xs.take k).contains (i : Int)
        generalize hS : (mk fun i => (xs.take k).contains (i : Int)) = S at *
        have HO := Lib.hid (or_word S n hlo hn64)
        clear hS hin hn
        go_wp2_with (go_at_call 35; refine (C.out _).mono ?_; rintro e w' ⟨rfl, rfl⟩)
        go_round
        case rel => exact ⟨k + 1, by omega, fun j hj h => by
          by_cases e : j = k
          · subst e; rw [HH.out]; omega
          · exact H.out j hj (by omega), by go_num, by rw [HO.out, HN.out]⟩
        case measure => simp [intOf]; omega
      · have E := Lib.hid (of_bad hlt hin)
        have C := Lib.hid (inside_no hin)
        clear hin
        go_wp2_with (go_at_call 35; refine (C.out _).mono ?_; rintro e w' ⟨rfl, rfl⟩)
        go_ret2
        exact ⟨ret_ue (by rw [E.out]; rfl) (by rw [E.out]), rfl⟩
    · have E := Lib.hid (of_good fun j hj => H.out j hj (by omega))
      have ht := Lib.hid (List.take_of_length_le (show xs.length ≤ k by omega))
      go_wp2
      go_ret2
      exact ⟨ret_ue (by rw [E.out]; simp only [ht.out, List.contains_eq_mem]) (by rw [E.out]), rfl⟩

set_option maxHeartbeats 1000000 in
theorem rof_ok (a : Option Addr) (cap : Nat) (xs : List Int) (hl : xs.length ≤ 9223372036854775807) (w : World) (hA0 : IntsAt w a xs) :
    Calls Tryd.prog 19 #[.slice a xs.length cap] w fun e w' => e = .returned (.tuple #[.int .u64 ((ofR xs).1 : Nat), .int .i64 (ofR xs).2]) ∧ w = w' := by
  have hA := Lib.hid hA0
  clear hA0
  go_enter Tryd.func19, Tryd.ntmps19
  go_wp2
  go_loop [4, 5] (fun o i => ∃ k : Nat, k ≤ xs.length ∧ (∀ j (hj : j < xs.length), j < k → 0 ≤ xs[j] ∧ xs[j] ≤ 63) ∧ i = .int .i64 k ∧ o = .int .u64 ((mk fun i => (xs.take k).contains (i : Int) : Nat) : Int)) (fun _ i => xs.length - (intOf i).toNat)
  case atStart => exact ⟨0, by omega, fun j hj h => by omega, rfl, by simp only [List.take_zero, List.contains_nil, mk_none]; rfl⟩
  case round =>
    obtain ⟨k, hk, hall, rfl, rfl⟩ := hrel
    have H := Lib.hid hall
    clear hall
    by_cases hlt : k < xs.length
    · obtain ⟨b, off, rfl, hc⟩ := hA.out k hlt
      by_cases hin : 0 ≤ xs[k] ∧ xs[k] ≤ 63
      · obtain ⟨n, hn⟩ := Int.eq_ofNat_of_zero_le hin.1
        rw [hn] at hc
        have hn64 : n < 64 := by omega
        have HN := Lib.hid (of_next hlt hn64 hn)
        have HH := Lib.hid hn
        have d1 : decide ((n : Int) < 0) = false := decide_eq_false (by omega)
        have d2 : decide ((63 : Int) < (n : Int)) = false := decide_eq_false (by omega)
        have hlo := mk_lt fun i => (xs.take k).contains (i : Int)
        generalize hS : (mk fun i => (xs.take k).contains (i : Int)) = S at *
        have HO := Lib.hid (or_word S n hlo hn64)
        clear hS hin hn
        go_wp2
        go_round
        case rel => exact ⟨k + 1, by omega, fun j hj h => by
          by_cases e : j = k
          · subst e; rw [HH.out]; omega
          · exact H.out j hj (by omega), by go_num, by rw [HO.out, HN.out]⟩
        case measure => simp [intOf]; omega
      · have E := Lib.hid (of_bad hlt hin)
        generalize xs[k] = v at *
        go_wp2
        all_goals first
          | (go_ret2; exact ⟨ret_ue (by rw [E.out]; rfl) (by rw [E.out]), rfl⟩)
          | (exfalso; omega)
    · have E := Lib.hid (of_good fun j hj => H.out j hj (by omega))
      have ht := Lib.hid (List.take_of_length_le (show xs.length ≤ k by omega))
      go_wp2
      go_ret2
      exact ⟨ret_ue (by rw [E.out]; simp only [ht.out, List.contains_eq_mem]) (by rw [E.out]), rfl⟩
end Go.Proofs.YtcgnnmpgdnajnaaDoor.BW
