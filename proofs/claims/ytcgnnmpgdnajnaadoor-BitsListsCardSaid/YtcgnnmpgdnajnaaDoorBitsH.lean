/- Contracts of the reference's List and Count. -/
import Derived.Test.YtcgnnmpgdnajnaaDoorBitsG
import Derived.Test.YtcgnnmpgdnajnaaDoorBitsPop
namespace Go.Proofs.YtcgnnmpgdnajnaaDoor.BW
open Go.RowKit BM

theorem info_int : (Tryd.prog.info? 3).map (fun i => (i.zero, i.size, i.bytes)) = some (some (.int .i64 0), 1, 8) := by kernel_rfl
/-- The members below k, as numbers. -/
def memN (s k : Nat) : List Nat := (List.range k).filter fun i => s.testBit i
theorem memN_64 (s : Nat) : memN s 64 = mem s := rfl
theorem memN_le (s k : Nat) : (memN s k).length ≤ k := Nat.le_trans (List.length_filter_le _ _) (by simp)
theorem memN_hit {s k : Nat} (h : s.testBit k = true) : memN s (k + 1) = memN s k ++ [k] := by
  simp [memN, List.range_succ, List.filter_append, h]
theorem memN_miss {s k : Nat} (h : s.testBit k = false) : memN s (k + 1) = memN s k := by
  simp [memN, List.range_succ, List.filter_append, h]
/-- A number as a cell. -/
def cellI (i : Nat) : Value := .int .i64 (i : Int)
/-- v is a slice that this call owns; it holds these numbers. -/
def OwnsI (B : Nat) (v : Value) (xs : List Nat) (w : World) : Prop := w.ownsRow B 3 1 v xs.length (xs.map cellI)

set_option maxHeartbeats 1000000 in
theorem rlist_ok (s : Nat) (hs : s < 18446744073709551616) (w : World) :
    Calls Tryd.prog 24 #[.int .u64 s] w fun e w' => ∃ v, e = .returned v ∧ OwnsI w.heap.size v (mem s) w' ∧ Below w.heap.size w w' := by
  obtain ⟨i0, hi, hz0, hz1, hz2⟩ := info_parts info_int
  go_enter Tryd.func24, Tryd.ntmps24
  go_wp2
  go_loopw [3, 4] (fun v i wr => ∃ k : Nat, k ≤ 64 ∧ i = .int .i64 k ∧ OwnsI w.heap.size v (memN s k) wr ∧ Below w.heap.size w wr) (fun _ i _ => 64 - (intOf i).toNat)
  case atStart => exact ⟨0, by omega, rfl, World.ownsRow_nil _ _ _ _, Below.refl _ _⟩
  case round =>
    obtain ⟨k, hk, rfl, hown, hnx⟩ := hrel
    by_cases hlt : k < 64
    · have hh := Lib.hid (has_nat s k hlt)
      by_cases hb : s.testBit k = true
      · have HB := Lib.hid hb
        clear hb
        go_wp2_with (first
          | (go_at_call 34; refine (rhas_ok _ _ hs _).mono ?_; rintro e w' ⟨rfl, rfl⟩; rw [hh.out, HB.out])
          | (at_builtin; refine wpList_append_own _ rfl _ _ 34 rfl (w.heap.size) 3 i0 (.int .i64 0) 1 8 Tryd.underlying34 hi hz0 hz1 hz2 rfl (by decide) _ _ _ rfl (World.ownsRow.alloc hown _) ⟨wr.heap.size, 0, none⟩ 1 1 [cellI k] rfl rfl ?c1 ?c2 ?c3 ?c4 ?c5 ?_))
        case c1 =>
          intro j u hj
          match j, hj with
          | 0, hj => simp at hj; subst hj; simp [Addr.add, cellI]
        case c2 => intro u hu; simp at hu; subst hu; rfl
        case c3 => have := memN_le s k; unfold maxLen; omega
        case c4 => have := memN_le s k; omega
        case c5 => have := hnx.size; simp; omega
        intro v' w1 hown' hgrow _
        have R : OwnsI w.heap.size v' (memN s (k + 1)) w1 ∧ Below w.heap.size w w1 := by
          refine ⟨?_, (hnx.alloc hnx.size _).grown hgrow (by have := hnx.size; simp; omega) (fun j hj => (hown.lt j hj).1)⟩
          unfold OwnsI
          rw [memN_hit HB.out]
          simpa using hown'
        clear hown' hgrow hown hnx
        go_wp2
        go_roundw
        case rel => exact ⟨k + 1, by omega, by go_num, R.1, R.2⟩
        case measure => simp [intOf]; omega
      · have HB := Lib.hid (Bool.eq_false_iff.2 hb)
        clear hb
        go_wp2_with (go_at_call 34; refine (rhas_ok _ _ hs _).mono ?_; rintro e w' ⟨rfl, rfl⟩; rw [hh.out, HB.out])
        go_roundw
        case rel => exact ⟨k + 1, by omega, by go_num, by rw [memN_miss HB.out]; exact hown, hnx⟩
        case measure => simp [intOf]; omega
    · obtain rfl : k = 64 := by omega
      go_wp2
      go_ret
      exact ⟨_, rfl, hown, hnx⟩

/-- What owning gives a reader. -/
theorem OwnsI.shape {B : Nat} {v : Value} {xs : List Nat} {w : World} (h : OwnsI B v xs w) : ∃ a cap, v = .slice a xs.length cap ∧ IntsAt w a (xs.map fun (i : Nat) => (i : Int)) := by
  obtain ⟨hl, h⟩ := h
  rcases h with ⟨rfl, h0⟩ | ⟨g, cap, cur, rfl, hb, hg, hn, hc, hs, ht⟩
  · have : xs = [] := List.eq_nil_of_length_eq_zero h0
    subst this
    exact ⟨none, 0, rfl, fun k hk => by simp at hk⟩
  · refine ⟨_, cap, rfl, fun k hk => ⟨g, 0, rfl, ?_⟩⟩
    have hk' : k < xs.length := by simpa using hk
    have h1 : (xs.map cellI)[k]? = some (cellI xs[k]) := by simp [hk']
    rw [← ht, List.getElem?_take] at h1
    simp only [Nat.mul_one, hk', if_true] at h1
    have h2 : cur[k]? = some (cellI xs[k]) := by simpa using h1
    simp only [World.cell?, hg, Nat.zero_add, Option.isSome_none, Bool.false_eq_true, if_false, h2, List.getElem_map]
    rfl
theorem mem_le (s : Nat) : (mem s).length ≤ 64 := memN_le s 64

set_option maxHeartbeats 400000 in
theorem rcount_ok (s : Nat) (hs : s < 18446744073709551616) (w : World) :
    Calls Tryd.prog 25 #[.int .u64 s] w fun e w' => e = .returned (.int .i64 ((mem s).length : Int)) ∧ Below w.heap.size w w' := by
  have hm := mem_le s
  go_enter Tryd.func25, Tryd.ntmps25
  go_wp2_with fail
  refine (rlist_ok s hs _).mono ?_
  rintro e w' ⟨v, rfl, hown, hb⟩
  obtain ⟨a, cap, rfl, _⟩ := hown.shape
  clear hown
  go_wp2
  go_ret
  exact ⟨rfl, hb⟩
end Go.Proofs.YtcgnnmpgdnajnaaDoor.BW
