/- Contracts of the laws' own comparisons. -/
import Derived.Test.YtcgnnmpgdnajnaaDoorBitsF
import Derived.Test.YtcgnnmpgdnajnaaDoorBitsRunsM
import Derived.Deep.QuietTactic
import Derived.BigQuiet
import Derived.Deep.LoopGhost
namespace Go.Proofs.YtcgnnmpgdnajnaaDoor.BW
open Go.RowKit BM

theorem IntsAt.drew {w : World} {a : Option Addr} {xs : List Int} (h : IntsAt w a xs) (n : Nat) : IntsAt (w.drewN n) a xs := fun k hk => by
  obtain ⟨b, off, e, hc⟩ := h k hk
  exact ⟨b, off, e, hc⟩

set_option maxHeartbeats 1000000 in
theorem ints_ok (a b : Option Addr) (c d : Nat) (xs ys : List Int) (hl : xs.length ≤ 9223372036854775807) (hl2 : ys.length ≤ 9223372036854775807) (w : World) (hA0 : IntsAt w a xs) (hB0 : IntsAt w b ys) :
    Calls Tryd.prog 22 #[.slice a xs.length c, .slice b ys.length d] w fun e w' => e = .returned (.bool (decide (xs = ys))) ∧ ∃ n, w' = w.drewN n := by
  have hA := Lib.hid hA0
  have hB := Lib.hid hB0
  clear hA0 hB0
  by_cases hlen : xs.length = ys.length
  · have hle : ((xs.length : Int) != (ys.length : Int)) = false := by rw [bne_eq_false_iff_eq]; omega
    have HL := Lib.hid hlen
    clear hlen
    go_enter Tryd.func22, Tryd.ntmps22
    go_wp2
    go_loopw [5] (fun i wr => ∃ k : Nat, k ≤ xs.length ∧ (∀ j (hj : j < xs.length) (hj2 : j < ys.length), j < k → xs[j] = ys[j]) ∧ i = .int .i64 k ∧ ∃ n, wr = w.drewN n) (fun i _ => xs.length - (intOf i).toNat)
    case atStart => exact ⟨0, by omega, fun j hj hj2 h => by omega, rfl, 0, rfl⟩
    case round =>
      obtain ⟨k, hk, hall, rfl, n, rfl⟩ := hrel
      have H := Lib.hid hall
      clear hall
      by_cases hlt : k < xs.length
      · obtain ⟨b1, off1, rfl, hc1⟩ := hA.out k hlt
        obtain ⟨b2, off2, rfl, hc2⟩ := hB.out k (by rw [← HL.out]; exact hlt)
        have hlt2 : k < ys.length := by rw [← HL.out]; exact hlt
        by_cases he : xs[k] = ys[k]
        · have HE := Lib.hid he
          rw [he] at hc1
          clear he
          generalize ys[k] = y at hc1 hc2
          have ht : (y != y) = false := by simp
          go_wp2
          go_quiet (fail)
          go_wp2
          go_roundw
          case rel => exact ⟨k + 1, by omega, fun j hj hj2 h => by
            by_cases e : j = k
            · subst e; exact HE.out
            · exact H.out j hj hj2 (by omega), by go_num, _, rfl⟩
          case measure => simp [intOf]; omega
        · have F : Hid (decide (xs = ys) = false) := Lib.hid (decide_eq_false fun e => he (by subst e; rfl))
          have ht : (xs[k] != ys[k]) = true := by rw [bne_iff_ne]; exact he
          clear he
          generalize xs[k] = x at *
          generalize ys[k] = y at *
          go_wp2
          go_quiet (fail)
          go_wp2
          go_ret
          exact ⟨ret_bool F.out.symm, _, World.drewN_drewN _ _ _⟩
      · have F : Hid (decide (xs = ys) = true) := Lib.hid (decide_eq_true (List.ext_getElem HL.out fun j h1 h2 => H.out j h1 h2 (by omega)))
        go_wp2
        go_ret
        exact ⟨ret_bool F.out.symm, _, rfl⟩
  · have hle : ((xs.length : Int) != (ys.length : Int)) = true := by rw [bne_iff_ne]; omega
    have F : Hid (decide (xs = ys) = false) := Lib.hid (decide_eq_false fun e => hlen (by rw [e]))
    clear hlen
    go_enter Tryd.func22, Tryd.ntmps22
    go_wp2
    go_ret
    exact ⟨ret_bool F.out.symm, 0, rfl⟩

theorem run_eq_arr3' (d : Nat) (x0 x1 x2 y0 y1 y2 : Int) (w : World) :
    (Op.equalIn (d + 1 + 1) 29 (.agg #[.int .i64 x0, .int .i64 x1, .int .i64 x2]) (.agg #[.int .i64 y0, .int .i64 y1, .int .i64 y2])).run Tryd.prog w = .ok (x0 == y0 && x1 == y1 && x2 == y2) w := by
  have h9 : ∀ (a b : Int) (w : World), (Op.equalIn (d + 1) 3 (.int .i64 a) (.int .i64 b)).run Tryd.prog w = .ok (a == b) w := fun a b w => run_equalIn_int w d _ _ _ a b Tryd.underlying3
  generalize d + 1 = n at *
  simp only [Op.equalIn, Sem.run_bind, run_underlying Tryd.underlying29, Result.andThen_ok]
  simp [List.range', go_sem, h9]
  by_cases a : x0 = y0 <;> by_cases b : x1 = y1 <;> by_cases c : x2 = y2 <;> simp [a, b, c]
theorem run_eq_arr3 (x0 x1 x2 y0 y1 y2 : Int) (w : World) :
    (Op.equalIn 10000 29 (.agg #[.int .i64 x0, .int .i64 x1, .int .i64 x2]) (.agg #[.int .i64 y0, .int .i64 y1, .int .i64 y2])).run Tryd.prog w = .ok (x0 == y0 && x1 == y1 && x2 == y2) w :=
  run_eq_arr3' 9998 x0 x1 x2 y0 y1 y2 w

/-- The runs rs lie at a, three cells each. -/
def RunsAt (w : World) (a : Option Addr) (rs : List Run) : Prop := ∀ k (h : k < rs.length), ∃ b off, a = some ⟨b, off, none⟩ ∧
  w.cell? ⟨b, off + k * 3, none⟩ = some (.int .i64 rs[k].lo) ∧ w.cell? ⟨b, off + k * 3 + 1, none⟩ = some (.int .i64 rs[k].hi) ∧ w.cell? ⟨b, off + k * 3 + 2, none⟩ = some (.int .i64 rs[k].st)

set_option maxHeartbeats 1000000 in
theorem runs_ok (a b : Option Addr) (c d : Nat) (xs ys : List Run) (hl : xs.length ≤ 9223372036854775807) (hl2 : ys.length ≤ 9223372036854775807) (w : World) (hA0 : RunsAt w a xs) (hB0 : RunsAt w b ys) :
    Calls Tryd.prog 26 #[.slice a xs.length c, .slice b ys.length d] w fun e w' => e = .returned (.bool (decide (xs = ys))) ∧ ∃ n, w' = w.drewN n := by
  have hA := Lib.hid hA0
  have hB := Lib.hid hB0
  clear hA0 hB0
  by_cases hlen : xs.length = ys.length
  · have hle : ((xs.length : Int) != (ys.length : Int)) = false := by rw [bne_eq_false_iff_eq]; omega
    have HL := Lib.hid hlen
    clear hlen
    go_enter Tryd.func26, Tryd.ntmps26
    go_wp2
    go_loopw [5] (fun i wr => ∃ k : Nat, k ≤ xs.length ∧ (∀ j (hj : j < xs.length) (hj2 : j < ys.length), j < k → xs[j] = ys[j]) ∧ i = .int .i64 k ∧ ∃ n, wr = w.drewN n) (fun i _ => xs.length - (intOf i).toNat)
    case atStart => exact ⟨0, by omega, fun j hj hj2 h => by omega, rfl, 0, rfl⟩
    case round =>
      obtain ⟨k, hk, hall, rfl, n, rfl⟩ := hrel
      have H := Lib.hid hall
      clear hall
      by_cases hlt : k < xs.length
      · obtain ⟨b1, off1, rfl, hx0, hx1, hx2⟩ := hA.out k hlt
        obtain ⟨b2, off2, rfl, hy0, hy1, hy2⟩ := hB.out k (by rw [← HL.out]; exact hlt)
        have hlt2 : k < ys.length := by rw [← HL.out]; exact hlt
        have HE := Lib.hid (show xs[k] = ⟨xs[k].lo, xs[k].hi, xs[k].st⟩ from rfl)
        have HE2 := Lib.hid (show ys[k] = ⟨ys[k].lo, ys[k].hi, ys[k].st⟩ from rfl)
        generalize xs[k].lo = x0 at *
        generalize xs[k].hi = x1 at *
        generalize xs[k].st = x2 at *
        generalize ys[k].lo = y0 at *
        generalize ys[k].hi = y1 at *
        generalize ys[k].st = y2 at *
        have heq := fun w => run_eq_arr3 x0 x1 x2 y0 y1 y2 w
        by_cases he : x0 = y0 ∧ x1 = y1 ∧ x2 = y2
        · have HH := Lib.hid he
          have hb : (x0 == y0 && x1 == y1 && x2 == y2) = true := by simp [he]
          rw [hb] at heq
          clear he hb
          go_wp2
          go_quiet (fail)
          go_wp2
          go_roundw
          case rel => exact ⟨k + 1, by omega, fun j hj hj2 h => by
            by_cases e : j = k
            · subst e; rw [HE.out, HE2.out, HH.out.1, HH.out.2.1, HH.out.2.2]
            · exact H.out j hj hj2 (by omega), by go_num, _, rfl⟩
          case measure => simp [intOf]; omega
        · have F : Hid (decide (xs = ys) = false) := Lib.hid (decide_eq_false fun e => by
            subst e
            have := HE.out.symm.trans HE2.out
            simp at this
            exact he this)
          have hb : (x0 == y0 && x1 == y1 && x2 == y2) = false := by
            rw [Bool.eq_false_iff]; intro h; simp at h; exact he ⟨h.1.1, h.1.2, h.2⟩
          rw [hb] at heq
          clear he hb
          go_wp2
          go_quiet (fail)
          go_wp2
          go_ret
          exact ⟨ret_bool F.out.symm, _, World.drewN_drewN _ _ _⟩
      · have F : Hid (decide (xs = ys) = true) := Lib.hid (decide_eq_true (List.ext_getElem HL.out fun j h1 h2 => H.out j h1 h2 (by omega)))
        go_wp2
        go_ret
        exact ⟨ret_bool F.out.symm, _, rfl⟩
  · have hle : ((xs.length : Int) != (ys.length : Int)) = true := by rw [bne_iff_ne]; omega
    have F : Hid (decide (xs = ys) = false) := Lib.hid (decide_eq_false fun e => hlen (by rw [e]))
    clear hlen
    go_enter Tryd.func26, Tryd.ntmps26
    go_wp2
    go_ret
    exact ⟨ret_bool F.out.symm, 0, rfl⟩
end Go.Proofs.YtcgnnmpgdnajnaaDoor.BW
