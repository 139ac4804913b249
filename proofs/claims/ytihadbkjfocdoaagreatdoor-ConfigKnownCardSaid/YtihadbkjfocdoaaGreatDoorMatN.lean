/- Contracts of the two tests of a day: the reference's matches, match's matcher. -/
import Derived.Test.YtihadbkjfocdoaaGreatDoorMatM
namespace Go.Proofs.YtihadbkjfocdoaaGreatDoor.BW
open Go.RowKit BM Go.Shelf MC
open BK hiding ret_bool ret_i64

theorem regrown_same {P : Program} {f : FuncId} {args : Array Value} {w : World} {d : Nat} {os : Array Obj} {v : Value}
    (h : Calls P f args (Sort.grow (redrawn w d) os) fun e w' => e = .returned v ∧ Sort.grow (redrawn w d) os = w') : Calls P f args (Sort.grow (redrawn w d) os) fun e w'' => e = .returned v ∧ ∃ p : Regrown, w'' = Sort.grow (redrawn w p.d) p.os :=
  h.mono fun _ _ ⟨he, hb⟩ => ⟨he, ⟨d, os⟩, hb.symm⟩
theorem ymd_small (n : Nat) : (ymd n).2.1 < 64 ∧ (ymd n).2.2 < 64 := by
  obtain ⟨⟨h1, h2, h3, h4, h5⟩, _⟩ := ymd_spec n
  have := mlen_bounds (ymd n).1 (ymd n).2.1
  omega
set_option maxRecDepth 8000 in
set_option maxHeartbeats 4000000 in
theorem matcher_ok (x : Ex) (hx : U64s x) (n : Nat) (hn : n ≤ 2932896) (b : Nat) (w : World) (hb : Blk w b 47 (exV x)) :
    Calls Tryz.prog 118 #[.int .i64 n, .pointer (some ⟨b, 0, none⟩)] w fun e w' => e = .returned (.bool (M x n)) ∧ Below w.heap.size w w' := by
  obtain ⟨y1, y2⟩ := ymd_small n
  have CD := Lib.hid (date_ok n hn w)
  rw [← ymd_eq n] at CD
  have C1 := Lib.hid (fun W => has_ok x.mo ((ymd n).2.1 : Nat) hx.mo W)
  have C2 := Lib.hid (fun W => has_ok x.d ((ymd n).2.2 : Nat) hx.d W)
  have C3 := Lib.hid (fun W => has_ok x.w ((n + 4) % 7 : Nat) hx.w W)
  rw [has_nat _ _ y1] at C1
  rw [has_nat _ _ y2] at C2
  rw [has_nat _ _ (by omega)] at C3
  have e7 : (((n + 4) % 7 : Nat) : Int) = ((n : Int) + 4) % 7 := by omega
  rw [e7] at C3
  clear e7
  unfold M
  have c4 : w.cell? ⟨b, 4, none⟩ = some (.int .u64 x.mo) := hb.cell 4
  have k3 := cell_regrown (show w.cell? ⟨b, 3, none⟩ = some (.int .u64 x.d) from hb.cell 3)
  have k5 := cell_regrown (show w.cell? ⟨b, 5, none⟩ = some (.int .u64 x.w) from hb.cell 5)
  have k6 := cell_regrown (show w.cell? ⟨b, 6, none⟩ = some (.bool x.ad) from hb.cell 6)
  have k7 := cell_regrown (show w.cell? ⟨b, 7, none⟩ = some (.bool x.aw) from hb.cell 7)
  clear hb y1 y2
  obtain ⟨s, mi, h, d, mo, wk, ad, aw⟩ := x
  simp only at C1 C2 C3 c4 k3 k5 k6 k7
  have HRL : Hid (dayRule ⟨s, mi, h, d, mo, wk, ad, aw⟩ (ymd n).2.2 ((n + 4) % 7) = if ad && aw then true else if ad then wk.testBit ((n + 4) % 7) else if aw then d.testBit (ymd n).2.2 else d.testBit (ymd n).2.2 || wk.testBit ((n + 4) % 7)) := Lib.hid rfl
  generalize dayRule ⟨s, mi, h, d, mo, wk, ad, aw⟩ (ymd n).2.2 ((n + 4) % 7) = R at *
  simp only
  generalize mo.testBit (ymd n).2.1 = b1 at *
  generalize d.testBit (ymd n).2.2 = b2 at *
  generalize wk.testBit ((n + 4) % 7) = b3 at *
  generalize (ymd n).1 = q0 at *
  generalize (ymd n).2.1 = q1 at *
  generalize (ymd n).2.2 = q2 at *
  have D2 := Lib.hid (fun d os => regrown_same (w := w) (C2.out (Sort.grow (redrawn w d) os)))
  have D3 := Lib.hid (fun d os => regrown_same (w := w) (C3.out (Sort.grow (redrawn w d) os)))
  cases b1
  · go_enter Tryz.func118, Tryz.ntmps118
    go_wp2_with fail
    refine (CD.out).mono ?_
    rintro e w1 ⟨rfl, rfl⟩
    go_wp2_with fail
    refine (C1.out _).mono ?_
    rintro e w1 ⟨rfl, rfl⟩
    go_wp2_with fail
    go_ret
    exact ⟨rfl, Below.refl _ _⟩
  · cases ad <;> cases aw <;> cases b2 <;> cases b3
    all_goals
      have HR := HRL.out
      simp only [Bool.and_self, Bool.and_true, Bool.and_false, Bool.or_self, Bool.or_true, Bool.or_false, if_true, if_false, Bool.false_eq_true] at HR
      have HR' := Lib.hid HR
      clear HR HRL
      go_enter Tryz.func118, Tryz.ntmps118
      go_wp2_with fail
      refine (CD.out).mono ?_
      rintro e w1 ⟨rfl, rfl⟩
      go_wp2_with fail
      refine (C1.out _).mono ?_
      rintro e w1 ⟨rfl, rfl⟩
      go_wp2_with fail
      refine wp_region_quiet_below (by kernel_rfl) (by kernel_rfl) ?_
      repeat (go_big_quiet_step (fail))
      go_big_quiet_step ((go_at_call 112; exact D2.out _ _))
      repeat (go_big_quiet_step (fail))
      go_big_quiet_step ((go_at_call 112; exact D3.out _ _))
      repeat (go_big_quiet_step (fail))
      refine wpQuiet_nil ?_
      intro _ hw'
      obtain ⟨⟨dq, osq⟩, hw''⟩ := hw'
      subst hw''
      go_wp2_with fail
      go_ret
      exact ⟨by rw [HR'.out]; rfl, below_regrown _ dq osq⟩
end Go.Proofs.YtihadbkjfocdoaaGreatDoor.BW
