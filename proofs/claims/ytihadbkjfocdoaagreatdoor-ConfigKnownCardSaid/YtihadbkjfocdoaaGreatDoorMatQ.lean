/- Contract of match.first. -/
import Derived.Test.YtihadbkjfocdoaaGreatDoorMatM
import Derived.Test.YtihadbkjfocdoaaGreatDoorMTimes
import Derived.Test.YtihadbkjfocdoaaGreatDoorMBits
namespace Go.Proofs.YtihadbkjfocdoaaGreatDoor.BW
open Go.RowKit BM Go.Shelf MC
open BK hiding ret_bool ret_i64

theorem bit_lt {s n i : Nat} (hs : s < 2 ^ n) (h : s.testBit i = true) : i < n := by
  rcases Nat.lt_or_ge i n with h1 | h1
  · exact h1
  · rw [Nat.testBit_lt_two_pow (Nat.lt_of_lt_of_le hs (Nat.pow_le_pow_right (by decide) h1))] at h; cases h
theorem nx_high {s n : Nat} {v : Int} (hs : s < 2 ^ n) (h : (n : Int) ≤ v) : nx s v = none := nx_none.2 fun i _ hv => by
  cases hb : s.testBit i
  · rfl
  · have := bit_lt hs hb; omega
def okM : Value → Int → Nat
  | .bool true, v => (100 - v).toNat
  | _, _ => 0
theorem okM_lt (s h : Nat) (hh : h < 64) : okM (.bool (nx s ((h : Int) + 1)).isSome) (num (nx s ((h : Int) + 1))) < okM (.bool true) (h : Int) := by
  cases hn : nx s ((h : Int) + 1) with
  | none => simp [okM]; omega
  | some k =>
    obtain ⟨h1, h2, _⟩ := nx_some.1 hn
    simp [okM, num]; omega
theorem cs1 (h : Nat) : ((h + 1 : Nat) : Int) = (h : Int) + 1 := by omega
def iOf : Value → Int
  | .int _ v => v
  | _ => 0
set_option maxRecDepth 8000 in
set_option maxHeartbeats 8000000 in
theorem first_ok (x : Ex) (hu : U64s x) (hx : x.Ok) (a : Nat) (ha : a < 86400) (w : World) (hT : Tab w) :
    Calls Tryz.prog 92 #[.agg (exV x), .int .i64 a] w fun e w' => e = .returned (.tuple #[.int .i64 (num (fst x a)), .bool (fst x a).isSome]) ∧ Below w.heap.size w w' := by
  have hB0 : Below w.heap.size w (w.alloc (.cells (exV x) 47)) := (Below.refl _ w).alloc (Nat.le_refl _) _
  have hT1 := tab_below hT hB0 (World.block_lt_of_cell? w _ (hT 0 (by decide)))
  have CH := Lib.hid (fun v => next_ok x.h v hu.h _ hT1)
  have CM := Lib.hid (fun v => next_ok x.mi v hu.mi _ hT1)
  have CS := Lib.hid (fun v => next_ok x.s v hu.s _ hT1)
  have HB0 := Lib.hid hB0
  have HX := Lib.hid hx
  clear hT hT1 hB0 hx hu
  obtain ⟨R, hR⟩ : ∃ R, R = fst x a := ⟨_, rfl⟩
  rw [← hR]
  have HR := Lib.hid hR
  clear hR
  have e0 : exV x = #[.int .u64 x.s, .int .u64 x.mi, .int .u64 x.h, .int .u64 x.d, .int .u64 x.mo, .int .u64 x.w, .bool x.ad, .bool x.aw] := rfl
  rw [e0]
  clear e0
  unfold exV at CH CM CS HB0
  go_enter Tryz.func92, Tryz.ntmps92
  go_wp2_with fail
  refine (CH.out _).mono ?_
  rintro e w' ⟨rfl, rfl⟩
  obtain ⟨c0, hc0⟩ : ∃ c0 : Nat, c0 = a / 3600 := ⟨_, rfl⟩
  rw [show (a : Int) / 3600 = (c0 : Int) from by omega]
  have hc1 : c0 * 3600 ≤ a := by omega
  clear hc0
  go_wp2_with fail
  go_loop [6, 7] (fun s6 s7 => ∃ c : Nat, c ≤ 24 ∧ s6 = .int .i64 (num (nx x.h c)) ∧ s7 = .bool (nx x.h c).isSome ∧ NoC x a (c * 3600)) (fun s6 s7 => okM s7 (iOf s6))
  case atStart => exact ⟨c0, by omega, rfl, rfl, NoC.start (by omega)⟩
  case round =>
    obtain ⟨c, hc, rfl, rfl, hno⟩ := hrel
    have HNO := Lib.hid hno
    clear hno
    cases hh : nx x.h c with
    | none =>
      have HE : Hid (R = none) := Lib.hid (by
        rw [HR.out]
        refine NoC.none (HNO.out.hours (h := 24) fun j h1 h2 => ?_)
        exact nx_none.1 hh j (by omega) (by omega))
      clear hh
      simp only [num, Option.getD_none, Option.isSome_none]
      go_wp2_with fail
      go_ret2
      exact ⟨by rw [HE.out]; rfl, HB0.out⟩
    | some h =>
      obtain ⟨g1, g2, g3, g4⟩ := nx_some.1 hh
      have hh24 : h < 24 := bit_lt HX.out.h24 g3
      have HG3 := Lib.hid g3
      have HN1 := Lib.hid (HNO.out.hours (h := h) fun j h1 h2 => g4 j h2 (by omega))
      have hch : c ≤ h := by omega
      clear hh g2 g3 g4 HNO g1
      simp only [num, Option.getD_some, Option.isSome_some]
      go_wp2_with fail
      refine (CM.out _).mono ?_
      rintro e w' ⟨rfl, rfl⟩
      obtain ⟨e0, he0⟩ : ∃ e0 : Nat, e0 = (a - h * 3600) / 60 := ⟨_, rfl⟩
      rw [show max 0 ((a : Int) - h * 3600) / 60 = (e0 : Int) from by omega]
      have he1 : h * 3600 + e0 * 60 ≤ a ∨ e0 < 1 := by omega
      clear he0
      go_wp2_with fail
      go_loop [8, 9] (fun s8 s9 => ∃ e : Nat, e ≤ 60 ∧ s8 = .int .i64 (num (nx x.mi e)) ∧ s9 = .bool (nx x.mi e).isSome ∧ NoC x a (h * 3600 + e * 60)) (fun s8 s9 => okM s9 (iOf s8))
      case atStart =>
        rcases Nat.lt_or_ge e0 60 with h1 | h1
        · exact ⟨e0, by omega, rfl, rfl, HN1.out.skip (by omega)⟩
        · have n1 := nx_high HX.out.mi60 (show ((60 : Nat) : Int) ≤ (e0 : Int) from by omega)
          have n2 := nx_high HX.out.mi60 (show ((60 : Nat) : Int) ≤ ((60 : Nat) : Int) from by omega)
          exact ⟨60, by omega, by rw [n1, n2], by rw [n1, n2], HN1.out.skip (by omega)⟩
      case round =>
        obtain ⟨e, he, rfl, rfl, hno⟩ := hrel
        have HNO := Lib.hid hno
        clear hno
        cases hm : nx x.mi e with
        | none =>
          have HN2 := Lib.hid (HNO.out.mins (m := 60) (by omega) fun j h1 h2 => nx_none.1 hm j (by omega) (by omega))
          clear hm
          simp only [num, Option.getD_none, Option.isSome_none]
          go_wp2_with fail
          refine (CH.out _).mono ?_
          rintro e w' ⟨rfl, rfl⟩
          go_wp2_with fail
          exact ⟨⟨h + 1, by omega, by rw [cs1]; rfl, by rw [cs1], (show (h + 1) * 3600 = h * 3600 + 60 * 60 from by omega) ▸ HN2.out⟩, okM_lt x.h h (by omega)⟩
        | some m =>
          obtain ⟨m1, m2, m3, m4⟩ := nx_some.1 hm
          have hm60 : m < 60 := bit_lt HX.out.mi60 m3
          have HM3 := Lib.hid m3
          have HN2 := Lib.hid (HNO.out.mins (m := m) (by omega) fun j h1 h2 => m4 j h2 (by omega))
          have hem : e ≤ m := by omega
          clear hm m1 m2 m3 m4
          simp only [num, Option.getD_some, Option.isSome_some]
          go_wp2_with fail
          refine (CS.out _).mono ?_
          rintro e1 w' ⟨rfl, rfl⟩
          obtain ⟨v0, hv0⟩ : ∃ v0 : Nat, v0 = a - (h * 3600 + m * 60) := ⟨_, rfl⟩
          rw [show max 0 ((a : Int) - h * 3600 - m * 60) = (v0 : Int) from by omega]
          have hv1 : v0 < 1 ∨ v0 + (h * 3600 + m * 60) ≤ a := by omega
          have hv2 : a ≤ v0 + (h * 3600 + m * 60) := by omega
          clear hv0
          cases hs : nx x.s (v0 : Int) with
          | none =>
            have HN3 := Lib.hid ((show NoC x a (h * 3600 + m * 60 + 0) from HN2.out).secs (s := 60) (by omega) fun j h1 h2 h3 => nx_none.1 hs j (by omega) (by omega))
            clear hs
            simp only [num, Option.getD_none, Option.isSome_none]
            go_wp2_with fail
            refine (CM.out _).mono ?_
            rintro e2 w' ⟨rfl, rfl⟩
            go_wp2_with fail
            exact ⟨⟨m + 1, by omega, by rw [cs1]; rfl, by rw [cs1], (show h * 3600 + (m + 1) * 60 = h * 3600 + m * 60 + 60 from by omega) ▸ HN3.out⟩, okM_lt x.mi m (by omega)⟩
          | some s =>
            obtain ⟨q1, q2, q3, q4⟩ := nx_some.1 hs
            have hs60 : s < 60 := bit_lt HX.out.s60 q3
            have HE : Hid (R = some (h * 3600 + m * 60 + s)) := Lib.hid (by
              rw [HR.out]
              refine NoC.found ?_ (by omega) (by omega) ?_
              · exact (show NoC x a (h * 3600 + m * 60 + 0) from HN2.out).secs (s := s) (by omega) fun j h1 h2 h3 => q4 j h2 (by omega)
              · rw [clk_hms _ _ _ _ hm60 hs60, HG3.out, HM3.out, q3]; rfl)
            clear hs q1 q2 q3 q4
            simp only [num, Option.getD_some, Option.isSome_some]
            go_wp2_with fail
            go_ret2
            exact ⟨by rw [HE.out]; simp [num], HB0.out⟩
end Go.Proofs.YtihadbkjfocdoaaGreatDoor.BW
