/- Contract of match.last. -/
import Derived.Test.YtepoegcpfhjlpaaDoorMatQ
namespace Go.Proofs.YtepoegcpfhjlpaaDoor.BW
open Go.RowKit BM Go.Shelf MC
open BK hiding ret_bool ret_i64

def okB : Value → Int → Nat
  | .bool true, v => v.toNat + 1
  | _, _ => 0
theorem okB_lt (s h : Nat) : okB (.bool (pv s ((h : Int) - 1)).isSome) (num (pv s ((h : Int) - 1))) < okB (.bool true) (h : Int) := by
  cases hn : pv s ((h : Int) - 1) with
  | none => simp [okB]
  | some k =>
    obtain ⟨h1, h2, _⟩ := pv_some.1 hn
    simp [okB, num]; omega
set_option maxRecDepth 8000 in
set_option maxHeartbeats 8000000 in
theorem last_ok (x : Ex) (hu : U64s x) (hx : x.Ok) (a : Nat) (ha : a < 86400) (w : World) :
    Calls Tryd.prog 49 #[.agg (exV x), .int .i64 a] w fun e w' => e = .returned (.tuple #[.int .i64 (num (lst x a)), .bool (lst x a).isSome]) ∧ Below w.heap.size w w' := by
  have hB0 : Below w.heap.size w (w.alloc (.cells (exV x) 24)) := (Below.refl _ w).alloc (Nat.le_refl _) _
  have CH := Lib.hid (fun v => prev_ok x.h v hu.h (w.alloc (.cells (exV x) 24)))
  have CM := Lib.hid (fun v => prev_ok x.mi v hu.mi (w.alloc (.cells (exV x) 24)))
  have CS := Lib.hid (fun v => prev_ok x.s v hu.s (w.alloc (.cells (exV x) 24)))
  have HB0 := Lib.hid hB0
  have HX := Lib.hid hx
  clear hB0 hx hu
  obtain ⟨R, hR⟩ : ∃ R, R = lst x a := ⟨_, rfl⟩
  rw [← hR]
  have HR := Lib.hid hR
  clear hR
  have e0 : exV x = #[.int .u64 x.s, .int .u64 x.mi, .int .u64 x.h, .int .u64 x.d, .int .u64 x.mo, .int .u64 x.w, .bool x.ad, .bool x.aw] := rfl
  rw [e0]
  clear e0
  unfold exV at CH CM CS HB0
  go_enter Tryd.func49, Tryd.ntmps49
  go_wp2_with fail
  refine (CH.out _).mono ?_
  rintro e w' ⟨rfl, rfl⟩
  obtain ⟨c0, hc0⟩ : ∃ c0 : Nat, c0 = a / 3600 + 1 := ⟨_, rfl⟩
  rw [show (a : Int) / 3600 = (c0 : Int) - 1 from by omega]
  have hc1 : a < c0 * 3600 := by omega
  have hc2 : (c0 - 1) * 3600 ≤ a := by omega
  have hc3 : c0 ≤ 24 := by omega
  clear hc0
  go_wp2_with fail
  go_loop [6, 7] (fun s6 s7 => ∃ c : Nat, c ≤ 24 ∧ (c - 1) * 3600 ≤ a ∧ s6 = .int .i64 (num (pv x.h ((c : Int) - 1))) ∧ s7 = .bool (pv x.h ((c : Int) - 1)).isSome ∧ NoL x a (c * 3600)) (fun s6 s7 => okB s7 (iOf s6))
  case atStart => exact ⟨c0, hc3, hc2, rfl, rfl, NoL.start (by omega)⟩
  case round =>
    obtain ⟨c, hc, hca, rfl, rfl, hno⟩ := hrel
    have HNO := Lib.hid hno
    clear hno
    cases hh : pv x.h ((c : Int) - 1) with
    | none =>
      have HE : Hid (R = none) := Lib.hid (by
        rw [HR.out]
        have h0 := HNO.out.hours (h := 0) fun j h1 h2 => pv_none.1 hh j (by omega) (by omega)
        rw [Nat.zero_mul] at h0
        exact NoL.none h0)
      clear hh
      simp only [num, Option.getD_none, Option.isSome_none]
      go_wp2_with fail
      go_ret2
      exact ⟨by rw [HE.out]; rfl, HB0.out⟩
    | some h =>
      obtain ⟨g1, g2, g3, g4⟩ := pv_some.1 hh
      have hh24 : h < 24 := bit_lt HX.out.h24 g3
      have HG3 := Lib.hid g3
      have HN1 := Lib.hid (HNO.out.hours (h := h + 1) fun j h1 h2 => g4 j (by omega) (by omega) (by omega))
      have hch : h < c := by omega
      have hha : h * 3600 ≤ a := by omega
      clear hh g2 g3 g4 HNO g1
      simp only [num, Option.getD_some, Option.isSome_some]
      go_wp2_with fail
      refine (CM.out _).mono ?_
      rintro e w' ⟨rfl, rfl⟩
      obtain ⟨e0, he0⟩ : ∃ e0 : Nat, e0 = min 3599 (a - h * 3600) / 60 + 1 := ⟨_, rfl⟩
      rw [show min 3599 ((a : Int) - h * 3600) / 60 = (e0 : Int) - 1 from by omega]
      have he1 : 59 < e0 ∨ a < h * 3600 + e0 * 60 := by omega
      have he2 : e0 ≤ 60 := by omega
      have he3 : h * 3600 + (e0 - 1) * 60 ≤ a := by omega
      have HN5 : Hid (NoL x a (h * 3600 + e0 * 60)) := Lib.hid (HN1.out.skip (by omega))
      clear he0 he1
      go_wp2_with fail
      go_loop [8, 9] (fun s8 s9 => ∃ e : Nat, e ≤ 60 ∧ h * 3600 + (e - 1) * 60 ≤ a ∧ s8 = .int .i64 (num (pv x.mi ((e : Int) - 1))) ∧ s9 = .bool (pv x.mi ((e : Int) - 1)).isSome ∧ NoL x a (h * 3600 + e * 60)) (fun s8 s9 => okB s9 (iOf s8))
      case atStart => exact ⟨e0, he2, he3, rfl, rfl, HN5.out⟩
      case round =>
        obtain ⟨e, he, hea, rfl, rfl, hno⟩ := hrel
        have HNO := Lib.hid hno
        clear hno he2 he3 HN5 HN1 hc1 hc2 hc3 hca
        cases hm : pv x.mi ((e : Int) - 1) with
        | none =>
          have HN2 : Hid (NoL x a (h * 3600)) := Lib.hid (by
            have h := HNO.out.mins (m := 0) (by omega) fun j h1 h2 => pv_none.1 hm j (by omega) (by omega)
            rwa [Nat.zero_mul, Nat.add_zero] at h)
          clear hm
          simp only [num, Option.getD_none, Option.isSome_none]
          go_wp2_with fail
          refine (CH.out _).mono ?_
          rintro e w' ⟨rfl, rfl⟩
          go_wp2_with fail
          exact ⟨⟨h, by omega, by omega, rfl, rfl, HN2.out⟩, okB_lt x.h h⟩
        | some m =>
          obtain ⟨m1, m2, m3, m4⟩ := pv_some.1 hm
          have hm60 : m < 60 := bit_lt HX.out.mi60 m3
          have HM3 := Lib.hid m3
          have HN2 := Lib.hid (HNO.out.mins (m := m + 1) (by omega) fun j h1 h2 => m4 j (by omega) (by omega) (by omega))
          have hem : m < e := by omega
          have hma : h * 3600 + m * 60 ≤ a := by omega
          clear hea
          clear hm m1 m2 m3 m4
          simp only [num, Option.getD_some, Option.isSome_some]
          go_wp2_with fail
          refine (CS.out _).mono ?_
          rintro e1 w' ⟨rfl, rfl⟩
          obtain ⟨v0, hv0⟩ : ∃ v0 : Nat, v0 = min 59 (a - (h * 3600 + m * 60)) + 1 := ⟨_, rfl⟩
          rw [show min 59 ((a : Int) - h * 3600 - m * 60) = (v0 : Int) - 1 from by omega]
          have hv1 : 59 < v0 ∨ a < h * 3600 + m * 60 + v0 := by omega
          have hv2 : v0 ≤ 60 := by omega
          have hv3 : h * 3600 + m * 60 + v0 ≤ a + 1 := by omega
          clear hv0
          have HN4 : Hid (NoL x a (h * 3600 + m * 60 + v0)) := Lib.hid (HN2.out.skip (by omega))
          clear hv1
          cases hs : pv x.s ((v0 : Int) - 1) with
          | none =>
            have HN3 : Hid (NoL x a (h * 3600 + m * 60)) := Lib.hid (by
              have h := HN4.out.secs (s := 0) (by omega) fun j h1 h2 h3 => pv_none.1 hs j (by omega) (by omega)
              rwa [Nat.add_zero] at h)
            clear hs
            simp only [num, Option.getD_none, Option.isSome_none]
            go_wp2_with fail
            refine (CM.out _).mono ?_
            rintro e2 w' ⟨rfl, rfl⟩
            go_wp2_with fail
            exact ⟨⟨m, by omega, by omega, rfl, rfl, HN3.out⟩, okB_lt x.mi m⟩
          | some s =>
            obtain ⟨q1, q2, q3, q4⟩ := pv_some.1 hs
            have hs60 : s < 60 := bit_lt HX.out.s60 q3
            have HE : Hid (R = some (h * 3600 + m * 60 + s)) := Lib.hid (by
              rw [HR.out]
              refine NoL.found ?_ (by omega) (by omega) ?_
              · have h := HN4.out.secs (s := s + 1) (by omega) fun j h1 h2 h3 => q4 j (by omega) (by omega) (by omega)
                rwa [← Nat.add_assoc] at h
              · rw [clk_hms _ _ _ _ hm60 hs60, HG3.out, HM3.out, q3]; rfl)
            clear hs q1 q2 q3 q4
            simp only [num, Option.getD_some, Option.isSome_some]
            go_wp2_with fail
            go_ret2
            exact ⟨by rw [HE.out]; simp [num], HB0.out⟩
end Go.Proofs.YtepoegcpfhjlpaaDoor.BW
