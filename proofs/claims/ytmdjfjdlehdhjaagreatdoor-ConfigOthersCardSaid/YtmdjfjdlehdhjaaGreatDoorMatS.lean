/- Contracts of the reference's first and last. -/
import Derived.Test.YtmdjfjdlehdhjaaGreatDoorMatM
import Derived.Test.YtmdjfjdlehdhjaaGreatDoorMTimes
import Derived.Test.YtmdjfjdlehdhjaaGreatDoorMatQ
namespace Go.Proofs.YtmdjfjdlehdhjaaGreatDoor.BW
open Go.RowKit BM Go.Shelf MC
open BK hiding ret_bool ret_i64

def neg1 : Option Nat → Int
  | some t => t
  | none => -1
set_option maxRecDepth 8000 in
set_option maxHeartbeats 8000000 in
theorem rfirst_ok (x : Ex) (hu : U64s x) (a : Nat) (ha : a < 86400) (w : World) :
    Calls Tryz.prog 178 #[.agg (exV x), .int .i64 a] w fun e w' => e = .returned (.int .i64 (neg1 (fst x a))) ∧ Below w.heap.size w w' := by
  have hB0 : Below w.heap.size w (w.alloc (.cells (exV x) 24)) := (Below.refl _ w).alloc (Nat.le_refl _) _
  have CH := Lib.hid (fun (i : Nat) (b : Bool) (hi : i < 64) (hb : x.h.testBit i = b) => (show Calls Tryz.prog 158 #[.int .u64 x.h, .int .i64 i] (w.alloc (.cells (exV x) 24)) (fun e w' => e = .returned (.bool b) ∧ (w.alloc (.cells (exV x) 24)) = w') from by have := rhas_ok x.h i hu.h (w.alloc (.cells (exV x) 24)); rwa [BW.has_nat _ _ hi, hb] at this))
  have CM := Lib.hid (fun (i : Nat) (b : Bool) (hi : i < 64) (hb : x.mi.testBit i = b) => (show Calls Tryz.prog 158 #[.int .u64 x.mi, .int .i64 i] (w.alloc (.cells (exV x) 24)) (fun e w' => e = .returned (.bool b) ∧ (w.alloc (.cells (exV x) 24)) = w') from by have := rhas_ok x.mi i hu.mi (w.alloc (.cells (exV x) 24)); rwa [BW.has_nat _ _ hi, hb] at this))
  have CS := Lib.hid (fun (i : Nat) (b : Bool) (hi : i < 64) (hb : x.s.testBit i = b) => (show Calls Tryz.prog 158 #[.int .u64 x.s, .int .i64 i] (w.alloc (.cells (exV x) 24)) (fun e w' => e = .returned (.bool b) ∧ (w.alloc (.cells (exV x) 24)) = w') from by have := rhas_ok x.s i hu.s (w.alloc (.cells (exV x) 24)); rwa [BW.has_nat _ _ hi, hb] at this))
  have HB0 := Lib.hid hB0
  clear hB0 hu
  obtain ⟨R, hR⟩ : ∃ R, R = fst x a := ⟨_, rfl⟩
  rw [← hR]
  have HR := Lib.hid hR
  clear hR
  have e0 : exV x = #[.int .u64 x.s, .int .u64 x.mi, .int .u64 x.h, .int .u64 x.d, .int .u64 x.mo, .int .u64 x.w, .bool x.ad, .bool x.aw] := rfl
  rw [e0]
  clear e0
  unfold exV at CH CM CS HB0
  go_enter Tryz.func178, Tryz.ntmps178
  go_wp2_with fail
  obtain ⟨c0, hc0⟩ : ∃ c0 : Nat, c0 = a / 3600 := ⟨_, rfl⟩
  have ec : (a : Int) / 3600 = (c0 : Int) := by omega
  have hc1 : c0 * 3600 ≤ a := by omega
  clear hc0
  go_loop [5] (fun s5 => ∃ h : Nat, h ≤ 24 ∧ s5 = .int .i64 h ∧ NoC x a (h * 3600)) (fun s5 => 24 - intM s5)
  case atStart => exact ⟨c0, by omega, by first | rfl | (rw [ec]) | simp [ec], NoC.start hc1⟩
  case round =>
    clear ec hc1
    obtain ⟨h, hh, rfl, hno⟩ := hrel
    have HNO := Lib.hid hno
    clear hno
    rcases Nat.lt_or_ge h 24 with hlt | hge
    · obtain ⟨b, hb⟩ : ∃ b, x.h.testBit h = b := ⟨_, rfl⟩
      have CH1 := Lib.hid (CH.out h b (by omega) hb)
      have HBH := Lib.hid hb
      clear hb
      cases b
      · have HN1 : Hid (NoC x a ((h + 1) * 3600)) := Lib.hid (HNO.out.hours fun j h1 h2 => by
          obtain rfl : j = h := by omega
          exact HBH.out)
        go_wp2_with fail
        refine (CH1.out).mono ?_
        rintro e w' ⟨rfl, rfl⟩
        go_wp2_with fail
        refine ⟨⟨h + 1, by omega, by go_num, HN1.out⟩, ?_⟩
        simp [intM]; omega
      · go_wp2_with fail
        refine (CH1.out).mono ?_
        rintro e w' ⟨rfl, rfl⟩
        go_wp2_with fail
        go_loop [6] (fun s6 => ∃ m : Nat, m ≤ 60 ∧ s6 = .int .i64 m ∧ NoC x a (h * 3600 + m * 60)) (fun s6 => 60 - intM s6)
        case atStart => exact ⟨0, by omega, rfl, by have := HNO.out; rwa [Nat.zero_mul, Nat.add_zero]⟩
        case round =>
          obtain ⟨m, hm, rfl, hno⟩ := hrel
          clear HNO
          have HNO := Lib.hid hno
          clear hno
          rcases Nat.lt_or_ge m 60 with hlm | hgm
          · by_cases hcut : h * 3600 + m * 60 + 59 < a
            · have HN1 : Hid (NoC x a (h * 3600 + (m + 1) * 60)) := Lib.hid (HNO.out.skip (.inl (by omega)))
              go_wp2_with fail
              refine ⟨⟨m + 1, by omega, by go_num, HN1.out⟩, ?_⟩
              simp [intM]; omega
            · obtain ⟨b, hb⟩ : ∃ b, x.mi.testBit m = b := ⟨_, rfl⟩
              have CM1 := Lib.hid (CM.out m b (by omega) hb)
              have HBM := Lib.hid hb
              clear hb
              cases b
              · have HN1 : Hid (NoC x a (h * 3600 + (m + 1) * 60)) := Lib.hid (HNO.out.mins (by omega) fun j h1 h2 => by
                  obtain rfl : j = m := by omega
                  exact HBM.out)
                go_wp2_with fail
                refine (CM1.out).mono ?_
                rintro e w' ⟨rfl, rfl⟩
                go_wp2_with fail
                refine ⟨⟨m + 1, by omega, by go_num, HN1.out⟩, ?_⟩
                simp [intM]; omega
              · go_wp2_with fail
                refine (CM1.out).mono ?_
                rintro e w' ⟨rfl, rfl⟩
                go_wp2_with fail
                go_loop [7] (fun s7 => ∃ s : Nat, s ≤ 60 ∧ s7 = .int .i64 s ∧ NoC x a (h * 3600 + m * 60 + s)) (fun s7 => 60 - intM s7)
                case atStart => exact ⟨0, by omega, rfl, by have := HNO.out; rwa [Nat.add_zero]⟩
                case round =>
                  obtain ⟨s, hs, rfl, hno⟩ := hrel
                  clear HNO hcut
                  have HNO := Lib.hid hno
                  clear hno
                  rcases Nat.lt_or_ge s 60 with hls | hgs
                  · by_cases hcut : a ≤ h * 3600 + m * 60 + s
                    · obtain ⟨b, hb⟩ : ∃ b, x.s.testBit s = b := ⟨_, rfl⟩
                      have CS1 := Lib.hid (CS.out s b (by omega) hb)
                      have HBS := Lib.hid hb
                      clear hb
                      cases b
                      · have HN1 : Hid (NoC x a (h * 3600 + m * 60 + (s + 1))) := Lib.hid (HNO.out.secs (by omega) fun j h1 h2 h3 => by
                          obtain rfl : j = s := by omega
                          exact HBS.out)
                        go_wp2_with fail
                        refine (CS1.out).mono ?_
                        rintro e w' ⟨rfl, rfl⟩
                        go_wp2_with fail
                        refine ⟨⟨s + 1, by omega, by go_num, HN1.out⟩, ?_⟩
                        simp [intM]; omega
                      · have HE : Hid (R = some (h * 3600 + m * 60 + s)) := Lib.hid (by
                          rw [HR.out]
                          refine NoC.found HNO.out hcut (by omega) ?_
                          rw [clk_hms _ _ _ _ hlm hls, HBH.out, HBM.out, HBS.out]; rfl)
                        go_wp2_with fail
                        refine (CS1.out).mono ?_
                        rintro e w' ⟨rfl, rfl⟩
                        go_wp2_with fail
                        go_ret
                        exact ⟨by rw [HE.out]; simp [neg1], HB0.out⟩
                    · have HN1 : Hid (NoC x a (h * 3600 + m * 60 + (s + 1))) := Lib.hid (HNO.out.skip (.inl (by omega)))
                      go_wp2_with fail
                      refine ⟨⟨s + 1, by omega, by go_num, HN1.out⟩, ?_⟩
                      simp [intM]; omega
                  · have HN1 : Hid (NoC x a (h * 3600 + (m + 1) * 60)) := Lib.hid (HNO.out.skip (.inr (by omega)))
                    go_wp2_with fail
                    refine ⟨⟨m + 1, by omega, by go_num, HN1.out⟩, ?_⟩
                    simp [intM]; omega
          · have HN1 : Hid (NoC x a ((h + 1) * 3600)) := Lib.hid (HNO.out.skip (.inr (by omega)))
            go_wp2_with fail
            refine ⟨⟨h + 1, by omega, by go_num, HN1.out⟩, ?_⟩
            simp [intM]; omega
    · have HE : Hid (R = none) := Lib.hid (by rw [HR.out]; exact NoC.none (HNO.out.skip (.inr (by omega))))
      go_wp2_with fail
      go_ret
      exact ⟨by rw [HE.out]; rfl, HB0.out⟩
end Go.Proofs.YtmdjfjdlehdhjaaGreatDoor.BW
