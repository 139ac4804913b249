/- Contract of the reference's last. -/
import Derived.Test.YtepoegcpfhjlpaaDoorMatS
namespace Go.Proofs.YtepoegcpfhjlpaaDoor.BW
open Go.RowKit BM Go.Shelf MC
open BK hiding ret_bool ret_i64

def dnM : Value → Nat
  | .int _ v => (v + 1).toNat
  | _ => 0
set_option maxRecDepth 8000 in
set_option maxHeartbeats 8000000 in
theorem rlast_ok (x : Ex) (hu : U64s x) (a : Nat) (ha : a < 86400) (w : World) :
    Calls Tryd.prog 50 #[.agg (exV x), .int .i64 a] w fun e w' => e = .returned (.int .i64 (neg1 (lst x a))) ∧ Below w.heap.size w w' := by
  have hB0 : Below w.heap.size w (w.alloc (.cells (exV x) 24)) := (Below.refl _ w).alloc (Nat.le_refl _) _
  have CH := Lib.hid (fun (i : Nat) (b : Bool) (hi : i < 64) (hb : x.h.testBit i = b) => (show Calls Tryd.prog 62 #[.int .u64 x.h, .int .i64 i] (w.alloc (.cells (exV x) 24)) (fun e w' => e = .returned (.bool b) ∧ (w.alloc (.cells (exV x) 24)) = w') from by have := rhas_ok x.h i hu.h (w.alloc (.cells (exV x) 24)); rwa [BW.has_nat _ _ hi, hb] at this))
  have CM := Lib.hid (fun (i : Nat) (b : Bool) (hi : i < 64) (hb : x.mi.testBit i = b) => (show Calls Tryd.prog 62 #[.int .u64 x.mi, .int .i64 i] (w.alloc (.cells (exV x) 24)) (fun e w' => e = .returned (.bool b) ∧ (w.alloc (.cells (exV x) 24)) = w') from by have := rhas_ok x.mi i hu.mi (w.alloc (.cells (exV x) 24)); rwa [BW.has_nat _ _ hi, hb] at this))
  have CS := Lib.hid (fun (i : Nat) (b : Bool) (hi : i < 64) (hb : x.s.testBit i = b) => (show Calls Tryd.prog 62 #[.int .u64 x.s, .int .i64 i] (w.alloc (.cells (exV x) 24)) (fun e w' => e = .returned (.bool b) ∧ (w.alloc (.cells (exV x) 24)) = w') from by have := rhas_ok x.s i hu.s (w.alloc (.cells (exV x) 24)); rwa [BW.has_nat _ _ hi, hb] at this))
  have HB0 := Lib.hid hB0
  clear hB0 hu
  obtain ⟨R, hR⟩ : ∃ R, R = lst x a := ⟨_, rfl⟩
  rw [← hR]
  have HR := Lib.hid hR
  clear hR
  have e0 : exV x = #[.int .u64 x.s, .int .u64 x.mi, .int .u64 x.h, .int .u64 x.d, .int .u64 x.mo, .int .u64 x.w, .bool x.ad, .bool x.aw] := rfl
  rw [e0]
  clear e0
  unfold exV at CH CM CS HB0
  go_enter Tryd.func50, Tryd.ntmps50
  go_wp2_with fail
  obtain ⟨c0, hc0⟩ : ∃ c0 : Nat, c0 = a / 3600 := ⟨_, rfl⟩
  have ec : (a : Int) / 3600 = (c0 : Int) := by omega
  have hc1 : a < (c0 + 1) * 3600 := by omega
  have hc2 : c0 < 24 := by omega
  clear hc0
  go_loop [5] (fun s5 => ∃ z : Int, ∃ c : Nat, c ≤ 24 ∧ z = c - 1 ∧ s5 = .int .i64 z ∧ NoL x a (c * 3600)) (fun s5 => dnM s5)
  case atStart => exact ⟨c0, c0 + 1, by omega, by omega, by first | rfl | (rw [ec]) | simp [ec], NoL.start (.inl hc1)⟩
  case round =>
    clear ec hc1 hc2
    obtain ⟨z, c, hh, hz, rfl, hno⟩ := hrel
    have HNO := Lib.hid hno
    clear hno
    rcases c with _ | h
    · have HE : Hid (R = none) := Lib.hid (by rw [HR.out]; have := HNO.out; rw [Nat.zero_mul] at this; exact NoL.none this)
      have hz1 : z < 0 := by omega
      clear hz
      go_wp2_with fail
      go_ret
      exact ⟨by rw [HE.out]; rfl, HB0.out⟩
    · obtain rfl : z = (h : Int) := by omega
      clear hz
      obtain ⟨b, hb⟩ : ∃ b, x.h.testBit h = b := ⟨_, rfl⟩
      have CH1 := Lib.hid (CH.out h b (by omega) hb)
      have HBH := Lib.hid hb
      clear hb
      cases b
      · have HN1 : Hid (NoL x a (h * 3600)) := Lib.hid (HNO.out.hours fun j h1 h2 => by
          obtain rfl : j = h := by omega
          exact HBH.out)
        go_wp2_with fail
        refine (CH1.out).mono ?_
        rintro e w' ⟨rfl, rfl⟩
        go_wp2_with fail
        refine ⟨⟨_, h, by omega, by omega, rfl, HN1.out⟩, ?_⟩
        simp [dnM]
      · go_wp2_with fail
        refine (CH1.out).mono ?_
        rintro e w' ⟨rfl, rfl⟩
        go_wp2_with fail
        go_loop [6] (fun s6 => ∃ z : Int, ∃ c : Nat, c ≤ 60 ∧ z = c - 1 ∧ s6 = .int .i64 z ∧ NoL x a (h * 3600 + c * 60)) (fun s6 => dnM s6)
        case atStart => exact ⟨59, 60, by omega, by omega, rfl, HNO.out.skip (.inl (by omega))⟩
        case round =>
          obtain ⟨z, c, hm, hz, rfl, hno⟩ := hrel
          clear HNO
          have HNO := Lib.hid hno
          clear hno
          rcases c with _ | m
          · have HN1 : Hid (NoL x a (h * 3600)) := Lib.hid (HNO.out.skip (.inl (by omega)))
            have hz1 : z < 0 := by omega
            clear hz
            go_wp2_with fail
            refine ⟨⟨_, h, by omega, by omega, rfl, HN1.out⟩, ?_⟩
            simp [dnM]
          · obtain rfl : z = (m : Int) := by omega
            clear hz
            by_cases hcut : a < h * 3600 + m * 60
            · have HN1 : Hid (NoL x a (h * 3600 + m * 60)) := Lib.hid (NoL.start (.inl hcut))
              go_wp2_with fail
              refine ⟨⟨_, m, by omega, by omega, rfl, HN1.out⟩, ?_⟩
              simp [dnM]
            · obtain ⟨b, hb⟩ : ∃ b, x.mi.testBit m = b := ⟨_, rfl⟩
              have CM1 := Lib.hid (CM.out m b (by omega) hb)
              have HBM := Lib.hid hb
              clear hb
              cases b
              · have HN1 : Hid (NoL x a (h * 3600 + m * 60)) := Lib.hid (HNO.out.mins (by omega) fun j h1 h2 => by
                  obtain rfl : j = m := by omega
                  exact HBM.out)
                go_wp2_with fail
                refine (CM1.out).mono ?_
                rintro e w' ⟨rfl, rfl⟩
                go_wp2_with fail
                refine ⟨⟨_, m, by omega, by omega, rfl, HN1.out⟩, ?_⟩
                simp [dnM]
              · go_wp2_with fail
                refine (CM1.out).mono ?_
                rintro e w' ⟨rfl, rfl⟩
                go_wp2_with fail
                go_loop [7] (fun s7 => ∃ z : Int, ∃ c : Nat, c ≤ 60 ∧ z = c - 1 ∧ s7 = .int .i64 z ∧ NoL x a (h * 3600 + m * 60 + c)) (fun s7 => dnM s7)
                case atStart => exact ⟨59, 60, by omega, by omega, rfl, HNO.out.skip (.inl (by omega))⟩
                case round =>
                  obtain ⟨z, c, hs, hz, rfl, hno⟩ := hrel
                  clear HNO hcut
                  have HNO := Lib.hid hno
                  clear hno
                  rcases c with _ | s
                  · have HN1 : Hid (NoL x a (h * 3600 + m * 60)) := Lib.hid (HNO.out.skip (.inl (by omega)))
                    have hz1 : z < 0 := by omega
                    clear hz
                    go_wp2_with fail
                    refine ⟨⟨_, m, by omega, by omega, rfl, HN1.out⟩, ?_⟩
                    simp [dnM]
                  · obtain rfl : z = (s : Int) := by omega
                    clear hz
                    by_cases hcut : h * 3600 + m * 60 + s ≤ a
                    · obtain ⟨b, hb⟩ : ∃ b, x.s.testBit s = b := ⟨_, rfl⟩
                      have CS1 := Lib.hid (CS.out s b (by omega) hb)
                      have HBS := Lib.hid hb
                      clear hb
                      cases b
                      · have HN1 : Hid (NoL x a (h * 3600 + m * 60 + s)) := Lib.hid (HNO.out.secs (by omega) fun j h1 h2 h3 => by
                          obtain rfl : j = s := by omega
                          exact HBS.out)
                        go_wp2_with fail
                        refine (CS1.out).mono ?_
                        rintro e w' ⟨rfl, rfl⟩
                        go_wp2_with fail
                        refine ⟨⟨_, s, by omega, by omega, rfl, HN1.out⟩, ?_⟩
                        simp [dnM]
                      · have HE : Hid (R = some (h * 3600 + m * 60 + s)) := Lib.hid (by
                          rw [HR.out]
                          refine NoL.found (by have := HNO.out; rwa [← Nat.add_assoc] at this) hcut (by omega) ?_
                          rw [clk_hms _ _ _ _ (by omega) (by omega), HBH.out, HBM.out, HBS.out]; rfl)
                        go_wp2_with fail
                        refine (CS1.out).mono ?_
                        rintro e w' ⟨rfl, rfl⟩
                        go_wp2_with fail
                        go_ret
                        exact ⟨by rw [HE.out]; simp [neg1], HB0.out⟩
                    · have HN1 : Hid (NoL x a (h * 3600 + m * 60 + s)) := Lib.hid (NoL.start (.inl (by omega)))
                      go_wp2_with fail
                      refine ⟨⟨_, s, by omega, by omega, rfl, HN1.out⟩, ?_⟩
                      simp [dnM]
end Go.Proofs.YtepoegcpfhjlpaaDoor.BW
