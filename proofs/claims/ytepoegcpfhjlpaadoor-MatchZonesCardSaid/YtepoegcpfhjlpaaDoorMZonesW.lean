/- The walk of MatchZones. -/
import Derived.Test.YtepoegcpfhjlpaaDoorMWork
namespace Go.Proofs.YtepoegcpfhjlpaaDoor.BW
open Go.RowKit BM Go.Shelf MC
open BK hiding ret_bool ret_i64

theorem zones_law {x : Ex} {z t : Int} (h : chk x z [t] = 0) : (-840 ≤ z ∧ z ≤ 840) ∧ (0 ≤ t ∧ t ≤ 253402300799) ∧
    ((chk x 0 [t + z * 60] = 14 ∧ isV x z t = false ∧ dayV x z t = false) ∨ (chk x 0 [t + z * 60] = 0 ∧ isV x z t = isV x 0 (t + z * 60) ∧ dayV x z t = dayV x 0 (t + z * 60) ∧ (!isV x z t || dayV x z t) = true)) := by
  obtain ⟨o1, o2, o3⟩ := chk_zero h
  refine ⟨o2, o3 t (by simp), ?_⟩
  have c := chk_one (x := x) (z := 0) (t := t + z * 60) o1 zone0
  by_cases hr : 0 ≤ t + z * 60 ∧ t + z * 60 ≤ 253402300799
  · rw [if_pos hr] at c
    right
    refine ⟨c, ?_, ?_, ?_⟩
    · rw [isV_ok h, isV_ok c]; simp
    · rw [dayV_ok h, dayV_ok c]; simp
    · rw [isV_ok h, dayV_ok h]
      unfold T
      cases MC.M x ((t + z * 60).toNat / 86400) <;> simp [hr]
  · rw [if_neg hr] at c
    left
    have e : (decide (0 ≤ t + z * 60) && decide (t + z * 60 ≤ 253402300799)) = false := by
      rw [← Bool.decide_and]; exact decide_eq_false hr
    exact ⟨c, by rw [isV_ok h, e]; rfl, by rw [dayV_ok h, e]; rfl⟩
set_option maxRecDepth 8000 in
set_option maxHeartbeats 4000000 in
theorem mzones_ok (x : Ex) (hx : U64s x) (z t : Int) (w : World) (hT : SpTab w) (hTab : Tab w) : Calls Tryd.prog 6 #[.agg (exV x), .int .i64 z, .int .i64 t] w fun e w' =>
    e = .returned (.bool true) ∧ Below w.heap.size w w' := by
  have HB := Lib.hid (Box.first x hT hTab)
  have L := Lib.hid (fun h => zones_law (x := x) (z := z) (t := t) h)
  have HI := Lib.hid (fun W => Box.is (w := w) (W := W) hx z t rfl rfl)
  have HD := Lib.hid (fun W => Box.day (w := w) (W := W) hx z t rfl rfl)
  have HI2 := Lib.hid (fun W => Box.is (w := w) (W := W) hx 0 (t + z * 60) rfl rfl)
  have HD2 := Lib.hid (fun W => Box.day (w := w) (W := W) hx 0 (t + z * 60) rfl rfl)
  generalize chk x z [t] = c at *
  generalize chk x 0 [t + z * 60] = c2 at *
  generalize isV x z t = a at *
  generalize dayV x z t = b at *
  generalize isV x 0 (t + z * 60) = a2 at *
  generalize dayV x 0 (t + z * 60) = b2 at *
  clear hx hT hTab
  have e0 : exV x = #[.int .u64 x.s, .int .u64 x.mi, .int .u64 x.h, .int .u64 x.d, .int .u64 x.mo, .int .u64 x.w, .bool x.ad, .bool x.aw] := rfl
  rw [e0] at *
  clear e0
  go_enter Tryd.func6, Tryd.ntmps6
  go_wp2_with fail
  refine (HI.out _ HB.out).mono ?_
  rintro e w1 ⟨rfl, hb⟩
  obtain ⟨c0, c1, c2, c3, c4, c5, c6, c7⟩ := hb.cells
  have H1 := Lib.hid hb
  clear hb HB
  go_wp2_with fail
  refine (HD.out _ H1.out).mono ?_
  rintro e w2 ⟨rfl, hb⟩
  clear c0 c1 c2 c3 c4 c5 c6 c7
  obtain ⟨c0, c1, c2, c3, c4, c5, c6, c7⟩ := hb.cells
  have H2 := Lib.hid hb
  clear hb H1
  by_cases hc : c = 0
  · obtain ⟨hz, ht, hl⟩ := L.out hc
    have HL := Lib.hid hl
    subst hc
    clear hl
    go_wp2_with fail
    refine (HI2.out _ H2.out).mono ?_
    rintro e w3 ⟨rfl, hb⟩
    clear c0 c1 c2 c3 c4 c5 c6 c7
    obtain ⟨c0, c1, c2, c3, c4, c5, c6, c7⟩ := hb.cells
    have H3 := Lib.hid hb
    clear hb H2
    go_wp2_with fail
    refine (HD2.out _ H3.out).mono ?_
    rintro e w4 ⟨rfl, hb⟩
    have H4 := Lib.hid hb
    clear hb H3
    clear c0 c1 c2 c3 c4 c5 c6 c7
    have hh := HL.out
    clear HL L HI HD HI2 HD2
    rcases hh with ⟨h1, h2, h3⟩ | ⟨h1, h2, h3, hab⟩
    · subst h1 h2 h3
      go_wp2_with fail
      refine (H4.out.works).mono ?_
      rintro e w5 ⟨rfl, hb⟩
      have H5 := Lib.hid hb
      clear hb
      go_wp2_with fail
      go_ret
      exact ⟨rfl, H5.out.below⟩
    · cases a <;> cases b <;> first | (exact absurd hab (by decide)) | (
        clear hab
        subst h1 h2 h3
        go_wp2_with fail
        refine (H4.out.works).mono ?_
        rintro e w5 ⟨rfl, hb⟩
        have H5 := Lib.hid hb
        clear hb
        go_wp2_with fail
        go_ret
        exact ⟨rfl, H5.out.below⟩)
  · have hne : (c == 0) = false := by rw [beq_eq_false_iff_ne]; exact hc
    go_wp2_with fail
    refine (H2.out.works).mono ?_
    rintro e w3 ⟨rfl, hb⟩
    have H3 := Lib.hid hb
    clear hb
    go_wp2_with fail
    go_ret
    exact ⟨rfl, H3.out.below⟩
end Go.Proofs.YtepoegcpfhjlpaaDoor.BW
