/- The walk of MatchWeeks. -/
import Derived.Test.YtepoegcpfhjlpaaDoorMWork
namespace Go.Proofs.YtepoegcpfhjlpaaDoor.BW
open Go.RowKit BM Go.Shelf MC
open BK hiding ret_bool ret_i64

theorem Box.of {x : Ex} {w W : World} (hT : SpTab w) (hTab : Tab w) (hb : Below w.heap.size w W) (hx : Blk W w.heap.size 24 (exV x)) : Box w x W :=
  ⟨hb, hx, hT.below hb, tab_below hTab hb (tab_lt hTab)⟩
theorem Box.set {x y : Ex} {w W : World} (hT : SpTab w) (hTab : Tab w) (h : Box w x W) (i : Nat) (v : Value) (he : (exV x).setIfInBounds i v = exV y) : Box w y (W.setCell ⟨w.heap.size, i, none⟩ v) :=
  Box.of hT hTab (h.below.setCell (by simp) _) (by rw [← he]; exact h.blk.set_ i v)
/-- Week: any day of the month, any month. -/
def wkX (x : Ex) : Ex := { x with d := 4294967294, mo := 8190, ad := true }
def dyX (x : Ex) : Ex := { x with d := 4294967294, mo := 8190, w := 127, ad := true, aw := true }
theorem ck_intro {x : Ex} (h : ∀ i, i < 6 → okF i (fl x i) = true) (h2 : starsOk x = true) : ckR x = 0 := ckR_ok h h2
theorem week_day (n : Nat) : Nat.testBit 127 ((n + 4) % 7) = true := by
  have h : ∀ k, k < 7 → Nat.testBit 127 k = true := by decide
  exact h _ (Nat.mod_lt _ (by decide))
theorem M_wk (x : Ex) (n : Nat) : MC.M (wkX x) n = if x.aw then true else x.w.testBit ((n + 4) % 7) := by
  unfold MC.M wkX dayRule
  rw [month_any]
  cases x.aw <;> simp
theorem M_dy (x : Ex) (n : Nat) : MC.M (dyX x) n = true := by
  unfold MC.M dyX dayRule
  rw [month_any]
  simp
theorem ck_dy {x : Ex} (h : ckR (wkX x) = 0) : ckR (dyX x) = 0 := by
  obtain ⟨h1, h2⟩ := ck_zero h
  refine ckR_ok (fun i hi => ?_) rfl
  match i, hi with
  | 0, _ => exact h1 0 (by decide)
  | 1, _ => exact h1 1 (by decide)
  | 2, _ => exact h1 2 (by decide)
  | 3, _ => exact h1 3 (by decide)
  | 4, _ => exact h1 4 (by decide)
  | 5, _ => exact (by decide : okF 5 127 = true)
theorem weeks_law {x : Ex} {z t : Int} (ht : 0 ≤ t ∧ t ≤ 253401436799) : chk (wkX x) z [t + 604800] = chk (wkX x) z [t] ∧ (chk (wkX x) z [t] = 0 → (-840 ≤ z ∧ z ≤ 840) ∧ chk (dyX x) z [t] = 0 ∧ chk (dyX x) z [t + 86400] = 0 ∧
    (0 ≤ t + z * 60 → isV (wkX x) z t = isV (wkX x) z (t + 604800) ∧ isV (dyX x) z t = isV (dyX x) z (t + 86400))) := by
  have e1 : chk (wkX x) z [t + 604800] = chk (wkX x) z [t] := by
    unfold chk timesR tOk
    rw [show ([t + 604800].all fun t => decide (0 ≤ t) && decide (t ≤ 253402300799)) = true by simp; omega, show ([t].all fun t => decide (0 ≤ t) && decide (t ≤ 253402300799)) = true by simp; omega]
  refine ⟨e1, fun h => ?_⟩
  obtain ⟨o1, o2, o3⟩ := chk_zero h
  have hz := zone_of h
  have od := ck_dy o1
  have d1 := chk_one (x := dyX x) (z := z) (t := t) od hz
  rw [if_pos (by omega)] at d1
  have d2 := chk_one (x := dyX x) (z := z) (t := t + 86400) od hz
  rw [if_pos (by omega)] at d2
  refine ⟨o2, d1, d2, fun h0 => ?_⟩
  rw [isV_ok h, isV_ok (e1.trans h), isV_ok d1, isV_ok d2]
  have a1 : decide (0 ≤ t + z * 60) = true := decide_eq_true h0
  have a2 : decide (t + z * 60 ≤ 253402300799) = true := decide_eq_true (by omega)
  have a3 : decide (0 ≤ t + 604800 + z * 60) = true := decide_eq_true (by omega)
  have a4 : decide (t + 604800 + z * 60 ≤ 253402300799) = true := decide_eq_true (by omega)
  have a5 : decide (0 ≤ t + 86400 + z * 60) = true := decide_eq_true (by omega)
  have a6 : decide (t + 86400 + z * 60 ≤ 253402300799) = true := decide_eq_true (by omega)
  rw [a1, a2, a3, a4, a5, a6]
  obtain ⟨l, hl⟩ : ∃ l : Nat, t + z * 60 = l := ⟨(t + z * 60).toNat, by omega⟩
  have b1 : (t + z * 60).toNat = l := by omega
  have b2 : (t + 604800 + z * 60).toNat = l + 604800 := by omega
  have b3 : (t + 86400 + z * 60).toNat = l + 86400 := by omega
  rw [b1, b2, b3]
  unfold T
  rw [M_wk, M_wk, M_dy, M_dy]
  have c1 : (l + 604800) / 86400 = l / 86400 + 7 := by omega
  have c2 : (l + 604800) % 86400 = l % 86400 := by omega
  have c3 : (l + 86400) % 86400 = l % 86400 := by omega
  rw [c1, c2, c3]
  have c4 : (l / 86400 + 7 + 4) % 7 = (l / 86400 + 4) % 7 := by omega
  rw [c4]
  exact ⟨rfl, rfl⟩
theorem u64_wk {x : Ex} (h : U64s x) : U64s (wkX x) := ⟨h.s, h.mi, h.h, by show (4294967294 : Nat) < _; decide, by show (8190 : Nat) < _; decide, h.w⟩
theorem u64_dy {x : Ex} (h : U64s x) : U64s (dyX x) := ⟨h.s, h.mi, h.h, by show (4294967294 : Nat) < _; decide, by show (8190 : Nat) < _; decide, by show (127 : Nat) < _; decide⟩
theorem Box.isWk {w : World} {x : Ex} {W : World} (hx : U64s x) (z t : Int) {a : Bool} {c : Int} (ha : isV (wkX x) z t = a) (hc : chk (wkX x) z [t] = c) (h : Box w (wkX x) W) : Calls Tryd.prog 23 #[.agg #[.int .u64 x.s, .int .u64 x.mi, .int .u64 x.h, .int .u64 4294967294, .int .u64 8190, .int .u64 x.w, .bool true, .bool x.aw], .int .i64 z, .int .i64 t] W fun e W' =>
    e = .returned (.tuple #[.bool a, .int .i64 c]) ∧ Box w (wkX x) W' := Box.is (u64_wk hx) z t ha hc h
theorem Box.isDy {w : World} {x : Ex} {W : World} (hx : U64s x) (z t : Int) {a : Bool} {c : Int} (ha : isV (dyX x) z t = a) (hc : chk (dyX x) z [t] = c) (h : Box w (dyX x) W) : Calls Tryd.prog 23 #[.agg #[.int .u64 x.s, .int .u64 x.mi, .int .u64 x.h, .int .u64 4294967294, .int .u64 8190, .int .u64 127, .bool true, .bool true], .int .i64 z, .int .i64 t] W fun e W' =>
    e = .returned (.tuple #[.bool a, .int .i64 c]) ∧ Box w (dyX x) W' := Box.is (u64_dy hx) z t ha hc h
theorem Box.cellsWk {w : World} {x : Ex} {W : World} (h : Box w (wkX x) W) : W.cell? ⟨w.heap.size, 0, none⟩ = some (.int .u64 x.s) ∧ W.cell? ⟨w.heap.size, 1, none⟩ = some (.int .u64 x.mi) ∧ W.cell? ⟨w.heap.size, 2, none⟩ = some (.int .u64 x.h) ∧ W.cell? ⟨w.heap.size, 3, none⟩ = some (.int .u64 4294967294) ∧ W.cell? ⟨w.heap.size, 4, none⟩ = some (.int .u64 8190) ∧ W.cell? ⟨w.heap.size, 5, none⟩ = some (.int .u64 x.w) ∧ W.cell? ⟨w.heap.size, 6, none⟩ = some (.bool true) ∧ W.cell? ⟨w.heap.size, 7, none⟩ = some (.bool x.aw) := h.cells
theorem Box.cellsDy {w : World} {x : Ex} {W : World} (h : Box w (dyX x) W) : W.cell? ⟨w.heap.size, 0, none⟩ = some (.int .u64 x.s) ∧ W.cell? ⟨w.heap.size, 1, none⟩ = some (.int .u64 x.mi) ∧ W.cell? ⟨w.heap.size, 2, none⟩ = some (.int .u64 x.h) ∧ W.cell? ⟨w.heap.size, 3, none⟩ = some (.int .u64 4294967294) ∧ W.cell? ⟨w.heap.size, 4, none⟩ = some (.int .u64 8190) ∧ W.cell? ⟨w.heap.size, 5, none⟩ = some (.int .u64 127) ∧ W.cell? ⟨w.heap.size, 6, none⟩ = some (.bool true) ∧ W.cell? ⟨w.heap.size, 7, none⟩ = some (.bool true) := h.cells
set_option maxRecDepth 8000 in
set_option maxHeartbeats 4000000 in
theorem mweeks_ok (x : Ex) (hx : U64s x) (z t : Int) (w : World) (hT : SpTab w) (hTab : Tab w) : Calls Tryd.prog 8 #[.agg (exV x), .int .i64 z, .int .i64 t] w fun e w' =>
    e = .returned (.bool true) ∧ Below w.heap.size w w' := by

  have HB := Lib.hid (Box.first (wkX x) hT hTab)
  have L := Lib.hid (fun h => weeks_law (x := x) (z := z) (t := t) h)
  have HI := Lib.hid (fun W => Box.isWk (w := w) (W := W) hx z t rfl rfl)
  have HI2 := Lib.hid (fun W => Box.isWk (w := w) (W := W) hx z (t + 604800) rfl rfl)
  have HI3 := Lib.hid (fun W => Box.isDy (w := w) (W := W) hx z t rfl rfl)
  have HI4 := Lib.hid (fun W => Box.isDy (w := w) (W := W) hx z (t + 86400) rfl rfl)
  generalize chk (wkX x) z [t] = c at *
  generalize chk (wkX x) z [t + 604800] = c2 at *
  generalize chk (dyX x) z [t] = c3 at *
  generalize chk (dyX x) z [t + 86400] = c4 at *
  generalize isV (wkX x) z t = a at *
  generalize isV (wkX x) z (t + 604800) = a2 at *
  generalize isV (dyX x) z t = a3 at *
  generalize isV (dyX x) z (t + 86400) = a4 at *
  have HS := Lib.hid (fun W (h : Box w (wkX x) W) => Box.set (y := dyX x) hT hTab (Box.set (y := { wkX x with w := 127 }) hT hTab h 5 (.int .u64 127) rfl) 7 (.bool true) rfl)
  clear hx hT hTab
  have e0 : exV x = #[.int .u64 x.s, .int .u64 x.mi, .int .u64 x.h, .int .u64 x.d, .int .u64 x.mo, .int .u64 x.w, .bool x.ad, .bool x.aw] := rfl
  rw [e0] at *
  clear e0
  go_enter Tryd.func8, Tryd.ntmps8
  by_cases h0 : t < 0
  · have d0 : decide (t < 0) = true := decide_eq_true h0
    go_wp2_with fail
    refine (HB.out.works).mono ?_
    rintro e w1 ⟨rfl, hb⟩
    have H1 := Lib.hid hb
    clear hb
    go_wp2_with fail
    go_ret
    exact ⟨rfl, H1.out.below⟩
  · have d0 : decide (t < 0) = false := decide_eq_false h0
    by_cases h1 : 253401436799 < t
    · have d1 : decide (253401436799 < t) = true := decide_eq_true h1
      go_wp2_with fail
      refine (HB.out.works).mono ?_
      rintro e w1 ⟨rfl, hb⟩
      have H1 := Lib.hid hb
      clear hb
      go_wp2_with fail
      go_ret
      exact ⟨rfl, H1.out.below⟩
    · have d1 : decide (253401436799 < t) = false := decide_eq_false h1
      obtain ⟨lc, ll⟩ := L.out ⟨by omega, by omega⟩
      have LL := Lib.hid ll
      have hr : 0 ≤ t ∧ t ≤ 253401436799 := ⟨by omega, by omega⟩
      clear L ll h0 h1
      subst lc
      go_wp2_with fail
      refine (HI.out _ HB.out).mono ?_
      rintro e w1 ⟨rfl, hb⟩
      obtain ⟨c0, c1, c2, c3, c4, c5, c6, c7⟩ := hb.cellsWk
      have H1 := Lib.hid hb
      clear hb HB
      go_wp2_with fail
      refine (HI2.out _ H1.out).mono ?_
      rintro e w2 ⟨rfl, hb⟩
      clear c0 c1 c2 c3 c4 c5 c6 c7
      have H2 := Lib.hid hb
      have f2 : ∀ i, w2.frozen? ⟨w.heap.size, i, none⟩ = false := fun i => hb.blk.frozen i
      clear hb H1
      by_cases hc : c2 = 0
      · obtain ⟨hz, g1, g2, g3⟩ := LL.out hc
        have G3 := Lib.hid g3
        subst hc g1 g2
        clear g3 LL
        have H3 := Lib.hid (HS.out w2 H2.out)
        by_cases h0 : 0 ≤ t + z * 60
        · have d2 : decide (0 ≤ t + z * 60) = true := decide_eq_true h0
          have d3 : decide (t + z * 60 < 0) = false := decide_eq_false (by omega)
          have d4 : decide (t + 604800 + z * 60 ≤ 253402300799) = true := decide_eq_true (by omega)
          have d5 : decide (253402300799 < t + 86400 + z * 60) = false := decide_eq_false (by omega)
          obtain ⟨k1, k2⟩ := G3.out h0
          subst k1 k2
          obtain ⟨c0, c1, c2, c3, c4, c5, c6, c7⟩ := H2.out.cellsWk
          clear H2 HI HI2 G3
          go_wp2_with fail
          refine (HI3.out _ H3.out).mono ?_
          rintro e w3 ⟨rfl, hb⟩
          clear c0 c1 c2 c3 c4 c5 c6 c7
          obtain ⟨c0, c1, c2, c3, c4, c5, c6, c7⟩ := hb.cellsDy
          have H4 := Lib.hid hb
          clear hb H3
          go_wp2_with fail
          refine (HI4.out _ H4.out).mono ?_
          rintro e w4 ⟨rfl, hb⟩
          clear c0 c1 c2 c3 c4 c5 c6 c7
          have H5 := Lib.hid hb
          clear hb H4
          go_wp2_with fail
          refine (H5.out.works).mono ?_
          rintro e w5 ⟨rfl, hb⟩
          have H6 := Lib.hid hb
          clear hb
          go_wp2_with fail
          go_ret
          exact ⟨rfl, H6.out.below⟩
        · have d2 : decide (0 ≤ t + z * 60) = false := decide_eq_false h0
          have d3 : decide (t + z * 60 < 0) = true := decide_eq_true (by omega)
          obtain ⟨c0, c1, c2, c3, c4, c5, c6, c7⟩ := H2.out.cellsWk
          clear H2 HI HI2 G3
          go_wp2_with fail
          refine (HI3.out _ H3.out).mono ?_
          rintro e w3 ⟨rfl, hb⟩
          clear c0 c1 c2 c3 c4 c5 c6 c7
          obtain ⟨c0, c1, c2, c3, c4, c5, c6, c7⟩ := hb.cellsDy
          have H4 := Lib.hid hb
          clear hb H3
          go_wp2_with fail
          refine (HI4.out _ H4.out).mono ?_
          rintro e w4 ⟨rfl, hb⟩
          clear c0 c1 c2 c3 c4 c5 c6 c7
          have H5 := Lib.hid hb
          clear hb H4
          go_wp2_with fail
          refine (H5.out.works).mono ?_
          rintro e w5 ⟨rfl, hb⟩
          have H6 := Lib.hid hb
          clear hb
          go_wp2_with fail
          go_ret
          exact ⟨rfl, H6.out.below⟩
      · have hne : (c2 == 0) = false := by rw [beq_eq_false_iff_ne]; exact hc
        clear f2 LL HS HI HI2 HI3 HI4
        go_wp2_with fail
        refine (H2.out.works).mono ?_
        rintro e w3 ⟨rfl, hb⟩
        have H3 := Lib.hid hb
        clear hb
        go_wp2_with fail
        go_ret
        exact ⟨rfl, H3.out.below⟩
end Go.Proofs.YtepoegcpfhjlpaaDoor.BW
