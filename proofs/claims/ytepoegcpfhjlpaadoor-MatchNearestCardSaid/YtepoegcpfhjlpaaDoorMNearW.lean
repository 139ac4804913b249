/- The walk of MatchNearest. -/
import Derived.Test.YtepoegcpfhjlpaaDoorMTurnsW
namespace Go.Proofs.YtepoegcpfhjlpaaDoor.BW
open Go.RowKit BM Go.Shelf MC
open BK hiding ret_bool ret_i64

theorem nearest_law {x : Ex} {z t n : Int} (hn : nxV x z t = some n) : chk x z [t] = 0 ∧ (0 ≤ t ∧ t < n ∧ n ≤ 253402300799) ∧ chk x z [n] = 0 ∧ isV x z n = true ∧
    (∀ u, t < u → u < n → chk x z [u] = 0 ∧ isV x z u = false) ∧ (chk x z [n - 1] = 0 ∧ nxV x z (n - 1) = some n) ∧ (n ≠ 253402300799 → chk x z [n + 1] = 0 ∧ pvV x z (n + 1) = some n) := by
  have hc : chk x z [t] = 0 := by
    by_cases h : chk x z [t] = 0
    · exact h
    · rw [nxV_bad h] at hn; cases hn
  obtain ⟨o1, o2, o3⟩ := chk_zero hc
  have ht := o3 t (by simp)
  have hz := zone_of hc
  rw [nxV_ok hc] at hn
  obtain ⟨n1, n2, n3⟩ := (fromV_some o2).1 hn
  have hr := At_range n2
  have hcn := chk_at hc n2
  have hck : ∀ u, 0 ≤ u → u ≤ 253402300799 → chk x z [u] = 0 := fun u h1 h2 => by rw [chk_one o1 hz, if_pos ⟨h1, h2⟩]
  refine ⟨hc, ⟨by omega, by omega, by omega⟩, hcn, by rw [isV_At hcn]; exact n2, fun u h1 h2 => ?_, ?_, fun hne => ?_⟩
  · have h := hck u (by omega) (by omega)
    exact ⟨h, by rw [isV_At h]; exact n3 u (by omega) h2⟩
  · have h := hck (n - 1) (by omega) (by omega)
    refine ⟨h, ?_⟩
    rw [nxV_ok h]
    exact (fromV_some o2).2 ⟨by omega, n2, fun m m1 m2 => by omega⟩
  · have h := hck (n + 1) (by omega) (by omega)
    refine ⟨h, ?_⟩
    rw [pvV_ok h]
    exact (beforeV_some o2).2 ⟨by omega, n2, fun m m1 m2 => by omega⟩
theorem step_bound {g k : Int} (_ : 0 ≤ g) (h1 : 1 ≤ k) (h2 : k ≤ 200) (h3 : 201 ≤ g) : 0 < g / 201 * k ∧ g / 201 * k < g := by
  have q1 : 1 ≤ g / 201 := by omega
  have a1 : 1 * k ≤ g / 201 * k := Int.mul_le_mul_of_nonneg_right q1 (by omega)
  have a2 : g / 201 * k ≤ g / 201 * 200 := Int.mul_le_mul_of_nonneg_left h2 (by omega)
  omega
set_option maxRecDepth 8000 in
set_option maxHeartbeats 8000000 in
theorem mnearest_ok (x : Ex) (hx : U64s x) (z t : Int) (w : World) (hT : SpTab w) (hTab : Tab w) : Calls Tryd.prog 12 #[.agg (exV x), .int .i64 z, .int .i64 t] w fun e w' =>
    e = .returned (.bool true) ∧ Below w.heap.size w w' := by
  have H0 := Lib.hid (Box.first x hT hTab)
  have A1 := Lib.hid (fun W => Box.nxt (w := w) (W := W) hx z t rfl rfl rfl)
  have AI := Lib.hid (fun u a ha hc W => Box.is (w := w) (W := W) hx z u (a := a) (c := 0) ha hc)
  have AN := Lib.hid (fun u n a hn ha hc W => Box.nxt (w := w) (W := W) hx z u (n := n) (a := a) (c := 0) hn ha hc)
  have AP := Lib.hid (fun u n a hn ha hc W => Box.prv (w := w) (W := W) hx z u (n := n) (a := a) (c := 0) hn ha hc)
  have L := Lib.hid (fun n hn => nearest_law (x := x) (z := z) (t := t) (n := n) hn)
  clear hx hT hTab
  have e0 : exV x = #[.int .u64 x.s, .int .u64 x.mi, .int .u64 x.h, .int .u64 x.d, .int .u64 x.mo, .int .u64 x.w, .bool x.ad, .bool x.aw] := rfl
  rw [e0] at *
  clear e0
  cases hN : nxV x z t with
  | none =>
    rw [hN] at A1
    simp only [optI, Option.getD_none, Option.isSome_none] at A1
    clear AI AN AP L hN
    by_cases hc : chk x z [t] = 0
    · rw [hc] at A1
      clear hc
      go_enter Tryd.func12, Tryd.ntmps12
      go_wp2_with fail
      refine (A1.out _ H0.out).mono ?_
      rintro e w1 ⟨rfl, hb⟩
      have H1 := Lib.hid hb
      clear hb H0
      go_wp2_with fail
      refine (H1.out.works).mono ?_
      rintro e w2 ⟨rfl, hb⟩
      go_wp2_with fail
      go_ret
      exact ⟨rfl, hb.below⟩
    · have hne : (chk x z [t] == 0) = false := by rw [beq_eq_false_iff_ne]; exact hc
      clear hc
      generalize chk x z [t] = c at *
      have hne' : (c != 0) = true := by rw [bne, hne]; rfl
      go_enter Tryd.func12, Tryd.ntmps12
      go_wp2_with fail
      refine (A1.out _ H0.out).mono ?_
      rintro e w1 ⟨rfl, hb⟩
      have H1 := Lib.hid hb
      clear hb H0
      go_wp2_with fail
      refine (H1.out.works).mono ?_
      rintro e w2 ⟨rfl, hb⟩
      go_wp2_with fail
      go_ret
      exact ⟨rfl, hb.below⟩
  | some n =>
    obtain ⟨l1, ⟨lt0, ltn, ln⟩, l2, l3, l4, ⟨l5, l6⟩, l7⟩ := L.out n hN
    rw [hN, l1] at A1
    simp only [optI, Option.getD_some, Option.isSome_some] at A1
    have A2 := Lib.hid (AI.out n true l3 l2)
    have A3 := Lib.hid (AN.out (n - 1) n true (by rw [l6]; rfl) (by rw [l6]; rfl) l5)
    have A5 := Lib.hid (fun hne => AP.out (n + 1) n true (by rw [(l7 hne).2]; rfl) (by rw [(l7 hne).2]; rfl) (l7 hne).1)
    have A4 := Lib.hid (fun u h1 h2 => AI.out u false (l4 u h1 h2).2 (l4 u h1 h2).1)
    clear L hN l1 l2 l3 l4 l5 l6 l7 AI AN AP
    have d1 : decide (n ≤ t) = false := decide_eq_false (by omega)
    have d2 : decide (253402300799 < n) = false := decide_eq_false (by omega)
    obtain ⟨m, hm⟩ : ∃ m, min (n - t) 201 = m := ⟨_, rfl⟩
    have HM := Lib.hid (show m ≤ n - t ∧ m ≤ 201 ∧ 1 ≤ m by omega)
    go_enter Tryd.func12, Tryd.ntmps12
    go_wp2_with fail
    refine (A1.out _ H0.out).mono ?_
    rintro e w1 ⟨rfl, hb⟩
    obtain ⟨c0, c1, c2, c3, c4, c5, c6, c7⟩ := hb.cells
    have H1 := Lib.hid hb
    clear hb H0
    go_wp2_with fail
    refine (A2.out _ H1.out).mono ?_
    rintro e w2 ⟨rfl, hb⟩
    clear c0 c1 c2 c3 c4 c5 c6 c7
    have H2 := Lib.hid hb
    clear hb H1
    clear A1 A2 d1 d2
    go_wp2_with fail
    go_loopw [13] (fun s13 wr => ∃ k : Int, s13 = .int .i64 k ∧ 1 ≤ k ∧ k ≤ m ∧ Box w x wr) (fun s13 _ => (m - intM s13).toNat)
    case atStart => exact ⟨1, rfl, by omega, HM.out.2.2, H2.out⟩
    case round =>
      clear H2
      obtain ⟨k, rfl, k1, k2, hB⟩ := hrel
      by_cases hk : k < m
      · have hlt : decide (k < m) = true := decide_eq_true hk
        have hk2 : k ≤ 200 := by have := HM.out; omega
        have hk3 : k < n - t := by have := HM.out; omega
        have HNX : Hid (∀ W, Box w x W → (∃ k_1 : Int, Value.int .i64 (k + 1) = .int .i64 k_1 ∧ 1 ≤ k_1 ∧ k_1 ≤ m ∧ Box w x W) ∧ (m - intM (.int .i64 (k + 1))).toNat < (m - intM (.int .i64 k)).toNat) := Lib.hid (fun W h => ⟨⟨k + 1, rfl, by omega, by omega, h⟩, by simp only [intM]; omega⟩)
        have HB := Lib.hid hB
        obtain ⟨c0, c1, c2, c3, c4, c5, c6, c7⟩ := hB.cells
        clear hB hk
        by_cases hg : 201 < n - t
        · have hgt : decide (201 < n - t) = true := decide_eq_true hg
          obtain ⟨b1, b2⟩ := step_bound (g := n - t) (by omega) k1 hk2 (by omega)
          have A4 := Lib.hid (A4.out (t + (n - t) / 201 * k) (by omega) (by omega))
          have hu : decide (t + (n - t) / 201 * k < n) = true := decide_eq_true (by omega)
          clear hg
          go_wp2_with fail
          refine (A4.out _ HB.out).mono ?_
          rintro e w3 ⟨rfl, hb⟩
          go_wp2_with fail
          exact HNX.out _ hb
        · have hgt : decide (201 < n - t) = false := decide_eq_false hg
          have A4 := Lib.hid (A4.out (t + k) (by omega) (by omega))
          have hu : decide (t + k < n) = true := decide_eq_true (by omega)
          clear hg
          go_wp2_with fail
          refine (A4.out _ HB.out).mono ?_
          rintro e w3 ⟨rfl, hb⟩
          go_wp2_with fail
          exact HNX.out _ hb
      · have hlt : decide (k < m) = false := decide_eq_false hk
        have H2 := Lib.hid hB
        obtain ⟨c0, c1, c2, c3, c4, c5, c6, c7⟩ := hB.cells
        clear hB hk A4 k1 k2
        go_wp2_with fail
        refine (A3.out _ H2.out).mono ?_
        rintro e w3 ⟨rfl, hb⟩
        clear c0 c1 c2 c3 c4 c5 c6 c7
        obtain ⟨c0, c1, c2, c3, c4, c5, c6, c7⟩ := hb.cells
        have H3 := Lib.hid hb
        clear hb H2
        by_cases hmx : n = 253402300799
        · subst hmx
          clear A3 A5
          go_wp2_with fail
          refine (H3.out.works).mono ?_
          rintro e w4 ⟨rfl, hb⟩
          go_wp2_with fail
          go_ret
          exact ⟨rfl, hb.below⟩
        · have hmx2 : (n == 253402300799) = false := by rw [beq_eq_false_iff_ne]; exact hmx
          have hnn : n + 1 ≤ 253402300799 := by omega
          have A4 := Lib.hid (A5.out hmx)
          clear A3 A5 hmx
          go_wp2_with fail
          refine (A4.out _ H3.out).mono ?_
          rintro e w4 ⟨rfl, hb⟩
          clear c0 c1 c2 c3 c4 c5 c6 c7
          have H4 := Lib.hid hb
          clear hb H3
          go_wp2_with fail
          refine (H4.out.works).mono ?_
          rintro e w5 ⟨rfl, hb⟩
          go_wp2_with fail
          go_ret
          exact ⟨rfl, hb.below⟩
end Go.Proofs.YtepoegcpfhjlpaaDoor.BW
