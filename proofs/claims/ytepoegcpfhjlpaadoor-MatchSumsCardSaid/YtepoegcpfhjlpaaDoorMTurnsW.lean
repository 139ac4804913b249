/- The walk of MatchTurns. -/
import Derived.Test.YtepoegcpfhjlpaaDoorMBoxN
namespace Go.Proofs.YtepoegcpfhjlpaaDoor.BW
open Go.RowKit BM Go.Shelf MC
open BK hiding ret_bool ret_i64

theorem chk_at {x : Ex} {z t u : Int} (h : chk x z [t] = 0) (hu : At x z u = true) : chk x z [u] = 0 := by
  obtain ⟨o1, o2, o3⟩ := chk_zero h
  have hr := At_range hu
  rw [chk_one o1 (zone_of h), if_pos ⟨hr.1, hr.2.1⟩]
theorem from_congr {x : Ex} {z a b : Int} (hz : -840 ≤ z ∧ z ≤ 840) (hab : a ≤ b) (h : ∀ m, a ≤ m → m < b → At x z m = false) : fromV x z a = fromV x z b := by
  cases hb : fromV x z b with
  | none =>
    have hn := (fromV_none hz).1 hb
    refine (fromV_none hz).2 fun m hm => ?_
    rcases Int.lt_or_le m b with h1 | h1
    · exact h m hm h1
    · exact hn m h1
  | some n =>
    obtain ⟨n1, n2, n3⟩ := (fromV_some hz).1 hb
    refine (fromV_some hz).2 ⟨by omega, n2, fun m hm hm2 => ?_⟩
    rcases Int.lt_or_le m b with h1 | h1
    · exact h m hm h1
    · exact n3 m h1 hm2
theorem before_congr {x : Ex} {z a b : Int} (hz : -840 ≤ z ∧ z ≤ 840) (hab : a ≤ b) (h : ∀ m, a ≤ m → m < b → At x z m = false) : beforeV x z b = beforeV x z a := by
  cases hb : beforeV x z a with
  | none =>
    have hn := (beforeV_none hz).1 hb
    refine (beforeV_none hz).2 fun m hm => ?_
    rcases Int.lt_or_le m a with h1 | h1
    · exact hn m h1
    · exact h m h1 hm
  | some n =>
    obtain ⟨n1, n2, n3⟩ := (beforeV_some hz).1 hb
    refine (beforeV_some hz).2 ⟨by omega, n2, fun m hm hm2 => ?_⟩
    rcases Int.lt_or_le m a with h1 | h1
    · exact n3 m hm h1
    · exact h m h1 hm2
theorem turns_next {x : Ex} {z t p : Int} (hc : chk x z [t] = 0) (hp : pvV x z t = some p) : p < t ∧ chk x z [p] = 0 ∧ nxV x z p = if At x z t then some t else nxV x z t := by
  obtain ⟨o1, o2, o3⟩ := chk_zero hc
  rw [pvV_ok hc] at hp
  obtain ⟨p1, p2, p3⟩ := (beforeV_some o2).1 hp
  have hcp := chk_at hc p2
  refine ⟨p1, hcp, ?_⟩
  rw [nxV_ok hcp, nxV_ok hc]
  cases hA : At x z t with
  | true => exact (fromV_some o2).2 ⟨by omega, hA, fun m m1 m2 => p3 m (by omega) m2⟩
  | false =>
    refine from_congr o2 (by omega) fun m m1 m2 => ?_
    rcases Int.lt_or_le m t with h1 | h1
    · exact p3 m (by omega) h1
    · rw [show m = t from by omega]; exact hA
theorem turns_prev {x : Ex} {z t n : Int} (hc : chk x z [t] = 0) (hn : nxV x z t = some n) : t < n ∧ chk x z [n] = 0 ∧ pvV x z n = if At x z t then some t else pvV x z t := by
  obtain ⟨o1, o2, o3⟩ := chk_zero hc
  rw [nxV_ok hc] at hn
  obtain ⟨p1, p2, p3⟩ := (fromV_some o2).1 hn
  have hcn := chk_at hc p2
  refine ⟨by omega, hcn, ?_⟩
  rw [pvV_ok hcn, pvV_ok hc]
  cases hA : At x z t with
  | true => exact (beforeV_some o2).2 ⟨by omega, hA, fun m m1 m2 => p3 m (by omega) m2⟩
  | false =>
    refine before_congr o2 (by omega) fun m m1 m2 => ?_
    rcases Int.lt_or_le t m with h1 | h1
    · exact p3 m (by omega) m2
    · rw [show m = t from by omega]; exact hA
set_option maxRecDepth 8000 in
set_option maxHeartbeats 8000000 in
theorem mturns_ok (x : Ex) (hx : U64s x) (z t : Int) (w : World) (hT : SpTab w) (hTab : Tab w) : Calls Tryd.prog 13 #[.agg (exV x), .int .i64 z, .int .i64 t] w fun e w' =>
    e = .returned (.bool true) ∧ Below w.heap.size w w' := by
  have H0 := Lib.hid (Box.first x hT hTab)
  have A1 := Lib.hid (fun W => Box.is (w := w) (W := W) hx z t rfl rfl)
  have A2 := Lib.hid (fun W => Box.prv (w := w) (W := W) hx z t rfl rfl rfl)
  have A3 := Lib.hid (fun W => Box.nxt (w := w) (W := W) hx z t rfl rfl rfl)
  have L4 := Lib.hid (fun hc p hp => turns_next (x := x) (z := z) (t := t) (p := p) hc hp)
  have L5 := Lib.hid (fun hc n hn => turns_prev (x := x) (z := z) (t := t) (n := n) hc hn)
  have A4 := Lib.hid (fun u W => Box.nxt (w := w) (W := W) hx z u rfl rfl rfl)
  have A5 := Lib.hid (fun u W => Box.prv (w := w) (W := W) hx z u rfl rfl rfl)
  have hb := Lib.hid (fun h => isV_bad (x := x) (z := z) (t := t) h)
  have ho := Lib.hid (fun h => isV_At (x := x) (z := z) (t := t) h)
  generalize hP : pvV x z t = P at *
  generalize hN : nxV x z t = N at *
  obtain ⟨p0, hp0⟩ : ∃ p0, optI P = p0 := ⟨_, rfl⟩
  obtain ⟨b0, hb0⟩ : ∃ b0, P.isSome = b0 := ⟨_, rfl⟩
  obtain ⟨n0, hn0⟩ : ∃ n0, optI N = n0 := ⟨_, rfl⟩
  obtain ⟨k0, hk0⟩ : ∃ k0, N.isSome = k0 := ⟨_, rfl⟩
  rw [hp0, hb0] at A2
  rw [hn0, hk0] at A3
  have HP0 := Lib.hid (And.intro hp0 hb0)
  have HN0 := Lib.hid (And.intro hn0 hk0)
  clear hp0 hb0 hn0 hk0
  clear hx hT hTab
  have e0 : exV x = #[.int .u64 x.s, .int .u64 x.mi, .int .u64 x.h, .int .u64 x.d, .int .u64 x.mo, .int .u64 x.w, .bool x.ad, .bool x.aw] := rfl
  rw [e0] at *
  clear e0
  by_cases hc : chk x z [t] = 0
  · rw [hc] at A1 A2 A3
    have ho := ho.out hc
    have L4 := Lib.hid (L4.out hc)
    have L5 := Lib.hid (L5.out hc)
    rw [← ho] at L4 L5
    clear ho hb hc
    generalize isV x z t = a at *
    go_enter Tryd.func13, Tryd.ntmps13
    go_wp2_with fail
    refine (A1.out _ H0.out).mono ?_
    rintro e w1 ⟨rfl, hb⟩
    obtain ⟨c0, c1, c2, c3, c4, c5, c6, c7⟩ := hb.cells
    have H1 := Lib.hid hb
    clear hb H0
    go_wp2_with fail
    refine (A2.out _ H1.out).mono ?_
    rintro e w2 ⟨rfl, hb⟩
    clear c0 c1 c2 c3 c4 c5 c6 c7
    obtain ⟨c0, c1, c2, c3, c4, c5, c6, c7⟩ := hb.cells
    have H2 := Lib.hid hb
    clear hb H1
    go_wp2_with fail
    refine (A3.out _ H2.out).mono ?_
    rintro e w3 ⟨rfl, hb⟩
    clear c0 c1 c2 c3 c4 c5 c6 c7
    obtain ⟨c0, c1, c2, c3, c4, c5, c6, c7⟩ := hb.cells
    have H3 := Lib.hid hb
    clear hb H2
    clear A1 A2 A3
    cases P with
    | none =>
      obtain rfl : 0 = p0 := HP0.out.1
      obtain rfl : false = b0 := HP0.out.2
      cases N with
      | none =>
        obtain rfl : 0 = n0 := HN0.out.1
        obtain rfl : false = k0 := HN0.out.2
        clear L4 L5
        clear A4 A5
        go_wp2_with fail
        refine (H3.out.works).mono ?_
        rintro e w4 ⟨rfl, hb⟩
        go_wp2_with fail
        go_ret
        exact ⟨rfl, hb.below⟩
      | some n =>
        obtain rfl : n = n0 := HN0.out.1
        obtain rfl : true = k0 := HN0.out.2
        obtain ⟨htn, hcn, hpn⟩ := L5.out n rfl
        have A5 := Lib.hid (A5.out n)
        rw [hcn, hpn] at A5
        have hd2 : decide (n ≤ t) = false := decide_eq_false (by omega)
        clear hcn hpn htn
        clear L4 L5
        cases a
        all_goals
          simp only [optI, Option.getD_some, Option.getD_none, Option.isSome_some, Option.isSome_none, if_true, Bool.false_eq_true, if_false] at A5
          go_wp2_with fail
          refine (A5.out _ H3.out).mono ?_
          rintro e w4 ⟨rfl, hb⟩
          clear c0 c1 c2 c3 c4 c5 c6 c7
          have H4 := Lib.hid hb
          clear hb H3
          go_wp2_with fail
          refine (H4.out.works).mono ?_
          rintro e w5 ⟨rfl, hb⟩
          go_wp2_with fail
          go_ret
          exact ⟨rfl, hb.below⟩
    | some p =>
      obtain rfl : p = p0 := HP0.out.1
      obtain rfl : true = b0 := HP0.out.2
      obtain ⟨hpt, hcp, hnp⟩ := L4.out p rfl
      have A4 := Lib.hid (A4.out p)
      rw [hcp, hnp] at A4
      have hd : decide (t ≤ p) = false := decide_eq_false (by omega)
      clear hcp hnp hpt
      cases N with
      | none =>
        obtain rfl : 0 = n0 := HN0.out.1
        obtain rfl : false = k0 := HN0.out.2
        clear L4 L5
        cases a
        all_goals
          simp only [optI, Option.getD_some, Option.getD_none, Option.isSome_some, Option.isSome_none, if_true, Bool.false_eq_true, if_false] at A4
          go_wp2_with fail
          refine (A4.out _ H3.out).mono ?_
          rintro e w4 ⟨rfl, hb⟩
          clear c0 c1 c2 c3 c4 c5 c6 c7
          have H4 := Lib.hid hb
          clear hb H3
          go_wp2_with fail
          refine (H4.out.works).mono ?_
          rintro e w5 ⟨rfl, hb⟩
          go_wp2_with fail
          go_ret
          exact ⟨rfl, hb.below⟩
      | some n =>
        obtain rfl : n = n0 := HN0.out.1
        obtain rfl : true = k0 := HN0.out.2
        obtain ⟨htn, hcn, hpn⟩ := L5.out n rfl
        have A5 := Lib.hid (A5.out n)
        rw [hcn, hpn] at A5
        have hd2 : decide (n ≤ t) = false := decide_eq_false (by omega)
        clear hcn hpn htn
        clear L4 L5
        cases a
        all_goals
          simp only [optI, Option.getD_some, Option.isSome_some, if_true, Bool.false_eq_true, if_false] at A4
          simp only [optI, Option.getD_some, Option.isSome_some, if_true, Bool.false_eq_true, if_false] at A5
          go_wp2_with fail
          refine (A4.out _ H3.out).mono ?_
          rintro e w4 ⟨rfl, hb⟩
          clear c0 c1 c2 c3 c4 c5 c6 c7
          obtain ⟨c0, c1, c2, c3, c4, c5, c6, c7⟩ := hb.cells
          have H4 := Lib.hid hb
          clear hb H3
          go_wp2_with fail
          refine (A5.out _ H4.out).mono ?_
          rintro e w5 ⟨rfl, hb⟩
          clear c0 c1 c2 c3 c4 c5 c6 c7
          have H5 := Lib.hid hb
          clear hb H4
          go_wp2_with fail
          refine (H5.out.works).mono ?_
          rintro e w6 ⟨rfl, hb⟩
          go_wp2_with fail
          go_ret
          exact ⟨rfl, hb.below⟩
  · have hne : (chk x z [t] == 0) = false := by rw [beq_eq_false_iff_ne]; exact hc
    have hb := hb.out hc
    rw [hb] at A1
    clear L4 L5 A4 A5 A2 A3 ho hb hc
    generalize chk x z [t] = c at *
    go_enter Tryd.func13, Tryd.ntmps13
    go_wp2_with fail
    refine (A1.out _ H0.out).mono ?_
    rintro e w1 ⟨rfl, hb⟩
    have H1 := Lib.hid hb
    clear hb H0
    go_wp2_with fail
    refine (H1.out.works).mono ?_
    rintro e w2 ⟨rfl, hb⟩
    go_wp2_with fail
    go_ret
    exact ⟨rfl, hb.below⟩
end Go.Proofs.YtepoegcpfhjlpaaDoor.BW
