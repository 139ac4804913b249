/- Walk of PlanNearest: the next time is one of the plan, and none lies between. -/
import Derived.Test.YtmkdjdfhkhmejaaGreatDoorPWk
namespace Go.Proofs.YtmkdjdfhkhmejaaGreatDoor.BW
open Go.RowKit BM Go.Shelf MC RK
open BK hiding ret_bool ret_i64

theorem near_between {t v k : Int} (h1 : t + 101 < v) (hk1 : 1 ≤ k) (hk2 : k ≤ 100) : 1 ≤ (v - t) / 101 ∧ 1 ≤ (v - t) / 101 * k ∧ t + (v - t) / 101 * k < v := by
  have h2 : 1 ≤ (v - t) / 101 := by omega
  have h3 : (v - t) / 101 * 101 ≤ v - t := Int.ediv_mul_le _ (by decide)
  have h4 : (v - t) / 101 * k ≤ (v - t) / 101 * 100 := Int.mul_le_mul_of_nonneg_left hk2 (by omega)
  have h5 : (v - t) / 101 * 1 ≤ (v - t) / 101 * k := Int.mul_le_mul_of_nonneg_left hk1 (by omega)
  generalize (v - t) / 101 * k = y at *
  omega
/-- What is left of the list behind a time. -/
def Left (q : Int → Bool) (Y : List Int) (at_ : Nat) (now : Int) : Prop := Y.drop at_ = (tmsP q (now + 1) 253402300799).take (6 - at_)
theorem left_cons {q : Int → Bool} {Y : List Int} {at_ : Nat} {now : Int} (h : Left q Y at_ now) (ha : at_ < Y.length) : ∃ m, Y[at_]? = some m ∧ nxP q now = some m ∧ now < m ∧ m ≤ 253402300799 ∧ Left q Y (at_ + 1) m := by
  unfold Left at h
  rw [List.drop_eq_getElem_cons ha] at h
  cases hf : frP q (now + 1) with
  | none =>
    rw [tmsP_out hf (Int.le_refl _), List.take_nil] at h; cases h
  | some m =>
    have hm := (frP_some.1 hf).1
    rw [tmsP_first hf hm.2.1] at h
    have h6 : 6 - at_ = (6 - (at_ + 1)) + 1 := by
      rcases Nat.lt_or_ge at_ 6 with h9 | h9
      · omega
      · rw [show 6 - at_ = 0 by omega] at h; simp at h; omega
    rw [h6, List.take_succ_cons] at h
    obtain ⟨e1, e2⟩ := List.cons.inj h
    exact ⟨m, List.getElem?_eq_some_iff.2 ⟨ha, e1⟩, hf, by omega, hm.2.1, e2⟩
theorem IntsAt.at_ {w : World} {b o k : Nat} {ys : List Int} {m : Int} (h : IntsAt w (some ⟨b, o, none⟩) ys) (hk : ys[k]? = some m) : w.cell? ⟨b, o + k, none⟩ = some (.int .i64 m) := by
  obtain ⟨hl, rfl⟩ := List.getElem?_eq_some_iff.1 hk
  obtain ⟨b', o', e, hc⟩ := h k hl
  injection e with e
  injection e with e1 e2
  subst e1 e2
  exact hc
set_option maxRecDepth 100000 in
set_option maxHeartbeats 8000000 in
theorem lnear_ok (p : Pl) (l : List (Int × Int)) (t : Int) (w : World) (hp : PIn w p l) (hT : SpTab w) (hTab : Tab w) : Calls Tryz.prog 6 #[.agg (plV p), .int .i64 t] w fun e w' => e = .returned (.bool true) ∧ Below w.heap.size w w' := by
  have hB1 : Below w.heap.size w (w.alloc (.cells (plV p) 29)) := (Below.refl _ w).alloc (Nat.le_refl _) _
  have e0 : plV p = #[.int .i64 p.k, .int .u64 p.x.s, .int .u64 p.x.mi, .int .u64 p.x.h, .int .u64 p.x.d, .int .u64 p.x.mo, .int .u64 p.x.w, .bool p.x.ad, .bool p.x.aw, .int .i64 p.z, .int .i64 p.e.s, .int .i64 p.e.p, .int .i64 p.e.c, .slice p.a p.n p.c] := rfl
  by_cases h64 : 64 < p.n
  · have d1 : decide (64 < p.n) = true := decide_eq_true h64
    have d1' : decide ((64 : Int) < p.n) = true := decide_eq_true (by omega)
    have CW := Lib.hid (plworks_ok _ (hT.below hB1) (tab_below hTab hB1 (World.block_lt_of_cell? w _ (hTab 0 (by decide)))))
    have HB1 := Lib.hid hB1
    rw [e0] at CW ⊢
    clear hT hTab hp h64 hB1 e0
    go_enter Tryz.func6, Tryz.ntmps6
    go_wp2_with fail
    refine (CW.out).mono ?_
    rintro e w2 ⟨rfl, hb⟩
    go_wp2_with fail
    go_ret
    exact ⟨rfl, HB1.out.trans (Below.mono (w := w.alloc _) hb HB1.out.size)⟩
  · have d1 : decide (64 < p.n) = false := decide_eq_false h64
    have d1' : decide ((64 : Int) < p.n) = false := decide_eq_false (by omega)
    have HI := Lib.hid (show PBx w p l (w.alloc (.cells (plV p) 29)) from ⟨Blk.new w _ _, (hp.arg (by omega) hT hTab).below hB1, hB1⟩)
    have CN := Lib.hid (fun W (h : PBx w p l W) => plnext_ok p l t W h.arg)
    have CNX := Lib.hid (fun u W (h : PBx w p l W) => plnext_ok p l u W h.arg)
    have CI := Lib.hid (fun u W (h : PBx w p l W) => plis_ok p l u W h.arg)
    have CL := Lib.hid (fun W (h : PBx w p l W) => pllist_ok p l t 253402300799 6 (by decide) W h.arg)
    have CW := Lib.hid (fun W (h : PBx w p l W) => plworks_ok W h.arg.sp h.arg.tab)
    have HFE := Lib.hid (fun (h : plE p l = 0) u (hu : 0 ≤ u ∧ u ≤ 253402300799) => fin_one h hu)
    rw [e0] at CN CNX CI CL
    rw [e0]
    clear hp h64 hT hTab hB1 e0
    cases hr : nxQ p l t with
    | none =>
      rw [hr] at CN
      simp only [optI, Option.getD_none, Option.isSome_none] at CN
      obtain ⟨E, hE⟩ : ∃ E, finE p l [t] = E := ⟨_, rfl⟩
      rw [hE] at CN
      obtain ⟨y, hy⟩ : ∃ y, (E == 0) = y := ⟨_, rfl⟩
      have hy' : (E != 0) = !y := by rw [bne, hy]
      clear hr hE CNX CI CL HFE
      cases y
      all_goals
        go_enter Tryz.func6, Tryz.ntmps6
        go_wp2_with fail
        refine (CN.out _ HI.out).mono ?_
        rintro e w2 ⟨rfl, hb⟩
        have HI := Lib.hid (HI.out.next hb)
        clear hb
        go_wp2_with fail
        refine (CW.out _ HI.out).mono ?_
        rintro e w3 ⟨rfl, hb⟩
        have HI := Lib.hid (HI.out.next hb)
        clear hb
        go_wp2_with fail
        go_ret
        exact ⟨rfl, HI.out.below⟩
    | some v =>
      have hE : finE p l [t] = 0 := by
        by_cases h : finE p l [t] = 0
        · exact h
        · rw [nxQ_bad h] at hr; cases hr
      have ht : 0 ≤ t ∧ t ≤ 253402300799 := (finE_ok hE).2.2 t (by simp)
      have hpe := finE_plE hE
      have hnx : nxP (isP p l) t = some v := by rw [← nxQ_ok hE]; exact hr
      obtain ⟨⟨v1, v2, v3⟩, v4⟩ := frP_some.1 hnx
      rw [hr, hE] at CN
      simp only [optI, Option.getD_some, Option.isSome_some] at CN
      have CV := Lib.hid (CI.out v)
      rw [HFE.out hpe v ⟨by omega, v2⟩, v3, decide_eq_true rfl, Bool.true_and] at CV
      have CA := Lib.hid (fun u (hu : t < u ∧ u < v) W (h : PBx w p l W) => (by
        have h9 := CI.out u W h
        rwa [HFE.out hpe u ⟨by omega, by omega⟩, v4 u (by omega) hu.2, decide_eq_true rfl, Bool.true_and] at h9 : Calls Tryz.prog 15 #[.agg #[.int .i64 p.k, .int .u64 p.x.s, .int .u64 p.x.mi, .int .u64 p.x.h, .int .u64 p.x.d, .int .u64 p.x.mo, .int .u64 p.x.w, .bool p.x.ad, .bool p.x.aw, .int .i64 p.z, .int .i64 p.e.s, .int .i64 p.e.p, .int .i64 p.e.c, .slice p.a p.n p.c], .int .i64 u] W fun r w' => r = .returned (.tuple #[.bool false, .int .i64 0]) ∧ Below W.heap.size W w'))
      have CT := Lib.hid (CI.out t)
      rw [hE, decide_eq_true rfl, Bool.true_and] at CT
      have CX := Lib.hid (fun u (hu : 0 ≤ u ∧ u ≤ 253402300799) m (hm : nxP (isP p l) u = some m) W (h : PBx w p l W) => (by
        have h9 := CNX.out u W h
        rw [nxQ_ok (HFE.out hpe u hu), hm, HFE.out hpe u hu] at h9
        exact h9 : Calls Tryz.prog 17 #[.agg #[.int .i64 p.k, .int .u64 p.x.s, .int .u64 p.x.mi, .int .u64 p.x.h, .int .u64 p.x.d, .int .u64 p.x.mo, .int .u64 p.x.w, .bool p.x.ad, .bool p.x.aw, .int .i64 p.z, .int .i64 p.e.s, .int .i64 p.e.p, .int .i64 p.e.c, .slice p.a p.n p.c], .int .i64 u] W fun r w' => r = .returned (.tuple #[.int .i64 m, .bool true, .int .i64 0]) ∧ Below W.heap.size W w'))
      have hE2 : finE p l [t, 253402300799] = 0 := by rw [fin_of hpe]; exact timesR_two ht (by decide)
      have hls : lsQ p l t 253402300799 6 = (tmsP (isP p l) t 253402300799).take 6 := by unfold lsQ; rw [if_pos hE2]; rfl
      rw [hE2, hls] at CL
      have hrest : tmsP (isP p l) (t + 1) 253402300799 = v :: tmsP (isP p l) (v + 1) 253402300799 := tmsP_first hnx v2
      obtain ⟨Y, hY⟩ : ∃ Y, (tmsP (isP p l) t 253402300799).take 6 = Y := ⟨_, rfl⟩
      rw [hY] at CL
      have HOWN : Hid (isP p l t = true → Y[0]? = some t ∧ Left (isP p l) Y 1 t ∧ 0 < Y.length) := Lib.hid (fun ho => by
        have e : tmsP (isP p l) t 253402300799 = t :: tmsP (isP p l) (t + 1) 253402300799 := tmsP_cons ho ht.2
        rw [← hY, e]
        exact ⟨rfl, rfl, by simp⟩)
      have HNOT : Hid (isP p l t = false → Left (isP p l) Y 0 t ∧ 0 < Y.length) := Lib.hid (fun ho => by
        have e : tmsP (isP p l) t 253402300799 = tmsP (isP p l) (t + 1) 253402300799 := tmsP_skip (fun u u1 u2 _ => by rw [show u = t by omega]; exact ho) (by omega)
        rw [← hY, e]
        exact ⟨rfl, by rw [hrest]; simp⟩)
      have HL6 : Hid (Y.length ≤ 6) := Lib.hid (by rw [← hY, List.length_take]; omega)
      obtain ⟨D, hD⟩ : ∃ D, v - t = D := ⟨_, rfl⟩
      have hD1 : 1 ≤ D := by omega
      have hD9 : D ≤ 253402300799 := by omega
      have dv1 : decide (v ≤ t) = false := decide_eq_false (by omega)
      have dv2 : decide (253402300799 < v) = false := decide_eq_false (by omega)
      have HVT := Lib.hid (And.intro v1 v2)
      have HT := Lib.hid ht
      have ht0 := ht.1
      have hvm := v2
      have hDe : v = t + D := by omega
      have HDE := Lib.hid hDe
      clear hr hE hpe hnx v1 v3 v4 CI CNX hE2 hls hrest hY HFE ht hDe
      have HQ : Hid (isP p l t = isP p l t) := Lib.hid rfl
      generalize hown : isP p l t = own at *
      clear hown HQ
      go_enter Tryz.func6, Tryz.ntmps6
      go_wp2_with fail
      refine (CN.out _ HI.out).mono ?_
      rintro e w2 ⟨rfl, hb⟩
      have HI := Lib.hid (HI.out.next hb)
      obtain ⟨c0, c1, c2, c3, c4, c5, c6, c7, c8, c9, c10, c11, c12, c13⟩ := HI.out.cells
      clear hb CN
      go_wp2_with fail
      refine (CV.out _ HI.out).mono ?_
      rintro e w3 ⟨rfl, hb⟩
      have HI := Lib.hid (HI.out.next hb)
      clear hb CV c0 c1 c2 c3 c4 c5 c6 c7 c8 c9 c10 c11 c12 c13
      go_wp2_with fail
      go_loopw [10] (fun s10 wr => ∃ k : Nat, 1 ≤ k ∧ k ≤ 101 ∧ s10 = .int .i64 k ∧ PBx w p l wr) (fun s10 _ => 101 - intM s10)
      case atStart => exact ⟨1, by omega, by omega, rfl, HI.out⟩
      case round =>
        clear HI
        obtain ⟨k, hk1, hk2, rfl, hi⟩ := hrel
        have HI := Lib.hid hi
        obtain ⟨c0, c1, c2, c3, c4, c5, c6, c7, c8, c9, c10, c11, c12, c13⟩ := hi.cells
        clear hi
        by_cases hbig : 101 < D
        · have db : decide (101 < D) = true := decide_eq_true hbig
          have hm : min D 101 = 101 := by omega
          by_cases hkk : k < 101
          · have dk : decide ((k : Int) < 101) = true := decide_eq_true (by omega)
            have dk' : decide (k < 101) = true := decide_eq_true hkk
            obtain ⟨q1, q2, q3⟩ := near_between (t := t) (v := v) (k := (k : Int)) (by omega) (by omega) (by omega)
            rw [hD] at q1 q2 q3
            obtain ⟨e9, he9⟩ : ∃ e, D / 101 = e := ⟨_, rfl⟩
            rw [he9] at q1 q2 q3
            obtain ⟨y9, hy9⟩ : ∃ y, e9 * (k : Int) = y := ⟨_, rfl⟩
            rw [hy9] at q2 q3
            have dl : decide (t + y9 < v) = true := decide_eq_true q3
            have C := Lib.hid (CA.out (t + y9) ⟨by omega, q3⟩ wr HI.out)
            go_wp2_with fail
            refine (C.out).mono ?_
            rintro e w9 ⟨rfl, hb⟩
            have HI := Lib.hid (HI.out.next hb)
            clear hb
            go_wp2_with fail
            refine ⟨⟨k + 1, by omega, by omega, by go_num, HI.out⟩, ?_⟩
            simp [intM]; omega
          · have dk : decide ((k : Int) < 101) = false := decide_eq_false (by omega)
            have dk' : decide (k < 101) = false := decide_eq_false hkk
            clear hkk hbig hk1 hk2
            go_wp2_with fail
            refine (CL.out _ HI.out).mono ?_
            rintro e w4 ⟨vv, rfl, ho, hb⟩
            have HI := Lib.hid (HI.out.next hb)
            obtain ⟨a1, cap1, rfl, hi1⟩ := ho.shape
            have HI1 := Lib.hid hi1
            clear hb ho hi1 c0 c1 c2 c3 c4 c5 c6 c7 c8 c9 c10 c11 c12 c13
            obtain ⟨c0, c1, c2, c3, c4, c5, c6, c7, c8, c9, c10, c11, c12, c13⟩ := HI.out.cells
            go_wp2_with fail
            refine (CT.out _ HI.out).mono ?_
            rintro e w5 ⟨rfl, hb⟩
            have HI := Lib.hid (HI.out.next hb)
            have HI1 := Lib.hid (IntsAt.below HI1.out hb)
            clear hb c0 c1 c2 c3 c4 c5 c6 c7 c8 c9 c10 c11 c12 c13
            obtain ⟨c0, c1, c2, c3, c4, c5, c6, c7, c8, c9, c10, c11, c12, c13⟩ := HI.out.cells
            obtain ⟨N, hN⟩ : ∃ N, N = Y.length := ⟨_, rfl⟩
            rw [← hN]
            have HNY := Lib.hid hN
            have hN6 : N ≤ 6 := by have := HL6.out; omega
            clear hN
            cases own
            · obtain ⟨hl0, hpos⟩ := HNOT.out rfl
              have hN1 : 1 ≤ N := by have := HNY.out; omega
              have dN : ((N : Int) == 0) = false := by rw [beq_eq_false_iff_ne]; omega
              have dN' : ¬ ((N : Int) = 0) := by omega
              obtain ⟨b1, o1, rfl, -⟩ := HI1.out 0 hpos
              have HL0 := Lib.hid hl0
              clear hl0 hpos
              go_wp2_with fail
              go_loopw [18, 19] (fun s18 s19 wr => ∃ (at_ : Nat) (now : Int), at_ ≤ N ∧ s18 = .int .i64 at_ ∧ s19 = .int .i64 now ∧ (0 ≤ now ∧ now ≤ 253402300799) ∧ (PBx w p l wr ∧ IntsAt wr (some ⟨b1, o1, none⟩) Y) ∧ Left (isP p l) Y at_ now) (fun s18 _ _ => N - intM s18)
              case atStart => exact ⟨0, t, by omega, rfl, rfl, HT.out, ⟨HI.out, HI1.out⟩, HL0.out⟩
              case round =>
                clear HI HI1 HL0 c0 c1 c2 c3 c4 c5 c6 c7 c8 c9 c10 c11 c12 c13
                obtain ⟨at_, now, hat, rfl, rfl, hnow, ⟨hi, hints⟩, hleft⟩ := hrel
                have HI := Lib.hid hi
                have HI1 := Lib.hid hints
                have HLF := Lib.hid hleft
                obtain ⟨c0, c1, c2, c3, c4, c5, c6, c7, c8, c9, c10, c11, c12, c13⟩ := hi.cells
                clear hi hints hleft
                rcases Nat.lt_or_ge at_ N with hlt | hge
                · obtain ⟨m, hg, hnx, hm1, hm2, hl2⟩ := left_cons HLF.out (by have := HNY.out; omega)
                  have C := Lib.hid (CX.out now hnow m hnx wr HI.out)
                  have HG := Lib.hid hg
                  have HL2 := Lib.hid hl2
                  clear hg hnx hl2
                  go_wp2_with fail
                  refine (C.out).mono ?_
                  rintro e w7 ⟨rfl, hb⟩
                  have HI := Lib.hid (HI.out.next hb)
                  have HI1 := Lib.hid (IntsAt.below HI1.out hb)
                  have hc1 := HI1.out.at_ HG.out
                  clear hb c0 c1 c2 c3 c4 c5 c6 c7 c8 c9 c10 c11 c12 c13
                  go_wp2_with fail
                  refine ⟨⟨at_ + 1, m, by omega, by go_num, rfl, by omega, ⟨HI.out, HI1.out⟩, HL2.out⟩, ?_⟩
                  simp [intM]; omega
                · have hEQ : at_ = N := by omega
                  subst hEQ
                  go_wp2_with fail
                  refine (CW.out _ HI.out).mono ?_
                  rintro e w7 ⟨rfl, hb⟩
                  have HI := Lib.hid (HI.out.next hb)
                  clear hb
                  go_wp2_with fail
                  go_ret
                  exact ⟨rfl, HI.out.below⟩
            · obtain ⟨hy0, hl0, hpos⟩ := HOWN.out rfl
              have hN1 : 1 ≤ N := by have := HNY.out; omega
              have dN : ((N : Int) == 0) = false := by rw [beq_eq_false_iff_ne]; omega
              have dN' : ¬ ((N : Int) = 0) := by omega
              obtain ⟨b1, o1, rfl, -⟩ := HI1.out 0 hpos
              have hc0 : w5.cell? ⟨b1, o1, none⟩ = some (.int .i64 t) := HI1.out.at_ hy0
              have HL0 := Lib.hid hl0
              clear hl0 hpos hy0
              go_wp2_with fail
              go_loopw [18, 19] (fun s18 s19 wr => ∃ (at_ : Nat) (now : Int), at_ ≤ N ∧ s18 = .int .i64 at_ ∧ s19 = .int .i64 now ∧ (0 ≤ now ∧ now ≤ 253402300799) ∧ (PBx w p l wr ∧ IntsAt wr (some ⟨b1, o1, none⟩) Y) ∧ Left (isP p l) Y at_ now) (fun s18 _ _ => N - intM s18)
              case atStart => exact ⟨1, t, by omega, rfl, rfl, HT.out, ⟨HI.out, HI1.out⟩, HL0.out⟩
              case round =>
                clear HI HI1 HL0 c0 c1 c2 c3 c4 c5 c6 c7 c8 c9 c10 c11 c12 c13
                obtain ⟨at_, now, hat, rfl, rfl, hnow, ⟨hi, hints⟩, hleft⟩ := hrel
                have HI := Lib.hid hi
                have HI1 := Lib.hid hints
                have HLF := Lib.hid hleft
                obtain ⟨c0, c1, c2, c3, c4, c5, c6, c7, c8, c9, c10, c11, c12, c13⟩ := hi.cells
                clear hi hints hleft
                rcases Nat.lt_or_ge at_ N with hlt | hge
                · obtain ⟨m, hg, hnx, hm1, hm2, hl2⟩ := left_cons HLF.out (by have := HNY.out; omega)
                  have C := Lib.hid (CX.out now hnow m hnx wr HI.out)
                  have HG := Lib.hid hg
                  have HL2 := Lib.hid hl2
                  clear hg hnx hl2
                  go_wp2_with fail
                  refine (C.out).mono ?_
                  rintro e w7 ⟨rfl, hb⟩
                  have HI := Lib.hid (HI.out.next hb)
                  have HI1 := Lib.hid (IntsAt.below HI1.out hb)
                  have hc1 := HI1.out.at_ HG.out
                  clear hb c0 c1 c2 c3 c4 c5 c6 c7 c8 c9 c10 c11 c12 c13
                  go_wp2_with fail
                  refine ⟨⟨at_ + 1, m, by omega, by go_num, rfl, by omega, ⟨HI.out, HI1.out⟩, HL2.out⟩, ?_⟩
                  simp [intM]; omega
                · have hEQ : at_ = N := by omega
                  subst hEQ
                  go_wp2_with fail
                  refine (CW.out _ HI.out).mono ?_
                  rintro e w7 ⟨rfl, hb⟩
                  have HI := Lib.hid (HI.out.next hb)
                  clear hb
                  go_wp2_with fail
                  go_ret
                  exact ⟨rfl, HI.out.below⟩
        · have db : decide (101 < D) = false := decide_eq_false hbig
          have hm : min D 101 = D := by omega
          by_cases hkk : (k : Int) < D
          · have dk : decide ((k : Int) < D) = true := decide_eq_true hkk
            have dl : decide (t + (k : Int) < v) = true := decide_eq_true (by have := HDE.out; omega)
            have C := Lib.hid (CA.out (t + (k : Int)) ⟨by omega, by have := HDE.out; omega⟩ wr HI.out)
            have hkv : t + (k : Int) ≤ 253402300799 := by have := HDE.out; omega
            go_wp2_with fail
            refine (C.out).mono ?_
            rintro e w9 ⟨rfl, hb⟩
            have HI := Lib.hid (HI.out.next hb)
            clear hb
            go_wp2_with fail
            refine ⟨⟨k + 1, by omega, by omega, by go_num, HI.out⟩, ?_⟩
            simp [intM]; omega
          · have dk : decide ((k : Int) < D) = false := decide_eq_false hkk
            clear hkk hbig hk1 hk2
            go_wp2_with fail
            refine (CL.out _ HI.out).mono ?_
            rintro e w4 ⟨vv, rfl, ho, hb⟩
            have HI := Lib.hid (HI.out.next hb)
            obtain ⟨a1, cap1, rfl, hi1⟩ := ho.shape
            have HI1 := Lib.hid hi1
            clear hb ho hi1 c0 c1 c2 c3 c4 c5 c6 c7 c8 c9 c10 c11 c12 c13
            obtain ⟨c0, c1, c2, c3, c4, c5, c6, c7, c8, c9, c10, c11, c12, c13⟩ := HI.out.cells
            go_wp2_with fail
            refine (CT.out _ HI.out).mono ?_
            rintro e w5 ⟨rfl, hb⟩
            have HI := Lib.hid (HI.out.next hb)
            have HI1 := Lib.hid (IntsAt.below HI1.out hb)
            clear hb c0 c1 c2 c3 c4 c5 c6 c7 c8 c9 c10 c11 c12 c13
            obtain ⟨c0, c1, c2, c3, c4, c5, c6, c7, c8, c9, c10, c11, c12, c13⟩ := HI.out.cells
            obtain ⟨N, hN⟩ : ∃ N, N = Y.length := ⟨_, rfl⟩
            rw [← hN]
            have HNY := Lib.hid hN
            have hN6 : N ≤ 6 := by have := HL6.out; omega
            clear hN
            cases own
            · obtain ⟨hl0, hpos⟩ := HNOT.out rfl
              have hN1 : 1 ≤ N := by have := HNY.out; omega
              have dN : ((N : Int) == 0) = false := by rw [beq_eq_false_iff_ne]; omega
              have dN' : ¬ ((N : Int) = 0) := by omega
              obtain ⟨b1, o1, rfl, -⟩ := HI1.out 0 hpos
              have HL0 := Lib.hid hl0
              clear hl0 hpos
              go_wp2_with fail
              go_loopw [18, 19] (fun s18 s19 wr => ∃ (at_ : Nat) (now : Int), at_ ≤ N ∧ s18 = .int .i64 at_ ∧ s19 = .int .i64 now ∧ (0 ≤ now ∧ now ≤ 253402300799) ∧ (PBx w p l wr ∧ IntsAt wr (some ⟨b1, o1, none⟩) Y) ∧ Left (isP p l) Y at_ now) (fun s18 _ _ => N - intM s18)
              case atStart => exact ⟨0, t, by omega, rfl, rfl, HT.out, ⟨HI.out, HI1.out⟩, HL0.out⟩
              case round =>
                clear HI HI1 HL0 c0 c1 c2 c3 c4 c5 c6 c7 c8 c9 c10 c11 c12 c13
                obtain ⟨at_, now, hat, rfl, rfl, hnow, ⟨hi, hints⟩, hleft⟩ := hrel
                have HI := Lib.hid hi
                have HI1 := Lib.hid hints
                have HLF := Lib.hid hleft
                obtain ⟨c0, c1, c2, c3, c4, c5, c6, c7, c8, c9, c10, c11, c12, c13⟩ := hi.cells
                clear hi hints hleft
                rcases Nat.lt_or_ge at_ N with hlt | hge
                · obtain ⟨m, hg, hnx, hm1, hm2, hl2⟩ := left_cons HLF.out (by have := HNY.out; omega)
                  have C := Lib.hid (CX.out now hnow m hnx wr HI.out)
                  have HG := Lib.hid hg
                  have HL2 := Lib.hid hl2
                  clear hg hnx hl2
                  go_wp2_with fail
                  refine (C.out).mono ?_
                  rintro e w7 ⟨rfl, hb⟩
                  have HI := Lib.hid (HI.out.next hb)
                  have HI1 := Lib.hid (IntsAt.below HI1.out hb)
                  have hc1 := HI1.out.at_ HG.out
                  clear hb c0 c1 c2 c3 c4 c5 c6 c7 c8 c9 c10 c11 c12 c13
                  go_wp2_with fail
                  refine ⟨⟨at_ + 1, m, by omega, by go_num, rfl, by omega, ⟨HI.out, HI1.out⟩, HL2.out⟩, ?_⟩
                  simp [intM]; omega
                · have hEQ : at_ = N := by omega
                  subst hEQ
                  go_wp2_with fail
                  refine (CW.out _ HI.out).mono ?_
                  rintro e w7 ⟨rfl, hb⟩
                  have HI := Lib.hid (HI.out.next hb)
                  clear hb
                  go_wp2_with fail
                  go_ret
                  exact ⟨rfl, HI.out.below⟩
            · obtain ⟨hy0, hl0, hpos⟩ := HOWN.out rfl
              have hN1 : 1 ≤ N := by have := HNY.out; omega
              have dN : ((N : Int) == 0) = false := by rw [beq_eq_false_iff_ne]; omega
              have dN' : ¬ ((N : Int) = 0) := by omega
              obtain ⟨b1, o1, rfl, -⟩ := HI1.out 0 hpos
              have hc0 : w5.cell? ⟨b1, o1, none⟩ = some (.int .i64 t) := HI1.out.at_ hy0
              have HL0 := Lib.hid hl0
              clear hl0 hpos hy0
              go_wp2_with fail
              go_loopw [18, 19] (fun s18 s19 wr => ∃ (at_ : Nat) (now : Int), at_ ≤ N ∧ s18 = .int .i64 at_ ∧ s19 = .int .i64 now ∧ (0 ≤ now ∧ now ≤ 253402300799) ∧ (PBx w p l wr ∧ IntsAt wr (some ⟨b1, o1, none⟩) Y) ∧ Left (isP p l) Y at_ now) (fun s18 _ _ => N - intM s18)
              case atStart => exact ⟨1, t, by omega, rfl, rfl, HT.out, ⟨HI.out, HI1.out⟩, HL0.out⟩
              case round =>
                clear HI HI1 HL0 c0 c1 c2 c3 c4 c5 c6 c7 c8 c9 c10 c11 c12 c13
                obtain ⟨at_, now, hat, rfl, rfl, hnow, ⟨hi, hints⟩, hleft⟩ := hrel
                have HI := Lib.hid hi
                have HI1 := Lib.hid hints
                have HLF := Lib.hid hleft
                obtain ⟨c0, c1, c2, c3, c4, c5, c6, c7, c8, c9, c10, c11, c12, c13⟩ := hi.cells
                clear hi hints hleft
                rcases Nat.lt_or_ge at_ N with hlt | hge
                · obtain ⟨m, hg, hnx, hm1, hm2, hl2⟩ := left_cons HLF.out (by have := HNY.out; omega)
                  have C := Lib.hid (CX.out now hnow m hnx wr HI.out)
                  have HG := Lib.hid hg
                  have HL2 := Lib.hid hl2
                  clear hg hnx hl2
                  go_wp2_with fail
                  refine (C.out).mono ?_
                  rintro e w7 ⟨rfl, hb⟩
                  have HI := Lib.hid (HI.out.next hb)
                  have HI1 := Lib.hid (IntsAt.below HI1.out hb)
                  have hc1 := HI1.out.at_ HG.out
                  clear hb c0 c1 c2 c3 c4 c5 c6 c7 c8 c9 c10 c11 c12 c13
                  go_wp2_with fail
                  refine ⟨⟨at_ + 1, m, by omega, by go_num, rfl, by omega, ⟨HI.out, HI1.out⟩, HL2.out⟩, ?_⟩
                  simp [intM]; omega
                · have hEQ : at_ = N := by omega
                  subst hEQ
                  go_wp2_with fail
                  refine (CW.out _ HI.out).mono ?_
                  rintro e w7 ⟨rfl, hb⟩
                  have HI := Lib.hid (HI.out.next hb)
                  clear hb
                  go_wp2_with fail
                  go_ret
                  exact ⟨rfl, HI.out.below⟩
end Go.Proofs.YtmkdjdfhkhmejaaGreatDoor.BW
