/- Contract of the reference's List. -/
import Derived.Test.YtepoegcpfhjlpaaDoorRListM
namespace Go.Proofs.YtepoegcpfhjlpaaDoor.BW
open Go.RowKit BM Go.Shelf MC RK
open BK hiding ret_bool ret_i64

def kS : Value → Nat
  | .slice _ k _ => k
  | _ => 0
theorem ret_ve {u v : Value} {c d : Int} (h : u = v) (h' : c = d) : Ending.returned (.tuple #[u, .int .i64 c]) = .returned (.tuple #[v, .int .i64 d]) := by rw [h, h']
set_option maxRecDepth 8000 in
set_option maxHeartbeats 4000000 in
theorem rlst_ok (x : Ex) (hx : U64s x) (z a b n : Int) (_ : n ≤ 9223372036854775807) (w : World) : Calls Tryd.prog 16 #[.agg (exV x), .int .i64 z, .int .i64 a, .int .i64 b, .int .i64 n] w fun e w' =>
    ∃ v, e = .returned (.tuple #[v, .int .i64 (chk x z [a, b])]) ∧ OwnsT w.heap.size v (lsV x z a b n) w' ∧ Below w.heap.size w w' := by
  obtain ⟨i0, hi0, hz0, hz1, hz2⟩ := info_parts info_i64
  have HLV : Hid (lsV x z a b n = if chk x z [a, b] = 0 ∧ 1 ≤ n then (timesL x z a b).take (min n 100000).toNat else []) := Lib.hid rfl
  generalize lsV x z a b n = R at *
  have HX := Lib.hid hx
  obtain ⟨W1, hW1⟩ : ∃ W1, W1 = (w.alloc (.cells (exV x) 24)).alloc (.cells #[.int .i64 a, .int .i64 b] 2) := ⟨_, rfl⟩
  have hbx : Blk W1 w.heap.size 24 (exV x) := by rw [hW1]; exact (Blk.new w _ _).alloc _
  have hts : Blk W1 (w.heap.size + 1) 2 #[.int .i64 a, .int .i64 b] := by rw [hW1]; exact Blk.newAt (by simp)
  have hB1 : Below w.heap.size w W1 := by rw [hW1]; exact ((Below.refl _ w).alloc (Nat.le_refl _) _).alloc (by simp) _
  have CK := Lib.hid (rpcheck_ok x hx z [a, b] (w.heap.size + 1) 2 2 rfl (by decide) W1 (fun k hk => by
    have : k = 0 ∨ k = 1 := by have : k < 2 := hk; omega
    rcases this with rfl | rfl
    · exact hts.cell 0
    · exact hts.cell 1))
  have HW1 := Lib.hid hW1
  rw [hW1] at CK
  clear hW1 hx
  have e0 : exV x = #[.int .u64 x.s, .int .u64 x.mi, .int .u64 x.h, .int .u64 x.d, .int .u64 x.mo, .int .u64 x.w, .bool x.ad, .bool x.aw] := rfl
  rw [e0]
  clear e0
  unfold exV at CK
  go_enter Tryd.func16, Tryd.ntmps16
  go_wp2_with fail
  refine (CK.out).mono ?_
  rintro e w2 ⟨rfl, hb⟩
  have hb : Below W1.heap.size W1 w2 := by rw [HW1.out]; exact hb
  have hx2 := hbx.below hb hbx.lt
  have hB2 := hB1.trans (hb.mono hB1.size)
  have hlt2 : w.heap.size + 1 < w2.heap.size := Nat.lt_of_lt_of_le hts.lt hb.size
  have HR : Hid (LrI x w w2.heap.size (.slice none 0 0) [] w2) := Lib.hid ⟨hx2, ⟨rfl, .inl ⟨rfl, rfl⟩⟩, hB2, Nat.le_refl _⟩
  have HNIL : Hid (OwnsT w.heap.size (.slice none 0 0) [] w2) := Lib.hid ⟨rfl, .inl ⟨rfl, rfl⟩⟩
  clear hb hbx hB1 CK HW1 hts hx2 hB2
  by_cases hcz : chk x z [a, b] = 0
  · obtain ⟨o1, hz, o3⟩ := chk_zero hcz
    have ha := o3 a (by simp)
    have hbb := o3 b (by simp)
    have HCZ := Lib.hid hcz
    have CF := Lib.hid (fun c hc0 hc1 w => rfrom_ok x HX.out (ok_of_ck o1) z c hz (And.intro hc0 hc1) w)
    unfold exV at CF
    obtain ⟨M, hM⟩ : ∃ M : Nat, M = (min n 100000).toNat := ⟨_, rfl⟩
    have HT : Hid (R = (timesL x z a b).take M) := Lib.hid (by
      rw [HLV.out]
      by_cases hn : 1 ≤ n
      · rw [if_pos ⟨hcz, hn⟩, hM]
      · rw [if_neg (fun h => hn h.2), hM, show (min n 100000).toNat = 0 from by omega]; rfl)
    have HM := Lib.hid (show (M : Int) = max 0 (min n 100000) by omega)
    have hM9 : M ≤ 100000 := by omega
    obtain ⟨c0, c1, c2, c3, c4, c5, c6, c7⟩ := HR.out.cells
    have HZ := Lib.hid hz
    clear o1 o3 HLV hM hz HNIL
    obtain ⟨m, hm⟩ : ∃ m, min n 100000 = m := ⟨_, rfl⟩
    rw [hm] at HM
    have CFA := Lib.hid (fun w => CF.out a ha.1 (by omega) w)
    obtain ⟨v0, hv0⟩ : ∃ v0, negI (fromV x z a) = v0 := ⟨_, rfl⟩
    rw [hv0] at CFA
    have HV0 := Lib.hid hv0
    clear hv0
    go_wp2_with fail
    refine (CFA.out _).mono ?_
    rintro e w3 ⟨rfl, hb⟩
    have HR3 := Lib.hid (HR.out.next hb)
    clear c0 c1 c2 c3 c4 c5 c6 c7 hb HR
    go_wp2_with fail
    go_loopw [13, 14] (fun s13 s14 wr => ∃ (ys : List Int) (c v : Int), 0 ≤ c ∧ c ≤ 253402300800 ∧ s14 = .int .i64 v ∧ negI (fromV x z c) = v ∧ LrI x w w2.heap.size s13 ys wr ∧ ys ++ timesL x z c b = timesL x z a b ∧ ys.length ≤ M) (fun s13 _ _ => M - kS s13)
    case atStart => exact ⟨[], a, v0, ha.1, by omega, rfl, HV0.out, HR3.out, rfl, Nat.zero_le _⟩
    case round =>
      clear HR3 CFA HV0
      obtain ⟨ys, c, v, hc0, hc1, rfl, hv, hI, hys, hlen⟩ := hrel
      have HI := Lib.hid hI
      have HYS := Lib.hid hys
      have hrow : wr.ownsRow w2.heap.size 2 1 u13 ys.length (ys.map tcell) := hI.own
      have hrv : (u13 = .slice none 0 0 ∧ ys.length = 0) ∨ ∃ g cap, u13 = .slice (some ⟨g, 0, none⟩) ys.length cap := hrow.2.imp id (fun ⟨g, cap, _, h, _⟩ => ⟨g, cap, h⟩)
      have HROW := Lib.hid hrow
      have hwz := hI.size
      clear hI hys hrow
      obtain ⟨r, hr⟩ : ∃ r, fromV x z c = r := ⟨_, rfl⟩
      rw [hr] at hv
      have HFR := Lib.hid hr
      clear hr
      cases r with
      | none =>
        have HE : Hid (R = ys) := Lib.hid (by rw [HT.out]; exact take_done (by rw [← HYS.out, times_end HZ.out (fun t ht => by rw [HFR.out] at ht; cases ht)]) hlen)
        obtain rfl : -1 = v := hv
        go_wp2_with fail
        all_goals
          go_ret2
          exact ⟨u13, ret_ve rfl HCZ.out.symm, by rw [HE.out]; exact ownsRow_mono HI.out.own (by omega), HI.out.below⟩
      | some t =>
        obtain ⟨t1, t2, t3⟩ := from_range HZ.out HFR.out
        obtain rfl : t = v := hv
        have d1 : decide (0 ≤ t) = true := decide_eq_true t2
        by_cases htb : t ≤ b
        · have d2 : decide (t ≤ b) = true := decide_eq_true htb
          have hcons := times_cons HZ.out HFR.out htb
          by_cases hfull : ys.length < M
          · have d3 : decide ((ys.length : Int) < m) = true := decide_eq_true (by have := HM.out; omega)
            have HYS2 : Hid ((ys ++ [t]) ++ timesL x z (t + 1) b = timesL x z a b) := Lib.hid (by rw [← HYS.out, hcons, List.append_assoc]; rfl)
            have hml1 : ys.length + 1 ≤ maxLen := by unfold maxLen; omega
            have hml2 : (ys.length + 1) * 8 ≤ 140737488355328 := by omega
            have hml3 : w2.heap.size ≤ (wr.alloc (.cells #[.int .i64 t] 2)).heap.size := by simp; omega
            have hlt3 : w.heap.size < w2.heap.size := by omega
            have CF1 := Lib.hid (fun w => CF.out (t + 1) (by omega) (by omega) w)
            obtain ⟨v1, hv1⟩ : ∃ v1, negI (fromV x z (t + 1)) = v1 := ⟨_, rfl⟩
            rw [hv1] at CF1
            have HV1 := Lib.hid hv1
            clear hv1
            have HM2 := Lib.hid hfull
            clear hcons htb hfull hc0 hc1 hlen
            rcases hrv with ⟨rfl, hl0⟩ | ⟨g, cap, rfl⟩
            · have d3 : decide ((0 : Int) < m) = true := decide_eq_true (by have := HM.out; have := HM2.out; omega)
              go_wp2_with (at_builtin; refine wpList_append_own _ rfl _ _ 25 rfl w2.heap.size 2 i0 (.int .i64 0) 1 8 Tryd.underlying25 hi0 hz0 hz1 hz2 rfl (by decide) _ _ _ rfl (own_alloc HROW.out _) ⟨wr.heap.size, 0, none⟩ 1 1 [.int .i64 t] rfl rfl (cell_one_new _ _ _) (by simp [Value.oneCell']) hml1 hml2 hml3 ?_; intro v' w4 hown' hgrow _; have HP := Lib.hid (HI.out.push hlt3 hown' hgrow); obtain ⟨g', cap', rfl⟩ := ownsRow_succ hown'; obtain ⟨c0, c1, c2, c3, c4, c5, c6, c7⟩ := HP.out.cells; clear hown' hgrow)
              refine (CF1.out _).mono ?_
              rintro e w5 ⟨rfl, hb⟩
              have H5 := Lib.hid (HP.out.next hb)
              clear hb c0 c1 c2 c3 c4 c5 c6 c7
              go_wp2_with fail
              refine ⟨⟨ys ++ [t], t + 1, v1, by omega, by omega, rfl, HV1.out, (by have h := H5.out; rw [hl0] at h; exact h), HYS2.out, by rw [List.length_append]; exact HM2.out⟩, ?_⟩
              have := HM2.out
              show M - 1 < M - 0
              omega
            · go_wp2_with (at_builtin; refine wpList_append_own _ rfl _ _ 25 rfl w2.heap.size 2 i0 (.int .i64 0) 1 8 Tryd.underlying25 hi0 hz0 hz1 hz2 rfl (by decide) _ _ _ rfl (own_alloc HROW.out _) ⟨wr.heap.size, 0, none⟩ 1 1 [.int .i64 t] rfl rfl (cell_one_new _ _ _) (by simp [Value.oneCell']) hml1 hml2 hml3 ?_; intro v' w4 hown' hgrow _; have HP := Lib.hid (HI.out.push hlt3 hown' hgrow); obtain ⟨g', cap', rfl⟩ := ownsRow_succ hown'; obtain ⟨c0, c1, c2, c3, c4, c5, c6, c7⟩ := HP.out.cells; clear hown' hgrow)
              refine (CF1.out _).mono ?_
              rintro e w5 ⟨rfl, hb⟩
              have H5 := Lib.hid (HP.out.next hb)
              clear hb c0 c1 c2 c3 c4 c5 c6 c7
              go_wp2_with fail
              refine ⟨⟨ys ++ [t], t + 1, v1, by omega, by omega, rfl, HV1.out, H5.out, HYS2.out, by rw [List.length_append]; exact HM2.out⟩, ?_⟩
              have := HM2.out
              show M - (ys.length + 1) < M - ys.length
              omega
          · have d3 : decide ((ys.length : Int) < m) = false := decide_eq_false (by have := HM.out; omega)
            have HE : Hid (R = ys) := Lib.hid (by rw [HT.out]; exact take_full HYS.out (by omega))
            clear hcons htb hc0 hc1
            rcases hrv with ⟨rfl, hl0⟩ | ⟨g, cap, rfl⟩
            · have d3 : decide ((0 : Int) < m) = false := decide_eq_false (by have := HM.out; omega)
              clear hfull hlen
              go_wp2_with fail
              all_goals
               go_ret2
               exact ⟨_, ret_ve rfl HCZ.out.symm, by rw [HE.out]; exact ownsRow_mono HI.out.own (by omega), HI.out.below⟩
            · clear hfull hlen
              go_wp2_with fail
              all_goals
               go_ret2
               exact ⟨_, ret_ve rfl HCZ.out.symm, by rw [HE.out]; exact ownsRow_mono HI.out.own (by omega), HI.out.below⟩
        · have d2 : decide (t ≤ b) = false := decide_eq_false htb
          have HE : Hid (R = ys) := Lib.hid (by rw [HT.out]; exact take_done (by rw [← HYS.out, times_end HZ.out (fun u hu => by rw [HFR.out] at hu; cases hu; omega)]) hlen)
          clear htb
          go_wp2_with fail
          all_goals
            go_ret2
            exact ⟨u13, ret_ve rfl HCZ.out.symm, by rw [HE.out]; exact ownsRow_mono HI.out.own (by omega), HI.out.below⟩
  · have HE : Hid (R = []) := Lib.hid (by rw [HLV.out, if_neg (fun h => hcz h.1)])
    obtain ⟨c, hc⟩ : ∃ c, c = chk x z [a, b] := ⟨_, rfl⟩
    have HC := Lib.hid hc
    have hc2 := hc.symm
    have hcz2 : (c == 0) = false := by rw [beq_eq_false_iff_ne, hc]; exact hcz
    clear hc hcz HLV
    go_wp2_with fail
    go_ret2
    exact ⟨_, ret_ve rfl HC.out, by rw [HE.out]; exact HNIL.out, HR.out.below⟩
end Go.Proofs.YtepoegcpfhjlpaaDoor.BW
