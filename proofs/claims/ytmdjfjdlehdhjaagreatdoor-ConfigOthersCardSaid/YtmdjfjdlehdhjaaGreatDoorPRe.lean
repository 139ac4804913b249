/- Contracts of the reference's Check of plans, and of check. Contracts of the reference's check and Is. Contracts of the reference's next and Next. Contract of the reference's List. Contracts of the reference's count and Count. -/
import Derived.Test.YtmdjfjdlehdhjaaGreatDoorPFj
import Derived.Test.YtmdjfjdlehdhjaaGreatDoorPREv
import Derived.Test.YtmdjfjdlehdhjaaGreatDoorPBo
import Derived.Test.YtmdjfjdlehdhjaaGreatDoorRDay
import Derived.Test.YtmdjfjdlehdhjaaGreatDoorRNext
import Derived.Test.YtmdjfjdlehdhjaaGreatDoorRCountM
import Derived.Test.YtmdjfjdlehdhjaaGreatDoorPTi
import Derived.Test.YtmdjfjdlehdhjaaGreatDoorRFrom
import Derived.Test.YtmdjfjdlehdhjaaGreatDoorMList
namespace Go.Proofs.YtmdjfjdlehdhjaaGreatDoor.BW
open Go.RowKit BM Go.Shelf MC
open BK hiding ret_bool ret_i64

theorem plE_bad {p : Pl} {l : List (Int × Int)} (h : plK p = false) : plE p l = 16 := by unfold plE; rw [h]; rfl
theorem noX_iff {x : Ex} : noX x = true ↔ (x.s = 0 ∧ x.mi = 0 ∧ x.h = 0 ∧ x.d = 0 ∧ x.mo = 0 ∧ x.w = 0) ∧ x.ad = false ∧ x.aw = false := by
  unfold noX
  simp [and_assoc]
theorem noE_iff {e : Ev} : noE e = true ↔ e.s = 0 ∧ e.p = 0 ∧ e.c = 0 := by unfold noE; simp
set_option maxRecDepth 8000 in
set_option maxHeartbeats 4000000 in
theorem rck_x (p : Pl) (w : World) (hk : p.k ≠ 1) (hX : noX p.x = false) : Calls Tryz.prog 54 #[.agg (plV p)] w fun r w' => r = .returned (.int .i64 16) ∧ Below w.heap.size w w' := by
  have HX : Hid (¬ ((p.x.s = 0 ∧ p.x.mi = 0 ∧ p.x.h = 0 ∧ p.x.d = 0 ∧ p.x.mo = 0 ∧ p.x.w = 0) ∧ p.x.ad = false ∧ p.x.aw = false)) := Lib.hid (fun h => by rw [noX_iff.2 h] at hX; cases hX)
  have h1 : (p.k == 1) = false := by rw [beq_eq_false_iff_ne]; exact hk
  have h2 : (p.k != 1) = true := by rw [bne, h1]; rfl
  clear hX hk
  unfold plV
  go_enter Tryz.func54, Tryz.ntmps54
  go_wp2_with fail
  all_goals
    first
      | (go_ret
         exact ⟨rfl, (Below.refl _ w).alloc (Nat.le_refl _) _⟩)
      | exact (HX.out ⟨⟨by assumption, by assumption, by assumption, by assumption, by assumption, by assumption⟩, by first | assumption | simp_all, by first | assumption | simp_all⟩).elim
set_option maxRecDepth 8000 in
set_option maxHeartbeats 4000000 in
theorem rck_z (p : Pl) (w : World) (hk : p.k ≠ 1) (hX : noX p.x = true) (hz : p.z ≠ 0) : Calls Tryz.prog 54 #[.agg (plV p)] w fun r w' => r = .returned (.int .i64 16) ∧ Below w.heap.size w w' := by
  have h1 : (p.k == 1) = false := by rw [beq_eq_false_iff_ne]; exact hk
  have h2 : (p.k != 1) = true := by rw [bne, h1]; rfl
  have h3 : (p.z == 0) = false := by rw [beq_eq_false_iff_ne]; exact hz
  have h4 : (p.z != 0) = true := by rw [bne, h3]; rfl
  have hx' := noX_iff.1 hX
  clear hk hX hz
  obtain ⟨pk, ⟨s, mi, h, d, mo, wk, ad, aw⟩, pz, ⟨es, ep, ec⟩, pa, pn, pc⟩ := p
  unfold plV
  simp only at *
  obtain ⟨⟨rfl, rfl, rfl, rfl, rfl, rfl⟩, rfl, rfl⟩ := hx'
  go_enter Tryz.func54, Tryz.ntmps54
  go_wp2_with fail
  go_ret
  exact ⟨rfl, (Below.refl _ w).alloc (Nat.le_refl _) _⟩
set_option maxRecDepth 8000 in
set_option maxHeartbeats 4000000 in
theorem rck_e1 (p : Pl) (w : World) (hk : p.k = 1) (hE : noE p.e = false) : Calls Tryz.prog 54 #[.agg (plV p)] w fun r w' => r = .returned (.int .i64 16) ∧ Below w.heap.size w w' := by
  have HX : Hid (¬ (p.e.s = 0 ∧ p.e.p = 0 ∧ p.e.c = 0)) := Lib.hid (fun h => by rw [noE_iff.2 h] at hE; cases hE)
  clear hE
  obtain ⟨pk, ⟨s, mi, h, d, mo, wk, ad, aw⟩, pz, ⟨es, ep, ec⟩, pa, pn, pc⟩ := p
  unfold plV
  simp only at *
  subst hk
  go_enter Tryz.func54, Tryz.ntmps54
  go_wp2_with fail
  all_goals
    first
      | (go_ret
         exact ⟨rfl, (Below.refl _ w).alloc (Nat.le_refl _) _⟩)
      | exact (HX.out ⟨by assumption, by assumption, by assumption⟩).elim
set_option maxRecDepth 8000 in
set_option maxHeartbeats 4000000 in
theorem rck_e2 (p : Pl) (w : World) (hk : p.k ≠ 1) (hk2 : p.k ≠ 2) (hX : noX p.x = true) (hz : p.z = 0) (hE : noE p.e = false) : Calls Tryz.prog 54 #[.agg (plV p)] w fun r w' => r = .returned (.int .i64 16) ∧ Below w.heap.size w w' := by
  have HX : Hid (¬ (p.e.s = 0 ∧ p.e.p = 0 ∧ p.e.c = 0)) := Lib.hid (fun h => by rw [noE_iff.2 h] at hE; cases hE)
  have h1 : (p.k == 1) = false := by rw [beq_eq_false_iff_ne]; exact hk
  have h2 : (p.k != 1) = true := by rw [bne, h1]; rfl
  have h3 : (p.k == 2) = false := by rw [beq_eq_false_iff_ne]; exact hk2
  have h4 : (p.k != 2) = true := by rw [bne, h3]; rfl
  have hx' := noX_iff.1 hX
  clear hk hk2 hX hE
  obtain ⟨pk, ⟨s, mi, h, d, mo, wk, ad, aw⟩, pz, ⟨es, ep, ec⟩, pa, pn, pc⟩ := p
  unfold plV
  simp only at *
  obtain ⟨⟨rfl, rfl, rfl, rfl, rfl, rfl⟩, rfl, rfl⟩ := hx'
  subst hz
  go_enter Tryz.func54, Tryz.ntmps54
  go_wp2_with fail
  all_goals
    first
      | (go_ret
         exact ⟨rfl, (Below.refl _ w).alloc (Nat.le_refl _) _⟩)
      | exact (HX.out ⟨by assumption, by assumption, by assumption⟩).elim
set_option maxRecDepth 8000 in
set_option maxHeartbeats 4000000 in
theorem rck_1 (p : Pl) (l : List (Int × Int)) (w : World) (h : PArg w p l) (hk : p.k = 1) (hE : noE p.e = true) : Calls Tryz.prog 54 #[.agg (plV p)] w fun r w' => r = .returned (.int .i64 (plE p l)) ∧ Below w.heap.size w w' := by
  have hB1 : Below w.heap.size w (w.alloc (.cells (plV p) 29)) := (Below.refl _ w).alloc (Nat.le_refl _) _
  have hbx := Blk.new w 29 (plV p)
  have CS := Lib.hid (rspcheck_ok l p.a p.n p.c h.n (by have := h.n9; omega) _ (h.at_.below hB1))
  have CX := Lib.hid (fun W => rcheck_ok p.x h.x W)
  have CZ := Lib.hid (fun W => rzone_ok p.z W)
  have HR : Hid (plE p l = if (decide (ckR p.x = 0) && decide (zoneR p.z = 0)) && decide (spE l = 0) then 0 else 16) := Lib.hid (by
    have e : plK p = (true && decide (ckR p.x = 0) && decide (zoneR p.z = 0)) := by unfold plK; rw [if_neg (by omega), if_pos hk, hE]
    unfold plE; rw [e]; rfl)
  have HB1 := Lib.hid hB1
  have hx' := noE_iff.1 hE
  have cx := ckR_cases p.x
  have cz := zoneR_cases p.z
  generalize plE p l = R at *
  generalize ckR p.x = ca at *
  generalize zoneR p.z = za at *
  generalize spE l = sa at *
  clear h hB1 hE
  obtain ⟨pk, ⟨s, mi, h, d, mo, wk, ad, aw⟩, pz, ⟨es, ep, ec⟩, pa, pn, pc⟩ := p
  unfold exV at CX
  unfold plV at *
  simp only at *
  obtain ⟨rfl, rfl, rfl⟩ := hx'
  subst hk
  go_enter Tryz.func54, Tryz.ntmps54
  go_wp2_with fail
  refine (CS.out).mono ?_
  rintro e_ w2 ⟨rfl, hb⟩
  have HB2 := Lib.hid (HB1.out.trans (Below.mono (w := w.alloc _) hb HB1.out.size))
  have hx2 := hbx.below hb hbx.lt
  have c0 : w2.cell? ⟨w.heap.size, 0, none⟩ = some (.int .i64 1) := hx2.cell 0
  have c1 : w2.cell? ⟨w.heap.size, 1, none⟩ = some (.int .u64 s) := hx2.cell 1
  have c2 : w2.cell? ⟨w.heap.size, 2, none⟩ = some (.int .u64 mi) := hx2.cell 2
  have c3 : w2.cell? ⟨w.heap.size, 3, none⟩ = some (.int .u64 h) := hx2.cell 3
  have c4 : w2.cell? ⟨w.heap.size, 4, none⟩ = some (.int .u64 d) := hx2.cell 4
  have c5 : w2.cell? ⟨w.heap.size, 5, none⟩ = some (.int .u64 mo) := hx2.cell 5
  have c6 : w2.cell? ⟨w.heap.size, 6, none⟩ = some (.int .u64 wk) := hx2.cell 6
  have c7 : w2.cell? ⟨w.heap.size, 7, none⟩ = some (.bool ad) := hx2.cell 7
  have c8 : w2.cell? ⟨w.heap.size, 8, none⟩ = some (.bool aw) := hx2.cell 8
  have HX2 := Lib.hid hx2
  clear hb hbx hx2 CS
  by_cases hs : sa = 0
  · subst hs
    go_wp2_with fail
    refine (CX.out _).mono ?_
    rintro e_ w3 ⟨rfl, hb⟩
    have HB3 := Lib.hid (HB2.out.trans (hb.mono HB2.out.size))
    have hx3 := HX2.out.below hb HX2.out.lt
    have d0 : w3.cell? ⟨w.heap.size, 0, none⟩ = some (.int .i64 1) := hx3.cell 0
    have d9 : w3.cell? ⟨w.heap.size, 9, none⟩ = some (.int .i64 pz) := hx3.cell 9
    clear hb hx3 HX2 c0 c1 c2 c3 c4 c5 c6 c7 c8
    rcases cx with rfl | rfl
    · go_wp2_with fail
      refine (CZ.out _).mono ?_
      rintro e_ w4 ⟨rfl, rfl⟩
      rcases cz with rfl | rfl
      · have HE : Hid (R = 0) := Lib.hid (by rw [HR.out]; rfl)
        go_wp2_with fail
        go_ret
        exact ⟨ret_i64 HE.out.symm, HB3.out⟩
      · have HE : Hid (R = 16) := Lib.hid (by rw [HR.out]; rfl)
        go_wp2_with fail
        go_ret
        exact ⟨ret_i64 HE.out.symm, HB3.out⟩
    · have HE : Hid (R = 16) := Lib.hid (by rw [HR.out]; rfl)
      go_wp2_with fail
      go_ret
      exact ⟨ret_i64 HE.out.symm, HB3.out⟩
  · have hs1 : (sa == 0) = false := by rw [beq_eq_false_iff_ne]; exact hs
    have hs2 : (sa != 0) = true := by rw [bne, hs1]; rfl
    have HE : Hid (R = 16) := Lib.hid (by rw [HR.out, decide_eq_false hs, Bool.and_false]; rfl)
    clear hs
    go_wp2_with fail
    go_ret
    exact ⟨ret_i64 HE.out.symm, HB2.out⟩
set_option maxRecDepth 8000 in
set_option maxHeartbeats 4000000 in
theorem rck_2 (p : Pl) (l : List (Int × Int)) (w : World) (h : PArg w p l) (hk : p.k = 2) (hX : noX p.x = true) (hz : p.z = 0) : Calls Tryz.prog 54 #[.agg (plV p)] w fun r w' => r = .returned (.int .i64 (plE p l)) ∧ Below w.heap.size w w' := by
  have hB1 : Below w.heap.size w (w.alloc (.cells (plV p) 29)) := (Below.refl _ w).alloc (Nat.le_refl _) _
  have hbx := Blk.new w 29 (plV p)
  have CS := Lib.hid (rspcheck_ok l p.a p.n p.c h.n (by have := h.n9; omega) _ (h.at_.below hB1))
  have CE := Lib.hid (fun W => recheck_ok p.e W)
  have HR : Hid (plE p l = if decide (p.e.err = 0) && decide (spE l = 0) then 0 else 16) := Lib.hid (by
    have e : plK p = (true && true && decide (p.e.err = 0)) := by unfold plK; rw [if_neg (by omega), if_neg (by omega), if_pos hk, hX, decide_eq_true hz]
    unfold plE; rw [e]; rfl)
  have HB1 := Lib.hid hB1
  have hx' := noX_iff.1 hX
  have ce : p.e.err = 0 ∨ p.e.err = 16 := by unfold Ev.err; split <;> simp
  generalize plE p l = R at *
  generalize p.e.err = ea at *
  generalize spE l = sa at *
  clear h hB1 hX
  obtain ⟨pk, ⟨s, mi, h, d, mo, wk, ad, aw⟩, pz, ⟨es, ep, ec⟩, pa, pn, pc⟩ := p
  unfold evV at CE
  unfold plV at *
  simp only at *
  obtain ⟨⟨rfl, rfl, rfl, rfl, rfl, rfl⟩, rfl, rfl⟩ := hx'
  subst hk hz
  go_enter Tryz.func54, Tryz.ntmps54
  go_wp2_with fail
  refine (CS.out).mono ?_
  rintro e_ w2 ⟨rfl, hb⟩
  have HB2 := Lib.hid (HB1.out.trans (Below.mono (w := w.alloc _) hb HB1.out.size))
  have hx2 := hbx.below hb hbx.lt
  have c0 : w2.cell? ⟨w.heap.size, 0, none⟩ = some (.int .i64 2) := hx2.cell 0
  have c10 : w2.cell? ⟨w.heap.size, 10, none⟩ = some (.int .i64 es) := hx2.cell 10
  have c11 : w2.cell? ⟨w.heap.size, 11, none⟩ = some (.int .i64 ep) := hx2.cell 11
  have c12 : w2.cell? ⟨w.heap.size, 12, none⟩ = some (.int .i64 ec) := hx2.cell 12
  clear hb hbx hx2 CS
  by_cases hs : sa = 0
  · subst hs
    go_wp2_with fail
    refine (CE.out _).mono ?_
    rintro e_ w3 ⟨rfl, hb⟩
    have HB3 := Lib.hid (HB2.out.trans (hb.mono HB2.out.size))
    clear hb
    rcases ce with rfl | rfl
    · have HE : Hid (R = 0) := Lib.hid (by rw [HR.out]; rfl)
      go_wp2_with fail
      go_ret
      exact ⟨ret_i64 HE.out.symm, HB3.out⟩
    · have HE : Hid (R = 16) := Lib.hid (by rw [HR.out]; rfl)
      go_wp2_with fail
      go_ret
      exact ⟨ret_i64 HE.out.symm, HB3.out⟩
  · have hs1 : (sa == 0) = false := by rw [beq_eq_false_iff_ne]; exact hs
    have hs2 : (sa != 0) = true := by rw [bne, hs1]; rfl
    have HE : Hid (R = 16) := Lib.hid (by rw [HR.out, decide_eq_false hs, Bool.and_false]; rfl)
    clear hs
    go_wp2_with fail
    go_ret
    exact ⟨ret_i64 HE.out.symm, HB2.out⟩
set_option maxRecDepth 8000 in
set_option maxHeartbeats 4000000 in
theorem rck_0 (p : Pl) (l : List (Int × Int)) (w : World) (h : PArg w p l) (hk1 : p.k ≠ 1) (hk2 : p.k ≠ 2) (hX : noX p.x = true) (hz : p.z = 0) (hE : noE p.e = true) : Calls Tryz.prog 54 #[.agg (plV p)] w fun r w' => r = .returned (.int .i64 (plE p l)) ∧ Below w.heap.size w w' := by
  have hB1 : Below w.heap.size w (w.alloc (.cells (plV p) 29)) := (Below.refl _ w).alloc (Nat.le_refl _) _
  have hbx := Blk.new w 29 (plV p)
  have CS := Lib.hid (rspcheck_ok l p.a p.n p.c h.n (by have := h.n9; omega) _ (h.at_.below hB1))
  have HR : Hid (plE p l = if (decide (p.k = 0) && decide (p.n = 0)) && decide (spE l = 0) then 0 else 16) := Lib.hid (by
    have e : plK p = (decide (p.k = 0) && decide (p.n = 0)) := by
      unfold plK
      by_cases h0 : p.k = 0
      · rw [if_pos h0, hX, hE, decide_eq_true hz, decide_eq_true h0]; simp
      · rw [if_neg h0, if_neg hk1, if_neg hk2, decide_eq_false h0]; rfl
    unfold plE; rw [e])
  have HB1 := Lib.hid hB1
  have hx' := noX_iff.1 hX
  have he' := noE_iff.1 hE
  have h1 : (p.k == 1) = false := by rw [beq_eq_false_iff_ne]; exact hk1
  have h2 : (p.k != 1) = true := by rw [bne, h1]; rfl
  have h3 : (p.k == 2) = false := by rw [beq_eq_false_iff_ne]; exact hk2
  have h4 : (p.k != 2) = true := by rw [bne, h3]; rfl
  generalize plE p l = R at *
  generalize spE l = sa at *
  clear h hB1 hX hE hk1 hk2
  obtain ⟨pk, ⟨s, mi, h, d, mo, wk, ad, aw⟩, pz, ⟨es, ep, ec⟩, pa, pn, pc⟩ := p
  unfold plV at *
  simp only at *
  obtain ⟨⟨rfl, rfl, rfl, rfl, rfl, rfl⟩, rfl, rfl⟩ := hx'
  obtain ⟨rfl, rfl, rfl⟩ := he'
  subst hz
  go_enter Tryz.func54, Tryz.ntmps54
  go_wp2_with fail
  refine (CS.out).mono ?_
  rintro e_ w2 ⟨rfl, hb⟩
  have HB2 := Lib.hid (HB1.out.trans (Below.mono (w := w.alloc _) hb HB1.out.size))
  have hx2 := hbx.below hb hbx.lt
  have c0 : w2.cell? ⟨w.heap.size, 0, none⟩ = some (.int .i64 pk) := hx2.cell 0
  have c13 : w2.cell? ⟨w.heap.size, 13, none⟩ = some (.slice pa pn pc) := hx2.cell 13
  clear hb hbx hx2 CS
  by_cases hs : sa = 0
  · subst hs
    by_cases h0 : pk = 0
    · subst h0
      by_cases hn : pn = 0
      · subst hn
        have HE : Hid (R = 0) := Lib.hid (by rw [HR.out]; rfl)
        go_wp2_with fail
        go_ret
        exact ⟨ret_i64 HE.out.symm, HB2.out⟩
      · have HE : Hid (R = 16) := Lib.hid (by rw [HR.out, decide_eq_false hn]; rfl)
        have hn1 : ((pn : Int) == 0) = false := by rw [beq_eq_false_iff_ne]; omega
        have hn2 : ¬ ((pn : Int) = 0) := by omega
        go_wp2_with fail
        go_ret
        exact ⟨ret_i64 HE.out.symm, HB2.out⟩
    · have h5 : (pk == 0) = false := by rw [beq_eq_false_iff_ne]; exact h0
      have HE : Hid (R = 16) := Lib.hid (by rw [HR.out, decide_eq_false h0]; rfl)
      clear h0
      go_wp2_with fail
      go_ret
      exact ⟨ret_i64 HE.out.symm, HB2.out⟩
  · have hs1 : (sa == 0) = false := by rw [beq_eq_false_iff_ne]; exact hs
    have hs2 : (sa != 0) = true := by rw [bne, hs1]; rfl
    have HE : Hid (R = 16) := Lib.hid (by rw [HR.out, decide_eq_false hs, Bool.and_false]; rfl)
    clear hs
    go_wp2_with fail
    go_ret
    exact ⟨ret_i64 HE.out.symm, HB2.out⟩
theorem rplck_ok (p : Pl) (l : List (Int × Int)) (w : World) (h : PArg w p l) : Calls Tryz.prog 54 #[.agg (plV p)] w fun r w' => r = .returned (.int .i64 (plE p l)) ∧ Below w.heap.size w w' := by
  by_cases hk1 : p.k = 1
  · cases hE : noE p.e with
    | true => exact rck_1 p l w h hk1 hE
    | false =>
      rw [plE_bad (by unfold plK; rw [if_neg (by omega), if_pos hk1, hE]; rfl)]
      exact rck_e1 p w hk1 hE
  · cases hX : noX p.x with
    | false =>
      rw [plE_bad (by unfold plK; rw [hX, if_neg hk1]; simp)]
      exact rck_x p w hk1 hX
    | true =>
      by_cases hz : p.z = 0
      · by_cases hk2 : p.k = 2
        · exact rck_2 p l w h hk2 hX hz
        · cases hE : noE p.e with
          | true => exact rck_0 p l w h hk1 hk2 hX hz hE
          | false =>
            rw [plE_bad (by unfold plK; rw [hE, if_neg hk1, if_neg hk2]; simp)]
            exact rck_e2 p w hk1 hk2 hX hz hE
      · rw [plE_bad (by unfold plK; rw [decide_eq_false hz, if_neg hk1]; simp)]
        exact rck_z p w hk1 hX hz
end Go.Proofs.YtmdjfjdlehdhjaaGreatDoor.BW
namespace Go.Proofs.YtmdjfjdlehdhjaaGreatDoor.BW
open Go.RowKit BM Go.Shelf MC
open BK hiding ret_bool ret_i64

/-- What is known in check's rounds. -/
def CkR (p : Pl) (l : List (Int × Int)) (ts : List Int) (e : Int) (k : Nat) : Prop := (e = 0 ∧ plE p l = 0 ∧ ∀ i (hi : i < ts.length), i < k → tOk ts[i] = true) ∨ (e = finE p l ts ∧ e ≠ 0)
set_option maxRecDepth 8000 in
set_option maxHeartbeats 4000000 in
theorem rck_ok (p : Pl) (l : List (Int × Int)) (ts : List Int) (ga : Option Addr) (n c : Nat) (hts : ts.length = n) (hts9 : n ≤ 9) (w : World) (h : PArg w p l) (hc : IntsAt w ga ts) :
    Calls Tryz.prog 78 #[.agg (plV p), .slice ga n c] w fun r w' => r = .returned (.int .i64 (finE p l ts)) ∧ Below w.heap.size w w' := by
  have hB1 : Below w.heap.size w (w.alloc (.cells (plV p) 29)) := (Below.refl _ w).alloc (Nat.le_refl _) _
  have CC := Lib.hid (rplck_ok p l _ (h.below hB1))
  have HC := Lib.hid (fun W (hW : Below w.heap.size w W) => ints_below hc hW)
  have HN := Lib.hid hts
  have HB1 := Lib.hid hB1
  have H0 : Hid (CkR p l ts (plE p l) 0) := Lib.hid (by
    rcases plE_cases p l with h0 | h0
    · exact .inl ⟨h0, h0, fun i hi h => absurd h (Nat.not_lt_zero _)⟩
    · refine .inr ⟨?_, by rw [h0]; decide⟩
      unfold finE
      rw [h0, if_neg (by decide)])
  have e0 : plV p = #[.int .i64 p.k, .int .u64 p.x.s, .int .u64 p.x.mi, .int .u64 p.x.h, .int .u64 p.x.d, .int .u64 p.x.mo, .int .u64 p.x.w, .bool p.x.ad, .bool p.x.aw, .int .i64 p.z, .int .i64 p.e.s, .int .i64 p.e.p, .int .i64 p.e.c, .slice p.a p.n p.c] := rfl
  obtain ⟨E0, hE0⟩ : ∃ E0, plE p l = E0 := ⟨_, rfl⟩
  rw [hE0] at H0 CC
  rw [e0] at CC ⊢
  clear h hc hts hB1 e0 hE0
  go_enter Tryz.func78, Tryz.ntmps78
  go_wp2_with fail
  refine (CC.out).mono ?_
  rintro e_ w2 ⟨rfl, hb⟩
  have HB2 := Lib.hid (HB1.out.trans (Below.mono (w := w.alloc _) hb HB1.out.size))
  clear hb CC
  go_wp2_with fail
  go_loop [5, 6] (fun s5 s6 => ∃ (k : Nat) (e : Int), k ≤ n ∧ s5 = .int .i64 e ∧ s6 = .int .i64 k ∧ CkR p l ts e k) (fun _ s6 => n - intM s6)
  case atStart => exact ⟨0, E0, Nat.zero_le _, rfl, rfl, H0.out⟩
  case round =>
    clear H0
    obtain ⟨k, e, hk, rfl, rfl, hr⟩ := hrel
    have HR := Lib.hid hr
    by_cases he : e = 0
    · subst he
      have hl : plE p l = 0 ∧ ∀ i (hi : i < ts.length), i < k → tOk ts[i] = true := by
        rcases hr with h | h
        · exact h.2
        · exact absurd rfl h.2
      have HL := Lib.hid hl
      clear hr hl
      have hbad : ∀ k' (hk' : k' < ts.length), tOk ts[k'] = false → finE p l ts = 14 := fun k' hk' hb => by unfold finE; rw [if_pos HL.out.1, timesR_bad hk' hb]
      have HBAD := Lib.hid hbad
      clear hbad
      rcases Nat.lt_or_ge k n with hlt | hge
      · have hkl : k < ts.length := by have := HN.out; omega
        obtain ⟨b, off, hga, h1⟩ := HC.out _ HB2.out k hkl
        subst hga
        have HX := Lib.hid (HBAD.out k hkl)
        have HY := Lib.hid (fun (ht : tOk ts[k] = true) i (hi : i < ts.length) (h : i < k + 1) => (by
          rcases Nat.lt_or_ge i k with h4 | h4
          · exact HL.out.2 i hi h4
          · obtain rfl : i = k := by omega
            exact ht : tOk ts[i] = true))
        generalize ts[k] = t at *
        by_cases h0 : t < 0
        · have d0 : decide (t < 0) = true := decide_eq_true h0
          have HE : Hid (CkR p l ts 14 (k + 1)) := Lib.hid (.inr ⟨(HX.out (by unfold tOk; simp; omega)).symm, by decide⟩)
          clear h0
          go_wp2_with fail
          refine ⟨⟨k + 1, 14, by omega, rfl, by go_num, HE.out⟩, ?_⟩
          simp [intM]; omega
        · have d0 : decide (t < 0) = false := decide_eq_false h0
          by_cases h2 : 253402300799 < t
          · have d1 : decide (253402300799 < t) = true := decide_eq_true h2
            have HE : Hid (CkR p l ts 14 (k + 1)) := Lib.hid (.inr ⟨(HX.out (by unfold tOk; simp; omega)).symm, by decide⟩)
            clear h0 h2
            go_wp2_with fail
            refine ⟨⟨k + 1, 14, by omega, rfl, by go_num, HE.out⟩, ?_⟩
            simp [intM]; omega
          · have d1 : decide (253402300799 < t) = false := decide_eq_false h2
            have HE : Hid (CkR p l ts 0 (k + 1)) := Lib.hid (.inl ⟨rfl, HL.out.1, HY.out (by unfold tOk; simp; omega)⟩)
            clear h0 h2
            go_wp2_with fail
            refine ⟨⟨k + 1, 0, by omega, rfl, by go_num, HE.out⟩, ?_⟩
            simp [intM]; omega
      · obtain rfl : n = k := by omega
        have HE : Hid (finE p l ts = 0) := Lib.hid (by unfold finE; rw [if_pos HL.out.1]; exact timesR_ok (fun i hi => HL.out.2 i hi (by have := HN.out; omega)))
        go_wp2_with fail
        go_ret
        exact ⟨ret_i64 HE.out.symm, HB2.out⟩
    · have h1 : (e == 0) = false := by rw [beq_eq_false_iff_ne]; exact he
      have HE : Hid (e = finE p l ts) := Lib.hid (by
        rcases hr with h | h
        · exact absurd h.1 he
        · exact h.1)
      clear hr
      rcases Nat.lt_or_ge k n with hlt | hge
      · have d0 : decide (k < n) = true := decide_eq_true hlt
        go_wp2_with fail
        go_ret
        exact ⟨ret_i64 HE.out, HB2.out⟩
      · obtain rfl : n = k := by omega
        go_wp2_with fail
        go_ret
        exact ⟨ret_i64 HE.out, HB2.out⟩
/-- The reference's functions of a valid plan's kind. -/
structure RFn (p : Pl) : Prop where
  k : (p.k = 0 ∧ ∀ t, qK p t = false) ∨ p.k = 1 ∨ p.k = 2
  i1 : p.k = 1 → ∀ t W, 0 ≤ t ∧ t ≤ 253402300799 → Calls Tryz.prog 79 #[.agg (exV p.x), .int .i64 p.z, .int .i64 t] W fun r w' => r = .returned (.tuple #[.bool (qK p t), .int .i64 0]) ∧ Below W.heap.size W w'
  i2 : p.k = 2 → ∀ t W, 0 ≤ t ∧ t ≤ 253402300799 → Calls Tryz.prog 80 #[.agg (evV p.e), .int .i64 t] W fun r w' => r = .returned (.tuple #[.bool (qK p t), .int .i64 0]) ∧ Below W.heap.size W w'
  n1 : p.k = 1 → ∀ t W, 0 ≤ t ∧ t ≤ 253402300799 → Calls Tryz.prog 128 #[.agg (exV p.x), .int .i64 p.z, .int .i64 t] W fun r w' => r = .returned (.tuple #[.int .i64 (optI (nxP (qK p) t)), .bool (nxP (qK p) t).isSome, .int .i64 0]) ∧ Below W.heap.size W w'
  n2 : p.k = 2 → ∀ t W, 0 ≤ t ∧ t ≤ 253402300799 → Calls Tryz.prog 129 #[.agg (evV p.e), .int .i64 t] W fun r w' => r = .returned (.tuple #[.int .i64 (optI (nxP (qK p) t)), .bool (nxP (qK p) t).isSome, .int .i64 0]) ∧ Below W.heap.size W w'
theorem rfn_ok (p : Pl) (hx : U64s p.x) (hv : plK p = true) : RFn p := by
  unfold plK at hv
  have z1 : p.k = 1 → (∀ t, 0 ≤ t ∧ t ≤ 253402300799 → chk p.x p.z [t] = 0) ∧ (∀ a b, 0 ≤ a ∧ a ≤ 253402300799 → 0 ≤ b ∧ b ≤ 253402300799 → chk p.x p.z [a, b] = 0) ∧ qK p = At p.x p.z := fun h1 => by
    rw [if_neg (by omega), if_pos h1] at hv
    simp only [Bool.and_eq_true, decide_eq_true_eq] at hv
    obtain ⟨⟨_, hc⟩, hz⟩ := hv
    exact ⟨fun t ht => (chk_times hc hz).trans (timesR_one ht), fun a b ha hb => (chk_times hc hz).trans (timesR_two ha hb), by funext t; unfold qK; rw [if_pos h1]⟩
  have z2 : p.k = 2 → p.e.Ok ∧ (∀ t, 0 ≤ t ∧ t ≤ 253402300799 → p.e.ofE [t] = 0) ∧ (∀ a b, 0 ≤ a ∧ a ≤ 253402300799 → 0 ≤ b ∧ b ≤ 253402300799 → p.e.ofE [a, b] = 0) ∧ qK p = p.e.has := fun h2 => by
    rw [if_neg (by omega), if_neg (by omega), if_pos h2] at hv
    simp only [Bool.and_eq_true, decide_eq_true_eq] at hv
    have hok := err_ok hv.2
    exact ⟨Ev.ok_iff.1 hok, fun t ht => by unfold Ev.ofE; rw [if_pos hok, timesR_one ht], fun a b ha hb => by unfold Ev.ofE; rw [if_pos hok, timesR_two ha hb], by funext t; unfold qK; rw [if_neg (by omega), if_pos h2]⟩
  refine ⟨?_, fun h1 t W ht => ?_, fun h2 t W ht => ?_, fun h1 t W ht => ?_, fun h2 t W ht => ?_⟩
  · by_cases h0 : p.k = 0
    · exact .inl ⟨h0, fun t => by unfold qK; rw [if_neg (by omega), if_neg (by omega)]⟩
    · by_cases h1 : p.k = 1
      · exact .inr (.inl h1)
      · by_cases h2 : p.k = 2
        · exact .inr (.inr h2)
        · rw [if_neg h0, if_neg h1, if_neg h2] at hv; cases hv
  · obtain ⟨k1, _, hq⟩ := z1 h1
    have := ris_ok p.x hx p.z t W
    rwa [k1 t ht, isV_At (k1 t ht), ← hq] at this
  · obtain ⟨hOk, k1, _, hq⟩ := z2 h2
    have := reis_ok p.e t W
    rwa [k1 t ht, Ev.isV_eq (k1 t ht), ← hq] at this
  · obtain ⟨k1, _, hq⟩ := z1 h1
    have := rnext_ok p.x hx p.z t W
    rwa [k1 t ht, nxV_eq (k1 t ht), ← hq] at this
  · obtain ⟨hOk, k1, _, hq⟩ := z2 h2
    have := renext_ok p.e t W
    rw [k1 t ht, Ev.nxV_eq hOk (k1 t ht), ← hq] at this
    exact this
set_option maxRecDepth 8000 in
set_option maxHeartbeats 4000000 in
theorem rplis_ok (p : Pl) (l : List (Int × Int)) (t : Int) (w : World) (h : PArg w p l) : Calls Tryz.prog 48 #[.agg (plV p), .int .i64 t] w fun r w' => r = .returned (.tuple #[.bool (decide (finE p l [t] = 0) && isP p l t), .int .i64 (finE p l [t])]) ∧ Below w.heap.size w w' := by
  obtain ⟨W1, hW1⟩ : ∃ W1, W1 = (w.alloc (.cells (plV p) 29)).alloc (.cells #[.int .i64 t] 2) := ⟨_, rfl⟩
  have hB1 : Below w.heap.size w W1 := by rw [hW1]; exact ((Below.refl _ w).alloc (Nat.le_refl _) _).alloc (by simp) _
  have hbx : Blk W1 w.heap.size 29 (plV p) := by rw [hW1]; exact (Blk.new w _ _).alloc _
  have hts : Blk W1 (w.heap.size + 1) 2 #[.int .i64 t] := by rw [hW1]; exact Blk.newAt (by simp)
  have CF := Lib.hid (rck_ok p l [t] (some ⟨w.heap.size + 1, 0, none⟩) 1 1 rfl (by decide) W1 (h.below hB1) (fun k hk => by
    have : k = 0 := by simpa using hk
    subst this; exact ⟨_, _, rfl, hts.cell 0⟩))
  have HP := Lib.hid h
  have HW1 := Lib.hid hW1
  have HVK := Lib.hid (fun hh : finE p l [t] = 0 => rfn_ok p h.x (finE_ok hh).1)
  have HVT := Lib.hid (fun hh : finE p l [t] = 0 => (finE_ok hh).2)
  have HI : Hid (isP p l t = (qK p t && !l.any (inS t))) := Lib.hid rfl
  obtain ⟨R, hR⟩ : ∃ R, (decide (finE p l [t] = 0) && isP p l t) = R := ⟨_, rfl⟩
  rw [hR]
  have HR0 := Lib.hid hR
  rw [hW1] at CF
  have e0 : plV p = #[.int .i64 p.k, .int .u64 p.x.s, .int .u64 p.x.mi, .int .u64 p.x.h, .int .u64 p.x.d, .int .u64 p.x.mo, .int .u64 p.x.w, .bool p.x.ad, .bool p.x.aw, .int .i64 p.z, .int .i64 p.e.s, .int .i64 p.e.p, .int .i64 p.e.c, .slice p.a p.n p.c] := rfl
  rw [e0] at CF
  rw [e0]
  clear h hW1 hts hR e0
  by_cases hE : finE p l [t] = 0
  · have hrf := HVK.out hE
    obtain ⟨hs, ht⟩ := HVT.out hE
    have ht := ht t (by simp)
    have hkk := hrf.k
    have CB := Lib.hid (fun W (hw : Below w.heap.size w W) => behind_ok l p.a p.n p.c t HP.out.n HP.out.n9 W (HP.out.at_.below hw))
    have HBD : Hid (decide (bhV l t < 0) = !l.any (inS t)) := Lib.hid (bhV_dec (spE_valid hs) t)
    have HR : Hid (R = (qK p t && !l.any (inS t))) := Lib.hid (by rw [← HR0.out, decide_eq_true hE, HI.out]; rfl)
    have HF := Lib.hid hrf
    have HT := Lib.hid ht
    rw [hE] at CF
    rw [hE]
    obtain ⟨d, hd⟩ : ∃ d, decide (bhV l t < 0) = d := ⟨_, rfl⟩
    rw [hd] at HBD
    generalize l.any (inS t) = y at *
    clear HVK hE hs hrf HI HVT HR0 ht
    have I1 := Lib.hid (fun (hk : p.k = 1) W => HF.out.i1 hk t W HT.out)
    have I2 := Lib.hid (fun (hk : p.k = 2) W => HF.out.i2 hk t W HT.out)
    have I0 := Lib.hid (fun (hk : p.k = 0) => (HF.out.k.elim (fun h => h.2 t) (fun h => by omega) : qK p t = false))
    unfold exV at I1
    unfold evV at I2
    generalize qK p t = q at *
    rcases hkk with ⟨hk, _⟩ | hk | hk
    · obtain rfl : q = false := I0.out hk
      have k1 : (p.k == 1) = false := by rw [beq_eq_false_iff_ne]; omega
      have k2 : (p.k == 2) = false := by rw [beq_eq_false_iff_ne]; omega
      have HE : Hid (R = false) := Lib.hid HR.out
      clear hk I0 I1 I2
      go_enter Tryz.func48, Tryz.ntmps48
      go_wp2_with fail
      refine (CF.out).mono ?_
      rintro e_ w2 ⟨rfl, hb⟩
      have hb : Below W1.heap.size W1 w2 := by rw [HW1.out]; exact hb
      have hx2 := hbx.below hb hbx.lt
      have HB2 := Lib.hid (hB1.trans (hb.mono hB1.size))
      have p0 : w2.cell? ⟨w.heap.size, 0, none⟩ = some (.int .i64 p.k) := hx2.cell 0
      clear hb hbx hx2 hB1 CF
      go_wp2_with fail
      go_ret2
      exact ⟨ret_beX HE.out.symm rfl, HB2.out⟩
    · have k1 : (p.k == 1) = true := by rw [hk]; first | rfl | omega
      have k2 : (p.k == 2) = false := by rw [beq_eq_false_iff_ne]; first | rfl | omega
      have CI := Lib.hid (I1.out hk)
      clear hk I0 I1 I2
      go_enter Tryz.func48, Tryz.ntmps48
      go_wp2_with fail
      refine (CF.out).mono ?_
      rintro e_ w2 ⟨rfl, hb⟩
      have hb : Below W1.heap.size W1 w2 := by rw [HW1.out]; exact hb
      have hx2 := hbx.below hb hbx.lt
      have HX2 := Lib.hid hx2
      have HB2 := Lib.hid (hB1.trans (hb.mono hB1.size))
      have p0 : w2.cell? ⟨w.heap.size, 0, none⟩ = some (.int .i64 p.k) := hx2.cell 0
      have p1 : w2.cell? ⟨w.heap.size, 1, none⟩ = some (.int .u64 p.x.s) := hx2.cell 1
      have p2 : w2.cell? ⟨w.heap.size, 2, none⟩ = some (.int .u64 p.x.mi) := hx2.cell 2
      have p3 : w2.cell? ⟨w.heap.size, 3, none⟩ = some (.int .u64 p.x.h) := hx2.cell 3
      have p4 : w2.cell? ⟨w.heap.size, 4, none⟩ = some (.int .u64 p.x.d) := hx2.cell 4
      have p5 : w2.cell? ⟨w.heap.size, 5, none⟩ = some (.int .u64 p.x.mo) := hx2.cell 5
      have p6 : w2.cell? ⟨w.heap.size, 6, none⟩ = some (.int .u64 p.x.w) := hx2.cell 6
      have p7 : w2.cell? ⟨w.heap.size, 7, none⟩ = some (.bool p.x.ad) := hx2.cell 7
      have p8 : w2.cell? ⟨w.heap.size, 8, none⟩ = some (.bool p.x.aw) := hx2.cell 8
      have p9 : w2.cell? ⟨w.heap.size, 9, none⟩ = some (.int .i64 p.z) := hx2.cell 9
      have p10 : w2.cell? ⟨w.heap.size, 10, none⟩ = some (.int .i64 p.e.s) := hx2.cell 10
      have p11 : w2.cell? ⟨w.heap.size, 11, none⟩ = some (.int .i64 p.e.p) := hx2.cell 11
      have p12 : w2.cell? ⟨w.heap.size, 12, none⟩ = some (.int .i64 p.e.c) := hx2.cell 12
      have p13 : w2.cell? ⟨w.heap.size, 13, none⟩ = some (.slice p.a p.n p.c) := hx2.cell 13
      clear hb hbx hx2 hB1 CF
      go_wp2_with fail
      refine (CI.out _).mono ?_
      rintro e_ w3 ⟨rfl, hb⟩
      have HB3 := Lib.hid (HB2.out.trans (hb.mono HB2.out.size))
      have hx3 := HX2.out.below hb HX2.out.lt
      have q0 : w3.cell? ⟨w.heap.size, 0, none⟩ = some (.int .i64 p.k) := hx3.cell 0
      have q13 : w3.cell? ⟨w.heap.size, 13, none⟩ = some (.slice p.a p.n p.c) := hx3.cell 13
      clear hb hx3 p0 p1 p2 p3 p4 p5 p6 p7 p8 p9 p10 p11 p12 p13
      cases q
      · have HE : Hid (R = false) := Lib.hid HR.out
        go_wp2_with fail
        go_ret2
        exact ⟨ret_beX HE.out.symm rfl, HB3.out⟩
      · have HE : Hid (R = d) := Lib.hid (by rw [HR.out, HBD.out]; rfl)
        go_wp2_with fail
        refine (CB.out _ HB3.out).mono ?_
        rintro e_ w4 ⟨rfl, rfl⟩
        go_wp2_with fail
        go_ret2
        exact ⟨ret_beX HE.out.symm rfl, HB3.out⟩
    · have k1 : (p.k == 1) = false := by rw [beq_eq_false_iff_ne]; first | rfl | omega
      have k2 : (p.k == 2) = true := by rw [hk]; first | rfl | omega
      have CI := Lib.hid (I2.out hk)
      clear hk I0 I1 I2
      go_enter Tryz.func48, Tryz.ntmps48
      go_wp2_with fail
      refine (CF.out).mono ?_
      rintro e_ w2 ⟨rfl, hb⟩
      have hb : Below W1.heap.size W1 w2 := by rw [HW1.out]; exact hb
      have hx2 := hbx.below hb hbx.lt
      have HX2 := Lib.hid hx2
      have HB2 := Lib.hid (hB1.trans (hb.mono hB1.size))
      have p0 : w2.cell? ⟨w.heap.size, 0, none⟩ = some (.int .i64 p.k) := hx2.cell 0
      have p1 : w2.cell? ⟨w.heap.size, 1, none⟩ = some (.int .u64 p.x.s) := hx2.cell 1
      have p2 : w2.cell? ⟨w.heap.size, 2, none⟩ = some (.int .u64 p.x.mi) := hx2.cell 2
      have p3 : w2.cell? ⟨w.heap.size, 3, none⟩ = some (.int .u64 p.x.h) := hx2.cell 3
      have p4 : w2.cell? ⟨w.heap.size, 4, none⟩ = some (.int .u64 p.x.d) := hx2.cell 4
      have p5 : w2.cell? ⟨w.heap.size, 5, none⟩ = some (.int .u64 p.x.mo) := hx2.cell 5
      have p6 : w2.cell? ⟨w.heap.size, 6, none⟩ = some (.int .u64 p.x.w) := hx2.cell 6
      have p7 : w2.cell? ⟨w.heap.size, 7, none⟩ = some (.bool p.x.ad) := hx2.cell 7
      have p8 : w2.cell? ⟨w.heap.size, 8, none⟩ = some (.bool p.x.aw) := hx2.cell 8
      have p9 : w2.cell? ⟨w.heap.size, 9, none⟩ = some (.int .i64 p.z) := hx2.cell 9
      have p10 : w2.cell? ⟨w.heap.size, 10, none⟩ = some (.int .i64 p.e.s) := hx2.cell 10
      have p11 : w2.cell? ⟨w.heap.size, 11, none⟩ = some (.int .i64 p.e.p) := hx2.cell 11
      have p12 : w2.cell? ⟨w.heap.size, 12, none⟩ = some (.int .i64 p.e.c) := hx2.cell 12
      have p13 : w2.cell? ⟨w.heap.size, 13, none⟩ = some (.slice p.a p.n p.c) := hx2.cell 13
      clear hb hbx hx2 hB1 CF
      go_wp2_with fail
      refine (CI.out _).mono ?_
      rintro e_ w3 ⟨rfl, hb⟩
      have HB3 := Lib.hid (HB2.out.trans (hb.mono HB2.out.size))
      have hx3 := HX2.out.below hb HX2.out.lt
      have q0 : w3.cell? ⟨w.heap.size, 0, none⟩ = some (.int .i64 p.k) := hx3.cell 0
      have q13 : w3.cell? ⟨w.heap.size, 13, none⟩ = some (.slice p.a p.n p.c) := hx3.cell 13
      clear hb hx3 p0 p1 p2 p3 p4 p5 p6 p7 p8 p9 p10 p11 p12 p13
      cases q
      · have HE : Hid (R = false) := Lib.hid HR.out
        go_wp2_with fail
        go_ret2
        exact ⟨ret_beX HE.out.symm rfl, HB3.out⟩
      · have HE : Hid (R = d) := Lib.hid (by rw [HR.out, HBD.out]; rfl)
        go_wp2_with fail
        refine (CB.out _ HB3.out).mono ?_
        rintro e_ w4 ⟨rfl, rfl⟩
        go_wp2_with fail
        go_ret2
        exact ⟨ret_beX HE.out.symm rfl, HB3.out⟩
  · have HR : Hid (R = false) := Lib.hid (by rw [← HR0.out, decide_eq_false hE]; rfl)
    have hne : (finE p l [t] == 0) = false := by rw [beq_eq_false_iff_ne]; exact hE
    have hne' : (finE p l [t] != 0) = true := by rw [bne, hne]; rfl
    clear HR0
    generalize finE p l [t] = E at *
    clear HVK hE HVT HI HP hbx
    go_enter Tryz.func48, Tryz.ntmps48
    go_wp2_with fail
    refine (CF.out).mono ?_
    rintro e_ w2 ⟨rfl, hb⟩
    have hb : Below W1.heap.size W1 w2 := by rw [HW1.out]; exact hb
    have HB2 := Lib.hid (hB1.trans (hb.mono hB1.size))
    clear hb CF hB1
    go_wp2_with fail
    go_ret2
    exact ⟨ret_beX HR.out.symm rfl, HB2.out⟩
end Go.Proofs.YtmdjfjdlehdhjaaGreatDoor.BW
namespace Go.Proofs.YtmdjfjdlehdhjaaGreatDoor.BW
open Go.RowKit BM Go.Shelf MC
open BK hiding ret_bool ret_i64

set_option maxRecDepth 8000 in
set_option maxHeartbeats 8000000 in
theorem rnx_ok (p : Pl) (l : List (Int × Int)) (hv : plE p l = 0) (t : Int) (ht : -1 ≤ t ∧ t ≤ 253402300799) (w : World) (h : PArg w p l) : Calls Tryz.prog 82 #[.agg (plV p), .int .i64 t] w fun r w' => r = .returned (.tuple #[.int .i64 (optI (nxP (isP p l) t)), .bool (nxP (isP p l) t).isSome]) ∧ Below w.heap.size w w' := by
  have hB1 : Below w.heap.size w (w.alloc (.cells (plV p) 29)) := (Below.refl _ w).alloc (Nat.le_refl _) _
  have HX1 := Lib.hid (Blk.new w 29 (plV p))
  have hf0 : finE p l [0] = 0 := by unfold finE; rw [if_pos hv]; exact timesR_one (by omega)
  have CI := Lib.hid (fun W (hW : Below w.heap.size w W) => rplis_ok p l 0 W (h.below hW))
  rw [hf0, decide_eq_true rfl, Bool.true_and] at CI
  have HF := Lib.hid (rfn_ok p h.x (plE_ok hv).1)
  have HSV := Lib.hid (spE_valid (plE_ok hv).2)
  have CBH := Lib.hid (fun t W (hw : Below w.heap.size w W) => behind_ok l p.a p.n p.c t h.n h.n9 W (h.at_.below hw))
  have HB1 := Lib.hid hB1
  have HTT := Lib.hid ht
  obtain ⟨R, hR⟩ : ∃ R, nxP (isP p l) t = R := ⟨_, rfl⟩
  rw [hR]
  have HR0 := Lib.hid hR
  have I1 := Lib.hid (fun (hk : p.k = 1) c W hc => HF.out.n1 hk c W hc)
  have I2 := Lib.hid (fun (hk : p.k = 2) c W hc => HF.out.n2 hk c W hc)
  have HZ0 : Hid (∀ t, p.k = 0 → nxP (qK p) t = none) := Lib.hid (fun t hk => frP_none.2 (fun m _ _ => (HF.out.k.elim (fun h => h.2 m) (fun h => by omega) : qK p m = false)))
  have hkk : p.k = 0 ∨ p.k = 1 ∨ p.k = 2 := HF.out.k.imp (fun h => h.1) id
  unfold exV at I1
  unfold evV at I2
  have e0 : plV p = #[.int .i64 p.k, .int .u64 p.x.s, .int .u64 p.x.mi, .int .u64 p.x.h, .int .u64 p.x.d, .int .u64 p.x.mo, .int .u64 p.x.w, .bool p.x.ad, .bool p.x.aw, .int .i64 p.z, .int .i64 p.e.s, .int .i64 p.e.p, .int .i64 p.e.c, .slice p.a p.n p.c] := rfl
  rw [e0] at CI
  rw [e0]
  clear h hv ht hR hf0 hB1 e0
  go_enter Tryz.func82, Tryz.ntmps82
  go_wp2_with fail
  go_loopw [1] (fun s1 wr => ∃ c : Int, (-1 ≤ c ∧ c ≤ 253402300799) ∧ s1 = .int .i64 c ∧ (Blk wr w.heap.size 29 (plV p) ∧ Below w.heap.size w wr) ∧ nxP (isP p l) c = R) (fun s1 _ => (253402300799 - iOf s1).natAbs)
  case atStart => exact ⟨t, HTT.out, rfl, ⟨HX1.out, HB1.out⟩, HR0.out⟩
  case round =>
    clear HTT HX1 HB1 HR0
    obtain ⟨c, hc, rfl, ⟨hx, hB⟩, hr⟩ := hrel
    have HR := Lib.hid hr
    have HX := Lib.hid hx
    have HB := Lib.hid hB
    have p0 : wr.cell? ⟨w.heap.size, 0, none⟩ = some (.int .i64 p.k) := hx.cell 0
    have p1 : wr.cell? ⟨w.heap.size, 1, none⟩ = some (.int .u64 p.x.s) := hx.cell 1
    have p2 : wr.cell? ⟨w.heap.size, 2, none⟩ = some (.int .u64 p.x.mi) := hx.cell 2
    have p3 : wr.cell? ⟨w.heap.size, 3, none⟩ = some (.int .u64 p.x.h) := hx.cell 3
    have p4 : wr.cell? ⟨w.heap.size, 4, none⟩ = some (.int .u64 p.x.d) := hx.cell 4
    have p5 : wr.cell? ⟨w.heap.size, 5, none⟩ = some (.int .u64 p.x.mo) := hx.cell 5
    have p6 : wr.cell? ⟨w.heap.size, 6, none⟩ = some (.int .u64 p.x.w) := hx.cell 6
    have p7 : wr.cell? ⟨w.heap.size, 7, none⟩ = some (.bool p.x.ad) := hx.cell 7
    have p8 : wr.cell? ⟨w.heap.size, 8, none⟩ = some (.bool p.x.aw) := hx.cell 8
    have p9 : wr.cell? ⟨w.heap.size, 9, none⟩ = some (.int .i64 p.z) := hx.cell 9
    have p10 : wr.cell? ⟨w.heap.size, 10, none⟩ = some (.int .i64 p.e.s) := hx.cell 10
    have p11 : wr.cell? ⟨w.heap.size, 11, none⟩ = some (.int .i64 p.e.p) := hx.cell 11
    have p12 : wr.cell? ⟨w.heap.size, 12, none⟩ = some (.int .i64 p.e.c) := hx.cell 12
    have p13 : wr.cell? ⟨w.heap.size, 13, none⟩ = some (.slice p.a p.n p.c) := hx.cell 13
    clear hr hx hB
    by_cases hneg : c < 0
    · have d0 : decide (c < 0) = true := decide_eq_true hneg
      have hcn : c + 1 ≤ 0 := by omega
      have HM1 : Hid (c = -1) := Lib.hid (by omega)
      have C := Lib.hid (CI.out wr HB.out)
      have HRA : Hid (isP p l 0 = true → R = some 0) := Lib.hid (fun hi => by rw [← HR.out, HM1.out, nxP_fr]; exact frP_hit hi (by decide))
      have HRB : Hid (isP p l 0 = false → nxP (isP p l) 0 = R) := Lib.hid (fun hi => by rw [← HR.out, HM1.out, nxP_fr (isP p l) (-1)]; exact (frP_miss hi).symm)
      cases hi : isP p l 0
      · have HRN := Lib.hid (HRB.out hi)
        rw [hi] at C
        have HC0 : Hid ((253402300799 - c).natAbs = 253402300800) := Lib.hid (by omega)
        clear hi HRA HRB HM1 hneg
        go_wp2_with fail
        refine (C.out).mono ?_
        rintro e_ w2 ⟨rfl, hb⟩
        have HB2 := Lib.hid (HB.out.trans (hb.mono HB.out.size))
        have hx2 := HX.out.below hb HX.out.lt
        have HX2 := Lib.hid hx2
        have q0 : w2.cell? ⟨w.heap.size, 0, none⟩ = some (.int .i64 p.k) := hx2.cell 0
        have q1 : w2.cell? ⟨w.heap.size, 1, none⟩ = some (.int .u64 p.x.s) := hx2.cell 1
        have q2 : w2.cell? ⟨w.heap.size, 2, none⟩ = some (.int .u64 p.x.mi) := hx2.cell 2
        have q3 : w2.cell? ⟨w.heap.size, 3, none⟩ = some (.int .u64 p.x.h) := hx2.cell 3
        have q4 : w2.cell? ⟨w.heap.size, 4, none⟩ = some (.int .u64 p.x.d) := hx2.cell 4
        have q5 : w2.cell? ⟨w.heap.size, 5, none⟩ = some (.int .u64 p.x.mo) := hx2.cell 5
        have q6 : w2.cell? ⟨w.heap.size, 6, none⟩ = some (.int .u64 p.x.w) := hx2.cell 6
        have q7 : w2.cell? ⟨w.heap.size, 7, none⟩ = some (.bool p.x.ad) := hx2.cell 7
        have q8 : w2.cell? ⟨w.heap.size, 8, none⟩ = some (.bool p.x.aw) := hx2.cell 8
        have q9 : w2.cell? ⟨w.heap.size, 9, none⟩ = some (.int .i64 p.z) := hx2.cell 9
        have q10 : w2.cell? ⟨w.heap.size, 10, none⟩ = some (.int .i64 p.e.s) := hx2.cell 10
        have q11 : w2.cell? ⟨w.heap.size, 11, none⟩ = some (.int .i64 p.e.p) := hx2.cell 11
        have q12 : w2.cell? ⟨w.heap.size, 12, none⟩ = some (.int .i64 p.e.c) := hx2.cell 12
        have q13 : w2.cell? ⟨w.heap.size, 13, none⟩ = some (.slice p.a p.n p.c) := hx2.cell 13
        clear hb hx2 p0 p1 p2 p3 p4 p5 p6 p7 p8 p9 p10 p11 p12 p13 HB HX C HR
        rcases hkk with hk | hk | hk
        · have HE : Hid (R = none) := Lib.hid (by rw [← HRN.out]; exact nx_none (HZ0.out _ hk))
          have k1 : (p.k == 1) = false := by rw [beq_eq_false_iff_ne]; omega
          have k2 : (p.k == 2) = false := by rw [beq_eq_false_iff_ne]; omega
          clear hk
          go_wp2_with fail
          go_ret2
          exact ⟨by rw [HE.out]; rfl, HB2.out⟩
        · have k1 : (p.k == 1) = true := by rw [hk]; first | rfl | omega
          have k2 : (p.k == 2) = false := by rw [beq_eq_false_iff_ne]; first | rfl | omega
          have CN := Lib.hid (I1.out hk 0 w2 (by omega))
          clear hk
          cases hn : nxP (qK p) 0 with
          | none =>
            have HE : Hid (R = none) := Lib.hid (by rw [← HRN.out]; exact nx_none hn)
            rw [hn] at CN
            simp only [optI, Option.getD_none, Option.isSome_none] at CN
            clear hn
            go_wp2_with fail
            refine (CN.out).mono ?_
            rintro e_ w5 ⟨rfl, hb⟩
            have HB5 := Lib.hid (HB2.out.trans (hb.mono HB2.out.size))
            have hx5 := HX2.out.below hb HX2.out.lt
            have r0 : w5.cell? ⟨w.heap.size, 0, none⟩ = some (.int .i64 p.k) := hx5.cell 0
            clear hb hx5 q0 q1 q2 q3 q4 q5 q6 q7 q8 q9 q10 q11 q12 q13
            go_wp2_with fail
            go_ret2
            exact ⟨by rw [HE.out]; rfl, HB5.out⟩
          | some n =>
            have hn3 := (frP_some.1 hn).1
            have hn1 : 0 + 1 ≤ n := hn3.1
            have hn2 : n ≤ 253402300799 := hn3.2.1
            have HEF : Hid (l.any (inS n) = false → R = some n) := Lib.hid (fun hf => by rw [← HRN.out]; exact nx_free hn hf)
            have HES : Hid (∀ e, n ≤ e → (∀ s, n ≤ s → s ≤ e → l.any (inS s) = true) → nxP (isP p l) e = R) := Lib.hid (fun e h1 h2 => by rw [← HRN.out]; exact (nx_skip hn h1 h2).symm)
            rw [hn] at CN
            simp only [optI, Option.getD_some, Option.isSome_some] at CN
            clear hn hn3
            go_wp2_with fail
            refine (CN.out).mono ?_
            rintro e_ w5 ⟨rfl, hb⟩
            have HB5 := Lib.hid (HB2.out.trans (hb.mono HB2.out.size))
            have hx5 := HX2.out.below hb HX2.out.lt
            have HX5 := Lib.hid hx5
            have r0 : w5.cell? ⟨w.heap.size, 0, none⟩ = some (.int .i64 p.k) := hx5.cell 0
            have r13 : w5.cell? ⟨w.heap.size, 13, none⟩ = some (.slice p.a p.n p.c) := hx5.cell 13
            have CB := Lib.hid (CBH.out n w5 HB5.out)
            have HON := Lib.hid (fun hb => bhV_on HSV.out (t := n) hb)
            have HD := Lib.hid (bhV_dec HSV.out n)
            generalize bhV l n = bv at *
            clear hb hx5 q0 q1 q2 q3 q4 q5 q6 q7 q8 q9 q10 q11 q12 q13 CN
            by_cases hbv : bv < 0
            · have d2 : decide (bv < 0) = true := decide_eq_true hbv
              have HE : Hid (R = some n) := Lib.hid (HEF.out (by have := HD.out; rw [d2] at this; simpa using this.symm))
              clear hbv
              go_wp2_with fail
              refine (CB.out).mono ?_
              rintro e_ w6 ⟨rfl, rfl⟩
              go_wp2_with fail
              go_ret2
              exact ⟨by rw [HE.out]; rfl, HB5.out⟩
            · have d2 : decide (bv < 0) = false := decide_eq_false hbv
              obtain ⟨hb1, hb2, hb3⟩ := HON.out hbv
              have HE := Lib.hid (HES.out bv hb1 hb3)
              clear hbv hb3
              go_wp2_with fail
              refine (CB.out).mono ?_
              rintro e_ w6 ⟨rfl, rfl⟩
              go_wp2_with fail
              refine ⟨⟨bv, by omega, rfl, ⟨HX5.out, HB5.out⟩, HE.out⟩, ?_⟩
              simp [iOf]; omega
        · have k1 : (p.k == 1) = false := by rw [beq_eq_false_iff_ne]; first | rfl | omega
          have k2 : (p.k == 2) = true := by rw [hk]; first | rfl | omega
          have CN := Lib.hid (I2.out hk 0 w2 (by omega))
          clear hk
          cases hn : nxP (qK p) 0 with
          | none =>
            have HE : Hid (R = none) := Lib.hid (by rw [← HRN.out]; exact nx_none hn)
            rw [hn] at CN
            simp only [optI, Option.getD_none, Option.isSome_none] at CN
            clear hn
            go_wp2_with fail
            refine (CN.out).mono ?_
            rintro e_ w5 ⟨rfl, hb⟩
            have HB5 := Lib.hid (HB2.out.trans (hb.mono HB2.out.size))
            have hx5 := HX2.out.below hb HX2.out.lt
            have r0 : w5.cell? ⟨w.heap.size, 0, none⟩ = some (.int .i64 p.k) := hx5.cell 0
            clear hb hx5 q0 q1 q2 q3 q4 q5 q6 q7 q8 q9 q10 q11 q12 q13
            go_wp2_with fail
            go_ret2
            exact ⟨by rw [HE.out]; rfl, HB5.out⟩
          | some n =>
            have hn3 := (frP_some.1 hn).1
            have hn1 : 0 + 1 ≤ n := hn3.1
            have hn2 : n ≤ 253402300799 := hn3.2.1
            have HEF : Hid (l.any (inS n) = false → R = some n) := Lib.hid (fun hf => by rw [← HRN.out]; exact nx_free hn hf)
            have HES : Hid (∀ e, n ≤ e → (∀ s, n ≤ s → s ≤ e → l.any (inS s) = true) → nxP (isP p l) e = R) := Lib.hid (fun e h1 h2 => by rw [← HRN.out]; exact (nx_skip hn h1 h2).symm)
            rw [hn] at CN
            simp only [optI, Option.getD_some, Option.isSome_some] at CN
            clear hn hn3
            go_wp2_with fail
            refine (CN.out).mono ?_
            rintro e_ w5 ⟨rfl, hb⟩
            have HB5 := Lib.hid (HB2.out.trans (hb.mono HB2.out.size))
            have hx5 := HX2.out.below hb HX2.out.lt
            have HX5 := Lib.hid hx5
            have r0 : w5.cell? ⟨w.heap.size, 0, none⟩ = some (.int .i64 p.k) := hx5.cell 0
            have r13 : w5.cell? ⟨w.heap.size, 13, none⟩ = some (.slice p.a p.n p.c) := hx5.cell 13
            have CB := Lib.hid (CBH.out n w5 HB5.out)
            have HON := Lib.hid (fun hb => bhV_on HSV.out (t := n) hb)
            have HD := Lib.hid (bhV_dec HSV.out n)
            generalize bhV l n = bv at *
            clear hb hx5 q0 q1 q2 q3 q4 q5 q6 q7 q8 q9 q10 q11 q12 q13 CN
            by_cases hbv : bv < 0
            · have d2 : decide (bv < 0) = true := decide_eq_true hbv
              have HE : Hid (R = some n) := Lib.hid (HEF.out (by have := HD.out; rw [d2] at this; simpa using this.symm))
              clear hbv
              go_wp2_with fail
              refine (CB.out).mono ?_
              rintro e_ w6 ⟨rfl, rfl⟩
              go_wp2_with fail
              go_ret2
              exact ⟨by rw [HE.out]; rfl, HB5.out⟩
            · have d2 : decide (bv < 0) = false := decide_eq_false hbv
              obtain ⟨hb1, hb2, hb3⟩ := HON.out hbv
              have HE := Lib.hid (HES.out bv hb1 hb3)
              clear hbv hb3
              go_wp2_with fail
              refine (CB.out).mono ?_
              rintro e_ w6 ⟨rfl, rfl⟩
              go_wp2_with fail
              refine ⟨⟨bv, by omega, rfl, ⟨HX5.out, HB5.out⟩, HE.out⟩, ?_⟩
              simp [iOf]; omega
      · have HE := Lib.hid (HRA.out hi)
        rw [hi] at C
        clear hi HRA HRB HM1 hneg
        go_wp2_with fail
        refine (C.out).mono ?_
        rintro e_ w2 ⟨rfl, hb⟩
        have HB2 := Lib.hid (HB.out.trans (hb.mono HB.out.size))
        clear hb
        go_wp2_with fail
        go_ret2
        exact ⟨by rw [HE.out]; rfl, HB2.out⟩
    · have d0 : decide (c < 0) = false := decide_eq_false hneg
      rcases hkk with hk | hk | hk
      · have HE : Hid (R = none) := Lib.hid (by rw [← HR.out]; exact nx_none (HZ0.out _ hk))
        have k1 : (p.k == 1) = false := by rw [beq_eq_false_iff_ne]; omega
        have k2 : (p.k == 2) = false := by rw [beq_eq_false_iff_ne]; omega
        clear hk
        go_wp2_with fail
        go_ret2
        exact ⟨by rw [HE.out]; rfl, HB.out⟩
      · have k1 : (p.k == 1) = true := by rw [hk]; first | rfl | omega
        have k2 : (p.k == 2) = false := by rw [beq_eq_false_iff_ne]; first | rfl | omega
        have CN := Lib.hid (I1.out hk c wr (by omega))
        clear hk
        cases hn : nxP (qK p) c with
        | none =>
          have HE : Hid (R = none) := Lib.hid (by rw [← HR.out]; exact nx_none hn)
          rw [hn] at CN
          simp only [optI, Option.getD_none, Option.isSome_none] at CN
          clear hn
          go_wp2_with fail
          refine (CN.out).mono ?_
          rintro e_ w5 ⟨rfl, hb⟩
          have HB5 := Lib.hid (HB.out.trans (hb.mono HB.out.size))
          have hx5 := HX.out.below hb HX.out.lt
          have r0 : w5.cell? ⟨w.heap.size, 0, none⟩ = some (.int .i64 p.k) := hx5.cell 0
          clear hb hx5 p0 p1 p2 p3 p4 p5 p6 p7 p8 p9 p10 p11 p12 p13
          go_wp2_with fail
          go_ret2
          exact ⟨by rw [HE.out]; rfl, HB5.out⟩
        | some n =>
          have hn3 := (frP_some.1 hn).1
          have hn1 : c + 1 ≤ n := hn3.1
          have hn2 : n ≤ 253402300799 := hn3.2.1
          have HEF : Hid (l.any (inS n) = false → R = some n) := Lib.hid (fun hf => by rw [← HR.out]; exact nx_free hn hf)
          have HES : Hid (∀ e, n ≤ e → (∀ s, n ≤ s → s ≤ e → l.any (inS s) = true) → nxP (isP p l) e = R) := Lib.hid (fun e h1 h2 => by rw [← HR.out]; exact (nx_skip hn h1 h2).symm)
          rw [hn] at CN
          simp only [optI, Option.getD_some, Option.isSome_some] at CN
          clear hn hn3
          go_wp2_with fail
          refine (CN.out).mono ?_
          rintro e_ w5 ⟨rfl, hb⟩
          have HB5 := Lib.hid (HB.out.trans (hb.mono HB.out.size))
          have hx5 := HX.out.below hb HX.out.lt
          have HX5 := Lib.hid hx5
          have r0 : w5.cell? ⟨w.heap.size, 0, none⟩ = some (.int .i64 p.k) := hx5.cell 0
          have r13 : w5.cell? ⟨w.heap.size, 13, none⟩ = some (.slice p.a p.n p.c) := hx5.cell 13
          have CB := Lib.hid (CBH.out n w5 HB5.out)
          have HON := Lib.hid (fun hb => bhV_on HSV.out (t := n) hb)
          have HD := Lib.hid (bhV_dec HSV.out n)
          generalize bhV l n = bv at *
          clear hb hx5 p0 p1 p2 p3 p4 p5 p6 p7 p8 p9 p10 p11 p12 p13 CN
          by_cases hbv : bv < 0
          · have d2 : decide (bv < 0) = true := decide_eq_true hbv
            have HE : Hid (R = some n) := Lib.hid (HEF.out (by have := HD.out; rw [d2] at this; simpa using this.symm))
            clear hbv
            go_wp2_with fail
            refine (CB.out).mono ?_
            rintro e_ w6 ⟨rfl, rfl⟩
            go_wp2_with fail
            go_ret2
            exact ⟨by rw [HE.out]; rfl, HB5.out⟩
          · have d2 : decide (bv < 0) = false := decide_eq_false hbv
            obtain ⟨hb1, hb2, hb3⟩ := HON.out hbv
            have HE := Lib.hid (HES.out bv hb1 hb3)
            clear hbv hb3
            go_wp2_with fail
            refine (CB.out).mono ?_
            rintro e_ w6 ⟨rfl, rfl⟩
            go_wp2_with fail
            refine ⟨⟨bv, by omega, rfl, ⟨HX5.out, HB5.out⟩, HE.out⟩, ?_⟩
            simp [iOf]; omega
      · have k1 : (p.k == 1) = false := by rw [beq_eq_false_iff_ne]; first | rfl | omega
        have k2 : (p.k == 2) = true := by rw [hk]; first | rfl | omega
        have CN := Lib.hid (I2.out hk c wr (by omega))
        clear hk
        cases hn : nxP (qK p) c with
        | none =>
          have HE : Hid (R = none) := Lib.hid (by rw [← HR.out]; exact nx_none hn)
          rw [hn] at CN
          simp only [optI, Option.getD_none, Option.isSome_none] at CN
          clear hn
          go_wp2_with fail
          refine (CN.out).mono ?_
          rintro e_ w5 ⟨rfl, hb⟩
          have HB5 := Lib.hid (HB.out.trans (hb.mono HB.out.size))
          have hx5 := HX.out.below hb HX.out.lt
          have r0 : w5.cell? ⟨w.heap.size, 0, none⟩ = some (.int .i64 p.k) := hx5.cell 0
          clear hb hx5 p0 p1 p2 p3 p4 p5 p6 p7 p8 p9 p10 p11 p12 p13
          go_wp2_with fail
          go_ret2
          exact ⟨by rw [HE.out]; rfl, HB5.out⟩
        | some n =>
          have hn3 := (frP_some.1 hn).1
          have hn1 : c + 1 ≤ n := hn3.1
          have hn2 : n ≤ 253402300799 := hn3.2.1
          have HEF : Hid (l.any (inS n) = false → R = some n) := Lib.hid (fun hf => by rw [← HR.out]; exact nx_free hn hf)
          have HES : Hid (∀ e, n ≤ e → (∀ s, n ≤ s → s ≤ e → l.any (inS s) = true) → nxP (isP p l) e = R) := Lib.hid (fun e h1 h2 => by rw [← HR.out]; exact (nx_skip hn h1 h2).symm)
          rw [hn] at CN
          simp only [optI, Option.getD_some, Option.isSome_some] at CN
          clear hn hn3
          go_wp2_with fail
          refine (CN.out).mono ?_
          rintro e_ w5 ⟨rfl, hb⟩
          have HB5 := Lib.hid (HB.out.trans (hb.mono HB.out.size))
          have hx5 := HX.out.below hb HX.out.lt
          have HX5 := Lib.hid hx5
          have r0 : w5.cell? ⟨w.heap.size, 0, none⟩ = some (.int .i64 p.k) := hx5.cell 0
          have r13 : w5.cell? ⟨w.heap.size, 13, none⟩ = some (.slice p.a p.n p.c) := hx5.cell 13
          have CB := Lib.hid (CBH.out n w5 HB5.out)
          have HON := Lib.hid (fun hb => bhV_on HSV.out (t := n) hb)
          have HD := Lib.hid (bhV_dec HSV.out n)
          generalize bhV l n = bv at *
          clear hb hx5 p0 p1 p2 p3 p4 p5 p6 p7 p8 p9 p10 p11 p12 p13 CN
          by_cases hbv : bv < 0
          · have d2 : decide (bv < 0) = true := decide_eq_true hbv
            have HE : Hid (R = some n) := Lib.hid (HEF.out (by have := HD.out; rw [d2] at this; simpa using this.symm))
            clear hbv
            go_wp2_with fail
            refine (CB.out).mono ?_
            rintro e_ w6 ⟨rfl, rfl⟩
            go_wp2_with fail
            go_ret2
            exact ⟨by rw [HE.out]; rfl, HB5.out⟩
          · have d2 : decide (bv < 0) = false := decide_eq_false hbv
            obtain ⟨hb1, hb2, hb3⟩ := HON.out hbv
            have HE := Lib.hid (HES.out bv hb1 hb3)
            clear hbv hb3
            go_wp2_with fail
            refine (CB.out).mono ?_
            rintro e_ w6 ⟨rfl, rfl⟩
            go_wp2_with fail
            refine ⟨⟨bv, by omega, rfl, ⟨HX5.out, HB5.out⟩, HE.out⟩, ?_⟩
            simp [iOf]; omega
/-- The answer of Next, which looks at the plan first. -/
theorem nxQ_ok {p : Pl} {l : List (Int × Int)} {t : Int} (h : finE p l [t] = 0) : nxQ p l t = nxP (isP p l) t := if_pos h
theorem nxQ_bad {p : Pl} {l : List (Int × Int)} {t : Int} (h : finE p l [t] ≠ 0) : nxQ p l t = none := if_neg h
theorem finE_plE {p : Pl} {l : List (Int × Int)} {ts : List Int} (h : finE p l ts = 0) : plE p l = 0 := by
  unfold finE at h
  split at h
  · assumption
  · cases h
set_option maxRecDepth 8000 in
set_option maxHeartbeats 4000000 in
theorem rplnx_ok (p : Pl) (l : List (Int × Int)) (t : Int) (w : World) (h : PArg w p l) : Calls Tryz.prog 49 #[.agg (plV p), .int .i64 t] w fun r w' => r = .returned (.tuple #[.int .i64 (optI (nxQ p l t)), .bool (nxQ p l t).isSome, .int .i64 (finE p l [t])]) ∧ Below w.heap.size w w' := by
  obtain ⟨W1, hW1⟩ : ∃ W1, W1 = (w.alloc (.cells (plV p) 29)).alloc (.cells #[.int .i64 t] 2) := ⟨_, rfl⟩
  have hB1 : Below w.heap.size w W1 := by rw [hW1]; exact ((Below.refl _ w).alloc (Nat.le_refl _) _).alloc (by simp) _
  have hbx : Blk W1 w.heap.size 29 (plV p) := by rw [hW1]; exact (Blk.new w _ _).alloc _
  have hts : Blk W1 (w.heap.size + 1) 2 #[.int .i64 t] := by rw [hW1]; exact Blk.newAt (by simp)
  have CF := Lib.hid (rck_ok p l [t] (some ⟨w.heap.size + 1, 0, none⟩) 1 1 rfl (by decide) W1 (h.below hB1) (fun k hk => by
    have : k = 0 := by simpa using hk
    subst this; exact ⟨_, _, rfl, hts.cell 0⟩))
  have HW1 := Lib.hid hW1
  have HN := Lib.hid (fun (hh : finE p l [t] = 0) W (hW : Below w.heap.size w W) => rnx_ok p l (finE_plE hh) t (by have := (finE_ok hh).2.2 t (by simp); omega) W (h.below hW))
  have HQ1 := Lib.hid (fun hh => nxQ_ok (p := p) (l := l) (t := t) hh)
  have HQ2 := Lib.hid (fun hh => nxQ_bad (p := p) (l := l) (t := t) hh)
  obtain ⟨R, hR⟩ : ∃ R, nxQ p l t = R := ⟨_, rfl⟩
  rw [hR] at HQ1 HQ2 ⊢
  rw [hW1] at CF
  have e0 : plV p = #[.int .i64 p.k, .int .u64 p.x.s, .int .u64 p.x.mi, .int .u64 p.x.h, .int .u64 p.x.d, .int .u64 p.x.mo, .int .u64 p.x.w, .bool p.x.ad, .bool p.x.aw, .int .i64 p.z, .int .i64 p.e.s, .int .i64 p.e.p, .int .i64 p.e.c, .slice p.a p.n p.c] := rfl
  rw [e0] at CF HN
  rw [e0]
  clear h hW1 hts hR e0
  by_cases hE : finE p l [t] = 0
  · have CN := Lib.hid (HN.out hE)
    rw [← HQ1.out hE] at CN
    rw [hE] at CF
    rw [hE]
    clear HN HQ1 HQ2 hE
    go_enter Tryz.func49, Tryz.ntmps49
    go_wp2_with fail
    refine (CF.out).mono ?_
    rintro e_ w2 ⟨rfl, hb⟩
    have hb : Below W1.heap.size W1 w2 := by rw [HW1.out]; exact hb
    have hx2 := hbx.below hb hbx.lt
    have HB2 := Lib.hid (hB1.trans (hb.mono hB1.size))
    have p0 : w2.cell? ⟨w.heap.size, 0, none⟩ = some (.int .i64 p.k) := hx2.cell 0
    have p1 : w2.cell? ⟨w.heap.size, 1, none⟩ = some (.int .u64 p.x.s) := hx2.cell 1
    have p2 : w2.cell? ⟨w.heap.size, 2, none⟩ = some (.int .u64 p.x.mi) := hx2.cell 2
    have p3 : w2.cell? ⟨w.heap.size, 3, none⟩ = some (.int .u64 p.x.h) := hx2.cell 3
    have p4 : w2.cell? ⟨w.heap.size, 4, none⟩ = some (.int .u64 p.x.d) := hx2.cell 4
    have p5 : w2.cell? ⟨w.heap.size, 5, none⟩ = some (.int .u64 p.x.mo) := hx2.cell 5
    have p6 : w2.cell? ⟨w.heap.size, 6, none⟩ = some (.int .u64 p.x.w) := hx2.cell 6
    have p7 : w2.cell? ⟨w.heap.size, 7, none⟩ = some (.bool p.x.ad) := hx2.cell 7
    have p8 : w2.cell? ⟨w.heap.size, 8, none⟩ = some (.bool p.x.aw) := hx2.cell 8
    have p9 : w2.cell? ⟨w.heap.size, 9, none⟩ = some (.int .i64 p.z) := hx2.cell 9
    have p10 : w2.cell? ⟨w.heap.size, 10, none⟩ = some (.int .i64 p.e.s) := hx2.cell 10
    have p11 : w2.cell? ⟨w.heap.size, 11, none⟩ = some (.int .i64 p.e.p) := hx2.cell 11
    have p12 : w2.cell? ⟨w.heap.size, 12, none⟩ = some (.int .i64 p.e.c) := hx2.cell 12
    have p13 : w2.cell? ⟨w.heap.size, 13, none⟩ = some (.slice p.a p.n p.c) := hx2.cell 13
    clear hb hbx hx2 hB1 CF
    go_wp2_with fail
    refine (CN.out _ HB2.out).mono ?_
    rintro e_ w3 ⟨rfl, hb⟩
    have HB3 := Lib.hid (HB2.out.trans (hb.mono HB2.out.size))
    clear hb
    go_wp2_with fail
    go_ret3
    exact ⟨rfl, HB3.out⟩
  · have HR : Hid (R = none) := Lib.hid (HQ2.out hE)
    have hne : (finE p l [t] == 0) = false := by rw [beq_eq_false_iff_ne]; exact hE
    have hne' : (finE p l [t] != 0) = true := by rw [bne, hne]; rfl
    clear HN HQ1 HQ2
    generalize finE p l [t] = E at *
    clear hE hbx
    go_enter Tryz.func49, Tryz.ntmps49
    go_wp2_with fail
    refine (CF.out).mono ?_
    rintro e_ w2 ⟨rfl, hb⟩
    have hb : Below W1.heap.size W1 w2 := by rw [HW1.out]; exact hb
    have HB2 := Lib.hid (hB1.trans (hb.mono hB1.size))
    clear hb CF hB1
    go_wp2_with fail
    go_ret3
    exact ⟨by rw [HR.out]; rfl, HB2.out⟩
end Go.Proofs.YtmdjfjdlehdhjaaGreatDoor.BW
namespace Go.Proofs.YtmdjfjdlehdhjaaGreatDoor.BW
open Go.RowKit BM Go.Shelf MC RK
open BK hiding ret_bool ret_i64

end Go.Proofs.YtmdjfjdlehdhjaaGreatDoor.BW
namespace Go.Proofs.YtmdjfjdlehdhjaaGreatDoor.BW
open Go.RowKit BM Go.Shelf MC
open BK hiding ret_bool ret_i64

end Go.Proofs.YtmdjfjdlehdhjaaGreatDoor.BW
