/- The walk of wakemanlaw35.AdmitHolds. -/
import Derived.Test.YtpgckpafjiojfaaGreatDoorAJp
import Derived.Deep.OwnRows
import Derived.Deep.CutBlock
namespace Go.Proofs.YtpgckpafjiojfaaGreatDoor.AD
open Go Go.RowKit BW
open BK (Bx BoxAt Blk only_refl only_drew only_drewN only_setCell only_trans only_of_below only_alloc below_drewN)
theorem info_sl : (Tryz.prog.info? 37).map (fun i => (i.zero, i.size, i.bytes)) = some (some (.slice none 0 0), 1, 24) := by kernel_rfl
theorem info_in : (Tryz.prog.info? 3).map (fun i => (i.zero, i.size, i.bytes)) = some (some (.int .i64 0), 1, 8) := by kernel_rfl
theorem info_il : (Tryz.prog.info? 2).map (fun i => (i.zero, i.size, i.bytes)) = some (some (.int .i64 0), 1, 8) := by kernel_rfl
theorem info_la : (Tryz.prog.info? 62).map (fun i => (i.zero, i.size, i.bytes)) = some (some (.agg #[.int .i64 0, .int .i64 0]), 2, 16) := by kernel_rfl
theorem la_news {W : World} {b : Nat} {p : La} (h : Blk W b 62 (laC p).toArray) : ∀ (j : Nat) (u : Value), [Value.int .i64 p.1, .int .i64 p.2][j]? = some u → W.cell? ((⟨b, 0, none⟩ : Addr).add j) = some u := fun j u hj => by
  match j, hj with
  | 0, hj => simp at hj; subst hj; exact h.cell 0
  | 1, hj => simp at hj; subst hj; exact h.cell 1
  | j + 2, hj => simp at hj
theorem smT_in (t : Nat) : 0 ≤ smT t ∧ smT t ≤ 7 := by unfold smT; omega
theorem smA_in (t tau : Nat) : 0 ≤ smA t tau ∧ smA t tau ≤ 31 := by unfold smA; split <;> omega
/-- keeps over a row that the call owns. -/
theorem keeps_own {T : Nat} {v : Value} {ps : List La} {l : Lm} {now : Int} (hg : GsP l ps) (hl : l.last ≤ now) (h9 : now ≤ 1000) (hn : ps.length ≤ 60) (ht : 0 ≤ l.t ∧ l.t ≤ 7) (ha : 0 ≤ l.tau ∧ l.tau ≤ 31) (W : World) (ho : OwnL T v ps W) :
    Calls Tryz.prog 15 #[v, .agg #[.int .i64 l.t, .int .i64 l.tau]] W fun e w' => e = .returned (.bool true) ∧ Below W.heap.size W w' := by
  obtain ⟨a, cap, rfl, h1, h2⟩ := ho.lies
  have hlen : (timesOf ps).length = ps.length := by unfold timesOf; rw [List.length_map]
  exact keeps_ok a ps.length cap (timesOf ps) hlen hn h1 l.t l.tau ht ha (hg.small hl h9) hg.pairs W h2
set_option maxRecDepth 100000 in
set_option maxHeartbeats 8000000 in
theorem holds_walk (a : Option Addr) (rs : List Rl) (n c lim tau most : Nat) (ma : Option Addr) (ms : List Mv) (mn mc : Nat) (hn : rs.length = n) (hnc : n ≤ c) (h9 : n ≤ 9223372036854775807) (h1 : lim < 256) (h2 : tau < 256) (h3 : most < 256) (hmn : ms.length = mn) (hmc : mn ≤ mc) (hm9 : mn ≤ 9223372036854775807) (w : World) (hR : RulesAt w a rs) (hM : MovesAt w ma ms) (hT : SpTab w) (hTab : Tab w) :
    Calls Tryz.prog 3 #[.slice a n c, .int .u8 lim, .int .u8 tau, .int .u8 most, .slice ma mn mc] w fun e w' => e = .returned (.bool true) ∧ Below w.heap.size w w' := by
  have TT := Lib.hid (fun W (hb : Below w.heap.size w W) => And.intro (hT.below hb) (tab_below hTab hb (tab_lt hTab)))
  have HM := Lib.hid (fun W (hb : Below w.heap.size w W) => MovesAt.below hM hb)
  have HMN := Lib.hid hmn
  have MD := Lib.hid (made_any rs a n c hn lim tau most h1 h2 h3 h9 hnc w hR)
  clear hT hTab hM hR hn hmn
  go_enter Tryz.func3, Tryz.ntmps3
  go_wp2_with fail
  refine (MD.out).mono ?_
  rintro e_ w1 ⟨qs, m, g, c', hq, hm0, hm4, rfl, ho, hb⟩
  have O1 := Lib.hid ho
  have B1 := Lib.hid hb
  have HQ := Lib.hid hq
  clear ho hb MD hq
  go_upto_region 2 with fail
  obtain ⟨W2, hW2⟩ : ∃ W2, W2 = w1.alloc (.cells #[.int .i64 (1 + (most : Int) % 8), .int .i64 1, .int .i64 0, .int .i64 1, .int .u64 0, .int .i64 (smT lim), .int .i64 (smA lim tau), .slice (some ⟨g, 0, none⟩) m c'] 31) := ⟨_, rfl⟩
  have hb2 : Below w1.heap.size w1 W2 := by rw [hW2]; exact (Below.refl _ _).alloc (Nat.le_refl _) _
  have O2 := Lib.hid (own_mono (own_below O1.out hb2) (Nat.le_refl _))
  have C2 : Hid (Blk W2 w1.heap.size 31 #[.int .i64 (1 + (most : Int) % 8), .int .i64 1, .int .i64 0, .int .i64 1, .int .u64 0, .int .i64 (smT lim), .int .i64 (smA lim tau), .slice (some ⟨g, 0, none⟩) m c']) := Lib.hid (by rw [hW2]; exact Blk.new _ _ _)
  have B2 := Lib.hid (B1.out.trans (hb2.mono B1.out.size))
  rw [← hW2]
  generalize w1.heap.size = cb at *
  clear hW2 hb2 O1 B1
  have k0 : W2.cell? ⟨cb, 0, none⟩ = some (.int .i64 (1 + (most : Int) % 8)) := C2.out.cell 0
  have k1 : W2.cell? ⟨cb, 1, none⟩ = some (.int .i64 1) := C2.out.cell 1
  have k2 : W2.cell? ⟨cb, 2, none⟩ = some (.int .i64 0) := C2.out.cell 2
  have k3 : W2.cell? ⟨cb, 3, none⟩ = some (.int .i64 1) := C2.out.cell 3
  have k4 : W2.cell? ⟨cb, 4, none⟩ = some (.int .u64 0) := C2.out.cell 4
  have k5 : W2.cell? ⟨cb, 5, none⟩ = some (.int .i64 (smT lim)) := C2.out.cell 5
  have k6 : W2.cell? ⟨cb, 6, none⟩ = some (.int .i64 (smA lim tau)) := C2.out.cell 6
  have k7 : W2.cell? ⟨cb, 7, none⟩ = some (.slice (some ⟨g, 0, none⟩) m c') := C2.out.cell 7
  have HCF : Hid (CfOk (madeG lim tau most) (madeFrom 0 qs)) := Lib.hid (made_cfok qs (by rw [HQ.out]; exact hm4) lim tau most)
  have NW := Lib.hid (gnew_yes ⟨madeG lim tau most, some ⟨g, 0, none⟩, m, c'⟩ (madeFrom 0 qs) W2 (made_arg O2.out HQ.out hm4 (TT.out W2 B2.out).1 (TT.out W2 B2.out).2) HCF.out)
  go_wp2_with fail
  refine (NW.out).mono ?_
  rintro e_ w3 ⟨Y, rfl, hg, hs, hb⟩
  have HG3 : Hid (GHas w.heap.size w w3 Y (g0 (madeG lim tau most) (madeFrom 0 qs))) := Lib.hid ⟨hg, B2.out.trans (hb.mono B2.out.size), fun i hi => Nat.le_trans B2.out.size (hs i (.inl (by rw [show (g0 (madeG lim tau most) (madeFrom 0 qs)).js.length = (madeFrom 0 qs).length from List.length_map ..] at hi; exact hi))), Nat.le_refl _⟩
  have HGN : Hid ((g0 (madeG lim tau most) (madeFrom 0 qs)).js.length = m) := Lib.hid (by show ((madeFrom 0 qs).map jt0).length = m; rw [List.length_map, madeFrom_len]; exact HQ.out)
  have C3 := Lib.hid (C2.out.below hb C2.out.lt)
  have O3 : Hid (OwnsC w.heap.size (.slice (some ⟨g, 0, none⟩) m c') (madeFrom 0 qs) w3) := Lib.hid (own_below O2.out hb)
  clear hg hs hb NW C2 O2 B2 k0 k1 k2 k3 k4 k5 k6 k7
  have HMK1 := Lib.hid (run_make_row' (P := Tryz.prog) 38 37 (.slice none 0 0) 24 Tryz.underlying38 info_sl rfl .i64 .i64 m (by omega) (by omega))
  have HMK2 := Lib.hid (run_make_row' (P := Tryz.prog) 39 3 (.int .i64 0) 8 Tryz.underlying39 info_in rfl .i64 .i64 m (by omega) (by omega))
  have HMK3 := Lib.hid (run_make_row' (P := Tryz.prog) 40 2 (.int .i64 0) 8 Tryz.underlying40 info_il rfl .i64 .i64 m (by omega) (by omega))
  go_upto_region 7 with fail
  refine wp_region_put (R := R7 cb m (.slice (some ⟨g, 0, none⟩) m c') w3) (by kernel_rfl) (by kernel_rfl) (by kernel_rfl) (by kernel_rfl) ?_ ?_ ?_
  · intro v
    exact ⟨fun i hi => (rep_not hi).elim, fun hz => (rep_not hz).elim, fun hz => (rep_not hz).elim, fun hz => (rep_not hz).elim, (Below.refl _ _).drew⟩
  · intro Q' K_ listed v wx i o hsz ho hli ha hR hK
    have HV := Lib.hid hR
    have dep := fun d hd => hR.pl d (dep_listed ha d hd)
    have hi : i < 15 := (List.getElem?_eq_some_iff.1 ho).1
    clear hR hsz
    obtain rfl | rfl | rfl | rfl | rfl | rfl | rfl | rfl | rfl | rfl | rfl | rfl | rfl | rfl | rfl : i = 0 ∨ i = 1 ∨ i = 2 ∨ i = 3 ∨ i = 4 ∨ i = 5 ∨ i = 6 ∨ i = 7 ∨ i = 8 ∨ i = 9 ∨ i = 10 ∨ i = 11 ∨ i = 12 ∨ i = 13 ∨ i = 14 := by omega
    · -- operation 0
      cases ho
      simp only [putFrom, Act.put, List.setIfInBounds_toArray, List.set_cons_succ, List.set_cons_zero] at hK ⊢
      go_simp
      exact hK _ _ (HV.out.step hli (Below.refl _ _) rfl (fun e => by cases e) (fun e => by cases e) (fun e => by cases e))
    · -- operation 1
      cases ho
      have h0 := dep 0 (by kernel_rfl)
      replace h0 : v 0 = _ := h0
      have k7 : wx.cell? ⟨cb, 7, none⟩ = some (.slice (some ⟨g, 0, none⟩) m c') := (C3.out.below HV.out.bel C3.out.lt).cell 7
      simp only [putFrom, Act.put, List.setIfInBounds_toArray, List.set_cons_succ, List.set_cons_zero, h0] at hK ⊢
      go_simp
      exact hK _ _ (HV.out.step hli (Below.refl _ _) rfl (fun e => by cases e) (fun e => by cases e) (fun e => by cases e))
    · -- operation 2
      cases ho
      have h1 := dep 1 (by kernel_rfl)
      replace h1 : v 1 = _ := h1
      simp only [putFrom, Act.put, List.setIfInBounds_toArray, List.set_cons_succ, List.set_cons_zero, h1] at hK ⊢
      go_simp
      exact hK _ _ (HV.out.step hli (Below.refl _ _) rfl (fun e => by cases e) (fun e => by cases e) (fun e => by cases e))
    · -- operation 3
      cases ho
      have h2 := dep 2 (by kernel_rfl)
      replace h2 : v 2 = _ := h2
      have mk := HMK1.out wx
      simp only [putFrom, Act.put, List.setIfInBounds_toArray, List.set_cons_succ, List.set_cons_zero, h2] at hK ⊢
      go_simp
      exact hK _ _ (HV.out.step hli ((Below.refl _ _).alloc (Nat.le_refl _) _) ⟨rfl, HV.out.bel.size, Blk.new _ _ _⟩ (fun e => by cases e) (fun e => by cases e) (fun e => by cases e))
    · -- operation 4
      cases ho
      simp only [putFrom, Act.put, List.setIfInBounds_toArray, List.set_cons_succ, List.set_cons_zero] at hK ⊢
      go_simp
      exact hK _ _ (HV.out.step hli (Below.refl _ _) rfl (fun e => by cases e) (fun e => by cases e) (fun e => by cases e))
    · -- operation 5
      cases ho
      have h4 := dep 4 (by kernel_rfl)
      replace h4 : v 4 = _ := h4
      have k7 : wx.cell? ⟨cb, 7, none⟩ = some (.slice (some ⟨g, 0, none⟩) m c') := (C3.out.below HV.out.bel C3.out.lt).cell 7
      simp only [putFrom, Act.put, List.setIfInBounds_toArray, List.set_cons_succ, List.set_cons_zero, h4] at hK ⊢
      go_simp
      exact hK _ _ (HV.out.step hli (Below.refl _ _) rfl (fun e => by cases e) (fun e => by cases e) (fun e => by cases e))
    · -- operation 6
      cases ho
      have h5 := dep 5 (by kernel_rfl)
      replace h5 : v 5 = _ := h5
      simp only [putFrom, Act.put, List.setIfInBounds_toArray, List.set_cons_succ, List.set_cons_zero, h5] at hK ⊢
      go_simp
      exact hK _ _ (HV.out.step hli (Below.refl _ _) rfl (fun e => by cases e) (fun e => by cases e) (fun e => by cases e))
    · -- operation 7
      cases ho
      have h6 := dep 6 (by kernel_rfl)
      replace h6 : v 6 = _ := h6
      have mk := HMK2.out wx
      simp only [putFrom, Act.put, List.setIfInBounds_toArray, List.set_cons_succ, List.set_cons_zero, h6] at hK ⊢
      go_simp
      exact hK _ _ (HV.out.step hli ((Below.refl _ _).alloc (Nat.le_refl _) _) ⟨rfl, HV.out.bel.size, Blk.new _ _ _⟩ (fun e => by cases e) (fun e => by cases e) (fun e => by cases e))
    · -- operation 8
      cases ho
      simp only [putFrom, Act.put, List.setIfInBounds_toArray, List.set_cons_succ, List.set_cons_zero] at hK ⊢
      go_simp
      exact hK _ _ (HV.out.step hli (Below.refl _ _) rfl (fun e => by cases e) (fun e => by cases e) (fun e => by cases e))
    · -- operation 9
      cases ho
      have h8 := dep 8 (by kernel_rfl)
      replace h8 : v 8 = _ := h8
      have k7 : wx.cell? ⟨cb, 7, none⟩ = some (.slice (some ⟨g, 0, none⟩) m c') := (C3.out.below HV.out.bel C3.out.lt).cell 7
      simp only [putFrom, Act.put, List.setIfInBounds_toArray, List.set_cons_succ, List.set_cons_zero, h8] at hK ⊢
      go_simp
      exact hK _ _ (HV.out.step hli (Below.refl _ _) rfl (fun e => by cases e) (fun e => by cases e) (fun e => by cases e))
    · -- operation 10
      cases ho
      have h9 := dep 9 (by kernel_rfl)
      replace h9 : v 9 = _ := h9
      simp only [putFrom, Act.put, List.setIfInBounds_toArray, List.set_cons_succ, List.set_cons_zero, h9] at hK ⊢
      go_simp
      exact hK _ _ (HV.out.step hli (Below.refl _ _) rfl (fun e => by cases e) (fun e => by cases e) (fun e => by cases e))
    · -- operation 11
      cases ho
      have h10 := dep 10 (by kernel_rfl)
      replace h10 : v 10 = _ := h10
      have mk := HMK3.out wx
      simp only [putFrom, Act.put, List.setIfInBounds_toArray, List.set_cons_succ, List.set_cons_zero, h10] at hK ⊢
      go_simp
      exact hK _ _ (HV.out.step hli ((Below.refl _ _).alloc (Nat.le_refl _) _) ⟨rfl, HV.out.bel.size, Blk.new _ _ _⟩ (fun e => by cases e) (fun e => by cases e) (fun e => by cases e))
    · -- operation 12
      cases ho
      simp only [putFrom, Act.put, List.setIfInBounds_toArray, List.set_cons_succ, List.set_cons_zero] at hK ⊢
      go_simp
      exact hK _ _ (HV.out.step hli (Below.refl _ _) trivial (fun _ => ⟨rfl, dep_listed ha 3 (by kernel_rfl)⟩) (fun e => by cases e) (fun e => by cases e))
    · -- operation 13
      cases ho
      simp only [putFrom, Act.put, List.setIfInBounds_toArray, List.set_cons_succ, List.set_cons_zero] at hK ⊢
      go_simp
      exact hK _ _ (HV.out.step hli (Below.refl _ _) trivial (fun e => by cases e) (fun _ => ⟨rfl, dep_listed ha 7 (by kernel_rfl)⟩) (fun e => by cases e))
    · -- operation 14
      cases ho
      simp only [putFrom, Act.put, List.setIfInBounds_toArray, List.set_cons_succ, List.set_cons_zero] at hK ⊢
      go_simp
      exact hK _ _ (HV.out.step hli (Below.refl _ _) trivial (fun e => by cases e) (fun e => by cases e) (fun _ => ⟨rfl, dep_listed ha 11 (by kernel_rfl)⟩))
  · intro v listed w9 hall hR
    have m3 : Md w3 w9 37 (.slice none 0 0) m (v 3) := hR.pl 3 (hall 3 (by decide))
    have m7 : Md w3 w9 3 (.int .i64 0) m (v 7) := hR.pl 7 (hall 7 (by decide))
    have m11 : Md w3 w9 2 (.int .i64 0) m (v 11) := hR.pl 11 (hall 11 (by decide))
    have h12 := (hR.a12 (hall 12 (by decide))).1.trans m3.1
    have h13 := (hR.a13 (hall 13 (by decide))).1.trans m7.1
    have h14 := (hR.a14 (hall 14 (by decide))).1.trans m11.1
    have M3 := Lib.hid m3.2
    have M7 := Lib.hid m7.2
    have M11 := Lib.hid m11.2
    have HB9 := Lib.hid hR.bel
    clear m3 m7 m11 hR hall
    generalize blkS (v 3) = ob at h12 M3
    generalize blkS (v 7) = rb at h13 M7
    generalize blkS (v 11) = ub at h14 M11
    simp only [putFrom, Act.put, List.setIfInBounds_toArray, List.set_cons_succ, List.set_cons_zero, h12, h13, h14, Nat.zero_add, Nat.reduceAdd]
    clear h12 h13 h14
    generalize v 0 = v0
    generalize v 1 = v1
    generalize v 2 = v2
    generalize v 3 = v3
    generalize v 4 = v4
    generalize v 5 = v5
    generalize v 6 = v6
    generalize v 7 = v7
    generalize v 8 = v8
    generalize v 9 = v9
    generalize v 10 = v10
    generalize v 11 = v11
    clear v
    obtain ⟨T, hT_⟩ : ∃ T, T = w3.heap.size := ⟨_, rfl⟩
    have J0 : Hid (HoJ w.heap.size T w cb m #[.int .i64 (1 + (most : Int) % 8), .int .i64 1, .int .i64 0, .int .i64 1, .int .u64 0, .int .i64 (smT lim), .int .i64 (smA lim tau), .slice (some ⟨g, 0, none⟩) m c'] Y rb ub ob (.slice (some ⟨g, 0, none⟩) m c') (madeFrom 0 qs) (madeG lim tau most) 0 50 (g0 (madeG lim tau most) (madeFrom 0 qs)) (.slice none 0 0) (fun _ => .slice none 0 0) [] (fun _ => []) (fun _ => 0) (fun _ => 0) w9) := Lib.hid (by
      have h1 := HG3.out.bel.size
      have hB : w.heap.size ≤ T := by omega
      refine ⟨⟨HG3.out.below HB9.out, C3.out.below HB9.out C3.out.lt, HGN.out, ⟨_, M7.out.2, fun k hk => made_get hk⟩, ⟨_, M11.out.2, fun k hk => made_get hk⟩, ⟨_, M3.out.2, fun k hk => made_get hk⟩, ⟨rfl, .inl ⟨rfl, rfl⟩⟩, fun k hk => ⟨rfl, .inl ⟨rfl, rfl⟩⟩, fun k hk gg hgg => (by cases hgg), fun k hk i hi hik gg hgg => (by cases hgg), fun i hi => by rw [hT_]; exact HG3.out.g.lt (by rw [HGN.out]; exact hi), ⟨by rw [hT_]; exact M7.out.1, by rw [hT_]; exact M11.out.1, by rw [hT_]; exact M3.out.1, hB⟩, own_below O3.out HB9.out⟩, hoP_new _ _, sm_made qs lim tau most, pol_new HCF.out, fun q j hj => ?_, Nat.le_refl _, fun _ => Nat.le_refl _, by omega⟩
      have hj : ((madeFrom 0 qs).map jt0)[q]? = some j := hj
      rw [List.getElem?_map] at hj
      cases hL : (madeFrom 0 qs)[q]? with
      | none => rw [hL] at hj; cases hj
      | some y =>
        rw [hL] at hj
        injection hj with hj
        subst hj
        rfl)
    clear M3 M7 M11 HB9 HG3 HGN C3 O3 hT_ HMK1 HMK2 HMK3
    obtain ⟨mm, HMM⟩ : ∃ mm, Hid (mm = min mn 60) := ⟨_, Lib.hid rfl⟩
    have hm : min (mn : Int) 60 = (mm : Int) := by have := HMM.out; omega
    have hmc3 : mm ≤ mc := by have := HMM.out; omega
    have hmn3 : mm ≤ mn := by have := HMM.out; omega
    have hm60 : mm ≤ 60 := by have := HMM.out; omega
    have hNz : ((m : Int) == 0) = false := by rw [beq_eq_false_iff_ne]; omega
    go_wp2_with fail
    go_loopw [14, 15, 16, 61] (fun s14 s15 s16 s61 wr => ∃ k : Nat, k ≤ mm ∧ s61 = .int .i64 k ∧ ∃ (now : Int) (x : Gt) (av : Value) (sv : Nat → Value) (all : List La) (one : Nat → List La) (rn un : Nat → Int), s14 = .int .i64 now ∧ s15 = .int .i64 x.total ∧ av = s16 ∧ HoJ w.heap.size T w cb m #[.int .i64 (1 + (most : Int) % 8), .int .i64 1, .int .i64 0, .int .i64 1, .int .u64 0, .int .i64 (smT lim), .int .i64 (smA lim tau), .slice (some ⟨g, 0, none⟩) m c'] Y rb ub ob (.slice (some ⟨g, 0, none⟩) m c') (madeFrom 0 qs) (madeG lim tau most) k now x av sv all one rn un wr) (fun _ _ _ s61 _ => mm - intA s61)
    case atStart => exact ⟨0, Nat.zero_le _, rfl, 50, _, _, _, _, _, _, _, rfl, by rw [show (g0 (madeG lim tau most) (madeFrom 0 qs)).total = 0 from sumR_zero _], rfl, J0.out⟩
    case round =>
      obtain ⟨k, hk, rfl, now, x, av, sv, all, one, rn, un, rfl, rfl, rfl, hJ⟩ := hrel
      have J1 := Lib.hid hJ
      clear hJ J0 hm
      rcases Nat.lt_or_ge k mm with hlt | hge
      · have hkl : k < ms.length := by rw [HMN.out]; omega
        obtain ⟨b, off, hmb, hcl, hok⟩ := (HM.out wr J1.out.i.h.bel) k hkl
        obtain ⟨mv, hmv⟩ : ∃ mv, ms[k] = mv := ⟨_, rfl⟩
        rw [hmv] at hcl hok
        rw [hmb]
        have c0 : wr.cell? ⟨b, off + k * 3, none⟩ = some (.int .u8 mv.ah) := hcl 0 (by decide)
        have c1 : wr.cell? ⟨b, off + k * 3 + 1, none⟩ = some (.int .u8 mv.job) := hcl 1 (by decide)
        have c2 : wr.cell? ⟨b, off + k * 3 + 2, none⟩ = some (.int .u8 mv.kind) := hcl 2 (by decide)
        obtain ⟨ho1, ho2, ho3⟩ := hok
        clear hcl hmv hkl hmb
        obtain ⟨t, HT⟩ : ∃ t : Int, Hid (now + (mv.ah : Int) % 8 = t) := ⟨_, Lib.hid rfl⟩
        have htj := J1.out.t
        have ht1 : now ≤ t := by have := HT.out; omega
        have ht9 : t ≤ 50 + 7 * ((k + 1 : Nat) : Int) := by have := HT.out; omega
        have ht3 : 50 ≤ t ∧ t ≤ 470 := by omega
        go_upto_region 11 with fail
        obtain ⟨X1, hX1⟩ : ∃ X1, X1 = wr.alloc (.cells #[.int .u8 mv.ah, .int .u8 mv.job, .int .u8 mv.kind] 42) := ⟨_, rfl⟩
        have hbX : Below wr.heap.size wr X1 := by rw [hX1]; exact (Below.refl _ _).alloc (Nat.le_refl _) _
        have MB : Hid (Blk X1 wr.heap.size 42 #[.int .u8 mv.ah, .int .u8 mv.job, .int .u8 mv.kind]) := Lib.hid (by rw [hX1]; exact Blk.new _ _ _)
        have J1' := Lib.hid (J1.out.below hbX)
        rw [← hX1]
        generalize wr.heap.size = mb at *
        clear hX1 hbX c0 c1 c2 J1
        have d0 : X1.cell? ⟨mb, 0, none⟩ = some (.int .u8 mv.ah) := MB.out.cell 0
        have d1 : X1.cell? ⟨mb, 1, none⟩ = some (.int .u8 mv.job) := MB.out.cell 1
        have d2 : X1.cell? ⟨mb, 2, none⟩ = some (.int .u8 mv.kind) := MB.out.cell 2
        have k7 : X1.cell? ⟨cb, 7, none⟩ = some (.slice (some ⟨g, 0, none⟩) m c') := J1'.out.i.c.cell 7
        have hs := HT.out
        have hw1 : IntKind.i64.wrap (now + (mv.ah : Int) % 8) = t := by rw [IntWalk.i64_in _ (by omega)]; exact hs
        go_upto_region 12 with fail
        clear hs hw1
        go_upto_region 13 with fail
        obtain ⟨kv, hkv⟩ : ∃ kv : Nat, kv = mv.job % m := ⟨_, rfl⟩
        have hkm : kv < m := by rw [hkv]; exact Nat.mod_lt _ hm0
        have hcast : (mv.job : Int) % (m : Int) = (kv : Int) := by rw [hkv]; exact (Int.natCast_emod _ _).symm
        rw [hcast]
        clear hcast hkv
        have HXN := Lib.hid J1'.out.i.n
        obtain ⟨j, hj⟩ : ∃ j, x.js[kv]? = some j := ⟨_, List.getElem?_eq_getElem (by rw [HXN.out]; exact hkm)⟩
        have HJ := Lib.hid hj
        obtain ⟨r, hr, hLk⟩ := made_at (rs := qs) (k := kv) (by rw [madeFrom_len, HQ.out]; exact hkm)
        have hLs : (madeFrom 0 qs)[kv]? = some (jbR kv r, []) := by rw [← hLk]; exact List.getElem?_eq_getElem _
        have HYP := Lib.hid hLs
        have hjb : JbAt X1 g (kv * 30) (jbR kv r) := fun i hi => by
          have h := J1'.out.i.jobs.cell kv i (by rw [madeFrom_len, HQ.out]; exact hkm) hi
          rw [hLk] at h
          exact h
        have hjp := J1'.out.q.js kv _ _ hLs hj
        obtain ⟨yp, hyp⟩ : ∃ yp, polR r = yp := ⟨_, rfl⟩
        have hjy : (jbR kv r).y = yp := hyp
        have HYV : Hid ((jbR kv r).y = yp) := Lib.hid hjy
        have HYS : Hid ((0 ≤ yp.t ∧ yp.t ≤ 7) ∧ (0 ≤ yp.tau ∧ yp.tau ≤ 31)) := Lib.hid (by rw [← hyp]; exact ⟨smT_in _, smA_in _ _⟩)
        have hin := J1'.out.i.h.g.inv.js _ (List.mem_of_getElem? hj)
        have HYB : Hid (j.bx.o = yp.o ∧ 0 ≤ j.bx.f ∧ (0 ≤ j.bx.o ∧ j.bx.o ≤ 68719476736)) := Lib.hid ⟨by rw [← hjy]; exact hjp.o, hin.2.2.2.small.1, hin.2.2.2.small.2.2.1, hin.2.2.2.small.2.2.2.1⟩
        have HYF : Hid (j.bx.f = yp.f) := Lib.hid (by rw [← hjy]; exact hjp.f)
        have LP0 := hjb.pol
        rw [hjy] at LP0
        have LP := Lib.hid LP0
        have SP := Lib.hid (Go.run_storeVar_new (P := Tryz.prog) X1 55 (poV zPo) (poV yp) po_info rfl (by simp [poV, Value.oneCell']))
        have hjr : 0 ≤ j.runs ∧ j.runs ≤ 1000 := by have := hin.2.1; have := hin.1; omega
        have htx : 0 ≤ x.total ∧ x.total ≤ 64000 := by
          have h1 := sumR_bounds (l := x.js) (fun j hj => by have := J1'.out.i.h.g.inv.js j hj; omega)
          have h2 := J1'.out.i.h.g.inv.n
          unfold Gt.total
          omega
        clear hin hjp hjy hyp LP0 hjb hLk hLs hr hj
        go_upto_region 14 with (first | (refine wpList_load_by rfl 55 _ rfl g (kv * 30 + 15) (.agg (poV yp)) rfl LP.out ?_) | (refine wpList_store_by rfl 55 _ _ rfl X1.heap.size 0 (.agg (poV yp)) _ rfl rfl SP.out ?_))
        obtain ⟨X2, hX2⟩ : ∃ X2, X2 = X1.alloc (.cells (poV yp) 55) := ⟨_, rfl⟩
        have hbX : Below X1.heap.size X1 X2 := by rw [hX2]; exact (Below.refl _ _).alloc (Nat.le_refl _) _
        have P2 : Hid (Blk X2 X1.heap.size 55 (poV yp)) := Lib.hid (by rw [hX2]; exact Blk.new _ _ _)
        have J2 := Lib.hid (J1'.out.below hbX)
        have MB2 := Lib.hid (MB.out.below hbX MB.out.lt)
        rw [← hX2]
        generalize X1.heap.size = pb at *
        clear hX2 hbX LP SP J1' MB d0 d1 d2 k7
        have d2 : X2.cell? ⟨mb, 2, none⟩ = some (.int .u8 mv.kind) := MB2.out.cell 2
        go_upto_block 2 with fail
        clear d2 MB2
        have hk16 : (mv.kind : Int) % 16 < 16 ∧ 0 ≤ (mv.kind : Int) % 16 := by omega
        go_cut [15, 16, 25, 26, 27] from 62 to 275 (fun s15 s16 _ _ _ wx => ∃ (x2 : Gt) (av2 : Value) (sv2 : Nat → Value) (all2 : List La) (one2 : Nat → List La) (rn2 un2 : Nat → Int), s15 = .int .i64 x2.total ∧ av2 = s16 ∧ HoJ w.heap.size T w cb m #[.int .i64 (1 + (most : Int) % 8), .int .i64 1, .int .i64 0, .int .i64 1, .int .u64 0, .int .i64 (smT lim), .int .i64 (smA lim tau), .slice (some ⟨g, 0, none⟩) m c'] Y rb ub ob (.slice (some ⟨g, 0, none⟩) m c') (madeFrom 0 qs) (madeG lim tau most) (k + 1) t x2 av2 sv2 all2 one2 rn2 un2 wx ∧ Blk wx pb 55 (poV yp))
        case first =>
          have p8 : X2.cell? ⟨pb, 8, none⟩ = some (.int .i64 yp.f) := P2.out.cell 8
          rcases Nat.lt_or_ge (mv.kind % 16) 5 with hk5 | hk5
          · have q5 : decide ((mv.kind : Int) % 16 < 5) = true := by simp; omega
            clear p8
            rcases ho_give J2.out.i.h.g.inv J2.out.s J2.out.p ht1 (by omega) (by omega) HJ.out (decide ((mv.kind : Int) % 16 < 3)) with ⟨hr0, he⟩ | ⟨hr1, ev, bx, he, hev, hp2⟩
            · as_aux_lemma =>
                have HE := Lib.hid he
                go_wp2_with fail
                refine (gh_give J2.out.i.h kv (decide ((mv.kind : Int) % 16 < 3)) t HE.out).mono ?_
                rintro e_ X3 ⟨rfl, h, hk⟩
                have JL := Lib.hid (J2.out.later ht1 ht9)
                have J3 : Hid (HoJ w.heap.size T w cb m #[.int .i64 (1 + (most : Int) % 8), .int .i64 1, .int .i64 0, .int .i64 1, .int .u64 0, .int .i64 (smT lim), .int .i64 (smA lim tau), .slice (some ⟨g, 0, none⟩) m c'] Y rb ub ob (.slice (some ⟨g, 0, none⟩) m c') (madeFrom 0 qs) (madeG lim tau most) (k + 1) t x av sv all one rn un X3) := Lib.hid ⟨JL.out.i.go h hk rfl, JL.out.p, JL.out.s, JL.out.q, JL.out.rn, JL.out.la, JL.out.lo, JL.out.t⟩
                have PB := Lib.hid (hk _ _ _ P2.out (by decide) (by decide) (by decide) (by decide))
                clear h hk he HE JL J2 P2
                obtain ⟨rc, hrb, hrv⟩ := J3.out.i.r
                have cr : X3.cell? ⟨rb, kv, none⟩ = some (.int .i64 0) := by rw [hrb.cell, hrv kv hkm]; show some (Value.int .i64 (rn kv)) = _; rw [J3.out.rn kv j HJ.out, hr0]
                clear hrb hrv rc
                go_wp2_with fail
                go_meet
                exact ⟨x, av, sv, all, one, rn, un, by first | rfl | (rw [HTOT.out]), rfl, J3.out, PB.out⟩
            · rcases hev with rfl | rfl | rfl
              · as_aux_lemma =>
                  have HE := Lib.hid he
                  have HP2 : Hid (HoP ⟨x.cap, x.both, x.js.set kv ⟨j.cap, j.runs - 1, j.lm, bx⟩, t⟩ t all one (un)) := Lib.hid (by have h := hp2; simpa using h)
                  have HSM2 : Hid (Sm (⟨x.cap, x.both, x.js.set kv ⟨j.cap, j.runs - 1, j.lm, bx⟩, t⟩) t) := Lib.hid (by have h := J2.out.s.give ht1 (by omega) kv (decide ((mv.kind : Int) % 16 < 3)); rw [HE.out] at h; exact h)
                  have HQ2 : Hid (PolOk (madeG lim tau most) (madeFrom 0 qs) (⟨x.cap, x.both, x.js.set kv ⟨j.cap, j.runs - 1, j.lm, bx⟩, t⟩)) := Lib.hid (by have h := (pol_cl (madeG lim tau most) (madeFrom 0 qs)).give x kv (decide ((mv.kind : Int) % 16 < 3)) t J2.out.q; rw [HE.out] at h; exact h)
                  clear hp2
                  go_wp2_with fail
                  refine (gh_give J2.out.i.h kv (decide ((mv.kind : Int) % 16 < 3)) t HE.out).mono ?_
                  rintro e_ X3 ⟨rfl, h, hk⟩
                  have I3 := Lib.hid (J2.out.i.go h hk List.length_set)
                  have RN3 := Lib.hid (rn_set J2.out.rn kv ⟨j.cap, j.runs - 1, j.lm, bx⟩ (c := x.cap) (b := x.both) (t := t))
                  have LE3 : Hid (all.length ≤ k + 1 ∧ ∀ q, (one q).length ≤ k + 1) := Lib.hid ⟨Nat.le_succ_of_le J2.out.la, fun q => Nat.le_succ_of_le (J2.out.lo q)⟩
                  have T3 : Hid (50 ≤ t ∧ t ≤ 50 + 7 * ((k + 1 : Nat) : Int)) := Lib.hid ⟨by have := J2.out.t; omega, ht9⟩
                  have HTOT : Hid ((⟨x.cap, x.both, x.js.set kv ⟨j.cap, j.runs - 1, j.lm, bx⟩, t⟩ : Gt).total = x.total - 1) := Lib.hid (by show sumR (x.js.set kv _) = _; rw [sumR_set HJ.out]; show sumR x.js + (j.runs - 1 - j.runs) = sumR x.js - 1; omega)
                  have PB3 := Lib.hid (hk _ _ _ P2.out (by decide) (by decide) (by decide) (by decide))
                  have hrnj := J2.out.rn kv j HJ.out
                  clear h hk he HE J2 P2
                  obtain ⟨rc, hrb, hrv⟩ := I3.out.r
                  have cr : X3.cell? ⟨rb, kv, none⟩ = some (.int .i64 j.runs) := by rw [hrb.cell, hrv kv hkm]; show some (Value.int .i64 (rn kv)) = _; rw [hrnj]
                  have fr : X3.frozen? ⟨rb, kv, none⟩ = false := hrb.frozen kv
                  have PB4 := Lib.hid (PB3.out.far (p := ⟨rb, kv, none⟩) (blk_ne PB3.out hrb (by decide)) (.int .i64 (j.runs - 1)))
                  clear hrb hrv rc hrnj
                  have qr1 : decide (0 < j.runs) = true := decide_eq_true hr1
                  have hwr : IntKind.i64.wrap (j.runs - 1) = j.runs - 1 := IntWalk.i64_in _ (by omega)
                  have hwt : IntKind.i64.wrap (x.total - 1) = x.total - 1 := IntWalk.i64_in _ (by omega)
                  go_upto_region 31 with fail
                  have I4 := Lib.hid (I3.out.setR hkm (j.runs - 1))
                  obtain ⟨X4, hX4⟩ : ∃ X4, X4 = X3.setCell ⟨rb, kv, none⟩ (.int .i64 (j.runs - 1)) := ⟨_, rfl⟩
                  rw [← hX4] at I4 PB4 ⊢
                  clear hX4 cr fr hwr hwt qr1 I3 PB3
                  have PB := PB4
                  have J5 : Hid (HoJ w.heap.size T w cb m #[.int .i64 (1 + (most : Int) % 8), .int .i64 1, .int .i64 0, .int .i64 1, .int .u64 0, .int .i64 (smT lim), .int .i64 (smA lim tau), .slice (some ⟨g, 0, none⟩) m c'] Y rb ub ob (.slice (some ⟨g, 0, none⟩) m c') (madeFrom 0 qs) (madeG lim tau most) (k + 1) t (⟨x.cap, x.both, x.js.set kv ⟨j.cap, j.runs - 1, j.lm, bx⟩, t⟩) av sv all one (updI rn kv (j.runs - 1)) un X4) := Lib.hid ⟨I4.out, HP2.out, HSM2.out, HQ2.out, RN3.out, LE3.out.1, LE3.out.2, T3.out⟩
                  clear I4 HP2 HSM2 HQ2 RN3 LE3 T3 PB4
                  go_wp2_with fail
                  go_meet
                  exact ⟨⟨x.cap, x.both, x.js.set kv ⟨j.cap, j.runs - 1, j.lm, bx⟩, t⟩, av, sv, all, one, updI rn kv (j.runs - 1), un, by first | rfl | (rw [HTOT.out]), rfl, J5.out, PB.out⟩
              · as_aux_lemma =>
                  have HE := Lib.hid he
                  have HP2 : Hid (HoP ⟨x.cap, x.both, x.js.set kv ⟨j.cap, j.runs - 1, j.lm, bx⟩, t⟩ t all one (updI un kv (t + j.bx.o))) := Lib.hid (by have h := hp2; simpa using h)
                  have HSM2 : Hid (Sm (⟨x.cap, x.both, x.js.set kv ⟨j.cap, j.runs - 1, j.lm, bx⟩, t⟩) t) := Lib.hid (by have h := J2.out.s.give ht1 (by omega) kv (decide ((mv.kind : Int) % 16 < 3)); rw [HE.out] at h; exact h)
                  have HQ2 : Hid (PolOk (madeG lim tau most) (madeFrom 0 qs) (⟨x.cap, x.both, x.js.set kv ⟨j.cap, j.runs - 1, j.lm, bx⟩, t⟩)) := Lib.hid (by have h := (pol_cl (madeG lim tau most) (madeFrom 0 qs)).give x kv (decide ((mv.kind : Int) % 16 < 3)) t J2.out.q; rw [HE.out] at h; exact h)
                  clear hp2
                  go_wp2_with fail
                  refine (gh_give J2.out.i.h kv (decide ((mv.kind : Int) % 16 < 3)) t HE.out).mono ?_
                  rintro e_ X3 ⟨rfl, h, hk⟩
                  have I3 := Lib.hid (J2.out.i.go h hk List.length_set)
                  have RN3 := Lib.hid (rn_set J2.out.rn kv ⟨j.cap, j.runs - 1, j.lm, bx⟩ (c := x.cap) (b := x.both) (t := t))
                  have LE3 : Hid (all.length ≤ k + 1 ∧ ∀ q, (one q).length ≤ k + 1) := Lib.hid ⟨Nat.le_succ_of_le J2.out.la, fun q => Nat.le_succ_of_le (J2.out.lo q)⟩
                  have T3 : Hid (50 ≤ t ∧ t ≤ 50 + 7 * ((k + 1 : Nat) : Int)) := Lib.hid ⟨by have := J2.out.t; omega, ht9⟩
                  have HTOT : Hid ((⟨x.cap, x.both, x.js.set kv ⟨j.cap, j.runs - 1, j.lm, bx⟩, t⟩ : Gt).total = x.total - 1) := Lib.hid (by show sumR (x.js.set kv _) = _; rw [sumR_set HJ.out]; show sumR x.js + (j.runs - 1 - j.runs) = sumR x.js - 1; omega)
                  have PB3 := Lib.hid (hk _ _ _ P2.out (by decide) (by decide) (by decide) (by decide))
                  have hrnj := J2.out.rn kv j HJ.out
                  clear h hk he HE J2 P2
                  obtain ⟨rc, hrb, hrv⟩ := I3.out.r
                  have cr : X3.cell? ⟨rb, kv, none⟩ = some (.int .i64 j.runs) := by rw [hrb.cell, hrv kv hkm]; show some (Value.int .i64 (rn kv)) = _; rw [hrnj]
                  have fr : X3.frozen? ⟨rb, kv, none⟩ = false := hrb.frozen kv
                  have PB4 := Lib.hid (PB3.out.far (p := ⟨rb, kv, none⟩) (blk_ne PB3.out hrb (by decide)) (.int .i64 (j.runs - 1)))
                  clear hrb hrv rc hrnj
                  have qr1 : decide (0 < j.runs) = true := decide_eq_true hr1
                  have hwr : IntKind.i64.wrap (j.runs - 1) = j.runs - 1 := IntWalk.i64_in _ (by omega)
                  have hwt : IntKind.i64.wrap (x.total - 1) = x.total - 1 := IntWalk.i64_in _ (by omega)
                  go_upto_region 31 with fail
                  have I4 := Lib.hid (I3.out.setR hkm (j.runs - 1))
                  obtain ⟨X4, hX4⟩ : ∃ X4, X4 = X3.setCell ⟨rb, kv, none⟩ (.int .i64 (j.runs - 1)) := ⟨_, rfl⟩
                  rw [← hX4] at I4 PB4 ⊢
                  clear hX4 cr fr hwr hwt qr1 I3 PB3
                  obtain ⟨uc, hub, huv⟩ := I4.out.u
                  have cu : X4.cell? ⟨ub, kv, none⟩ = some (.int .i64 (un kv)) := by rw [hub.cell]; exact huv kv hkm
                  have fu : X4.frozen? ⟨ub, kv, none⟩ = false := hub.frozen kv
                  have PB := Lib.hid (PB4.out.far (p := ⟨ub, kv, none⟩) (blk_ne PB4.out hub (by decide)) (.int .i64 (t + j.bx.o)))
                  clear hub huv uc
                  have p9 : X4.cell? ⟨pb, 9, none⟩ = some (.int .i64 j.bx.o) := by rw [HYB.out.1]; exact PB4.out.cell 9
                  have hwo : IntKind.i64.wrap (t + j.bx.o) = t + j.bx.o := IntWalk.i64_in _ (by have := HYB.out.2.2; omega)
                  have I5 := Lib.hid (I4.out.setU hkm (t + j.bx.o))
                  have J5 : Hid (HoJ w.heap.size T w cb m #[.int .i64 (1 + (most : Int) % 8), .int .i64 1, .int .i64 0, .int .i64 1, .int .u64 0, .int .i64 (smT lim), .int .i64 (smA lim tau), .slice (some ⟨g, 0, none⟩) m c'] Y rb ub ob (.slice (some ⟨g, 0, none⟩) m c') (madeFrom 0 qs) (madeG lim tau most) (k + 1) t (⟨x.cap, x.both, x.js.set kv ⟨j.cap, j.runs - 1, j.lm, bx⟩, t⟩) av sv all one (updI rn kv (j.runs - 1)) (updI un kv (t + j.bx.o)) (X4.setCell ⟨ub, kv, none⟩ (.int .i64 (t + j.bx.o)))) := Lib.hid ⟨I5.out, HP2.out, HSM2.out, HQ2.out, RN3.out, LE3.out.1, LE3.out.2, T3.out⟩
                  clear I5 HP2 HSM2 HQ2 RN3 LE3 T3 I4 PB4
                  go_wp2_with fail
                  go_meet
                  exact ⟨⟨x.cap, x.both, x.js.set kv ⟨j.cap, j.runs - 1, j.lm, bx⟩, t⟩, av, sv, all, one, updI rn kv (j.runs - 1), updI un kv (t + j.bx.o), by first | rfl | (rw [HTOT.out]), rfl, J5.out, PB.out⟩
              · as_aux_lemma =>
                  have HE := Lib.hid he
                  have HP2 : Hid (HoP ⟨x.cap, x.both, x.js.set kv ⟨j.cap, j.runs - 1, j.lm, bx⟩, t⟩ t all one (un)) := Lib.hid (by have h := hp2; simpa using h)
                  have HSM2 : Hid (Sm (⟨x.cap, x.both, x.js.set kv ⟨j.cap, j.runs - 1, j.lm, bx⟩, t⟩) t) := Lib.hid (by have h := J2.out.s.give ht1 (by omega) kv (decide ((mv.kind : Int) % 16 < 3)); rw [HE.out] at h; exact h)
                  have HQ2 : Hid (PolOk (madeG lim tau most) (madeFrom 0 qs) (⟨x.cap, x.both, x.js.set kv ⟨j.cap, j.runs - 1, j.lm, bx⟩, t⟩)) := Lib.hid (by have h := (pol_cl (madeG lim tau most) (madeFrom 0 qs)).give x kv (decide ((mv.kind : Int) % 16 < 3)) t J2.out.q; rw [HE.out] at h; exact h)
                  clear hp2
                  go_wp2_with fail
                  refine (gh_give J2.out.i.h kv (decide ((mv.kind : Int) % 16 < 3)) t HE.out).mono ?_
                  rintro e_ X3 ⟨rfl, h, hk⟩
                  have I3 := Lib.hid (J2.out.i.go h hk List.length_set)
                  have RN3 := Lib.hid (rn_set J2.out.rn kv ⟨j.cap, j.runs - 1, j.lm, bx⟩ (c := x.cap) (b := x.both) (t := t))
                  have LE3 : Hid (all.length ≤ k + 1 ∧ ∀ q, (one q).length ≤ k + 1) := Lib.hid ⟨Nat.le_succ_of_le J2.out.la, fun q => Nat.le_succ_of_le (J2.out.lo q)⟩
                  have T3 : Hid (50 ≤ t ∧ t ≤ 50 + 7 * ((k + 1 : Nat) : Int)) := Lib.hid ⟨by have := J2.out.t; omega, ht9⟩
                  have HTOT : Hid ((⟨x.cap, x.both, x.js.set kv ⟨j.cap, j.runs - 1, j.lm, bx⟩, t⟩ : Gt).total = x.total - 1) := Lib.hid (by show sumR (x.js.set kv _) = _; rw [sumR_set HJ.out]; show sumR x.js + (j.runs - 1 - j.runs) = sumR x.js - 1; omega)
                  have PB3 := Lib.hid (hk _ _ _ P2.out (by decide) (by decide) (by decide) (by decide))
                  have hrnj := J2.out.rn kv j HJ.out
                  clear h hk he HE J2 P2
                  obtain ⟨rc, hrb, hrv⟩ := I3.out.r
                  have cr : X3.cell? ⟨rb, kv, none⟩ = some (.int .i64 j.runs) := by rw [hrb.cell, hrv kv hkm]; show some (Value.int .i64 (rn kv)) = _; rw [hrnj]
                  have fr : X3.frozen? ⟨rb, kv, none⟩ = false := hrb.frozen kv
                  have PB4 := Lib.hid (PB3.out.far (p := ⟨rb, kv, none⟩) (blk_ne PB3.out hrb (by decide)) (.int .i64 (j.runs - 1)))
                  clear hrb hrv rc hrnj
                  have qr1 : decide (0 < j.runs) = true := decide_eq_true hr1
                  have hwr : IntKind.i64.wrap (j.runs - 1) = j.runs - 1 := IntWalk.i64_in _ (by omega)
                  have hwt : IntKind.i64.wrap (x.total - 1) = x.total - 1 := IntWalk.i64_in _ (by omega)
                  go_upto_region 31 with fail
                  have I4 := Lib.hid (I3.out.setR hkm (j.runs - 1))
                  obtain ⟨X4, hX4⟩ : ∃ X4, X4 = X3.setCell ⟨rb, kv, none⟩ (.int .i64 (j.runs - 1)) := ⟨_, rfl⟩
                  rw [← hX4] at I4 PB4 ⊢
                  clear hX4 cr fr hwr hwt qr1 I3 PB3
                  have PB := PB4
                  have J5 : Hid (HoJ w.heap.size T w cb m #[.int .i64 (1 + (most : Int) % 8), .int .i64 1, .int .i64 0, .int .i64 1, .int .u64 0, .int .i64 (smT lim), .int .i64 (smA lim tau), .slice (some ⟨g, 0, none⟩) m c'] Y rb ub ob (.slice (some ⟨g, 0, none⟩) m c') (madeFrom 0 qs) (madeG lim tau most) (k + 1) t (⟨x.cap, x.both, x.js.set kv ⟨j.cap, j.runs - 1, j.lm, bx⟩, t⟩) av sv all one (updI rn kv (j.runs - 1)) un X4) := Lib.hid ⟨I4.out, HP2.out, HSM2.out, HQ2.out, RN3.out, LE3.out.1, LE3.out.2, T3.out⟩
                  clear I4 HP2 HSM2 HQ2 RN3 LE3 T3 PB4
                  go_wp2_with fail
                  go_meet
                  exact ⟨⟨x.cap, x.both, x.js.set kv ⟨j.cap, j.runs - 1, j.lm, bx⟩, t⟩, av, sv, all, one, updI rn kv (j.runs - 1), un, by first | rfl | (rw [HTOT.out]), rfl, J5.out, PB.out⟩
          · have q5 : decide ((mv.kind : Int) % 16 < 5) = false := by simp; omega
            rcases Nat.eq_or_lt_of_le hk5 with he5 | he5
            · have e5 : ((mv.kind : Int) % 16 == 5) = true := by rw [beq_iff_eq]; omega
              by_cases hf0 : j.bx.f = 0
              · have qf : decide (0 < yp.f) = false := decide_eq_false (by have := HYF.out; omega)
                have e6 : ((mv.kind : Int) % 16 == 6) = false := by rw [beq_eq_false_iff_ne]; omega
                clear he5 hk5
                rcases ho_take J2.out.i.h.g.inv J2.out.s J2.out.p ht1 (by omega) (by omega) HJ.out with he | ⟨he, hun, hp2⟩
                · as_aux_lemma =>
                    have HE := Lib.hid he
                    clear he
                    go_wp2_with fail
                    refine (gh_take J2.out.i.h kv t HE.out).mono ?_
                    rintro e_ X3 ⟨rfl, h, hk⟩
                    have JL := Lib.hid (J2.out.later ht1 ht9)
                    have J3 : Hid (HoJ w.heap.size T w cb m #[.int .i64 (1 + (most : Int) % 8), .int .i64 1, .int .i64 0, .int .i64 1, .int .u64 0, .int .i64 (smT lim), .int .i64 (smA lim tau), .slice (some ⟨g, 0, none⟩) m c'] Y rb ub ob (.slice (some ⟨g, 0, none⟩) m c') (madeFrom 0 qs) (madeG lim tau most) (k + 1) t x av sv all one rn un X3) := Lib.hid ⟨JL.out.i.go h hk rfl, JL.out.p, JL.out.s, JL.out.q, JL.out.rn, JL.out.la, JL.out.lo, JL.out.t⟩
                    have PB := Lib.hid (hk _ _ _ P2.out (by decide) (by decide) (by decide) (by decide))
                    clear h hk HE JL J2 P2
                    go_wp2_with fail
                    go_meet
                    exact ⟨x, av, sv, all, one, rn, un, by first | rfl | (rw [HTOT.out]), rfl, J3.out, PB.out⟩
                · as_aux_lemma =>
                    have HE := Lib.hid he
                    have HP2 := Lib.hid hp2
                    have HSM2 : Hid (Sm (x.took kv j t) t) := Lib.hid (by have h := J2.out.s.take ht1 kv; rw [HE.out] at h; exact h)
                    have HQ2 : Hid (PolOk (madeG lim tau most) (madeFrom 0 qs) (x.took kv j t)) := Lib.hid (by have h := (pol_cl (madeG lim tau most) (madeFrom 0 qs)).take x kv t J2.out.q; rw [HE.out] at h; exact h)
                    have qu : decide (t < un kv) = false := decide_eq_false (by omega)
                    have TKN : Hid ((x.took kv j t).js = x.js.set kv ⟨j.cap, j.runs + 1, j.lm.count t, (BK.take j.bx t).2⟩) := Lib.hid (by unfold Gt.took; rw [Int.toNat_natCast])
                    clear hp2 he
                    go_wp2_with fail
                    refine (gh_take J2.out.i.h kv t HE.out).mono ?_
                    rintro e_ X3 ⟨rfl, h, hk⟩
                    have I3 := Lib.hid (J2.out.i.go h hk (by rw [TKN.out]; exact List.length_set))
                    have RN3 : Hid (∀ (q : Nat) (i : Jt), (x.took kv j t).js[q]? = some i → updI rn kv (j.runs + 1) q = i.runs) := Lib.hid (fun q i hi => by
                      rw [TKN.out] at hi
                      exact rn_set J2.out.rn kv ⟨j.cap, j.runs + 1, j.lm.count t, (BK.take j.bx t).2⟩ (c := 0) (b := x.both) (t := t) q i hi)
                    have LE3 : Hid (all.length ≤ k ∧ ∀ q, (one q).length ≤ k) := Lib.hid ⟨J2.out.la, J2.out.lo⟩
                    have T3 : Hid (50 ≤ t ∧ t ≤ 50 + 7 * ((k + 1 : Nat) : Int)) := Lib.hid ⟨by have := J2.out.t; omega, ht9⟩
                    have HTOT : Hid ((x.took kv j t).total = x.total + 1) := Lib.hid (by unfold Gt.total; rw [TKN.out, sumR_set HJ.out]; show sumR x.js + (j.runs + 1 - j.runs) = sumR x.js + 1; omega)
                    have PB3 := Lib.hid (hk _ _ _ P2.out (by decide) (by decide) (by decide) (by decide))
                    have hrnj := J2.out.rn kv j HJ.out
                    clear h hk HE J2 P2
                    obtain ⟨rc, hrb, hrv⟩ := I3.out.r
                    have cr : X3.cell? ⟨rb, kv, none⟩ = some (.int .i64 j.runs) := by rw [hrb.cell, hrv kv hkm]; show some (Value.int .i64 (rn kv)) = _; rw [hrnj]
                    have fr : X3.frozen? ⟨rb, kv, none⟩ = false := hrb.frozen kv
                    have PB4 := Lib.hid (PB3.out.far (p := ⟨rb, kv, none⟩) (blk_ne PB3.out hrb (by decide)) (.int .i64 (j.runs + 1)))
                    clear hrb hrv rc hrnj
                    obtain ⟨uc, hub, huv⟩ := I3.out.u
                    have cu : X3.cell? ⟨ub, kv, none⟩ = some (.int .i64 (un kv)) := by rw [hub.cell]; exact huv kv hkm
                    clear hub huv uc
                    have hwr : IntKind.i64.wrap (j.runs + 1) = j.runs + 1 := IntWalk.i64_in _ (by omega)
                    have hwt : IntKind.i64.wrap (x.total + 1) = x.total + 1 := IntWalk.i64_in _ (by omega)
                    go_upto_region 23 with fail
                    have HI3 := Lib.hid (I3.out.setR hkm (j.runs + 1))
                    obtain ⟨X4, hX4⟩ : ∃ X4, X4 = X3.setCell ⟨rb, kv, none⟩ (.int .i64 (j.runs + 1)) := ⟨_, rfl⟩
                    rw [← hX4] at HI3 PB4 ⊢
                    clear hX4 cr fr cu hwr hwt qu I3 PB3
                    have HO3 := Lib.hid HI3.out.o
                    have HTZ : Hid (T ≤ X4.heap.size) := Lib.hid (by obtain ⟨oc, ho_, -⟩ := HI3.out.o; have := ho_.lt; have := HI3.out.lo; omega)
                    have HAP := Lib.hid (HI3.out.ap kv hkm)
                    have HAV := Lib.hid (own_len HI3.out.a)
                    have HSK := Lib.hid (own_len (HI3.out.s kv hkm))
                    have hle := LE3.out
                    have hml : all.length + 1 ≤ maxLen := by unfold maxLen; omega
                    have hmb : (all.length + 1) * 16 ≤ 140737488355328 := by omega
                    have hmo : (one kv).length + 1 ≤ maxLen := by have := hle.2 kv; unfold maxLen; omega
                    have hmp : ((one kv).length + 1) * 16 ≤ 140737488355328 := by have := hle.2 kv; omega
                    clear hle
                    obtain ⟨i0, hi0, hz0, hz1, hz2⟩ := info_parts info_la
                    refine wp_region_put_tail2 _ 18 _ (R := R24 T X4 ob kv (.slice (some ⟨ob, 0, none⟩) m m) av (sv kv) all (one kv) ((kv : Int), t)) (by rfl) (by kernel_rfl) (by kernel_rfl) (by kernel_rfl) (by kernel_rfl) (by kernel_rfl) (by kernel_rfl) (by kernel_rfl) (by kernel_rfl) ?_ ?_ ?_
                    · intro v hv
                      refine ⟨⟨fun i hi => (rep_not hi).elim, fun _ => HI3.out.a.below (Below.refl _ _).drew, fun hz => (rep_not hz).elim, fun _ => (HI3.out.s kv hkm).below (Below.refl _ _).drew, fun hz => (rep_not hz).elim, fun hz => (rep_not hz).elim, fun hz => (rep_not hz).elim, fun hz => (rep_not hz).elim, fun b _ _ _ => rfl, Nat.le_refl _, (Below.refl _ _).drew⟩, fun hz => (rep_not hz).elim, fun _ => ?_⟩
                      exact hv 17 _ 16 rfl rfl
                    · intro Q' K_ listed v wx i o hsz ho hli ha hR hK
                      have HW := Lib.hid hR
                      have HV := Lib.hid HW.out.r
                      have HSZ := Lib.hid (show listed.size = 20 from hsz)
                      have dep := fun d hd => HV.out.pl d (dep_listed ha d hd)
                      have hi : i < 18 := (List.getElem?_eq_some_iff.1 ho).1
                      clear hR hsz
                      obtain rfl | rfl | rfl | rfl | rfl | rfl | rfl | rfl | rfl | rfl | rfl | rfl | rfl | rfl | rfl | rfl | rfl | rfl : i = 0 ∨ i = 1 ∨ i = 2 ∨ i = 3 ∨ i = 4 ∨ i = 5 ∨ i = 6 ∨ i = 7 ∨ i = 8 ∨ i = 9 ∨ i = 10 ∨ i = 11 ∨ i = 12 ∨ i = 13 ∨ i = 14 ∨ i = 15 ∨ i = 16 ∨ i = 17 := by omega
                      · -- operation 0
                        cases ho
                        simp only [putFrom, Act.put, List.take_succ_cons, List.take_zero, List.setIfInBounds_toArray, List.set_cons_succ, List.set_cons_zero] at hK ⊢
                        go_simp
                        exact hK _ _ (HW.out.step hli (HV.out.plain (by decide) rfl (fun e => by cases e)) (fun e => by cases e))
                      · -- operation 1
                        cases ho
                        simp only [putFrom, Act.put, List.take_succ_cons, List.take_zero, List.setIfInBounds_toArray, List.set_cons_succ, List.set_cons_zero] at hK ⊢
                        go_simp
                        exact hK _ _ (HW.out.step hli (HV.out.plain (by decide) rfl (fun e => by cases e)) (fun e => by cases e))
                      · -- operation 2
                        cases ho
                        have e17 := HW.out.at2 HSZ.out hli
                        simp only [putFrom, Act.put, List.take_succ_cons, List.take_zero, List.setIfInBounds_toArray, List.set_cons_succ, List.set_cons_zero, e17] at hK ⊢
                        go_simp
                        exact hK _ _ (HW.out.step hli (HV.out.plain (by decide) rfl (fun e => by cases e)) (fun e => by cases e))
                      · -- operation 3
                        cases ho
                        simp only [putFrom, Act.put, List.take_succ_cons, List.take_zero, List.setIfInBounds_toArray, List.set_cons_succ, List.set_cons_zero] at hK ⊢
                        go_simp
                        exact hK _ _ (HW.out.step hli (HV.out.plain (by decide) rfl (fun e => by cases e)) (fun e => by cases e))
                      · -- operation 4
                        cases ho
                        simp only [putFrom, Act.put, List.take_succ_cons, List.take_zero, List.setIfInBounds_toArray, List.set_cons_succ, List.set_cons_zero] at hK ⊢
                        go_simp
                        exact hK _ _ (HW.out.step hli (HV.out.plain (by decide) rfl (fun e => by cases e)) (fun e => by cases e))
                      · -- operation 5
                        cases ho
                        have h3 := dep 3 (by kernel_rfl)
                        replace h3 : v 3 = _ := h3
                        have h4 := dep 4 (by kernel_rfl)
                        replace h4 : v 4 = _ := h4
                        simp only [putFrom, Act.put, List.take_succ_cons, List.take_zero, List.setIfInBounds_toArray, List.set_cons_succ, List.set_cons_zero, h3, h4] at hK ⊢
                        go_simp
                        exact hK _ _ (HW.out.step hli (HV.out.plain (by decide) rfl (fun e => by cases e)) (fun e => by cases e))
                      · -- operation 6
                        cases ho
                        have h5 := dep 5 (by kernel_rfl)
                        replace h5 : v 5 = _ := h5
                        simp only [putFrom, Act.put, List.take_succ_cons, List.take_zero, List.setIfInBounds_toArray, List.set_cons_succ, List.set_cons_zero, h5] at hK ⊢
                        go_simp
                        exact hK _ _ (HW.out.step hli (HV.out.new1 rfl HTZ.out) (fun e => by cases e))
                      · -- operation 7
                        cases ho
                        have h2 := dep 2 (by kernel_rfl)
                        replace h2 : v 2 = _ := h2
                        have h6' := HV.out.n1 (dep_listed ha 6 (by kernel_rfl))
                        have h6 := h6'.1
                        have hrow := h6'.2.2 hli
                        have hown := HV.out.a0 hli
                        clear h6'
                        generalize blkS (v 6) = r6 at h6 hrow
                        have hnew := la_news hrow
                        have hbs : T ≤ wx.heap.size := Nat.le_trans HTZ.out HV.out.sz
                        clear hrow
                        simp only [putFrom, Act.put, List.take_succ_cons, List.take_zero, List.setIfInBounds_toArray, List.set_cons_succ, List.set_cons_zero, h2, h6] at hK ⊢
                        refine wp_append_lies _ _ _ _ rfl T 62 i0 (.agg #[.int .i64 0, .int .i64 0]) 2 16 Tryz.underlying37 hi0 hz0 hz1 hz2 rfl (by decide) (av) _ _ rfl hown ⟨r6, 0, none⟩ 1 1 [.int .i64 kv, .int .i64 t] rfl rfl hnew (by simp [Value.oneCell']) (by decide) hml hmb hbs _ rfl ?_
                        intro g8 cap8 w8 hown8 hgrow8 hgg8 _
                        exact hK _ _ (HW.out.step hli (HV.out.app1 hli (HV.out.no16 HSZ.out hli) HTZ.out HAP.out HAV.out hgrow8 hgg8 hown8) (fun e => by cases e))
                      · -- operation 8
                        cases ho
                        simp only [putFrom, Act.put, List.take_succ_cons, List.take_zero, List.setIfInBounds_toArray, List.set_cons_succ, List.set_cons_zero] at hK ⊢
                        go_simp
                        exact hK _ _ (HW.out.step hli (HV.out.plain (by decide) rfl (fun e => by cases e)) (fun e => by cases e))
                      · -- operation 9
                        cases ho
                        simp only [putFrom, Act.put, List.take_succ_cons, List.take_zero, List.setIfInBounds_toArray, List.set_cons_succ, List.set_cons_zero] at hK ⊢
                        go_simp
                        exact hK _ _ (HW.out.step hli (HV.out.plain (by decide) rfl (fun e => by cases e)) (fun e => by cases e))
                      · -- operation 10
                        cases ho
                        have h8 := dep 8 (by kernel_rfl)
                        replace h8 : v 8 = _ := h8
                        have h9 := dep 9 (by kernel_rfl)
                        replace h9 : v 9 = _ := h9
                        simp only [putFrom, Act.put, List.take_succ_cons, List.take_zero, List.setIfInBounds_toArray, List.set_cons_succ, List.set_cons_zero, h8, h9] at hK ⊢
                        go_simp
                        exact hK _ _ (HW.out.step hli (HV.out.plain (by decide) rfl (fun e => by cases e)) (fun e => by cases e))
                      · -- operation 11
                        cases ho
                        have h10 := dep 10 (by kernel_rfl)
                        replace h10 : v 10 = _ := h10
                        have co : wx.cell? ⟨ob, kv, none⟩ = some (sv kv) := by
                          obtain ⟨oc, ho_, hov⟩ := HO3.out
                          rw [(HV.out.blk ho_ (fun e => own_blk_ne HI3.out.a ho_ (by decide) e.symm) (fun e => own_blk_ne (HI3.out.s kv hkm) ho_ (by decide) e.symm)).cell, hov kv hkm]
                        simp only [putFrom, Act.put, List.take_succ_cons, List.take_zero, List.setIfInBounds_toArray, List.set_cons_succ, List.set_cons_zero, h10] at hK ⊢
                        go_simp
                        exact hK _ _ (HW.out.step hli (HV.out.plain (by decide) rfl (fun e => by cases e)) (fun e => by cases e))
                      · -- operation 12
                        cases ho
                        simp only [putFrom, Act.put, List.take_succ_cons, List.take_zero, List.setIfInBounds_toArray, List.set_cons_succ, List.set_cons_zero] at hK ⊢
                        go_simp
                        exact hK _ _ (HW.out.step hli (HV.out.plain (by decide) rfl (fun e => by cases e)) (fun e => by cases e))
                      · -- operation 13
                        cases ho
                        simp only [putFrom, Act.put, List.take_succ_cons, List.take_zero, List.setIfInBounds_toArray, List.set_cons_succ, List.set_cons_zero] at hK ⊢
                        go_simp
                        exact hK _ _ (HW.out.step hli (HV.out.plain (by decide) rfl (fun e => by cases e)) (fun e => by cases e))
                      · -- operation 14
                        cases ho
                        have h12 := dep 12 (by kernel_rfl)
                        replace h12 : v 12 = _ := h12
                        have h13 := dep 13 (by kernel_rfl)
                        replace h13 : v 13 = _ := h13
                        simp only [putFrom, Act.put, List.take_succ_cons, List.take_zero, List.setIfInBounds_toArray, List.set_cons_succ, List.set_cons_zero, h12, h13] at hK ⊢
                        go_simp
                        exact hK _ _ (HW.out.step hli (HV.out.plain (by decide) rfl (fun e => by cases e)) (fun e => by cases e))
                      · -- operation 15
                        cases ho
                        have h14 := dep 14 (by kernel_rfl)
                        replace h14 : v 14 = _ := h14
                        simp only [putFrom, Act.put, List.take_succ_cons, List.take_zero, List.setIfInBounds_toArray, List.set_cons_succ, List.set_cons_zero, h14] at hK ⊢
                        go_simp
                        exact hK _ _ (HW.out.step hli (HV.out.new2 rfl HTZ.out) (fun e => by cases e))
                      · -- operation 16
                        cases ho
                        have h11 := dep 11 (by kernel_rfl)
                        replace h11 : v 11 = _ := h11
                        have h15' := HV.out.n2 (dep_listed ha 15 (by kernel_rfl))
                        have h15 := h15'.1
                        have hrow := h15'.2.2 hli
                        have hown := HV.out.s0 hli
                        clear h15'
                        generalize blkS (v 15) = r6 at h15 hrow
                        have hnew := la_news hrow
                        have hbs : T ≤ wx.heap.size := Nat.le_trans HTZ.out HV.out.sz
                        clear hrow
                        simp only [putFrom, Act.put, List.take_succ_cons, List.take_zero, List.setIfInBounds_toArray, List.set_cons_succ, List.set_cons_zero, h11, h15] at hK ⊢
                        refine wp_append_lies _ _ _ _ rfl T 62 i0 (.agg #[.int .i64 0, .int .i64 0]) 2 16 Tryz.underlying37 hi0 hz0 hz1 hz2 rfl (by decide) (sv kv) _ _ rfl hown ⟨r6, 0, none⟩ 1 1 [.int .i64 kv, .int .i64 t] rfl rfl hnew (by simp [Value.oneCell']) (by decide) hmo hmp hbs _ rfl ?_
                        intro g8 cap8 w8 hown8 hgrow8 hgg8 _
                        exact hK _ _ (HW.out.step hli (HV.out.app2 (dep_listed ha 7 (by kernel_rfl)) hli HTZ.out HAP.out HSK.out hgrow8 hgg8 hown8) (fun e => by cases e))
                      · -- operation 17
                        cases ho
                        simp only [putFrom, Act.put, List.take_succ_cons, List.take_zero, List.setIfInBounds_toArray, List.set_cons_succ, List.set_cons_zero] at hK ⊢
                        go_simp
                        exact hK _ _ (HW.out.step hli (HV.out.plain (by decide) trivial (fun _ => ⟨rfl, dep_listed ha 7 (by kernel_rfl), dep_listed ha 16 (by kernel_rfl)⟩)) (fun _ => dep_listed ha 2 (by kernel_rfl)))
                    · intro v listed w9 hall hR0
                      have hR := hR0.r
                      clear hR0
                      have h17 := (hR.c17 (hall 17 (by decide))).1
                      have s7 := (hR.a1 (hall 7 (by decide))).2.1
                      have s16 := (hR.s1 (hall 16 (by decide))).2.1
                      have h0 := hR.pl 0 (hall 0 (by decide))
                      replace h0 : v 0 = .slice (some ⟨ob, 0, none⟩) m m := h0
                      have h1 := hR.pl 1 (hall 1 (by decide))
                      replace h1 : v 1 = .int .i64 kv := h1
                      have I5 := Lib.hid (HI3.out.count hkm hR (hall 7 (by decide)) (hall 16 (by decide)))
                      have PB5 : Hid (Blk w9 pb 55 (poV yp)) := Lib.hid (hR.blk PB4.out (fun e => own_blk_ne HI3.out.a PB4.out (by decide) e.symm) (fun e => own_blk_ne (HI3.out.s kv hkm) PB4.out (by decide) e.symm))
                      have hoW : ∃ oc, Blk w9 ob 37 oc ∧ Runs oc m sv := by
                        obtain ⟨oc, ho_, hov⟩ := HO3.out
                        exact ⟨oc, hR.blk ho_ (fun e => own_blk_ne HI3.out.a ho_ (by decide) e.symm) (fun e => own_blk_ne (HI3.out.s kv hkm) ho_ (by decide) e.symm), hov⟩
                      clear hR hall
                      generalize hv7 : v 7 = v7 at *
                      generalize hv16 : v 16 = v16 at *
                      generalize blkS v7 = b7 at s7
                      generalize capS v7 = q7 at s7
                      generalize blkS v16 = b16 at s16
                      generalize capS v16 = q16 at s16
                      subst s7 s16
                      simp only [putFrom, Act.put, List.take_succ_cons, List.take_zero, List.setIfInBounds_toArray, List.set_cons_succ, List.set_cons_zero, h17, hv7, hv16, h0, h1]
                      clear h17 hv7 hv16 h0 h1
                      obtain ⟨oc, ho_, hov⟩ := hoW
                      have co : w9.cell? ⟨ob, kv, none⟩ = some (sv kv) := by rw [ho_.cell]; exact hov kv hkm
                      have fo : w9.frozen? ⟨ob, kv, none⟩ = false := ho_.frozen kv
                      have PB := Lib.hid (PB5.out.far (p := ⟨ob, kv, none⟩) (blk_ne PB5.out ho_ (by decide)) (.slice (some ⟨b16, 0, none⟩) ((one kv).length + 1) q16))
                      clear ho_ hov oc
                      have J5 : Hid (HoJ w.heap.size T w cb m #[.int .i64 (1 + (most : Int) % 8), .int .i64 1, .int .i64 0, .int .i64 1, .int .u64 0, .int .i64 (smT lim), .int .i64 (smA lim tau), .slice (some ⟨g, 0, none⟩) m c'] Y rb ub ob (.slice (some ⟨g, 0, none⟩) m c') (madeFrom 0 qs) (madeG lim tau most) (k + 1) t (x.took kv j t) (.slice (some ⟨b7, 0, none⟩) (all.length + 1) q7) (fun i => if i = kv then .slice (some ⟨b16, 0, none⟩) ((one kv).length + 1) q16 else sv i) (all ++ [((kv : Int), t)]) (updL one kv (one kv ++ [((kv : Int), t)])) (updI rn kv (j.runs + 1)) un (w9.setCell ⟨ob, kv, none⟩ (.slice (some ⟨b16, 0, none⟩) ((one kv).length + 1) q16))) := Lib.hid ⟨I5.out, HP2.out, HSM2.out, HQ2.out, RN3.out, by rw [List.length_append]; exact Nat.add_le_add_right LE3.out.1 1, fun q => by
                        unfold updL
                        split
                        · rw [List.length_append]; exact Nat.add_le_add_right (LE3.out.2 kv) 1
                        · exact Nat.le_succ_of_le (LE3.out.2 q), T3.out⟩
                      clear I5 HP2 HSM2 HQ2 RN3 LE3 T3 HI3 PB4 PB5 HO3 HTZ HAP HAV HSK hml hmb hmo hmp
                      go_wp2_with fail
                      go_meet
                      exact ⟨x.took kv j t, .slice (some ⟨b7, 0, none⟩) (all.length + 1) q7, fun i => if i = kv then .slice (some ⟨b16, 0, none⟩) ((one kv).length + 1) q16 else sv i, all ++ [((kv : Int), t)], updL one kv (one kv ++ [((kv : Int), t)]), updI rn kv (j.runs + 1), un, by first | rfl | (rw [HTOT.out]), rfl, J5.out, PB.out⟩
              · have qf : decide (0 < yp.f) = true := decide_eq_true (by have := HYF.out; have := HYB.out.2.1; omega)
                clear he5 hk5
                as_aux_lemma =>
                  obtain ⟨bx, he, hp2⟩ := ho_trip J2.out.s J2.out.p ht1 (by omega) (by omega) HJ.out hf0
                  have HE := Lib.hid he
                  have HP2 := Lib.hid hp2
                  have HSM2 : Hid (Sm (⟨x.cap, x.both, x.js.set kv ⟨j.cap, j.runs, j.lm, bx⟩, t⟩) t) := Lib.hid (by have h := J2.out.s.trip ht1 kv; rw [HE.out] at h; exact h)
                  have HQ2 : Hid (PolOk (madeG lim tau most) (madeFrom 0 qs) (⟨x.cap, x.both, x.js.set kv ⟨j.cap, j.runs, j.lm, bx⟩, t⟩)) := Lib.hid (by have h := (pol_cl (madeG lim tau most) (madeFrom 0 qs)).trip x kv t J2.out.q; rw [HE.out] at h; exact h)
                  clear hp2 he
                  have p8 : X2.cell? ⟨pb, 8, none⟩ = some (.int .i64 yp.f) := P2.out.cell 8
                  go_wp2_with fail
                  refine (gh_trip J2.out.i.h kv t HE.out).mono ?_
                  rintro e_ X3 ⟨rfl, h, hk⟩
                  have I3 := Lib.hid (J2.out.i.go h hk List.length_set)
                  have RN3 := Lib.hid (rn_set J2.out.rn kv ⟨j.cap, j.runs, j.lm, bx⟩ (c := x.cap) (b := x.both) (t := t))
                  have RNS : Hid (updI rn kv j.runs = rn) := Lib.hid (by rw [← J2.out.rn kv j HJ.out]; exact updI_self rn kv)
                  have LE3 : Hid (all.length ≤ k + 1 ∧ ∀ q, (one q).length ≤ k + 1) := Lib.hid ⟨Nat.le_succ_of_le J2.out.la, fun q => Nat.le_succ_of_le (J2.out.lo q)⟩
                  have T3 : Hid (50 ≤ t ∧ t ≤ 50 + 7 * ((k + 1 : Nat) : Int)) := Lib.hid ⟨by have := J2.out.t; omega, ht9⟩
                  have HTOT : Hid ((⟨x.cap, x.both, x.js.set kv ⟨j.cap, j.runs, j.lm, bx⟩, t⟩ : Gt).total = x.total) := Lib.hid (by show sumR (x.js.set kv _) = _; rw [sumR_set HJ.out]; show sumR x.js + (j.runs - j.runs) = sumR x.js; omega)
                  have PB3 := Lib.hid (hk _ _ _ P2.out (by decide) (by decide) (by decide) (by decide))
                  clear h hk HE J2 P2 p8
                  obtain ⟨uc, hub, huv⟩ := I3.out.u
                  have cu : X3.cell? ⟨ub, kv, none⟩ = some (.int .i64 (un kv)) := by rw [hub.cell]; exact huv kv hkm
                  have fu : X3.frozen? ⟨ub, kv, none⟩ = false := hub.frozen kv
                  have PB := Lib.hid (PB3.out.far (p := ⟨ub, kv, none⟩) (blk_ne PB3.out hub (by decide)) (.int .i64 (t + j.bx.o)))
                  clear hub huv uc
                  have p9 : X3.cell? ⟨pb, 9, none⟩ = some (.int .i64 j.bx.o) := by rw [HYB.out.1]; exact PB3.out.cell 9
                  have hwo : IntKind.i64.wrap (t + j.bx.o) = t + j.bx.o := IntWalk.i64_in _ (by have := HYB.out.2.2; omega)
                  have I5 := Lib.hid (I3.out.setU hkm (t + j.bx.o))
                  have J5 : Hid (HoJ w.heap.size T w cb m #[.int .i64 (1 + (most : Int) % 8), .int .i64 1, .int .i64 0, .int .i64 1, .int .u64 0, .int .i64 (smT lim), .int .i64 (smA lim tau), .slice (some ⟨g, 0, none⟩) m c'] Y rb ub ob (.slice (some ⟨g, 0, none⟩) m c') (madeFrom 0 qs) (madeG lim tau most) (k + 1) t (⟨x.cap, x.both, x.js.set kv ⟨j.cap, j.runs, j.lm, bx⟩, t⟩) av sv all one rn (updI un kv (t + j.bx.o)) (X3.setCell ⟨ub, kv, none⟩ (.int .i64 (t + j.bx.o)))) := Lib.hid ⟨I5.out, HP2.out, HSM2.out, HQ2.out, by have h := RN3.out; rw [RNS.out] at h; exact h, LE3.out.1, LE3.out.2, T3.out⟩
                  clear I5 HP2 HSM2 HQ2 RN3 RNS LE3 T3 I3 PB3
                  go_wp2_with fail
                  go_meet
                  exact ⟨⟨x.cap, x.both, x.js.set kv ⟨j.cap, j.runs, j.lm, bx⟩, t⟩, av, sv, all, one, rn, updI un kv (t + j.bx.o), by first | rfl | (rw [HTOT.out]), rfl, J5.out, PB.out⟩
            · have e5 : ((mv.kind : Int) % 16 == 5) = false := by rw [beq_eq_false_iff_ne]; omega
              rcases Nat.eq_or_lt_of_le he5 with he6 | he6
              · have e6 : ((mv.kind : Int) % 16 == 6) = true := by rw [beq_iff_eq]; omega
                by_cases hf0 : j.bx.f = 0
                · have qf : decide (0 < yp.f) = false := decide_eq_false (by have := HYF.out; omega)
                  clear he6 he5 hk5
                  rcases ho_take J2.out.i.h.g.inv J2.out.s J2.out.p ht1 (by omega) (by omega) HJ.out with he | ⟨he, hun, hp2⟩
                  · as_aux_lemma =>
                      have HE := Lib.hid he
                      clear he
                      go_wp2_with fail
                      refine (gh_take J2.out.i.h kv t HE.out).mono ?_
                      rintro e_ X3 ⟨rfl, h, hk⟩
                      have JL := Lib.hid (J2.out.later ht1 ht9)
                      have J3 : Hid (HoJ w.heap.size T w cb m #[.int .i64 (1 + (most : Int) % 8), .int .i64 1, .int .i64 0, .int .i64 1, .int .u64 0, .int .i64 (smT lim), .int .i64 (smA lim tau), .slice (some ⟨g, 0, none⟩) m c'] Y rb ub ob (.slice (some ⟨g, 0, none⟩) m c') (madeFrom 0 qs) (madeG lim tau most) (k + 1) t x av sv all one rn un X3) := Lib.hid ⟨JL.out.i.go h hk rfl, JL.out.p, JL.out.s, JL.out.q, JL.out.rn, JL.out.la, JL.out.lo, JL.out.t⟩
                      have PB := Lib.hid (hk _ _ _ P2.out (by decide) (by decide) (by decide) (by decide))
                      clear h hk HE JL J2 P2
                      go_wp2_with fail
                      go_meet
                      exact ⟨x, av, sv, all, one, rn, un, by first | rfl | (rw [HTOT.out]), rfl, J3.out, PB.out⟩
                  · as_aux_lemma =>
                      have HE := Lib.hid he
                      have HP2 := Lib.hid hp2
                      have HSM2 : Hid (Sm (x.took kv j t) t) := Lib.hid (by have h := J2.out.s.take ht1 kv; rw [HE.out] at h; exact h)
                      have HQ2 : Hid (PolOk (madeG lim tau most) (madeFrom 0 qs) (x.took kv j t)) := Lib.hid (by have h := (pol_cl (madeG lim tau most) (madeFrom 0 qs)).take x kv t J2.out.q; rw [HE.out] at h; exact h)
                      have qu : decide (t < un kv) = false := decide_eq_false (by omega)
                      have TKN : Hid ((x.took kv j t).js = x.js.set kv ⟨j.cap, j.runs + 1, j.lm.count t, (BK.take j.bx t).2⟩) := Lib.hid (by unfold Gt.took; rw [Int.toNat_natCast])
                      clear hp2 he
                      go_wp2_with fail
                      refine (gh_take J2.out.i.h kv t HE.out).mono ?_
                      rintro e_ X3 ⟨rfl, h, hk⟩
                      have I3 := Lib.hid (J2.out.i.go h hk (by rw [TKN.out]; exact List.length_set))
                      have RN3 : Hid (∀ (q : Nat) (i : Jt), (x.took kv j t).js[q]? = some i → updI rn kv (j.runs + 1) q = i.runs) := Lib.hid (fun q i hi => by
                        rw [TKN.out] at hi
                        exact rn_set J2.out.rn kv ⟨j.cap, j.runs + 1, j.lm.count t, (BK.take j.bx t).2⟩ (c := 0) (b := x.both) (t := t) q i hi)
                      have LE3 : Hid (all.length ≤ k ∧ ∀ q, (one q).length ≤ k) := Lib.hid ⟨J2.out.la, J2.out.lo⟩
                      have T3 : Hid (50 ≤ t ∧ t ≤ 50 + 7 * ((k + 1 : Nat) : Int)) := Lib.hid ⟨by have := J2.out.t; omega, ht9⟩
                      have HTOT : Hid ((x.took kv j t).total = x.total + 1) := Lib.hid (by unfold Gt.total; rw [TKN.out, sumR_set HJ.out]; show sumR x.js + (j.runs + 1 - j.runs) = sumR x.js + 1; omega)
                      have PB3 := Lib.hid (hk _ _ _ P2.out (by decide) (by decide) (by decide) (by decide))
                      have hrnj := J2.out.rn kv j HJ.out
                      clear h hk HE J2 P2
                      obtain ⟨rc, hrb, hrv⟩ := I3.out.r
                      have cr : X3.cell? ⟨rb, kv, none⟩ = some (.int .i64 j.runs) := by rw [hrb.cell, hrv kv hkm]; show some (Value.int .i64 (rn kv)) = _; rw [hrnj]
                      have fr : X3.frozen? ⟨rb, kv, none⟩ = false := hrb.frozen kv
                      have PB4 := Lib.hid (PB3.out.far (p := ⟨rb, kv, none⟩) (blk_ne PB3.out hrb (by decide)) (.int .i64 (j.runs + 1)))
                      clear hrb hrv rc hrnj
                      obtain ⟨uc, hub, huv⟩ := I3.out.u
                      have cu : X3.cell? ⟨ub, kv, none⟩ = some (.int .i64 (un kv)) := by rw [hub.cell]; exact huv kv hkm
                      clear hub huv uc
                      have hwr : IntKind.i64.wrap (j.runs + 1) = j.runs + 1 := IntWalk.i64_in _ (by omega)
                      have hwt : IntKind.i64.wrap (x.total + 1) = x.total + 1 := IntWalk.i64_in _ (by omega)
                      go_upto_region 23 with fail
                      have HI3 := Lib.hid (I3.out.setR hkm (j.runs + 1))
                      obtain ⟨X4, hX4⟩ : ∃ X4, X4 = X3.setCell ⟨rb, kv, none⟩ (.int .i64 (j.runs + 1)) := ⟨_, rfl⟩
                      rw [← hX4] at HI3 PB4 ⊢
                      clear hX4 cr fr cu hwr hwt qu I3 PB3
                      have HO3 := Lib.hid HI3.out.o
                      have HTZ : Hid (T ≤ X4.heap.size) := Lib.hid (by obtain ⟨oc, ho_, -⟩ := HI3.out.o; have := ho_.lt; have := HI3.out.lo; omega)
                      have HAP := Lib.hid (HI3.out.ap kv hkm)
                      have HAV := Lib.hid (own_len HI3.out.a)
                      have HSK := Lib.hid (own_len (HI3.out.s kv hkm))
                      have hle := LE3.out
                      have hml : all.length + 1 ≤ maxLen := by unfold maxLen; omega
                      have hmb : (all.length + 1) * 16 ≤ 140737488355328 := by omega
                      have hmo : (one kv).length + 1 ≤ maxLen := by have := hle.2 kv; unfold maxLen; omega
                      have hmp : ((one kv).length + 1) * 16 ≤ 140737488355328 := by have := hle.2 kv; omega
                      clear hle
                      obtain ⟨i0, hi0, hz0, hz1, hz2⟩ := info_parts info_la
                      refine wp_region_put_tail2 _ 18 _ (R := R24 T X4 ob kv (.slice (some ⟨ob, 0, none⟩) m m) av (sv kv) all (one kv) ((kv : Int), t)) (by rfl) (by kernel_rfl) (by kernel_rfl) (by kernel_rfl) (by kernel_rfl) (by kernel_rfl) (by kernel_rfl) (by kernel_rfl) (by kernel_rfl) ?_ ?_ ?_
                      · intro v hv
                        refine ⟨⟨fun i hi => (rep_not hi).elim, fun _ => HI3.out.a.below (Below.refl _ _).drew, fun hz => (rep_not hz).elim, fun _ => (HI3.out.s kv hkm).below (Below.refl _ _).drew, fun hz => (rep_not hz).elim, fun hz => (rep_not hz).elim, fun hz => (rep_not hz).elim, fun hz => (rep_not hz).elim, fun b _ _ _ => rfl, Nat.le_refl _, (Below.refl _ _).drew⟩, fun hz => (rep_not hz).elim, fun _ => ?_⟩
                        exact hv 17 _ 16 rfl rfl
                      · intro Q' K_ listed v wx i o hsz ho hli ha hR hK
                        have HW := Lib.hid hR
                        have HV := Lib.hid HW.out.r
                        have HSZ := Lib.hid (show listed.size = 20 from hsz)
                        have dep := fun d hd => HV.out.pl d (dep_listed ha d hd)
                        have hi : i < 18 := (List.getElem?_eq_some_iff.1 ho).1
                        clear hR hsz
                        obtain rfl | rfl | rfl | rfl | rfl | rfl | rfl | rfl | rfl | rfl | rfl | rfl | rfl | rfl | rfl | rfl | rfl | rfl : i = 0 ∨ i = 1 ∨ i = 2 ∨ i = 3 ∨ i = 4 ∨ i = 5 ∨ i = 6 ∨ i = 7 ∨ i = 8 ∨ i = 9 ∨ i = 10 ∨ i = 11 ∨ i = 12 ∨ i = 13 ∨ i = 14 ∨ i = 15 ∨ i = 16 ∨ i = 17 := by omega
                        · -- operation 0
                          cases ho
                          simp only [putFrom, Act.put, List.take_succ_cons, List.take_zero, List.setIfInBounds_toArray, List.set_cons_succ, List.set_cons_zero] at hK ⊢
                          go_simp
                          exact hK _ _ (HW.out.step hli (HV.out.plain (by decide) rfl (fun e => by cases e)) (fun e => by cases e))
                        · -- operation 1
                          cases ho
                          simp only [putFrom, Act.put, List.take_succ_cons, List.take_zero, List.setIfInBounds_toArray, List.set_cons_succ, List.set_cons_zero] at hK ⊢
                          go_simp
                          exact hK _ _ (HW.out.step hli (HV.out.plain (by decide) rfl (fun e => by cases e)) (fun e => by cases e))
                        · -- operation 2
                          cases ho
                          have e17 := HW.out.at2 HSZ.out hli
                          simp only [putFrom, Act.put, List.take_succ_cons, List.take_zero, List.setIfInBounds_toArray, List.set_cons_succ, List.set_cons_zero, e17] at hK ⊢
                          go_simp
                          exact hK _ _ (HW.out.step hli (HV.out.plain (by decide) rfl (fun e => by cases e)) (fun e => by cases e))
                        · -- operation 3
                          cases ho
                          simp only [putFrom, Act.put, List.take_succ_cons, List.take_zero, List.setIfInBounds_toArray, List.set_cons_succ, List.set_cons_zero] at hK ⊢
                          go_simp
                          exact hK _ _ (HW.out.step hli (HV.out.plain (by decide) rfl (fun e => by cases e)) (fun e => by cases e))
                        · -- operation 4
                          cases ho
                          simp only [putFrom, Act.put, List.take_succ_cons, List.take_zero, List.setIfInBounds_toArray, List.set_cons_succ, List.set_cons_zero] at hK ⊢
                          go_simp
                          exact hK _ _ (HW.out.step hli (HV.out.plain (by decide) rfl (fun e => by cases e)) (fun e => by cases e))
                        · -- operation 5
                          cases ho
                          have h3 := dep 3 (by kernel_rfl)
                          replace h3 : v 3 = _ := h3
                          have h4 := dep 4 (by kernel_rfl)
                          replace h4 : v 4 = _ := h4
                          simp only [putFrom, Act.put, List.take_succ_cons, List.take_zero, List.setIfInBounds_toArray, List.set_cons_succ, List.set_cons_zero, h3, h4] at hK ⊢
                          go_simp
                          exact hK _ _ (HW.out.step hli (HV.out.plain (by decide) rfl (fun e => by cases e)) (fun e => by cases e))
                        · -- operation 6
                          cases ho
                          have h5 := dep 5 (by kernel_rfl)
                          replace h5 : v 5 = _ := h5
                          simp only [putFrom, Act.put, List.take_succ_cons, List.take_zero, List.setIfInBounds_toArray, List.set_cons_succ, List.set_cons_zero, h5] at hK ⊢
                          go_simp
                          exact hK _ _ (HW.out.step hli (HV.out.new1 rfl HTZ.out) (fun e => by cases e))
                        · -- operation 7
                          cases ho
                          have h2 := dep 2 (by kernel_rfl)
                          replace h2 : v 2 = _ := h2
                          have h6' := HV.out.n1 (dep_listed ha 6 (by kernel_rfl))
                          have h6 := h6'.1
                          have hrow := h6'.2.2 hli
                          have hown := HV.out.a0 hli
                          clear h6'
                          generalize blkS (v 6) = r6 at h6 hrow
                          have hnew := la_news hrow
                          have hbs : T ≤ wx.heap.size := Nat.le_trans HTZ.out HV.out.sz
                          clear hrow
                          simp only [putFrom, Act.put, List.take_succ_cons, List.take_zero, List.setIfInBounds_toArray, List.set_cons_succ, List.set_cons_zero, h2, h6] at hK ⊢
                          refine wp_append_lies _ _ _ _ rfl T 62 i0 (.agg #[.int .i64 0, .int .i64 0]) 2 16 Tryz.underlying37 hi0 hz0 hz1 hz2 rfl (by decide) (av) _ _ rfl hown ⟨r6, 0, none⟩ 1 1 [.int .i64 kv, .int .i64 t] rfl rfl hnew (by simp [Value.oneCell']) (by decide) hml hmb hbs _ rfl ?_
                          intro g8 cap8 w8 hown8 hgrow8 hgg8 _
                          exact hK _ _ (HW.out.step hli (HV.out.app1 hli (HV.out.no16 HSZ.out hli) HTZ.out HAP.out HAV.out hgrow8 hgg8 hown8) (fun e => by cases e))
                        · -- operation 8
                          cases ho
                          simp only [putFrom, Act.put, List.take_succ_cons, List.take_zero, List.setIfInBounds_toArray, List.set_cons_succ, List.set_cons_zero] at hK ⊢
                          go_simp
                          exact hK _ _ (HW.out.step hli (HV.out.plain (by decide) rfl (fun e => by cases e)) (fun e => by cases e))
                        · -- operation 9
                          cases ho
                          simp only [putFrom, Act.put, List.take_succ_cons, List.take_zero, List.setIfInBounds_toArray, List.set_cons_succ, List.set_cons_zero] at hK ⊢
                          go_simp
                          exact hK _ _ (HW.out.step hli (HV.out.plain (by decide) rfl (fun e => by cases e)) (fun e => by cases e))
                        · -- operation 10
                          cases ho
                          have h8 := dep 8 (by kernel_rfl)
                          replace h8 : v 8 = _ := h8
                          have h9 := dep 9 (by kernel_rfl)
                          replace h9 : v 9 = _ := h9
                          simp only [putFrom, Act.put, List.take_succ_cons, List.take_zero, List.setIfInBounds_toArray, List.set_cons_succ, List.set_cons_zero, h8, h9] at hK ⊢
                          go_simp
                          exact hK _ _ (HW.out.step hli (HV.out.plain (by decide) rfl (fun e => by cases e)) (fun e => by cases e))
                        · -- operation 11
                          cases ho
                          have h10 := dep 10 (by kernel_rfl)
                          replace h10 : v 10 = _ := h10
                          have co : wx.cell? ⟨ob, kv, none⟩ = some (sv kv) := by
                            obtain ⟨oc, ho_, hov⟩ := HO3.out
                            rw [(HV.out.blk ho_ (fun e => own_blk_ne HI3.out.a ho_ (by decide) e.symm) (fun e => own_blk_ne (HI3.out.s kv hkm) ho_ (by decide) e.symm)).cell, hov kv hkm]
                          simp only [putFrom, Act.put, List.take_succ_cons, List.take_zero, List.setIfInBounds_toArray, List.set_cons_succ, List.set_cons_zero, h10] at hK ⊢
                          go_simp
                          exact hK _ _ (HW.out.step hli (HV.out.plain (by decide) rfl (fun e => by cases e)) (fun e => by cases e))
                        · -- operation 12
                          cases ho
                          simp only [putFrom, Act.put, List.take_succ_cons, List.take_zero, List.setIfInBounds_toArray, List.set_cons_succ, List.set_cons_zero] at hK ⊢
                          go_simp
                          exact hK _ _ (HW.out.step hli (HV.out.plain (by decide) rfl (fun e => by cases e)) (fun e => by cases e))
                        · -- operation 13
                          cases ho
                          simp only [putFrom, Act.put, List.take_succ_cons, List.take_zero, List.setIfInBounds_toArray, List.set_cons_succ, List.set_cons_zero] at hK ⊢
                          go_simp
                          exact hK _ _ (HW.out.step hli (HV.out.plain (by decide) rfl (fun e => by cases e)) (fun e => by cases e))
                        · -- operation 14
                          cases ho
                          have h12 := dep 12 (by kernel_rfl)
                          replace h12 : v 12 = _ := h12
                          have h13 := dep 13 (by kernel_rfl)
                          replace h13 : v 13 = _ := h13
                          simp only [putFrom, Act.put, List.take_succ_cons, List.take_zero, List.setIfInBounds_toArray, List.set_cons_succ, List.set_cons_zero, h12, h13] at hK ⊢
                          go_simp
                          exact hK _ _ (HW.out.step hli (HV.out.plain (by decide) rfl (fun e => by cases e)) (fun e => by cases e))
                        · -- operation 15
                          cases ho
                          have h14 := dep 14 (by kernel_rfl)
                          replace h14 : v 14 = _ := h14
                          simp only [putFrom, Act.put, List.take_succ_cons, List.take_zero, List.setIfInBounds_toArray, List.set_cons_succ, List.set_cons_zero, h14] at hK ⊢
                          go_simp
                          exact hK _ _ (HW.out.step hli (HV.out.new2 rfl HTZ.out) (fun e => by cases e))
                        · -- operation 16
                          cases ho
                          have h11 := dep 11 (by kernel_rfl)
                          replace h11 : v 11 = _ := h11
                          have h15' := HV.out.n2 (dep_listed ha 15 (by kernel_rfl))
                          have h15 := h15'.1
                          have hrow := h15'.2.2 hli
                          have hown := HV.out.s0 hli
                          clear h15'
                          generalize blkS (v 15) = r6 at h15 hrow
                          have hnew := la_news hrow
                          have hbs : T ≤ wx.heap.size := Nat.le_trans HTZ.out HV.out.sz
                          clear hrow
                          simp only [putFrom, Act.put, List.take_succ_cons, List.take_zero, List.setIfInBounds_toArray, List.set_cons_succ, List.set_cons_zero, h11, h15] at hK ⊢
                          refine wp_append_lies _ _ _ _ rfl T 62 i0 (.agg #[.int .i64 0, .int .i64 0]) 2 16 Tryz.underlying37 hi0 hz0 hz1 hz2 rfl (by decide) (sv kv) _ _ rfl hown ⟨r6, 0, none⟩ 1 1 [.int .i64 kv, .int .i64 t] rfl rfl hnew (by simp [Value.oneCell']) (by decide) hmo hmp hbs _ rfl ?_
                          intro g8 cap8 w8 hown8 hgrow8 hgg8 _
                          exact hK _ _ (HW.out.step hli (HV.out.app2 (dep_listed ha 7 (by kernel_rfl)) hli HTZ.out HAP.out HSK.out hgrow8 hgg8 hown8) (fun e => by cases e))
                        · -- operation 17
                          cases ho
                          simp only [putFrom, Act.put, List.take_succ_cons, List.take_zero, List.setIfInBounds_toArray, List.set_cons_succ, List.set_cons_zero] at hK ⊢
                          go_simp
                          exact hK _ _ (HW.out.step hli (HV.out.plain (by decide) trivial (fun _ => ⟨rfl, dep_listed ha 7 (by kernel_rfl), dep_listed ha 16 (by kernel_rfl)⟩)) (fun _ => dep_listed ha 2 (by kernel_rfl)))
                      · intro v listed w9 hall hR0
                        have hR := hR0.r
                        clear hR0
                        have h17 := (hR.c17 (hall 17 (by decide))).1
                        have s7 := (hR.a1 (hall 7 (by decide))).2.1
                        have s16 := (hR.s1 (hall 16 (by decide))).2.1
                        have h0 := hR.pl 0 (hall 0 (by decide))
                        replace h0 : v 0 = .slice (some ⟨ob, 0, none⟩) m m := h0
                        have h1 := hR.pl 1 (hall 1 (by decide))
                        replace h1 : v 1 = .int .i64 kv := h1
                        have I5 := Lib.hid (HI3.out.count hkm hR (hall 7 (by decide)) (hall 16 (by decide)))
                        have PB5 : Hid (Blk w9 pb 55 (poV yp)) := Lib.hid (hR.blk PB4.out (fun e => own_blk_ne HI3.out.a PB4.out (by decide) e.symm) (fun e => own_blk_ne (HI3.out.s kv hkm) PB4.out (by decide) e.symm))
                        have hoW : ∃ oc, Blk w9 ob 37 oc ∧ Runs oc m sv := by
                          obtain ⟨oc, ho_, hov⟩ := HO3.out
                          exact ⟨oc, hR.blk ho_ (fun e => own_blk_ne HI3.out.a ho_ (by decide) e.symm) (fun e => own_blk_ne (HI3.out.s kv hkm) ho_ (by decide) e.symm), hov⟩
                        clear hR hall
                        generalize hv7 : v 7 = v7 at *
                        generalize hv16 : v 16 = v16 at *
                        generalize blkS v7 = b7 at s7
                        generalize capS v7 = q7 at s7
                        generalize blkS v16 = b16 at s16
                        generalize capS v16 = q16 at s16
                        subst s7 s16
                        simp only [putFrom, Act.put, List.take_succ_cons, List.take_zero, List.setIfInBounds_toArray, List.set_cons_succ, List.set_cons_zero, h17, hv7, hv16, h0, h1]
                        clear h17 hv7 hv16 h0 h1
                        obtain ⟨oc, ho_, hov⟩ := hoW
                        have co : w9.cell? ⟨ob, kv, none⟩ = some (sv kv) := by rw [ho_.cell]; exact hov kv hkm
                        have fo : w9.frozen? ⟨ob, kv, none⟩ = false := ho_.frozen kv
                        have PB := Lib.hid (PB5.out.far (p := ⟨ob, kv, none⟩) (blk_ne PB5.out ho_ (by decide)) (.slice (some ⟨b16, 0, none⟩) ((one kv).length + 1) q16))
                        clear ho_ hov oc
                        have J5 : Hid (HoJ w.heap.size T w cb m #[.int .i64 (1 + (most : Int) % 8), .int .i64 1, .int .i64 0, .int .i64 1, .int .u64 0, .int .i64 (smT lim), .int .i64 (smA lim tau), .slice (some ⟨g, 0, none⟩) m c'] Y rb ub ob (.slice (some ⟨g, 0, none⟩) m c') (madeFrom 0 qs) (madeG lim tau most) (k + 1) t (x.took kv j t) (.slice (some ⟨b7, 0, none⟩) (all.length + 1) q7) (fun i => if i = kv then .slice (some ⟨b16, 0, none⟩) ((one kv).length + 1) q16 else sv i) (all ++ [((kv : Int), t)]) (updL one kv (one kv ++ [((kv : Int), t)])) (updI rn kv (j.runs + 1)) un (w9.setCell ⟨ob, kv, none⟩ (.slice (some ⟨b16, 0, none⟩) ((one kv).length + 1) q16))) := Lib.hid ⟨I5.out, HP2.out, HSM2.out, HQ2.out, RN3.out, by rw [List.length_append]; exact Nat.add_le_add_right LE3.out.1 1, fun q => by
                          unfold updL
                          split
                          · rw [List.length_append]; exact Nat.add_le_add_right (LE3.out.2 kv) 1
                          · exact Nat.le_succ_of_le (LE3.out.2 q), T3.out⟩
                        clear I5 HP2 HSM2 HQ2 RN3 LE3 T3 HI3 PB4 PB5 HO3 HTZ HAP HAV HSK hml hmb hmo hmp
                        go_wp2_with fail
                        go_meet
                        exact ⟨x.took kv j t, .slice (some ⟨b7, 0, none⟩) (all.length + 1) q7, fun i => if i = kv then .slice (some ⟨b16, 0, none⟩) ((one kv).length + 1) q16 else sv i, all ++ [((kv : Int), t)], updL one kv (one kv ++ [((kv : Int), t)]), updI rn kv (j.runs + 1), un, by first | rfl | (rw [HTOT.out]), rfl, J5.out, PB.out⟩
                · have qf : decide (0 < yp.f) = true := decide_eq_true (by have := HYF.out; have := HYB.out.2.1; omega)
                  clear he6 he5 hk5
                  as_aux_lemma =>
                    obtain ⟨bx, he, hp2⟩ := ho_reset J2.out.s J2.out.p ht1 (by omega) (by omega) HJ.out hf0
                    have HE := Lib.hid he
                    have HP2 := Lib.hid hp2
                    have HSM2 : Hid (Sm (⟨x.cap, x.both, x.js.set kv ⟨j.cap, j.runs, j.lm, bx⟩, t⟩) t) := Lib.hid (by have h := J2.out.s.reset ht1 (by omega) kv; rw [HE.out] at h; exact h)
                    have HQ2 : Hid (PolOk (madeG lim tau most) (madeFrom 0 qs) (⟨x.cap, x.both, x.js.set kv ⟨j.cap, j.runs, j.lm, bx⟩, t⟩)) := Lib.hid (by have h := (pol_cl (madeG lim tau most) (madeFrom 0 qs)).reset x kv t J2.out.q; rw [HE.out] at h; exact h)
                    clear hp2 he
                    have p8 : X2.cell? ⟨pb, 8, none⟩ = some (.int .i64 yp.f) := P2.out.cell 8
                    go_wp2_with fail
                    refine (gh_reset J2.out.i.h kv t HE.out).mono ?_
                    rintro e_ X3 ⟨rfl, h, hk⟩
                    have I3 := Lib.hid (J2.out.i.go h hk List.length_set)
                    have RN3 := Lib.hid (rn_set J2.out.rn kv ⟨j.cap, j.runs, j.lm, bx⟩ (c := x.cap) (b := x.both) (t := t))
                    have RNS : Hid (updI rn kv j.runs = rn) := Lib.hid (by rw [← J2.out.rn kv j HJ.out]; exact updI_self rn kv)
                    have LE3 : Hid (all.length ≤ k + 1 ∧ ∀ q, (one q).length ≤ k + 1) := Lib.hid ⟨Nat.le_succ_of_le J2.out.la, fun q => Nat.le_succ_of_le (J2.out.lo q)⟩
                    have T3 : Hid (50 ≤ t ∧ t ≤ 50 + 7 * ((k + 1 : Nat) : Int)) := Lib.hid ⟨by have := J2.out.t; omega, ht9⟩
                    have HTOT : Hid ((⟨x.cap, x.both, x.js.set kv ⟨j.cap, j.runs, j.lm, bx⟩, t⟩ : Gt).total = x.total) := Lib.hid (by show sumR (x.js.set kv _) = _; rw [sumR_set HJ.out]; show sumR x.js + (j.runs - j.runs) = sumR x.js; omega)
                    have PB3 := Lib.hid (hk _ _ _ P2.out (by decide) (by decide) (by decide) (by decide))
                    clear h hk HE J2 P2 p8
                    obtain ⟨uc, hub, huv⟩ := I3.out.u
                    have cu : X3.cell? ⟨ub, kv, none⟩ = some (.int .i64 (un kv)) := by rw [hub.cell]; exact huv kv hkm
                    have fu : X3.frozen? ⟨ub, kv, none⟩ = false := hub.frozen kv
                    have PB := Lib.hid (PB3.out.far (p := ⟨ub, kv, none⟩) (blk_ne PB3.out hub (by decide)) (.int .i64 0))
                    clear hub huv uc
                    have p9 : X3.cell? ⟨pb, 9, none⟩ = some (.int .i64 j.bx.o) := by rw [HYB.out.1]; exact PB3.out.cell 9
                    have hwo : IntKind.i64.wrap (t + j.bx.o) = t + j.bx.o := IntWalk.i64_in _ (by have := HYB.out.2.2; omega)
                    have I5 := Lib.hid (I3.out.setU hkm 0)
                    have J5 : Hid (HoJ w.heap.size T w cb m #[.int .i64 (1 + (most : Int) % 8), .int .i64 1, .int .i64 0, .int .i64 1, .int .u64 0, .int .i64 (smT lim), .int .i64 (smA lim tau), .slice (some ⟨g, 0, none⟩) m c'] Y rb ub ob (.slice (some ⟨g, 0, none⟩) m c') (madeFrom 0 qs) (madeG lim tau most) (k + 1) t (⟨x.cap, x.both, x.js.set kv ⟨j.cap, j.runs, j.lm, bx⟩, t⟩) av sv all one rn (updI un kv 0) (X3.setCell ⟨ub, kv, none⟩ (.int .i64 0))) := Lib.hid ⟨I5.out, HP2.out, HSM2.out, HQ2.out, by have h := RN3.out; rw [RNS.out] at h; exact h, LE3.out.1, LE3.out.2, T3.out⟩
                    clear I5 HP2 HSM2 HQ2 RN3 RNS LE3 T3 I3 PB3
                    go_wp2_with fail
                    go_meet
                    exact ⟨⟨x.cap, x.both, x.js.set kv ⟨j.cap, j.runs, j.lm, bx⟩, t⟩, av, sv, all, one, rn, updI un kv 0, by first | rfl | (rw [HTOT.out]), rfl, J5.out, PB.out⟩
              · have e6 : ((mv.kind : Int) % 16 == 6) = false := by rw [beq_eq_false_iff_ne]; omega
                rcases ho_take J2.out.i.h.g.inv J2.out.s J2.out.p ht1 (by omega) (by omega) HJ.out with he | ⟨he, hun, hp2⟩
                · as_aux_lemma =>
                    have HE := Lib.hid he
                    clear he
                    go_wp2_with fail
                    refine (gh_take J2.out.i.h kv t HE.out).mono ?_
                    rintro e_ X3 ⟨rfl, h, hk⟩
                    have JL := Lib.hid (J2.out.later ht1 ht9)
                    have J3 : Hid (HoJ w.heap.size T w cb m #[.int .i64 (1 + (most : Int) % 8), .int .i64 1, .int .i64 0, .int .i64 1, .int .u64 0, .int .i64 (smT lim), .int .i64 (smA lim tau), .slice (some ⟨g, 0, none⟩) m c'] Y rb ub ob (.slice (some ⟨g, 0, none⟩) m c') (madeFrom 0 qs) (madeG lim tau most) (k + 1) t x av sv all one rn un X3) := Lib.hid ⟨JL.out.i.go h hk rfl, JL.out.p, JL.out.s, JL.out.q, JL.out.rn, JL.out.la, JL.out.lo, JL.out.t⟩
                    have PB := Lib.hid (hk _ _ _ P2.out (by decide) (by decide) (by decide) (by decide))
                    clear h hk HE JL J2 P2
                    go_wp2_with fail
                    go_meet
                    exact ⟨x, av, sv, all, one, rn, un, by first | rfl | (rw [HTOT.out]), rfl, J3.out, PB.out⟩
                · as_aux_lemma =>
                    have HE := Lib.hid he
                    have HP2 := Lib.hid hp2
                    have HSM2 : Hid (Sm (x.took kv j t) t) := Lib.hid (by have h := J2.out.s.take ht1 kv; rw [HE.out] at h; exact h)
                    have HQ2 : Hid (PolOk (madeG lim tau most) (madeFrom 0 qs) (x.took kv j t)) := Lib.hid (by have h := (pol_cl (madeG lim tau most) (madeFrom 0 qs)).take x kv t J2.out.q; rw [HE.out] at h; exact h)
                    have qu : decide (t < un kv) = false := decide_eq_false (by omega)
                    have TKN : Hid ((x.took kv j t).js = x.js.set kv ⟨j.cap, j.runs + 1, j.lm.count t, (BK.take j.bx t).2⟩) := Lib.hid (by unfold Gt.took; rw [Int.toNat_natCast])
                    clear hp2 he
                    go_wp2_with fail
                    refine (gh_take J2.out.i.h kv t HE.out).mono ?_
                    rintro e_ X3 ⟨rfl, h, hk⟩
                    have I3 := Lib.hid (J2.out.i.go h hk (by rw [TKN.out]; exact List.length_set))
                    have RN3 : Hid (∀ (q : Nat) (i : Jt), (x.took kv j t).js[q]? = some i → updI rn kv (j.runs + 1) q = i.runs) := Lib.hid (fun q i hi => by
                      rw [TKN.out] at hi
                      exact rn_set J2.out.rn kv ⟨j.cap, j.runs + 1, j.lm.count t, (BK.take j.bx t).2⟩ (c := 0) (b := x.both) (t := t) q i hi)
                    have LE3 : Hid (all.length ≤ k ∧ ∀ q, (one q).length ≤ k) := Lib.hid ⟨J2.out.la, J2.out.lo⟩
                    have T3 : Hid (50 ≤ t ∧ t ≤ 50 + 7 * ((k + 1 : Nat) : Int)) := Lib.hid ⟨by have := J2.out.t; omega, ht9⟩
                    have HTOT : Hid ((x.took kv j t).total = x.total + 1) := Lib.hid (by unfold Gt.total; rw [TKN.out, sumR_set HJ.out]; show sumR x.js + (j.runs + 1 - j.runs) = sumR x.js + 1; omega)
                    have PB3 := Lib.hid (hk _ _ _ P2.out (by decide) (by decide) (by decide) (by decide))
                    have hrnj := J2.out.rn kv j HJ.out
                    clear h hk HE J2 P2
                    obtain ⟨rc, hrb, hrv⟩ := I3.out.r
                    have cr : X3.cell? ⟨rb, kv, none⟩ = some (.int .i64 j.runs) := by rw [hrb.cell, hrv kv hkm]; show some (Value.int .i64 (rn kv)) = _; rw [hrnj]
                    have fr : X3.frozen? ⟨rb, kv, none⟩ = false := hrb.frozen kv
                    have PB4 := Lib.hid (PB3.out.far (p := ⟨rb, kv, none⟩) (blk_ne PB3.out hrb (by decide)) (.int .i64 (j.runs + 1)))
                    clear hrb hrv rc hrnj
                    obtain ⟨uc, hub, huv⟩ := I3.out.u
                    have cu : X3.cell? ⟨ub, kv, none⟩ = some (.int .i64 (un kv)) := by rw [hub.cell]; exact huv kv hkm
                    clear hub huv uc
                    have hwr : IntKind.i64.wrap (j.runs + 1) = j.runs + 1 := IntWalk.i64_in _ (by omega)
                    have hwt : IntKind.i64.wrap (x.total + 1) = x.total + 1 := IntWalk.i64_in _ (by omega)
                    go_upto_region 23 with fail
                    have HI3 := Lib.hid (I3.out.setR hkm (j.runs + 1))
                    obtain ⟨X4, hX4⟩ : ∃ X4, X4 = X3.setCell ⟨rb, kv, none⟩ (.int .i64 (j.runs + 1)) := ⟨_, rfl⟩
                    rw [← hX4] at HI3 PB4 ⊢
                    clear hX4 cr fr cu hwr hwt qu I3 PB3
                    have HO3 := Lib.hid HI3.out.o
                    have HTZ : Hid (T ≤ X4.heap.size) := Lib.hid (by obtain ⟨oc, ho_, -⟩ := HI3.out.o; have := ho_.lt; have := HI3.out.lo; omega)
                    have HAP := Lib.hid (HI3.out.ap kv hkm)
                    have HAV := Lib.hid (own_len HI3.out.a)
                    have HSK := Lib.hid (own_len (HI3.out.s kv hkm))
                    have hle := LE3.out
                    have hml : all.length + 1 ≤ maxLen := by unfold maxLen; omega
                    have hmb : (all.length + 1) * 16 ≤ 140737488355328 := by omega
                    have hmo : (one kv).length + 1 ≤ maxLen := by have := hle.2 kv; unfold maxLen; omega
                    have hmp : ((one kv).length + 1) * 16 ≤ 140737488355328 := by have := hle.2 kv; omega
                    clear hle
                    obtain ⟨i0, hi0, hz0, hz1, hz2⟩ := info_parts info_la
                    refine wp_region_put_tail2 _ 18 _ (R := R24 T X4 ob kv (.slice (some ⟨ob, 0, none⟩) m m) av (sv kv) all (one kv) ((kv : Int), t)) (by rfl) (by kernel_rfl) (by kernel_rfl) (by kernel_rfl) (by kernel_rfl) (by kernel_rfl) (by kernel_rfl) (by kernel_rfl) (by kernel_rfl) ?_ ?_ ?_
                    · intro v hv
                      refine ⟨⟨fun i hi => (rep_not hi).elim, fun _ => HI3.out.a.below (Below.refl _ _).drew, fun hz => (rep_not hz).elim, fun _ => (HI3.out.s kv hkm).below (Below.refl _ _).drew, fun hz => (rep_not hz).elim, fun hz => (rep_not hz).elim, fun hz => (rep_not hz).elim, fun hz => (rep_not hz).elim, fun b _ _ _ => rfl, Nat.le_refl _, (Below.refl _ _).drew⟩, fun hz => (rep_not hz).elim, fun _ => ?_⟩
                      exact hv 17 _ 16 rfl rfl
                    · intro Q' K_ listed v wx i o hsz ho hli ha hR hK
                      have HW := Lib.hid hR
                      have HV := Lib.hid HW.out.r
                      have HSZ := Lib.hid (show listed.size = 20 from hsz)
                      have dep := fun d hd => HV.out.pl d (dep_listed ha d hd)
                      have hi : i < 18 := (List.getElem?_eq_some_iff.1 ho).1
                      clear hR hsz
                      obtain rfl | rfl | rfl | rfl | rfl | rfl | rfl | rfl | rfl | rfl | rfl | rfl | rfl | rfl | rfl | rfl | rfl | rfl : i = 0 ∨ i = 1 ∨ i = 2 ∨ i = 3 ∨ i = 4 ∨ i = 5 ∨ i = 6 ∨ i = 7 ∨ i = 8 ∨ i = 9 ∨ i = 10 ∨ i = 11 ∨ i = 12 ∨ i = 13 ∨ i = 14 ∨ i = 15 ∨ i = 16 ∨ i = 17 := by omega
                      · -- operation 0
                        cases ho
                        simp only [putFrom, Act.put, List.take_succ_cons, List.take_zero, List.setIfInBounds_toArray, List.set_cons_succ, List.set_cons_zero] at hK ⊢
                        go_simp
                        exact hK _ _ (HW.out.step hli (HV.out.plain (by decide) rfl (fun e => by cases e)) (fun e => by cases e))
                      · -- operation 1
                        cases ho
                        simp only [putFrom, Act.put, List.take_succ_cons, List.take_zero, List.setIfInBounds_toArray, List.set_cons_succ, List.set_cons_zero] at hK ⊢
                        go_simp
                        exact hK _ _ (HW.out.step hli (HV.out.plain (by decide) rfl (fun e => by cases e)) (fun e => by cases e))
                      · -- operation 2
                        cases ho
                        have e17 := HW.out.at2 HSZ.out hli
                        simp only [putFrom, Act.put, List.take_succ_cons, List.take_zero, List.setIfInBounds_toArray, List.set_cons_succ, List.set_cons_zero, e17] at hK ⊢
                        go_simp
                        exact hK _ _ (HW.out.step hli (HV.out.plain (by decide) rfl (fun e => by cases e)) (fun e => by cases e))
                      · -- operation 3
                        cases ho
                        simp only [putFrom, Act.put, List.take_succ_cons, List.take_zero, List.setIfInBounds_toArray, List.set_cons_succ, List.set_cons_zero] at hK ⊢
                        go_simp
                        exact hK _ _ (HW.out.step hli (HV.out.plain (by decide) rfl (fun e => by cases e)) (fun e => by cases e))
                      · -- operation 4
                        cases ho
                        simp only [putFrom, Act.put, List.take_succ_cons, List.take_zero, List.setIfInBounds_toArray, List.set_cons_succ, List.set_cons_zero] at hK ⊢
                        go_simp
                        exact hK _ _ (HW.out.step hli (HV.out.plain (by decide) rfl (fun e => by cases e)) (fun e => by cases e))
                      · -- operation 5
                        cases ho
                        have h3 := dep 3 (by kernel_rfl)
                        replace h3 : v 3 = _ := h3
                        have h4 := dep 4 (by kernel_rfl)
                        replace h4 : v 4 = _ := h4
                        simp only [putFrom, Act.put, List.take_succ_cons, List.take_zero, List.setIfInBounds_toArray, List.set_cons_succ, List.set_cons_zero, h3, h4] at hK ⊢
                        go_simp
                        exact hK _ _ (HW.out.step hli (HV.out.plain (by decide) rfl (fun e => by cases e)) (fun e => by cases e))
                      · -- operation 6
                        cases ho
                        have h5 := dep 5 (by kernel_rfl)
                        replace h5 : v 5 = _ := h5
                        simp only [putFrom, Act.put, List.take_succ_cons, List.take_zero, List.setIfInBounds_toArray, List.set_cons_succ, List.set_cons_zero, h5] at hK ⊢
                        go_simp
                        exact hK _ _ (HW.out.step hli (HV.out.new1 rfl HTZ.out) (fun e => by cases e))
                      · -- operation 7
                        cases ho
                        have h2 := dep 2 (by kernel_rfl)
                        replace h2 : v 2 = _ := h2
                        have h6' := HV.out.n1 (dep_listed ha 6 (by kernel_rfl))
                        have h6 := h6'.1
                        have hrow := h6'.2.2 hli
                        have hown := HV.out.a0 hli
                        clear h6'
                        generalize blkS (v 6) = r6 at h6 hrow
                        have hnew := la_news hrow
                        have hbs : T ≤ wx.heap.size := Nat.le_trans HTZ.out HV.out.sz
                        clear hrow
                        simp only [putFrom, Act.put, List.take_succ_cons, List.take_zero, List.setIfInBounds_toArray, List.set_cons_succ, List.set_cons_zero, h2, h6] at hK ⊢
                        refine wp_append_lies _ _ _ _ rfl T 62 i0 (.agg #[.int .i64 0, .int .i64 0]) 2 16 Tryz.underlying37 hi0 hz0 hz1 hz2 rfl (by decide) (av) _ _ rfl hown ⟨r6, 0, none⟩ 1 1 [.int .i64 kv, .int .i64 t] rfl rfl hnew (by simp [Value.oneCell']) (by decide) hml hmb hbs _ rfl ?_
                        intro g8 cap8 w8 hown8 hgrow8 hgg8 _
                        exact hK _ _ (HW.out.step hli (HV.out.app1 hli (HV.out.no16 HSZ.out hli) HTZ.out HAP.out HAV.out hgrow8 hgg8 hown8) (fun e => by cases e))
                      · -- operation 8
                        cases ho
                        simp only [putFrom, Act.put, List.take_succ_cons, List.take_zero, List.setIfInBounds_toArray, List.set_cons_succ, List.set_cons_zero] at hK ⊢
                        go_simp
                        exact hK _ _ (HW.out.step hli (HV.out.plain (by decide) rfl (fun e => by cases e)) (fun e => by cases e))
                      · -- operation 9
                        cases ho
                        simp only [putFrom, Act.put, List.take_succ_cons, List.take_zero, List.setIfInBounds_toArray, List.set_cons_succ, List.set_cons_zero] at hK ⊢
                        go_simp
                        exact hK _ _ (HW.out.step hli (HV.out.plain (by decide) rfl (fun e => by cases e)) (fun e => by cases e))
                      · -- operation 10
                        cases ho
                        have h8 := dep 8 (by kernel_rfl)
                        replace h8 : v 8 = _ := h8
                        have h9 := dep 9 (by kernel_rfl)
                        replace h9 : v 9 = _ := h9
                        simp only [putFrom, Act.put, List.take_succ_cons, List.take_zero, List.setIfInBounds_toArray, List.set_cons_succ, List.set_cons_zero, h8, h9] at hK ⊢
                        go_simp
                        exact hK _ _ (HW.out.step hli (HV.out.plain (by decide) rfl (fun e => by cases e)) (fun e => by cases e))
                      · -- operation 11
                        cases ho
                        have h10 := dep 10 (by kernel_rfl)
                        replace h10 : v 10 = _ := h10
                        have co : wx.cell? ⟨ob, kv, none⟩ = some (sv kv) := by
                          obtain ⟨oc, ho_, hov⟩ := HO3.out
                          rw [(HV.out.blk ho_ (fun e => own_blk_ne HI3.out.a ho_ (by decide) e.symm) (fun e => own_blk_ne (HI3.out.s kv hkm) ho_ (by decide) e.symm)).cell, hov kv hkm]
                        simp only [putFrom, Act.put, List.take_succ_cons, List.take_zero, List.setIfInBounds_toArray, List.set_cons_succ, List.set_cons_zero, h10] at hK ⊢
                        go_simp
                        exact hK _ _ (HW.out.step hli (HV.out.plain (by decide) rfl (fun e => by cases e)) (fun e => by cases e))
                      · -- operation 12
                        cases ho
                        simp only [putFrom, Act.put, List.take_succ_cons, List.take_zero, List.setIfInBounds_toArray, List.set_cons_succ, List.set_cons_zero] at hK ⊢
                        go_simp
                        exact hK _ _ (HW.out.step hli (HV.out.plain (by decide) rfl (fun e => by cases e)) (fun e => by cases e))
                      · -- operation 13
                        cases ho
                        simp only [putFrom, Act.put, List.take_succ_cons, List.take_zero, List.setIfInBounds_toArray, List.set_cons_succ, List.set_cons_zero] at hK ⊢
                        go_simp
                        exact hK _ _ (HW.out.step hli (HV.out.plain (by decide) rfl (fun e => by cases e)) (fun e => by cases e))
                      · -- operation 14
                        cases ho
                        have h12 := dep 12 (by kernel_rfl)
                        replace h12 : v 12 = _ := h12
                        have h13 := dep 13 (by kernel_rfl)
                        replace h13 : v 13 = _ := h13
                        simp only [putFrom, Act.put, List.take_succ_cons, List.take_zero, List.setIfInBounds_toArray, List.set_cons_succ, List.set_cons_zero, h12, h13] at hK ⊢
                        go_simp
                        exact hK _ _ (HW.out.step hli (HV.out.plain (by decide) rfl (fun e => by cases e)) (fun e => by cases e))
                      · -- operation 15
                        cases ho
                        have h14 := dep 14 (by kernel_rfl)
                        replace h14 : v 14 = _ := h14
                        simp only [putFrom, Act.put, List.take_succ_cons, List.take_zero, List.setIfInBounds_toArray, List.set_cons_succ, List.set_cons_zero, h14] at hK ⊢
                        go_simp
                        exact hK _ _ (HW.out.step hli (HV.out.new2 rfl HTZ.out) (fun e => by cases e))
                      · -- operation 16
                        cases ho
                        have h11 := dep 11 (by kernel_rfl)
                        replace h11 : v 11 = _ := h11
                        have h15' := HV.out.n2 (dep_listed ha 15 (by kernel_rfl))
                        have h15 := h15'.1
                        have hrow := h15'.2.2 hli
                        have hown := HV.out.s0 hli
                        clear h15'
                        generalize blkS (v 15) = r6 at h15 hrow
                        have hnew := la_news hrow
                        have hbs : T ≤ wx.heap.size := Nat.le_trans HTZ.out HV.out.sz
                        clear hrow
                        simp only [putFrom, Act.put, List.take_succ_cons, List.take_zero, List.setIfInBounds_toArray, List.set_cons_succ, List.set_cons_zero, h11, h15] at hK ⊢
                        refine wp_append_lies _ _ _ _ rfl T 62 i0 (.agg #[.int .i64 0, .int .i64 0]) 2 16 Tryz.underlying37 hi0 hz0 hz1 hz2 rfl (by decide) (sv kv) _ _ rfl hown ⟨r6, 0, none⟩ 1 1 [.int .i64 kv, .int .i64 t] rfl rfl hnew (by simp [Value.oneCell']) (by decide) hmo hmp hbs _ rfl ?_
                        intro g8 cap8 w8 hown8 hgrow8 hgg8 _
                        exact hK _ _ (HW.out.step hli (HV.out.app2 (dep_listed ha 7 (by kernel_rfl)) hli HTZ.out HAP.out HSK.out hgrow8 hgg8 hown8) (fun e => by cases e))
                      · -- operation 17
                        cases ho
                        simp only [putFrom, Act.put, List.take_succ_cons, List.take_zero, List.setIfInBounds_toArray, List.set_cons_succ, List.set_cons_zero] at hK ⊢
                        go_simp
                        exact hK _ _ (HW.out.step hli (HV.out.plain (by decide) trivial (fun _ => ⟨rfl, dep_listed ha 7 (by kernel_rfl), dep_listed ha 16 (by kernel_rfl)⟩)) (fun _ => dep_listed ha 2 (by kernel_rfl)))
                    · intro v listed w9 hall hR0
                      have hR := hR0.r
                      clear hR0
                      have h17 := (hR.c17 (hall 17 (by decide))).1
                      have s7 := (hR.a1 (hall 7 (by decide))).2.1
                      have s16 := (hR.s1 (hall 16 (by decide))).2.1
                      have h0 := hR.pl 0 (hall 0 (by decide))
                      replace h0 : v 0 = .slice (some ⟨ob, 0, none⟩) m m := h0
                      have h1 := hR.pl 1 (hall 1 (by decide))
                      replace h1 : v 1 = .int .i64 kv := h1
                      have I5 := Lib.hid (HI3.out.count hkm hR (hall 7 (by decide)) (hall 16 (by decide)))
                      have PB5 : Hid (Blk w9 pb 55 (poV yp)) := Lib.hid (hR.blk PB4.out (fun e => own_blk_ne HI3.out.a PB4.out (by decide) e.symm) (fun e => own_blk_ne (HI3.out.s kv hkm) PB4.out (by decide) e.symm))
                      have hoW : ∃ oc, Blk w9 ob 37 oc ∧ Runs oc m sv := by
                        obtain ⟨oc, ho_, hov⟩ := HO3.out
                        exact ⟨oc, hR.blk ho_ (fun e => own_blk_ne HI3.out.a ho_ (by decide) e.symm) (fun e => own_blk_ne (HI3.out.s kv hkm) ho_ (by decide) e.symm), hov⟩
                      clear hR hall
                      generalize hv7 : v 7 = v7 at *
                      generalize hv16 : v 16 = v16 at *
                      generalize blkS v7 = b7 at s7
                      generalize capS v7 = q7 at s7
                      generalize blkS v16 = b16 at s16
                      generalize capS v16 = q16 at s16
                      subst s7 s16
                      simp only [putFrom, Act.put, List.take_succ_cons, List.take_zero, List.setIfInBounds_toArray, List.set_cons_succ, List.set_cons_zero, h17, hv7, hv16, h0, h1]
                      clear h17 hv7 hv16 h0 h1
                      obtain ⟨oc, ho_, hov⟩ := hoW
                      have co : w9.cell? ⟨ob, kv, none⟩ = some (sv kv) := by rw [ho_.cell]; exact hov kv hkm
                      have fo : w9.frozen? ⟨ob, kv, none⟩ = false := ho_.frozen kv
                      have PB := Lib.hid (PB5.out.far (p := ⟨ob, kv, none⟩) (blk_ne PB5.out ho_ (by decide)) (.slice (some ⟨b16, 0, none⟩) ((one kv).length + 1) q16))
                      clear ho_ hov oc
                      have J5 : Hid (HoJ w.heap.size T w cb m #[.int .i64 (1 + (most : Int) % 8), .int .i64 1, .int .i64 0, .int .i64 1, .int .u64 0, .int .i64 (smT lim), .int .i64 (smA lim tau), .slice (some ⟨g, 0, none⟩) m c'] Y rb ub ob (.slice (some ⟨g, 0, none⟩) m c') (madeFrom 0 qs) (madeG lim tau most) (k + 1) t (x.took kv j t) (.slice (some ⟨b7, 0, none⟩) (all.length + 1) q7) (fun i => if i = kv then .slice (some ⟨b16, 0, none⟩) ((one kv).length + 1) q16 else sv i) (all ++ [((kv : Int), t)]) (updL one kv (one kv ++ [((kv : Int), t)])) (updI rn kv (j.runs + 1)) un (w9.setCell ⟨ob, kv, none⟩ (.slice (some ⟨b16, 0, none⟩) ((one kv).length + 1) q16))) := Lib.hid ⟨I5.out, HP2.out, HSM2.out, HQ2.out, RN3.out, by rw [List.length_append]; exact Nat.add_le_add_right LE3.out.1 1, fun q => by
                        unfold updL
                        split
                        · rw [List.length_append]; exact Nat.add_le_add_right (LE3.out.2 kv) 1
                        · exact Nat.le_succ_of_le (LE3.out.2 q), T3.out⟩
                      clear I5 HP2 HSM2 HQ2 RN3 LE3 T3 HI3 PB4 PB5 HO3 HTZ HAP HAV HSK hml hmb hmo hmp
                      go_wp2_with fail
                      go_meet
                      exact ⟨x.took kv j t, .slice (some ⟨b7, 0, none⟩) (all.length + 1) q7, fun i => if i = kv then .slice (some ⟨b16, 0, none⟩) ((one kv).length + 1) q16 else sv i, all ++ [((kv : Int), t)], updL one kv (one kv ++ [((kv : Int), t)]), updI rn kv (j.runs + 1), un, by first | rfl | (rw [HTOT.out]), rfl, J5.out, PB.out⟩
        case rest =>
          obtain ⟨x2, av2, sv2, all2, one2, rn2, un2, rfl, rfl, hJ5, hPB⟩ := hcut
          have J5 := Lib.hid hJ5
          have PB := Lib.hid hPB
          clear hJ5 hPB J2 P2
          obtain ⟨j2, hj2_⟩ : ∃ j2, x2.js[kv]? = some j2 := ⟨_, List.getElem?_eq_getElem (by rw [J5.out.i.n]; exact hkm)⟩
          as_aux_lemma =>
            have hj2 : (x2 : Gt).js[kv]? = some (j2) := hj2_
            have HS2 := Lib.hid (ho_state J5.out.s (Int.le_refl _) (by omega) (by omega) hj2)
            have HJ2 := Lib.hid hj2
            clear hj2
            go_wp2_with fail
            refine (gh_state J5.out.i.h kv t HS2.out).mono ?_
            rintro e_ Xs ⟨rfl, h, hk⟩
            have Js : Hid (HoJ w.heap.size T w cb m #[.int .i64 (1 + (most : Int) % 8), .int .i64 1, .int .i64 0, .int .i64 1, .int .u64 0, .int .i64 (smT lim), .int .i64 (smA lim tau), .slice (some ⟨g, 0, none⟩) m c'] Y rb ub ob (.slice (some ⟨g, 0, none⟩) m c') (madeFrom 0 qs) (madeG lim tau most) (k + 1) t (x2) (av2) (sv2) (all2) (one2) (rn2) (un2) Xs) := Lib.hid ⟨J5.out.i.go h hk rfl, J5.out.p, J5.out.s, J5.out.q, J5.out.rn, J5.out.la, J5.out.lo, J5.out.t⟩
            have PBs := Lib.hid (hk _ _ _ PB.out (by decide) (by decide) (by decide) (by decide))
            clear h hk J5 HS2 PB
            have hq := Js.out.q
            have hjp : JPol yp (j2) := by
              have h : JPol (jbR kv r).y (j2) := hq.js kv _ _ HYP.out HJ2.out
              rw [HYV.out] at h
              exact h
            have hinv := Js.out.i.h.g.inv.js _ (List.mem_of_getElem? HJ2.out)
            have hsm := Js.out.s.js _ (List.mem_of_getElem? HJ2.out)
            have hpj := (Js.out.p.js kv _ HJ2.out).1
            have cr : Xs.cell? ⟨rb, kv, none⟩ = some (.int .i64 (j2).runs) := by
              obtain ⟨rc, hrb, hrv⟩ := Js.out.i.r
              rw [hrb.cell, hrv kv hkm]
              show some (Value.int .i64 ((rn2) kv)) = _
              rw [Js.out.rn kv _ HJ2.out]
            have co : Xs.cell? ⟨ob, kv, none⟩ = some ((sv2) kv) := by
              obtain ⟨oc, hob, hov⟩ := Js.out.i.o
              rw [hob.cell, hov kv hkm]
            have p0 : Xs.cell? ⟨pb, 0, none⟩ = some (.int .i64 yp.cap) := PBs.out.cell 0
            have p6 : Xs.cell? ⟨pb, 6, none⟩ = some (.int .i64 yp.t) := PBs.out.cell 6
            have p7 : Xs.cell? ⟨pb, 7, none⟩ = some (.int .i64 yp.tau) := PBs.out.cell 7
            have k0 : Xs.cell? ⟨cb, 0, none⟩ = some (.int .i64 (1 + (most : Int) % 8)) := Js.out.i.c.cell 0
            have k5 : Xs.cell? ⟨cb, 5, none⟩ = some (.int .i64 (smT lim)) := Js.out.i.c.cell 5
            have k6 : Xs.cell? ⟨cb, 6, none⟩ = some (.int .i64 (smA lim tau)) := Js.out.i.c.cell 6
            have qcap : decide (yp.cap < (j2).runs) = false := decide_eq_false (by have := hinv.2.1.2; have := hjp.cap; omega)
            have htt : (x2 : Gt).total = x2.total := rfl
            have qtot : decide (1 + (most : Int) % 8 < x2.total) = false := decide_eq_false (by
              have h1 := hq.tot
              have h2 := hq.cap
              rw [htt] at h1
              have h3 : (madeG lim tau most).cap = 1 + (most : Int) % 8 := rfl
              omega)
            have et : (x2 : Gt).both.t = smT lim := hq.t
            have ea : (x2 : Gt).both.tau = smA lim tau := hq.tau
            have KA : Hid (∀ Wx, Below Xs.heap.size Xs Wx → Calls Tryz.prog 15 #[av2, .agg #[.int .i64 (smT lim), .int .i64 (smA lim tau)]] Wx fun e w' => e = .returned (.bool true) ∧ Below Wx.heap.size Wx w') := Lib.hid (fun Wx hb => by
              have h := keeps_own Js.out.p.both Js.out.s.both.2 (by omega) (Nat.le_trans Js.out.la (by omega)) (by rw [et]; exact smT_in lim) (by rw [ea]; exact smA_in lim tau) Wx (Js.out.i.a.below hb)
              rw [et, ea] at h
              exact h)
            have KS : Hid (∀ Wx, Below Xs.heap.size Xs Wx → Calls Tryz.prog 15 #[(sv2) kv, .agg #[.int .i64 yp.t, .int .i64 yp.tau]] Wx fun e w' => e = .returned (.bool true) ∧ Below Wx.heap.size Wx w') := Lib.hid (fun Wx hb => by
              have h := keeps_own hpj hsm.1.2 (by omega) (Nat.le_trans (Js.out.lo kv) (by omega)) (by rw [hjp.t]; exact HYS.out.1) (by rw [hjp.tau]; exact HYS.out.2) Wx ((Js.out.i.s kv hkm).below hb)
              rw [hjp.t, hjp.tau] at h
              exact h)
            have KA' := Lib.hid (fun d os => Calls.regrown_of (KA.out (Sort.grow (redrawn Xs d) os) (below_regrown Xs d os)))
            have KS' := Lib.hid (fun d os => Calls.regrown_of (KS.out (Sort.grow (redrawn Xs d) os) (below_regrown Xs d os)))
            clear hq hjp hinv hsm hpj et ea KA KS htt
            have qr := cell_regrown cr
            have qo := cell_regrown co
            have qp0 := cell_regrown p0
            have qp6 := cell_regrown p6
            have qp7 := cell_regrown p7
            have qk0 := cell_regrown k0
            have qk5 := cell_regrown k5
            have qk6 := cell_regrown k6
            go_upto_region 42 with fail
            refine wp_region_quiet_below (by kernel_rfl) (by kernel_rfl) ?_
            repeat (go_big_quiet_step (fail))
            go_big_quiet_step ((go_at_call 15; exact KA'.out _ _))
            repeat (go_big_quiet_step (fail))
            go_big_quiet_step ((go_at_call 15; exact KS'.out _ _))
            repeat (go_big_quiet_step (fail))
            refine wpQuiet_nil ?_
            intro _ hw'
            obtain ⟨⟨dq, osq⟩, hw''⟩ := hw'
            subst hw''
            have Jz := Lib.hid (Js.out.below (below_regrown Xs dq osq))
            clear qr qo qp0 qp6 qp7 qk0 qk5 qk6 cr co p0 p6 p7 k0 k5 k6 qcap qtot KA' KS' Js PBs
            go_wp2_with fail
            refine ⟨⟨k + 1, by omega, by go_num, t, _, _, _, _, _, _, _, rfl, rfl, rfl, Jz.out⟩, ?_⟩
            simp [intA]; omega
      · obtain rfl : mm = k := by omega
        go_wp2_with fail
        refine (aworks_ok _ (TT.out _ J1.out.i.h.bel).1 (TT.out _ J1.out.i.h.bel).2).mono ?_
        rintro e_ X9 ⟨rfl, hb⟩
        have BE := Lib.hid (J1.out.i.h.bel.trans (hb.mono J1.out.i.h.bel.size))
        clear hb
        go_wp2_with fail
        go_ret
        exact ⟨rfl, BE.out⟩
end Go.Proofs.YtpgckpafjiojfaaGreatDoor.AD
