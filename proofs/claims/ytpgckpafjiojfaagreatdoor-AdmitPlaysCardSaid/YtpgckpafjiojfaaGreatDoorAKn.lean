/- The walk of wakemanlaw35.AdmitPlays. -/
import Derived.Test.YtpgckpafjiojfaaGreatDoorAKm
import Derived.Test.YtpgckpafjiojfaaGreatDoorAKJ
import Derived.Test.YtpgckpafjiojfaaGreatDoorAJf
import Derived.Deep.CutBlock
namespace Go.Proofs.YtpgckpafjiojfaaGreatDoor.AD
open Go Go.RowKit BW
open BK (Bx BoxAt RBoxAt Blk only_refl only_drew only_drewN only_setCell only_trans only_of_below only_alloc below_drewN)
theorem two_lens {w : World} {L : Ly} {x : Gt} (h : GAt w L x) : x.runsL.length ≤ 1000 ∧ x.tatsL.length ≤ 1000 ∧ x.boxesL.length ≤ 1000 := by
 have := h.inv.n
 unfold Gt.runsL Gt.tatsL Gt.boxesL
 simp only [List.length_map, List.length_cons]
 omega
set_option maxRecDepth 16000 in
set_option maxHeartbeats 8000000 in
theorem plays_walk (c : Cf) (L : JL) (a : Option Addr) (ms : List Stp) (mm mc : Nat) (hmn : ms.length = mm) (hmc : mm ≤ mc) (_hz : mm ≤ 9223372036854775807) (w : World) (hp : CIn w c L ∧ c.n ≤ 9223372036854775807) (hm : StepsAt w a ms) (hT : SpTab w) (hTab : Tab w) : Calls Tryz.prog 5 #[.agg (cfV c), .slice a mm mc] w fun e w' => e = .returned (.bool true) ∧ Below w.heap.size w w' := by
 obtain ⟨hI, hn9⟩ := hp
 obtain ⟨cg, ca, cn, cc⟩ := c
 have HM := Lib.hid (fun W (hb : Below w.heap.size w W) => hm.below hb)
 have HMN := Lib.hid hmn
 have HTT := Lib.hid (show ∀ W, Below w.heap.size w W → SpTab W ∧ Tab W from fun W hW => ⟨hT.below hW, tab_below hTab hW (tab_lt hTab)⟩)
 have CW := Lib.hid (fun W (hW : Below w.heap.size w W) => aworks_ok W (HTT.out W hW).1 (HTT.out W hW).2)
 have HIN := Lib.hid hI
 have HCV : Hid (cfV ⟨cg, ca, cn, cc⟩ = #[.int .i64 cg.cap, .int .i64 cg.q, .int .i64 cg.ar, .int .i64 cg.ag, .int .u64 cg.sd, .int .i64 cg.t, .int .i64 cg.tau, .slice ca cn cc]) := Lib.hid (cfV_eq ⟨cg, ca, cn, cc⟩)
 rw [HCV.out]
 obtain ⟨W1, hW1⟩ : ∃ W1, W1 = w.alloc (.cells #[.int .i64 cg.cap, .int .i64 cg.q, .int .i64 cg.ar, .int .i64 cg.ag, .int .u64 cg.sd, .int .i64 cg.t, .int .i64 cg.tau, .slice ca cn cc] 31) := ⟨_, rfl⟩
 have hB : Below w.heap.size w W1 := by rw [hW1]; exact (Below.refl _ w).alloc (Nat.le_refl _) _
 have HB1 := Lib.hid hB
 obtain ⟨cb, hcb⟩ : ∃ cb, cb = w.heap.size := ⟨_, rfl⟩
 have C1 : Hid (Blk W1 cb 31 #[.int .i64 cg.cap, .int .i64 cg.q, .int .i64 cg.ar, .int .i64 cg.ag, .int .u64 cg.sd, .int .i64 cg.t, .int .i64 cg.tau, .slice ca cn cc]) := Lib.hid (by rw [hW1, hcb]; exact Blk.new w _ _)
 have CF0 := few_ok ⟨cg, ca, cn, cc⟩ L W1 (hI.below hB) hn9
 rw [HCV.out] at CF0
 have CF := Lib.hid CF0
 clear CF0 hI hn9 hm hT hTab hB
 go_enter Tryz.func5, Tryz.ntmps5
 go_upto_region 1 with fail
 rw [← hW1]
 rw [← hcb]
 clear hW1 hcb
 have k0 : W1.cell? ⟨cb, 0, none⟩ = some (.int .i64 cg.cap) := C1.out.cell 0
 have k1 : W1.cell? ⟨cb, 1, none⟩ = some (.int .i64 cg.q) := C1.out.cell 1
 have k2 : W1.cell? ⟨cb, 2, none⟩ = some (.int .i64 cg.ar) := C1.out.cell 2
 have k3 : W1.cell? ⟨cb, 3, none⟩ = some (.int .i64 cg.ag) := C1.out.cell 3
 have k4 : W1.cell? ⟨cb, 4, none⟩ = some (.int .u64 cg.sd) := C1.out.cell 4
 have k5 : W1.cell? ⟨cb, 5, none⟩ = some (.int .i64 cg.t) := C1.out.cell 5
 have k6 : W1.cell? ⟨cb, 6, none⟩ = some (.int .i64 cg.tau) := C1.out.cell 6
 have k7 : W1.cell? ⟨cb, 7, none⟩ = some (.slice ca cn cc) := C1.out.cell 7
 go_wp2_with fail
 refine (CF.out).mono ?_
 rintro e_ W2 (⟨rfl, hb⟩ | ⟨rfl, hf, hb⟩)
 ·have HB2 := Lib.hid (HB1.out.trans (hb.mono HB1.out.size))
  clear hb k0 k1 k2 k3 k4 k5 k6 k7 CF C1 HB1
  have T := Lib.hid (CW.out W2 HB2.out)
  go_wp2_with fail
  refine (T.out).mono ?_
  rintro e_ X9 ⟨rfl, hb⟩
  have HB9 := Lib.hid (HB2.out.trans (hb.mono HB2.out.size))
  clear hb T
  go_wp2_with fail
  go_ret
  exact ⟨rfl, HB9.out⟩
 ·have HB2 := Lib.hid (HB1.out.trans (hb.mono HB1.out.size))
  have C2 := Lib.hid (C1.out.below hb C1.out.lt)
  have HFEW := Lib.hid hf
  clear hb hf k0 k1 k2 k3 k4 k5 k6 k7 CF C1 HB1
  rcases Nat.lt_or_ge 80 mm with h80 | h80
  ·have d1 : decide ((80 : Int) < mm) = true := decide_eq_true (by omega)
   clear h80
   have T := Lib.hid (CW.out W2 HB2.out)
   go_wp2_with fail
   refine (T.out).mono ?_
   rintro e_ X9 ⟨rfl, hb⟩
   have HB9 := Lib.hid (HB2.out.trans (hb.mono HB2.out.size))
   clear hb T
   go_wp2_with fail
   go_ret
   exact ⟨rfl, HB9.out⟩
  ·have d1 : decide ((80 : Int) < mm) = false := decide_eq_false (by omega)
   have HA := Lib.hid (fun W (hW : Below w.heap.size w W) => HFEW.out.arg (HIN.out.below hW) (HTT.out W hW).1 (HTT.out W hW).2)
   have k0 : W2.cell? ⟨cb, 0, none⟩ = some (.int .i64 cg.cap) := C2.out.cell 0
   have k1 : W2.cell? ⟨cb, 1, none⟩ = some (.int .i64 cg.q) := C2.out.cell 1
   have k2 : W2.cell? ⟨cb, 2, none⟩ = some (.int .i64 cg.ar) := C2.out.cell 2
   have k3 : W2.cell? ⟨cb, 3, none⟩ = some (.int .i64 cg.ag) := C2.out.cell 3
   have k4 : W2.cell? ⟨cb, 4, none⟩ = some (.int .u64 cg.sd) := C2.out.cell 4
   have k5 : W2.cell? ⟨cb, 5, none⟩ = some (.int .i64 cg.t) := C2.out.cell 5
   have k6 : W2.cell? ⟨cb, 6, none⟩ = some (.int .i64 cg.tau) := C2.out.cell 6
   have k7 : W2.cell? ⟨cb, 7, none⟩ = some (.slice ca cn cc) := C2.out.cell 7
   by_cases hE : cfE cg L = 0
   ·have hC : CfOk cg L := cfE_zero.1 hE
    have HN : Hid ((g0 cg L).js.length = L.length) := Lib.hid (by unfold g0; simp)
    have N1 := gnew_yes ⟨cg, ca, cn, cc⟩ L W2 (HA.out W2 HB2.out) hC
    rw [HCV.out] at N1
    have NA := Lib.hid N1
    have HCC := Lib.hid hC
    clear N1 hC hE
    go_wp2_with fail
    refine (NA.out).mono ?_
    rintro e_ W3 ⟨Y, rfl, hg, hsup, hb⟩
    have HB3 := Lib.hid (HB2.out.trans (hb.mono HB2.out.size))
    have C3 := Lib.hid (C2.out.below hb C2.out.lt)
    have G3 := Lib.hid hg
    have SU := Lib.hid hsup
    clear hg hsup hb NA k0 k1 k2 k3 k4 k5 k6 k7 C2
    have N2 := rgnew_yes ⟨cg, ca, cn, cc⟩ L W3 (HA.out W3 HB3.out) HCC.out
    rw [HCV.out] at N2
    have NB := Lib.hid N2
    clear N2
    have k0 : W3.cell? ⟨cb, 0, none⟩ = some (.int .i64 cg.cap) := C3.out.cell 0
    have k1 : W3.cell? ⟨cb, 1, none⟩ = some (.int .i64 cg.q) := C3.out.cell 1
    have k2 : W3.cell? ⟨cb, 2, none⟩ = some (.int .i64 cg.ar) := C3.out.cell 2
    have k3 : W3.cell? ⟨cb, 3, none⟩ = some (.int .i64 cg.ag) := C3.out.cell 3
    have k4 : W3.cell? ⟨cb, 4, none⟩ = some (.int .u64 cg.sd) := C3.out.cell 4
    have k5 : W3.cell? ⟨cb, 5, none⟩ = some (.int .i64 cg.t) := C3.out.cell 5
    have k6 : W3.cell? ⟨cb, 6, none⟩ = some (.int .i64 cg.tau) := C3.out.cell 6
    have k7 : W3.cell? ⟨cb, 7, none⟩ = some (.slice ca cn cc) := C3.out.cell 7
    go_wp2_with fail
    refine (NB.out).mono ?_
    rintro e_ W4 ⟨R, rfl, hr, hsr, hb⟩
    have J : Hid (Two w.heap.size L.length w Y R (g0 cg L) (g0 cg L) W4) := Lib.hid ⟨G3.out.below hb, hr, HN.out, HN.out, fun i hi hi2 => (by have h1 := G3.out.lt (i := i) (by rw [HN.out]; exact hi); have h2 := hsr i hi2; omega), fun i hi => Nat.le_trans HB2.out.size (SU.out i (.inl hi)), fun i hi => Nat.le_trans HB3.out.size (hsr i (.inl hi)), HB3.out.trans (hb.mono HB3.out.size), Nat.le_refl _⟩
    clear hr hsr hb NB k0 k1 k2 k3 k4 k5 k6 k7 C3 G3 SU HB2 HB3 HA HFEW HIN HCV HCC HN d1
    generalize g0 cg L = x0 at *
    generalize L.length = n at *
    go_wp2_with fail
    go_loopw [5, 51] (fun s5 s51 wr => ∃ k : Nat, k ≤ mm ∧ s51 = .int .i64 k ∧ ∃ (Z : Ly) (x : Gt), s5 = .pointer (some ⟨Z.g, 0, none⟩) ∧ Two w.heap.size n w Z R x x wr) (fun _ s51 _ => mm - intA s51)
    case atStart => exact ⟨0, Nat.zero_le _, rfl, Y, x0, rfl, J.out⟩
    case round =>
     clear J
     obtain ⟨k, hk, rfl, Y, x, rfl, hT⟩ := hrel
     have J0 := Lib.hid hT
     clear hT
     rcases Nat.lt_or_ge k mm with hlt | hge
     ·have hkl : k < ms.length := by rw [HMN.out]; omega
      obtain ⟨b, off, hmb, hcl, hok⟩ := (HM.out wr J0.out.bel) k hkl
      obtain ⟨s, hs⟩ : ∃ s, ms[k] = s := ⟨_, rfl⟩
      rw [hs] at hcl hok
      rw [hmb]
      have c0 : wr.cell? ⟨b, off + k * 4, none⟩ = some (.int .u8 s.kind) := hcl 0 (by decide)
      have c1 : wr.cell? ⟨b, off + k * 4 + 1, none⟩ = some (.int .i64 s.job) := hcl 1 (by decide)
      have c2 : wr.cell? ⟨b, off + k * 4 + 2, none⟩ = some (.bool s.ok) := hcl 2 (by decide)
      have c3 : wr.cell? ⟨b, off + k * 4 + 3, none⟩ = some (.int .i64 s.now) := hcl 3 (by decide)
      clear hcl hs hkl hmb
      go_upto_region 12 with fail
      obtain ⟨X1, hX1⟩ : ∃ X1, X1 = wr.alloc (.cells #[.int .u8 s.kind, .int .i64 s.job, .bool s.ok, .int .i64 s.now] 86) := ⟨_, rfl⟩
      have hbX : Below wr.heap.size wr X1 := by rw [hX1]; exact (Below.refl _ _).alloc (Nat.le_refl _) _
      obtain ⟨sb, hsb⟩ : ∃ sb, sb = wr.heap.size := ⟨_, rfl⟩
      have J1 : Hid (PlS w.heap.size n w sb s Y R x x X1) := Lib.hid ⟨J0.out.below hbX, by rw [hX1, hsb]; exact Blk.new _ _ _⟩
      rw [← hX1]
      rw [← hsb]
      clear hX1 hbX hsb c0 c1 c2 c3 J0
      have d0 : X1.cell? ⟨sb, 0, none⟩ = some (.int .u8 s.kind) := J1.out.st.cell 0
      go_upto_block 2 with fail
      go_cut [5, 11, 12, 13, 14, 15, 16] from 58 to 153 (fun s5 s11 _ _ _ _ _ wx => ∃ (Z : Ly) (x2 : Gt), s5 = .pointer (some ⟨Z.g, 0, none⟩) ∧ s11 = .bool true ∧ PlS w.heap.size n w sb s Z R x2 x2 wx)
      case first =>
       obtain hk5 | hk5 | hk5 | hk5 | hk5 : (s.kind : Int) % 5 = 0 ∨ (s.kind : Int) % 5 = 1 ∨ (s.kind : Int) % 5 = 2 ∨ (s.kind : Int) % 5 = 3 ∨ (s.kind : Int) % 5 = 4 := by omega
       ·have q0 : ((s.kind : Int) % 5 == 0) = true := by rw [beq_iff_eq]; omega
        clear hk5
        as_aux_lemma =>
         obtain ⟨er, x2, he⟩ : ∃ er x2, x.take s.job s.now = (er, x2) := ⟨_, _, rfl⟩
         have HE := Lib.hid he
         clear he d0
         go_upto_region 15 with fail
         refine wp_region_put_tail2 _ 13 _ (R := RP (PlS w.heap.size n w sb s Y R x x) (PlS w.heap.size n w sb s Y R x2 x) (PlS w.heap.size n w sb s Y R x2 x2) (.pointer (some ⟨Y.g, 0, none⟩)) (.pointer (some ⟨R.g, 0, none⟩)) sb s er) (by rfl) (by kernel_rfl) (by kernel_rfl) (by kernel_rfl) (by kernel_rfl) (by kernel_rfl) (by kernel_rfl) (by kernel_rfl) (by kernel_rfl) ?_ ?_ ?_
         ·intro v _
          have h := J1.out.below (Below.refl _ _).drew
          exact ⟨fun i hi => (rep_not hi).elim, fun _ => h, fun hz => (rep_not hz).elim, fun hz => (rep_not hz).elim, h.st, fun hz => (rep_not hz).elim⟩
         ·intro Q' K_ listed v wx i o hsz ho hli ha hR hK
          have HV := Lib.hid hR
          have dep := fun d hd => HV.out.pl d (dep_listed ha d hd)
          have hi : i < 13 := (List.getElem?_eq_some_iff.1 ho).1
          clear hR hsz
          obtain rfl | rfl | rfl | rfl | rfl | rfl | rfl | rfl | rfl | rfl | rfl | rfl | rfl : i = 0 ∨ i = 1 ∨ i = 2 ∨ i = 3 ∨ i = 4 ∨ i = 5 ∨ i = 6 ∨ i = 7 ∨ i = 8 ∨ i = 9 ∨ i = 10 ∨ i = 11 ∨ i = 12 := by omega
          ·-- operation 0
           cases ho
           simp only [putFrom, Act.put, List.take_succ_cons, List.take_zero, List.setIfInBounds_toArray, List.set_cons_succ, List.set_cons_zero] at hK ⊢
           go_simp
           exact hK _ _ (HV.out.step rfl (by decide) (by decide))
          ·-- operation 1
           cases ho
           simp only [putFrom, Act.put, List.take_succ_cons, List.take_zero, List.setIfInBounds_toArray, List.set_cons_succ, List.set_cons_zero] at hK ⊢
           go_simp
           exact hK _ _ (HV.out.step rfl (by decide) (by decide))
          ·-- operation 2
           cases ho
           have h1 := dep 1 (by kernel_rfl)
           replace h1 : v 1 = _ := h1
           have d1 : wx.cell? ⟨sb, 1, none⟩ = some (.int .i64 s.job) := HV.out.st.cell 1
           simp only [putFrom, Act.put, List.take_succ_cons, List.take_zero, List.setIfInBounds_toArray, List.set_cons_succ, List.set_cons_zero, h1] at hK ⊢
           go_simp
           exact hK _ _ (HV.out.step rfl (by decide) (by decide))
          ·-- operation 3
           cases ho
           simp only [putFrom, Act.put, List.take_succ_cons, List.take_zero, List.setIfInBounds_toArray, List.set_cons_succ, List.set_cons_zero] at hK ⊢
           go_simp
           exact hK _ _ (HV.out.step rfl (by decide) (by decide))
          ·-- operation 4
           cases ho
           have h3 := dep 3 (by kernel_rfl)
           replace h3 : v 3 = _ := h3
           have d3 : wx.cell? ⟨sb, 3, none⟩ = some (.int .i64 s.now) := HV.out.st.cell 3
           simp only [putFrom, Act.put, List.take_succ_cons, List.take_zero, List.setIfInBounds_toArray, List.set_cons_succ, List.set_cons_zero, h3] at hK ⊢
           go_simp
           exact hK _ _ (HV.out.step rfl (by decide) (by decide))
          ·-- operation 5
           cases ho
           have h0 := dep 0 (by kernel_rfl)
           replace h0 : v 0 = _ := h0
           have h2 := dep 2 (by kernel_rfl)
           replace h2 : v 2 = _ := h2
           have h4 := dep 4 (by kernel_rfl)
           replace h4 : v 4 = _ := h4
           have hT := Lib.hid (pl_take (HV.out.s0 hli) s.job s.now HE.out)
           simp only [putFrom, Act.put, List.take_succ_cons, List.take_zero, List.setIfInBounds_toArray, List.set_cons_succ, List.set_cons_zero, h0, h2, h4] at hK ⊢
           go_simp
           refine (hT.out).mono ?_
           rintro e_ w_ ⟨rfl, h⟩
           exact hK _ _ (HV.out.call5 hli h h.st)
          ·-- operation 6
           cases ho
           simp only [putFrom, Act.put, List.take_succ_cons, List.take_zero, List.setIfInBounds_toArray, List.set_cons_succ, List.set_cons_zero] at hK ⊢
           go_simp
           exact hK _ _ (HV.out.step rfl (by decide) (by decide))
          ·-- operation 7
           cases ho
           simp only [putFrom, Act.put, List.take_succ_cons, List.take_zero, List.setIfInBounds_toArray, List.set_cons_succ, List.set_cons_zero] at hK ⊢
           go_simp
           exact hK _ _ (HV.out.step rfl (by decide) (by decide))
          ·-- operation 8
           cases ho
           have h7 := dep 7 (by kernel_rfl)
           replace h7 : v 7 = _ := h7
           have d1 : wx.cell? ⟨sb, 1, none⟩ = some (.int .i64 s.job) := HV.out.st.cell 1
           simp only [putFrom, Act.put, List.take_succ_cons, List.take_zero, List.setIfInBounds_toArray, List.set_cons_succ, List.set_cons_zero, h7] at hK ⊢
           go_simp
           exact hK _ _ (HV.out.step rfl (by decide) (by decide))
          ·-- operation 9
           cases ho
           simp only [putFrom, Act.put, List.take_succ_cons, List.take_zero, List.setIfInBounds_toArray, List.set_cons_succ, List.set_cons_zero] at hK ⊢
           go_simp
           exact hK _ _ (HV.out.step rfl (by decide) (by decide))
          ·-- operation 10
           cases ho
           have h9 := dep 9 (by kernel_rfl)
           replace h9 : v 9 = _ := h9
           have d3 : wx.cell? ⟨sb, 3, none⟩ = some (.int .i64 s.now) := HV.out.st.cell 3
           simp only [putFrom, Act.put, List.take_succ_cons, List.take_zero, List.setIfInBounds_toArray, List.set_cons_succ, List.set_cons_zero, h9] at hK ⊢
           go_simp
           exact hK _ _ (HV.out.step rfl (by decide) (by decide))
          ·-- operation 11
           cases ho
           have h6 := dep 6 (by kernel_rfl)
           replace h6 : v 6 = _ := h6
           have h8 := dep 8 (by kernel_rfl)
           replace h8 : v 8 = _ := h8
           have h10 := dep 10 (by kernel_rfl)
           replace h10 : v 10 = _ := h10
           have h5' := dep_listed ha 5 (by kernel_rfl)
           have hT := Lib.hid (pl_rtake (HV.out.s1 h5' hli) s.job s.now HE.out)
           simp only [putFrom, Act.put, List.take_succ_cons, List.take_zero, List.setIfInBounds_toArray, List.set_cons_succ, List.set_cons_zero, h6, h8, h10] at hK ⊢
           go_simp
           refine (hT.out).mono ?_
           rintro e_ w_ ⟨rfl, h⟩
           exact hK _ _ (HV.out.call11 h5' hli h h.st)
          ·-- operation 12
           cases ho
           have h5 := dep 5 (by kernel_rfl)
           replace h5 : v 5 = _ := h5
           have h11 := dep 11 (by kernel_rfl)
           replace h11 : v 11 = _ := h11
           simp only [putFrom, Act.put, List.take_succ_cons, List.take_zero, List.setIfInBounds_toArray, List.set_cons_succ, List.set_cons_zero, h5, h11] at hK ⊢
           go_simp
           exact hK _ _ (HV.out.step rfl (by decide) (by decide))
         ·intro v listed w9 hall hR
          have h12 := hR.pl 12 (hall 12 (by decide))
          replace h12 : v 12 = .bool true := h12
          have J2 := Lib.hid (hR.s2 (hall 11 (by decide)))
          clear hR hall
          simp only [putFrom, Act.put, List.take_succ_cons, List.take_zero, List.setIfInBounds_toArray, List.set_cons_succ, List.set_cons_zero, Nat.zero_add, Nat.reduceAdd, h12]
          clear h12
          go_wp2_with fail
          go_meet
          exact ⟨Y, x2, rfl, rfl, J2.out⟩
       ·have q0 : ((s.kind : Int) % 5 == 0) = false := by rw [beq_eq_false_iff_ne]; omega
        have q1 : ((s.kind : Int) % 5 == 1) = true := by rw [beq_iff_eq]; omega
        clear hk5
        as_aux_lemma =>
         obtain ⟨ev, er, x2, he⟩ : ∃ ev er x2, x.give s.job s.ok s.now = (ev, er, x2) := ⟨_, _, _, rfl⟩
         have HE := Lib.hid he
         clear he
         have d1 : X1.cell? ⟨sb, 1, none⟩ = some (.int .i64 s.job) := J1.out.st.cell 1
         have d2 : X1.cell? ⟨sb, 2, none⟩ = some (.bool s.ok) := J1.out.st.cell 2
         have d3 : X1.cell? ⟨sb, 3, none⟩ = some (.int .i64 s.now) := J1.out.st.cell 3
         have T := Lib.hid (pl_give J1.out s.job s.ok s.now HE.out)
         go_wp2_with fail
         refine (T.out).mono ?_
         rintro e_ X2 ⟨rfl, h⟩
         have J2 := Lib.hid h
         clear h T d0 d1 d2 d3 J1
         have d1 : X2.cell? ⟨sb, 1, none⟩ = some (.int .i64 s.job) := J2.out.st.cell 1
         have d2 : X2.cell? ⟨sb, 2, none⟩ = some (.bool s.ok) := J2.out.st.cell 2
         have d3 : X2.cell? ⟨sb, 3, none⟩ = some (.int .i64 s.now) := J2.out.st.cell 3
         have T := Lib.hid (pl_rgive J2.out s.job s.ok s.now HE.out)
         go_wp2_with fail
         refine (T.out).mono ?_
         rintro e_ X3 ⟨rfl, h⟩
         have J3 := Lib.hid h
         clear h T d1 d2 d3 J2
         go_wp2_with fail
         go_meet
         exact ⟨Y, x2, rfl, by simp, J3.out⟩
       ·have q0 : ((s.kind : Int) % 5 == 0) = false := by rw [beq_eq_false_iff_ne]; omega
        have q1 : ((s.kind : Int) % 5 == 1) = false := by rw [beq_eq_false_iff_ne]; omega
        have q2 : ((s.kind : Int) % 5 == 2) = true := by rw [beq_iff_eq]; omega
        clear hk5
        as_aux_lemma =>
         obtain ⟨er, x2, he⟩ : ∃ er x2, x.trip s.job s.now = (er, x2) := ⟨_, _, rfl⟩
         have HE := Lib.hid he
         clear he d0
         go_upto_region 21 with fail
         refine wp_region_put_tail2 _ 13 _ (R := RP (PlS w.heap.size n w sb s Y R x x) (PlS w.heap.size n w sb s Y R x2 x) (PlS w.heap.size n w sb s Y R x2 x2) (.pointer (some ⟨Y.g, 0, none⟩)) (.pointer (some ⟨R.g, 0, none⟩)) sb s er) (by rfl) (by kernel_rfl) (by kernel_rfl) (by kernel_rfl) (by kernel_rfl) (by kernel_rfl) (by kernel_rfl) (by kernel_rfl) (by kernel_rfl) ?_ ?_ ?_
         ·intro v _
          have h := J1.out.below (Below.refl _ _).drew
          exact ⟨fun i hi => (rep_not hi).elim, fun _ => h, fun hz => (rep_not hz).elim, fun hz => (rep_not hz).elim, h.st, fun hz => (rep_not hz).elim⟩
         ·intro Q' K_ listed v wx i o hsz ho hli ha hR hK
          have HV := Lib.hid hR
          have dep := fun d hd => HV.out.pl d (dep_listed ha d hd)
          have hi : i < 13 := (List.getElem?_eq_some_iff.1 ho).1
          clear hR hsz
          obtain rfl | rfl | rfl | rfl | rfl | rfl | rfl | rfl | rfl | rfl | rfl | rfl | rfl : i = 0 ∨ i = 1 ∨ i = 2 ∨ i = 3 ∨ i = 4 ∨ i = 5 ∨ i = 6 ∨ i = 7 ∨ i = 8 ∨ i = 9 ∨ i = 10 ∨ i = 11 ∨ i = 12 := by omega
          ·-- operation 0
           cases ho
           simp only [putFrom, Act.put, List.take_succ_cons, List.take_zero, List.setIfInBounds_toArray, List.set_cons_succ, List.set_cons_zero] at hK ⊢
           go_simp
           exact hK _ _ (HV.out.step rfl (by decide) (by decide))
          ·-- operation 1
           cases ho
           simp only [putFrom, Act.put, List.take_succ_cons, List.take_zero, List.setIfInBounds_toArray, List.set_cons_succ, List.set_cons_zero] at hK ⊢
           go_simp
           exact hK _ _ (HV.out.step rfl (by decide) (by decide))
          ·-- operation 2
           cases ho
           have h1 := dep 1 (by kernel_rfl)
           replace h1 : v 1 = _ := h1
           have d1 : wx.cell? ⟨sb, 1, none⟩ = some (.int .i64 s.job) := HV.out.st.cell 1
           simp only [putFrom, Act.put, List.take_succ_cons, List.take_zero, List.setIfInBounds_toArray, List.set_cons_succ, List.set_cons_zero, h1] at hK ⊢
           go_simp
           exact hK _ _ (HV.out.step rfl (by decide) (by decide))
          ·-- operation 3
           cases ho
           simp only [putFrom, Act.put, List.take_succ_cons, List.take_zero, List.setIfInBounds_toArray, List.set_cons_succ, List.set_cons_zero] at hK ⊢
           go_simp
           exact hK _ _ (HV.out.step rfl (by decide) (by decide))
          ·-- operation 4
           cases ho
           have h3 := dep 3 (by kernel_rfl)
           replace h3 : v 3 = _ := h3
           have d3 : wx.cell? ⟨sb, 3, none⟩ = some (.int .i64 s.now) := HV.out.st.cell 3
           simp only [putFrom, Act.put, List.take_succ_cons, List.take_zero, List.setIfInBounds_toArray, List.set_cons_succ, List.set_cons_zero, h3] at hK ⊢
           go_simp
           exact hK _ _ (HV.out.step rfl (by decide) (by decide))
          ·-- operation 5
           cases ho
           have h0 := dep 0 (by kernel_rfl)
           replace h0 : v 0 = _ := h0
           have h2 := dep 2 (by kernel_rfl)
           replace h2 : v 2 = _ := h2
           have h4 := dep 4 (by kernel_rfl)
           replace h4 : v 4 = _ := h4
           have hT := Lib.hid (pl_trip (HV.out.s0 hli) s.job s.now HE.out)
           simp only [putFrom, Act.put, List.take_succ_cons, List.take_zero, List.setIfInBounds_toArray, List.set_cons_succ, List.set_cons_zero, h0, h2, h4] at hK ⊢
           go_simp
           refine (hT.out).mono ?_
           rintro e_ w_ ⟨rfl, h⟩
           exact hK _ _ (HV.out.call5 hli h h.st)
          ·-- operation 6
           cases ho
           simp only [putFrom, Act.put, List.take_succ_cons, List.take_zero, List.setIfInBounds_toArray, List.set_cons_succ, List.set_cons_zero] at hK ⊢
           go_simp
           exact hK _ _ (HV.out.step rfl (by decide) (by decide))
          ·-- operation 7
           cases ho
           simp only [putFrom, Act.put, List.take_succ_cons, List.take_zero, List.setIfInBounds_toArray, List.set_cons_succ, List.set_cons_zero] at hK ⊢
           go_simp
           exact hK _ _ (HV.out.step rfl (by decide) (by decide))
          ·-- operation 8
           cases ho
           have h7 := dep 7 (by kernel_rfl)
           replace h7 : v 7 = _ := h7
           have d1 : wx.cell? ⟨sb, 1, none⟩ = some (.int .i64 s.job) := HV.out.st.cell 1
           simp only [putFrom, Act.put, List.take_succ_cons, List.take_zero, List.setIfInBounds_toArray, List.set_cons_succ, List.set_cons_zero, h7] at hK ⊢
           go_simp
           exact hK _ _ (HV.out.step rfl (by decide) (by decide))
          ·-- operation 9
           cases ho
           simp only [putFrom, Act.put, List.take_succ_cons, List.take_zero, List.setIfInBounds_toArray, List.set_cons_succ, List.set_cons_zero] at hK ⊢
           go_simp
           exact hK _ _ (HV.out.step rfl (by decide) (by decide))
          ·-- operation 10
           cases ho
           have h9 := dep 9 (by kernel_rfl)
           replace h9 : v 9 = _ := h9
           have d3 : wx.cell? ⟨sb, 3, none⟩ = some (.int .i64 s.now) := HV.out.st.cell 3
           simp only [putFrom, Act.put, List.take_succ_cons, List.take_zero, List.setIfInBounds_toArray, List.set_cons_succ, List.set_cons_zero, h9] at hK ⊢
           go_simp
           exact hK _ _ (HV.out.step rfl (by decide) (by decide))
          ·-- operation 11
           cases ho
           have h6 := dep 6 (by kernel_rfl)
           replace h6 : v 6 = _ := h6
           have h8 := dep 8 (by kernel_rfl)
           replace h8 : v 8 = _ := h8
           have h10 := dep 10 (by kernel_rfl)
           replace h10 : v 10 = _ := h10
           have h5' := dep_listed ha 5 (by kernel_rfl)
           have hT := Lib.hid (pl_rtrip (HV.out.s1 h5' hli) s.job s.now HE.out)
           simp only [putFrom, Act.put, List.take_succ_cons, List.take_zero, List.setIfInBounds_toArray, List.set_cons_succ, List.set_cons_zero, h6, h8, h10] at hK ⊢
           go_simp
           refine (hT.out).mono ?_
           rintro e_ w_ ⟨rfl, h⟩
           exact hK _ _ (HV.out.call11 h5' hli h h.st)
          ·-- operation 12
           cases ho
           have h5 := dep 5 (by kernel_rfl)
           replace h5 : v 5 = _ := h5
           have h11 := dep 11 (by kernel_rfl)
           replace h11 : v 11 = _ := h11
           simp only [putFrom, Act.put, List.take_succ_cons, List.take_zero, List.setIfInBounds_toArray, List.set_cons_succ, List.set_cons_zero, h5, h11] at hK ⊢
           go_simp
           exact hK _ _ (HV.out.step rfl (by decide) (by decide))
         ·intro v listed w9 hall hR
          have h12 := hR.pl 12 (hall 12 (by decide))
          replace h12 : v 12 = .bool true := h12
          have J2 := Lib.hid (hR.s2 (hall 11 (by decide)))
          clear hR hall
          simp only [putFrom, Act.put, List.take_succ_cons, List.take_zero, List.setIfInBounds_toArray, List.set_cons_succ, List.set_cons_zero, Nat.zero_add, Nat.reduceAdd, h12]
          clear h12
          go_wp2_with fail
          go_meet
          exact ⟨Y, x2, rfl, rfl, J2.out⟩
       ·have q0 : ((s.kind : Int) % 5 == 0) = false := by rw [beq_eq_false_iff_ne]; omega
        have q1 : ((s.kind : Int) % 5 == 1) = false := by rw [beq_eq_false_iff_ne]; omega
        have q2 : ((s.kind : Int) % 5 == 2) = false := by rw [beq_eq_false_iff_ne]; omega
        have q3 : ((s.kind : Int) % 5 == 3) = true := by rw [beq_iff_eq]; omega
        clear hk5
        as_aux_lemma =>
         obtain ⟨er, x2, he⟩ : ∃ er x2, x.reset s.job s.now = (er, x2) := ⟨_, _, rfl⟩
         have HE := Lib.hid he
         clear he d0
         go_upto_region 23 with fail
         refine wp_region_put_tail2 _ 13 _ (R := RP (PlS w.heap.size n w sb s Y R x x) (PlS w.heap.size n w sb s Y R x2 x) (PlS w.heap.size n w sb s Y R x2 x2) (.pointer (some ⟨Y.g, 0, none⟩)) (.pointer (some ⟨R.g, 0, none⟩)) sb s er) (by rfl) (by kernel_rfl) (by kernel_rfl) (by kernel_rfl) (by kernel_rfl) (by kernel_rfl) (by kernel_rfl) (by kernel_rfl) (by kernel_rfl) ?_ ?_ ?_
         ·intro v _
          have h := J1.out.below (Below.refl _ _).drew
          exact ⟨fun i hi => (rep_not hi).elim, fun _ => h, fun hz => (rep_not hz).elim, fun hz => (rep_not hz).elim, h.st, fun hz => (rep_not hz).elim⟩
         ·intro Q' K_ listed v wx i o hsz ho hli ha hR hK
          have HV := Lib.hid hR
          have dep := fun d hd => HV.out.pl d (dep_listed ha d hd)
          have hi : i < 13 := (List.getElem?_eq_some_iff.1 ho).1
          clear hR hsz
          obtain rfl | rfl | rfl | rfl | rfl | rfl | rfl | rfl | rfl | rfl | rfl | rfl | rfl : i = 0 ∨ i = 1 ∨ i = 2 ∨ i = 3 ∨ i = 4 ∨ i = 5 ∨ i = 6 ∨ i = 7 ∨ i = 8 ∨ i = 9 ∨ i = 10 ∨ i = 11 ∨ i = 12 := by omega
          ·-- operation 0
           cases ho
           simp only [putFrom, Act.put, List.take_succ_cons, List.take_zero, List.setIfInBounds_toArray, List.set_cons_succ, List.set_cons_zero] at hK ⊢
           go_simp
           exact hK _ _ (HV.out.step rfl (by decide) (by decide))
          ·-- operation 1
           cases ho
           simp only [putFrom, Act.put, List.take_succ_cons, List.take_zero, List.setIfInBounds_toArray, List.set_cons_succ, List.set_cons_zero] at hK ⊢
           go_simp
           exact hK _ _ (HV.out.step rfl (by decide) (by decide))
          ·-- operation 2
           cases ho
           have h1 := dep 1 (by kernel_rfl)
           replace h1 : v 1 = _ := h1
           have d1 : wx.cell? ⟨sb, 1, none⟩ = some (.int .i64 s.job) := HV.out.st.cell 1
           simp only [putFrom, Act.put, List.take_succ_cons, List.take_zero, List.setIfInBounds_toArray, List.set_cons_succ, List.set_cons_zero, h1] at hK ⊢
           go_simp
           exact hK _ _ (HV.out.step rfl (by decide) (by decide))
          ·-- operation 3
           cases ho
           simp only [putFrom, Act.put, List.take_succ_cons, List.take_zero, List.setIfInBounds_toArray, List.set_cons_succ, List.set_cons_zero] at hK ⊢
           go_simp
           exact hK _ _ (HV.out.step rfl (by decide) (by decide))
          ·-- operation 4
           cases ho
           have h3 := dep 3 (by kernel_rfl)
           replace h3 : v 3 = _ := h3
           have d3 : wx.cell? ⟨sb, 3, none⟩ = some (.int .i64 s.now) := HV.out.st.cell 3
           simp only [putFrom, Act.put, List.take_succ_cons, List.take_zero, List.setIfInBounds_toArray, List.set_cons_succ, List.set_cons_zero, h3] at hK ⊢
           go_simp
           exact hK _ _ (HV.out.step rfl (by decide) (by decide))
          ·-- operation 5
           cases ho
           have h0 := dep 0 (by kernel_rfl)
           replace h0 : v 0 = _ := h0
           have h2 := dep 2 (by kernel_rfl)
           replace h2 : v 2 = _ := h2
           have h4 := dep 4 (by kernel_rfl)
           replace h4 : v 4 = _ := h4
           have hT := Lib.hid (pl_reset (HV.out.s0 hli) s.job s.now HE.out)
           simp only [putFrom, Act.put, List.take_succ_cons, List.take_zero, List.setIfInBounds_toArray, List.set_cons_succ, List.set_cons_zero, h0, h2, h4] at hK ⊢
           go_simp
           refine (hT.out).mono ?_
           rintro e_ w_ ⟨rfl, h⟩
           exact hK _ _ (HV.out.call5 hli h h.st)
          ·-- operation 6
           cases ho
           simp only [putFrom, Act.put, List.take_succ_cons, List.take_zero, List.setIfInBounds_toArray, List.set_cons_succ, List.set_cons_zero] at hK ⊢
           go_simp
           exact hK _ _ (HV.out.step rfl (by decide) (by decide))
          ·-- operation 7
           cases ho
           simp only [putFrom, Act.put, List.take_succ_cons, List.take_zero, List.setIfInBounds_toArray, List.set_cons_succ, List.set_cons_zero] at hK ⊢
           go_simp
           exact hK _ _ (HV.out.step rfl (by decide) (by decide))
          ·-- operation 8
           cases ho
           have h7 := dep 7 (by kernel_rfl)
           replace h7 : v 7 = _ := h7
           have d1 : wx.cell? ⟨sb, 1, none⟩ = some (.int .i64 s.job) := HV.out.st.cell 1
           simp only [putFrom, Act.put, List.take_succ_cons, List.take_zero, List.setIfInBounds_toArray, List.set_cons_succ, List.set_cons_zero, h7] at hK ⊢
           go_simp
           exact hK _ _ (HV.out.step rfl (by decide) (by decide))
          ·-- operation 9
           cases ho
           simp only [putFrom, Act.put, List.take_succ_cons, List.take_zero, List.setIfInBounds_toArray, List.set_cons_succ, List.set_cons_zero] at hK ⊢
           go_simp
           exact hK _ _ (HV.out.step rfl (by decide) (by decide))
          ·-- operation 10
           cases ho
           have h9 := dep 9 (by kernel_rfl)
           replace h9 : v 9 = _ := h9
           have d3 : wx.cell? ⟨sb, 3, none⟩ = some (.int .i64 s.now) := HV.out.st.cell 3
           simp only [putFrom, Act.put, List.take_succ_cons, List.take_zero, List.setIfInBounds_toArray, List.set_cons_succ, List.set_cons_zero, h9] at hK ⊢
           go_simp
           exact hK _ _ (HV.out.step rfl (by decide) (by decide))
          ·-- operation 11
           cases ho
           have h6 := dep 6 (by kernel_rfl)
           replace h6 : v 6 = _ := h6
           have h8 := dep 8 (by kernel_rfl)
           replace h8 : v 8 = _ := h8
           have h10 := dep 10 (by kernel_rfl)
           replace h10 : v 10 = _ := h10
           have h5' := dep_listed ha 5 (by kernel_rfl)
           have hT := Lib.hid (pl_rreset (HV.out.s1 h5' hli) s.job s.now HE.out)
           simp only [putFrom, Act.put, List.take_succ_cons, List.take_zero, List.setIfInBounds_toArray, List.set_cons_succ, List.set_cons_zero, h6, h8, h10] at hK ⊢
           go_simp
           refine (hT.out).mono ?_
           rintro e_ w_ ⟨rfl, h⟩
           exact hK _ _ (HV.out.call11 h5' hli h h.st)
          ·-- operation 12
           cases ho
           have h5 := dep 5 (by kernel_rfl)
           replace h5 : v 5 = _ := h5
           have h11 := dep 11 (by kernel_rfl)
           replace h11 : v 11 = _ := h11
           simp only [putFrom, Act.put, List.take_succ_cons, List.take_zero, List.setIfInBounds_toArray, List.set_cons_succ, List.set_cons_zero, h5, h11] at hK ⊢
           go_simp
           exact hK _ _ (HV.out.step rfl (by decide) (by decide))
         ·intro v listed w9 hall hR
          have h12 := hR.pl 12 (hall 12 (by decide))
          replace h12 : v 12 = .bool true := h12
          have J2 := Lib.hid (hR.s2 (hall 11 (by decide)))
          clear hR hall
          simp only [putFrom, Act.put, List.take_succ_cons, List.take_zero, List.setIfInBounds_toArray, List.set_cons_succ, List.set_cons_zero, Nat.zero_add, Nat.reduceAdd, h12]
          clear h12
          go_wp2_with fail
          go_meet
          exact ⟨Y, x2, rfl, rfl, J2.out⟩
       ·have q0 : ((s.kind : Int) % 5 == 0) = false := by rw [beq_eq_false_iff_ne]; omega
        have q1 : ((s.kind : Int) % 5 == 1) = false := by rw [beq_eq_false_iff_ne]; omega
        have q2 : ((s.kind : Int) % 5 == 2) = false := by rw [beq_eq_false_iff_ne]; omega
        have q3 : ((s.kind : Int) % 5 == 3) = false := by rw [beq_eq_false_iff_ne]; omega
        have q4 : ((s.kind : Int) % 5 == 4) = true := by rw [beq_iff_eq]; omega
        clear hk5
        as_aux_lemma =>
         have T := Lib.hid (pl_copy J1.out)
         go_wp2_with fail
         refine (T.out).mono ?_
         rintro e_ X2 ⟨Z, rfl, h⟩
         have J2 := Lib.hid h
         clear h T d0 J1
         have d1 : X2.cell? ⟨sb, 1, none⟩ = some (.int .i64 s.job) := J2.out.p.st.cell 1
         have d3 : X2.cell? ⟨sb, 3, none⟩ = some (.int .i64 s.now) := J2.out.p.st.cell 3
         have T := Lib.hid (pl_otake J2.out s.job s.now)
         go_wp2_with fail
         refine (T.out).mono ?_
         rintro e_ X3 ⟨er, z1, rfl, h⟩
         have J3 := Lib.hid h
         clear h T d1 d3 J2
         have d1 : X3.cell? ⟨sb, 1, none⟩ = some (.int .i64 s.job) := J3.out.p.st.cell 1
         have d3 : X3.cell? ⟨sb, 3, none⟩ = some (.int .i64 s.now) := J3.out.p.st.cell 3
         have T := Lib.hid (pl_otrip J3.out s.job s.now)
         go_wp2_with fail
         refine (T.out).mono ?_
         rintro e_ X4 ⟨er2, z2, rfl, h⟩
         have J4 := Lib.hid h.p
         clear h T d1 d3 J3
         go_wp2_with fail
         go_meet
         exact ⟨Z, x, rfl, rfl, J4.out⟩
      case rest =>
       as_aux_lemma =>
        obtain ⟨Z, x2, rfl, rfl, hJ⟩ := hcut
        have J2 := Lib.hid hJ
        clear hJ J1
        have d1 : wc.cell? ⟨sb, 1, none⟩ = some (.int .i64 s.job) := J2.out.st.cell 1
        have d3 : wc.cell? ⟨sb, 3, none⟩ = some (.int .i64 s.now) := J2.out.st.cell 3
        have T := Lib.hid (agree_ok J2.out.t.g J2.out.t.r s.job s.now)
        go_wp2_with fail
        refine (T.out).mono ?_
        rintro e_ X3 ⟨rfl, hb⟩
        have J3 := Lib.hid (J2.out.below hb)
        clear hb T d1 d3 J2
        have d3 : X3.cell? ⟨sb, 3, none⟩ = some (.int .i64 s.now) := J3.out.st.cell 3
        have T := Lib.hid (agree_ok J3.out.t.g J3.out.t.r 0 s.now)
        go_wp2_with fail
        refine (T.out).mono ?_
        rintro e_ X4 ⟨rfl, hb⟩
        have J4 := Lib.hid (J3.out.below hb)
        clear hb T d3 J3
        have T := Lib.hid (gall_ok J4.out.t.g)
        go_wp2_with fail
        refine (T.out).mono ?_
        rintro e_ X5 ⟨⟨v1, rfl, hs⟩, hb⟩
        have J5 := Lib.hid (J4.out.below hb)
        have S1 := Lib.hid hs.read
        clear hb hs T J4
        have T := Lib.hid (rgall_ok J5.out.t.r)
        go_wp2_with fail
        refine (T.out).mono ?_
        rintro e_ X6 ⟨⟨v2, rfl, hs⟩, hb⟩
        have J6 := Lib.hid (J5.out.below hb)
        have S2 := Lib.hid (S1.out.below hb)
        have S3 := Lib.hid hs
        have T2 := Lib.hid (same_ok X6 S2.out S3.out (two_lens J6.out.t.g))
        clear hb hs T J5 S1 S2 S3
        go_wp2_with fail
        refine (T2.out).mono ?_
        rintro e_ X7 ⟨rfl, hb⟩
        have J7 := Lib.hid (J6.out.below hb)
        clear hb T2 J6
        go_wp2_with fail
        refine ⟨⟨k + 1, by omega, by go_num, Z, x2, rfl, J7.out.t⟩, ?_⟩
        simp [intA]; omega
     ·obtain rfl : k = mm := by omega
      have T := Lib.hid (CW.out wr J0.out.bel)
      go_wp2_with fail
      refine (T.out).mono ?_
      rintro e_ X2 ⟨rfl, hb⟩
      have HB2 := Lib.hid (J0.out.bel.trans (hb.mono J0.out.bel.size))
      clear hb T
      go_wp2_with fail
      go_ret
      exact ⟨rfl, HB2.out⟩
   ·have N1 := gnew_no ⟨cg, ca, cn, cc⟩ L W2 (HA.out W2 HB2.out) hE
    have HEE := Lib.hid hE
    rw [HCV.out] at N1
    obtain ⟨E, he⟩ : ∃ E, cfE cg L = E := ⟨_, rfl⟩
    have HEQ := Lib.hid he
    replace he : cfE (⟨cg, ca, cn, cc⟩ : Cf).g L = E := he
    rw [he] at N1
    have NA := Lib.hid N1
    clear N1 hE he
    go_wp2_with fail
    refine (NA.out).mono ?_
    rintro e_ W3 ⟨rfl, hb⟩
    have HB3 := Lib.hid (HB2.out.trans (hb.mono HB2.out.size))
    have C3 := Lib.hid (C2.out.below hb C2.out.lt)
    clear hb NA k0 k1 k2 k3 k4 k5 k6 k7 C2
    have N2 := rgnew_no ⟨cg, ca, cn, cc⟩ L W3 (HA.out W3 HB3.out) HEE.out
    have he : cfE (⟨cg, ca, cn, cc⟩ : Cf).g L = E := HEQ.out
    rw [HCV.out, he] at N2
    have NB := Lib.hid N2
    clear N2 he
    have k0 : W3.cell? ⟨cb, 0, none⟩ = some (.int .i64 cg.cap) := C3.out.cell 0
    have k1 : W3.cell? ⟨cb, 1, none⟩ = some (.int .i64 cg.q) := C3.out.cell 1
    have k2 : W3.cell? ⟨cb, 2, none⟩ = some (.int .i64 cg.ar) := C3.out.cell 2
    have k3 : W3.cell? ⟨cb, 3, none⟩ = some (.int .i64 cg.ag) := C3.out.cell 3
    have k4 : W3.cell? ⟨cb, 4, none⟩ = some (.int .u64 cg.sd) := C3.out.cell 4
    have k5 : W3.cell? ⟨cb, 5, none⟩ = some (.int .i64 cg.t) := C3.out.cell 5
    have k6 : W3.cell? ⟨cb, 6, none⟩ = some (.int .i64 cg.tau) := C3.out.cell 6
    have k7 : W3.cell? ⟨cb, 7, none⟩ = some (.slice ca cn cc) := C3.out.cell 7
    go_wp2_with fail
    refine (NB.out).mono ?_
    rintro e_ W4 ⟨rfl, hb⟩
    have HB4 := Lib.hid (HB3.out.trans (hb.mono HB3.out.size))
    clear hb NB k0 k1 k2 k3 k4 k5 k6 k7 C3
    have T := Lib.hid (CW.out W4 HB4.out)
    go_wp2_with fail
    refine (T.out).mono ?_
    rintro e_ X9 ⟨rfl, hb⟩
    have HB9 := Lib.hid (HB4.out.trans (hb.mono HB4.out.size))
    clear hb T
    go_wp2_with fail
    go_ret
    exact ⟨rfl, HB9.out⟩
end Go.Proofs.YtpgckpafjiojfaaGreatDoor.AD
