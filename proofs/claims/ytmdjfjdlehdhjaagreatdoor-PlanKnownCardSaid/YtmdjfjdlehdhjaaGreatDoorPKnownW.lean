/- Walk of PlanKnown, as far as region 9. -/
import Derived.Test.YtmdjfjdlehdhjaaGreatDoorPKnM
import Derived.Test.YtmdjfjdlehdhjaaGreatDoorPKnP
namespace Go.Proofs.YtmdjfjdlehdhjaaGreatDoor.BW
open Go.RowKit BM Go.Shelf MC RK
open BK hiding ret_bool ret_i64

set_option maxRecDepth 100000 in
set_option maxHeartbeats 16000000 in
theorem lknown_ok (w : World) (hT : SpTab w) (hTab : Tab w) : Calls Tryz.prog 3 #[] w fun e w' => e = .returned (.bool true) ∧ Below w.heap.size w w' := by
  have hgt : 1 < w.heap.size := World.block_lt_of_cell? w _ (hTab 0 (by decide))
  have HT := Lib.hid (show ∀ W, Below w.heap.size w W → SpTab W ∧ Tab W from fun W hW => ⟨hT.below hW, tab_below hTab hW hgt⟩)
  have hb1 : Below w.heap.size w (w.alloc (.cells #[.int .i64 60, .int .i64 80] 32)) := (Below.refl _ w).alloc (Nat.le_refl _) _
  have hsp : SpansAt (w.alloc (.cells #[.int .i64 60, .int .i64 80] 32)) (some ⟨w.heap.size, 0, none⟩) [(60, 80)] := fun k hk => by
    have : k = 0 := by simpa using hk
    subst this
    have hn := Blk.new w 32 #[.int .i64 60, .int .i64 80]
    exact ⟨_, _, rfl, hn.cell 0, hn.cell 1⟩
  have HSP := Lib.hid hsp
  have HB1 := Lib.hid hb1
  have CE := Lib.hid (fun a n c W => ever_lk a n c W)
  have CD := Lib.hid (fun W => daily_lk W)
  rw [plV_pD] at CD
  have CE1 := Lib.hid (CE.out (some ⟨w.heap.size, 0, none⟩) 1 1)
  have CE0 := Lib.hid (CE.out none 0 0)
  rw [plV_pE] at CE1 CE0
  have CN0 := Lib.hid (fun W (h1 : SpTab W) (h2 : Tab W) => plnext_ok (pE none 0 0) [] 0 W (argE h1 h2))
  rw [next_pE0, fin_pE0 0 rfl, plV_pE] at CN0
  have CN2 := Lib.hid (fun W (h1 : SpTab W) (h2 : Tab W) => plnext_ok (pE none 0 0) [] 130 W (argE h1 h2))
  rw [next_pE2, fin_pE0 130 rfl, plV_pE] at CN2
  have CN1 := Lib.hid (fun b W (h : WkI w b W) => plnext_ok (pE (some ⟨w.heap.size, 0, none⟩) 1 1) [(60, 80)] 10 W h.arg)
  rw [next_pE1, fin_pE1 _ _ _ 10 rfl, plV_pE] at CN1
  have CI1 := Lib.hid (fun b W (h : WkI w b W) => plis_ok (pE (some ⟨w.heap.size, 0, none⟩) 1 1) [(60, 80)] 70 W h.arg)
  rw [is_pE1, fin_pE1 _ _ _ 70 rfl, plV_pE, Bool.and_false] at CI1
  have CI0 := Lib.hid (fun W (h1 : SpTab W) (h2 : Tab W) => plis_ok (pE none 0 0) [] 70 W (argE h1 h2))
  rw [is_pE0, fin_pE0 70 rfl, plV_pE, show (decide ((0 : Int) = 0) && true) = true from rfl] at CI0
  simp only [optI, Option.getD_some, Option.isSome_some, Option.getD_none, Option.isSome_none] at CN0 CN1 CN2
  clear hT hTab hgt hb1 hsp CE
  go_enter Tryz.func3, Tryz.ntmps3
  go_wp2_with fail
  refine (CE1.out _).mono ?_
  rintro e w1 ⟨rfl, hb⟩
  have HSP1 := Lib.hid (HSP.out.below hb)
  have HB2 := Lib.hid (HB1.out.trans (hb.mono HB1.out.size))
  clear hb
  go_wp2_with fail
  have hB3 := HB2.out.alloc HB2.out.size (.cells #[.int .i64 2, .int .u64 0, .int .u64 0, .int .u64 0, .int .u64 0, .int .u64 0, .int .u64 0, .bool false, .bool false, .int .i64 0, .int .i64 10, .int .i64 60, .int .i64 3, .slice (some ⟨w.heap.size, 0, none⟩) 1 1] 29)
  have HI := Lib.hid (show WkI w w1.heap.size (w1.alloc (.cells #[.int .i64 2, .int .u64 0, .int .u64 0, .int .u64 0, .int .u64 0, .int .u64 0, .int .u64 0, .bool false, .bool false, .int .i64 0, .int .i64 10, .int .i64 60, .int .i64 3, .slice (some ⟨w.heap.size, 0, none⟩) 1 1] 29)) from ⟨Blk.new w1 _ _, HSP1.out.below ((Below.refl _ w1).alloc (Nat.le_refl _) _), (HT.out _ hB3).1, (HT.out _ hB3).2, hB3⟩)
  clear hB3 HB2 HSP1 HSP HB1
  refine (CE0.out _).mono ?_
  rintro e w2 ⟨rfl, hb⟩
  have HI := Lib.hid (HI.out.next hb)
  clear hb
  go_wp2_with fail
  refine (CN0.out _ HI.out.st HI.out.tab).mono ?_
  rintro e w3 ⟨rfl, hb⟩
  have HI := Lib.hid (HI.out.next hb)
  clear hb
  obtain ⟨c0, c1, c2, c3, c4, c5, c6, c7, c8, c9, c10, c11, c12, c13⟩ := HI.out.cells
  go_wp2_with fail
  refine (CN1.out _ _ HI.out).mono ?_
  rintro e w4 ⟨rfl, hb⟩
  have HI := Lib.hid (HI.out.next hb)
  clear hb c0 c1 c2 c3 c4 c5 c6 c7 c8 c9 c10 c11 c12 c13
  go_wp2_with fail
  refine (CE0.out _).mono ?_
  rintro e w5 ⟨rfl, hb⟩
  have HI := Lib.hid (HI.out.next hb)
  clear hb
  go_wp2_with fail
  refine (CN2.out _ HI.out.st HI.out.tab).mono ?_
  rintro e w6 ⟨rfl, hb⟩
  have HI := Lib.hid (HI.out.next hb)
  clear hb
  obtain ⟨c0, c1, c2, c3, c4, c5, c6, c7, c8, c9, c10, c11, c12, c13⟩ := HI.out.cells
  go_wp2_with fail
  refine (CI1.out _ _ HI.out).mono ?_
  rintro e w7 ⟨rfl, hb⟩
  have HI := Lib.hid (HI.out.next hb)
  clear hb c0 c1 c2 c3 c4 c5 c6 c7 c8 c9 c10 c11 c12 c13
  go_wp2_with fail
  refine (CE0.out _).mono ?_
  rintro e w8 ⟨rfl, hb⟩
  have HI := Lib.hid (HI.out.next hb)
  clear hb
  go_wp2_with fail
  refine (CI0.out _ HI.out.st HI.out.tab).mono ?_
  rintro e w9 ⟨rfl, hb⟩
  have HI := Lib.hid (HI.out.next hb)
  clear hb CN0 CN1 CN2 CI0 CI1 CE1 CE0
  have CV := Lib.hid (fun a n c W => (by have h := ever_lk a n c W; rwa [plV_pE] at h : Calls Tryz.prog 13 #[.slice a n c] W fun e w' => e = .returned (.agg #[.int .i64 2, .int .u64 0, .int .u64 0, .int .u64 0, .int .u64 0, .int .u64 0, .int .u64 0, .bool false, .bool false, .int .i64 0, .int .i64 10, .int .i64 60, .int .i64 3, .slice a n c]) ∧ Below W.heap.size W w'))
  go_upto_region 9 with fail
  refine wp_region_inv (I := fun listed a wx => ∃ v : Nat → Value, a = ⟨#[Value.bool false, Value.pointer (some { block := w1.heap.size, off := 0 }), Value.int IntKind.i64 10, Value.bool true, Value.int IntKind.i64 0, Value.int IntKind.i64 130, Value.bool true, Value.int IntKind.i64 0, Value.int IntKind.i64 0, Value.bool false, Value.int IntKind.i64 0, Value.bool false, Value.int IntKind.i64 0, Value.bool true, Value.int IntKind.i64 0, v 20, undef, undef, undef, undef, undef, undef, undef, undef, undef, undef, undef, undef, undef, Value.agg #[Value.int IntKind.i64 60, Value.int IntKind.i64 80], Value.slice (some { block := w.heap.size, off := 0 }) 1 1, Value.agg #[Value.int IntKind.i64 2, Value.int IntKind.u64 0, Value.int IntKind.u64 0, Value.int IntKind.u64 0, Value.int IntKind.u64 0, Value.int IntKind.u64 0, Value.int IntKind.u64 0, Value.bool false, Value.bool false, Value.int IntKind.i64 0, Value.int IntKind.i64 10, Value.int IntKind.i64 60, Value.int IntKind.i64 3, Value.slice (some { block := w.heap.size, off := 0 }) 1 1], Value.tuple #[Value.int IntKind.i64 10, Value.bool true, Value.int IntKind.i64 0], Value.agg #[Value.int IntKind.i64 2, Value.int IntKind.u64 0, Value.int IntKind.u64 0, Value.int IntKind.u64 0, Value.int IntKind.u64 0, Value.int IntKind.u64 0, Value.int IntKind.u64 0, Value.bool false, Value.bool false, Value.int IntKind.i64 0, Value.int IntKind.i64 10, Value.int IntKind.i64 60, Value.int IntKind.i64 3, Value.slice none 0 0], Value.tuple #[Value.int IntKind.i64 10, Value.bool true, Value.int IntKind.i64 0], Value.int IntKind.i64 10, Value.bool true, Value.int IntKind.i64 0, Value.tuple #[Value.int IntKind.i64 130, Value.bool true, Value.int IntKind.i64 0], Value.agg #[Value.int IntKind.i64 2, Value.int IntKind.u64 0, Value.int IntKind.u64 0, Value.int IntKind.u64 0, Value.int IntKind.u64 0, Value.int IntKind.u64 0, Value.int IntKind.u64 0, Value.bool false, Value.bool false, Value.int IntKind.i64 0, Value.int IntKind.i64 10, Value.int IntKind.i64 60, Value.int IntKind.i64 3, Value.slice (some { block := w.heap.size, off := 0 }) 1 1], Value.tuple #[Value.int IntKind.i64 130, Value.bool true, Value.int IntKind.i64 0], Value.int IntKind.i64 130, Value.bool true, Value.int IntKind.i64 0, Value.tuple #[Value.int IntKind.i64 0, Value.bool false, Value.int IntKind.i64 0], Value.agg #[Value.int IntKind.i64 2, Value.int IntKind.u64 0, Value.int IntKind.u64 0, Value.int IntKind.u64 0, Value.int IntKind.u64 0, Value.int IntKind.u64 0, Value.int IntKind.u64 0, Value.bool false, Value.bool false, Value.int IntKind.i64 0, Value.int IntKind.i64 10, Value.int IntKind.i64 60, Value.int IntKind.i64 3, Value.slice none 0 0], Value.tuple #[Value.int IntKind.i64 0, Value.bool false, Value.int IntKind.i64 0], Value.int IntKind.i64 0, Value.bool false, Value.int IntKind.i64 0, Value.tuple #[Value.bool false, Value.int IntKind.i64 0], Value.agg #[Value.int IntKind.i64 2, Value.int IntKind.u64 0, Value.int IntKind.u64 0, Value.int IntKind.u64 0, Value.int IntKind.u64 0, Value.int IntKind.u64 0, Value.int IntKind.u64 0, Value.bool false, Value.bool false, Value.int IntKind.i64 0, Value.int IntKind.i64 10, Value.int IntKind.i64 60, Value.int IntKind.i64 3, Value.slice (some { block := w.heap.size, off := 0 }) 1 1], Value.tuple #[Value.bool false, Value.int IntKind.i64 0], Value.bool false, Value.int IntKind.i64 0, Value.tuple #[Value.bool true, Value.int IntKind.i64 0], Value.agg #[Value.int IntKind.i64 2, Value.int IntKind.u64 0, Value.int IntKind.u64 0, Value.int IntKind.u64 0, Value.int IntKind.u64 0, Value.int IntKind.u64 0, Value.int IntKind.u64 0, Value.bool false, Value.bool false, Value.int IntKind.i64 0, Value.int IntKind.i64 10, Value.int IntKind.i64 60, Value.int IntKind.i64 3, Value.slice none 0 0], Value.tuple #[Value.bool true, Value.int IntKind.i64 0], Value.bool true, Value.int IntKind.i64 0, Value.int IntKind.i64 0, Value.bool false, Value.bool false, Value.int IntKind.i64 10, Value.bool false, Value.bool false, Value.bool false, Value.bool true, Value.bool false, Value.bool false, Value.bool false, Value.int IntKind.i64 0, Value.bool false, Value.bool false, Value.bool false, Value.int IntKind.i64 130, Value.bool false, Value.bool false, Value.bool false, Value.bool true, Value.bool false, Value.bool false, Value.bool false, Value.int IntKind.i64 0, Value.bool false, Value.bool false, Value.bool false, Value.bool false, Value.bool false, Value.bool false, Value.int IntKind.i64 0, Value.bool false, Value.bool false, Value.bool false, Value.bool false, Value.bool false, Value.bool false, Value.int IntKind.i64 0, Value.bool false, Value.bool false, Value.bool false, Value.bool true, Value.bool false, Value.bool false, v 0, v 1, v 2, v 3, v 4, v 5, v 6, v 7, v 8, v 9, v 10, v 11, v 12, v 13, v 14, v 15, v 16, v 17, v 18, v 19, undef, undef, undef, undef, undef, undef, undef, undef, undef, undef, undef, undef, undef, undef, undef, undef, undef, undef, undef, undef, undef, undef, undef, undef, undef, undef, undef, undef, undef, undef, undef, undef, undef, undef, undef, undef, undef, undef, undef, undef, undef, undef, undef, undef, undef, undef, undef, undef, undef, undef, undef, undef, undef, undef, undef, undef, undef, undef, undef, undef, undef, undef, undef, undef, undef, undef, undef, undef, undef, undef, undef, undef, undef, undef, undef, undef, undef, undef, undef, undef, undef, undef, undef, undef, undef, undef, undef], []⟩ ∧ InvK w9.heap.size w9 listed v wx) (by kernel_rfl) ?_ ?_ ?_
  · exact ⟨fun _ => undef, rfl, ⟨fun i hi => by
      exfalso
      rw [Array.getElem?_replicate] at hi
      split at hi <;> simp at hi, (Below.refl _ _).drew⟩⟩
  · rintro listed a wx i o hsz ho hli ha ⟨v, rfl, hI⟩
    have HV := Lib.hid hI
    have hge := hI.below.size
    have hi : i < 21 := (List.getElem?_eq_some_iff.1 ho).1
    clear hI hli hsz
    obtain rfl | rfl | rfl | rfl | rfl | rfl | rfl | rfl | rfl | rfl | rfl | rfl | rfl | rfl | rfl | rfl | rfl | rfl | rfl | rfl | rfl : i = 0 ∨ i = 1 ∨ i = 2 ∨ i = 3 ∨ i = 4 ∨ i = 5 ∨ i = 6 ∨ i = 7 ∨ i = 8 ∨ i = 9 ∨ i = 10 ∨ i = 11 ∨ i = 12 ∨ i = 13 ∨ i = 14 ∨ i = 15 ∨ i = 16 ∨ i = 17 ∨ i = 18 ∨ i = 19 ∨ i = 20 := by omega
    · -- operation 0
      cases ho
      refine wpOp_step rfl (fun K hK => ?_)
      go_simp
      exact hK _ _ ⟨updV v 0 _, rfl, HV.out.step (Below.refl _ _) rfl⟩
    · -- operation 1
      cases ho
      refine wpOp_step rfl (fun K hK => ?_)
      go_simp
      exact hK _ _ ⟨updV v 1 _, rfl, HV.out.step (Below.refl _ _) rfl⟩
    · -- operation 2
      cases ho
      refine wpOp_step rfl (fun K hK => ?_)
      go_simp
      exact hK _ _ ⟨updV v 2 _, rfl, HV.out.step (Below.refl _ _) rfl⟩
    · -- operation 3
      cases ho
      have h2 := HV.out.dep ha 2 (by kernel_rfl)
      replace h2 : v 2 = _ := h2
      refine wpOp_step rfl (fun K hK => ?_)
      go_simp
      exact hK _ _ ⟨updV v 3 _, by simp [updV, h2], HV.out.step ((Below.refl _ _).alloc (Nat.le_refl _) _) ⟨wx.heap.size, rfl, hge, Blk.new wx _ _⟩⟩
    · -- operation 4
      cases ho
      have h3 := HV.out.dep ha 3 (by kernel_rfl)
      obtain ⟨g, hv, hg, hbk⟩ : SlB _ (v 3) _ _ wx := h3
      refine wpOp_step rfl (fun K hK => ?_)
      go_simp
      exact hK _ _ ⟨updV v 4 _, by simp [updV, hv], HV.out.step (Below.refl _ _) ⟨_, ⟨g, rfl, hg, hbk⟩, rfl⟩⟩
    · -- operation 5
      cases ho
      refine wpOp_step rfl (fun K hK => ?_)
      go_simp
      exact hK _ _ ⟨updV v 5 _, rfl, HV.out.step (Below.refl _ _) rfl⟩
    · -- operation 6
      cases ho
      have h5 := HV.out.dep ha 5 (by kernel_rfl)
      replace h5 : v 5 = _ := h5
      refine wpOp_step rfl (fun K hK => ?_)
      go_simp
      exact hK _ _ ⟨updV v 6 _, by simp [updV, h5], HV.out.step (Below.refl _ _) rfl⟩
    · -- operation 7
      cases ho
      refine wpOp_step rfl (fun K hK => ?_)
      go_simp
      exact hK _ _ ⟨updV v 7 _, rfl, HV.out.step (Below.refl _ _) rfl⟩
    · -- operation 8
      cases ho
      refine wpOp_step rfl (fun K hK => ?_)
      go_simp
      exact hK _ _ ⟨updV v 8 _, rfl, HV.out.step (Below.refl _ _) rfl⟩
    · -- operation 9
      cases ho
      refine wpOp_step rfl (fun K hK => ?_)
      go_simp
      refine (CD.out _).mono ?_
      rintro _ w5 ⟨rfl, hb⟩
      exact hK _ _ ⟨updV v 9 _, rfl, HV.out.step hb rfl⟩
    · -- operation 10
      cases ho
      refine wpOp_step rfl (fun K hK => ?_)
      go_simp
      refine (CD.out _).mono ?_
      rintro _ w5 ⟨rfl, hb⟩
      exact hK _ _ ⟨updV v 10 _, rfl, HV.out.step hb rfl⟩
    · -- operation 11
      cases ho
      refine wpOp_step rfl (fun K hK => ?_)
      go_simp
      exact hK _ _ ⟨updV v 11 _, rfl, HV.out.step (Below.refl _ _) rfl⟩
    · -- operation 12
      cases ho
      have h11 := HV.out.dep ha 11 (by kernel_rfl)
      replace h11 : v 11 = _ := h11
      refine wpOp_step rfl (fun K hK => ?_)
      go_simp
      exact hK _ _ ⟨updV v 12 _, by simp [updV, h11], HV.out.step ((Below.refl _ _).alloc (Nat.le_refl _) _) ⟨wx.heap.size, rfl, hge, Blk.new wx _ _⟩⟩
    · -- operation 13
      cases ho
      have h12 := HV.out.dep ha 12 (by kernel_rfl)
      obtain ⟨g, hv, hg, hbk⟩ : SlB _ (v 12) _ _ wx := h12
      refine wpOp_step rfl (fun K hK => ?_)
      go_simp
      refine (CV.out _ _ _ _).mono ?_
      rintro _ w5 ⟨rfl, hb⟩
      exact hK _ _ ⟨updV v 13 _, by simp [updV, hv], HV.out.step hb ⟨_, ⟨g, rfl, hg, hbk.below hb hbk.lt⟩, rfl⟩⟩
    · -- operation 14
      cases ho
      have hmk := mk65 wx
      refine wpOp_step rfl (fun K hK => ?_)
      go_simp
      exact hK _ _ ⟨updV v 14 _, rfl, HV.out.step ((Below.refl _ _).alloc (Nat.le_refl _) _) ⟨wx.heap.size, rfl, hge, Blk.new wx _ _⟩⟩
    · -- operation 15
      cases ho
      have h14 := HV.out.dep ha 14 (by kernel_rfl)
      obtain ⟨g, hv, hg, hbk⟩ : SlB _ (v 14) _ _ wx := h14
      refine wpOp_step rfl (fun K hK => ?_)
      go_simp
      refine (CV.out _ _ _ _).mono ?_
      rintro _ w5 ⟨rfl, hb⟩
      exact hK _ _ ⟨updV v 15 _, by simp [updV, hv], HV.out.step hb ⟨_, ⟨g, rfl, hg, hbk.below hb hbk.lt⟩, rfl⟩⟩
    · -- operation 16
      cases ho
      refine wpOp_step rfl (fun K hK => ?_)
      go_simp
      exact hK _ _ ⟨updV v 16 _, rfl, HV.out.step (Below.refl _ _) rfl⟩
    · -- operation 17
      cases ho
      have h16 := HV.out.dep ha 16 (by kernel_rfl)
      replace h16 : v 16 = _ := h16
      refine wpOp_step rfl (fun K hK => ?_)
      go_simp
      exact hK _ _ ⟨updV v 17 _, by simp [updV, h16], HV.out.step ((Below.refl _ _).alloc (Nat.le_refl _) _) ⟨wx.heap.size, rfl, hge, Blk.new wx _ _⟩⟩
    · -- operation 18
      cases ho
      have h17 := HV.out.dep ha 17 (by kernel_rfl)
      obtain ⟨g, hv, hg, hbk⟩ : SlB _ (v 17) _ _ wx := h17
      refine wpOp_step rfl (fun K hK => ?_)
      go_simp
      refine (CV.out _ _ _ _).mono ?_
      rintro _ w5 ⟨rfl, hb⟩
      exact hK _ _ ⟨updV v 18 _, by simp [updV, hv], HV.out.step hb ⟨_, ⟨g, rfl, hg, hbk.below hb hbk.lt⟩, rfl⟩⟩
    · -- operation 19
      cases ho
      have h0 := HV.out.dep ha 0 (by kernel_rfl)
      replace h0 : v 0 = _ := h0
      have h1 := HV.out.dep ha 1 (by kernel_rfl)
      replace h1 : v 1 = _ := h1
      have h6 := HV.out.dep ha 6 (by kernel_rfl)
      replace h6 : v 6 = _ := h6
      have h7 := HV.out.dep ha 7 (by kernel_rfl)
      replace h7 : v 7 = _ := h7
      have h8 := HV.out.dep ha 8 (by kernel_rfl)
      replace h8 : v 8 = _ := h8
      have h9 := HV.out.dep ha 9 (by kernel_rfl)
      replace h9 : v 9 = _ := h9
      have h10 := HV.out.dep ha 10 (by kernel_rfl)
      replace h10 : v 10 = _ := h10
      have h4 := HV.out.dep ha 4 (by kernel_rfl)
      obtain ⟨u4, ⟨g4, rfl, hg4, hb4⟩, hv4⟩ : ∃ u, SlB _ u _ _ wx ∧ v 4 = _ := h4
      have h13 := HV.out.dep ha 13 (by kernel_rfl)
      obtain ⟨u13, ⟨g13, rfl, hg13, hb13⟩, hv13⟩ : ∃ u, SlB _ u _ _ wx ∧ v 13 = _ := h13
      have h15 := HV.out.dep ha 15 (by kernel_rfl)
      obtain ⟨u15, ⟨g15, rfl, hg15, hb15⟩, hv15⟩ : ∃ u, SlB _ u _ _ wx ∧ v 15 = _ := h15
      have h18 := HV.out.dep ha 18 (by kernel_rfl)
      obtain ⟨u18, ⟨g18, rfl, hg18, hb18⟩, hv18⟩ : ∃ u, SlB _ u _ _ wx ∧ v 18 = _ := h18
      refine wpOp_step rfl (fun K hK => ?_)
      go_simp
      exact hK _ _ ⟨updV v 19 _, by simp [updV, h0, h1, hv4, h6, h7, h8, h9, h10, hv13, hv15, hv18], HV.out.step ((Below.refl _ _).alloc (Nat.le_refl _) _) ⟨_, _, _, _, wx.heap.size, ⟨⟨g4, rfl, hg4, hb4.alloc _⟩, ⟨g13, rfl, hg13, hb13.alloc _⟩, ⟨g15, rfl, hg15, hb15.alloc _⟩, ⟨g18, rfl, hg18, hb18.alloc _⟩⟩, rfl, hge, Blk.new wx _ _⟩⟩
    · -- operation 20
      cases ho
      have h19 := HV.out.dep ha 19 (by kernel_rfl)
      have hF : FinK _ (v 19) wx := h19
      obtain ⟨u2, u8, u9, u10, E, hs, hv, hg, hbk⟩ := hF
      refine wpOp_step rfl (fun K hK => ?_)
      go_simp
      exact hK _ _ ⟨updV v 20 _, by simp [updV, hv], HV.out.step (Below.refl _ _) ⟨u2, u8, u9, u10, E, hs, rfl, hg, hbk⟩⟩
  · rintro listed a wx hsz hr ⟨v, rfl, hI⟩
    have hF : FinK w9.heap.size (v 20) wx := hI.all 20 (all_listedB hsz (by kernel_rfl) hr 20 (by decide))
    have hww : w.heap.size ≤ w9.heap.size := HI.out.below.size
    have HI := Lib.hid (HI.out.next hI.below)
    obtain ⟨u2, u8, u9, u10, E, ⟨⟨g2, rfl, hg2, hb2⟩, ⟨g8, rfl, hg8, hb8⟩, ⟨g9, rfl, hg9, hb9⟩, ⟨g10, rfl, hg10, hb10⟩⟩, hv, hgE, hE⟩ := hF
    have HF := Lib.hid (And.intro (And.intro hg2 hb2) (And.intro (And.intro hg8 hb8) (And.intro (And.intro hg9 hb9) (And.intro hg10 hb10))))
    have HE := Lib.hid (And.intro hgE hE)
    have e93 := hE.cell 93
    have e108 := hE.cell 108
    have f93 := hE.frozen 93
    have f108 := hE.frozen 108
    simp only [List.getElem?_toArray, List.getElem?_cons_succ, List.getElem?_cons_zero] at e93 e108
    rw [hv]
    have n2 := blk_ne hb2 hE (by decide)
    have n8 := blk_ne hb8 hE (by decide)
    have n9 := blk_ne hb9 hE (by decide)
    have n10 := blk_ne hb10 hE (by decide)
    obtain ⟨Wk, hWk⟩ : ∃ W, W = (wx.setCell ⟨E, 93, none⟩ (.int .i64 841)).setCell ⟨E, 108, none⟩ (.int .i64 1) := ⟨_, rfl⟩
    have hBk : Below w.heap.size w Wk := by rw [hWk]; exact (HI.out.below.setCell (by show w.heap.size ≤ E; omega) _).setCell (by show w.heap.size ≤ E; omega) _
    obtain ⟨KL, hKL⟩ : ∃ L, L = knL (some ⟨g2, 0, none⟩) (some ⟨g8, 0, none⟩) (some ⟨g9, 0, none⟩) (some ⟨g10, 0, none⟩) := ⟨_, rfl⟩
    have HP : Hid (PlsAt Wk (some ⟨E, 0, none⟩) KL) := Lib.hid (by
      have st := HT.out Wk hBk
      rw [hWk] at st ⊢
      rw [hKL]
      exact kn_pls ((hE.set_ 93 _).set_ 108 _) rfl ((hb2.far n2 _).far n2 _) ((hb8.far n8 _).far n8 _) ((hb9.far n9 _).far n9 _) ((hb10.far n10 _).far n10 _) st.1 st.2)
    have HLEN : Hid (KL.length = 11) := Lib.hid (by rw [hKL]; rfl)
    have HBAD : Hid (∀ x ∈ KL, plE x.1 x.2 = 16) := Lib.hid (by rw [hKL]; exact kn_bad _ _ _ _)
    have HBK := Lib.hid hBk
    have HC : Hid (∀ W, PlsAt W (some ⟨E, 0, none⟩) KL → ∀ k p l, KL[k]? = some (p, l) → (W.cell? ⟨E, k * 14, none⟩ = some (.int .i64 p.k) ∧ W.cell? ⟨E, k * 14 + 1, none⟩ = some (.int .u64 p.x.s) ∧ W.cell? ⟨E, k * 14 + 2, none⟩ = some (.int .u64 p.x.mi) ∧ W.cell? ⟨E, k * 14 + 3, none⟩ = some (.int .u64 p.x.h) ∧ W.cell? ⟨E, k * 14 + 4, none⟩ = some (.int .u64 p.x.d) ∧ W.cell? ⟨E, k * 14 + 5, none⟩ = some (.int .u64 p.x.mo) ∧ W.cell? ⟨E, k * 14 + 6, none⟩ = some (.int .u64 p.x.w) ∧ W.cell? ⟨E, k * 14 + 7, none⟩ = some (.bool p.x.ad) ∧ W.cell? ⟨E, k * 14 + 8, none⟩ = some (.bool p.x.aw) ∧ W.cell? ⟨E, k * 14 + 9, none⟩ = some (.int .i64 p.z) ∧ W.cell? ⟨E, k * 14 + 10, none⟩ = some (.int .i64 p.e.s) ∧ W.cell? ⟨E, k * 14 + 11, none⟩ = some (.int .i64 p.e.p) ∧ W.cell? ⟨E, k * 14 + 12, none⟩ = some (.int .i64 p.e.c) ∧ W.cell? ⟨E, k * 14 + 13, none⟩ = some (.slice p.a p.n p.c)) ∧ PArg W p l ∧ plE p l = 16) := Lib.hid (fun W h k p l hx => by
      obtain ⟨hk', hx'⟩ := List.getElem?_eq_some_iff.1 hx
      obtain ⟨b, off, e, h1, h2⟩ := h k hk'
      injection e with e
      injection e with e1 e2
      subst e1 e2
      have hb' := HBAD.out _ (List.getElem_mem hk')
      rw [hx'] at h1 h2 hb'
      simp only [Nat.zero_add] at h1
      exact ⟨⟨h1 0 (by decide), h1 1 (by decide), h1 2 (by decide), h1 3 (by decide), h1 4 (by decide), h1 5 (by decide), h1 6 (by decide), h1 7 (by decide), h1 8 (by decide), h1 9 (by decide), h1 10 (by decide), h1 11 (by decide), h1 12 (by decide), h1 13 (by decide)⟩, h2, hb'⟩)
    have HEX : Hid (∀ k, k < 11 → ∃ p l, KL[k]? = some (p, l)) := Lib.hid (fun k hk => ⟨KL[k]'(by rw [HLEN.out]; exact hk) |>.1, KL[k]'(by rw [HLEN.out]; exact hk) |>.2, List.getElem?_eq_getElem _⟩)
    have HWK := Lib.hid hWk
    clear hWk hBk hKL n2 n8 n9 n10
    clear hI hr hsz hg2 hb2 hg8 hb8 hg9 hb9 hg10 hb10 hv hgE hE
    generalize v 0 = q0; generalize v 1 = q1; generalize v 2 = q2; generalize v 3 = q3; generalize v 4 = q4; generalize v 5 = q5; generalize v 6 = q6; generalize v 7 = q7; generalize v 8 = q8; generalize v 9 = q9; generalize v 10 = q10; generalize v 11 = q11; generalize v 12 = q12; generalize v 13 = q13; generalize v 14 = q14; generalize v 15 = q15; generalize v 16 = q16; generalize v 17 = q17; generalize v 18 = q18; generalize v 19 = q19
    clear v
    go_upto_region 12 with fail
    have hWk := HWK.out
    rw [← hWk]
    clear hWk HWK HE HF HI e93 e108 f93 f108 hww
    go_wp2_with fail
    go_loopw [16] (fun s16 wr => ∃ k : Nat, s16 = .int .i64 k ∧ k ≤ 11 ∧ PlsAt wr (some ⟨E, 0, none⟩) KL ∧ Below w.heap.size w wr) (fun s16 _ => 11 - (intOf s16).toNat)
    case atStart => exact ⟨0, rfl, by omega, HP.out, HBK.out⟩
    case round =>
      clear HP HBK
      obtain ⟨k, rfl, hk, hpl, hbl⟩ := hrel
      have HP := Lib.hid hpl
      have HB := Lib.hid hbl
      clear hpl hbl
      by_cases hkn : k < 11
      · obtain ⟨p, l, hkl⟩ := HEX.out k hkn
        obtain ⟨⟨c0, c1, c2, c3, c4, c5, c6, c7, c8, c9, c10, c11, c12, c13⟩, harg, h16⟩ := HC.out _ HP.out _ _ _ hkl
        have hF : finE p l [-1] = 16 := by unfold finE; rw [if_neg (by rw [h16]; decide)]
        have CIs := Lib.hid (plis_ok p l (-1) _ harg)
        rw [hF, show decide ((16 : Int) = 0) = false from rfl, Bool.false_and] at CIs
        have H16 := Lib.hid h16
        have HKL := Lib.hid hkl
        clear hF harg h16 hkl
        have HA := Lib.hid (fun W (h : PlsAt W (some ⟨E, 0, none⟩) KL) => (HC.out W h _ _ _ HKL.out).2.1)
        have CDU := Lib.hid (fun W (h : PArg W p l) => show Calls Tryz.prog 17 #[.slice (some ⟨W.heap.size, 0, none⟩) 2 2, .int .i64 (-1)] (W.alloc (.cells #[.int .i64 1, .int .u64 1, .int .u64 1, .int .u64 1, .int .u64 4294967294, .int .u64 8190, .int .u64 127, .bool true, .bool true, .int .i64 0, .int .i64 0, .int .i64 0, .int .i64 0, .slice none 0 0, .int .i64 p.k, .int .u64 p.x.s, .int .u64 p.x.mi, .int .u64 p.x.h, .int .u64 p.x.d, .int .u64 p.x.mo, .int .u64 p.x.w, .bool p.x.ad, .bool p.x.aw, .int .i64 p.z, .int .i64 p.e.s, .int .i64 p.e.p, .int .i64 p.e.c, .slice p.a p.n p.c] 29)) (fun r w' => ∃ v, r = .returned (.tuple #[v, .int .i64 16]) ∧ Below W.heap.size W w') from due_kn h H16.out)
        have CCK := Lib.hid (fun W (h : PArg W p l) => (by have h9 := plcheck_ok p l W h; rwa [H16.out] at h9 : Calls Tryz.prog 18 #[.agg #[.int .i64 p.k, .int .u64 p.x.s, .int .u64 p.x.mi, .int .u64 p.x.h, .int .u64 p.x.d, .int .u64 p.x.mo, .int .u64 p.x.w, .bool p.x.ad, .bool p.x.aw, .int .i64 p.z, .int .i64 p.e.s, .int .i64 p.e.p, .int .i64 p.e.c, .slice p.a p.n p.c]] W fun r w' => r = .returned (.int .i64 16) ∧ Below W.heap.size W w'))
        have hw1 : IntKind.i64.wrap ((k : Int) + 1) = (k : Int) + 1 := IntWalk.i64_in _ (by omega)
        go_wp2_with fail
        refine (CIs.out).mono ?_
        rintro e w10 ⟨rfl, hb⟩
        have HP := Lib.hid (HP.out.below hb)
        have HB := Lib.hid (HB.out.trans (hb.mono HB.out.size))
        clear hb CIs c0 c1 c2 c3 c4 c5 c6 c7 c8 c9 c10 c11 c12 c13
        go_upto_region 16 with fail
        go_cut [19, 20] from 145 to 154 (fun s19 s20 wc => s20 = .int .i64 16 ∧ PlsAt wc (some ⟨E, 0, none⟩) KL ∧ Below w10.heap.size w10 wc)
        case first =>
          have HP := Lib.hid (HP.out.below (Below.refl _ w10).drew)
          have HBL := Lib.hid ((Below.refl w10.heap.size w10).drew)
          obtain ⟨⟨c0, c1, c2, c3, c4, c5, c6, c7, c8, c9, c10, c11, c12, c13⟩, -, -⟩ := HC.out _ HP.out _ _ _ HKL.out
          have hl := World.block_lt_of_cell? _ _ c0
          go_region_held3 (fun w' => w'.cell? ⟨E, k * 14, none⟩ = some (.int .i64 p.k) ∧ w'.cell? ⟨E, k * 14 + 1, none⟩ = some (.int .u64 p.x.s) ∧ w'.cell? ⟨E, k * 14 + 2, none⟩ = some (.int .u64 p.x.mi) ∧ w'.cell? ⟨E, k * 14 + 3, none⟩ = some (.int .u64 p.x.h) ∧ w'.cell? ⟨E, k * 14 + 4, none⟩ = some (.int .u64 p.x.d) ∧ w'.cell? ⟨E, k * 14 + 5, none⟩ = some (.int .u64 p.x.mo) ∧ w'.cell? ⟨E, k * 14 + 6, none⟩ = some (.int .u64 p.x.w) ∧ w'.cell? ⟨E, k * 14 + 7, none⟩ = some (.bool p.x.ad) ∧ w'.cell? ⟨E, k * 14 + 8, none⟩ = some (.bool p.x.aw) ∧ w'.cell? ⟨E, k * 14 + 9, none⟩ = some (.int .i64 p.z) ∧ w'.cell? ⟨E, k * 14 + 10, none⟩ = some (.int .i64 p.e.s) ∧ w'.cell? ⟨E, k * 14 + 11, none⟩ = some (.int .i64 p.e.p) ∧ w'.cell? ⟨E, k * 14 + 12, none⟩ = some (.int .i64 p.e.c) ∧ w'.cell? ⟨E, k * 14 + 13, none⟩ = some (.slice p.a p.n p.c)) (go_keep)
            (first
              | (go_at_call 16; with_reducible refine (CD.out _).mono ?_; rintro _ w11 ⟨rfl, hb⟩; have HP := Lib.hid (HP.out.below hb); have HBL := Lib.hid (HBL.out.trans (hb.mono HBL.out.size)); obtain ⟨⟨c0, c1, c2, c3, c4, c5, c6, c7, c8, c9, c10, c11, c12, c13⟩, -, -⟩ := HC.out _ HP.out _ _ _ HKL.out; have hl := World.block_lt_of_cell? _ _ c0; clear hb)
              | (go_at_call 17; with_reducible refine (CDU.out _ (HA.out _ HP.out)).mono ?_; rintro _ w12 ⟨vd, rfl, hb⟩; have HP := Lib.hid (HP.out.below hb); have HBL := Lib.hid (HBL.out.trans (hb.mono HBL.out.size)); obtain ⟨⟨c0, c1, c2, c3, c4, c5, c6, c7, c8, c9, c10, c11, c12, c13⟩, -, -⟩ := HC.out _ HP.out _ _ _ HKL.out; have hl := World.block_lt_of_cell? _ _ c0; clear hb))
          all_goals
            go_wp2_with fail
            go_meet
            exact ⟨rfl, HP.out, HBL.out⟩
        case rest =>
          obtain ⟨rfl, hp, hb⟩ := hcut
          have HP := Lib.hid hp
          have HB := Lib.hid (HB.out.trans (hb.mono HB.out.size))
          clear hp hb
          obtain ⟨⟨c0, c1, c2, c3, c4, c5, c6, c7, c8, c9, c10, c11, c12, c13⟩, -, -⟩ := HC.out _ HP.out _ _ _ HKL.out
          go_wp2_with fail
          refine (CCK.out _ (HA.out _ HP.out)).mono ?_
          rintro e w13 ⟨rfl, hb⟩
          have HP := Lib.hid (HP.out.below hb)
          have HB := Lib.hid (HB.out.trans (hb.mono HB.out.size))
          clear hb
          go_wp2_with fail
          refine ⟨⟨k + 1, rfl, by omega, HP.out, HB.out⟩, ?_⟩
          show 11 - (k + 1) < 11 - k
          omega
      · obtain rfl : k = 11 := by omega
        have CC := Lib.hid (fun W (h1 : SpTab W) (h2 : Tab W) => plcount_ok pD [] 0 253402300800 W (argD h1 h2))
        rw [fin_pD_far, plV_pD] at CC
        generalize ctQ pD [] 0 253402300800 = ct at CC
        have CL := Lib.hid (fun W (h1 : SpTab W) (h2 : Tab W) => pllist_ok pD [] 86400 86400 2 (by decide) W (argD h1 h2))
        rw [list_pD, fin_pD_day, plV_pD] at CL
        obtain ⟨cs, hmk', hD'⟩ := mk_due 65 (by decide)
        have hmk : ∀ W, (Instr.makeSlice 39 (.int .i64 65) (.int .i64 65)).run Tryz.prog W = .ok (.slice (some ⟨W.heap.size, 0, none⟩) 65 65) (W.alloc (.cells cs 29)) := hmk'
        have D1 := Lib.hid hD'
        rw [due_many] at D1
        obtain ⟨cs2, hmk2', hD2'⟩ := mk_due 64 (by decide)
        have hmk2 : ∀ W, (Instr.makeSlice 39 (.int .i64 64) (.int .i64 64)).run Tryz.prog W = .ok (.slice (some ⟨W.heap.size, 0, none⟩) 64 64) (W.alloc (.cells cs2 29)) := hmk2'
        have D2 := Lib.hid hD2'
        rw [due_zero] at D2
        clear hmk' hD' hmk2' hD2' HP HC HEX HBAD HLEN
        go_wp2_with fail
        refine (D1.out _ (HT.out _ HB.out).1 (HT.out _ HB.out).2).mono ?_
        rintro e w14 ⟨v14, rfl, hb⟩
        have HB := Lib.hid (HB.out.trans (hb.mono HB.out.size))
        clear hb
        go_wp2_with fail
        refine (D2.out _ (HT.out _ HB.out).1 (HT.out _ HB.out).2).mono ?_
        rintro e w15 ⟨v15, rfl, hb⟩
        have HB := Lib.hid (HB.out.trans (hb.mono HB.out.size))
        clear hb
        go_wp2_with fail
        refine (CD.out _).mono ?_
        rintro e w16 ⟨rfl, hb⟩
        have HB := Lib.hid (HB.out.trans (hb.mono HB.out.size))
        clear hb
        go_wp2_with fail
        refine (CC.out _ (HT.out _ HB.out).1 (HT.out _ HB.out).2).mono ?_
        rintro e w17 ⟨rfl, hb⟩
        have HB := Lib.hid (HB.out.trans (hb.mono HB.out.size))
        clear hb
        go_wp2_with fail
        refine (CD.out _).mono ?_
        rintro e w18 ⟨rfl, hb⟩
        have HB := Lib.hid (HB.out.trans (hb.mono HB.out.size))
        clear hb
        go_wp2_with fail
        refine (CL.out _ (HT.out _ HB.out).1 (HT.out _ HB.out).2).mono ?_
        rintro e w19 ⟨v, rfl, ho, hb⟩
        have HB := Lib.hid (HB.out.trans (hb.mono HB.out.size))
        obtain ⟨al, capl, rfl, -⟩ := ho.shape
        clear hb ho
        go_wp2_with fail
        refine (plworks_ok _ (HT.out _ HB.out).1 (HT.out _ HB.out).2).mono ?_
        rintro e w20 ⟨rfl, hb⟩
        have HB := Lib.hid (HB.out.trans (hb.mono HB.out.size))
        clear hb
        go_wp2_with fail
        go_ret
        exact ⟨rfl, HB.out⟩
end Go.Proofs.YtmdjfjdlehdhjaaGreatDoor.BW
