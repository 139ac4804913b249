/- Walk of ConfigOthers. -/
import Derived.Test.YtmdjfjdlehdhjaaGreatDoorCOthM
namespace Go.Proofs.YtmdjfjdlehdhjaaGreatDoor.BW
open Go.RowKit BM Go.Shelf MC RK
open BK hiding ret_bool ret_i64

/-- A law's configuration in its box. -/
structure LwC (w : World) (c : Cf) (L : JL) (W : World) : Prop where
  box : Blk W w.heap.size 56 (cfV c)
  arg : CArg W c L
  below : Below w.heap.size w W
theorem LwC.next {w : World} {c : Cf} {L : JL} {X Y : World} (h : LwC w c L X) (hb : Below X.heap.size X Y) : LwC w c L Y := ⟨h.box.below hb h.box.lt, h.arg.below hb, h.below.trans (hb.mono h.below.size)⟩
theorem LwC.cells {w : World} {c : Cf} {L : JL} {W : World} (h : LwC w c L W) : W.cell? ⟨w.heap.size, 0, none⟩ = some (.int .i64 c.g.cap) ∧ W.cell? ⟨w.heap.size, 1, none⟩ = some (.int .i64 c.g.q) ∧ W.cell? ⟨w.heap.size, 2, none⟩ = some (.int .i64 c.g.ar) ∧ W.cell? ⟨w.heap.size, 3, none⟩ = some (.int .i64 c.g.ag) ∧ W.cell? ⟨w.heap.size, 4, none⟩ = some (.int .u64 c.g.sd) ∧ W.cell? ⟨w.heap.size, 5, none⟩ = some (.int .i64 c.g.t) ∧ W.cell? ⟨w.heap.size, 6, none⟩ = some (.int .i64 c.g.tau) ∧ W.cell? ⟨w.heap.size, 7, none⟩ = some (.slice c.a c.n c.c) :=
  ⟨h.box.cell 0, h.box.cell 1, h.box.cell 2, h.box.cell 3, h.box.cell 4, h.box.cell 5, h.box.cell 6, h.box.cell 7⟩
set_option maxRecDepth 8000 in
set_option maxHeartbeats 8000000 in
theorem lcothers_ok (c : Cf) (L : JL) (t : Int) (x : Nat) (hx : x < 256) (w : World) (hp : CIn w c L ∧ c.n ≤ 9223372036854775807 ∧ c.n ≤ c.c) (hT : SpTab w) (hTab : Tab w) : Calls Tryz.prog 6 #[.agg (cfV c), .int .i64 t, .int .u8 x] w fun e w' => e = .returned (.bool true) ∧ Below w.heap.size w w' := by
  have HXX := Lib.hid hx
  obtain ⟨hI0, hn0, hcap⟩ := hp
  have hp : CIn w c L ∧ c.n ≤ 9223372036854775807 := ⟨hI0, hn0⟩
  have HCAP := Lib.hid hcap
  clear hx hcap hI0 hn0
  obtain ⟨hI, hn9⟩ := hp
  obtain ⟨W1, hW1⟩ : ∃ W1, W1 = w.alloc (.cells (cfV c) 56) := ⟨_, rfl⟩
  have hB : Below w.heap.size w W1 := by rw [hW1]; exact (Below.refl _ w).alloc (Nat.le_refl _) _
  have hx : Blk W1 w.heap.size 56 (cfV c) := by rw [hW1]; exact Blk.new w _ _
  have HT := Lib.hid (show ∀ W, Below w.heap.size w W → SpTab W ∧ Tab W from fun W hW => ⟨hT.below hW, tab_below hTab hW (tab_lt hTab)⟩)
  have CF := Lib.hid (few_ok c L W1 (hI.below hB) hn9)
  have HX := Lib.hid (And.intro hB hx)
  have HIN := Lib.hid hI
  have CW := Lib.hid (fun W (hW : Below w.heap.size w W) => cwk_ok W (HT.out W hW).1 (HT.out W hW).2)
  have CD := Lib.hid (fun W (h : CArg W c L) => cdue_ok c L t W h)
  obtain ⟨E, hE⟩ : ∃ E, cdE c.g L t = E := ⟨_, rfl⟩
  have HE := Lib.hid hE
  generalize hV : cdV c.g L t = V at *
  have HV := Lib.hid hV
  have HW := Lib.hid hW1
  rw [hW1] at CF
  rw [cfV_eq] at CF CD ⊢
  rw [hE] at CD
  clear hV hE hW1 hB hx hI hT hTab
  go_enter Tryz.func6, Tryz.ntmps6
  go_wp2_with fail
  refine (CF.out).mono ?_
  rintro e w2 (⟨rfl, hb⟩ | ⟨rfl, hf, hb⟩)
  · have hb : Below W1.heap.size W1 w2 := by rw [HW.out, cfV_eq]; exact hb
    have HB2 := Lib.hid (HX.out.1.trans (hb.mono HX.out.1.size))
    clear hb
    go_wp2_with fail
    refine (CW.out _ HB2.out).mono ?_
    rintro e w3 ⟨rfl, hb⟩
    have HB3 := Lib.hid (HB2.out.trans (hb.mono HB2.out.size))
    clear hb
    go_wp2_with fail
    go_ret
    exact ⟨rfl, HB3.out⟩
  · have hb : Below W1.heap.size W1 w2 := by rw [HW.out, cfV_eq]; exact hb
    have hb2 := HX.out.1.trans (hb.mono HX.out.1.size)
    have HI := Lib.hid (show LwC w c L w2 from ⟨HX.out.2.below hb HX.out.2.lt, hf.arg (HIN.out.below hb2) (HT.out _ hb2).1 (HT.out _ hb2).2, hb2⟩)
    have HFEW := Lib.hid hf
    obtain ⟨c0, c1, c2, c3, c4, c5, c6, c7⟩ := HI.out.cells
    clear hb hb2 hf
    rcases Decidable.em (c.n = 0) with hn0 | hn0
    · have q1 : ((c.n : Int) == 0) = true := by rw [hn0]; rfl
      clear hn0
      go_wp2_with fail
      refine (CW.out _ HI.out.below).mono ?_
      rintro e w99 ⟨rfl, hb⟩
      have HB99 := Lib.hid (HI.out.below.trans (hb.mono HI.out.below.size))
      clear hb
      go_wp2_with fail
      go_ret
      exact ⟨rfl, HB99.out⟩
    · have q1 : ((c.n : Int) == 0) = false := by rw [beq_eq_false_iff_ne]; omega
      have HN0 := Lib.hid hn0
      clear hn0
      go_wp2_with fail
      refine (CD.out _ HI.out.arg).mono ?_
      rintro e w3 ⟨v, rfl, ho, hb⟩
      have HI := Lib.hid (HI.out.next hb)
      obtain ⟨a3, cap3, rfl, hi3⟩ := ho.shape
      have H3 := Lib.hid hi3
      clear hb ho hi3 c0 c1 c2 c3 c4 c5 c6 c7
      obtain ⟨c0, c1, c2, c3, c4, c5, c6, c7⟩ := HI.out.cells
      rcases Decidable.em (E = 0) with hE0 | hne
      rotate_left
      · have q2 : (E != 0) = true := by simpa [bne_iff_ne] using hne
        have q3 : ((V.length : Int) == 0) = true := by
          rw [← HV.out]; unfold cdV; rw [if_neg (by rw [HE.out]; exact hne)]; rfl
        clear hne
        go_wp2_with fail
        refine (CW.out _ HI.out.below).mono ?_
        rintro e w99 ⟨rfl, hb⟩
        have HB99 := Lib.hid (HI.out.below.trans (hb.mono HI.out.below.size))
        clear hb
        go_wp2_with fail
        go_ret
        exact ⟨rfl, HB99.out⟩
      · subst hE0
        have HOK := Lib.hid (cd_zero HE.out)
        have HV2 : Hid (V = dueA t (plansOf L) 0) := Lib.hid (by rw [← HV.out]; unfold cdV; rw [if_pos HE.out])
        have hcn : c.n ≤ 64 := by have := HOK.out.1.many; have := HIN.out.n; omega
        have hcn0 : 0 < c.n := by have := HN0.out; omega
        obtain ⟨k, hk⟩ : ∃ k, x % c.n = k := ⟨_, rfl⟩
        have hkn : k < c.n := by rw [← hk]; exact Nat.mod_lt _ hcn0
        have HKN := Lib.hid hkn
        have q4 : (wrap64 (x : Int)).tmod (c.n : Int) = (k : Int) := by
          rw [← hk, show wrap64 (x : Int) = (x : Int) by have := HXX.out; unfold wrap64; omega]
          exact (Int.ofNat_tmod x c.n).symm
        clear hk
        obtain ⟨i0, hi0, hz0, hz1, hz2⟩ := info_parts info_job
        obtain ⟨b, off, hca⟩ : ∃ b off, c.a = some ⟨b, off, none⟩ := by
          obtain ⟨b, off, e, _⟩ := HIN.out.at_ 0 (by rw [HIN.out.n]; exact hcn0)
          exact ⟨b, off, e⟩
        obtain ⟨W0, hW0⟩ : ∃ W0, W0 = w3.alloc (.cells #[.int .i64 c.g.cap, .int .i64 c.g.q, .int .i64 c.g.ar, .int .i64 c.g.ag, .int .u64 c.g.sd, .int .i64 c.g.t, .int .i64 c.g.tau, .slice c.a c.n c.c] 56) := ⟨_, rfl⟩
        have hb30 : Below w3.heap.size w3 W0 := by rw [hW0]; exact (Below.refl _ _).alloc (Nat.le_refl _) _
        have HI0 := Lib.hid (HI.out.next hb30)
        have HLW := Lib.hid (show Blk W0 w3.heap.size 56 (cfV c) by rw [hW0]; exact Blk.new _ _ _)
        have HJ : Hid (JobsAt W0 (some ⟨b, off, none⟩) L) := Lib.hid (by have := HI0.out.arg.in_.at_; rw [hca] at this; exact this)
        have HLEN := Lib.hid (HIN.out.n)
        have HCN := Lib.hid hcn
        have HC7 : Hid (∀ wx, Below W0.heap.size W0 wx → wx.cell? ⟨w.heap.size, 7, none⟩ = some (.slice (some ⟨b, off, none⟩) c.n c.c)) := Lib.hid (fun wx hb => by
          have := (HI0.out.box.below hb HI0.out.box.lt).cell 7
          rw [← hca]; exact this)
        have HW0 := Lib.hid hW0
        have HB30 := Lib.hid hb30
        clear hca hb30 hW0
        go_upto_region 8 with fail
        rw [← HW0.out]
        clear c0 c1 c2 c3 c4 c5 c6 c7 q1 q4
        refine wp_region_inv (I := fun listed a wx => ∃ v : Nat → Value, a = ⟨#[.agg #[.int .i64 c.g.cap, .int .i64 c.g.q, .int .i64 c.g.ar, .int .i64 c.g.ag, .int .u64 c.g.sd, .int .i64 c.g.t, .int .i64 c.g.tau, .slice c.a c.n c.c], .int .i64 t, .int .u8 x, .pointer (some ⟨w.heap.size, 0, none⟩), undef, undef, .bool false, .slice a3 V.length cap3, .int .i64 0, .int .i64 k, .pointer (some ⟨w3.heap.size, 0, none⟩), undef, undef, undef, undef, undef, .agg #[.int .i64 c.g.cap, .int .i64 c.g.q, .int .i64 c.g.ar, .int .i64 c.g.ag, .int .u64 c.g.sd, .int .i64 c.g.t, .int .i64 c.g.tau, .slice c.a c.n c.c], .bool true, .bool false, .bool false, .pointer (some ⟨w.heap.size, 7, none⟩), .slice c.a c.n c.c, .int .i64 c.n, .bool false, .bool false, undef, .tuple #[.slice a3 V.length cap3, .int .i64 0], .agg #[.int .i64 c.g.cap, .int .i64 c.g.q, .int .i64 c.g.ar, .int .i64 c.g.ag, .int .u64 c.g.sd, .int .i64 c.g.t, .int .i64 c.g.tau, .slice c.a c.n c.c], .int .i64 t, .tuple #[.slice a3 V.length cap3, .int .i64 0], .slice a3 V.length cap3, .int .i64 0, .int .i64 0, .bool false, undef, undef, undef, undef, undef, undef, .int .u8 x, .int .i64 (wrap64 x), .pointer (some ⟨w.heap.size, 7, none⟩), .slice c.a c.n c.c, .int .i64 c.n, .int .i64 k, .agg #[.int .i64 c.g.cap, .int .i64 c.g.q, .int .i64 c.g.ar, .int .i64 c.g.ag, .int .u64 c.g.sd, .int .i64 c.g.t, .int .i64 c.g.tau, .slice c.a c.n c.c], v 0, v 1, v 2, v 3, v 4, v 5, v 6, v 7, v 8, v 9, v 10, v 11, v 12, undef, undef, undef, undef, undef, undef, undef, undef, undef, undef, undef, undef, undef, undef, undef, undef, undef, undef, undef, undef, undef, undef, undef, undef, undef, undef, undef, undef, undef, undef, undef, undef, undef, undef, undef, undef, undef, undef, undef, undef, undef, undef, undef, undef, undef, undef, undef, undef, undef, undef, undef, undef, undef, undef, undef], []⟩ ∧ InvO w W0 w3 w3.heap.size b off c.c c L k listed v wx) (by kernel_rfl) ?_ ?_ ?_
        · refine ⟨fun _ => undef, rfl, ⟨fun i hi => ?_, fun hi => ?_, fun hi => ?_, fun _ => below_drewN (Below.refl _ _) 1, fun _ hi => ?_, fun _ hi => ?_, fun _ hi => ?_, fun hi => ?_⟩⟩
          all_goals
            exfalso
            rw [Array.getElem?_replicate] at hi
            split at hi <;> simp at hi
        · rintro listed a wx i o hsz ho hli ha ⟨v, rfl, hI⟩
          have HV := Lib.hid hI
          have HSZ2 := Lib.hid (show listed.size = 14 from hsz)
          have hi : i < 14 := (List.getElem?_eq_some_iff.1 ho).1
          have h13 := hI.open13 hsz (by omega) hli
          clear hI hsz
          obtain rfl | rfl | rfl | rfl | rfl | rfl | rfl | rfl | rfl | rfl | rfl | rfl | rfl | rfl : i = 0 ∨ i = 1 ∨ i = 2 ∨ i = 3 ∨ i = 4 ∨ i = 5 ∨ i = 6 ∨ i = 7 ∨ i = 8 ∨ i = 9 ∨ i = 10 ∨ i = 11 ∨ i = 12 ∨ i = 13 := by omega
          · -- operation 0
            cases ho
            have hB0 := (HV.out.below h13).size
            refine wpOp_step rfl (fun K hK => ?_)
            go_simp
            exact hK _ _ ⟨updC v 0 _, rfl, HV.out.step HSZ2.out (by decide) (by decide) (by decide) hli ((Below.refl _ _).alloc (Nat.le_refl _) _) trivial (fun _ => World.ownsRow_made wx #[] 0 hB0 (Nat.zero_le _) rfl)⟩
          · -- operation 1
            cases ho
            refine wpOp_step rfl (fun K hK => ?_)
            go_simp
            exact hK _ _ ⟨updC v 1 _, rfl, HV.out.step HSZ2.out (by decide) (by decide) (by decide) hli (Below.refl _ _) rfl (fun h => absurd h (by decide))⟩
          · -- operation 2
            cases ho
            have h1 := HV.out.all 1 (dep_listed ha 1 (by kernel_rfl))
            replace h1 : v 1 = _ := h1
            have c7 : wx.cell? ⟨w.heap.size, 7, none⟩ = some (.slice (some ⟨b, off, none⟩) c.n c.c) := HC7.out wx (HV.out.below h13)
            refine wpOp_step rfl (fun K hK => ?_)
            go_simp
            exact hK _ _ ⟨updC v 2 _, by simp [updC, h1], HV.out.step HSZ2.out (by decide) (by decide) (by decide) hli (Below.refl _ _) rfl (fun h => absurd h (by decide))⟩
          · -- operation 3
            cases ho
            refine wpOp_step rfl (fun K hK => ?_)
            go_simp
            exact hK _ _ ⟨updC v 3 _, rfl, HV.out.step HSZ2.out (by decide) (by decide) (by decide) hli (Below.refl _ _) rfl (fun h => absurd h (by decide))⟩
          · -- operation 4
            cases ho
            have h2 := HV.out.all 2 (dep_listed ha 2 (by kernel_rfl))
            replace h2 : v 2 = _ := h2
            have h3 := HV.out.all 3 (dep_listed ha 3 (by kernel_rfl))
            replace h3 : v 3 = _ := h3
            have hk1 : k ≤ c.c := by have := HKN.out; have := HCAP.out; omega
            refine wpOp_step rfl (fun K hK => ?_)
            go_simp
            exact hK _ _ ⟨updC v 4 _, by simp [updC, h2, h3], HV.out.step HSZ2.out (by decide) (by decide) (by decide) hli (Below.refl _ _) rfl (fun h => absurd h (by decide))⟩
          · -- operation 5
            cases ho
            have h4 := HV.out.all 4 (dep_listed ha 4 (by kernel_rfl))
            replace h4 : v 4 = _ := h4
            have ho0 : OwnsC W0.heap.size (v 0) [] wx := HV.out.own0 h13 (dep_listed ha 0 (by kernel_rfl)) hli
            have hb0 := HV.out.below h13
            have hkl := HKN.out
            refine wpOp_step rfl (fun K hK => ?_)
            refine wp_append_own wx _ _ 54 rfl W0.heap.size 70 i0 (.agg zJ) 30 256 Tryz.underlying54 hi0 hz0 hz1 hz2 rfl (by decide) (v 0) 0 [] rfl ho0 ⟨b, off, none⟩ k c.c (cellsJ (L.take k)) h4 ?_ ?_ (cellsJ_one _) ?_ ?_ hb0.size ?_
            · rw [cellsJ_len, List.length_take, HLEN.out]; congr 1; omega
            · intro j u hj
              rw [Addr.add_lit]
              exact cellsJ_at (HJ.out.below hb0) rfl j u (cellsJ_take hj)
            · unfold maxLen; have := HCN.out; omega
            · have := HCN.out; omega
            · intro v' w' hown hgrow _
              refine hK _ _ ⟨updC v 5 v', rfl, HV.out.step5 HSZ2.out hli ((hb0.grown hgrow hb0.size (fun q hq => ho0.block q hq))) ?_⟩
              unfold OwnsC
              rw [List.length_take, HLEN.out, Nat.min_eq_left (by omega)]
              simpa using hown
          · -- operation 6
            cases ho
            refine wpOp_step rfl (fun K hK => ?_)
            go_simp
            exact hK _ _ ⟨updC v 6 _, rfl, HV.out.step HSZ2.out (by decide) (by decide) (by decide) hli (Below.refl _ _) rfl (fun h => absurd h (by decide))⟩
          · -- operation 7
            cases ho
            have h6 := HV.out.all 6 (dep_listed ha 6 (by kernel_rfl))
            replace h6 : v 6 = _ := h6
            have c7 : wx.cell? ⟨w.heap.size, 7, none⟩ = some (.slice (some ⟨b, off, none⟩) c.n c.c) := HC7.out wx (HV.out.below h13)
            refine wpOp_step rfl (fun K hK => ?_)
            go_simp
            exact hK _ _ ⟨updC v 7 _, by simp [updC, h6], HV.out.step HSZ2.out (by decide) (by decide) (by decide) hli (Below.refl _ _) rfl (fun h => absurd h (by decide))⟩
          · -- operation 8
            cases ho
            refine wpOp_step rfl (fun K hK => ?_)
            go_simp
            exact hK _ _ ⟨updC v 8 _, rfl, HV.out.step HSZ2.out (by decide) (by decide) (by decide) hli (Below.refl _ _) rfl (fun h => absurd h (by decide))⟩
          · -- operation 9
            cases ho
            have h8 := HV.out.all 8 (dep_listed ha 8 (by kernel_rfl))
            replace h8 : v 8 = _ := h8
            have hw1 : IntKind.i64.wrap ((k : Int) + 1) = (k : Int) + 1 := IntWalk.i64_in _ (by have := HKN.out; have := HCN.out; omega)
            refine wpOp_step rfl (fun K hK => ?_)
            go_simp
            exact hK _ _ ⟨updC v 9 _, by simp [updC, h8], HV.out.step HSZ2.out (by decide) (by decide) (by decide) hli (Below.refl _ _) rfl (fun h => absurd h (by decide))⟩
          · -- operation 10
            cases ho
            have h7 := HV.out.all 7 (dep_listed ha 7 (by kernel_rfl))
            replace h7 : v 7 = _ := h7
            have h9 := HV.out.all 9 (dep_listed ha 9 (by kernel_rfl))
            replace h9 : v 9 = _ := h9
            have hq1 : (0 : Int) ≤ (k : Int) + 1 := by omega
            have hq2 : (k : Int) + 1 ≤ (c.n : Int) := by have := HKN.out; omega
            refine wpOp_step rfl (fun K hK => ?_)
            go_simp
            exact hK _ _ ⟨updC v 10 (.slice (if c.c = k + 1 then some ⟨b, off, none⟩ else some ⟨b, off + (k + 1) * 30, none⟩) (c.n - (k + 1)) (c.c - (k + 1))), by simp [updC, h7, h9], HV.out.step HSZ2.out (by decide) (by decide) (by decide) hli (Below.refl _ _) (by
              have := HCAP.out
              by_cases hcc : c.c = k + 1
              · exact ⟨⟨b, off, none⟩, by rw [if_pos hcc], fun h => by omega⟩
              · exact ⟨_, by rw [if_neg hcc], fun _ => rfl⟩) (fun h => absurd h (by decide))⟩
          · -- operation 11
            cases ho
            obtain ⟨ad, h10, had⟩ : ∃ ad, v 10 = .slice (some ad) (c.n - (k + 1)) (c.c - (k + 1)) ∧ (0 < c.n - (k + 1) → ad = ⟨b, off + (k + 1) * 30, none⟩) := HV.out.all 10 (dep_listed ha 10 (by kernel_rfl))
            have ho5 : OwnsC W0.heap.size (v 5) (L.take k) wx := HV.out.own5 h13 (dep_listed ha 5 (by kernel_rfl)) hli
            have hb0 := HV.out.below h13
            have hkl := HKN.out
            have hlt : (L.take k).length = k := by rw [List.length_take, HLEN.out]; omega
            have hld : (L.drop (k + 1)).length = c.n - (k + 1) := by rw [List.length_drop, HLEN.out]
            have ho5' : wx.ownsRow W0.heap.size 70 30 (v 5) k (cellsJ (L.take k)) := by
              have h := ho5
              unfold OwnsC at h
              rw [hlt] at h
              exact h
            refine wpOp_step rfl (fun K hK => ?_)
            refine wp_append_own wx _ _ 54 rfl W0.heap.size 70 i0 (.agg zJ) 30 256 Tryz.underlying54 hi0 hz0 hz1 hz2 rfl (by decide) (v 5) k (cellsJ (L.take k)) rfl ho5' ad (c.n - (k + 1)) (c.c - (k + 1)) (cellsJ (L.drop (k + 1))) h10 ?_ ?_ (cellsJ_one _) ?_ ?_ hb0.size ?_
            · rw [cellsJ_len, hld]
            · intro j u hj
              have hjl := (List.getElem?_eq_some_iff.1 hj).1
              rw [cellsJ_len, hld] at hjl
              rw [had (by omega), Addr.add_lit, Nat.add_assoc]
              rw [cellsJ_drop (by rw [HLEN.out]; omega)] at hj
              exact cellsJ_at (HJ.out.below hb0) rfl _ u hj
            · unfold maxLen; have := HCN.out; omega
            · have := HCN.out; omega
            · intro v' w' hown hgrow _
              refine hK _ _ ⟨updC v 11 v', rfl, HV.out.step11 HSZ2.out (dep_listed ha 5 (by kernel_rfl)) hli ((hb0.grown hgrow hb0.size (fun q hq => ho5.block q hq))) ?_⟩
              unfold OwnsC
              rw [List.eraseIdx_eq_take_drop_succ, List.length_append, hlt, hld, cellsJ_append]
              exact hown
          · -- operation 12
            cases ho
            refine wpOp_step rfl (fun K hK => ?_)
            go_simp
            exact hK _ _ ⟨updC v 12 _, rfl, HV.out.step HSZ2.out (by decide) (by decide) (by decide) hli (Below.refl _ _) rfl (fun h => absurd h (by decide))⟩
          · -- operation 13
            cases ho
            have h12 := HV.out.all 12 (dep_listed ha 12 (by kernel_rfl))
            replace h12 : v 12 = _ := h12
            have ho11 : OwnsC W0.heap.size (v 11) (L.eraseIdx k) wx := HV.out.own11 h13 (dep_listed ha 11 (by kernel_rfl))
            have hb0 := HV.out.below h13
            obtain ⟨a', cap', h11, _, _⟩ := ho11.shape
            rw [h11] at ho11
            have hbx := HI0.out.box.below hb0 HI0.out.box.lt
            have hlw := HLW.out.below hb0 HLW.out.lt
            have hwl := HI.out.box.lt
            have hTl := HLW.out.lt
            have HO11 := Lib.hid ho11
            have HBX := Lib.hid hbx
            have HLW2 := Lib.hid hlw
            have HBW := Lib.hid (HB30.out.trans (hb0.mono HB30.out.size))
            have c7 : wx.cell? ⟨w3.heap.size, 7, none⟩ = some (.slice c.a c.n c.c) := hlw.cell 7
            have f7 : wx.frozen? ⟨w3.heap.size, 7, none⟩ = false := hlw.frozen 7
            clear ho11 hbx hlw hb0
            refine wpOp_step rfl (fun K hK => ?_)
            go_simp
            refine hK _ _ ⟨v, by simp [h11, h12], ⟨fun j hj => ?_, fun _ j hj => ?_, fun _ => ?_, fun hz => ?_, fun hz => ?_, fun hz => ?_, fun hz => ?_, fun _ => ⟨a', cap', HO11.out.far hTl _, HBX.out.far (by simp; omega) _, ?_, HBW.out.setCell (Nat.le_refl _) _⟩⟩⟩
            · by_cases e : j = 13
              · subst e; trivial
              · rw [set_ne e] at hj
                exact HV.out.all j hj
            · rw [set_ne (by omega)]
              obtain rfl | rfl | rfl | rfl | rfl | rfl | rfl | rfl | rfl | rfl | rfl | rfl | rfl : j = 0 ∨ j = 1 ∨ j = 2 ∨ j = 3 ∨ j = 4 ∨ j = 5 ∨ j = 6 ∨ j = 7 ∨ j = 8 ∨ j = 9 ∨ j = 10 ∨ j = 11 ∨ j = 12 := by omega
              all_goals exact dep_listed ha _ (by kernel_rfl)
            · rw [set_ne (by decide)]; exact dep_listed ha 5 (by kernel_rfl)
            · rw [set_eq hli] at hz; cases hz
            · rw [set_eq hli] at hz; cases hz
            · rw [set_eq hli] at hz; cases hz
            · rw [set_eq hli] at hz; cases hz
            · have := HLW2.out.set_ 7 (.slice a' (L.eraseIdx k).length cap')
              simpa [cfV] using this
        · rintro listed a wx hsz hr ⟨v, rfl, hI⟩
          obtain ⟨a', cap', ho, hbx, hbl, hb3⟩ := hI.fin (all_listedC hsz (by kernel_rfl) hr 13 (by decide))
          have hbw := HI.out.below.trans (hb3.mono HI.out.below.size)
          have hA : CArg wx c L := HFEW.out.arg (HIN.out.below hbw) (HT.out _ hbw).1 (HT.out _ hbw).2
          obtain ⟨a2, cap2, e, hA2⟩ := hA.erase (Below.refl _ _) ho
          injection e with e1 _ e3
          subst e1 e3
          have HOK2 := Lib.hid (HOK.out.1.erase k)
          obtain ⟨M, hM⟩ : ∃ M, dueA t (plansOf (L.eraseIdx k)) 0 = M := ⟨_, rfl⟩
          have HM : Hid (M = othK k V) := Lib.hid (by
            rw [HV2.out, oth_due t k (plansOf L) 0 (Nat.zero_le _) (by rw [plansOf_len, HLEN.out]; omega), Nat.sub_zero, ← plansOf_erase, hM])
          have HML : Hid (M.length ≤ 64) := Lib.hid (by
            have h1 := dueA_len t (plansOf (L.eraseIdx k)) 0
            rw [plansOf_len, hM] at h1
            have := HOK2.out.many
            omega)
          have HVL : Hid (V.length ≤ 64) := Lib.hid (by
            have h1 := dueA_len t (plansOf L) 0
            rw [plansOf_len, HLEN.out, ← HV2.out] at h1
            have := HCN.out
            omega)
          have HVB : Hid (∀ y ∈ V, y < 9223372036854775807) := Lib.hid (fun y hy => by
            rw [HV2.out] at hy
            have := dueA_lt t (plansOf L) 0 y hy
            rw [plansOf_len, HLEN.out] at this
            have := HCN.out
            omega)
          have CD2 := Lib.hid (fun W (h : CArg W ⟨c.g, a', (L.eraseIdx k).length, cap'⟩ (L.eraseIdx k)) => by
            have h := cdue_ok ⟨c.g, a', (L.eraseIdx k).length, cap'⟩ (L.eraseIdx k) t W h
            rw [show cdE (⟨c.g, a', (L.eraseIdx k).length, cap'⟩ : Cf).g (L.eraseIdx k) t = 0 by
              unfold cdE; rw [if_pos (cfE_zero.2 HOK2.out)]
              have h1 := HE.out
              unfold cdE at h1
              rw [if_pos (cfE_zero.2 HOK.out.1)] at h1
              exact h1, show cdV (⟨c.g, a', (L.eraseIdx k).length, cap'⟩ : Cf).g (L.eraseIdx k) t = M by
              unfold cdV cdE; rw [if_pos (cfE_zero.2 HOK2.out)]
              have h1 := HE.out
              unfold cdE at h1
              rw [if_pos (cfE_zero.2 HOK.out.1)] at h1
              rw [if_pos h1, hM], cfV_eq] at h
            exact h)
          have CK2 := Lib.hid (fun W (h : CArg W ⟨c.g, a', (L.eraseIdx k).length, cap'⟩ (L.eraseIdx k)) => by
            have h := ccheck_ok ⟨c.g, a', (L.eraseIdx k).length, cap'⟩ (L.eraseIdx k) W h
            rw [cfE_zero.2 HOK2.out, cfV_eq] at h
            exact h)
          have HA8 := Lib.hid hA2
          have HB8 := Lib.hid (show Blk wx w3.heap.size 56 _ from hbl)
          have HBW := Lib.hid hbw
          have H38 := Lib.hid (IntsAt.below H3.out hb3)
          have g0 : wx.cell? ⟨w3.heap.size, 0, none⟩ = some (.int .i64 c.g.cap) := hbl.cell 0
          have g1 : wx.cell? ⟨w3.heap.size, 1, none⟩ = some (.int .i64 c.g.q) := hbl.cell 1
          have g2 : wx.cell? ⟨w3.heap.size, 2, none⟩ = some (.int .i64 c.g.ar) := hbl.cell 2
          have g3 : wx.cell? ⟨w3.heap.size, 3, none⟩ = some (.int .i64 c.g.ag) := hbl.cell 3
          have g4 : wx.cell? ⟨w3.heap.size, 4, none⟩ = some (.int .u64 c.g.sd) := hbl.cell 4
          have g5 : wx.cell? ⟨w3.heap.size, 5, none⟩ = some (.int .i64 c.g.t) := hbl.cell 5
          have g6 : wx.cell? ⟨w3.heap.size, 6, none⟩ = some (.int .i64 c.g.tau) := hbl.cell 6
          have g7 : wx.cell? ⟨w3.heap.size, 7, none⟩ = some (.slice a' (L.eraseIdx k).length cap') := hbl.cell 7
          clear hI hr hsz ho hbx hbl hb3 hbw hA hA2 hM
          generalize (L.eraseIdx k).length = nl at *
          go_wp2_with fail
          refine (CD2.out _ HA8.out).mono ?_
          rintro e w9 ⟨vm, rfl, ho, hb⟩
          have HA9 := Lib.hid (HA8.out.below hb)
          have hb9 := HB8.out.below hb HB8.out.lt
          have HBW9 := Lib.hid (HBW.out.trans (hb.mono HBW.out.size))
          have H39 := Lib.hid (IntsAt.below H38.out hb)
          obtain ⟨am, capm, rfl, him⟩ := ho.shape
          have HM9 := Lib.hid him
          clear hb ho him g0 g1 g2 g3 g4 g5 g6 g7
          have g0 : w9.cell? ⟨w3.heap.size, 0, none⟩ = some (.int .i64 c.g.cap) := hb9.cell 0
          have g1 : w9.cell? ⟨w3.heap.size, 1, none⟩ = some (.int .i64 c.g.q) := hb9.cell 1
          have g2 : w9.cell? ⟨w3.heap.size, 2, none⟩ = some (.int .i64 c.g.ar) := hb9.cell 2
          have g3 : w9.cell? ⟨w3.heap.size, 3, none⟩ = some (.int .i64 c.g.ag) := hb9.cell 3
          have g4 : w9.cell? ⟨w3.heap.size, 4, none⟩ = some (.int .u64 c.g.sd) := hb9.cell 4
          have g5 : w9.cell? ⟨w3.heap.size, 5, none⟩ = some (.int .i64 c.g.t) := hb9.cell 5
          have g6 : w9.cell? ⟨w3.heap.size, 6, none⟩ = some (.int .i64 c.g.tau) := hb9.cell 6
          have g7 : w9.cell? ⟨w3.heap.size, 7, none⟩ = some (.slice a' nl cap') := hb9.cell 7
          clear hb9
          go_wp2_with fail
          refine (CK2.out _ HA9.out).mono ?_
          rintro e w10 ⟨rfl, hb⟩
          have HBW10 := Lib.hid (HBW9.out.trans (hb.mono HBW9.out.size))
          have H310 := Lib.hid (IntsAt.below H39.out hb)
          have HM10 := Lib.hid (IntsAt.below HM9.out hb)
          clear hb g0 g1 g2 g3 g4 g5 g6 g7
          go_wp2_with fail
          go_loopw [13, 14, 15] (fun s13 s14 _ wr => ∃ (at_ i : Nat), i ≤ V.length ∧ at_ ≤ M.length ∧ s13 = .int .i64 at_ ∧ s14 = .int .i64 i ∧ Below w.heap.size w wr ∧ IntsAt wr a3 V ∧ IntsAt wr am M ∧ M.drop at_ = othK k (V.drop i)) (fun _ s14 _ _ => V.length - intJ s14)
          case atStart => exact ⟨0, 0, Nat.zero_le _, Nat.zero_le _, rfl, rfl, HBW10.out, H310.out, HM10.out, HM.out⟩
          case round =>
            obtain ⟨at_, i, hi, hat, rfl, rfl, hbw, h3, hm, hd⟩ := hrel
            have HB := Lib.hid hbw
            have HV3 := Lib.hid h3
            have HVM := Lib.hid hm
            have HD := Lib.hid hd
            clear hbw h3 hm hd HBW10 H310 HM10 HM
            have hml := HML.out
            have hvl := HVL.out
            rcases Nat.lt_or_ge i V.length with hlt | hge
            · obtain ⟨b1, o1, hab1, hc1⟩ := HV3.out i hlt
              have hod := oth_drop (k := (k : Int)) hlt
              have hxb := HVB.out V[i] (List.getElem_mem hlt)
              have HOD := Lib.hid hod
              clear hod
              generalize V[i] = y at *
              have hw1 : k ≤ 9223372036854775807 := by have := HKN.out; have := HCN.out; omega
              subst hab1
              rcases Decidable.em (y = (k : Int)) with hyk | hyk
              · have d1 : (y == (k : Int)) = true := by rw [hyk]; simp
                have HE2 : Hid (M.drop at_ = othK k (V.drop (i + 1))) := Lib.hid (by rw [HD.out, HOD.out, if_pos hyk])
                clear hyk HOD HD
                go_wp2_with fail
                refine ⟨⟨at_, i + 1, by omega, hat, rfl, by go_num, HB.out, HV3.out, HVM.out, HE2.out⟩, ?_⟩
                simp [intJ]; omega
              · have d1 : (y == (k : Int)) = false := by rw [beq_eq_false_iff_ne]; exact hyk
                obtain ⟨hal, hget, hnext⟩ := drop_head (show M.drop at_ = (if (k : Int) < y then y - 1 else y) :: othK k (V.drop (i + 1)) by rw [HD.out, HOD.out, if_neg hyk])
                obtain ⟨b2, o2, hab2, hc2⟩ := HVM.out at_ hal
                have d5 : decide (M.length ≤ at_) = false := decide_eq_false (by omega)
                have d6 : decide ((M.length : Int) ≤ at_) = false := decide_eq_false (by omega)
                have HE2 := Lib.hid hnext
                rw [hget] at hc2
                clear hnext HOD HD hyk hget
                subst hab2
                by_cases hky : (k : Int) < y
                · rw [if_pos hky] at hc2
                  have d2 : decide ((k : Int) < y) = true := decide_eq_true hky
                  have hw2 : IntKind.i64.wrap (y - 1) = y - 1 := IntWalk.i64_in _ (by omega)
                  have d3 : (y - 1 != y - 1) = false := by simp
                  clear hky hxb
                  go_wp2_with fail
                  refine ⟨⟨at_ + 1, i + 1, by omega, by omega, by go_num, by go_num, HB.out, HV3.out, HVM.out, HE2.out⟩, ?_⟩
                  simp [intJ]; omega
                · rw [if_neg hky] at hc2
                  have d2 : decide ((k : Int) < y) = false := decide_eq_false hky
                  have d3 : (y != y) = false := by simp
                  clear hky hxb
                  go_wp2_with fail
                  refine ⟨⟨at_ + 1, i + 1, by omega, by omega, by go_num, by go_num, HB.out, HV3.out, HVM.out, HE2.out⟩, ?_⟩
                  simp [intJ]; omega
            · obtain rfl : V.length = i := by omega
              have hend : at_ = M.length := by
                have h := HD.out
                rw [List.drop_length, othK] at h
                have := List.drop_eq_nil_iff.1 h
                omega
              have d5 : ((at_ : Int) == (M.length : Int)) = true := by rw [hend]; simp
              clear hend HD
              go_wp2_with fail
              refine (CW.out _ HB.out).mono ?_
              rintro e w99 ⟨rfl, hb⟩
              have HB99 := Lib.hid (HB.out.trans (hb.mono HB.out.size))
              clear hb
              go_wp2_with fail
              go_ret
              exact ⟨rfl, HB99.out⟩
end Go.Proofs.YtmdjfjdlehdhjaaGreatDoor.BW
