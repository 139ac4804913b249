/- Walk of ConfigDues. Walks of ConfigChecks and ConfigCaps. -/
import Derived.Test.YtmdjfjdlehdhjaaGreatDoorCWk
namespace Go.Proofs.YtmdjfjdlehdhjaaGreatDoor.BW
open Go.RowKit BM Go.Shelf MC RK
open BK hiding ret_bool ret_i64

theorem cdV_len (g : Gl) (L : JL) (t : Int) : (cdV g L t).length ≤ L.length := by
  unfold cdV
  split
  · have := dueA_len t (plansOf L) 0; rw [plansOf_len] at this; exact this
  · exact Nat.zero_le _
theorem cnL_len (g : Gl) (L : JL) (t : Int) : (cnL g L t).length ≤ L.length := by
  unfold cnL cnS
  split
  · rename_i h
    obtain ⟨h1, h2⟩ := cd_zero h
    exact (nxA_ok (plans_ok h1) h2 L.length (by rw [plansOf_len]; exact Nat.le_refl _)).len
  · exact Nat.zero_le _
/-- A law's configuration in its box. -/
structure LwC (w : World) (c : Cf) (L : JL) (W : World) : Prop where
  box : Blk W w.heap.size 56 (cfV c)
  arg : CArg W c L
  below : Below w.heap.size w W
theorem LwC.next {w : World} {c : Cf} {L : JL} {X Y : World} (h : LwC w c L X) (hb : Below X.heap.size X Y) : LwC w c L Y := ⟨h.box.below hb h.box.lt, h.arg.below hb, h.below.trans (hb.mono h.below.size)⟩
theorem LwC.cells {w : World} {c : Cf} {L : JL} {W : World} (h : LwC w c L W) : W.cell? ⟨w.heap.size, 0, none⟩ = some (.int .i64 c.g.cap) ∧ W.cell? ⟨w.heap.size, 1, none⟩ = some (.int .i64 c.g.q) ∧ W.cell? ⟨w.heap.size, 2, none⟩ = some (.int .i64 c.g.ar) ∧ W.cell? ⟨w.heap.size, 3, none⟩ = some (.int .i64 c.g.ag) ∧ W.cell? ⟨w.heap.size, 4, none⟩ = some (.int .u64 c.g.sd) ∧ W.cell? ⟨w.heap.size, 5, none⟩ = some (.int .i64 c.g.t) ∧ W.cell? ⟨w.heap.size, 6, none⟩ = some (.int .i64 c.g.tau) ∧ W.cell? ⟨w.heap.size, 7, none⟩ = some (.slice c.a c.n c.c) :=
  ⟨h.box.cell 0, h.box.cell 1, h.box.cell 2, h.box.cell 3, h.box.cell 4, h.box.cell 5, h.box.cell 6, h.box.cell 7⟩
set_option maxRecDepth 8000 in
set_option maxHeartbeats 8000000 in
theorem lcdues_ok (c : Cf) (L : JL) (t : Int) (w : World) (hp : CIn w c L ∧ c.n ≤ 9223372036854775807) (hT : SpTab w) (hTab : Tab w) : Calls Tryz.prog 4 #[.agg (cfV c), .int .i64 t] w fun e w' => e = .returned (.bool true) ∧ Below w.heap.size w w' := by
  obtain ⟨hI, hn9⟩ := hp
  obtain ⟨W1, hW1⟩ : ∃ W1, W1 = w.alloc (.cells (cfV c) 56) := ⟨_, rfl⟩
  have hB : Below w.heap.size w W1 := by rw [hW1]; exact (Below.refl _ w).alloc (Nat.le_refl _) _
  have hx : Blk W1 w.heap.size 56 (cfV c) := by rw [hW1]; exact Blk.new w _ _
  have HT := Lib.hid (show ∀ W, Below w.heap.size w W → SpTab W ∧ Tab W from fun W hW => ⟨hT.below hW, tab_below hTab hW (tab_lt hTab)⟩)
  have CF := Lib.hid (few_ok c L W1 (hI.below hB) hn9)
  have HX := Lib.hid (And.intro hB hx)
  have HIN := Lib.hid hI
  have CW := Lib.hid (fun W (hW : Below w.heap.size w W) => cwk_ok W (HT.out W hW).1 (HT.out W hW).2)
  have CD := Lib.hid (fun W (h : CArg W c L) => cdue_ok c L t W h)
  have CR := Lib.hid (fun W (h : CArg W c L) => rdue_ok c L t W h)
  have CN := Lib.hid (fun W (h : CArg W c L) => cnext_ok c L t W h)
  have CM := Lib.hid (fun W (h : CArg W c L) => rcnext_ok c L t W h)
  have HL1 := Lib.hid (cdV_len c.g L t)
  have HL2 := Lib.hid (cnL_len c.g L t)
  generalize cdE c.g L t = E at *
  generalize cdV c.g L t = V at *
  generalize cnT c.g L t = NT at *
  generalize cnB c.g L t = NB at *
  generalize cnL c.g L t = NL at *
  have HW := Lib.hid hW1
  rw [hW1] at CF
  rw [cfV_eq] at CF CD CR CN CM ⊢
  clear hW1 hB hx hI hT hTab
  have q1 : (E == E) = true := by simp
  have q2 : (NT == NT) = true := by simp
  have q3 : (NB == NB) = true := by simp
  go_enter Tryz.func4, Tryz.ntmps4
  go_wp2_with fail
  refine (CF.out).mono ?_
  rintro e w2 (⟨rfl, hb⟩ | ⟨rfl, hf, hb⟩)
  · have hb : Below W1.heap.size W1 w2 := by rw [HW.out, cfV_eq]; exact hb
    have HB2 := Lib.hid (HX.out.1.trans (hb.mono HX.out.1.size))
    clear hb
    go_wp2_with fail
    refine (CW.out _ HB2.out).mono ?_
    rintro e w3 ⟨rfl, hb⟩
    have HB3 := Lib.hid (HB2.out.trans (hb.mono HB2.out.size))
    clear hb
    go_wp2_with fail
    go_ret
    exact ⟨rfl, HB3.out⟩
  · have hb : Below W1.heap.size W1 w2 := by rw [HW.out, cfV_eq]; exact hb
    have hb2 := HX.out.1.trans (hb.mono HX.out.1.size)
    have HI := Lib.hid (show LwC w c L w2 from ⟨HX.out.2.below hb HX.out.2.lt, hf.arg (HIN.out.below hb2) (HT.out _ hb2).1 (HT.out _ hb2).2, hb2⟩)
    have hl1 : V.length ≤ 200 := by have := HL1.out; have := HIN.out.n; have := hf.1; omega
    have hl2 : NL.length ≤ 200 := by have := HL2.out; have := HIN.out.n; have := hf.1; omega
    have HLL := Lib.hid (And.intro hl1 hl2)
    obtain ⟨c0, c1, c2, c3, c4, c5, c6, c7⟩ := HI.out.cells
    clear hb hb2 hf hl1 hl2
    go_wp2_with fail
    refine (CD.out _ HI.out.arg).mono ?_
    rintro e w3 ⟨v, rfl, ho, hb⟩
    have HI := Lib.hid (HI.out.next hb)
    obtain ⟨a3, cap3, rfl, hi3⟩ := ho.shape
    have H3 := Lib.hid hi3
    clear hb ho hi3 c0 c1 c2 c3 c4 c5 c6 c7
    obtain ⟨c0, c1, c2, c3, c4, c5, c6, c7⟩ := HI.out.cells
    go_wp2_with fail
    refine (CR.out _ HI.out.arg).mono ?_
    rintro e w4 ⟨v, rfl, ho, hb⟩
    have HI := Lib.hid (HI.out.next hb)
    have H3 := Lib.hid (IntsAt.below H3.out hb)
    obtain ⟨a4, cap4, rfl, hi4⟩ := ho.shape
    have H4 := Lib.hid hi4
    clear hb ho hi4 c0 c1 c2 c3 c4 c5 c6 c7
    obtain ⟨c0, c1, c2, c3, c4, c5, c6, c7⟩ := HI.out.cells
    go_wp2_with fail
    refine (CN.out _ HI.out.arg).mono ?_
    rintro e w5 ⟨v, rfl, ho, hb⟩
    have HI := Lib.hid (HI.out.next hb)
    have H3 := Lib.hid (IntsAt.below H3.out hb)
    have H4 := Lib.hid (IntsAt.below H4.out hb)
    obtain ⟨a5, cap5, rfl, hi5⟩ := ho.shape
    have H5 := Lib.hid hi5
    clear hb ho hi5 c0 c1 c2 c3 c4 c5 c6 c7
    obtain ⟨c0, c1, c2, c3, c4, c5, c6, c7⟩ := HI.out.cells
    go_wp2_with fail
    refine (CM.out _ HI.out.arg).mono ?_
    rintro e w6 ⟨v, rfl, ho, hb⟩
    have HI := Lib.hid (HI.out.next hb)
    have H3 := Lib.hid (IntsAt.below H3.out hb)
    have H4 := Lib.hid (IntsAt.below H4.out hb)
    have H5 := Lib.hid (IntsAt.below H5.out hb)
    obtain ⟨a6, cap6, rfl, hi6⟩ := ho.shape
    have H6 := Lib.hid hi6
    clear hb ho hi6 c0 c1 c2 c3 c4 c5 c6 c7
    have S1 := Lib.hid (ints16 a3 a4 V V.length cap3 cap4 rfl (by have := HLL.out.1; omega) w6 H3.out H4.out)
    have S2 := Lib.hid (fun W (hb : Below w6.heap.size w6 W) => ints16 a5 a6 NL NL.length cap5 cap6 rfl (by have := HLL.out.2; omega) W (IntsAt.below H5.out hb) (IntsAt.below H6.out hb))
    generalize V.length = vl at *
    generalize NL.length = nl at *
    go_wp2_with fail
    refine (S1.out).mono ?_
    rintro e w7 ⟨rfl, hb⟩
    have HB7 := Lib.hid hb
    have HI := Lib.hid (HI.out.next hb)
    clear hb
    go_wp2_with fail
    refine (S2.out _ HB7.out).mono ?_
    rintro e w8 ⟨rfl, hb⟩
    have HI := Lib.hid (HI.out.next hb)
    clear hb
    go_wp2_with fail
    refine (CW.out _ HI.out.below).mono ?_
    rintro e w9 ⟨rfl, hb⟩
    have HB9 := Lib.hid (HI.out.below.trans (hb.mono HI.out.below.size))
    clear hb
    go_wp2_with fail
    go_ret
    exact ⟨rfl, HB9.out⟩
end Go.Proofs.YtmdjfjdlehdhjaaGreatDoor.BW
namespace Go.Proofs.YtmdjfjdlehdhjaaGreatDoor.BW
open Go.RowKit BM Go.Shelf MC RK
open BK hiding ret_bool ret_i64

theorem cpL_len (L : JL) (E : Int) : (cpL L E).length ≤ L.length := by
  unfold cpL capsL
  split <;> simp
set_option maxRecDepth 8000 in
set_option maxHeartbeats 8000000 in
theorem lcchecks_ok (c : Cf) (L : JL) (w : World) (hp : CIn w c L ∧ c.n ≤ 9223372036854775807) (hT : SpTab w) (hTab : Tab w) : Calls Tryz.prog 7 #[.agg (cfV c)] w fun e w' => e = .returned (.bool true) ∧ Below w.heap.size w w' := by
  obtain ⟨hI, hn9⟩ := hp
  obtain ⟨W1, hW1⟩ : ∃ W1, W1 = w.alloc (.cells (cfV c) 56) := ⟨_, rfl⟩
  have hB : Below w.heap.size w W1 := by rw [hW1]; exact (Below.refl _ w).alloc (Nat.le_refl _) _
  have hx : Blk W1 w.heap.size 56 (cfV c) := by rw [hW1]; exact Blk.new w _ _
  have HT := Lib.hid (show ∀ W, Below w.heap.size w W → SpTab W ∧ Tab W from fun W hW => ⟨hT.below hW, tab_below hTab hW (tab_lt hTab)⟩)
  have CF := Lib.hid (few_ok c L W1 (hI.below hB) hn9)
  have HX := Lib.hid (And.intro hB hx)
  have HIN := Lib.hid hI
  have CW := Lib.hid (fun W (hW : Below w.heap.size w W) => cwk_ok W (HT.out W hW).1 (HT.out W hW).2)
  have CP := Lib.hid (fun W (h : CArg W c L) => ccaps_ok c L W h)
  have CQ := Lib.hid (fun W (h : CArg W c L) => rcaps_ok c L W h)
  have CK := Lib.hid (fun W (h : CArg W c L) => ccheck_ok c L W h)
  have CR := Lib.hid (fun W (h : CArg W c L) => rcchk_ok c L W h)
  have CG := Lib.hid (fun W => glob_ok c.g W)
  have CH := Lib.hid (fun W => rglob_ok c.g W)
  have HL1 := Lib.hid (cpL_len L (cfE c.g L))
  generalize cpC c.g (cfE c.g L) = PC at *
  generalize cpL L (cfE c.g L) = PL at *
  generalize cfE c.g L = E at *
  generalize eB (glB c.g) = EG at *
  have HW := Lib.hid hW1
  rw [hW1] at CF
  rw [cfV_eq] at CF CP CQ CK CR ⊢
  unfold glV at CG CH
  clear hW1 hB hx hI hT hTab
  have q1 : (E == E) = true := by simp
  have q2 : (PC == PC) = true := by simp
  have q3 : (EG == EG) = true := by simp
  go_enter Tryz.func7, Tryz.ntmps7
  go_wp2_with fail
  refine (CF.out).mono ?_
  rintro e w2 (⟨rfl, hb⟩ | ⟨rfl, hf, hb⟩)
  · have hb : Below W1.heap.size W1 w2 := by rw [HW.out, cfV_eq]; exact hb
    have HB2 := Lib.hid (HX.out.1.trans (hb.mono HX.out.1.size))
    clear hb
    go_wp2_with fail
    refine (CW.out _ HB2.out).mono ?_
    rintro e w3 ⟨rfl, hb⟩
    have HB3 := Lib.hid (HB2.out.trans (hb.mono HB2.out.size))
    clear hb
    go_wp2_with fail
    go_ret
    exact ⟨rfl, HB3.out⟩
  · have hb : Below W1.heap.size W1 w2 := by rw [HW.out, cfV_eq]; exact hb
    have hb2 := HX.out.1.trans (hb.mono HX.out.1.size)
    have HI := Lib.hid (show LwC w c L w2 from ⟨HX.out.2.below hb HX.out.2.lt, hf.arg (HIN.out.below hb2) (HT.out _ hb2).1 (HT.out _ hb2).2, hb2⟩)
    have HFEW := Lib.hid hf
    obtain ⟨c0, c1, c2, c3, c4, c5, c6, c7⟩ := HI.out.cells
    clear hb hb2 hf
    go_wp2_with fail
    refine (CP.out _ HI.out.arg).mono ?_
    rintro e w3 ⟨v, rfl, ho, hb⟩
    have HI := Lib.hid (HI.out.next hb)
    obtain ⟨a3, cap3, rfl, hi3⟩ := ho.shape
    have H3 := Lib.hid hi3
    clear hb ho hi3 c0 c1 c2 c3 c4 c5 c6 c7
    obtain ⟨c0, c1, c2, c3, c4, c5, c6, c7⟩ := HI.out.cells
    go_wp2_with fail
    refine (CQ.out _ HI.out.arg).mono ?_
    rintro e w4 ⟨v, rfl, ho, hb⟩
    have HI := Lib.hid (HI.out.next hb)
    have H3 := Lib.hid (IntsAt.below H3.out hb)
    obtain ⟨a4, cap4, rfl, hi4⟩ := ho.shape
    have H4 := Lib.hid hi4
    clear hb ho hi4 c0 c1 c2 c3 c4 c5 c6 c7
    have hl1 : PL.length ≤ 200 := by have := HL1.out; have := HIN.out.n; have := HFEW.out.1; omega
    have D1 := Lib.hid (fun d os => Calls.regrown_of (CK.out (Sort.grow (redrawn w4 d) os) (HI.out.arg.below (below_regrown w4 d os))))
    have D2 := Lib.hid (fun d os => Calls.regrown_of (CR.out (Sort.grow (redrawn w4 d) os) (HI.out.arg.below (below_regrown w4 d os))))
    have D3 := Lib.hid (fun d os => Calls.regrown_of (CG.out (Sort.grow (redrawn w4 d) os)))
    have D4 := Lib.hid (fun d os => Calls.regrown_of (CH.out (Sort.grow (redrawn w4 d) os)))
    have D5 := Lib.hid (fun d os => Calls.regrown_of (ints16 a3 a4 PL PL.length cap3 cap4 rfl (by omega) (Sort.grow (redrawn w4 d) os) (IntsAt.below H3.out (below_regrown w4 d os)) (IntsAt.below H4.out (below_regrown w4 d os))))
    have D6 := Lib.hid (fun d os => Calls.regrown_of (CW.out (Sort.grow (redrawn w4 d) os) (HI.out.below.trans ((below_regrown w4 d os).mono HI.out.below.size))))
    obtain ⟨d0, d1, d2, d3, d4, d5, d6, d7⟩ := HI.out.cells
    have c0 := cell_regrown (show w4.cell? ⟨w.heap.size, 0, none⟩ = some (.int .i64 c.g.cap) from d0)
    have c1 := cell_regrown (show w4.cell? ⟨w.heap.size, 1, none⟩ = some (.int .i64 c.g.q) from d1)
    have c2 := cell_regrown (show w4.cell? ⟨w.heap.size, 2, none⟩ = some (.int .i64 c.g.ar) from d2)
    have c3 := cell_regrown (show w4.cell? ⟨w.heap.size, 3, none⟩ = some (.int .i64 c.g.ag) from d3)
    have c4 := cell_regrown (show w4.cell? ⟨w.heap.size, 4, none⟩ = some (.int .u64 c.g.sd) from d4)
    have c5 := cell_regrown (show w4.cell? ⟨w.heap.size, 5, none⟩ = some (.int .i64 c.g.t) from d5)
    have c6 := cell_regrown (show w4.cell? ⟨w.heap.size, 6, none⟩ = some (.int .i64 c.g.tau) from d6)
    have c7 := cell_regrown (show w4.cell? ⟨w.heap.size, 7, none⟩ = some (.slice c.a c.n c.c) from d7)
    generalize PL.length = pl at *
    clear d0 d1 d2 d3 d4 d5 d6 d7 CP CQ CK CR CG CH CW hl1
    go_wp2_with fail
    refine wp_region_quiet_below (by kernel_rfl) (by kernel_rfl) ?_
    repeat (go_big_quiet_step (fail))
    go_big_quiet_step ((go_at_call 29; exact D1.out _ _))
    repeat (go_big_quiet_step (fail))
    go_big_quiet_step ((go_at_call 32; exact D2.out _ _))
    repeat (go_big_quiet_step (fail))
    go_big_quiet_step ((go_at_call 33; exact D3.out _ _))
    repeat (go_big_quiet_step (fail))
    go_big_quiet_step ((go_at_call 34; exact D4.out _ _))
    repeat (go_big_quiet_step (fail))
    go_big_quiet_step ((go_at_call 28; exact D5.out _ _))
    repeat (go_big_quiet_step (fail))
    go_big_quiet_step ((go_at_call 23; exact D6.out _ _))
    repeat (go_big_quiet_step (fail))
    refine wpQuiet_nil ?_
    intro _ hw'
    obtain ⟨⟨dq, osq⟩, hw''⟩ := hw'
    subst hw''
    have HB5 := Lib.hid (HI.out.below.trans ((below_regrown w4 dq osq).mono HI.out.below.size))
    clear c0 c1 c2 c3 c4 c5 c6 c7
    generalize Sort.grow (redrawn w4 dq) osq = w5 at *
    go_wp2_with fail
    go_ret
    exact ⟨rfl, HB5.out⟩
set_option maxRecDepth 8000 in
set_option maxHeartbeats 8000000 in
theorem lccaps_ok (c : Cf) (L : JL) (w : World) (hp : CIn w c L ∧ c.n ≤ 9223372036854775807) (hT : SpTab w) (hTab : Tab w) : Calls Tryz.prog 8 #[.agg (cfV c)] w fun e w' => e = .returned (.bool true) ∧ Below w.heap.size w w' := by
  obtain ⟨hI, hn9⟩ := hp
  obtain ⟨W1, hW1⟩ : ∃ W1, W1 = w.alloc (.cells (cfV c) 56) := ⟨_, rfl⟩
  have hB : Below w.heap.size w W1 := by rw [hW1]; exact (Below.refl _ w).alloc (Nat.le_refl _) _
  have hx : Blk W1 w.heap.size 56 (cfV c) := by rw [hW1]; exact Blk.new w _ _
  have HT := Lib.hid (show ∀ W, Below w.heap.size w W → SpTab W ∧ Tab W from fun W hW => ⟨hT.below hW, tab_below hTab hW (tab_lt hTab)⟩)
  have CF := Lib.hid (few_ok c L W1 (hI.below hB) hn9)
  have HX := Lib.hid (And.intro hB hx)
  have HIN := Lib.hid hI
  have CW := Lib.hid (fun W (hW : Below w.heap.size w W) => cwk_ok W (HT.out W hW).1 (HT.out W hW).2)
  have CP := Lib.hid (fun W (h : CArg W c L) => ccaps_ok c L W h)
  have CK := Lib.hid (fun W (h : CArg W c L) => ccheck_ok c L W h)
  have HZ := Lib.hid (fun (h : cfE c.g L = 0) => cfE_zero.1 h)
  have HC : Hid (cpC c.g (cfE c.g L) = if cfE c.g L = 0 then c.g.cap else 0) := Lib.hid rfl
  have HL : Hid (cpL L (cfE c.g L) = if cfE c.g L = 0 then capsL L else []) := Lib.hid rfl
  generalize cpC c.g (cfE c.g L) = PC at *
  generalize cpL L (cfE c.g L) = PL at *
  generalize cfE c.g L = E at *
  have HW := Lib.hid hW1
  rw [hW1] at CF
  rw [cfV_eq] at CF CP CK ⊢
  clear hW1 hB hx hI hT hTab
  go_enter Tryz.func8, Tryz.ntmps8
  go_wp2_with fail
  refine (CF.out).mono ?_
  rintro e w2 (⟨rfl, hb⟩ | ⟨rfl, hf, hb⟩)
  · have hb : Below W1.heap.size W1 w2 := by rw [HW.out, cfV_eq]; exact hb
    have HB2 := Lib.hid (HX.out.1.trans (hb.mono HX.out.1.size))
    clear hb
    go_wp2_with fail
    refine (CW.out _ HB2.out).mono ?_
    rintro e w3 ⟨rfl, hb⟩
    have HB3 := Lib.hid (HB2.out.trans (hb.mono HB2.out.size))
    clear hb
    go_wp2_with fail
    go_ret
    exact ⟨rfl, HB3.out⟩
  · have hb : Below W1.heap.size W1 w2 := by rw [HW.out, cfV_eq]; exact hb
    have hb2 := HX.out.1.trans (hb.mono HX.out.1.size)
    have HI := Lib.hid (show LwC w c L w2 from ⟨HX.out.2.below hb HX.out.2.lt, hf.arg (HIN.out.below hb2) (HT.out _ hb2).1 (HT.out _ hb2).2, hb2⟩)
    have HFEW := Lib.hid hf
    obtain ⟨c0, c1, c2, c3, c4, c5, c6, c7⟩ := HI.out.cells
    clear hb hb2 hf
    by_cases hE : E = 0
    · subst hE
      have HO := Lib.hid (HZ.out rfl)
      obtain rfl : PC = c.g.cap := by rw [HC.out, if_pos rfl]
      obtain rfl : PL = capsL L := by rw [HL.out, if_pos rfl]
      have HCL : Hid ((capsL L).length = c.n) := Lib.hid (by unfold capsL; rw [List.length_map]; exact HIN.out.n)
      have q2 : (c.g.cap == c.g.cap) = true := by simp
      have q3 : (c.g.cap != c.g.cap) = false := by simp
      have q4 : (c.n == c.n) = true := by simp
      clear HZ HC HL
      go_wp2_with fail
      refine (CP.out _ HI.out.arg).mono ?_
      rintro e w3 ⟨v, rfl, ho, hb⟩
      have HI := Lib.hid (HI.out.next hb)
      obtain ⟨a3, cap3, rfl, hi3⟩ := ho.shape
      have H3 := Lib.hid hi3
      rw [HCL.out]
      clear hb ho hi3 c0 c1 c2 c3 c4 c5 c6 c7 CP CK
      obtain ⟨c0, c1, c2, c3, c4, c5, c6, c7⟩ := HI.out.cells
      go_wp2_with fail
      go_loopw [6] (fun s6 wr => ∃ k : Nat, k ≤ c.n ∧ s6 = .int .i64 k ∧ LwC w c L wr ∧ IntsAt wr a3 (capsL L)) (fun s6 _ => c.n - intJ s6)
      case atStart => exact ⟨0, Nat.zero_le _, rfl, HI.out, H3.out⟩
      case round =>
        clear HI H3 c0 c1 c2 c3 c4 c5 c6 c7
        obtain ⟨k, hk, rfl, hi, h3⟩ := hrel
        have HI := Lib.hid hi
        have H3 := Lib.hid h3
        clear hi h3
        rcases Nat.lt_or_ge k c.n with hlt | hge
        · have hkl : k < L.length := by have := HIN.out.n; omega
          obtain ⟨b, off, ha, hcl, -⟩ := HI.out.arg.in_.at_ k hkl
          have hkc : k < (capsL L).length := by rw [HCL.out]; exact hlt
          obtain ⟨b3, o3, ha3, h3⟩ := H3.out k hkc
          have hx : (capsL L)[k] = L[k].1.y.cap := by simp [capsL]
          rw [hx] at h3
          have c15 := cell_regrown (show wr.cell? ⟨b, off + k * 30 + 15, none⟩ = some (.int .i64 L[k].1.y.cap) from hcl 15 (by decide))
          have c3 := cell_regrown h3
          have k7 := cell_regrown (show wr.cell? ⟨w.heap.size, 7, none⟩ = some (.slice (some ⟨b, off, none⟩) c.n c.c) from by rw [← ha]; exact HI.out.box.cell 7)
          have hok := HO.out.all k hkl
          have hin : inB L[k].1.y.cap 1 1000 = true := by
            unfold okJ poB flB at hok
            simp only [Bool.and_eq_true] at hok
            exact hok.2.1.1
          unfold inB at hin
          simp only [Bool.and_eq_true, decide_eq_true_eq] at hin
          obtain ⟨hin1, hin2⟩ := hin
          clear hcl h3 hx hok ha
          generalize L[k].1.y.cap = cp at *
          clear hkc hkl
          have d1 : (cp != cp) = false := by simp
          have d2 : decide (cp < 1) = false := decide_eq_false (by omega)
          have d3 : decide (1000 < cp) = false := decide_eq_false (by omega)
          clear hin1 hin2
          subst ha3
          go_wp2_with fail
          refine wp_region_quiet_below (by kernel_rfl) (by kernel_rfl) ?_
          repeat (go_big_quiet_step (fail))
          refine wpQuiet_nil ?_
          intro _ hw'
          obtain ⟨⟨dq, osq⟩, hw''⟩ := hw'
          subst hw''
          have hbr := below_regrown wr dq osq
          have HI2 := Lib.hid (HI.out.next hbr)
          have H32 := Lib.hid (IntsAt.below H3.out hbr)
          clear hbr c15 c3 k7
          generalize Sort.grow (redrawn wr dq) osq = wq at *
          go_wp2_with fail
          refine ⟨⟨k + 1, by omega, by go_num, HI2.out, H32.out⟩, ?_⟩
          simp [intJ]; omega
        · have hkn : k = c.n := by omega
          subst hkn
          go_wp2_with fail
          refine (CW.out _ HI.out.below).mono ?_
          rintro e w9 ⟨rfl, hb⟩
          have HB9 := Lib.hid (HI.out.below.trans (hb.mono HI.out.below.size))
          clear hb
          go_wp2_with fail
          go_ret
          exact ⟨rfl, HB9.out⟩
    · obtain rfl : PC = 0 := by rw [HC.out, if_neg hE]
      obtain rfl : PL = [] := by rw [HL.out, if_neg hE]
      have h1 : (E == 0) = false := by rw [beq_eq_false_iff_ne]; exact hE
      have h2 : (E != 0) = true := by rw [bne, h1]; rfl
      have h3 : decide (E = 0) = false := decide_eq_false hE
      have h4 : (E == E) = true := by simp
      clear HZ HC HL hE
      go_wp2_with fail
      refine (CP.out _ HI.out.arg).mono ?_
      rintro e w3 ⟨v, rfl, ho, hb⟩
      have HI := Lib.hid (HI.out.next hb)
      obtain ⟨a3, cap3, rfl, hi3⟩ := ho.shape
      clear hb ho hi3 c0 c1 c2 c3 c4 c5 c6 c7
      obtain ⟨c0, c1, c2, c3, c4, c5, c6, c7⟩ := HI.out.cells
      go_wp2_with fail
      refine (CK.out _ HI.out.arg).mono ?_
      rintro e w4 ⟨rfl, hb⟩
      have HI := Lib.hid (HI.out.next hb)
      clear hb c0 c1 c2 c3 c4 c5 c6 c7
      go_wp2_with fail
      refine (CW.out _ HI.out.below).mono ?_
      rintro e w9 ⟨rfl, hb⟩
      have HB9 := Lib.hid (HI.out.below.trans (hb.mono HI.out.below.size))
      clear hb
      go_wp2_with fail
      go_ret
      exact ⟨rfl, HB9.out⟩
end Go.Proofs.YtmdjfjdlehdhjaaGreatDoor.BW
