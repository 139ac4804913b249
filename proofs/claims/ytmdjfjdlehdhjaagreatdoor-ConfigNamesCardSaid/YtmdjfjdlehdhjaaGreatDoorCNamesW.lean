/- A copy of a configuration: what holds of it. Walk of ConfigNames. -/
import Derived.Test.YtmdjfjdlehdhjaaGreatDoorCCopy
import Derived.Test.YtmdjfjdlehdhjaaGreatDoorCWk
namespace Go.Proofs.YtmdjfjdlehdhjaaGreatDoor.BW
open Go.RowKit BM Go.Shelf MC RK
open BK hiding ret_bool ret_i64

/-- The same jobs, with other memory. -/
structure SameJ (L L' : JL) : Prop where
  len : L'.length = L.length
  at_ : ∀ k (hk : k < L.length) (hk' : k < L'.length), ∃ a c, L'[k] = (L[k].1.withS a c, L[k].2)
theorem CopyC.same {B : Nat} {W : World} {a : Option Addr} {L L' : JL} (h : CopyC B W a L L') : SameJ L L' := ⟨h.len, fun k hk hk' => by
  obtain ⟨g, _, _, _, h4⟩ := h.at_ (by omega)
  obtain ⟨a', c', h5, _⟩ := h4 k L[k].1 L[k].2 (List.getElem?_eq_getElem hk)
  rw [List.getElem?_eq_getElem hk'] at h5
  injection h5 with h5
  exact ⟨a', c', h5⟩⟩
theorem plE_withS (p : Pl) (a : Option Addr) (c : Nat) (l : List (Int × Int)) : plE (p.withS a c) l = plE p l := rfl
theorem SameJ.ok {L L' : JL} (h : SameJ L L') {g : Gl} (ho : CfOk g L) : CfOk g L' := by
  have hl := h.len
  refine ⟨ho.gl, by have := ho.many; omega, fun k hk => ?_, fun i hi k hk hi' hki => ?_, fun k hk => ?_⟩
  · obtain ⟨a, c, e⟩ := h.at_ k (by omega) hk
    rw [e]; exact ho.nms k (by omega)
  · obtain ⟨a, c, e⟩ := h.at_ k (by omega) hk
    obtain ⟨a2, c2, e2⟩ := h.at_ i (by omega) hi'
    rw [e, e2]; exact ho.new i (by omega) k (by omega) (by omega) hki
  · obtain ⟨a, c, e⟩ := h.at_ k (by omega) hk
    rw [e]
    have := ho.all k (by omega)
    unfold okJ at this ⊢
    exact this
theorem poEq_self (x : Po) : poEq x x = true := by simp [poEq]
theorem glEq_self (x : Gl) : glEq x x = true := by simp [glEq]
theorem jbEq_with (x : Jb) (a : Option Addr) (c : Nat) (l : List (Int × Int)) : jbEq (x, l) (x.withS a c, l) = true := by
  unfold jbEq
  rw [show sEq (x, l).1.nm (x.withS a c, l).1.nm = true from sEq_iff.2 rfl, show poEq (x, l).1.y (x.withS a c, l).1.y = true from poEq_self x.y]
  exact eqP_with x.p a c l
theorem jbEq_with' (x : Jb) (a : Option Addr) (c : Nat) (l : List (Int × Int)) : jbEq (x.withS a c, l) (x, l) = true := by
  unfold jbEq
  rw [show sEq (x.withS a c, l).1.nm (x, l).1.nm = true from sEq_iff.2 rfl, show poEq (x.withS a c, l).1.y (x, l).1.y = true from poEq_self x.y]
  have := eqP_with x.p a c l
  simp only [eqP, Bool.and_eq_true, beq_iff_eq, decide_eq_true_eq, Pl.withS] at this ⊢
  simp [Jb.withS, Pl.withS, xeq, eeq]
theorem SameJ.eq {L L' : JL} (h : SameJ L L') : jsEq L L' = true := jsEq_yes h.len.symm (fun k hk => by
  have hk' : k < L'.length := by rw [h.len]; exact hk
  obtain ⟨a, c, e⟩ := h.at_ k hk hk'
  rw [pairB_at (x := L[k].1) (l := L[k].2) (y := L[k].1.withS a c) (m := L[k].2) (List.getElem?_eq_getElem hk) (by rw [List.getElem?_eq_getElem hk', e])]
  exact jbEq_with _ _ _ _)
theorem SameJ.eq' {L L' : JL} (h : SameJ L L') : jsEq L' L = true := jsEq_yes h.len (fun k hk' => by
  have hk : k < L.length := by rw [← h.len]; exact hk'
  obtain ⟨a, c, e⟩ := h.at_ k hk hk'
  rw [pairB_at (x := L[k].1.withS a c) (l := L[k].2) (y := L[k].1) (m := L[k].2) (by rw [List.getElem?_eq_getElem hk', e]) (List.getElem?_eq_getElem hk)]
  exact jbEq_with' _ _ _ _)
theorem CopyC.jobs {B : Nat} {W : World} {a : Option Addr} {L L' : JL} (h : CopyC B W a L L') (hp : ∀ k (hk : k < L.length), U64s L[k].1.p.x ∧ L[k].2.length = L[k].1.p.n) : JobsAt W a L' := fun k hk' => by
  have hk : k < L.length := by rw [← h.len]; exact hk'
  obtain ⟨g, h1, _, h3, h4⟩ := h.at_ (by omega)
  obtain ⟨a', c', h5, h6⟩ := h4 k L[k].1 L[k].2 (List.getElem?_eq_getElem hk)
  rw [List.getElem?_eq_getElem hk'] at h5
  injection h5 with h5
  refine ⟨g, 0, h1, fun i hi => by rw [Nat.zero_add]; exact (h3 k hk' i hi).1, ?_⟩
  rw [h5]
  obtain ⟨ad, cap, e, hs⟩ := h6.shape
  injection e with e1 _ _
  subst e1
  exact ⟨(hp k hk).1, (hp k hk).2, hs⟩
/-- A copy may be asked all that the configuration may. -/
theorem CArg.copy {B : Nat} {W : World} {c : Cf} {a : Option Addr} {cap : Nat} {L L' : JL} (hA : CArg W c L) (h : CopyC B W a L L') : CArg W ⟨c.g, a, c.n, cap⟩ L' :=
  ⟨⟨h.len.trans hA.in_.n, h.jobs (fun k hk => by obtain ⟨_, _, _, _, hp⟩ := hA.in_.at_ k hk; exact ⟨hp.x, hp.n⟩), hA.in_.sd⟩, hA.n9, fun k hk' => by
    have hk : k < L.length := by rw [← h.len]; exact hk'
    obtain ⟨a', c', e⟩ := h.same.at_ k hk hk'
    rw [e]; exact hA.p9 k hk, hA.st, hA.tab⟩
theorem CArg.eqa {W : World} {c : Cf} {L : JL} (h : CArg W c L) : EqA W c.a c.n L := ⟨h.in_.n, h.in_.at_, h.p9⟩
theorem fdX_step {L : JL} {s : ByteArray} {k : Nat} (hk : k < L.length) : decide (fdX L s < k + 1) = (decide (fdX L s < k) || sEq L[k].1.nm s) := by
  by_cases h : fdX L s < k
  · rw [decide_eq_true h, decide_eq_true (by omega)]; rfl
  · rw [decide_eq_false h, Bool.false_or]
    by_cases hs : sEq L[k].1.nm s = true
    · rw [hs]
      have : fdX L s ≤ k := by
        rcases Nat.lt_or_ge k (fdX L s) with h' | h'
        · have := List.not_of_lt_findIdx (p := fun x : Jb × List (Int × Int) => sEq x.1.nm s) (xs := L) h'
          rw [hs] at this; simp at this
        · exact h'
      exact decide_eq_true (by omega)
    · rw [Bool.not_eq_true] at hs
      rw [hs]
      refine decide_eq_false (fun h' => ?_)
      have e : fdX L s = k := by omega
      have hlt : fdX L s < L.length := by omega
      have := List.findIdx_getElem (p := fun x : Jb × List (Int × Int) => sEq x.1.nm s) (xs := L) (w := hlt)
      have e2 : L[L.findIdx fun x => sEq x.1.nm s] = L[k] := by congr 1
      rw [e2] at this
      rw [hs] at this
      cases this
theorem fd_self {g : Gl} {L : JL} (h : CfOk g L) {k : Nat} (hk : k < L.length) : fdI L L[k].1.nm = k ∧ fdB L L[k].1.nm = true := by
  have e : fdX L L[k].1.nm = k := fdX_at hk (sEq_iff.2 rfl) (fun i hi hik => by
    rw [← Bool.not_eq_true]
    intro hh
    exact h.new k hk i hi hk hik (sEq_iff.1 hh))
  unfold fdI fdB
  rw [e, if_pos hk]
  exact ⟨rfl, decide_eq_true hk⟩
/-- A law's configuration in its box. -/
structure LwC (w : World) (c : Cf) (L : JL) (W : World) : Prop where
  box : Blk W w.heap.size 56 (cfV c)
  arg : CArg W c L
  below : Below w.heap.size w W
theorem LwC.next {w : World} {c : Cf} {L : JL} {X Y : World} (h : LwC w c L X) (hb : Below X.heap.size X Y) : LwC w c L Y := ⟨h.box.below hb h.box.lt, h.arg.below hb, h.below.trans (hb.mono h.below.size)⟩
theorem LwC.cells {w : World} {c : Cf} {L : JL} {W : World} (h : LwC w c L W) : W.cell? ⟨w.heap.size, 0, none⟩ = some (.int .i64 c.g.cap) ∧ W.cell? ⟨w.heap.size, 1, none⟩ = some (.int .i64 c.g.q) ∧ W.cell? ⟨w.heap.size, 2, none⟩ = some (.int .i64 c.g.ar) ∧ W.cell? ⟨w.heap.size, 3, none⟩ = some (.int .i64 c.g.ag) ∧ W.cell? ⟨w.heap.size, 4, none⟩ = some (.int .u64 c.g.sd) ∧ W.cell? ⟨w.heap.size, 5, none⟩ = some (.int .i64 c.g.t) ∧ W.cell? ⟨w.heap.size, 6, none⟩ = some (.int .i64 c.g.tau) ∧ W.cell? ⟨w.heap.size, 7, none⟩ = some (.slice c.a c.n c.c) :=
  ⟨h.box.cell 0, h.box.cell 1, h.box.cell 2, h.box.cell 3, h.box.cell 4, h.box.cell 5, h.box.cell 6, h.box.cell 7⟩
set_option maxRecDepth 8000 in
set_option maxHeartbeats 8000000 in
theorem lcnames_ok (c : Cf) (L : JL) (s : ByteArray) (_hs : s.size ≤ maxLen) (w : World) (hp : CIn w c L ∧ c.n ≤ 9223372036854775807) (hT : SpTab w) (hTab : Tab w) : Calls Tryz.prog 12 #[.agg (cfV c), .string s] w fun e w' => e = .returned (.bool true) ∧ Below w.heap.size w w' := by
  obtain ⟨hI, hn9⟩ := hp
  obtain ⟨W1, hW1⟩ : ∃ W1, W1 = w.alloc (.cells (cfV c) 56) := ⟨_, rfl⟩
  have hB : Below w.heap.size w W1 := by rw [hW1]; exact (Below.refl _ w).alloc (Nat.le_refl _) _
  have hx : Blk W1 w.heap.size 56 (cfV c) := by rw [hW1]; exact Blk.new w _ _
  have HT := Lib.hid (show ∀ W, Below w.heap.size w W → SpTab W ∧ Tab W from fun W hW => ⟨hT.below hW, tab_below hTab hW (tab_lt hTab)⟩)
  have CF := Lib.hid (few_ok c L W1 (hI.below hB) hn9)
  have HX := Lib.hid (And.intro hB hx)
  have HIN := Lib.hid hI
  have CW := Lib.hid (fun W (hW : Below w.heap.size w W) => cwk_ok W (HT.out W hW).1 (HT.out W hW).2)
  have CK := Lib.hid (fun W (h : CArg W c L) => ccheck_ok c L W h)
  have CFD := Lib.hid (fun W s' (h : CArg W c L) => cfind_ok c L s' W h.in_.n h.n9 h.in_.at_)
  have CCP := Lib.hid (fun W (h : CArg W c L) => ccopy_ok c L W h.eqa h.n9)
  generalize hE : cfE c.g L = E at *
  have HE := Lib.hid hE
  have HW := Lib.hid hW1
  rw [hW1] at CF
  rw [cfV_eq] at CF CK CFD CCP ⊢
  clear hE hW1 hB hx hI hT hTab
  go_enter Tryz.func12, Tryz.ntmps12
  go_wp2_with fail
  refine (CF.out).mono ?_
  rintro e w2 (⟨rfl, hb⟩ | ⟨rfl, hf, hb⟩)
  · have hb : Below W1.heap.size W1 w2 := by rw [HW.out, cfV_eq]; exact hb
    have HB2 := Lib.hid (HX.out.1.trans (hb.mono HX.out.1.size))
    clear hb
    go_wp2_with fail
    refine (CW.out _ HB2.out).mono ?_
    rintro e w3 ⟨rfl, hb⟩
    have HB3 := Lib.hid (HB2.out.trans (hb.mono HB2.out.size))
    clear hb
    go_wp2_with fail
    go_ret
    exact ⟨rfl, HB3.out⟩
  · have hb : Below W1.heap.size W1 w2 := by rw [HW.out, cfV_eq]; exact hb
    have hb2 := HX.out.1.trans (hb.mono HX.out.1.size)
    have HI := Lib.hid (show LwC w c L w2 from ⟨HX.out.2.below hb HX.out.2.lt, hf.arg (HIN.out.below hb2) (HT.out _ hb2).1 (HT.out _ hb2).2, hb2⟩)
    have HFEW := Lib.hid hf
    obtain ⟨c0, c1, c2, c3, c4, c5, c6, c7⟩ := HI.out.cells
    clear hb hb2 hf
    go_wp2_with fail
    refine (CK.out _ HI.out.arg).mono ?_
    rintro e w3 ⟨rfl, hb⟩
    have HI := Lib.hid (HI.out.next hb)
    clear hb c0 c1 c2 c3 c4 c5 c6 c7
    obtain ⟨c0, c1, c2, c3, c4, c5, c6, c7⟩ := HI.out.cells
    rcases Decidable.em (E = 0) with hE0 | hne
    rotate_left
    · have q1 : (E != 0) = true := by simpa [bne_iff_ne] using hne
      clear hne
      go_wp2_with fail
      refine (CW.out _ HI.out.below).mono ?_
      rintro e w99 ⟨rfl, hb⟩
      have HB99 := Lib.hid (HI.out.below.trans (hb.mono HI.out.below.size))
      clear hb
      go_wp2_with fail
      go_ret
      exact ⟨rfl, HB99.out⟩
    · subst hE0
      have HOK := Lib.hid (cfE_zero.1 HE.out)
      clear HE CK
      go_wp2_with fail
      go_loopw [5, 6, 7, 8] (fun s5 s6 _ _ wr => ∃ k : Nat, k ≤ c.n ∧ s6 = .int .i64 k ∧ s5 = .bool (decide (fdX L s < k)) ∧ LwC w c L wr) (fun _ s6 _ _ _ => c.n - intJ s6)
      case atStart => exact ⟨0, Nat.zero_le _, rfl, by rw [decide_eq_false (Nat.not_lt_zero _)], HI.out⟩
      case round =>
        clear HI c0 c1 c2 c3 c4 c5 c6 c7
        obtain ⟨k, hk, rfl, rfl, hI⟩ := hrel
        have HI := Lib.hid hI
        clear hI
        rcases Nat.lt_or_ge k c.n with hlt | hge
        · have hkl : k < L.length := by rw [HIN.out.n]; exact hlt
          obtain ⟨b, off, ha, hcl, _⟩ := HI.out.arg.in_.at_ k hkl
          have hnm : wr.cell? ⟨b, off + k * 30, none⟩ = some (.string L[k].1.nm) := hcl 0 (by decide)
          have HF := Lib.hid (fd_self HOK.out hkl)
          have HS := Lib.hid (fdX_step (s := s) hkl)
          generalize L[k].1.nm = nm at *
          have D1 := Lib.hid (fun d os => by
            have h := CFD.out (Sort.grow (redrawn wr d) os) nm (HI.out.arg.below (below_regrown wr d os))
            rw [HF.out.1, HF.out.2, ha] at h
            exact Calls.regrown_of h)
          obtain ⟨d1, hd1⟩ : ∃ d, decide (fdX L s < k) = d := ⟨_, rfl⟩
          obtain ⟨d2, hd2⟩ : ∃ d, (nm.toList == s.toList) = d := ⟨_, rfl⟩
          have HS2 := Lib.hid (show decide (fdX L s < k + 1) = (d1 || d2) from by rw [HS.out, hd1]; unfold sEq; rw [hd2])
          have HBR := Lib.hid (World.block_lt_of_cell? wr _ hnm)
          have q4 : ((k : Int) != (k : Int)) = false := by simp
          rw [hd1]
          obtain ⟨c0, c1, c2, c3, c4, c5, c6, c7⟩ := HI.out.cells
          rw [ha] at c7
          have r0 := cell_regrown (show wr.cell? ⟨w.heap.size, 0, none⟩ = some (.int .i64 c.g.cap) from c0)
          have r1 := cell_regrown (show wr.cell? ⟨w.heap.size, 1, none⟩ = some (.int .i64 c.g.q) from c1)
          have r2 := cell_regrown (show wr.cell? ⟨w.heap.size, 2, none⟩ = some (.int .i64 c.g.ar) from c2)
          have r3 := cell_regrown (show wr.cell? ⟨w.heap.size, 3, none⟩ = some (.int .i64 c.g.ag) from c3)
          have r4 := cell_regrown (show wr.cell? ⟨w.heap.size, 4, none⟩ = some (.int .u64 c.g.sd) from c4)
          have r5 := cell_regrown (show wr.cell? ⟨w.heap.size, 5, none⟩ = some (.int .i64 c.g.t) from c5)
          have r6 := cell_regrown (show wr.cell? ⟨w.heap.size, 6, none⟩ = some (.int .i64 c.g.tau) from c6)
          have r7 := cell_regrown (show wr.cell? ⟨w.heap.size, 7, none⟩ = some (.slice (some ⟨b, off, none⟩) c.n c.c) from c7)
          have rn := cell_regrown hnm
          have HNM := Lib.hid hnm
          have HC7 := Lib.hid c7
          clear hd1 ha hcl HF HS HOK CCP CFD
          go_upto_region 7 with fail
          clear c0 c1 c2 c3 c4 c5 c6 c7 hnm
          refine wp_region_quiet_below (by kernel_rfl) (by kernel_rfl) ?_
          repeat (go_big_quiet_step (fail))
          go_big_quiet_step ((go_at_call 36; exact D1.out _ _))
          repeat (go_big_quiet_step (fail))
          refine wpQuiet_nil ?_
          intro _ hw'
          obtain ⟨⟨dq, osq⟩, hw''⟩ := hw'
          subst hw''
          have HI5 := Lib.hid (HI.out.next (below_regrown wr dq osq))
          have c7 := r7 dq osq
          have hnm := rn dq osq
          clear r0 r1 r2 r3 r4 r5 r6 r7 rn D1
          generalize Sort.grow (redrawn wr dq) osq = w5 at *
          cases d1
          · cases d2
            all_goals
              go_wp2_with fail
              refine ⟨⟨k + 1, by omega, by go_num, by rw [HS2.out]; rfl, HI5.out⟩, ?_⟩
              simp [intJ]; omega
          · go_wp2_with fail
            refine ⟨⟨k + 1, by omega, by go_num, by rw [HS2.out]; rfl, HI5.out⟩, ?_⟩
            simp [intJ]; omega
        · obtain rfl : c.n = k := by omega
          have hfb : decide (fdX L s < c.n) = fdB L s := by unfold fdB; rw [HIN.out.n]
          rw [hfb]
          have CF1 := Lib.hid (CFD.out wr s HI.out.arg)
          generalize fdB L s = fb at *
          generalize fdI L s = fi at *
          have q5 : (fb == fb) = true := by simp
          obtain ⟨c0, c1, c2, c3, c4, c5, c6, c7⟩ := HI.out.cells
          clear hfb CFD hge hk
          go_wp2_with fail
          refine (CF1.out).mono ?_
          rintro e w5 ⟨rfl, hb⟩
          have HI := Lib.hid (HI.out.next hb)
          clear hb CF1 c0 c1 c2 c3 c4 c5 c6 c7
          obtain ⟨c0, c1, c2, c3, c4, c5, c6, c7⟩ := HI.out.cells
          go_wp2_with fail
          refine (CCP.out _ HI.out.arg).mono ?_
          rintro e w6 ⟨a2, cap2, L', rfl, hc, hb⟩
          have HI := Lib.hid (HI.out.next hb)
          have e2 : cfV ⟨c.g, a2, c.n, cap2⟩ = #[.int .i64 c.g.cap, .int .i64 c.g.q, .int .i64 c.g.ar, .int .i64 c.g.ag, .int .u64 c.g.sd, .int .i64 c.g.t, .int .i64 c.g.tau, .slice a2 c.n cap2] := rfl
          rw [e2]
          obtain ⟨W7, hW7⟩ : ∃ W7, W7 = w6.alloc (.cells #[.int .i64 c.g.cap, .int .i64 c.g.q, .int .i64 c.g.ar, .int .i64 c.g.ag, .int .u64 c.g.sd, .int .i64 c.g.t, .int .i64 c.g.tau, .slice a2 c.n cap2] 56) := ⟨_, rfl⟩
          have hA2 : CArg w6 ⟨c.g, a2, c.n, cap2⟩ L' := HI.out.arg.copy hc
          have hb7 : Below w6.heap.size w6 W7 := by rw [hW7]; exact (Below.refl _ _).alloc (Nat.le_refl _) _
          have HI7 := Lib.hid (HI.out.next hb7)
          have HA7 := Lib.hid (hA2.below hb7)
          have HBK := Lib.hid (show Blk W7 w6.heap.size 56 #[.int .i64 c.g.cap, .int .i64 c.g.q, .int .i64 c.g.ar, .int .i64 c.g.ag, .int .u64 c.g.sd, .int .i64 c.g.t, .int .i64 c.g.tau, .slice a2 c.n cap2] by rw [hW7]; exact Blk.new _ _ _)
          have CE1 := Lib.hid (fun W (h1 : CArg W c L) (h2 : CArg W ⟨c.g, a2, c.n, cap2⟩ L') => by
            have h := cequal_ok c ⟨c.g, a2, c.n, cap2⟩ L L' W h1.eqa h2.eqa h1.n9 h2.n9
            rw [show cfEq c ⟨c.g, a2, c.n, cap2⟩ L L' = true by unfold cfEq; rw [glEq_self, hc.same.eq]; rfl, cfV_eq, e2] at h
            exact h)
          have CE2 := Lib.hid (fun W (h1 : CArg W c L) (h2 : CArg W ⟨c.g, a2, c.n, cap2⟩ L') => by
            have h := cequal_ok ⟨c.g, a2, c.n, cap2⟩ c L' L W h2.eqa h1.eqa h2.n9 h1.n9
            rw [show cfEq ⟨c.g, a2, c.n, cap2⟩ c L' L = true by unfold cfEq; rw [glEq_self, hc.same.eq']; rfl, e2, cfV_eq] at h
            exact h)
          have CK2 := Lib.hid (fun W (h2 : CArg W ⟨c.g, a2, c.n, cap2⟩ L') => by
            have h := ccheck_ok ⟨c.g, a2, c.n, cap2⟩ L' W h2
            rw [cfE_zero.2 (hc.same.ok HOK.out), e2] at h
            exact h)
          have hlt6 := HI.out.box.lt
          have HW7 := Lib.hid hW7
          clear hb hb7 hc hA2 e2 hW7 CCP c0 c1 c2 c3 c4 c5 c6 c7
          obtain ⟨c0, c1, c2, c3, c4, c5, c6, c7⟩ := HI.out.cells
          go_wp2_with fail
          rw [← HW7.out]
          refine (CE1.out _ HI7.out.arg HA7.out).mono ?_
          rintro e w8 ⟨rfl, hb⟩
          have HI8 := Lib.hid (HI7.out.next hb)
          have HA8 := Lib.hid (HA7.out.below hb)
          have HB8 := Lib.hid (HBK.out.below hb HBK.out.lt)
          clear hb hlt6 c0 c1 c2 c3 c4 c5 c6 c7
          obtain ⟨c0, c1, c2, c3, c4, c5, c6, c7⟩ := HI8.out.cells
          have g0 := HB8.out.cell 0
          have g1 := HB8.out.cell 1
          have g2 := HB8.out.cell 2
          have g3 := HB8.out.cell 3
          have g4 := HB8.out.cell 4
          have g5 := HB8.out.cell 5
          have g6 := HB8.out.cell 6
          have g7 := HB8.out.cell 7
          go_wp2_with fail
          refine (CE2.out _ HI8.out.arg HA8.out).mono ?_
          rintro e w9 ⟨rfl, hb⟩
          have HI9 := Lib.hid (HI8.out.next hb)
          have HA9 := Lib.hid (HA8.out.below hb)
          have HB9 := Lib.hid (HB8.out.below hb HB8.out.lt)
          clear hb c0 c1 c2 c3 c4 c5 c6 c7 g0 g1 g2 g3 g4 g5 g6 g7
          have g0 := HB9.out.cell 0
          have g1 := HB9.out.cell 1
          have g2 := HB9.out.cell 2
          have g3 := HB9.out.cell 3
          have g4 := HB9.out.cell 4
          have g5 := HB9.out.cell 5
          have g6 := HB9.out.cell 6
          have g7 := HB9.out.cell 7
          go_wp2_with fail
          refine (CK2.out _ HA9.out).mono ?_
          rintro e w10 ⟨rfl, hb⟩
          have HI10 := Lib.hid (HI9.out.next hb)
          clear hb g0 g1 g2 g3 g4 g5 g6 g7
          go_wp2_with fail
          refine (CW.out _ HI10.out.below).mono ?_
          rintro e w99 ⟨rfl, hb⟩
          have HB99 := Lib.hid (HI10.out.below.trans (hb.mono HI10.out.below.size))
          clear hb
          go_wp2_with fail
          go_ret
          exact ⟨rfl, HB99.out⟩
end Go.Proofs.YtmdjfjdlehdhjaaGreatDoor.BW
