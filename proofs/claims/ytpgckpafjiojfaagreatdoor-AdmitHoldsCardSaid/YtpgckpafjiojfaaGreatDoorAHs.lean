/- Contract of wakemanlaw35.Made for an empty list. -/
import Derived.Test.YtpgckpafjiojfaaGreatDoorAHe
namespace Go.Proofs.YtpgckpafjiojfaaGreatDoor.AD
open Go Go.RowKit BW
open BK (Bx BoxAt Blk only_refl only_drew only_drewN only_setCell only_trans only_of_below only_alloc below_drewN)
def rl0 : Rl := ⟨0, 0, 0, 0, 0, 0⟩
set_option maxRecDepth 16000 in
set_option maxHeartbeats 1200000 in
theorem made0_ok (rs : List Rl) (hrs : rs = [rl0]) (a0 : Option Addr) (c0 : Nat) (lim tau most : Nat) (h1 : lim < 256) (h2 : tau < 256) (h3 : most < 256) (w : World) :
    Calls Tryz.prog 8 #[.slice a0 0 c0, .int .u8 lim, .int .u8 tau, .int .u8 most] w fun e w' => ∃ a' c', e = .returned (.agg (cfV ⟨madeG lim tau most, a', (rs.take 4).length, c'⟩)) ∧ OwnsC w.heap.size (.slice a' (rs.take 4).length c') (madeFrom 0 (rs.take 4)) w' ∧ Below w.heap.size w w' := by
  have SM := Lib.hid (small_ok lim tau h1 h2)
  have HRS := Lib.hid hrs
  clear hrs
  go_enter Tryz.func8, Tryz.ntmps8
  go_wp2_with fail
  refine (SM.out _).mono ?_
  rintro e_ w1 ⟨rfl, hb⟩
  obtain ⟨W2, hW2⟩ : ∃ W2, W2 = w1.alloc (.cells #[.int .i64 (1 + (most : Int) % 8), .int .i64 1, .int .i64 0, .int .i64 1, .int .u64 0, .int .i64 (smT lim), .int .i64 (smA lim tau), .slice none 0 0] 31) := ⟨_, rfl⟩
  have C8 : Hid (Blk W2 w.heap.size 31 zCf) := Lib.hid (by rw [hW2]; exact ((Blk.new w _ _).below hb (by simp)).alloc _)
  have hb0 : Below w.heap.size w w1 := ((Below.refl _ w).alloc (Nat.le_refl _) _).trans (hb.mono (by simp))
  have hwl : w.heap.size < w1.heap.size := by have := hb.size; simp at this; omega
  have MI2 : Hid (MdI w w1.heap.size (madeG lim tau most) (.slice none 0 0) [] W2) := Lib.hid ⟨C8.out, by rw [hW2]; exact Blk.new _ _ _, ⟨rfl, .inl ⟨rfl, rfl⟩⟩, by rw [hW2]; exact hb0.alloc hb0.size _, hwl⟩
  go_upto_region 2 with fail
  rw [← hW2]
  generalize w1.heap.size = cb at *
  clear hW2 C8 hb hb0
  go_upto_region 4 with fail
  obtain ⟨W3, hW3⟩ : ∃ W3, W3 = W2.alloc (.cells (rlC rl0) 110) := ⟨_, rfl⟩
  have hW3' : W2.alloc (.cells #[.int .u8 0, .int .u8 0, .int .u8 0, .int .u8 0, .int .u8 0, .int .u8 0] 110) = W3 := hW3.symm
  obtain ⟨n, hn⟩ : ∃ n : Nat, n = 1 := ⟨_, rfl⟩
  obtain ⟨c, hc⟩ : ∃ c : Nat, c = 1 := ⟨_, rfl⟩
  obtain ⟨a, ha⟩ : ∃ a, a = some (⟨W2.heap.size, 0, none⟩ : Addr) := ⟨_, rfl⟩
  have hsl : Value.slice (some ⟨W2.heap.size, 0, none⟩) 1 1 = .slice a n c := by rw [hn, hc, ha]
  rw [hsl, hW3']
  have HA : Hid (RulesAt W3 a rs) := Lib.hid (by
    rw [HRS.out]
    intro k hk
    have : k = 0 := by simpa using hk
    subst this
    refine ⟨_, 0, ha, fun i _ => ?_, show rl0.ok from ⟨by decide, by decide, by decide, by decide, by decide, by decide⟩⟩
    rw [hW3, show 0 + 0 * 6 + i = i by omega]
    exact Blk.cell (Blk.new W2 110 (rlC rl0)) i)
  have MI : Hid (MdI w cb (madeG lim tau most) (.slice none 0 0) [] W3) := Lib.hid (by rw [hW3]; exact MI2.out.next ((Below.refl _ _).alloc (Nat.le_refl _) _))
  have HN : Hid (rs.length = n) := Lib.hid (by rw [HRS.out, hn]; rfl)
  obtain ⟨m, HMM⟩ : ∃ m, Hid (m = min n 4) := ⟨_, Lib.hid rfl⟩
  have HM1 : Hid (m = 1) := Lib.hid (by have := HMM.out; omega)
  have hm : min (n : Int) 4 = (m : Int) := by have := HMM.out; omega
  have hmc : m ≤ c := by have := HMM.out; omega
  have hmn : m ≤ n := by have := HMM.out; omega
  have hm4 : m ≤ 4 := by have := HMM.out; omega
  have h9 : n ≤ 9223372036854775807 := by omega
  have HMT : Hid ((rs.take 4).length = m ∧ ∀ k, k < m → ∃ r, rs[k]? = some r ∧ madeFrom 0 ((rs.take 4).take (k + 1)) = madeFrom 0 ((rs.take 4).take k) ++ [(jbR k r, [])]) := Lib.hid (made_take (by rw [HN.out]; exact HMM.out))
  have hlast : Hid ((rs.take 4).take m = rs.take 4) := Lib.hid (List.take_of_length_le (by rw [HMT.out.1]; exact Nat.le_refl _))
  clear hn hc ha hsl hW3 hW3' MI2
  go_wp2_with fail
  go_loopw [33] (fun s33 wr => ∃ k : Nat, k ≤ m ∧ s33 = .int .i64 k ∧ ∃ v, MdI w cb (madeG lim tau most) v (madeFrom 0 ((rs.take 4).take k)) wr ∧ (k = 0 → RulesAt wr a rs)) (fun s33 _ => m - intA s33)
  case atStart => exact ⟨0, Nat.zero_le _, rfl, _, (by rw [List.take_zero]; exact MI.out), fun _ => HA.out⟩
  case round =>
    obtain ⟨k, hk, rfl, v, hI, hRA⟩ := hrel
    have HI := Lib.hid hI
    have HRA := Lib.hid hRA
    clear hRA HA
    clear hI MI SM hm
    rcases Nat.lt_or_ge k m with hlt | hge
    · obtain ⟨r, hr, htk⟩ := HMT.out.2 k hlt
      obtain ⟨b, off, rfl, hc, hok⟩ := (HRA.out (by have := HM1.out; omega)) k (List.getElem?_eq_some_iff.1 hr).1
      rw [(List.getElem?_eq_some_iff.1 hr).2] at hc hok
      have HTK := Lib.hid htk
      have HOK := Lib.hid hok
      have c0 : wr.cell? ⟨b, off + k * 6, none⟩ = some (.int .u8 r.cap) := hc 0 (by decide)
      have c1 : wr.cell? ⟨b, off + k * 6 + 1, none⟩ = some (.int .u8 r.t) := hc 1 (by decide)
      have c2 : wr.cell? ⟨b, off + k * 6 + 2, none⟩ = some (.int .u8 r.tau) := hc 2 (by decide)
      have c3 : wr.cell? ⟨b, off + k * 6 + 3, none⟩ = some (.int .u8 r.fa) := hc 3 (by decide)
      have c4 : wr.cell? ⟨b, off + k * 6 + 4, none⟩ = some (.int .u8 r.op) := hc 4 (by decide)
      have c5 : wr.cell? ⟨b, off + k * 6 + 5, none⟩ = some (.int .u8 r.pr) := hc 5 (by decide)
      obtain ⟨hk1, hk2, hk3, hk4, hk5, hk6⟩ := hok
      clear hc htk hr
      go_upto_region 7 with fail
      obtain ⟨X1, hX1⟩ : ∃ X1, X1 = wr.alloc (.cells #[.int .u8 r.cap, .int .u8 r.t, .int .u8 r.tau, .int .u8 r.fa, .int .u8 r.op, .int .u8 r.pr] 110) := ⟨_, rfl⟩
      have hbX : Below wr.heap.size wr X1 := by rw [hX1]; exact (Below.refl _ _).alloc (Nat.le_refl _) _
      have RB : Hid (Blk X1 wr.heap.size 110 (rlC r)) := Lib.hid (by rw [hX1]; exact Blk.new _ _ _)
      have IX := Lib.hid (HI.out.next hbX)
      rw [← hX1]
      generalize wr.heap.size = b11 at *
      clear hX1 hbX c0 c1 c2 c3 c4 c5
      have hw1 : IntKind.i64.wrap (r.cap : Int) = (r.cap : Int) := IntWalk.i64_in _ (by omega)
      have hw2 : IntKind.i64.wrap (1 + (r.cap : Int) % 4) = 1 + (r.cap : Int) % 4 := IntWalk.i64_in _ (by omega)
      refine wp_region_put (R := AR X1 11 12 55 (poV zPo) (poV (polS r)) (P7 b11 r)) (by kernel_rfl) (by kernel_rfl) (by kernel_rfl) (by kernel_rfl) ?_ ?_ ?_
      · exact fun v => AR.start v
      · intro Q' K listed v wx i o hsz ho hli ha hR hK
        have HV := Lib.hid hR
        have dep := fun d hd => hR.all d (dep_listed ha d hd)
        have hi : i < 13 := (List.getElem?_eq_some_iff.1 ho).1
        clear hR hsz
        obtain rfl | rfl | rfl | rfl | rfl | rfl | rfl | rfl | rfl | rfl | rfl | rfl | rfl : i = 0 ∨ i = 1 ∨ i = 2 ∨ i = 3 ∨ i = 4 ∨ i = 5 ∨ i = 6 ∨ i = 7 ∨ i = 8 ∨ i = 9 ∨ i = 10 ∨ i = 11 ∨ i = 12 := by omega
        · -- operation 0
          cases ho
          simp only [putFrom, Act.put, List.setIfInBounds_toArray, List.set_cons_succ, List.set_cons_zero] at hK ⊢
          go_simp
          exact hK _ _ (HV.out.step (by decide) (by decide) (Below.refl _ _) rfl)
        · -- operation 1
          cases ho
          have h0 := dep 0 (by kernel_rfl)
          replace h0 : v 0 = _ := h0
          have c : wx.cell? ⟨b11, 0, none⟩ = some (.int .u8 r.cap) := (RB.out.below HV.out.bel RB.out.lt).cell 0
          simp only [putFrom, Act.put, List.setIfInBounds_toArray, List.set_cons_succ, List.set_cons_zero, h0] at hK ⊢
          go_simp
          exact hK _ _ (HV.out.step (by decide) (by decide) (Below.refl _ _) rfl)
        · -- operation 2
          cases ho
          have h1 := dep 1 (by kernel_rfl)
          replace h1 : v 1 = _ := h1
          simp only [putFrom, Act.put, List.setIfInBounds_toArray, List.set_cons_succ, List.set_cons_zero, h1] at hK ⊢
          go_simp
          exact hK _ _ (HV.out.step (by decide) (by decide) (Below.refl _ _) rfl)
        · -- operation 3
          cases ho
          have h2 := dep 2 (by kernel_rfl)
          replace h2 : v 2 = _ := h2
          simp only [putFrom, Act.put, List.setIfInBounds_toArray, List.set_cons_succ, List.set_cons_zero, h2] at hK ⊢
          go_simp
          exact hK _ _ (HV.out.step (by decide) (by decide) (Below.refl _ _) rfl)
        · -- operation 4
          cases ho
          have h3 := dep 3 (by kernel_rfl)
          replace h3 : v 3 = _ := h3
          simp only [putFrom, Act.put, List.setIfInBounds_toArray, List.set_cons_succ, List.set_cons_zero, h3] at hK ⊢
          go_simp
          exact hK _ _ (HV.out.step (by decide) (by decide) (Below.refl _ _) rfl)
        · -- operation 5
          cases ho
          simp only [putFrom, Act.put, List.setIfInBounds_toArray, List.set_cons_succ, List.set_cons_zero] at hK ⊢
          go_simp
          exact hK _ _ (HV.out.step (by decide) (by decide) (Below.refl _ _) rfl)
        · -- operation 6
          cases ho
          have h5 := dep 5 (by kernel_rfl)
          replace h5 : v 5 = _ := h5
          have c : wx.cell? ⟨b11, 1, none⟩ = some (.int .u8 r.t) := (RB.out.below HV.out.bel RB.out.lt).cell 1
          simp only [putFrom, Act.put, List.setIfInBounds_toArray, List.set_cons_succ, List.set_cons_zero, h5] at hK ⊢
          go_simp
          exact hK _ _ (HV.out.step (by decide) (by decide) (Below.refl _ _) rfl)
        · -- operation 7
          cases ho
          simp only [putFrom, Act.put, List.setIfInBounds_toArray, List.set_cons_succ, List.set_cons_zero] at hK ⊢
          go_simp
          exact hK _ _ (HV.out.step (by decide) (by decide) (Below.refl _ _) rfl)
        · -- operation 8
          cases ho
          have h7 := dep 7 (by kernel_rfl)
          replace h7 : v 7 = _ := h7
          have c : wx.cell? ⟨b11, 2, none⟩ = some (.int .u8 r.tau) := (RB.out.below HV.out.bel RB.out.lt).cell 2
          simp only [putFrom, Act.put, List.setIfInBounds_toArray, List.set_cons_succ, List.set_cons_zero, h7] at hK ⊢
          go_simp
          exact hK _ _ (HV.out.step (by decide) (by decide) (Below.refl _ _) rfl)
        · -- operation 9
          cases ho
          have h6 := dep 6 (by kernel_rfl)
          replace h6 : v 6 = _ := h6
          have h8 := dep 8 (by kernel_rfl)
          replace h8 : v 8 = _ := h8
          simp only [putFrom, Act.put, List.setIfInBounds_toArray, List.set_cons_succ, List.set_cons_zero, h6, h8] at hK ⊢
          go_simp
          refine (small_ok r.t r.tau HOK.out.2.1 HOK.out.2.2.1 wx).mono ?_
          rintro _ w5 ⟨rfl, hb⟩
          exact hK _ _ (HV.out.step (by decide) (by decide) hb rfl)
        · -- operation 10
          cases ho
          have h4 := dep 4 (by kernel_rfl)
          replace h4 : v 4 = _ := h4
          have h9 := dep 9 (by kernel_rfl)
          replace h9 : v 9 = _ := h9
          simp only [putFrom, Act.put, List.setIfInBounds_toArray, List.set_cons_succ, List.set_cons_zero, h4, h9] at hK ⊢
          go_simp
          exact hK _ _ (HV.out.step (by decide) (by decide) (Below.refl _ _) rfl)
        · -- operation 11
          cases ho
          simp only [putFrom, Act.put, List.setIfInBounds_toArray, List.set_cons_succ, List.set_cons_zero] at hK ⊢
          go_simp
          exact hK _ _ (HV.out.lay (by decide) hli (fun _ => trivial))
        · -- operation 12
          cases ho
          have h10 := dep 10 (by kernel_rfl)
          replace h10 : v 10 = _ := h10
          have hp := HV.out.ptr (dep_listed ha 11 (by kernel_rfl))
          have hn := HV.out.new (dep_listed ha 11 (by kernel_rfl)) hli
          have HP := Lib.hid hp
          have hpe := hp.1
          have hpl := hp.2
          clear hp
          generalize hbq : blkOf (v 11) = bq at hpe hpl hn
          have HBQ := Lib.hid hbq
          clear hbq
          have hps := pol_set hn rfl (polS r)
          simp only [putFrom, Act.put, List.setIfInBounds_toArray, List.set_cons_succ, List.set_cons_zero, h10, hpe] at hK ⊢
          refine wp_store_by 55 _ _ rfl bq 0 (.agg (poV (polS r))) _ rfl rfl hps.1 ?_
          exact hK undef _ (HV.out.put (by decide) (dep_listed ha 11 (by kernel_rfl)) hli (fun _ => trivial) undef (by rw [HBQ.out]; exact hps.2) (below_setRow (Below.refl _ _) hpl _))
      · intro v2 listed W2 hall hR
        have hp := hR.ptr (hall 11 (by decide))
        have hf := hR.fin (hall 12 (by decide))
        have hpe := hp.1
        have hpl := hp.2
        generalize blkOf (v2 11) = bq at hpe hpl hf
        have PB := Lib.hid hf
        have hpl' : w.heap.size ≤ bq := Nat.le_trans IX.out.bel.size hpl
        have BX := Lib.hid hR.bel
        have I2 := Lib.hid (IX.out.next hR.bel)
        have RB2 := Lib.hid (RB.out.below hR.bel RB.out.lt)
        simp only [putFrom, Act.put, List.setIfInBounds_toArray, List.set_cons_succ, List.set_cons_zero, hpe]
        clear hp hf hR hall hpe IX RB
        have d3 : W2.cell? ⟨b11, 3, none⟩ = some (.int .u8 r.fa) := RB2.out.cell 3
        by_cases hf0 : r.fa % 4 = 0
        · have hfb : decide (0 < (r.fa : Int) % 4) = false := by simp; omega
          go_upto_region 10 with fail
          have PB3 : Blk W2 bq 55 (poV (polR r)) := by
            have := PB.out
            rwa [show polS r = polR r from by unfold polS polR; rw [if_pos hf0, if_pos hf0, if_pos hf0]] at this
          have I3 := Lib.hid I2.out
          clear I2 PB RB2 BX
          generalize W2 = V at *
          have hy : Hid (∃ y, y = polR r) := Lib.hid ⟨_, rfl⟩
          obtain ⟨y, hy⟩ := hy.out
          have HY := Lib.hid hy
          rw [← hy] at PB3
          have PBH := Lib.hid PB3
          have k7 : V.cell? ⟨cb, 7, none⟩ = some v := I3.out.cf.cell 7
          have CV := nm_conv V k (by omega)
          have y0 : V.cell? ⟨bq, 0, none⟩ = some (.int .i64 y.cap) := PBH.out.cell 0
          have y1 : V.cell? ⟨bq, 1, none⟩ = some (.int .i64 y.pri) := PBH.out.cell 1
          have y2 : V.cell? ⟨bq, 2, none⟩ = some (.int .i64 y.spl) := PBH.out.cell 2
          have y3 : V.cell? ⟨bq, 3, none⟩ = some (.int .i64 y.ddl) := PBH.out.cell 3
          have y4 : V.cell? ⟨bq, 4, none⟩ = some (.int .i64 y.mis) := PBH.out.cell 4
          have y5 : V.cell? ⟨bq, 5, none⟩ = some (.int .i64 y.keep) := PBH.out.cell 5
          have y6 : V.cell? ⟨bq, 6, none⟩ = some (.int .i64 y.t) := PBH.out.cell 6
          have y7 : V.cell? ⟨bq, 7, none⟩ = some (.int .i64 y.tau) := PBH.out.cell 7
          have y8 : V.cell? ⟨bq, 8, none⟩ = some (.int .i64 y.f) := PBH.out.cell 8
          have y9 : V.cell? ⟨bq, 9, none⟩ = some (.int .i64 y.o) := PBH.out.cell 9
          have y10 : V.cell? ⟨bq, 10, none⟩ = some (.int .i64 y.r) := PBH.out.cell 10
          have y11 : V.cell? ⟨bq, 11, none⟩ = some (.int .i64 y.m) := PBH.out.cell 11
          have y12 : V.cell? ⟨bq, 12, none⟩ = some (.int .i64 y.b) := PBH.out.cell 12
          have y13 : V.cell? ⟨bq, 13, none⟩ = some (.int .i64 y.c) := PBH.out.cell 13
          have y14 : V.cell? ⟨bq, 14, none⟩ = some (.int .i64 y.j) := PBH.out.cell 14
          have hblt : bq < V.heap.size := PBH.out.lt
          obtain ⟨i0, hi0, hz0, hz1, hz2⟩ := info_parts info_job
          have hml1 : k + 1 ≤ maxLen := by unfold maxLen; omega
          have hml2 : (k + 1) * 256 ≤ 140737488355328 := by omega
          have hvs : w.heap.size + 1 ≤ V.heap.size := by have h1 := I3.out.lo; have h2 := I3.out.cf.lt; omega
          have hml3 : w.heap.size + 1 ≤ ((V.alloc (.cells #[.int .u8 (97 + (k : Int))] 5)).alloc (.cells #[.string (nmR k), .int .i64 0, .int .u64 0, .int .u64 0, .int .u64 0, .int .u64 0, .int .u64 0, .int .u64 0, .bool false, .bool false, .int .i64 0, .int .i64 0, .int .i64 0, .int .i64 0, .slice none 0 0, .int .i64 y.cap, .int .i64 y.pri, .int .i64 y.spl, .int .i64 y.ddl, .int .i64 y.mis, .int .i64 y.keep, .int .i64 y.t, .int .i64 y.tau, .int .i64 y.f, .int .i64 y.o, .int .i64 y.r, .int .i64 y.m, .int .i64 y.b, .int .i64 y.c, .int .i64 y.j] 57)).heap.size := by simp; omega
          have HLN : Hid ((madeFrom 0 ((rs.take 4).take k)).length = k) := Lib.hid (by rw [madeFrom_len, List.length_take, HMT.out.1]; omega)
          have HROW := I3.out.own
          unfold OwnsC at HROW
          rw [HLN.out] at HROW
          have HROW := Lib.hid HROW
          have I4 := Lib.hid (I3.out.next (two_boxes V (.cells #[.int .u8 (97 + (k : Int))] 5) (.cells #[.string (nmR k), .int .i64 0, .int .u64 0, .int .u64 0, .int .u64 0, .int .u64 0, .int .u64 0, .int .u64 0, .bool false, .bool false, .int .i64 0, .int .i64 0, .int .i64 0, .int .i64 0, .slice none 0 0, .int .i64 y.cap, .int .i64 y.pri, .int .i64 y.spl, .int .i64 y.ddl, .int .i64 y.mis, .int .i64 y.keep, .int .i64 y.t, .int .i64 y.tau, .int .i64 y.f, .int .i64 y.o, .int .i64 y.r, .int .i64 y.m, .int .i64 y.b, .int .i64 y.c, .int .i64 y.j] 57)))
          have HRN := Lib.hid (show ∀ (i : Nat) (u : Value), ([.string (nmR k), .int .i64 0, .int .u64 0, .int .u64 0, .int .u64 0, .int .u64 0, .int .u64 0, .int .u64 0, .bool false, .bool false, .int .i64 0, .int .i64 0, .int .i64 0, .int .i64 0, .slice none 0 0, .int .i64 y.cap, .int .i64 y.pri, .int .i64 y.spl, .int .i64 y.ddl, .int .i64 y.mis, .int .i64 y.keep, .int .i64 y.t, .int .i64 y.tau, .int .i64 y.f, .int .i64 y.o, .int .i64 y.r, .int .i64 y.m, .int .i64 y.b, .int .i64 y.c, .int .i64 y.j] : List Value)[i]? = some u → ((V.alloc (.cells #[.int .u8 (97 + (k : Int))] 5)).alloc (.cells #[.string (nmR k), .int .i64 0, .int .u64 0, .int .u64 0, .int .u64 0, .int .u64 0, .int .u64 0, .int .u64 0, .bool false, .bool false, .int .i64 0, .int .i64 0, .int .i64 0, .int .i64 0, .slice none 0 0, .int .i64 y.cap, .int .i64 y.pri, .int .i64 y.spl, .int .i64 y.ddl, .int .i64 y.mis, .int .i64 y.keep, .int .i64 y.t, .int .i64 y.tau, .int .i64 y.f, .int .i64 y.o, .int .i64 y.r, .int .i64 y.m, .int .i64 y.b, .int .i64 y.c, .int .i64 y.j] 57)).cell? ((⟨V.heap.size + 1, 0, none⟩ : Addr).add i) = some u from row_new (cs := #[.string (nmR k), .int .i64 0, .int .u64 0, .int .u64 0, .int .u64 0, .int .u64 0, .int .u64 0, .int .u64 0, .bool false, .bool false, .int .i64 0, .int .i64 0, .int .i64 0, .int .i64 0, .slice none 0 0, .int .i64 y.cap, .int .i64 y.pri, .int .i64 y.spl, .int .i64 y.ddl, .int .i64 y.mis, .int .i64 y.keep, .int .i64 y.t, .int .i64 y.tau, .int .i64 y.f, .int .i64 y.o, .int .i64 y.r, .int .i64 y.m, .int .i64 y.b, .int .i64 y.c, .int .i64 y.j]) (T := 57) (blk_newAt (by simp)))
          have HPJ := Lib.hid (show ∀ u ∈ ([.string (nmR k), .int .i64 0, .int .u64 0, .int .u64 0, .int .u64 0, .int .u64 0, .int .u64 0, .int .u64 0, .bool false, .bool false, .int .i64 0, .int .i64 0, .int .i64 0, .int .i64 0, .slice none 0 0, .int .i64 y.cap, .int .i64 y.pri, .int .i64 y.spl, .int .i64 y.ddl, .int .i64 y.mis, .int .i64 y.keep, .int .i64 y.t, .int .i64 y.tau, .int .i64 y.f, .int .i64 y.o, .int .i64 y.r, .int .i64 y.m, .int .i64 y.b, .int .i64 y.c, .int .i64 y.j] : List Value), u.oneCell' = true from jbV_one ⟨nmR k, plE0, y⟩)
          clear hy PB3 d3
          go_wp2_with (first | (at_builtin; refine wpList_append_lies _ rfl _ _ 29 rfl (w.heap.size + 1) 57 i0 (.agg zJ) 30 256 Tryz.underlying29 hi0 hz0 hz1 hz2 rfl (by decide) v k _ rfl (own_alloc (own_alloc HROW.out _) _) ⟨V.heap.size + 1, 0, none⟩ 1 1 ([.string (nmR k), .int .i64 0, .int .u64 0, .int .u64 0, .int .u64 0, .int .u64 0, .int .u64 0, .int .u64 0, .bool false, .bool false, .int .i64 0, .int .i64 0, .int .i64 0, .int .i64 0, .slice none 0 0, .int .i64 y.cap, .int .i64 y.pri, .int .i64 y.spl, .int .i64 y.ddl, .int .i64 y.mis, .int .i64 y.keep, .int .i64 y.t, .int .i64 y.tau, .int .i64 y.f, .int .i64 y.o, .int .i64 y.r, .int .i64 y.m, .int .i64 y.b, .int .i64 y.c, .int .i64 y.j] : List Value) rfl rfl HRN.out HPJ.out (by decide) hml1 hml2 hml3 _ rfl ?_; intro g8 cap8 w8 hown8 hgrow8 _ _; have hg8 := (I4.out.grown hgrow8).1; have c7 : w8.cell? ⟨cb, 7, none⟩ = some v := hg8.cell 7; have f7 : w8.frozen? ⟨cb, 7, none⟩ = false := hg8.frozen 7; have HP := Lib.hid (I4.out.push (j := ⟨nmR k, plE0, y⟩) (by rw [HLN.out]; exact hown8) hgrow8); clear hg8 hown8 hgrow8))
          refine ⟨⟨k + 1, by omega, by go_num, _, (by rw [HTK.out]; have := HP.out; rw [HY.out] at this; exact this), fun h => absurd h (Nat.succ_ne_zero _)⟩, ?_⟩
          simp [intA]; omega
        · have hfb : decide (0 < (r.fa : Int) % 4) = true := by simp; omega
          have d4 : W2.cell? ⟨b11, 4, none⟩ = some (.int .u8 r.op) := RB2.out.cell 4
          have d5 : W2.cell? ⟨b11, 5, none⟩ = some (.int .u8 r.pr) := RB2.out.cell 5
          have e8 : W2.cell? ⟨bq, 8, none⟩ = some (.int .i64 0) := PB.out.cell 8
          have e9 : W2.cell? ⟨bq, 9, none⟩ = some (.int .i64 0) := PB.out.cell 9
          have e10 : W2.cell? ⟨bq, 10, none⟩ = some (.int .i64 0) := PB.out.cell 10
          have ez : ∀ o, W2.frozen? ⟨bq, o, none⟩ = false := fun o => PB.out.frozen o
          go_upto_region 10 with fail
          obtain ⟨V, hV⟩ : ∃ V, V = ((W2.setCell ⟨bq, 8, none⟩ (.int .i64 ((r.fa : Int) % 4))).setCell ⟨bq, 9, none⟩ (.int .i64 (1 + (r.op : Int) % 32))).setCell ⟨bq, 10, none⟩ (.int .i64 (1 + (r.pr : Int) % 3)) := ⟨_, rfl⟩
          have PB3 : Blk V bq 55 (poV (polR r)) := by
            have := ((PB.out.set_ 8 (.int .i64 ((r.fa : Int) % 4))).set_ 9 (.int .i64 (1 + (r.op : Int) % 32))).set_ 10 (.int .i64 (1 + (r.pr : Int) % 3))
            rw [hV]
            have e : poV (polR r) = (((poV (polS r)).setIfInBounds 8 (.int .i64 ((r.fa : Int) % 4))).setIfInBounds 9 (.int .i64 (1 + (r.op : Int) % 32))).setIfInBounds 10 (.int .i64 (1 + (r.pr : Int) % 3)) := by
              unfold polS polR poV
              rw [if_neg hf0, if_neg hf0, if_neg hf0]
              rfl
            rw [e]
            exact this
          have I3 : Hid (MdI w cb (madeG lim tau most) v (madeFrom 0 ((rs.take 4).take k)) V) := Lib.hid (by
            rw [hV]
            exact ((I2.out.far8 PB.out hpl' _ _).far8 (PB.out.set_ 8 _) hpl' _ _).far8 ((PB.out.set_ 8 _).set_ 9 _) hpl' _ _)
          rw [← hV]
          clear hV I2 PB RB2 BX d4 d5 e8 e9 e10 ez
          have hy : Hid (∃ y, y = polR r) := Lib.hid ⟨_, rfl⟩
          obtain ⟨y, hy⟩ := hy.out
          have HY := Lib.hid hy
          rw [← hy] at PB3
          have PBH := Lib.hid PB3
          have k7 : V.cell? ⟨cb, 7, none⟩ = some v := I3.out.cf.cell 7
          have CV := nm_conv V k (by omega)
          have y0 : V.cell? ⟨bq, 0, none⟩ = some (.int .i64 y.cap) := PBH.out.cell 0
          have y1 : V.cell? ⟨bq, 1, none⟩ = some (.int .i64 y.pri) := PBH.out.cell 1
          have y2 : V.cell? ⟨bq, 2, none⟩ = some (.int .i64 y.spl) := PBH.out.cell 2
          have y3 : V.cell? ⟨bq, 3, none⟩ = some (.int .i64 y.ddl) := PBH.out.cell 3
          have y4 : V.cell? ⟨bq, 4, none⟩ = some (.int .i64 y.mis) := PBH.out.cell 4
          have y5 : V.cell? ⟨bq, 5, none⟩ = some (.int .i64 y.keep) := PBH.out.cell 5
          have y6 : V.cell? ⟨bq, 6, none⟩ = some (.int .i64 y.t) := PBH.out.cell 6
          have y7 : V.cell? ⟨bq, 7, none⟩ = some (.int .i64 y.tau) := PBH.out.cell 7
          have y8 : V.cell? ⟨bq, 8, none⟩ = some (.int .i64 y.f) := PBH.out.cell 8
          have y9 : V.cell? ⟨bq, 9, none⟩ = some (.int .i64 y.o) := PBH.out.cell 9
          have y10 : V.cell? ⟨bq, 10, none⟩ = some (.int .i64 y.r) := PBH.out.cell 10
          have y11 : V.cell? ⟨bq, 11, none⟩ = some (.int .i64 y.m) := PBH.out.cell 11
          have y12 : V.cell? ⟨bq, 12, none⟩ = some (.int .i64 y.b) := PBH.out.cell 12
          have y13 : V.cell? ⟨bq, 13, none⟩ = some (.int .i64 y.c) := PBH.out.cell 13
          have y14 : V.cell? ⟨bq, 14, none⟩ = some (.int .i64 y.j) := PBH.out.cell 14
          have hblt : bq < V.heap.size := PBH.out.lt
          obtain ⟨i0, hi0, hz0, hz1, hz2⟩ := info_parts info_job
          have hml1 : k + 1 ≤ maxLen := by unfold maxLen; omega
          have hml2 : (k + 1) * 256 ≤ 140737488355328 := by omega
          have hvs : w.heap.size + 1 ≤ V.heap.size := by have h1 := I3.out.lo; have h2 := I3.out.cf.lt; omega
          have hml3 : w.heap.size + 1 ≤ ((V.alloc (.cells #[.int .u8 (97 + (k : Int))] 5)).alloc (.cells #[.string (nmR k), .int .i64 0, .int .u64 0, .int .u64 0, .int .u64 0, .int .u64 0, .int .u64 0, .int .u64 0, .bool false, .bool false, .int .i64 0, .int .i64 0, .int .i64 0, .int .i64 0, .slice none 0 0, .int .i64 y.cap, .int .i64 y.pri, .int .i64 y.spl, .int .i64 y.ddl, .int .i64 y.mis, .int .i64 y.keep, .int .i64 y.t, .int .i64 y.tau, .int .i64 y.f, .int .i64 y.o, .int .i64 y.r, .int .i64 y.m, .int .i64 y.b, .int .i64 y.c, .int .i64 y.j] 57)).heap.size := by simp; omega
          have HLN : Hid ((madeFrom 0 ((rs.take 4).take k)).length = k) := Lib.hid (by rw [madeFrom_len, List.length_take, HMT.out.1]; omega)
          have HROW := I3.out.own
          unfold OwnsC at HROW
          rw [HLN.out] at HROW
          have HROW := Lib.hid HROW
          have I4 := Lib.hid (I3.out.next (two_boxes V (.cells #[.int .u8 (97 + (k : Int))] 5) (.cells #[.string (nmR k), .int .i64 0, .int .u64 0, .int .u64 0, .int .u64 0, .int .u64 0, .int .u64 0, .int .u64 0, .bool false, .bool false, .int .i64 0, .int .i64 0, .int .i64 0, .int .i64 0, .slice none 0 0, .int .i64 y.cap, .int .i64 y.pri, .int .i64 y.spl, .int .i64 y.ddl, .int .i64 y.mis, .int .i64 y.keep, .int .i64 y.t, .int .i64 y.tau, .int .i64 y.f, .int .i64 y.o, .int .i64 y.r, .int .i64 y.m, .int .i64 y.b, .int .i64 y.c, .int .i64 y.j] 57)))
          have HRN := Lib.hid (show ∀ (i : Nat) (u : Value), ([.string (nmR k), .int .i64 0, .int .u64 0, .int .u64 0, .int .u64 0, .int .u64 0, .int .u64 0, .int .u64 0, .bool false, .bool false, .int .i64 0, .int .i64 0, .int .i64 0, .int .i64 0, .slice none 0 0, .int .i64 y.cap, .int .i64 y.pri, .int .i64 y.spl, .int .i64 y.ddl, .int .i64 y.mis, .int .i64 y.keep, .int .i64 y.t, .int .i64 y.tau, .int .i64 y.f, .int .i64 y.o, .int .i64 y.r, .int .i64 y.m, .int .i64 y.b, .int .i64 y.c, .int .i64 y.j] : List Value)[i]? = some u → ((V.alloc (.cells #[.int .u8 (97 + (k : Int))] 5)).alloc (.cells #[.string (nmR k), .int .i64 0, .int .u64 0, .int .u64 0, .int .u64 0, .int .u64 0, .int .u64 0, .int .u64 0, .bool false, .bool false, .int .i64 0, .int .i64 0, .int .i64 0, .int .i64 0, .slice none 0 0, .int .i64 y.cap, .int .i64 y.pri, .int .i64 y.spl, .int .i64 y.ddl, .int .i64 y.mis, .int .i64 y.keep, .int .i64 y.t, .int .i64 y.tau, .int .i64 y.f, .int .i64 y.o, .int .i64 y.r, .int .i64 y.m, .int .i64 y.b, .int .i64 y.c, .int .i64 y.j] 57)).cell? ((⟨V.heap.size + 1, 0, none⟩ : Addr).add i) = some u from row_new (cs := #[.string (nmR k), .int .i64 0, .int .u64 0, .int .u64 0, .int .u64 0, .int .u64 0, .int .u64 0, .int .u64 0, .bool false, .bool false, .int .i64 0, .int .i64 0, .int .i64 0, .int .i64 0, .slice none 0 0, .int .i64 y.cap, .int .i64 y.pri, .int .i64 y.spl, .int .i64 y.ddl, .int .i64 y.mis, .int .i64 y.keep, .int .i64 y.t, .int .i64 y.tau, .int .i64 y.f, .int .i64 y.o, .int .i64 y.r, .int .i64 y.m, .int .i64 y.b, .int .i64 y.c, .int .i64 y.j]) (T := 57) (blk_newAt (by simp)))
          have HPJ := Lib.hid (show ∀ u ∈ ([.string (nmR k), .int .i64 0, .int .u64 0, .int .u64 0, .int .u64 0, .int .u64 0, .int .u64 0, .int .u64 0, .bool false, .bool false, .int .i64 0, .int .i64 0, .int .i64 0, .int .i64 0, .slice none 0 0, .int .i64 y.cap, .int .i64 y.pri, .int .i64 y.spl, .int .i64 y.ddl, .int .i64 y.mis, .int .i64 y.keep, .int .i64 y.t, .int .i64 y.tau, .int .i64 y.f, .int .i64 y.o, .int .i64 y.r, .int .i64 y.m, .int .i64 y.b, .int .i64 y.c, .int .i64 y.j] : List Value), u.oneCell' = true from jbV_one ⟨nmR k, plE0, y⟩)
          clear hy PB3 d3
          go_wp2_with (first | (at_builtin; refine wpList_append_lies _ rfl _ _ 29 rfl (w.heap.size + 1) 57 i0 (.agg zJ) 30 256 Tryz.underlying29 hi0 hz0 hz1 hz2 rfl (by decide) v k _ rfl (own_alloc (own_alloc HROW.out _) _) ⟨V.heap.size + 1, 0, none⟩ 1 1 ([.string (nmR k), .int .i64 0, .int .u64 0, .int .u64 0, .int .u64 0, .int .u64 0, .int .u64 0, .int .u64 0, .bool false, .bool false, .int .i64 0, .int .i64 0, .int .i64 0, .int .i64 0, .slice none 0 0, .int .i64 y.cap, .int .i64 y.pri, .int .i64 y.spl, .int .i64 y.ddl, .int .i64 y.mis, .int .i64 y.keep, .int .i64 y.t, .int .i64 y.tau, .int .i64 y.f, .int .i64 y.o, .int .i64 y.r, .int .i64 y.m, .int .i64 y.b, .int .i64 y.c, .int .i64 y.j] : List Value) rfl rfl HRN.out HPJ.out (by decide) hml1 hml2 hml3 _ rfl ?_; intro g8 cap8 w8 hown8 hgrow8 _ _; have hg8 := (I4.out.grown hgrow8).1; have c7 : w8.cell? ⟨cb, 7, none⟩ = some v := hg8.cell 7; have f7 : w8.frozen? ⟨cb, 7, none⟩ = false := hg8.frozen 7; have HP := Lib.hid (I4.out.push (j := ⟨nmR k, plE0, y⟩) (by rw [HLN.out]; exact hown8) hgrow8); clear hg8 hown8 hgrow8))
          refine ⟨⟨k + 1, by omega, by go_num, _, (by rw [HTK.out]; have := HP.out; rw [HY.out] at this; exact this), fun h => absurd h (Nat.succ_ne_zero _)⟩, ?_⟩
          simp [intA]; omega
    · obtain rfl : m = k := by omega
      clear HRA HM1
      obtain ⟨a2, c2, hv, -, -⟩ := HI.out.own.shape
      have HLN : Hid ((madeFrom 0 ((rs.take 4).take m)).length = m) := Lib.hid (by rw [madeFrom_len, hlast.out, HMT.out.1])
      rw [HLN.out] at hv
      subst hv
      generalize hn2 : m = n2 at *
      have k0 : wr.cell? ⟨cb, 0, none⟩ = some (.int .i64 (madeG lim tau most).cap) := HI.out.cf.cell 0
      have k1 : wr.cell? ⟨cb, 1, none⟩ = some (.int .i64 (madeG lim tau most).q) := HI.out.cf.cell 1
      have k2 : wr.cell? ⟨cb, 2, none⟩ = some (.int .i64 (madeG lim tau most).ar) := HI.out.cf.cell 2
      have k3 : wr.cell? ⟨cb, 3, none⟩ = some (.int .i64 (madeG lim tau most).ag) := HI.out.cf.cell 3
      have k4 : wr.cell? ⟨cb, 4, none⟩ = some (.int .u64 (madeG lim tau most).sd) := HI.out.cf.cell 4
      have k5 : wr.cell? ⟨cb, 5, none⟩ = some (.int .i64 (madeG lim tau most).t) := HI.out.cf.cell 5
      have k6 : wr.cell? ⟨cb, 6, none⟩ = some (.int .i64 (madeG lim tau most).tau) := HI.out.cf.cell 6
      have k7 : wr.cell? ⟨cb, 7, none⟩ = some (.slice a2 n2 c2) := HI.out.cf.cell 7
      have z0 : wr.cell? ⟨w.heap.size, 0, none⟩ = some (.int .i64 0) := HI.out.c8.cell 0
      have z1 : wr.cell? ⟨w.heap.size, 1, none⟩ = some (.int .i64 0) := HI.out.c8.cell 1
      have z2 : wr.cell? ⟨w.heap.size, 2, none⟩ = some (.int .i64 0) := HI.out.c8.cell 2
      have z3 : wr.cell? ⟨w.heap.size, 3, none⟩ = some (.int .i64 0) := HI.out.c8.cell 3
      have z4 : wr.cell? ⟨w.heap.size, 4, none⟩ = some (.int .u64 0) := HI.out.c8.cell 4
      have z5 : wr.cell? ⟨w.heap.size, 5, none⟩ = some (.int .i64 0) := HI.out.c8.cell 5
      have z6 : wr.cell? ⟨w.heap.size, 6, none⟩ = some (.int .i64 0) := HI.out.c8.cell 6
      have z7 : wr.cell? ⟨w.heap.size, 7, none⟩ = some (.slice none 0 0) := HI.out.c8.cell 7
      have fz : ∀ o, wr.frozen? ⟨w.heap.size, o, none⟩ = false := fun o => HI.out.c8.frozen o
      generalize hmg : madeG lim tau most = mg at *
      have HMG := Lib.hid hmg
      clear hmg hn2
      have hlo := HI.out.lo
      go_wp2_with fail
      have HZ := blk8s HI.out.c8 rfl (.int .i64 mg.cap) (.int .i64 mg.q) (.int .i64 mg.ar) (.int .i64 mg.ag) (.int .u64 mg.sd) (.int .i64 mg.t) (.int .i64 mg.tau) (.slice a2 n2 c2)
      refine bodyPost_ret (results_cell_row rfl _ _ w.heap.size _ _ (0, 0) _ rfl HZ Tryz.underlying31 rfl (by kernel_rfl)) rfl ?_
      have e4 : (rs.take 4).length = n2 := HMT.out.1
      rw [e4]
      refine ⟨a2, c2, by rw [HMG.out]; rfl, ?_, ?_⟩
      · have ho := HI.out.own
        rw [hlast.out] at ho
        refine own_mono (C := w.heap.size + 1) ?_ (Nat.le_succ _)
        refine own_farb (own_farb (own_farb (own_farb (own_farb (own_farb (own_farb (own_farb ho ?_ _ _) ?_ _ _) ?_ _ _) ?_ _ _) ?_ _ _) ?_ _ _) ?_ _ _) ?_ _ _
        all_goals exact Nat.lt_succ_self _
      · exact (((((((HI.out.bel.setCell (Nat.le_refl _) _).setCell (Nat.le_refl _) _).setCell (Nat.le_refl _) _).setCell (Nat.le_refl _) _).setCell (Nat.le_refl _) _).setCell (Nat.le_refl _) _).setCell (Nat.le_refl _) _).setCell (Nat.le_refl _) _

end Go.Proofs.YtpgckpafjiojfaaGreatDoor.AD

