/- The walk of wakemanlaw35.AdmitOthers. -/
import Derived.Test.YtmbnmfcjbbfkoaaGreatDoorAHq
namespace Go.Proofs.YtmbnmfcjbbfkoaaGreatDoor.AD
open Go Go.RowKit BW
open BK (Bx BoxAt Blk only_refl only_drew only_drewN only_setCell only_trans only_of_below only_alloc below_drewN)
theorem own_cap {B g n c : Nat} {L : JL} {W : World} (h : OwnsC B (.slice (some ⟨g, 0, none⟩) n c) L W) : L.length ≤ c ∧ n = L.length := by
  rcases h.2 with ⟨h1, _⟩ | ⟨g', cap, cur, h1, h2, h3, h4, h5, h6, h7⟩
  · cases h1
  · injection h1 with h1 h8 h9
    omega
set_option maxRecDepth 100000 in
set_option maxHeartbeats 2000000 in
theorem others_walk (a : Option Addr) (rs : List Rl) (n c : Nat) (ma : Option Addr) (ms : List Mv) (mn mc job : Nat) (hn : rs.length = n) (hnc : n ≤ c) (h9 : n ≤ 9223372036854775807) (hmn : ms.length = mn) (hmc : mn ≤ mc) (hm9 : mn ≤ 9223372036854775807) (h5 : job < 256) (w : World) (hR : RulesAt w a rs) (hM : MovesAt w ma ms) (hT : SpTab w) (hTab : Tab w) :
    Calls Tryz.prog 4 #[.slice a n c, .slice ma mn mc, .int .u8 job] w fun e w' => e = .returned (.bool true) ∧ Below w.heap.size w w' := by
  have TT := Lib.hid (fun W (hb : Below w.heap.size w W) => And.intro (hT.below hb) (tab_below hTab hb (tab_lt hTab)))
  have HM := Lib.hid (fun W (hb : Below w.heap.size w W) => MovesAt.below hM hb)
  have HMN := Lib.hid hmn
  have MD := Lib.hid (made_zero rs a n c hn h9 hnc w hR)
  clear hT hTab hM hR hn hmn
  go_enter Tryz.func4, Tryz.ntmps4
  go_wp2_with fail
  refine (MD.out).mono ?_
  rintro e_ w1 ⟨qs, m, g, c', hq, hm0, hm4, rfl, ho, hb⟩
  have O1 := Lib.hid ho
  have B1 := Lib.hid hb
  have HQ := Lib.hid hq
  have hcc : m ≤ c' := by have h1 := own_cap ho; rw [madeFrom_len] at h1; omega
  clear ho hb MD hq
  go_upto_region 2 with fail
  obtain ⟨W2, hW2⟩ : ∃ W2, W2 = w1.alloc (.cells #[.int .i64 1, .int .i64 1, .int .i64 0, .int .i64 1, .int .u64 0, .int .i64 0, .int .i64 0, .slice (some ⟨g, 0, none⟩) m c'] 32) := ⟨_, rfl⟩
  have hb2 : Below w1.heap.size w1 W2 := by rw [hW2]; exact (Below.refl _ _).alloc (Nat.le_refl _) _
  have O2 := Lib.hid (own_below O1.out hb2)
  have C2 : Hid (Blk W2 w1.heap.size 32 #[.int .i64 1, .int .i64 1, .int .i64 0, .int .i64 1, .int .u64 0, .int .i64 0, .int .i64 0, .slice (some ⟨g, 0, none⟩) m c']) := Lib.hid (by rw [hW2]; exact Blk.new _ _ _)
  have B2 := Lib.hid (B1.out.trans (hb2.mono B1.out.size))
  have HCB := Lib.hid B1.out.size
  rw [← hW2]
  generalize w1.heap.size = cb at *
  clear hW2 hb2 O1 B1
  have k0 : W2.cell? ⟨cb, 0, none⟩ = some (.int .i64 1) := C2.out.cell 0
  have f0 : W2.frozen? ⟨cb, 0, none⟩ = false := C2.out.frozen 0
  go_upto_region 3 with fail
  obtain ⟨W3, hW3⟩ : ∃ W3, W3 = W2.setCell ⟨cb, 0, none⟩ (.int .i64 1000) := ⟨_, rfl⟩
  have O3 : Hid (OwnsC w.heap.size (.slice (some ⟨g, 0, none⟩) m c') (madeFrom 0 qs) W3) := Lib.hid (by rw [hW3]; exact own_set O2.out C2.out (by decide) 0 _)
  have C3 : Hid (Blk W3 cb 32 #[.int .i64 1000, .int .i64 1, .int .i64 0, .int .i64 1, .int .u64 0, .int .i64 0, .int .i64 0, .slice (some ⟨g, 0, none⟩) m c']) := Lib.hid (by rw [hW3]; exact C2.out.set_ 0 (.int .i64 1000))
  have B3 : Hid (Below w.heap.size w W3) := Lib.hid (by rw [hW3]; exact B2.out.setCell HCB.out _)
  rw [← hW3]
  clear hW3 k0 f0 O2 C2 B2
  have k0 : W3.cell? ⟨cb, 0, none⟩ = some (.int .i64 1000) := C3.out.cell 0
  have k1 : W3.cell? ⟨cb, 1, none⟩ = some (.int .i64 1) := C3.out.cell 1
  have k2 : W3.cell? ⟨cb, 2, none⟩ = some (.int .i64 0) := C3.out.cell 2
  have k3 : W3.cell? ⟨cb, 3, none⟩ = some (.int .i64 1) := C3.out.cell 3
  have k4 : W3.cell? ⟨cb, 4, none⟩ = some (.int .u64 0) := C3.out.cell 4
  have k5 : W3.cell? ⟨cb, 5, none⟩ = some (.int .i64 0) := C3.out.cell 5
  have k6 : W3.cell? ⟨cb, 6, none⟩ = some (.int .i64 0) := C3.out.cell 6
  have k7 : W3.cell? ⟨cb, 7, none⟩ = some ((.slice (some ⟨g, 0, none⟩) m c')) := C3.out.cell 7
  have hmz : ((m : Int) == 0) = false := by rw [beq_eq_false_iff_ne]; omega
  have hjc : (job : Int) % (m : Int) = ((job % m : Nat) : Int) := rfl
  have hjm : (job : Int) % (m : Int) < 4 ∧ 0 ≤ (job : Int) % (m : Int) := by
    have h1 := Int.emod_lt_of_pos (job : Int) (show (0 : Int) < (m : Int) by omega)
    have h2 := Int.emod_nonneg (job : Int) (show (m : Int) ≠ 0 by omega)
    omega
  go_upto_region 4 with fail
  rw [hjc]
  have hkm : job % m < m := Nat.mod_lt _ hm0
  clear hjc hjm
  generalize job % m = k at *
  go_upto_region 5 with fail
  obtain ⟨W4, hW4⟩ : ∃ W4, W4 = W3.alloc (.cells #[.int .i64 1000, .int .i64 1, .int .i64 0, .int .i64 1, .int .u64 0, .int .i64 0, .int .i64 0, .slice (some ⟨g, 0, none⟩) m c'] 32) := ⟨_, rfl⟩
  have hb4 : Below W3.heap.size W3 W4 := by rw [hW4]; exact (Below.refl _ _).alloc (Nat.le_refl _) _
  have O4 := Lib.hid (own_below O3.out hb4)
  have C4 := Lib.hid (C3.out.below hb4 C3.out.lt)
  have D4 : Hid (Blk W4 W3.heap.size 32 #[.int .i64 1000, .int .i64 1, .int .i64 0, .int .i64 1, .int .u64 0, .int .i64 0, .int .i64 0, .slice (some ⟨g, 0, none⟩) m c']) := Lib.hid (by rw [hW4]; exact Blk.new _ _ _)
  have B4 := Lib.hid (B3.out.trans (hb4.mono B3.out.size))
  have HAB := Lib.hid (And.intro B3.out.size C3.out.lt)
  rw [← hW4]
  generalize W3.heap.size = ab at *
  clear hW4 hb4 O3 C3 B3 k0 k1 k2 k3 k4 k5 k6 k7
  have k7 : W4.cell? ⟨cb, 7, none⟩ = some (.slice (some ⟨g, 0, none⟩) m c') := C4.out.cell 7
  have a7 : W4.cell? ⟨ab, 7, none⟩ = some (.slice (some ⟨g, 0, none⟩) m c') := D4.out.cell 7
  have f7 : W4.frozen? ⟨ab, 7, none⟩ = false := D4.out.frozen 7
  have hkn : k < 4 := by omega
  have hk1 : IntKind.i64.wrap ((k : Int) + 1) = (k : Int) + 1 := IntWalk.i64_in _ (by omega)
  go_upto_region 6 with fail

  obtain ⟨W5, hW5⟩ : ∃ W5, W5 = W4.setCell ⟨ab, 7, none⟩ (.slice (some ⟨g, k * 30, none⟩) 1 (c' - k)) := ⟨_, rfl⟩
  have O5 : Hid (OwnsC w.heap.size (.slice (some ⟨g, 0, none⟩) m c') (madeFrom 0 qs) W5) := Lib.hid (by rw [hW5]; exact own_set O4.out D4.out (by decide) 7 _)
  have C5 : Hid (Blk W5 cb 32 #[.int .i64 1000, .int .i64 1, .int .i64 0, .int .i64 1, .int .u64 0, .int .i64 0, .int .i64 0, .slice (some ⟨g, 0, none⟩) m c']) := Lib.hid (by rw [hW5]; exact C4.out.far (by have := HAB.out.2; show cb ≠ ab; omega) _)
  have D5 : Hid (Blk W5 ab 32 #[.int .i64 1000, .int .i64 1, .int .i64 0, .int .i64 1, .int .u64 0, .int .i64 0, .int .i64 0, .slice (some ⟨g, k * 30, none⟩) 1 (c' - k)]) := Lib.hid (by rw [hW5]; exact D4.out.set_ 7 (.slice (some ⟨g, k * 30, none⟩) 1 (c' - k)))
  have B5 : Hid (Below w.heap.size w W5) := Lib.hid (by rw [hW5]; exact B4.out.setCell HAB.out.1 _)
  rw [← hW5]
  clear hW5 O4 C4 D4 B4 k7 a7 f7 HAB hk1
  have k0 : W5.cell? ⟨cb, 0, none⟩ = some (.int .i64 1000) := C5.out.cell 0
  have k1 : W5.cell? ⟨cb, 1, none⟩ = some (.int .i64 1) := C5.out.cell 1
  have k2 : W5.cell? ⟨cb, 2, none⟩ = some (.int .i64 0) := C5.out.cell 2
  have k3 : W5.cell? ⟨cb, 3, none⟩ = some (.int .i64 1) := C5.out.cell 3
  have k4 : W5.cell? ⟨cb, 4, none⟩ = some (.int .u64 0) := C5.out.cell 4
  have k5 : W5.cell? ⟨cb, 5, none⟩ = some (.int .i64 0) := C5.out.cell 5
  have k6 : W5.cell? ⟨cb, 6, none⟩ = some (.int .i64 0) := C5.out.cell 6
  have k7 : W5.cell? ⟨cb, 7, none⟩ = some ((.slice (some ⟨g, 0, none⟩) m c')) := C5.out.cell 7
  have A5 := made_arg (lim := 0) (tau := 0) (most := 0) O5.out HQ.out hm4 (TT.out W5 B5.out).1 (TT.out W5 B5.out).2
  have GN := Lib.hid (gnew_yes ⟨G1, some ⟨g, 0, none⟩, m, c'⟩ (madeFrom 0 qs) W5 ⟨⟨A5.in_.n, A5.in_.at_, (show (0 : Nat) < 18446744073709551616 by decide)⟩, A5.n9, A5.p9, A5.st, A5.tab⟩ (g1_ok (made_cfok qs (by rw [HQ.out]; exact hm4) 0 0 0)))
  clear A5
  go_wp2_with fail
  refine (GN.out).mono ?_
  rintro e_ w6 ⟨Y, rfl, hg, hs, hb⟩
  have G6 := Lib.hid hg
  have S6 := Lib.hid hs
  have C6 := Lib.hid (C5.out.below hb C5.out.lt)
  have D6 := Lib.hid (D5.out.below hb D5.out.lt)
  have O6 := Lib.hid (own_below O5.out hb)
  have B6 := Lib.hid (B5.out.trans (hb.mono B5.out.size))
  have HSZ := Lib.hid B5.out.size
  clear hg hs hb GN C5 D5 O5 B5 k0 k1 k2 k3 k4 k5 k6 k7
  obtain ⟨r, hr⟩ : ∃ r, qs[k]? = some r := ⟨_, List.getElem?_eq_getElem (by rw [HQ.out]; exact hkm)⟩
  have HR := Lib.hid hr
  clear hr
  have d0 : w6.cell? ⟨ab, 0, none⟩ = some (.int .i64 1000) := D6.out.cell 0
  have d1 : w6.cell? ⟨ab, 1, none⟩ = some (.int .i64 1) := D6.out.cell 1
  have d2 : w6.cell? ⟨ab, 2, none⟩ = some (.int .i64 0) := D6.out.cell 2
  have d3 : w6.cell? ⟨ab, 3, none⟩ = some (.int .i64 1) := D6.out.cell 3
  have d4 : w6.cell? ⟨ab, 4, none⟩ = some (.int .u64 0) := D6.out.cell 4
  have d5 : w6.cell? ⟨ab, 5, none⟩ = some (.int .i64 0) := D6.out.cell 5
  have d6 : w6.cell? ⟨ab, 6, none⟩ = some (.int .i64 0) := D6.out.cell 6
  have d7 : w6.cell? ⟨ab, 7, none⟩ = some ((.slice (some ⟨g, k * 30, none⟩) 1 (c' - k))) := D6.out.cell 7
  have GM := Lib.hid (gnew_yes ⟨G1, some ⟨g, k * 30, none⟩, 1, c' - k⟩ [(jbR k r, [])] w6 (one_arg O6.out HR.out (c' - k) (TT.out w6 B6.out).1 (TT.out w6 B6.out).2) (one_cfok (by rw [HQ.out]; exact hm4) HR.out))
  go_wp2_with fail
  refine (GM.out).mono ?_
  rintro e_ w7 ⟨Z, rfl, hg, hs, hb⟩
  have K7 := Lib.hid (ot_start HQ.out hm4 HR.out)
  obtain ⟨TH, HTH⟩ : ∃ TH, Hid (TH = w6.heap.size) := ⟨_, Lib.hid rfl⟩
  have I7 : Hid (OtI w.heap.size TH m w cb #[.int .i64 1000, .int .i64 1, .int .i64 0, .int .i64 1, .int .u64 0, .int .i64 0, .int .i64 0, .slice (some ⟨g, 0, none⟩) m c'] Y Z (g0 G1 (madeFrom 0 qs)) (g0 G1 [(jbR k r, [])]) w7) := Lib.hid (by
    rw [HTH.out]
    exact ⟨G6.out.below hb, hg, K7.out.n, rfl, fun i hi => ⟨G6.out.lt (by rw [K7.out.n]; exact hi), Nat.le_trans HSZ.out (S6.out i (by rw [madeFrom_len, HQ.out]; exact hi))⟩, fun i hi => hs i hi, C6.out.below hb C6.out.lt, B6.out.trans (hb.mono B6.out.size), Nat.le_refl _, B6.out.size⟩)
  clear hg hs hb GM G6 S6 C6 D6 O6 B6 HSZ HTH HCB d0 d1 d2 d3 d4 d5 d6 d7
  generalize g0 G1 (madeFrom 0 qs) = x0 at *
  generalize g0 G1 [(jbR k r, [])] = y0 at *
  generalize jt0 (jbR k r, []) = j0 at *
  clear HR HQ
  obtain ⟨mm, HMM⟩ : ∃ mm, Hid (mm = min mn 40) := ⟨_, Lib.hid rfl⟩
  have hm : min (mn : Int) 40 = (mm : Int) := by have := HMM.out; omega
  have hmmc : mm ≤ mc := by have := HMM.out; omega
  have hmmn : mm ≤ mn := by have := HMM.out; omega
  have hmm4 : mm ≤ 40 := by have := HMM.out; omega
  go_wp2_with fail
  go_loopw [14, 69] (fun s14 s69 wr => ∃ q : Nat, q ≤ mm ∧ s69 = .int .i64 q ∧ ∃ (now : Int) (x y : Gt) (j : Jt), s14 = .int .i64 now ∧ OtI w.heap.size TH m w cb #[.int .i64 1000, .int .i64 1, .int .i64 0, .int .i64 1, .int .u64 0, .int .i64 0, .int .i64 0, .slice (some ⟨g, 0, none⟩) m c'] Y Z x y wr ∧ OtK x y k m j now ∧ 50 ≤ now ∧ now ≤ 50 + 7 * (q : Int)) (fun _ s69 _ => mm - intA s69)
  case atStart => exact ⟨0, Nat.zero_le _, rfl, 50, _, _, _, rfl, I7.out, K7.out, by decide, by decide⟩
  case round =>
    obtain ⟨q, hq, rfl, now, x, y, j, rfl, hI, hK, hlo, hnow⟩ := hrel
    have HI := Lib.hid hI
    have HK := Lib.hid hK
    clear hI hK I7 K7 hm
    rcases Nat.lt_or_ge q mm with hlt | hge
    · have hql : q < ms.length := by rw [HMN.out]; omega
      obtain ⟨b, off, rfl, hcl, hok⟩ := (HM.out wr HI.out.bel) q hql
      obtain ⟨mv, hmv⟩ : ∃ mv, ms[q] = mv := ⟨_, rfl⟩
      rw [hmv] at hcl hok
      have c0 : wr.cell? ⟨b, off + q * 3, none⟩ = some (.int .u8 mv.ah) := hcl 0 (by decide)
      have c1 : wr.cell? ⟨b, off + q * 3 + 1, none⟩ = some (.int .u8 mv.job) := hcl 1 (by decide)
      have c2 : wr.cell? ⟨b, off + q * 3 + 2, none⟩ = some (.int .u8 mv.kind) := hcl 2 (by decide)
      obtain ⟨ho1, ho2, ho3⟩ := hok
      clear hcl hmv hql
      obtain ⟨t, HT⟩ : ∃ t : Int, Hid (now + (mv.ah : Int) % 8 = t) := ⟨_, Lib.hid rfl⟩
      have ht1 : now ≤ t := by have := HT.out; omega
      have ht3 : t ≤ 50 + 7 * ((q : Int) + 1) := by have := HT.out; omega
      go_upto_region 14 with fail
      obtain ⟨X1, hX1⟩ : ∃ X1, X1 = wr.alloc (.cells #[.int .u8 mv.ah, .int .u8 mv.job, .int .u8 mv.kind] 61) := ⟨_, rfl⟩
      have hbX : Below wr.heap.size wr X1 := by rw [hX1]; exact (Below.refl _ _).alloc (Nat.le_refl _) _
      have MB : Hid (Blk X1 wr.heap.size 61 #[.int .u8 mv.ah, .int .u8 mv.job, .int .u8 mv.kind]) := Lib.hid (by rw [hX1]; exact Blk.new _ _ _)
      have I2 := Lib.hid (HI.out.below hbX)
      rw [← hX1]
      generalize wr.heap.size = mb at *
      clear hX1 hbX c0 c1 c2 HI
      have d0 : X1.cell? ⟨mb, 0, none⟩ = some (.int .u8 mv.ah) := MB.out.cell 0
      have d1 : X1.cell? ⟨mb, 1, none⟩ = some (.int .u8 mv.job) := MB.out.cell 1
      have d2 : X1.cell? ⟨mb, 2, none⟩ = some (.int .u8 mv.kind) := MB.out.cell 2
      have k7 : X1.cell? ⟨cb, 7, none⟩ = some (.slice (some ⟨g, 0, none⟩) m c') := I2.out.c.cell 7
      have hs := HT.out
      have hw1 : IntKind.i64.wrap (now + (mv.ah : Int) % 8) = t := by rw [IntWalk.i64_in _ (by omega)]; exact hs
      go_upto_region 15 with fail
      clear hs hw1
      have hjm : (mv.job : Int) % (m : Int) < 4 ∧ 0 ≤ (mv.job : Int) % (m : Int) := by
        have h1 := Int.emod_lt_of_pos (mv.job : Int) (show (0 : Int) < (m : Int) by omega)
        have h2 := Int.emod_nonneg (mv.job : Int) (show (m : Int) ≠ 0 by omega)
        omega
      go_upto_region 16 with fail
      rw [show (mv.job : Int) % (m : Int) = ((mv.job % m : Nat) : Int) from rfl]
      have him : mv.job % m < m := Nat.mod_lt _ hm0
      clear hjm
      generalize mv.job % m = i at *
      rcases Nat.lt_or_ge (mv.kind % 16) 5 with hk5 | hk5
      · have q5 : decide ((mv.kind : Int) % 16 < 5) = true := by simp; omega
        rcases Nat.lt_or_ge i k with hik | hik
        · have n1 : ((i : Int) == (k : Int)) = false := by rw [beq_eq_false_iff_ne]; omega
          have n2 : ((i : Int) != (k : Int)) = true := by rw [bne, n1]; rfl
          have K3 := Lib.hid (HK.out.giveO ht1 (i := i) (by omega) (decide ((mv.kind : Int) % 16 < 3)))
          go_wp2_with fail
          refine (ot_giveG I2.out i (decide ((mv.kind : Int) % 16 < 3)) t (Prod.ext rfl (Prod.ext rfl rfl))).mono ?_
          rintro e_ X3 ⟨rfl, h⟩
          have I3 := Lib.hid h
          clear h
          go_wp2_with fail
          refine ⟨⟨q + 1, by omega, by go_num, t, _, y, j, rfl, I3.out, K3.out, by omega, by omega⟩, ?_⟩
          simp [intA]; omega
        · rcases Nat.eq_or_lt_of_le hik with hik | hik
          · subst hik
            obtain ⟨ev, er, x', y', j', e1, e2, hk'⟩ := HK.out.give ht1 (by omega) (by omega) (decide ((mv.kind : Int) % 16 < 3))
            have E1 := Lib.hid e1
            have E2 := Lib.hid e2
            have K4 := Lib.hid hk'
            clear e1 e2 hk' HK
            go_wp2_with fail
            refine (ot_giveG I2.out k _ t E1.out).mono ?_
            rintro e_ X3 ⟨rfl, h⟩
            have I3 := Lib.hid h
            clear h
            go_wp2_with fail
            refine (ot_giveH I3.out 0 _ t E2.out).mono ?_
            rintro e_ X4 ⟨rfl, h⟩
            have I4 := Lib.hid h
            clear h I3
            obtain ⟨s, is, n1, n2⟩ := K4.out.next I4.out.g.inv (Int.le_refl _) (by omega) (by omega)
            have N1 := Lib.hid n1
            have N2 := Lib.hid n2
            clear n1 n2
            go_wp2_with fail
            refine (ot_nextG I4.out k t N1.out).mono ?_
            rintro e_ X5 ⟨rfl, h⟩
            have I5 := Lib.hid h
            clear h I4
            go_wp2_with fail
            refine (ot_nextH I5.out 0 t N2.out).mono ?_
            rintro e_ X6 ⟨rfl, h⟩
            have I6 := Lib.hid h
            clear h I5
            go_wp2_with fail
            refine ⟨⟨q + 1, by omega, by go_num, t, x', y', j', rfl, I6.out, K4.out, by omega, by omega⟩, ?_⟩
            simp [intA]; omega
          · have n1 : ((i : Int) == (k : Int)) = false := by rw [beq_eq_false_iff_ne]; omega
            have n2 : ((i : Int) != (k : Int)) = true := by rw [bne, n1]; rfl
            have K3 := Lib.hid (HK.out.giveO ht1 (i := i) (by omega) (decide ((mv.kind : Int) % 16 < 3)))
            go_wp2_with fail
            refine (ot_giveG I2.out i (decide ((mv.kind : Int) % 16 < 3)) t (Prod.ext rfl (Prod.ext rfl rfl))).mono ?_
            rintro e_ X3 ⟨rfl, h⟩
            have I3 := Lib.hid h
            clear h
            go_wp2_with fail
            refine ⟨⟨q + 1, by omega, by go_num, t, _, y, j, rfl, I3.out, K3.out, by omega, by omega⟩, ?_⟩
            simp [intA]; omega
      · have q5 : decide ((mv.kind : Int) % 16 < 5) = false := by simp; omega
        rcases Nat.lt_or_ge i k with hik | hik
        · have n1 : ((i : Int) == (k : Int)) = false := by rw [beq_eq_false_iff_ne]; omega
          have n2 : ((i : Int) != (k : Int)) = true := by rw [bne, n1]; rfl
          have K3 := Lib.hid (HK.out.takeO ht1 (i := i) (by omega))
          go_wp2_with fail
          refine (ot_takeG I2.out i t (Prod.ext rfl rfl)).mono ?_
          rintro e_ X3 ⟨rfl, h⟩
          have I3 := Lib.hid h
          clear h
          go_wp2_with fail
          refine ⟨⟨q + 1, by omega, by go_num, t, _, y, j, rfl, I3.out, K3.out, by omega, by omega⟩, ?_⟩
          simp [intA]; omega
        · rcases Nat.eq_or_lt_of_le hik with hik | hik
          · subst hik
            obtain ⟨er, x', y', j', e1, e2, hk'⟩ := HK.out.take I2.out.g.inv ht1 (by omega) (by omega)
            have E1 := Lib.hid e1
            have E2 := Lib.hid e2
            have K4 := Lib.hid hk'
            clear e1 e2 hk' HK
            go_wp2_with fail
            refine (ot_takeG I2.out k t E1.out).mono ?_
            rintro e_ X3 ⟨rfl, h⟩
            have I3 := Lib.hid h
            clear h
            go_wp2_with fail
            refine (ot_takeH I3.out 0 t E2.out).mono ?_
            rintro e_ X4 ⟨rfl, h⟩
            have I4 := Lib.hid h
            clear h I3
            obtain ⟨s, is, n1, n2⟩ := K4.out.next I4.out.g.inv (Int.le_refl _) (by omega) (by omega)
            have N1 := Lib.hid n1
            have N2 := Lib.hid n2
            clear n1 n2
            go_wp2_with fail
            refine (ot_nextG I4.out k t N1.out).mono ?_
            rintro e_ X5 ⟨rfl, h⟩
            have I5 := Lib.hid h
            clear h I4
            go_wp2_with fail
            refine (ot_nextH I5.out 0 t N2.out).mono ?_
            rintro e_ X6 ⟨rfl, h⟩
            have I6 := Lib.hid h
            clear h I5
            go_wp2_with fail
            refine ⟨⟨q + 1, by omega, by go_num, t, x', y', j', rfl, I6.out, K4.out, by omega, by omega⟩, ?_⟩
            simp [intA]; omega
          · have n1 : ((i : Int) == (k : Int)) = false := by rw [beq_eq_false_iff_ne]; omega
            have n2 : ((i : Int) != (k : Int)) = true := by rw [bne, n1]; rfl
            have K3 := Lib.hid (HK.out.takeO ht1 (i := i) (by omega))
            go_wp2_with fail
            refine (ot_takeG I2.out i t (Prod.ext rfl rfl)).mono ?_
            rintro e_ X3 ⟨rfl, h⟩
            have I3 := Lib.hid h
            clear h
            go_wp2_with fail
            refine ⟨⟨q + 1, by omega, by go_num, t, _, y, j, rfl, I3.out, K3.out, by omega, by omega⟩, ?_⟩
            simp [intA]; omega
    · obtain rfl : mm = q := by omega
      go_wp2_with fail
      refine (aworks_ok _ (TT.out _ HI.out.bel).1 (TT.out _ HI.out.bel).2).mono ?_
      rintro e_ X9 ⟨rfl, hb⟩
      have BE := Lib.hid (HI.out.bel.trans (hb.mono HI.out.bel.size))
      clear hb
      go_wp2_with fail
      go_ret
      exact ⟨rfl, BE.out⟩

end Go.Proofs.YtmbnmfcjbbfkoaaGreatDoor.AD
