/- The walk of wakemanlaw35.AdmitNexts. -/
import Derived.Test.YtmbnmfcjbbfkoaaGreatDoorAHo
namespace Go.Proofs.YtmbnmfcjbbfkoaaGreatDoor.AD
open Go Go.RowKit BW
open BK (Bx BoxAt Blk only_refl only_drew only_drewN only_setCell only_trans only_of_below only_alloc below_drewN)
set_option maxRecDepth 100000 in
set_option maxHeartbeats 2000000 in
theorem nexts_walk (a : Option Addr) (rs : List Rl) (n c lim tau most : Nat) (ma : Option Addr) (ms : List Mv) (mn mc job later : Nat) (hn : rs.length = n) (hnc : n ≤ c) (h9 : n ≤ 9223372036854775807) (h1 : lim < 256) (h2 : tau < 256) (h3 : most < 256) (hmn : ms.length = mn) (hmc : mn ≤ mc) (hm9 : mn ≤ 9223372036854775807) (h5 : job < 256) (h6 : later < 256) (w : World) (hR : RulesAt w a rs) (hM : MovesAt w ma ms) (hT : SpTab w) (hTab : Tab w) :
    Calls Tryz.prog 5 #[.slice a n c, .int .u8 lim, .int .u8 tau, .int .u8 most, .slice ma mn mc, .int .u8 job, .int .u8 later] w fun e w' => e = .returned (.bool true) ∧ Below w.heap.size w w' := by
  have TT := Lib.hid (fun W (hb : Below w.heap.size w W) => And.intro (hT.below hb) (tab_below hTab hb (tab_lt hTab)))
  have HM := Lib.hid (fun W (hb : Below w.heap.size w W) => MovesAt.below hM hb)
  have HMN := Lib.hid hmn
  have MD := Lib.hid (made_any rs a n c hn lim tau most h1 h2 h3 h9 hnc w hR)
  clear hT hTab hM hR hn hmn
  go_enter Tryz.func5, Tryz.ntmps5
  go_wp2_with fail
  refine (MD.out).mono ?_
  rintro e_ w1 ⟨qs, m, g, c', hq, hm0, hm4, rfl, ho, hb⟩
  have O1 := Lib.hid ho
  have B1 := Lib.hid hb
  have HQ := Lib.hid hq
  clear ho hb MD hq
  go_upto_region 2 with fail
  obtain ⟨W2, hW2⟩ : ∃ W2, W2 = w1.alloc (.cells #[.int .i64 (1 + (most : Int) % 8), .int .i64 1, .int .i64 0, .int .i64 1, .int .u64 0, .int .i64 (smT lim), .int .i64 (smA lim tau), .slice (some ⟨g, 0, none⟩) m c'] 32) := ⟨_, rfl⟩
  have hb2 : Below w1.heap.size w1 W2 := by rw [hW2]; exact (Below.refl _ _).alloc (Nat.le_refl _) _
  have O2 := Lib.hid (own_below O1.out hb2)
  have C2 : Hid (Blk W2 w1.heap.size 32 #[.int .i64 (1 + (most : Int) % 8), .int .i64 1, .int .i64 0, .int .i64 1, .int .u64 0, .int .i64 (smT lim), .int .i64 (smA lim tau), .slice (some ⟨g, 0, none⟩) m c']) := Lib.hid (by rw [hW2]; exact Blk.new _ _ _)
  have B2 := Lib.hid (B1.out.trans (hb2.mono B1.out.size))
  rw [← hW2]
  generalize w1.heap.size = cb at *
  clear hW2 hb2 O1 B1
  have k0 : W2.cell? ⟨cb, 0, none⟩ = some (.int .i64 (1 + (most : Int) % 8)) := C2.out.cell 0
  have k1 : W2.cell? ⟨cb, 1, none⟩ = some (.int .i64 1) := C2.out.cell 1
  have k2 : W2.cell? ⟨cb, 2, none⟩ = some (.int .i64 0) := C2.out.cell 2
  have k3 : W2.cell? ⟨cb, 3, none⟩ = some (.int .i64 1) := C2.out.cell 3
  have k4 : W2.cell? ⟨cb, 4, none⟩ = some (.int .u64 0) := C2.out.cell 4
  have k5 : W2.cell? ⟨cb, 5, none⟩ = some (.int .i64 (smT lim)) := C2.out.cell 5
  have k6 : W2.cell? ⟨cb, 6, none⟩ = some (.int .i64 (smA lim tau)) := C2.out.cell 6
  have k7 : W2.cell? ⟨cb, 7, none⟩ = some (.slice (some ⟨g, 0, none⟩) m c') := C2.out.cell 7
  have AF := Lib.hid (after_ok (madeG lim tau most) (madeFrom 0 qs) (some ⟨g, 0, none⟩) m c' hm0 hm4 (by rw [madeFrom_len]; exact HQ.out) ma ms mn mc HMN.out hmc hm9 W2 (made_arg O2.out HQ.out hm4 (TT.out W2 B2.out).1 (TT.out W2 B2.out).2) (made_cfok qs (by rw [HQ.out]; exact hm4) lim tau most) (sm_made qs lim tau most) (HM.out W2 B2.out))
  go_wp2_with fail
  refine (AF.out).mono ?_
  rintro e_ w3 ⟨Y, x, now, rfl, hg, hs, hxn, hlo, hhi⟩
  obtain ⟨tn, HTN⟩ : ∃ tn : Int, Hid (now + (later : Int) % 16 = tn) := ⟨_, Lib.hid rfl⟩
  have htn : 50 ≤ tn ∧ tn ≤ 345 := by have := HTN.out; omega
  have I3 : Hid (AfI w.heap.size w cb m #[.int .i64 (1 + (most : Int) % 8), .int .i64 1, .int .i64 0, .int .i64 1, .int .u64 0, .int .i64 (smT lim), .int .i64 (smA lim tau), .slice (some ⟨g, 0, none⟩) m c'] Y x tn w3) := Lib.hid ⟨⟨hg.g, B2.out.trans (hg.bel.mono B2.out.size), fun i hi => Nat.le_trans B2.out.size (hg.own i hi), Nat.le_refl _⟩, C2.out.below hg.bel C2.out.lt, hs.later (by have := HTN.out; omega), hxn⟩
  clear hg hs hxn AF C2 B2 O2 HQ HM HMN k0 k1 k2 k3 k4 k5 k6 k7
  have k7 : w3.cell? ⟨cb, 7, none⟩ = some (.slice (some ⟨g, 0, none⟩) m c') := I3.out.c.cell 7
  have hmz : ((m : Int) == 0) = false := by rw [beq_eq_false_iff_ne]; omega
  have hjm : (job : Int) % (m : Int) < 4 ∧ 0 ≤ (job : Int) % (m : Int) ∧ (job : Int) % (m : Int) < m := by
    have h1 := Int.emod_lt_of_pos (job : Int) (show (0 : Int) < (m : Int) by omega)
    have h2 := Int.emod_nonneg (job : Int) (show (m : Int) ≠ 0 by omega)
    omega
  go_upto_region 6 with fail
  generalize (job : Int) % (m : Int) = jv at *
  have hs := HTN.out
  have hw1 : IntKind.i64.wrap (now + (later : Int) % 16) = tn := by rw [IntWalk.i64_in _ (by omega)]; exact hs
  go_upto_region 7 with fail
  clear hs hw1 hmz k7
  obtain ⟨t, is, he, hp⟩ := nx_law I3.out.h.g.inv I3.out.s (by omega) (by omega) (k := jv) (by rw [I3.out.n]; omega)
  have HE := Lib.hid he
  have HPX := Lib.hid hp
  clear he hp
  go_wp2_with fail
  refine (gh_next I3.out.h jv tn HE.out).mono ?_
  rintro e_ w5 ⟨rfl, h, hk⟩
  have I5 := Lib.hid (I3.out.go h hk I3.out.s rfl)
  clear h hk HE I3
  cases is
  · obtain ⟨ht0, hwhy⟩ := HPX.out.no rfl
    have HW := Lib.hid hwhy
    subst ht0
    clear hwhy HPX
    go_wp2_with fail
    go_loopw [24] (fun s24 wr => ∃ y : Int, s24 = .int .i64 y ∧ tn ≤ y ∧ y ≤ tn + 100 ∧ AfI w.heap.size w cb m #[.int .i64 (1 + (most : Int) % 8), .int .i64 1, .int .i64 0, .int .i64 1, .int .u64 0, .int .i64 (smT lim), .int .i64 (smA lim tau), .slice (some ⟨g, 0, none⟩) m c'] Y x tn wr) (fun s24 _ => (tn + 100).toNat - intA s24)
    case atStart => exact ⟨tn, rfl, Int.le_refl _, by omega, I5.out⟩
    case round =>
      obtain ⟨y, rfl, hy1, hy2, hI⟩ := hrel
      have HI := Lib.hid hI
      clear hI I5
      rcases Int.lt_or_le y (tn + 100) with hlt | hge
      · obtain ⟨nn, hw, hnn⟩ := HW.out y hy1 hlt
        have HWY := Lib.hid hw
        have qn : (nn == 0) = false := by rw [beq_eq_false_iff_ne]; exact hnn
        have qlt : decide (y < tn + 100) = true := decide_eq_true hlt
        clear hw
        go_wp2_with fail
        refine (gh_why HI.out.h jv y HWY.out).mono ?_
        rintro e_ X2 ⟨rfl, h, hk⟩
        have I6 := Lib.hid (HI.out.go h hk HI.out.s rfl)
        clear h hk
        go_wp2_with fail
        refine ⟨⟨y + 1, by go_num, by omega, by omega, I6.out⟩, ?_⟩
        simp [intA]; omega
      · have qlt : decide (y < tn + 100) = false := decide_eq_false (by omega)
        clear HW
        go_wp2_with fail
        refine (aworks_ok _ (TT.out _ HI.out.h.bel).1 (TT.out _ HI.out.h.bel).2).mono ?_
        rintro e_ X9 ⟨rfl, hb⟩
        have BE := Lib.hid (HI.out.h.bel.trans (hb.mono HI.out.h.bel.size))
        clear hb
        go_wp2_with fail
        go_ret
        exact ⟨rfl, BE.out⟩
  · obtain ⟨hy1, hy2, hwhy, hw1, hw2⟩ := HPX.out.yes rfl
    have HW := Lib.hid hwhy
    have HP := Lib.hid (And.intro hw1 hw2)
    have q1 : decide (t < tn) = false := decide_eq_false (by omega)
    have q2 : decide (tn + 1000 < t) = false := decide_eq_false (by omega)
    have hti : t ≤ 1345 := by omega
    clear hwhy hw1 hw2 HPX
    go_wp2_with fail
    go_loopw [24] (fun s24 wr => ∃ y : Int, s24 = .int .i64 y ∧ tn ≤ y ∧ y ≤ t ∧ AfI w.heap.size w cb m #[.int .i64 (1 + (most : Int) % 8), .int .i64 1, .int .i64 0, .int .i64 1, .int .u64 0, .int .i64 (smT lim), .int .i64 (smA lim tau), .slice (some ⟨g, 0, none⟩) m c'] Y x tn wr) (fun s24 _ => (t).toNat - intA s24)
    case atStart => exact ⟨tn, rfl, Int.le_refl _, by omega, I5.out⟩
    case round =>
      obtain ⟨y, rfl, hy1, hy2, hI⟩ := hrel
      have HI := Lib.hid hI
      clear hI I5
      rcases Int.lt_or_le y (t) with hlt | hge
      · obtain ⟨nn, hw, hnn⟩ := HW.out y hy1 hlt
        have HWY := Lib.hid hw
        have qn : (nn == 0) = false := by rw [beq_eq_false_iff_ne]; exact hnn
        have qlt : decide (y < t) = true := decide_eq_true hlt
        clear hw
        go_wp2_with fail
        refine (gh_why HI.out.h jv y HWY.out).mono ?_
        rintro e_ X2 ⟨rfl, h, hk⟩
        have I6 := Lib.hid (HI.out.go h hk HI.out.s rfl)
        clear h hk
        go_wp2_with fail
        refine ⟨⟨y + 1, by go_num, by omega, by omega, I6.out⟩, ?_⟩
        simp [intA]; omega
      · have qlt : decide (y < t) = false := decide_eq_false (by omega)
        clear HW
        go_wp2_with fail
        refine (gh_why HI.out.h jv t HP.out.1).mono ?_
        rintro e_ X3 ⟨rfl, h, hk⟩
        have I7 := Lib.hid (HI.out.go h hk HI.out.s rfl)
        clear h hk HI
        go_wp2_with fail
        refine (gh_take I7.out.h jv t (Prod.ext HP.out.2 rfl)).mono ?_
        rintro e_ X4 ⟨rfl, h, hk⟩
        have G8 : Hid (Below w.heap.size w X4) := Lib.hid h.bel
        clear h hk I7
        go_wp2_with fail
        refine (aworks_ok _ (TT.out _ G8.out).1 (TT.out _ G8.out).2).mono ?_
        rintro e_ X9 ⟨rfl, hb⟩
        have BE := Lib.hid (G8.out.trans (hb.mono G8.out.size))
        clear hb
        go_wp2_with fail
        go_ret
        exact ⟨rfl, BE.out⟩
end Go.Proofs.YtmbnmfcjbbfkoaaGreatDoor.AD
