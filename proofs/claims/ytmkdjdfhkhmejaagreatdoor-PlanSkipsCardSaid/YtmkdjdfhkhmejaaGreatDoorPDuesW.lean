/- Lists of plans as they come in. Walks of PlanDues and PlanDue. -/
import Derived.Test.YtmkdjdfhkhmejaaGreatDoorPWk
namespace Go.Proofs.YtmkdjdfhkhmejaaGreatDoor.BW
open Go.RowKit BM Go.Shelf MC RK
open BK hiding ret_bool ret_i64

/-- Plans as they come in. -/
def PlsIn (w : World) (a : Option Addr) (L : List (Pl × List (Int × Int))) : Prop := ∀ k (hk : k < L.length), ∃ b off, a = some ⟨b, off, none⟩ ∧ (∀ i, i < 14 → w.cell? ⟨b, off + k * 14 + i, none⟩ = (plV L[k].1)[i]?) ∧ PIn w L[k].1 L[k].2
theorem PlsIn.at_ {w : World} {a : Option Addr} {L : List (Pl × List (Int × Int))} (h : PlsIn w a L) (hn : ∀ k (hk : k < L.length), L[k].1.n ≤ 200) (hT : SpTab w) (hTab : Tab w) : PlsAt w a L := fun k hk => by
  obtain ⟨b, off, e, h1, h2⟩ := h k hk
  exact ⟨b, off, e, h1, h2.arg (hn k hk) hT hTab⟩
theorem dueV_len (L : List (Pl × List (Int × Int))) (t : Int) : (dueV L t).length ≤ L.length := by
  unfold dueV
  split
  · exact dueA_len t L 0
  · exact Nat.zero_le _
set_option maxRecDepth 8000 in
set_option maxHeartbeats 8000000 in
theorem ldues_ok (L : List (Pl × List (Int × Int))) (a : Option Addr) (n c : Nat) (t : Int) (w : World) (hp : PlsIn w a L ∧ L.length = n ∧ n ≤ 9223372036854775807) (hT : SpTab w) (hTab : Tab w) : Calls Tryz.prog 5 #[.slice a n c, .int .i64 t] w fun e w' => e = .returned (.bool true) ∧ Below w.heap.size w w' := by
  obtain ⟨hp, hn, hn9⟩ := hp
  have CW := Lib.hid (plworks_ok w hT hTab)
  by_cases h100 : 100 < n
  · have d1 : decide (100 < n) = true := decide_eq_true h100
    have d1' : decide ((100 : Int) < n) = true := decide_eq_true (by omega)
    clear hT hTab hp hn h100
    go_enter Tryz.func5, Tryz.ntmps5
    go_wp2_with fail
    refine (CW.out).mono ?_
    rintro e w2 ⟨rfl, hb⟩
    go_wp2_with fail
    go_ret
    exact ⟨rfl, hb⟩
  · have d1 : decide (100 < n) = false := decide_eq_false h100
    have d1' : decide ((100 : Int) < n) = false := decide_eq_false (by omega)
    have hn100 : n ≤ 100 := by omega
    have HN := Lib.hid hn
    have HP := Lib.hid hp
    have HTT := Lib.hid (And.intro hT hTab)
    clear hp hn hT hTab h100 hn9
    go_enter Tryz.func5, Tryz.ntmps5
    go_wp2_with fail
    go_loop [5] (fun s5 => ∃ k : Nat, k ≤ n ∧ s5 = .int .i64 k ∧ ∀ i (hi : i < L.length), i < k → L[i].1.n ≤ 200) (fun s5 => n - intM s5)
    case atStart => exact ⟨0, Nat.zero_le _, rfl, fun i hi h => absurd h (Nat.not_lt_zero _)⟩
    case round =>
      obtain ⟨k, hk, rfl, hok⟩ := hrel
      have HOK := Lib.hid hok
      clear hok
      rcases Nat.lt_or_ge k n with hlt | hge
      · have hkl : k < L.length := by have := HN.out; omega
        obtain ⟨b, off, hab, hcl, hpi⟩ := HP.out k hkl
        subst hab
        have HY := Lib.hid (fun (he : L[k].1.n ≤ 200) i (hi : i < L.length) (h : i < k + 1) => (by
          rcases Nat.lt_or_ge i k with h4 | h4
          · exact HOK.out i hi h4
          · obtain rfl : i = k := by omega
            exact he : L[i].1.n ≤ 200))
        generalize L[k].1 = p at *
        have p13 : w.cell? ⟨b, off + k * 14 + 13, none⟩ = some (.slice p.a p.n p.c) := hcl 13 (by decide)
        clear hcl hpi
        by_cases h2 : 200 < p.n
        · have d2 : decide (200 < p.n) = true := decide_eq_true h2
          have d2' : decide ((200 : Int) < p.n) = true := decide_eq_true (by omega)
          clear h2 HY
          go_wp2_with fail
          refine (CW.out).mono ?_
          rintro e w2 ⟨rfl, hb⟩
          go_wp2_with fail
          go_ret
          exact ⟨rfl, hb⟩
        · have d2 : decide (200 < p.n) = false := decide_eq_false h2
          have d2' : decide ((200 : Int) < p.n) = false := decide_eq_false (by omega)
          have HE := Lib.hid (HY.out (by omega))
          clear h2 HY
          go_wp2_with fail
          refine ⟨⟨k + 1, by omega, by go_num, HE.out⟩, ?_⟩
          simp [intM]; omega
      · obtain rfl : n = k := by omega
        have HAT := Lib.hid (HP.out.at_ (fun i hi => HOK.out i hi (by have := HN.out; omega)) HTT.out.1 HTT.out.2)
        have C1 := Lib.hid (pldue_ok L a n c HN.out (by omega) t w HAT.out)
        have C2 := Lib.hid (fun W (hb : Below w.heap.size w W) => rpldue_ok L a n c HN.out (by omega) t W (HAT.out.below hb))
        have CV := Lib.hid (fun W (hb : Below w.heap.size w W) => plworks_ok W (HTT.out.1.below hb) (tab_below HTT.out.2 hb (World.block_lt_of_cell? w _ (HTT.out.2 0 (by decide)))))
        have HLEN : Hid ((dueV L t).length ≤ 200) := Lib.hid (by have := dueV_len L t; have := HN.out; omega)
        generalize dueE L t = E at *
        generalize dueV L t = Y at *
        go_wp2_with fail
        refine (C1.out).mono ?_
        rintro e w2 ⟨v1, rfl, ho, hb⟩
        have HB2 := Lib.hid hb
        obtain ⟨a1, cap1, rfl, hi1⟩ := ho.shape
        have HI1 := Lib.hid hi1
        clear hb ho hi1
        go_wp2_with fail
        refine (C2.out _ HB2.out).mono ?_
        rintro e w3 ⟨v2, rfl, ho, hb⟩
        have HB3 := Lib.hid (HB2.out.trans (hb.mono HB2.out.size))
        obtain ⟨a2, cap2, rfl, hi2⟩ := ho.shape
        have HI1 := Lib.hid (IntsAt.below HI1.out hb)
        have HI2 := Lib.hid hi2
        clear hb ho hi2
        have SM := Lib.hid (ints_lk a1 a2 Y Y.length cap1 cap2 rfl (by have := HLEN.out; omega) w3 HI1.out HI2.out)
        generalize Y.length = N at *
        go_wp2_with fail
        refine (SM.out).mono ?_
        rintro e w4 ⟨rfl, hb⟩
        have HB4 := Lib.hid (HB3.out.trans (hb.mono HB3.out.size))
        clear hb
        go_wp2_with fail
        refine (CV.out _ HB4.out).mono ?_
        rintro e w5 ⟨rfl, hb⟩
        have HB5 := Lib.hid (HB4.out.trans (hb.mono HB4.out.size))
        clear hb
        go_wp2_with fail
        go_ret
        exact ⟨rfl, HB5.out⟩
theorem dueE_parts {L : List (Pl × List (Int × Int))} {t : Int} (h : dueE L t = 0) : (∀ k (hk : k < L.length), plE L[k].1 L[k].2 = 0) ∧ 0 ≤ t ∧ t ≤ 253402300799 := by
  unfold dueE at h
  split at h
  · cases h
  · split at h
    · cases h
    · rename_i h2
      split at h
      · rename_i h3
        refine ⟨fun k hk => ?_, by unfold vT at h3; simpa using h3⟩
        rcases plE_cases L[k].1 L[k].2 with h4 | h4
        · exact h4
        · exact absurd (List.any_eq_true.2 ⟨L[k], List.getElem_mem hk, by simp [h4]⟩) h2
      · cases h
set_option maxRecDepth 8000 in
set_option maxHeartbeats 8000000 in
theorem ldue_ok (L : List (Pl × List (Int × Int))) (a : Option Addr) (n c : Nat) (t : Int) (w : World) (hp : PlsIn w a L ∧ L.length = n ∧ n ≤ 9223372036854775807) (hT : SpTab w) (hTab : Tab w) : Calls Tryz.prog 10 #[.slice a n c, .int .i64 t] w fun e w' => e = .returned (.bool true) ∧ Below w.heap.size w w' := by
  obtain ⟨hp, hn, hn9⟩ := hp
  have CW := Lib.hid (plworks_ok w hT hTab)
  by_cases h64 : 64 < n
  · have d1 : decide (64 < n) = true := decide_eq_true h64
    have d1' : decide ((64 : Int) < n) = true := decide_eq_true (by omega)
    clear hT hTab hp hn h64
    go_enter Tryz.func10, Tryz.ntmps10
    go_wp2_with fail
    refine (CW.out).mono ?_
    rintro e w2 ⟨rfl, hb⟩
    go_wp2_with fail
    go_ret
    exact ⟨rfl, hb⟩
  · have d1 : decide (64 < n) = false := decide_eq_false h64
    have d1' : decide ((64 : Int) < n) = false := decide_eq_false (by omega)
    have hn64 : n ≤ 64 := by omega
    have HN := Lib.hid hn
    have HP := Lib.hid hp
    have HTT := Lib.hid (And.intro hT hTab)
    clear hp hn hT hTab h64 hn9
    go_enter Tryz.func10, Tryz.ntmps10
    go_wp2_with fail
    go_loop [5] (fun s5 => ∃ k : Nat, k ≤ n ∧ s5 = .int .i64 k ∧ ∀ i (hi : i < L.length), i < k → L[i].1.n ≤ 64) (fun s5 => n - intM s5)
    case atStart => exact ⟨0, Nat.zero_le _, rfl, fun i hi h => absurd h (Nat.not_lt_zero _)⟩
    case round =>
      obtain ⟨k, hk, rfl, hok⟩ := hrel
      have HOK := Lib.hid hok
      clear hok
      rcases Nat.lt_or_ge k n with hlt | hge
      · have hkl : k < L.length := by have := HN.out; omega
        obtain ⟨b, off, hab, hcl, hpi⟩ := HP.out k hkl
        subst hab
        have HY := Lib.hid (fun (he : L[k].1.n ≤ 64) i (hi : i < L.length) (h : i < k + 1) => (by
          rcases Nat.lt_or_ge i k with h4 | h4
          · exact HOK.out i hi h4
          · obtain rfl : i = k := by omega
            exact he : L[i].1.n ≤ 64))
        generalize L[k].1 = p at *
        have p13 : w.cell? ⟨b, off + k * 14 + 13, none⟩ = some (.slice p.a p.n p.c) := hcl 13 (by decide)
        clear hcl hpi
        by_cases h2 : 64 < p.n
        · have d2 : decide (64 < p.n) = true := decide_eq_true h2
          have d2' : decide ((64 : Int) < p.n) = true := decide_eq_true (by omega)
          clear h2 HY
          go_wp2_with fail
          refine (CW.out).mono ?_
          rintro e w2 ⟨rfl, hb⟩
          go_wp2_with fail
          go_ret
          exact ⟨rfl, hb⟩
        · have d2 : decide (64 < p.n) = false := decide_eq_false h2
          have d2' : decide ((64 : Int) < p.n) = false := decide_eq_false (by omega)
          have HE := Lib.hid (HY.out (by omega))
          clear h2 HY
          go_wp2_with fail
          refine ⟨⟨k + 1, by omega, by go_num, HE.out⟩, ?_⟩
          simp [intM]; omega
      · have hkn : k = n := by omega
        have HAT := Lib.hid (HP.out.at_ (fun i hi => Nat.le_trans (HOK.out i hi (by have := HN.out; omega)) (by decide)) HTT.out.1 HTT.out.2)
        subst hkn
        have C1 := Lib.hid (pldue_ok L a k c HN.out (by omega) t w HAT.out)
        have CV := Lib.hid (fun W (hb : Below w.heap.size w W) => plworks_ok W (HTT.out.1.below hb) (tab_below HTT.out.2 hb (World.block_lt_of_cell? w _ (HTT.out.2 0 (by decide)))))
        have HLEN : Hid ((dueV L t).length ≤ 64) := Lib.hid (by have := dueV_len L t; have := HN.out; omega)
        have HDV : Hid (dueV L t = if dueE L t = 0 then dueA t L 0 else []) := Lib.hid rfl
        have HPA := Lib.hid (fun h => dueE_parts (L := L) (t := t) h)
        generalize dueV L t = Y at *
        clear HOK HP
        by_cases hE : dueE L t = 0
        · have HY : Hid (Y = dueA t L 0) := Lib.hid (by rw [HDV.out, if_pos hE])
          obtain ⟨hpl, ht⟩ := HPA.out hE
          have HPL := Lib.hid hpl
          have HT := Lib.hid ht
          rw [hE] at C1
          clear hE HPA HDV hpl ht
          go_wp2_with fail
          refine (C1.out).mono ?_
          rintro e w2 ⟨v1, rfl, ho, hb⟩
          have HB2 := Lib.hid hb
          obtain ⟨a1, cap1, rfl, hi1⟩ := ho.shape
          have HI1 := Lib.hid hi1
          clear hb ho hi1 C1
          obtain ⟨N, hN⟩ : ∃ N, N = Y.length := ⟨_, rfl⟩
          rw [← hN]
          have HNY := Lib.hid hN
          have hN64 : N ≤ 64 := by have := HLEN.out; omega
          clear hN
          go_wp2_with fail
          go_loopw [8, 9] (fun s8 s9 wr => ∃ (at_ i : Nat), i ≤ k ∧ at_ ≤ N ∧ s8 = .int .i64 at_ ∧ s9 = .int .i64 i ∧ (Below w.heap.size w wr ∧ IntsAt wr a1 Y) ∧ Y.drop at_ = dueA t (L.drop i) i) (fun _ s9 _ => k - intM s9)
          case atStart => exact ⟨0, 0, Nat.zero_le _, Nat.zero_le _, rfl, rfl, ⟨HB2.out, HI1.out⟩, HY.out⟩
          case round =>
            clear HB2 HI1 HY
            obtain ⟨at_, i, hi, hat, rfl, rfl, ⟨hB, hints⟩, hd⟩ := hrel
            have HB := Lib.hid hB
            have HI := Lib.hid hints
            have HD := Lib.hid hd
            clear hB hints hd
            rcases Nat.lt_or_ge i k with hlt | hge
            · have hkl : i < L.length := by have := HN.out; omega
              obtain ⟨b, off, hab, hcl, hpa⟩ := (HAT.out.below HB.out) i hkl
              subst hab
              have HX := Lib.hid (dueA_drop t L i hkl)
              have HP0 := Lib.hid (HPL.out i hkl)
              generalize L[i].1 = p at *
              generalize L[i].2 = l at *
              have p0 : wr.cell? ⟨b, off + i * 14, none⟩ = some (.int .i64 p.k) := hcl 0 (by decide)
              have p1 : wr.cell? ⟨b, off + i * 14 + 1, none⟩ = some (.int .u64 p.x.s) := hcl 1 (by decide)
              have p2 : wr.cell? ⟨b, off + i * 14 + 2, none⟩ = some (.int .u64 p.x.mi) := hcl 2 (by decide)
              have p3 : wr.cell? ⟨b, off + i * 14 + 3, none⟩ = some (.int .u64 p.x.h) := hcl 3 (by decide)
              have p4 : wr.cell? ⟨b, off + i * 14 + 4, none⟩ = some (.int .u64 p.x.d) := hcl 4 (by decide)
              have p5 : wr.cell? ⟨b, off + i * 14 + 5, none⟩ = some (.int .u64 p.x.mo) := hcl 5 (by decide)
              have p6 : wr.cell? ⟨b, off + i * 14 + 6, none⟩ = some (.int .u64 p.x.w) := hcl 6 (by decide)
              have p7 : wr.cell? ⟨b, off + i * 14 + 7, none⟩ = some (.bool p.x.ad) := hcl 7 (by decide)
              have p8 : wr.cell? ⟨b, off + i * 14 + 8, none⟩ = some (.bool p.x.aw) := hcl 8 (by decide)
              have p9 : wr.cell? ⟨b, off + i * 14 + 9, none⟩ = some (.int .i64 p.z) := hcl 9 (by decide)
              have p10 : wr.cell? ⟨b, off + i * 14 + 10, none⟩ = some (.int .i64 p.e.s) := hcl 10 (by decide)
              have p11 : wr.cell? ⟨b, off + i * 14 + 11, none⟩ = some (.int .i64 p.e.p) := hcl 11 (by decide)
              have p12 : wr.cell? ⟨b, off + i * 14 + 12, none⟩ = some (.int .i64 p.e.c) := hcl 12 (by decide)
              have p13 : wr.cell? ⟨b, off + i * 14 + 13, none⟩ = some (.slice p.a p.n p.c) := hcl 13 (by decide)
              have C := Lib.hid (plis_ok p l t wr hpa)
              rw [fin_one HP0.out HT.out, decide_eq_true rfl, Bool.true_and] at C
              unfold plV at C
              clear hcl hpa
              obtain ⟨q, hq⟩ : ∃ q, isP p l t = q := ⟨_, rfl⟩
              rw [hq] at C HX
              clear hq
              cases q
              · have HE2 : Hid (Y.drop at_ = dueA t (L.drop (i + 1)) (i + 1)) := Lib.hid (by rw [HD.out, HX.out]; rfl)
                go_wp2_with fail
                refine (C.out).mono ?_
                rintro e w5 ⟨rfl, hb⟩
                have HB5 := Lib.hid (HB.out.trans (hb.mono HB.out.size))
                have HI5 := Lib.hid (IntsAt.below HI.out hb)
                clear hb p0 p1 p2 p3 p4 p5 p6 p7 p8 p9 p10 p11 p12 p13
                go_wp2_with fail
                refine ⟨⟨at_, i + 1, by omega, hat, rfl, by go_num, ⟨HB5.out, HI5.out⟩, HE2.out⟩, ?_⟩
                simp [intM]; omega
              · have hcons : Y.drop at_ = (i : Int) :: dueA t (L.drop (i + 1)) (i + 1) := by rw [HD.out, HX.out]; rfl
                have hal : at_ < Y.length := by
                  rcases Nat.lt_or_ge at_ Y.length with h | h
                  · exact h
                  · rw [List.drop_eq_nil_of_le h] at hcons; cases hcons
                have hget : Y[at_] = (i : Int) := by
                  rw [List.drop_eq_getElem_cons hal] at hcons
                  exact (List.cons.inj hcons).1
                have HE2 : Hid (Y.drop (at_ + 1) = dueA t (L.drop (i + 1)) (i + 1)) := Lib.hid (by
                  rw [List.drop_eq_getElem_cons hal] at hcons
                  exact (List.cons.inj hcons).2)
                have haN : at_ < N := by have := HNY.out; omega
                have HG := Lib.hid (And.intro hal (List.getElem?_eq_some_iff.2 ⟨hal, hget⟩))
                clear hcons hget hal
                go_wp2_with fail
                refine (C.out).mono ?_
                rintro e w5 ⟨rfl, hb⟩
                have HB5 := Lib.hid (HB.out.trans (hb.mono HB.out.size))
                have HI5 := Lib.hid (IntsAt.below HI.out hb)
                clear hb p0 p1 p2 p3 p4 p5 p6 p7 p8 p9 p10 p11 p12 p13
                obtain ⟨b1, o1, hab1, hc1⟩ := HI5.out at_ HG.out.1
                subst hab1
                rw [(List.getElem?_eq_some_iff.1 HG.out.2).2] at hc1
                have d5 : decide (N ≤ at_) = false := decide_eq_false (by omega)
                go_wp2_with fail
                refine ⟨⟨at_ + 1, i + 1, by omega, by omega, by go_num, by go_num, ⟨HB5.out, HI5.out⟩, HE2.out⟩, ?_⟩
                simp [intM]; omega
            · obtain hki : i = k := by omega
              have HEQ : Hid (at_ = N) := Lib.hid (by
                have h := HD.out
                rw [hki, show L.drop k = [] from List.drop_eq_nil_of_le (by have := HN.out; omega)] at h
                have := List.drop_eq_nil_iff.1 h
                have := HNY.out
                omega)
              have hne : at_ = N := HEQ.out
              subst hne
              subst hki
              go_wp2_with fail
              refine (CV.out _ HB.out).mono ?_
              rintro e w5 ⟨rfl, hb⟩
              have HB5 := Lib.hid (HB.out.trans (hb.mono HB.out.size))
              clear hb
              go_wp2_with fail
              go_ret
              exact ⟨rfl, HB5.out⟩
        · obtain rfl : Y = [] := by rw [HDV.out, if_neg hE]
          have h1 : (dueE L t == 0) = false := by rw [beq_eq_false_iff_ne]; exact hE
          have h2 : (dueE L t != 0) = true := by rw [bne, h1]; rfl
          clear HDV HPA
          generalize dueE L t = E at *
          clear hE
          go_wp2_with fail
          refine (C1.out).mono ?_
          rintro e w2 ⟨v1, rfl, ho, hb⟩
          have HB2 := Lib.hid hb
          obtain ⟨a1, cap1, rfl, hi1⟩ := ho.shape
          clear hb ho hi1 C1
          go_wp2_with fail
          refine (CV.out _ HB2.out).mono ?_
          rintro e w5 ⟨rfl, hb⟩
          have HB5 := Lib.hid (HB2.out.trans (hb.mono HB2.out.size))
          clear hb
          go_wp2_with fail
          go_ret
          exact ⟨rfl, HB5.out⟩
end Go.Proofs.YtmkdjdfhkhmejaaGreatDoor.BW
