/- Contracts of the reference's Low, High, full and Fields of an expression. Contract of the reference's Check of an expression. Contracts of check (match's and the reference's): an expression, a zone, times. What check's answer says of an expression, a zone and times. -/
import Derived.Test.YtpgckpafjiojfaaGreatDoorMatI
import Derived.Test.YtpgckpafjiojfaaGreatDoorABits
import Derived.Test.YtpgckpafjiojfaaGreatDoorMRef
namespace Go.Proofs.YtpgckpafjiojfaaGreatDoor.BW
open Go.RowKit BM Go.Shelf MC
open BK hiding ret_bool ret_i64

def lowN (i : Nat) : Nat := [0, 0, 0, 1, 1, 0].getD i 0
def partN (i v : Nat) : Nat := 2 ^ v - 2 ^ lowN i
end Go.Proofs.YtpgckpafjiojfaaGreatDoor.BW
namespace Go.Proofs.YtpgckpafjiojfaaGreatDoor.BW
open Go.RowKit BM Go.Shelf MC
open BK hiding ret_bool ret_i64

end Go.Proofs.YtpgckpafjiojfaaGreatDoor.BW
namespace Go.Proofs.YtpgckpafjiojfaaGreatDoor.BW
open Go.RowKit BM Go.Shelf MC
open BK hiding ret_bool ret_i64

def tOk (t : Int) : Bool := decide (0 ≤ t) && decide (t ≤ 253402300799)
def timesR (ts : List Int) : Int := if ts.all tOk then 0 else 14
/-- What check answers. -/
def chk (x : Ex) (z : Int) (ts : List Int) : Int := if ckR x ≠ 0 then ckR x else if zoneR z ≠ 0 then zoneR z else timesR ts
theorem chk_expr {x : Ex} {z : Int} {ts : List Int} (h : ckR x ≠ 0) : chk x z ts = ckR x := if_pos h
theorem chk_zone {x : Ex} {z : Int} {ts : List Int} (h : ckR x = 0) (h2 : zoneR z ≠ 0) : chk x z ts = zoneR z := by unfold chk; rw [if_neg (by omega), if_pos h2]
theorem chk_times {x : Ex} {z : Int} {ts : List Int} (h : ckR x = 0) (h2 : zoneR z = 0) : chk x z ts = timesR ts := by unfold chk; rw [if_neg (by omega), if_neg (by omega)]
theorem ckR_cases (x : Ex) : ckR x = 0 ∨ ckR x = 16 := by unfold ckR; split <;> simp
theorem zoneR_cases (z : Int) : zoneR z = 0 ∨ zoneR z = 2 := by unfold zoneR; split <;> simp
theorem timesR_bad {ts : List Int} {k : Nat} (h : k < ts.length) (hb : tOk ts[k] = false) : timesR ts = 14 := by
  unfold timesR
  rw [if_neg]
  intro hh
  have := List.all_eq_true.1 hh ts[k] (List.getElem_mem h)
  rw [hb] at this; cases this
theorem timesR_ok {ts : List Int} (h : ∀ k (hk : k < ts.length), tOk ts[k] = true) : timesR ts = 0 := by
  unfold timesR
  rw [if_pos]
  rw [List.all_eq_true]
  intro t ht
  obtain ⟨k, hk, rfl⟩ := List.getElem_of_mem ht
  exact h k hk

set_option maxRecDepth 8000 in
set_option maxHeartbeats 4000000 in
theorem pcheck_ok (x : Ex) (hx : U64s x) (z : Int) (ts : List Int) (g n c : Nat) (hn : ts.length = n) (hn9 : n ≤ 9) (w : World) (hT : SpTab w)
    (hc : ∀ k (hk : k < ts.length), w.cell? ⟨g, k, none⟩ = some (.int .i64 ts[k])) :
    Calls Tryz.prog 216 #[.agg (exV x), .int .i64 z, .slice (some ⟨g, 0, none⟩) n c] w fun e w' => e = .returned (.int .i64 (chk x z ts)) ∧ Below w.heap.size w w' := by
  have hB0 : Below w.heap.size w (w.alloc (.cells (exV x) 44)) := (Below.refl _ w).alloc (Nat.le_refl _) _
  have CX := Lib.hid (check_ok x hx (w.alloc (.cells (exV x) 44)) (hT.below hB0))
  have CZ := Lib.hid (zone_ok z)
  have HB0 := Lib.hid hB0
  have HC := Lib.hid hc
  have HN := Lib.hid hn
  have K1 := Lib.hid (fun h => chk_expr (x := x) (z := z) (ts := ts) h)
  have K2 := Lib.hid (fun h h2 => chk_zone (x := x) (z := z) (ts := ts) h h2)
  have K3 := Lib.hid (fun h h2 => chk_times (x := x) (z := z) (ts := ts) h h2)
  have cx := ckR_cases x
  have cz := zoneR_cases z
  generalize chk x z ts = R at *
  clear hx hT hc hB0 hn
  obtain ⟨a, ha⟩ : ∃ a, a = ckR x := ⟨_, rfl⟩
  obtain ⟨b, hb⟩ : ∃ b, b = zoneR z := ⟨_, rfl⟩
  rw [← ha] at CX K1 K2 K3 cx
  rw [← hb] at CZ K2 K3 cz
  clear ha hb
  unfold exV at *
  go_enter Tryz.func216, Tryz.ntmps216
  go_wp2_with fail
  refine (CX.out).mono ?_
  rintro e w1 ⟨rfl, hb1⟩
  rcases cx with rfl | rfl
  · go_wp2_with fail
    refine (CZ.out _).mono ?_
    rintro e w2 ⟨rfl, rfl⟩
    rcases cz with rfl | rfl
    · have HR := Lib.hid (K3.out (by simp) (by simp))
      have HB1 := Lib.hid (HB0.out.trans (hb1.mono HB0.out.size))
      clear K1 K2 K3 hb1
      go_wp2_with fail
      go_loop [10, 23] (fun _ s => ∃ k : Nat, k ≤ n ∧ s = .int .i64 k ∧ ∀ i (hi : i < ts.length), i < k → tOk ts[i] = true) (fun _ s => n - intM s)
      case atStart => exact ⟨0, by omega, rfl, fun i _ hi => absurd hi (Nat.not_lt_zero _)⟩
      case round =>
        obtain ⟨k, hk, rfl, hok⟩ := hrel
        have HO := Lib.hid hok
        clear hok
        have hn := HN.out
        rcases Nat.lt_or_ge k n with hlt | hge
        · have hlt' : k < ts.length := by omega
          have hck : w1.cell? ⟨g, k, none⟩ = some (.int .i64 ts[k]) := (HB1.out.cell (p := ⟨g, k, none⟩) (World.block_lt_of_cell? w _ (HC.out k hlt'))).trans (HC.out k hlt')
          have HF := Lib.hid (show ∀ b, tOk ts[k] = b → (b = false → R = 14) ∧ (b = true → ∀ i (hi : i < ts.length), i < k + 1 → tOk ts[i] = true) from fun b hb => ⟨fun h => by rw [HR.out]; exact timesR_bad hlt' (by rw [hb, h]), fun h i hi h2 => by
            rcases Nat.lt_or_ge i k with h3 | h3
            · exact HO.out i hi h3
            · obtain rfl : i = k := by omega
              rw [hb, h]⟩)
          generalize ts[k] = t at *
          by_cases h0 : t < 0
          · have HE := Lib.hid ((HF.out false (by unfold tOk; rw [decide_eq_false (by omega)]; rfl)).1 rfl)
            clear HF
            go_wp2_with fail
            go_ret
            exact ⟨ret_i64 HE.out.symm, HB1.out⟩
          · by_cases h1 : 253402300799 < t
            · have HE := Lib.hid ((HF.out false (by unfold tOk; rw [decide_eq_false (p := t ≤ _) (by omega)]; simp)).1 rfl)
              clear HF
              go_wp2_with fail
              go_ret
              exact ⟨ret_i64 HE.out.symm, HB1.out⟩
            · have HE := Lib.hid ((HF.out true (by unfold tOk; rw [decide_eq_true (by omega), decide_eq_true (by omega)]; rfl)).2 rfl)
              clear HF
              go_wp2_with fail
              go_round
              case rel => exact ⟨k + 1, by omega, by go_num, HE.out⟩
              case measure => simp [intM]; omega
        · obtain rfl : k = n := by omega
          have HE := Lib.hid (timesR_ok (ts := ts) (fun i hi => HO.out i hi (by omega)))
          go_wp2_with fail
          go_ret
          exact ⟨ret_i64 (by rw [HR.out, HE.out]), HB1.out⟩
    · have HR := Lib.hid (K2.out (by simp) (by simp))
      clear K1 K2 K3
      go_wp2_with fail
      go_ret
      exact ⟨ret_i64 HR.out.symm, HB0.out.trans (hb1.mono HB0.out.size)⟩
  · have HR := Lib.hid (K1.out (by simp))
    clear K1 K2 K3
    go_wp2_with fail
    go_ret
    exact ⟨ret_i64 HR.out.symm, HB0.out.trans (hb1.mono HB0.out.size)⟩

end Go.Proofs.YtpgckpafjiojfaaGreatDoor.BW
namespace Go.Proofs.YtpgckpafjiojfaaGreatDoor.BW
open Go.RowKit BM Go.Shelf MC

theorem ex_bit {s : Nat} (h : s ≠ 0) : ∃ i, s.testBit i = true := Nat.exists_testBit_of_ne_zero h
theorem okF_facts {i s : Nat} (h : okF i s = true) : (∃ k, s.testBit k = true ∧ (fullN i).testBit k = true) ∧ s ≤ fullN i ∧ ∀ k, s.testBit k = true → (fullN i).testBit k = true := by
  unfold okF at h
  rw [Bool.and_eq_true, Bool.not_eq_true', beq_eq_false_iff_ne] at h
  obtain ⟨h1, h2⟩ := h
  unfold sub at h2
  rw [beq_iff_eq] at h2
  have h3 : ∀ k, s.testBit k = true → (fullN i).testBit k = true := fun k hk => by
    have : (s &&& fullN i).testBit k = true := by rw [h2]; exact hk
    rw [Nat.testBit_and, Bool.and_eq_true] at this
    exact this.2
  obtain ⟨k, hk⟩ := ex_bit h1
  exact ⟨⟨k, hk, h3 k hk⟩, by rw [← h2]; exact Nat.and_le_right, h3⟩
theorem ck_zero {x : Ex} (h : ckR x = 0) : (∀ i, i < 6 → okF i (fl x i) = true) ∧ starsOk x = true := by
  unfold ckR at h
  split at h
  · rename_i hv
    unfold vx at hv
    rw [Bool.and_eq_true, List.all_eq_true] at hv
    exact ⟨fun i hi => hv.1 i (List.mem_range.2 hi), hv.2⟩
  · omega
theorem full_bit (i n : Nat) (h : fullN i < 2 ^ n) {k : Nat} (hk : (fullN i).testBit k = true) : k < n := by
  rcases Nat.lt_or_ge k n with h1 | h1
  · exact h1
  · rw [Nat.testBit_lt_two_pow (Nat.lt_of_lt_of_le h (Nat.pow_le_pow_right (by decide) h1))] at hk; cases hk
theorem ok_of_ck {x : Ex} (h : ckR x = 0) : x.Ok := by
  obtain ⟨h1, _⟩ := ck_zero h
  obtain ⟨⟨k0, a0, b0⟩, c0, d0⟩ := okF_facts (h1 0 (by decide))
  obtain ⟨⟨k1, a1, b1⟩, c1, d1⟩ := okF_facts (h1 1 (by decide))
  obtain ⟨⟨k2, a2, b2⟩, c2, d2⟩ := okF_facts (h1 2 (by decide))
  obtain ⟨⟨k3, a3, b3⟩, c3, d3⟩ := okF_facts (h1 3 (by decide))
  obtain ⟨⟨k4, a4, b4⟩, c4, d4⟩ := okF_facts (h1 4 (by decide))
  obtain ⟨⟨k5, a5, b5⟩, c5, d5⟩ := okF_facts (h1 5 (by decide))
  have f0 : fullN 0 < 2 ^ 60 := by decide
  have f1 : fullN 1 < 2 ^ 60 := by decide
  have f2 : fullN 2 < 2 ^ 24 := by decide
  have f3 : fullN 3 < 2 ^ 32 := by decide
  have f4 : fullN 4 < 2 ^ 13 := by decide
  have f5 : fullN 5 < 2 ^ 7 := by decide
  have g3 := full_bit 3 32 f3 b3
  have g4 := full_bit 4 13 f4 b4
  have z3 : k3 ≠ 0 := by rintro rfl; exact absurd b3 (by decide)
  have z4 : k4 ≠ 0 := by rintro rfl; exact absurd b4 (by decide)
  exact ⟨⟨k0, full_bit 0 60 f0 b0, a0⟩, ⟨k1, full_bit 1 60 f1 b1, a1⟩, ⟨k2, full_bit 2 24 f2 b2, a2⟩, ⟨k3, by omega, by omega, a3⟩, ⟨k4, by omega, by omega, a4⟩, ⟨k5, by have := full_bit 5 7 f5 b5; omega, a5⟩,
    Nat.lt_of_le_of_lt c0 f0, Nat.lt_of_le_of_lt c1 f1, Nat.lt_of_le_of_lt c2 f2, Nat.lt_of_le_of_lt c3 f3, Nat.lt_of_le_of_lt c4 f4, Nat.lt_of_le_of_lt c5 f5⟩
theorem zone_zero {z : Int} (h : zoneR z = 0) : -840 ≤ z ∧ z ≤ 840 := by
  unfold zoneR at h
  split at h
  · assumption
  · omega
theorem chk_zero {x : Ex} {z : Int} {ts : List Int} (h : chk x z ts = 0) : ckR x = 0 ∧ (-840 ≤ z ∧ z ≤ 840) ∧ ∀ t ∈ ts, 0 ≤ t ∧ t ≤ 253402300799 := by
  have h1 := ckR_cases x
  have h2 := zoneR_cases z
  unfold chk at h
  split at h
  · omega
  · split at h
    · omega
    · refine ⟨by omega, zone_zero (by omega), ?_⟩
      unfold timesR at h
      split at h
      · rename_i ha
        intro t ht
        have := List.all_eq_true.1 ha t ht
        unfold tOk at this
        simpa using this
      · omega
end Go.Proofs.YtpgckpafjiojfaaGreatDoor.BW
