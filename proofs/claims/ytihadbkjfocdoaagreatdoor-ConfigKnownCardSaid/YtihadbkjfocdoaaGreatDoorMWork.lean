/- The chapter's examples, plainly. Contracts of star, Same and works. Contract of works: the chapter's examples hold. Contracts of match.Day and match.Is. Contract of match.Is; star; Same. An expression in a box of the caller's, through calls of match.Day, match.Is and works. -/
import Derived.Test.YtihadbkjfocdoaaGreatDoorMNext
import Derived.Test.YtihadbkjfocdoaaGreatDoorMList
import Derived.Test.YtihadbkjfocdoaaGreatDoorMCount
import Derived.Test.YtihadbkjfocdoaaGreatDoorMatQ
import Derived.Test.YtihadbkjfocdoaaGreatDoorMatV
import Derived.Test.YtihadbkjfocdoaaGreatDoorMChk
namespace Go.Proofs.YtihadbkjfocdoaaGreatDoor.BW
open MC

/-! ### Next -/
/-! ### List -/
/-! ### Count -/
end Go.Proofs.YtihadbkjfocdoaaGreatDoor.BW
namespace Go.Proofs.YtihadbkjfocdoaaGreatDoor.BW
open Go.RowKit BM Go.Shelf MC
open BK hiding ret_bool ret_i64

theorem IntsAt.below {w w' : World} {a : Option Addr} {xs : List Int} (h : IntsAt w a xs) (hb : Below w.heap.size w w') : IntsAt w' a xs := fun k hk => by
  obtain ⟨b, off, e, hc⟩ := h k hk
  exact ⟨b, off, e, (hb.cell (p := ⟨b, off + k, none⟩) (World.block_lt_of_cell? w _ hc)).trans hc⟩
end Go.Proofs.YtihadbkjfocdoaaGreatDoor.BW
namespace Go.Proofs.YtihadbkjfocdoaaGreatDoor.BW
open Go.RowKit BM Go.Shelf MC
open BK hiding ret_bool ret_i64

end Go.Proofs.YtihadbkjfocdoaaGreatDoor.BW
namespace Go.Proofs.YtihadbkjfocdoaaGreatDoor.BW
open Go.RowKit BM Go.Shelf MC
open BK hiding ret_bool ret_i64

/-- Whether the local day of a time is matched. -/
noncomputable def dayV (x : Ex) (z t : Int) : Bool := decide (chk x z [t] = 0) && (decide (0 ≤ t + z * 60) && decide (t + z * 60 ≤ 253402300799) && MC.M x ((t + z * 60).toNat / 86400))
noncomputable def isV (x : Ex) (z t : Int) : Bool := decide (chk x z [t] = 0) && (decide (0 ≤ t + z * 60) && decide (t + z * 60 ≤ 253402300799) && T x (t + z * 60).toNat)
theorem ret_be {a b : Bool} {c d : Int} (h : a = b) (h' : c = d) : Ending.returned (.tuple #[.bool a, .int .i64 c]) = .returned (.tuple #[.bool b, .int .i64 d]) := by rw [h, h']
set_option maxRecDepth 8000 in
set_option maxHeartbeats 4000000 in
theorem pday_ok (x : Ex) (hx : U64s x) (z t : Int) (w : World) (hT : SpTab w) : Calls Tryz.prog 91 #[.agg (exV x), .int .i64 z, .int .i64 t] w fun e w' =>
    e = .returned (.tuple #[.bool (dayV x z t), .int .i64 (chk x z [t])]) ∧ Below w.heap.size w w' := by
  have HDV : Hid (dayV x z t = (decide (chk x z [t] = 0) && (decide (0 ≤ t + z * 60) && decide (t + z * 60 ≤ 253402300799) && MC.M x ((t + z * 60).toNat / 86400)))) := Lib.hid rfl
  generalize dayV x z t = R at *
  have HX := Lib.hid hx
  obtain ⟨W1, hW1⟩ : ∃ W1, W1 = (w.alloc (.cells (exV x) 47)).alloc (.cells #[.int .i64 t] 2) := ⟨_, rfl⟩
  have hbx : Blk W1 w.heap.size 47 (exV x) := by rw [hW1]; exact (Blk.new w _ _).alloc _
  have hts : Blk W1 (w.heap.size + 1) 2 #[.int .i64 t] := by rw [hW1]; exact Blk.newAt (by simp)
  have hB1 : Below w.heap.size w W1 := by rw [hW1]; exact ((Below.refl _ w).alloc (Nat.le_refl _) _).alloc (by simp) _
  have CK := Lib.hid (pcheck_ok x hx z [t] (w.heap.size + 1) 1 1 rfl (by decide) W1 (hT.below hB1) (fun k hk => by
    have : k = 0 := by simpa using hk
    subst this; exact hts.cell 0))
  have HW1 := Lib.hid hW1
  rw [hW1] at CK
  clear hW1 hT hx
  have e0 : exV x = #[.int .u64 x.s, .int .u64 x.mi, .int .u64 x.h, .int .u64 x.d, .int .u64 x.mo, .int .u64 x.w, .bool x.ad, .bool x.aw] := rfl
  rw [e0]
  clear e0
  unfold exV at CK
  go_enter Tryz.func91, Tryz.ntmps91
  go_wp2_with fail
  refine (CK.out).mono ?_
  rintro e w2 ⟨rfl, hb⟩
  have hb : Below W1.heap.size W1 w2 := by rw [HW1.out]; exact hb
  have hx2 := hbx.below hb hbx.lt
  have HB2 := Lib.hid (hB1.trans (hb.mono hB1.size))
  have HX2 := Lib.hid hx2
  have c0 : w2.cell? ⟨w.heap.size, 0, none⟩ = some (.int .u64 x.s) := hx2.cell 0
  have c1 : w2.cell? ⟨w.heap.size, 1, none⟩ = some (.int .u64 x.mi) := hx2.cell 1
  have c2 : w2.cell? ⟨w.heap.size, 2, none⟩ = some (.int .u64 x.h) := hx2.cell 2
  have c3 : w2.cell? ⟨w.heap.size, 3, none⟩ = some (.int .u64 x.d) := hx2.cell 3
  have c4 : w2.cell? ⟨w.heap.size, 4, none⟩ = some (.int .u64 x.mo) := hx2.cell 4
  have c5 : w2.cell? ⟨w.heap.size, 5, none⟩ = some (.int .u64 x.w) := hx2.cell 5
  have c6 : w2.cell? ⟨w.heap.size, 6, none⟩ = some (.bool x.ad) := hx2.cell 6
  have c7 : w2.cell? ⟨w.heap.size, 7, none⟩ = some (.bool x.aw) := hx2.cell 7
  clear hb hbx hB1 CK HW1 hts hx2
  by_cases hcz : chk x z [t] = 0
  · obtain ⟨o1, o2, o3⟩ := chk_zero hcz
    have ht := o3 t (by simp)
    have HCZ := Lib.hid hcz
    clear o1 o3
    by_cases h0 : 0 ≤ t + z * 60
    · by_cases h1 : t + z * 60 ≤ 253402300799
      · have hge : decide (0 ≤ t + z * 60) = true := decide_eq_true h0
        have hle : decide (t + z * 60 ≤ 253402300799) = true := decide_eq_true h1
        obtain ⟨n, hn⟩ : ∃ n : Nat, n = (t + z * 60).toNat / 86400 := ⟨_, rfl⟩
        have en : (t + z * 60) / 86400 = (n : Int) := by omega
        have HR : Hid (R = MC.M x n) := Lib.hid (by rw [HDV.out, hcz, hge, hle, ← hn]; rfl)
        have hn2 : n ≤ 2932896 := by omega
        clear hn
        have CM := Lib.hid (fun W hb => matcher_ok x HX.out n hn2 w2.heap.size W hb)
        go_wp2_with fail
        refine (matcher_mk x w2).mono ?_
        rintro e w3 ⟨rfl, rfl⟩
        go_wp2_with fail
        rw [en]
        refine (CM.out _ (Blk.new w2 _ _)).mono ?_
        rintro e w4 ⟨rfl, hb4⟩
        go_wp2_with fail
        go_ret2
        exact ⟨ret_be HR.out.symm HCZ.out.symm, (HB2.out.alloc HB2.out.size _).trans (hb4.mono (by have := HB2.out.size; simp; omega))⟩
      · have hge : decide (0 ≤ t + z * 60) = true := decide_eq_true h0
        have hle : decide (t + z * 60 ≤ 253402300799) = false := decide_eq_false h1
        have HR : Hid (R = false) := Lib.hid (by rw [HDV.out, hle]; simp)
        go_wp2_with fail
        go_ret2
        exact ⟨ret_be HR.out.symm HCZ.out.symm, HB2.out⟩
    · have hge : decide (0 ≤ t + z * 60) = false := decide_eq_false h0
      have HR : Hid (R = false) := Lib.hid (by rw [HDV.out, hge]; simp)
      go_wp2_with fail
      go_ret2
      exact ⟨ret_be HR.out.symm HCZ.out.symm, HB2.out⟩
  · have HR : Hid (R = false) := Lib.hid (by rw [HDV.out, decide_eq_false hcz]; rfl)
    obtain ⟨c, hc⟩ : ∃ c, c = chk x z [t] := ⟨_, rfl⟩
    have HC := Lib.hid hc
    rw [← hc] at hcz
    have hc2 := hc.symm
    clear hc
    have hcz2 : (c == 0) = false := by rw [beq_eq_false_iff_ne]; exact hcz
    go_wp2_with fail
    go_ret2
    exact ⟨ret_be HR.out.symm HC.out, HB2.out⟩
end Go.Proofs.YtihadbkjfocdoaaGreatDoor.BW
namespace Go.Proofs.YtihadbkjfocdoaaGreatDoor.BW
open Go.RowKit BM Go.Shelf MC
open BK hiding ret_bool ret_i64

theorem fst_self {x : Ex} {f : Nat} (hf : f < 86400) (h : clk x f = true) : MC.fst x f = some f := fst_some.2 ⟨hf, Nat.le_refl _, h, fun t h1 h2 => by omega⟩
theorem fst_not {x : Ex} {f s : Nat} (h : clk x f = false) (hs : MC.fst x f = some s) : s ≠ f := by
  rintro rfl
  obtain ⟨_, _, h3, _⟩ := fst_some.1 hs
  rw [h] at h3; cases h3
set_option maxRecDepth 8000 in
set_option maxHeartbeats 4000000 in
theorem pis_ok (x : Ex) (hx : U64s x) (z t : Int) (w : World) (hT : SpTab w) (hTab : Tab w) : Calls Tryz.prog 70 #[.agg (exV x), .int .i64 z, .int .i64 t] w fun e w' =>
    e = .returned (.tuple #[.bool (isV x z t), .int .i64 (chk x z [t])]) ∧ Below w.heap.size w w' := by
  have hB0 : Below w.heap.size w (w.alloc (.cells (exV x) 47)) := (Below.refl _ w).alloc (Nat.le_refl _) _
  have hgt : 1 < w.heap.size := World.block_lt_of_cell? w _ (hTab 0 (by decide))
  have CD := Lib.hid (pday_ok x hx z t _ (hT.below hB0))
  have hbx := Blk.new w 47 (exV x)
  have HDV : Hid (dayV x z t = (decide (chk x z [t] = 0) && (decide (0 ≤ t + z * 60) && decide (t + z * 60 ≤ 253402300799) && MC.M x ((t + z * 60).toNat / 86400)))) := Lib.hid rfl
  have HIV : Hid (isV x z t = (decide (chk x z [t] = 0) && (decide (0 ≤ t + z * 60) && decide (t + z * 60 ≤ 253402300799) && T x (t + z * 60).toNat))) := Lib.hid rfl
  generalize dayV x z t = D at *
  generalize isV x z t = R at *
  have HX := Lib.hid hx
  have HB0 := Lib.hid hB0
  have HTB := Lib.hid hTab
  clear hB0 hT hTab hx
  have e0 : exV x = #[.int .u64 x.s, .int .u64 x.mi, .int .u64 x.h, .int .u64 x.d, .int .u64 x.mo, .int .u64 x.w, .bool x.ad, .bool x.aw] := rfl
  rw [e0]
  clear e0
  have hb' := hbx
  unfold exV at CD hbx
  go_enter Tryz.func70, Tryz.ntmps70
  go_wp2_with fail
  refine (CD.out).mono ?_
  rintro e w2 ⟨rfl, hb⟩
  have hx2 := Blk.below hbx hb hbx.lt
  have HB2 := Lib.hid (HB0.out.trans (Below.mono (w := w.alloc (.cells (exV x) 47)) hb (HB0.out.size)))
  have c0 : w2.cell? ⟨w.heap.size, 0, none⟩ = some (.int .u64 x.s) := hx2.cell 0
  have c1 : w2.cell? ⟨w.heap.size, 1, none⟩ = some (.int .u64 x.mi) := hx2.cell 1
  have c2 : w2.cell? ⟨w.heap.size, 2, none⟩ = some (.int .u64 x.h) := hx2.cell 2
  have c3 : w2.cell? ⟨w.heap.size, 3, none⟩ = some (.int .u64 x.d) := hx2.cell 3
  have c4 : w2.cell? ⟨w.heap.size, 4, none⟩ = some (.int .u64 x.mo) := hx2.cell 4
  have c5 : w2.cell? ⟨w.heap.size, 5, none⟩ = some (.int .u64 x.w) := hx2.cell 5
  have c6 : w2.cell? ⟨w.heap.size, 6, none⟩ = some (.bool x.ad) := hx2.cell 6
  have c7 : w2.cell? ⟨w.heap.size, 7, none⟩ = some (.bool x.aw) := hx2.cell 7
  clear hb hbx hb' CD hx2
  have HT2 := Lib.hid (tab_below HTB.out HB2.out hgt)
  by_cases hcz : chk x z [t] = 0
  · cases hD : D with
    | false =>
      have HR : Hid (R = false) := Lib.hid (by
        rw [HIV.out]
        have h := HDV.out
        rw [hD, decide_eq_true hcz, Bool.true_and] at h
        unfold T
        rw [decide_eq_true hcz, Bool.true_and, ← Bool.and_assoc, ← h]
        rfl)
      have HCZ := Lib.hid hcz
      subst hD
      go_wp2_with fail
      go_ret2
      exact ⟨ret_be HR.out.symm HCZ.out.symm, HB2.out⟩
    | true =>
      obtain ⟨o1, o2, o3⟩ := chk_zero hcz
      have ht := o3 t (by simp)
      have hok := ok_of_ck o1
      have hrange : (0 ≤ t + z * 60 ∧ t + z * 60 ≤ 253402300799) ∧ MC.M x ((t + z * 60).toNat / 86400) = true := by
        have h := HDV.out
        rw [hD] at h
        simpa [hcz] using h.symm
      obtain ⟨f, hf⟩ : ∃ f : Nat, f = (t + z * 60).toNat % 86400 := ⟨_, rfl⟩
      have HR : Hid (R = clk x f) := Lib.hid (by
        rw [HIV.out, hcz]
        unfold T
        rw [hrange.2, ← hf, decide_eq_true hrange.1.1, decide_eq_true hrange.1.2]
        simp)
      have ef : (t + z * 60) % 86400 = (f : Int) := by omega
      have hf1 : f < 86400 := by omega
      have EF : Hid ((t + z * 60).tmod 86400 = (f : Int)) := Lib.hid (by rw [Int.tmod_eq_emod_of_nonneg hrange.1.1]; exact ef)
      have HCZ := Lib.hid hcz
      have CF := Lib.hid (first_ok x HX.out hok f hf1 w2 HT2.out)
      subst hD
      clear ef hf o1 o3 hrange
      cases hk : clk x f with
      | true =>
        have hfs := fst_self hf1 hk
        rw [hfs] at CF
        rw [hk] at HR
        clear hk hfs
        unfold exV at CF
        go_wp2_with fail
        rw [EF.out]
        refine (CF.out).mono ?_
        rintro e w3 ⟨rfl, hb3⟩
        simp only [num, Option.getD_some, Option.isSome_some]
        go_wp2_with fail
        go_ret2
        exact ⟨ret_be (by rw [HR.out]) HCZ.out.symm, HB2.out.trans (hb3.mono HB2.out.size)⟩
      | false =>
        rw [hk] at HR
        cases hfs : MC.fst x f with
        | none =>
          rw [hfs] at CF
          clear hk hfs
          unfold exV at CF
          go_wp2_with fail
          rw [EF.out]
          refine (CF.out).mono ?_
          rintro e w3 ⟨rfl, hb3⟩
          simp only [num, Option.getD_none, Option.isSome_none]
          go_wp2_with fail
          go_ret2
          exact ⟨ret_be HR.out.symm HCZ.out.symm, HB2.out.trans (hb3.mono HB2.out.size)⟩
        | some s =>
          have hne := fst_not hk hfs
          rw [hfs] at CF
          clear hk hfs
          unfold exV at CF
          have hq : ((s : Int) == (f : Int)) = false := by rw [beq_eq_false_iff_ne]; omega
          have hq2 : ¬ ((s : Int) = (f : Int)) := by omega
          go_wp2_with fail
          rw [EF.out]
          refine (CF.out).mono ?_
          rintro e w3 ⟨rfl, hb3⟩
          simp only [num, Option.getD_some, Option.isSome_some]
          go_wp2_with fail
          go_ret2
          exact ⟨ret_be (by rw [HR.out]) HCZ.out.symm, HB2.out.trans (hb3.mono HB2.out.size)⟩
  · have HR : Hid (R = false) := Lib.hid (by rw [HIV.out, decide_eq_false hcz]; rfl)
    have HD : Hid (D = false) := Lib.hid (by rw [HDV.out, decide_eq_false hcz]; rfl)
    obtain ⟨c, hc⟩ : ∃ c, c = chk x z [t] := ⟨_, rfl⟩
    have HC := Lib.hid hc
    have hD := HD.out
    subst hD
    have hc2 := hc.symm
    clear hc hcz
    go_wp2_with fail
    go_ret2
    exact ⟨ret_be HR.out.symm HC.out, HB2.out⟩
end Go.Proofs.YtihadbkjfocdoaaGreatDoor.BW
namespace Go.Proofs.YtihadbkjfocdoaaGreatDoor.BW
open Go.RowKit BM Go.Shelf MC
open BK hiding ret_bool ret_i64

theorem tab_lt {w : World} (h : Tab w) : 1 < w.heap.size := World.block_lt_of_cell? w _ (h 0 (by decide))
theorem isV_ok {x : Ex} {z t : Int} (h : chk x z [t] = 0) : isV x z t = (decide (0 ≤ t + z * 60) && decide (t + z * 60 ≤ 253402300799) && T x (t + z * 60).toNat) := by
  unfold isV; rw [h]; rfl
end Go.Proofs.YtihadbkjfocdoaaGreatDoor.BW
