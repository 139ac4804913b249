/- Contract of the reference's Next. -/
import Derived.Test.YtmdjfjdlehdhjaaGreatDoorRFrom
namespace Go.Proofs.YtmdjfjdlehdhjaaGreatDoor.BW
open Go.RowKit BM Go.Shelf MC
open BK hiding ret_bool ret_i64

theorem ret_ibe {u v : Int} {a b : Bool} {c d : Int} (h0 : u = v) (h : a = b) (h' : c = d) : Ending.returned (.tuple #[.int .i64 u, .bool a, .int .i64 c]) = .returned (.tuple #[.int .i64 v, .bool b, .int .i64 d]) := by rw [h0, h, h']
set_option maxRecDepth 8000 in
set_option maxHeartbeats 4000000 in
theorem rnext_ok (x : Ex) (hx : U64s x) (z t : Int) (w : World) : Calls Tryz.prog 128 #[.agg (exV x), .int .i64 z, .int .i64 t] w fun e w' =>
    e = .returned (.tuple #[.int .i64 (optI (nxV x z t)), .bool (nxV x z t).isSome, .int .i64 (chk x z [t])]) ∧ Below w.heap.size w w' := by
  have HOK := Lib.hid (fun h => nxV_ok (x := x) (z := z) (t := t) h)
  have HBAD := Lib.hid (fun h => nxV_bad (x := x) (z := z) (t := t) h)
  generalize nxV x z t = R at *
  have HX := Lib.hid hx
  obtain ⟨W1, hW1⟩ : ∃ W1, W1 = (w.alloc (.cells (exV x) 24)).alloc (.cells #[.int .i64 t] 2) := ⟨_, rfl⟩
  have hbx : Blk W1 w.heap.size 24 (exV x) := by rw [hW1]; exact (Blk.new w _ _).alloc _
  have hts : Blk W1 (w.heap.size + 1) 2 #[.int .i64 t] := by rw [hW1]; exact Blk.newAt (by simp)
  have hB1 : Below w.heap.size w W1 := by rw [hW1]; exact ((Below.refl _ w).alloc (Nat.le_refl _) _).alloc (by simp) _
  have CK := Lib.hid (rpcheck_ok x hx z [t] (w.heap.size + 1) 1 1 rfl (by decide) W1 (fun k hk => by
    have : k = 0 := by simpa using hk
    subst this; exact hts.cell 0))
  have HW1 := Lib.hid hW1
  rw [hW1] at CK
  clear hW1 hx
  have e0 : exV x = #[.int .u64 x.s, .int .u64 x.mi, .int .u64 x.h, .int .u64 x.d, .int .u64 x.mo, .int .u64 x.w, .bool x.ad, .bool x.aw] := rfl
  rw [e0]
  clear e0
  unfold exV at CK
  go_enter Tryz.func128, Tryz.ntmps128
  go_wp2_with fail
  refine (CK.out).mono ?_
  rintro e w2 ⟨rfl, hb⟩
  have hb : Below W1.heap.size W1 w2 := by rw [HW1.out]; exact hb
  have hx2 := hbx.below hb hbx.lt
  have HB2 := Lib.hid (hB1.trans (hb.mono hB1.size))
  have HX2 := Lib.hid hx2
  clear hb hbx hB1 CK HW1 hts hx2
  by_cases hcz : chk x z [t] = 0
  · obtain ⟨o1, o2, o3⟩ := chk_zero hcz
    have ht := o3 t (by simp)
    have HCZ := Lib.hid hcz
    have hF := HOK.out hcz
    have CF := Lib.hid (fun w => rfrom_ok x HX.out (ok_of_ck o1) z (t + 1) o2 (by omega) w)
    have hpos : ∀ n, fromV x z (t + 1) = some n → 0 ≤ n := fun n h => by have := (fromV_some o2).1 h; omega
    have c0 : w2.cell? ⟨w.heap.size, 0, none⟩ = some (.int .u64 x.s) := HX2.out.cell 0
    have c1 : w2.cell? ⟨w.heap.size, 1, none⟩ = some (.int .u64 x.mi) := HX2.out.cell 1
    have c2 : w2.cell? ⟨w.heap.size, 2, none⟩ = some (.int .u64 x.h) := HX2.out.cell 2
    have c3 : w2.cell? ⟨w.heap.size, 3, none⟩ = some (.int .u64 x.d) := HX2.out.cell 3
    have c4 : w2.cell? ⟨w.heap.size, 4, none⟩ = some (.int .u64 x.mo) := HX2.out.cell 4
    have c5 : w2.cell? ⟨w.heap.size, 5, none⟩ = some (.int .u64 x.w) := HX2.out.cell 5
    have c6 : w2.cell? ⟨w.heap.size, 6, none⟩ = some (.bool x.ad) := HX2.out.cell 6
    have c7 : w2.cell? ⟨w.heap.size, 7, none⟩ = some (.bool x.aw) := HX2.out.cell 7
    clear o1 o3 HX2 HX HOK HBAD
    unfold exV at CF
    rw [← hF] at CF hpos
    clear hF
    cases R with
    | none =>
      unfold negI at CF
      clear hpos
      go_wp2_with fail
      refine (CF.out _).mono ?_
      rintro e w3 ⟨rfl, hb3⟩
      go_wp2_with fail
      go_ret3
      exact ⟨ret_ibe rfl rfl HCZ.out.symm, HB2.out.trans (hb3.mono HB2.out.size)⟩
    | some n =>
      have hn := hpos n rfl
      have hneg : decide (n < 0) = false := decide_eq_false (by omega)
      unfold negI at CF
      clear hpos
      go_wp2_with fail
      refine (CF.out _).mono ?_
      rintro e w3 ⟨rfl, hb3⟩
      go_wp2_with fail
      go_ret3
      exact ⟨ret_ibe rfl rfl HCZ.out.symm, HB2.out.trans (hb3.mono HB2.out.size)⟩
  · have HR := HBAD.out hcz
    obtain ⟨c, hc⟩ : ∃ c, c = chk x z [t] := ⟨_, rfl⟩
    have HC := Lib.hid hc
    have hc2 := hc.symm
    have hcz2 : (c == 0) = false := by rw [beq_eq_false_iff_ne, hc]; exact hcz
    clear hc hcz HOK HBAD
    subst HR
    go_wp2_with fail
    go_ret3
    exact ⟨ret_ibe rfl rfl HC.out, HB2.out⟩
end Go.Proofs.YtmdjfjdlehdhjaaGreatDoor.BW
