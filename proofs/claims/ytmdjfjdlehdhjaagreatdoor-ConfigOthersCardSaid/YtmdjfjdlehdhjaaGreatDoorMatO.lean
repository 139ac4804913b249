/- Contract of the reference's on: the next day, the one before. -/
import Derived.Test.YtmdjfjdlehdhjaaGreatDoorMatM
namespace Go.Proofs.YtmdjfjdlehdhjaaGreatDoor.BW
open Go.RowKit BM Go.Shelf MC
open BK hiding ret_bool ret_i64

theorem year_le {n : Nat} (h : n ≤ 2932896) : (ymd n).1 ≤ 9999 := by
  obtain ⟨hv, hn⟩ := ymd_spec n
  have := dn_range hv
  exact before_last h hv.1 (by omega)
def zeroD : Array Value := #[.int .i64 0, .int .i64 0, .int .i64 0, .int .i64 0, .int .i64 0]
/-- The date behind a date, as cells. -/
theorem dtV_succ (n y m d : Nat) (q : Int) (h : ymd (n + 1) = (y, m, d)) (hq : q = ((n + 1 + 4) % 7 : Nat)) : dtV (n + 1) = #[.int .i64 ((n : Int) + 1), .int .i64 y, .int .i64 m, .int .i64 d, .int .i64 q] := by
  unfold dtV
  rw [h, hq]
  simp
set_option maxRecDepth 8000 in
set_option maxHeartbeats 4000000 in
theorem on_ok (n : Nat) (hn : n ≤ 2932896) (w : World) : Calls Tryz.prog 179 #[.agg (dtV n), .bool false] w fun e w' => e = .returned (.agg (dtV (n + 1))) ∧ Below w.heap.size w w' := by
  have hy := year_le hn
  obtain ⟨⟨v1, v2, v3, v4, v5⟩, hdn⟩ := ymd_spec n
  have hs := ymd_succ n
  unfold onF at hs
  have hml := mlen_bounds (ymd n).1 (ymd n).2.1
  unfold dtV
  have hq3 : (n + 4) % 7 < 7 := Nat.mod_lt _ (by decide)
  have hq4 : Hid (((((n + 4) % 7 : Nat) : Int) + 1) % 7 = ((n + 1 + 4) % 7 : Nat)) := Lib.hid (by omega)
  have HD := Lib.hid (dtV_succ n)
  unfold dtV at HD
  generalize hy0 : (ymd n).1 = y at *
  generalize hm0 : (ymd n).2.1 = m at *
  generalize hd0 : (ymd n).2.2 = d at *
  clear hdn hy0 hm0 hd0
  generalize (n + 4) % 7 = q at *
  have CL := Lib.hid (rlen_ok y m v1 hy v2 v3)
  generalize mlen y m = l at *
  by_cases hA : d + 1 ≤ l
  · rw [if_pos hA] at hs
    have HE := Lib.hid (HD.out _ _ _ _ hs hq4.out)
    clear HD hq4 hs
    generalize ymd (n + 1) = Y at *
    go_enter Tryz.func179, Tryz.ntmps179
    go_wp2_with fail
    refine (CL.out _).mono ?_
    rintro e w1 ⟨rfl, hb⟩
    have hx : Blk w1 w.heap.size 186 #[.int .i64 ((n : Int) + 1), .int .i64 y, .int .i64 m, .int .i64 ((d : Int) + 1), .int .i64 (((q : Int) + 1) % 7)] := Blk.below ((Blk.new w _ _).alloc _) hb (by simp; omega)
    have hz : Blk w1 (w.heap.size + 1) 186 zeroD := Blk.below (Blk.newAt (by simp)) hb (by simp)
    have HBB := Lib.hid ((((Below.refl _ w).alloc (Nat.le_refl _) (.cells #[.int .i64 ((n : Int) + 1), .int .i64 y, .int .i64 m, .int .i64 ((d : Int) + 1), .int .i64 (((q : Int) + 1) % 7)] 186)).alloc (by simp) (.cells zeroD 186)).trans (hb.mono (by simp; omega)))
    clear hb
    have hfx := fun i => hx.frozen i
    have hfz := fun i => hz.frozen i
    have x0 : w1.cell? ⟨w.heap.size, 0, none⟩ = some (.int .i64 ((n : Int) + 1)) := hx.cell 0
    have x1 : w1.cell? ⟨w.heap.size, 1, none⟩ = some (.int .i64 y) := hx.cell 1
    have x2 : w1.cell? ⟨w.heap.size, 2, none⟩ = some (.int .i64 m) := hx.cell 2
    have x3 : w1.cell? ⟨w.heap.size, 3, none⟩ = some (.int .i64 ((d : Int) + 1)) := hx.cell 3
    have x4 : w1.cell? ⟨w.heap.size, 4, none⟩ = some (.int .i64 (((q : Int) + 1) % 7)) := hx.cell 4
    have z0 : w1.cell? ⟨w.heap.size + 1, 0, none⟩ = some (.int .i64 0) := hz.cell 0
    have z1 : w1.cell? ⟨w.heap.size + 1, 1, none⟩ = some (.int .i64 0) := hz.cell 1
    have z2 : w1.cell? ⟨w.heap.size + 1, 2, none⟩ = some (.int .i64 0) := hz.cell 2
    have z3 : w1.cell? ⟨w.heap.size + 1, 3, none⟩ = some (.int .i64 0) := hz.cell 3
    have z4 : w1.cell? ⟨w.heap.size + 1, 4, none⟩ = some (.int .i64 0) := hz.cell 4
    go_wp2_with fail
    (try simp only [Exit.inBlock, Exit.then])
    refine bodyPost_ret (results_cell_row rfl _ _ (w.heap.size + 1) 186 _ (0, 0) _ rfl (((((hz.set_ 0 _).set_ 1 _).set_ 2 _).set_ 3 _).set_ 4 _) Tryz.underlying186 rfl (by kernel_rfl)) rfl ?_
    refine ⟨?_, ?_⟩
    · rw [HE.out]; first | rfl | simp [zeroD]
    · (repeat (first | (with_reducible exact HBB.out) | (with_reducible refine Below.setCell ?_ (by simp) _)))
  · rw [if_neg hA] at hs
    by_cases hB : m < 12
    · rw [if_pos hB] at hs
      have HE := Lib.hid (HD.out _ _ _ _ hs hq4.out)
      clear HD hq4 hs
      generalize ymd (n + 1) = Y at *
      go_enter Tryz.func179, Tryz.ntmps179
      go_wp2_with fail
      refine (CL.out _).mono ?_
      rintro e w1 ⟨rfl, hb⟩
      have hx : Blk w1 w.heap.size 186 #[.int .i64 ((n : Int) + 1), .int .i64 y, .int .i64 m, .int .i64 ((d : Int) + 1), .int .i64 (((q : Int) + 1) % 7)] := Blk.below ((Blk.new w _ _).alloc _) hb (by simp; omega)
      have hz : Blk w1 (w.heap.size + 1) 186 zeroD := Blk.below (Blk.newAt (by simp)) hb (by simp)
      have HBB := Lib.hid ((((Below.refl _ w).alloc (Nat.le_refl _) (.cells #[.int .i64 ((n : Int) + 1), .int .i64 y, .int .i64 m, .int .i64 ((d : Int) + 1), .int .i64 (((q : Int) + 1) % 7)] 186)).alloc (by simp) (.cells zeroD 186)).trans (hb.mono (by simp; omega)))
      clear hb
      have hfx := fun i => hx.frozen i
      have hfz := fun i => hz.frozen i
      have x0 : w1.cell? ⟨w.heap.size, 0, none⟩ = some (.int .i64 ((n : Int) + 1)) := hx.cell 0
      have x1 : w1.cell? ⟨w.heap.size, 1, none⟩ = some (.int .i64 y) := hx.cell 1
      have x2 : w1.cell? ⟨w.heap.size, 2, none⟩ = some (.int .i64 m) := hx.cell 2
      have x3 : w1.cell? ⟨w.heap.size, 3, none⟩ = some (.int .i64 ((d : Int) + 1)) := hx.cell 3
      have x4 : w1.cell? ⟨w.heap.size, 4, none⟩ = some (.int .i64 (((q : Int) + 1) % 7)) := hx.cell 4
      have z0 : w1.cell? ⟨w.heap.size + 1, 0, none⟩ = some (.int .i64 0) := hz.cell 0
      have z1 : w1.cell? ⟨w.heap.size + 1, 1, none⟩ = some (.int .i64 0) := hz.cell 1
      have z2 : w1.cell? ⟨w.heap.size + 1, 2, none⟩ = some (.int .i64 0) := hz.cell 2
      have z3 : w1.cell? ⟨w.heap.size + 1, 3, none⟩ = some (.int .i64 0) := hz.cell 3
      have z4 : w1.cell? ⟨w.heap.size + 1, 4, none⟩ = some (.int .i64 0) := hz.cell 4
      go_wp2_with fail
      (try simp only [Exit.inBlock, Exit.then])
      refine bodyPost_ret (results_cell_row rfl _ _ (w.heap.size + 1) 186 _ (0, 0) _ rfl (((((((hz.far (p := ⟨w.heap.size, 3, none⟩) (by simp) _).far (p := ⟨w.heap.size, 2, none⟩) (by simp) _).set_ 0 _).set_ 1 _).set_ 2 _).set_ 3 _).set_ 4 _) Tryz.underlying186 rfl (by kernel_rfl)) rfl ?_
      refine ⟨?_, ?_⟩
      · rw [HE.out]; first | rfl | simp [zeroD]
      · (repeat (first | (with_reducible exact HBB.out) | (with_reducible refine Below.setCell ?_ (by simp) _)))
    · rw [if_neg hB] at hs
      obtain rfl : m = 12 := by omega
      have HE := Lib.hid (HD.out _ _ _ _ hs hq4.out)
      clear HD hq4 hs
      generalize ymd (n + 1) = Y at *
      go_enter Tryz.func179, Tryz.ntmps179
      go_wp2_with fail
      refine (CL.out _).mono ?_
      rintro e w1 ⟨rfl, hb⟩
      have hx : Blk w1 w.heap.size 186 #[.int .i64 ((n : Int) + 1), .int .i64 y, .int .i64 12, .int .i64 ((d : Int) + 1), .int .i64 (((q : Int) + 1) % 7)] := Blk.below ((Blk.new w _ _).alloc _) hb (by simp; omega)
      have hz : Blk w1 (w.heap.size + 1) 186 zeroD := Blk.below (Blk.newAt (by simp)) hb (by simp)
      have HBB := Lib.hid ((((Below.refl _ w).alloc (Nat.le_refl _) (.cells #[.int .i64 ((n : Int) + 1), .int .i64 y, .int .i64 12, .int .i64 ((d : Int) + 1), .int .i64 (((q : Int) + 1) % 7)] 186)).alloc (by simp) (.cells zeroD 186)).trans (hb.mono (by simp; omega)))
      clear hb
      have hfx := fun i => hx.frozen i
      have hfz := fun i => hz.frozen i
      have x0 : w1.cell? ⟨w.heap.size, 0, none⟩ = some (.int .i64 ((n : Int) + 1)) := hx.cell 0
      have x1 : w1.cell? ⟨w.heap.size, 1, none⟩ = some (.int .i64 y) := hx.cell 1
      have x2 : w1.cell? ⟨w.heap.size, 2, none⟩ = some (.int .i64 12) := hx.cell 2
      have x3 : w1.cell? ⟨w.heap.size, 3, none⟩ = some (.int .i64 ((d : Int) + 1)) := hx.cell 3
      have x4 : w1.cell? ⟨w.heap.size, 4, none⟩ = some (.int .i64 (((q : Int) + 1) % 7)) := hx.cell 4
      have y2 : (((w1.setCell ⟨w.heap.size, 3, none⟩ (.int .i64 1)).setCell ⟨w.heap.size, 2, none⟩ (.int .i64 13)).setCell ⟨w.heap.size, 2, none⟩ (.int .i64 1)).cell? ⟨w.heap.size, 2, none⟩ = some (.int .i64 1) := (((hx.set_ 3 _).set_ 2 _).set_ 2 _).cell 2
      have z0 : w1.cell? ⟨w.heap.size + 1, 0, none⟩ = some (.int .i64 0) := hz.cell 0
      have z1 : w1.cell? ⟨w.heap.size + 1, 1, none⟩ = some (.int .i64 0) := hz.cell 1
      have z2 : w1.cell? ⟨w.heap.size + 1, 2, none⟩ = some (.int .i64 0) := hz.cell 2
      have z3 : w1.cell? ⟨w.heap.size + 1, 3, none⟩ = some (.int .i64 0) := hz.cell 3
      have z4 : w1.cell? ⟨w.heap.size + 1, 4, none⟩ = some (.int .i64 0) := hz.cell 4
      go_wp2_with fail
      (try simp only [Exit.inBlock, Exit.then])
      refine bodyPost_ret (results_cell_row rfl _ _ (w.heap.size + 1) 186 _ (0, 0) _ rfl (((((((((hz.far (p := ⟨w.heap.size, 3, none⟩) (by simp) _).far (p := ⟨w.heap.size, 2, none⟩) (by simp) _).far (p := ⟨w.heap.size, 2, none⟩) (by simp) _).far (p := ⟨w.heap.size, 1, none⟩) (by simp) _).set_ 0 _).set_ 1 _).set_ 2 _).set_ 3 _).set_ 4 _) Tryz.underlying186 rfl (by kernel_rfl)) rfl ?_
      refine ⟨?_, ?_⟩
      · rw [HE.out]; first | rfl | simp [zeroD]
      · (repeat (first | (with_reducible exact HBB.out) | (with_reducible refine Below.setCell ?_ (by simp) _)))
end Go.Proofs.YtmdjfjdlehdhjaaGreatDoor.BW
