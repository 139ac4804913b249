/- Contract of the reference's on, backwards. -/
import Derived.Test.YtepoegcpfhjlpaaDoorMatO
namespace Go.Proofs.YtepoegcpfhjlpaaDoor.BW
open Go.RowKit BM Go.Shelf MC
open BK hiding ret_bool ret_i64

theorem dtV_at (n y m d : Nat) (q : Int) (h : ymd n = (y, m, d)) (hq : q = ((n + 4) % 7 : Nat)) : dtV n = #[.int .i64 (n : Int), .int .i64 y, .int .i64 m, .int .i64 d, .int .i64 q] := by
  unfold dtV
  rw [h, hq]
/-- What lies ahead of the first day. -/
def dtB : Array Value := #[.int .i64 (-1), .int .i64 1969, .int .i64 12, .int .i64 31, .int .i64 3]
noncomputable def dtP : Nat → Array Value
  | 0 => dtB
  | n + 1 => dtV n
set_option maxRecDepth 8000 in
set_option maxHeartbeats 4000000 in
theorem onb_succ (n : Nat) (hn : n + 1 ≤ 2932896) (w : World) : Calls Tryd.prog 42 #[.agg (dtV (n + 1)), .bool true] w fun e w' => e = .returned (.agg (dtV n)) ∧ Below w.heap.size w w' := by
  have hy := year_le (n := n) (by omega)
  obtain ⟨⟨v1, v2, v3, v4, v5⟩, hdn⟩ := ymd_spec n
  have hs := ymd_succ n
  unfold onF at hs
  have hml := mlen_bounds (ymd n).1 (ymd n).2.1
  obtain ⟨q, hq⟩ : ∃ q : Nat, q = (n + 1 + 4) % 7 := ⟨_, rfl⟩
  have hq3 : q < 7 := by omega
  have HQ : Hid ((((q : Nat) : Int) + 6) % 7 = ((n + 4) % 7 : Nat)) := Lib.hid (by omega)
  have HE := Lib.hid (dtV_at n (ymd n).1 (ymd n).2.1 (ymd n).2.2 _ rfl HQ.out)
  have HD := Lib.hid (dtV_at (n + 1))
  rw [HE.out]
  clear HE hdn
  generalize (ymd n).1 = y at *
  generalize (ymd n).2.1 = m at *
  generalize (ymd n).2.2 = d at *
  have e1 : (((n + 1 : Nat) : Int)) = (n : Int) + 1 := by omega
  have hmax : max (y : Int) 1970 = y := by omega
  have CL := Lib.hid (rlen_ok y m v1 hy v2 v3)
  generalize mlen y m = l at *
  by_cases hA : d + 1 ≤ l
  · rw [if_pos hA] at hs
    rw [HD.out _ _ _ (q : Int) hs (by omega), e1]
    clear HD hs e1 hq HQ CL
    go_enter Tryd.func42, Tryd.ntmps42
    go_wp2
    (try simp only [Exit.inBlock, Exit.then])
    refine bodyPost_ret (results_cell_row rfl _ _ (w.heap.size + 1) 57 _ (0, 0) _ rfl (Blk.newAt (by simp)) Tryd.underlying57 rfl (by kernel_rfl)) rfl ?_
    exact ⟨by simp, ((Below.refl _ w).alloc (Nat.le_refl _) _).alloc (by simp) _⟩
  · rw [if_neg hA] at hs
    obtain rfl : d = l := by omega
    by_cases hB : m < 12
    · rw [if_pos hB] at hs
      rw [HD.out _ _ _ (q : Int) hs (by omega), e1]
      clear HD hs e1 hq HQ
      go_enter Tryd.func42, Tryd.ntmps42
      go_wp2_with fail
      refine (CL.out _).mono ?_
      rintro e w1 ⟨rfl, hb⟩
      have hx : Blk w1 w.heap.size 57 #[.int .i64 n, .int .i64 y, .int .i64 m, .int .i64 0, .int .i64 (((q : Int) + 6) % 7)] := Blk.below ((Blk.new w _ _).alloc _) hb (by simp; omega)
      have hz : Blk w1 (w.heap.size + 1) 57 zeroD := Blk.below (Blk.newAt (by simp)) hb (by simp)
      have HBB := Lib.hid ((((Below.refl _ w).alloc (Nat.le_refl _) (.cells #[.int .i64 n, .int .i64 y, .int .i64 m, .int .i64 0, .int .i64 (((q : Int) + 6) % 7)] 57)).alloc (by simp) (.cells zeroD 57)).trans (hb.mono (by simp; omega)))
      clear hb
      have hfx := fun i => hx.frozen i
      have hfz := fun i => hz.frozen i
      have x0 : w1.cell? ⟨w.heap.size, 0, none⟩ = some (.int .i64 n) := hx.cell 0
      have x1 : w1.cell? ⟨w.heap.size, 1, none⟩ = some (.int .i64 y) := hx.cell 1
      have x2 : w1.cell? ⟨w.heap.size, 2, none⟩ = some (.int .i64 m) := hx.cell 2
      have x3 : w1.cell? ⟨w.heap.size, 3, none⟩ = some (.int .i64 0) := hx.cell 3
      have x4 : w1.cell? ⟨w.heap.size, 4, none⟩ = some (.int .i64 (((q : Int) + 6) % 7)) := hx.cell 4
      have z0 : w1.cell? ⟨w.heap.size + 1, 0, none⟩ = some (.int .i64 0) := hz.cell 0
      have z1 : w1.cell? ⟨w.heap.size + 1, 1, none⟩ = some (.int .i64 0) := hz.cell 1
      have z2 : w1.cell? ⟨w.heap.size + 1, 2, none⟩ = some (.int .i64 0) := hz.cell 2
      have z3 : w1.cell? ⟨w.heap.size + 1, 3, none⟩ = some (.int .i64 0) := hz.cell 3
      have z4 : w1.cell? ⟨w.heap.size + 1, 4, none⟩ = some (.int .i64 0) := hz.cell 4
      go_wp2_with fail
      (try simp only [Exit.inBlock, Exit.then])
      refine bodyPost_ret (results_cell_row rfl _ _ (w.heap.size + 1) 57 _ (0, 0) _ rfl ((((((hz.far (p := ⟨w.heap.size, 3, none⟩) (by simp) _).set_ 0 _).set_ 1 _).set_ 2 _).set_ 3 _).set_ 4 _) Tryd.underlying57 rfl (by kernel_rfl)) rfl ?_
      refine ⟨?_, ?_⟩
      · first | rfl | simp [zeroD]
      · (repeat (first | (with_reducible exact HBB.out) | (with_reducible refine Below.setCell ?_ (by simp) _)))
    · rw [if_neg hB] at hs
      obtain rfl : m = 12 := by omega
      rw [HD.out _ _ _ (q : Int) hs (by omega), e1]
      clear HD hs e1 hq HQ
      go_enter Tryd.func42, Tryd.ntmps42
      go_wp2_with fail
      refine (CL.out _).mono ?_
      rintro e w1 ⟨rfl, hb⟩
      have hx : Blk w1 w.heap.size 57 #[.int .i64 n, .int .i64 y, .int .i64 12, .int .i64 0, .int .i64 (((q : Int) + 6) % 7)] := Blk.below ((Blk.new w _ _).alloc _) hb (by simp; omega)
      have hz : Blk w1 (w.heap.size + 1) 57 zeroD := Blk.below (Blk.newAt (by simp)) hb (by simp)
      have HBB := Lib.hid ((((Below.refl _ w).alloc (Nat.le_refl _) (.cells #[.int .i64 n, .int .i64 y, .int .i64 12, .int .i64 0, .int .i64 (((q : Int) + 6) % 7)] 57)).alloc (by simp) (.cells zeroD 57)).trans (hb.mono (by simp; omega)))
      clear hb
      have hfx := fun i => hx.frozen i
      have hfz := fun i => hz.frozen i
      have x0 : w1.cell? ⟨w.heap.size, 0, none⟩ = some (.int .i64 n) := hx.cell 0
      have x1 : w1.cell? ⟨w.heap.size, 1, none⟩ = some (.int .i64 y) := hx.cell 1
      have x2 : w1.cell? ⟨w.heap.size, 2, none⟩ = some (.int .i64 12) := hx.cell 2
      have x3 : w1.cell? ⟨w.heap.size, 3, none⟩ = some (.int .i64 0) := hx.cell 3
      have x4 : w1.cell? ⟨w.heap.size, 4, none⟩ = some (.int .i64 (((q : Int) + 6) % 7)) := hx.cell 4
      have z0 : w1.cell? ⟨w.heap.size + 1, 0, none⟩ = some (.int .i64 0) := hz.cell 0
      have z1 : w1.cell? ⟨w.heap.size + 1, 1, none⟩ = some (.int .i64 0) := hz.cell 1
      have z2 : w1.cell? ⟨w.heap.size + 1, 2, none⟩ = some (.int .i64 0) := hz.cell 2
      have z3 : w1.cell? ⟨w.heap.size + 1, 3, none⟩ = some (.int .i64 0) := hz.cell 3
      have z4 : w1.cell? ⟨w.heap.size + 1, 4, none⟩ = some (.int .i64 0) := hz.cell 4
      go_wp2_with fail
      (try simp only [Exit.inBlock, Exit.then])
      refine bodyPost_ret (results_cell_row rfl _ _ (w.heap.size + 1) 57 _ (0, 0) _ rfl ((((((hz.far (p := ⟨w.heap.size, 3, none⟩) (by simp) _).set_ 0 _).set_ 1 _).set_ 2 _).set_ 3 _).set_ 4 _) Tryd.underlying57 rfl (by kernel_rfl)) rfl ?_
      refine ⟨?_, ?_⟩
      · first | rfl | simp [zeroD]
      · (repeat (first | (with_reducible exact HBB.out) | (with_reducible refine Below.setCell ?_ (by simp) _)))
set_option maxRecDepth 8000 in
set_option maxHeartbeats 4000000 in
theorem onb_zero (w : World) : Calls Tryd.prog 42 #[.agg (dtV 0), .bool true] w fun e w' => e = .returned (.agg dtB) ∧ Below w.heap.size w w' := by
  have CL := Lib.hid (rlen_ok 1970 12 (by decide) (by decide) (by decide) (by decide))
  rw [show mlen 1970 12 = 31 from rfl] at CL
  rw [dtV_at 0 1970 1 1 4 (by have h := ymd_dn (y := 1970) (m := 1) (d := 1) (by unfold Valid; decide); have e : dn 1970 1 1 = 0 := by decide +kernel
                              rwa [e] at h) rfl]
  go_enter Tryd.func42, Tryd.ntmps42
  go_wp2_with fail
  refine (CL.out _).mono ?_
  rintro e w1 ⟨rfl, hb⟩
  have hx : Blk w1 w.heap.size 57 #[.int .i64 (-1), .int .i64 1969, .int .i64 12, .int .i64 0, .int .i64 3] := Blk.below ((Blk.new w _ _).alloc _) hb (by simp; omega)
  have hz : Blk w1 (w.heap.size + 1) 57 zeroD := Blk.below (Blk.newAt (by simp)) hb (by simp)
  have HBB := Lib.hid ((((Below.refl _ w).alloc (Nat.le_refl _) (.cells #[.int .i64 (-1), .int .i64 1969, .int .i64 12, .int .i64 0, .int .i64 3] 57)).alloc (by simp) (.cells zeroD 57)).trans (hb.mono (by simp; omega)))
  clear hb
  have hfx := fun i => hx.frozen i
  have hfz := fun i => hz.frozen i
  have x0 : w1.cell? ⟨w.heap.size, 0, none⟩ = some (.int .i64 (-1)) := hx.cell 0
  have x1 : w1.cell? ⟨w.heap.size, 1, none⟩ = some (.int .i64 1969) := hx.cell 1
  have x2 : w1.cell? ⟨w.heap.size, 2, none⟩ = some (.int .i64 12) := hx.cell 2
  have x3 : w1.cell? ⟨w.heap.size, 3, none⟩ = some (.int .i64 0) := hx.cell 3
  have x4 : w1.cell? ⟨w.heap.size, 4, none⟩ = some (.int .i64 3) := hx.cell 4
  have z0 : w1.cell? ⟨w.heap.size + 1, 0, none⟩ = some (.int .i64 0) := hz.cell 0
  have z1 : w1.cell? ⟨w.heap.size + 1, 1, none⟩ = some (.int .i64 0) := hz.cell 1
  have z2 : w1.cell? ⟨w.heap.size + 1, 2, none⟩ = some (.int .i64 0) := hz.cell 2
  have z3 : w1.cell? ⟨w.heap.size + 1, 3, none⟩ = some (.int .i64 0) := hz.cell 3
  have z4 : w1.cell? ⟨w.heap.size + 1, 4, none⟩ = some (.int .i64 0) := hz.cell 4
  go_wp2_with fail
  (try simp only [Exit.inBlock, Exit.then])
  refine bodyPost_ret (results_cell_row rfl _ _ (w.heap.size + 1) 57 _ (0, 0) _ rfl ((((((hz.far (p := ⟨w.heap.size, 3, none⟩) (by simp) _).set_ 0 _).set_ 1 _).set_ 2 _).set_ 3 _).set_ 4 _) Tryd.underlying57 rfl (by kernel_rfl)) rfl ?_
  refine ⟨?_, ?_⟩
  · first | rfl | simp [zeroD, dtB]
  · (repeat (first | (with_reducible exact HBB.out) | (with_reducible refine Below.setCell ?_ (by simp) _)))
end Go.Proofs.YtepoegcpfhjlpaaDoor.BW
