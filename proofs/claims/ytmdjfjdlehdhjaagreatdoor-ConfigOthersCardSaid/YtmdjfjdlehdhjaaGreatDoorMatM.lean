/- Contracts of the reference's date, matches, clock. -/
import Derived.Test.YtmdjfjdlehdhjaaGreatDoorMatI
import Derived.Test.YtmdjfjdlehdhjaaGreatDoorMRef
namespace Go.Proofs.YtmdjfjdlehdhjaaGreatDoor.BW
open Go.RowKit BM Go.Shelf MC
open BK hiding ret_bool ret_i64

/-- A day as the reference has it. -/
noncomputable def dtV (n : Nat) : Array Value := #[.int .i64 n, .int .i64 ((ymd n).1 : Nat), .int .i64 ((ymd n).2.1 : Nat), .int .i64 ((ymd n).2.2 : Nat), .int .i64 ((n + 4) % 7 : Nat)]
set_option maxRecDepth 8000 in
set_option maxHeartbeats 2000000 in
theorem rdt_ok (n : Nat) (h : n ≤ 2932896) (w : World) : Calls Tryz.prog 157 #[.int .i64 n] w fun e w' => e = .returned (.agg (dtV n)) ∧ Below w.heap.size w w' := by
  have C := Lib.hid (rdate_ok n h (w.alloc (.cells #[.int .i64 0, .int .i64 0, .int .i64 0, .int .i64 0, .int .i64 0] 186)))
  have hw7 : ((n : Int) + 4) % 7 = ((n + 4) % 7 : Nat) := by omega
  have HW := Lib.hid hw7
  clear hw7
  unfold dtV
  rw [← HW.out]
  clear HW
  generalize (ymd n).1 = y at *
  generalize (ymd n).2.1 = m at *
  generalize (ymd n).2.2 = d at *
  go_enter Tryz.func157, Tryz.ntmps157
  go_wp2_with fail
  refine (C.out).mono ?_
  rintro e w1 ⟨rfl, hb1⟩
  simp only [World.size_alloc] at hb1
  have hbk : Blk w1 w.heap.size 186 _ := (Blk.new w _ _).below hb1 (by omega)
  have hf := fun i => hbk.frozen i
  have h0 : w1.cell? ⟨w.heap.size, 0, none⟩ = some (.int .i64 0) := hbk.cell 0
  have h1 : w1.cell? ⟨w.heap.size, 1, none⟩ = some (.int .i64 0) := hbk.cell 1
  have h2 : w1.cell? ⟨w.heap.size, 2, none⟩ = some (.int .i64 0) := hbk.cell 2
  have h3 : w1.cell? ⟨w.heap.size, 3, none⟩ = some (.int .i64 0) := hbk.cell 3
  have h4 : w1.cell? ⟨w.heap.size, 4, none⟩ = some (.int .i64 0) := hbk.cell 4
  go_wp2_with fail
  (try simp only [Exit.inBlock, Exit.then])
  refine bodyPost_ret (results_cell_row rfl _ _ w.heap.size _ _ (0, 0) _ rfl (((((hbk.set_ 0 _).set_ 1 _).set_ 2 _).set_ 3 _).set_ 4 _) Tryz.underlying186 rfl (by kernel_rfl)) rfl ?_
  refine ⟨by first | rfl | simp, ?_⟩
  exact ((((((Below.refl _ w).alloc (Nat.le_refl _) _).trans (hb1.mono (by omega))).setCell (Nat.le_refl _) _).setCell (Nat.le_refl _) _).setCell (Nat.le_refl _) _).setCell (Nat.le_refl _) _ |>.setCell (Nat.le_refl _) _

theorem has_nat (s i : Nat) (hi : i < 64) : has s (i : Int) = s.testBit i := by
  unfold has; simp; intro _; omega
set_option maxHeartbeats 2000000 in
theorem rclock_ok (x : Ex) (hx : U64s x) (s : Nat) (hs : s < 86400) (w : World) : Calls Tryz.prog 125 #[.agg (exV x), .int .i64 s] w fun e w' => e = .returned (.bool (clk x s)) ∧ Below w.heap.size w w' := by
  have C1 := Lib.hid (fun v => rhas_ok x.h v hx.h (w.alloc (.cells (exV x) 24)))
  have C2 := Lib.hid (fun v => rhas_ok x.mi v hx.mi (w.alloc (.cells (exV x) 24)))
  have C3 := Lib.hid (fun v => rhas_ok x.s v hx.s (w.alloc (.cells (exV x) 24)))
  have e1 : has x.h ((s : Int) / 3600) = x.h.testBit (s / 3600) := by rw [← has_nat _ _ (by omega)]; congr 1
  have e2 : has x.mi ((s : Int) / 60 % 60) = x.mi.testBit (s / 60 % 60) := by rw [← has_nat _ _ (by omega)]; congr 1
  have e3 : has x.s ((s : Int) % 60) = x.s.testBit (s % 60) := by rw [← has_nat _ _ (by omega)]; congr 1
  have E1 := Lib.hid e1
  have E2 := Lib.hid e2
  have E3 := Lib.hid e3
  clear e1 e2 e3
  unfold clk
  generalize x.h.testBit (s / 3600) = b1 at *
  generalize x.mi.testBit (s / 60 % 60) = b2 at *
  generalize x.s.testBit (s % 60) = b3 at *
  unfold exV at *
  cases b1
  · go_enter Tryz.func125, Tryz.ntmps125
    go_wp2_with fail
    refine (C1.out _).mono ?_
    rintro e w1 ⟨rfl, rfl⟩
    rw [E1.out]
    go_wp2_with fail
    go_ret
    exact ⟨rfl, (Below.refl _ w).alloc (Nat.le_refl _) _⟩
  · cases b2
    · go_enter Tryz.func125, Tryz.ntmps125
      go_wp2_with fail
      refine (C1.out _).mono ?_
      rintro e w1 ⟨rfl, rfl⟩
      rw [E1.out]
      go_wp2_with fail
      refine (C2.out _).mono ?_
      rintro e w1 ⟨rfl, rfl⟩
      rw [E2.out]
      go_wp2_with fail
      go_ret
      exact ⟨rfl, (Below.refl _ w).alloc (Nat.le_refl _) _⟩
    · go_enter Tryz.func125, Tryz.ntmps125
      go_wp2_with fail
      refine (C1.out _).mono ?_
      rintro e w1 ⟨rfl, rfl⟩
      rw [E1.out]
      go_wp2_with fail
      refine (C2.out _).mono ?_
      rintro e w1 ⟨rfl, rfl⟩
      rw [E2.out]
      go_wp2_with fail
      refine (C3.out _).mono ?_
      rintro e w1 ⟨rfl, rfl⟩
      rw [E3.out]
      go_wp2_with fail
      go_ret
      exact ⟨by simp, (Below.refl _ w).alloc (Nat.le_refl _) _⟩
end Go.Proofs.YtmdjfjdlehdhjaaGreatDoor.BW
