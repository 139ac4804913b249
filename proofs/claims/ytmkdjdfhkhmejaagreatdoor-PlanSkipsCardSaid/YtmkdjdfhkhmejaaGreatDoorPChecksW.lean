/- Walk of PlanChecks: both sides answer alike, and the plan stays as it was. -/
import Derived.Test.YtmkdjdfhkhmejaaGreatDoorPEq
namespace Go.Proofs.YtmkdjdfhkhmejaaGreatDoor.BW
open Go.RowKit BM Go.Shelf MC RK
open BK hiding ret_bool ret_i64

/-- A plan in its box, and a copy of it in another. -/
structure P2 (w : World) (p : Pl) (l : List (Int × Int)) (b : Nat) (a : Option Addr) (c : Nat) (W : World) : Prop where
  xb : Blk W w.heap.size 29 (plV p)
  yb : Blk W b 29 (plV (p.withS a c))
  arg : PArg W p l
  sp : SpansAt W a l
  below : Below w.heap.size w W
theorem P2.next {w : World} {p : Pl} {l : List (Int × Int)} {b : Nat} {a : Option Addr} {c : Nat} {X Y : World} (h : P2 w p l b a c X) (hb : Below X.heap.size X Y) : P2 w p l b a c Y :=
  ⟨h.xb.below hb h.xb.lt, h.yb.below hb h.yb.lt, h.arg.below hb, h.sp.below hb, h.below.trans (hb.mono h.below.size)⟩
theorem P2.cells {w : World} {p : Pl} {l : List (Int × Int)} {b : Nat} {a : Option Addr} {c : Nat} {W : World} (h : P2 w p l b a c W) : W.cell? ⟨w.heap.size, 0, none⟩ = some (.int .i64 p.k) ∧ W.cell? ⟨w.heap.size, 1, none⟩ = some (.int .u64 p.x.s) ∧ W.cell? ⟨w.heap.size, 2, none⟩ = some (.int .u64 p.x.mi) ∧ W.cell? ⟨w.heap.size, 3, none⟩ = some (.int .u64 p.x.h) ∧ W.cell? ⟨w.heap.size, 4, none⟩ = some (.int .u64 p.x.d) ∧ W.cell? ⟨w.heap.size, 5, none⟩ = some (.int .u64 p.x.mo) ∧ W.cell? ⟨w.heap.size, 6, none⟩ = some (.int .u64 p.x.w) ∧ W.cell? ⟨w.heap.size, 7, none⟩ = some (.bool p.x.ad) ∧ W.cell? ⟨w.heap.size, 8, none⟩ = some (.bool p.x.aw) ∧ W.cell? ⟨w.heap.size, 9, none⟩ = some (.int .i64 p.z) ∧ W.cell? ⟨w.heap.size, 10, none⟩ = some (.int .i64 p.e.s) ∧ W.cell? ⟨w.heap.size, 11, none⟩ = some (.int .i64 p.e.p) ∧ W.cell? ⟨w.heap.size, 12, none⟩ = some (.int .i64 p.e.c) ∧ W.cell? ⟨w.heap.size, 13, none⟩ = some (.slice p.a p.n p.c) :=
  ⟨h.xb.cell 0, h.xb.cell 1, h.xb.cell 2, h.xb.cell 3, h.xb.cell 4, h.xb.cell 5, h.xb.cell 6, h.xb.cell 7, h.xb.cell 8, h.xb.cell 9, h.xb.cell 10, h.xb.cell 11, h.xb.cell 12, h.xb.cell 13⟩
theorem P2.cells2 {w : World} {p : Pl} {l : List (Int × Int)} {b : Nat} {a : Option Addr} {c : Nat} {W : World} (h : P2 w p l b a c W) : W.cell? ⟨b, 0, none⟩ = some (.int .i64 p.k) ∧ W.cell? ⟨b, 1, none⟩ = some (.int .u64 p.x.s) ∧ W.cell? ⟨b, 2, none⟩ = some (.int .u64 p.x.mi) ∧ W.cell? ⟨b, 3, none⟩ = some (.int .u64 p.x.h) ∧ W.cell? ⟨b, 4, none⟩ = some (.int .u64 p.x.d) ∧ W.cell? ⟨b, 5, none⟩ = some (.int .u64 p.x.mo) ∧ W.cell? ⟨b, 6, none⟩ = some (.int .u64 p.x.w) ∧ W.cell? ⟨b, 7, none⟩ = some (.bool p.x.ad) ∧ W.cell? ⟨b, 8, none⟩ = some (.bool p.x.aw) ∧ W.cell? ⟨b, 9, none⟩ = some (.int .i64 p.z) ∧ W.cell? ⟨b, 10, none⟩ = some (.int .i64 p.e.s) ∧ W.cell? ⟨b, 11, none⟩ = some (.int .i64 p.e.p) ∧ W.cell? ⟨b, 12, none⟩ = some (.int .i64 p.e.c) ∧ W.cell? ⟨b, 13, none⟩ = some (.slice a p.n c) :=
  ⟨h.yb.cell 0, h.yb.cell 1, h.yb.cell 2, h.yb.cell 3, h.yb.cell 4, h.yb.cell 5, h.yb.cell 6, h.yb.cell 7, h.yb.cell 8, h.yb.cell 9, h.yb.cell 10, h.yb.cell 11, h.yb.cell 12, h.yb.cell 13⟩
theorem P2.pin {w : World} {p : Pl} {l : List (Int × Int)} {b : Nat} {a : Option Addr} {c : Nat} {W : World} (h : P2 w p l b a c W) : PIn W p l := ⟨h.arg.x, h.arg.n, h.arg.at_⟩
theorem P2.qin {w : World} {p : Pl} {l : List (Int × Int)} {b : Nat} {a : Option Addr} {c : Nat} {W : World} (h : P2 w p l b a c W) : PIn W (p.withS a c) l := ⟨h.arg.x, h.arg.n, h.sp⟩
theorem PBx.pin {w : World} {p : Pl} {l : List (Int × Int)} {W : World} (h : PBx w p l W) : PIn W p l := ⟨h.arg.x, h.arg.n, h.arg.at_⟩
set_option maxRecDepth 100000 in
set_option maxHeartbeats 8000000 in
theorem lchecks_ok (p : Pl) (l : List (Int × Int)) (t : Int) (w : World) (hp : PIn w p l) (hT : SpTab w) (hTab : Tab w) : Calls Tryz.prog 3 #[.agg (plV p), .int .i64 t] w fun e w' => e = .returned (.bool true) ∧ Below w.heap.size w w' := by
  have hB1 : Below w.heap.size w (w.alloc (.cells (plV p) 29)) := (Below.refl _ w).alloc (Nat.le_refl _) _
  have e0 : plV p = #[.int .i64 p.k, .int .u64 p.x.s, .int .u64 p.x.mi, .int .u64 p.x.h, .int .u64 p.x.d, .int .u64 p.x.mo, .int .u64 p.x.w, .bool p.x.ad, .bool p.x.aw, .int .i64 p.z, .int .i64 p.e.s, .int .i64 p.e.p, .int .i64 p.e.c, .slice p.a p.n p.c] := rfl
  by_cases h64 : 200 < p.n
  · have d1 : decide (200 < p.n) = true := decide_eq_true h64
    have d1' : decide ((200 : Int) < p.n) = true := decide_eq_true (by omega)
    have CW := Lib.hid (plworks_ok _ (hT.below hB1) (tab_below hTab hB1 (World.block_lt_of_cell? w _ (hTab 0 (by decide)))))
    have HB1 := Lib.hid hB1
    rw [e0] at CW ⊢
    clear hT hTab hp h64 hB1 e0
    go_enter Tryz.func3, Tryz.ntmps3
    go_wp2_with fail
    refine (CW.out).mono ?_
    rintro e w2 ⟨rfl, hb⟩
    go_wp2_with fail
    go_ret
    exact ⟨rfl, HB1.out.trans (Below.mono (w := w.alloc _) hb HB1.out.size)⟩
  · have d1 : decide (200 < p.n) = false := decide_eq_false h64
    have d1' : decide ((200 : Int) < p.n) = false := decide_eq_false (by omega)
    have h200 : p.n ≤ 200 := by omega
    have HI := Lib.hid (show PBx w p l (w.alloc (.cells (plV p) 29)) from ⟨Blk.new w _ _, (hp.arg (by omega) hT hTab).below hB1, hB1⟩)
    have CC := Lib.hid (fun W (h : PBx w p l W) => rcopy_ok p l W h.pin h200)
    have CI := Lib.hid (fun b a c W (h : P2 w p l b a c W) => plis_ok p l t W h.arg)
    have CJ := Lib.hid (fun b a c W (h : P2 w p l b a c W) => rplis_ok p l t W h.arg)
    have CX := Lib.hid (fun b a c W (h : P2 w p l b a c W) => plnext_ok p l t W h.arg)
    have CY := Lib.hid (fun b a c W (h : P2 w p l b a c W) => rplnx_ok p l t W h.arg)
    have CK := Lib.hid (fun b a c W (h : P2 w p l b a c W) (d : Nat) (os : Array Obj) => Calls.regrown_of (plcheck_ok p l (Sort.grow (redrawn W d) os) (h.arg.below (below_regrown W d os))))
    have CL := Lib.hid (fun b a c W (h : P2 w p l b a c W) (d : Nat) (os : Array Obj) => Calls.regrown_of (rplck_ok p l (Sort.grow (redrawn W d) os) (h.arg.below (below_regrown W d os))))
    have CE := Lib.hid (fun b a c W (h : P2 w p l b a c W) (d : Nat) (os : Array Obj) => Calls.regrown_of (v := .bool true) (by
      have h9 := req_ok p (p.withS a c) l l (Sort.grow (redrawn W d) os) ((h.pin).below (below_regrown W d os)) ((h.qin).below (below_regrown W d os)) h200 h200
      rwa [eqP_with] at h9))
    have CW := Lib.hid (fun b a c W (h : P2 w p l b a c W) (d : Nat) (os : Array Obj) => Calls.regrown_of (plworks_ok (Sort.grow (redrawn W d) os) (h.arg.sp.below (below_regrown W d os)) (h.next (below_regrown W d os)).arg.tab))
    have ew : ∀ a c, plV (p.withS a c) = #[.int .i64 p.k, .int .u64 p.x.s, .int .u64 p.x.mi, .int .u64 p.x.h, .int .u64 p.x.d, .int .u64 p.x.mo, .int .u64 p.x.w, .bool p.x.ad, .bool p.x.aw, .int .i64 p.z, .int .i64 p.e.s, .int .i64 p.e.p, .int .i64 p.e.c, .slice a p.n c] := fun _ _ => rfl
    rw [e0] at CC CI CJ CX CY
    simp only [e0, ew] at CC CK CL CE
    rw [e0]
    have EW := Lib.hid ew
    generalize (nxQ p l t).isSome = S at *
    generalize optI (nxQ p l t) = N at *
    generalize (decide (finE p l [t] = 0) && isP p l t) = B at *
    generalize finE p l [t] = F at *
    generalize plE p l = E at *
    clear hp h64 hT hTab hB1 e0 ew h200
    go_enter Tryz.func3, Tryz.ntmps3
    go_wp2_with fail
    refine (CC.out _ HI.out).mono ?_
    rintro e w2 ⟨a, c, rfl, ho, hb⟩
    have HI := Lib.hid (HI.out.next hb)
    obtain ⟨ad, cap, he, hs⟩ := ho.shape
    rw [HI.out.arg.n] at he
    injection he with he1 he2 he3
    subst he1 he3
    have HSP := Lib.hid hs
    clear hs ho hb
    obtain ⟨c0, c1, c2, c3, c4, c5, c6, c7, c8, c9, c10, c11, c12, c13⟩ := HI.out.cells
    have HLT : w.heap.size < w2.heap.size := HI.out.xb.lt
    go_wp2_with fail
    have HJ := Lib.hid (show P2 w p l w2.heap.size a c (w2.alloc (.cells #[.int .i64 p.k, .int .u64 p.x.s, .int .u64 p.x.mi, .int .u64 p.x.h, .int .u64 p.x.d, .int .u64 p.x.mo, .int .u64 p.x.w, .bool p.x.ad, .bool p.x.aw, .int .i64 p.z, .int .i64 p.e.s, .int .i64 p.e.p, .int .i64 p.e.c, .slice a p.n c] 29)) from ⟨HI.out.xb.alloc _, Blk.new w2 _ _, HI.out.arg.below ((Below.refl _ w2).alloc (Nat.le_refl _) _), HSP.out.below ((Below.refl _ w2).alloc (Nat.le_refl _) _), HI.out.below.alloc HI.out.below.size _⟩)
    clear HI HSP
    refine (CI.out _ _ _ _ HJ.out).mono ?_
    rintro e w3 ⟨rfl, hb⟩
    have HJ := Lib.hid (HJ.out.next hb)
    clear hb c0 c1 c2 c3 c4 c5 c6 c7 c8 c9 c10 c11 c12 c13
    obtain ⟨c0, c1, c2, c3, c4, c5, c6, c7, c8, c9, c10, c11, c12, c13⟩ := HJ.out.cells
    go_wp2_with fail
    refine (CJ.out _ _ _ _ HJ.out).mono ?_
    rintro e w4 ⟨rfl, hb⟩
    have HJ := Lib.hid (HJ.out.next hb)
    clear hb c0 c1 c2 c3 c4 c5 c6 c7 c8 c9 c10 c11 c12 c13
    obtain ⟨c0, c1, c2, c3, c4, c5, c6, c7, c8, c9, c10, c11, c12, c13⟩ := HJ.out.cells
    go_wp2_with fail
    refine (CX.out _ _ _ _ HJ.out).mono ?_
    rintro e w5 ⟨rfl, hb⟩
    have HJ := Lib.hid (HJ.out.next hb)
    clear hb c0 c1 c2 c3 c4 c5 c6 c7 c8 c9 c10 c11 c12 c13
    obtain ⟨c0, c1, c2, c3, c4, c5, c6, c7, c8, c9, c10, c11, c12, c13⟩ := HJ.out.cells
    go_wp2_with fail
    refine (CY.out _ _ _ _ HJ.out).mono ?_
    rintro e w6 ⟨rfl, hb⟩
    have HJ := Lib.hid (HJ.out.next hb)
    clear hb c0 c1 c2 c3 c4 c5 c6 c7 c8 c9 c10 c11 c12 c13
    obtain ⟨c0, c1, c2, c3, c4, c5, c6, c7, c8, c9, c10, c11, c12, c13⟩ := HJ.out.cells
    obtain ⟨k0, k1, k2, k3, k4, k5, k6, k7, k8, k9, k10, k11, k12, k13⟩ := HJ.out.cells2
    have C1 := Lib.hid (CK.out _ _ _ _ HJ.out)
    have C2 := Lib.hid (CL.out _ _ _ _ HJ.out)
    have C3 := Lib.hid (CE.out _ _ _ _ HJ.out)
    have C4 := Lib.hid (CW.out _ _ _ _ HJ.out)
    replace c0 := cell_regrown c0
    replace c1 := cell_regrown c1
    replace c2 := cell_regrown c2
    replace c3 := cell_regrown c3
    replace c4 := cell_regrown c4
    replace c5 := cell_regrown c5
    replace c6 := cell_regrown c6
    replace c7 := cell_regrown c7
    replace c8 := cell_regrown c8
    replace c9 := cell_regrown c9
    replace c10 := cell_regrown c10
    replace c11 := cell_regrown c11
    replace c12 := cell_regrown c12
    replace c13 := cell_regrown c13
    replace k0 := cell_regrown k0
    replace k1 := cell_regrown k1
    replace k2 := cell_regrown k2
    replace k3 := cell_regrown k3
    replace k4 := cell_regrown k4
    replace k5 := cell_regrown k5
    replace k6 := cell_regrown k6
    replace k7 := cell_regrown k7
    replace k8 := cell_regrown k8
    replace k9 := cell_regrown k9
    replace k10 := cell_regrown k10
    replace k11 := cell_regrown k11
    replace k12 := cell_regrown k12
    replace k13 := cell_regrown k13
    clear CI CJ CX CY CK CL CE CW CC
    go_wp2_with fail
    refine wp_region_quiet_below (by kernel_rfl) (by kernel_rfl) ?_
    repeat (go_big_quiet_step (fail))
    go_big_quiet_step ((go_at_call 19; exact C1.out _ _))
    repeat (go_big_quiet_step (fail))
    go_big_quiet_step ((go_at_call 20; exact C2.out _ _))
    repeat (go_big_quiet_step (fail))
    go_big_quiet_step ((go_at_call 21; exact C3.out _ _))
    repeat (go_big_quiet_step (fail))
    go_big_quiet_step ((go_at_call 13; exact C4.out _ _))
    repeat (go_big_quiet_step (fail))
    refine wpQuiet_nil ?_
    intro _ hw'
    obtain ⟨⟨dq, osq⟩, hw''⟩ := hw'
    subst hw''
    go_wp2_with fail
    go_ret
    exact ⟨rfl, HJ.out.below.trans ((below_regrown w6 dq osq).mono HJ.out.below.size)⟩
end Go.Proofs.YtmkdjdfhkhmejaaGreatDoor.BW
