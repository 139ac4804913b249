/- Walk of PlanSames: both sides compare alike, and a copy shares no memory. -/
import Derived.Test.YtmkdjdfhkhmejaaGreatDoorPChecksW
namespace Go.Proofs.YtmkdjdfhkhmejaaGreatDoor.BW
open Go.RowKit BM Go.Shelf MC RK
open BK hiding ret_bool ret_i64

theorem SpansAt.far {W : World} {a : Option Addr} {l : List (Int × Int)} (h : SpansAt W a l) {g : Nat} (hg : ∀ b off, a = some ⟨b, off, none⟩ → b ≠ g) (j : Nat) (u : Value) : SpansAt (W.setCell ⟨g, j, none⟩ u) a l := fun k hk => by
  obtain ⟨b, off, e, h1, h2⟩ := h k hk
  have hne := hg b off e
  have hh : (W.setCell ⟨g, j, none⟩ u).heap[b]? = W.heap[b]? := Below.heap_setCell W ⟨g, j, none⟩ u b hne
  refine ⟨b, off, e, ?_, ?_⟩
  · rw [← h1]; unfold World.cell?; rw [hh]
  · rw [← h2]; unfold World.cell?; rw [hh]
/-- The row of the copy's spans. -/
def Rw (w : World) (n g b5 : Nat) (a5 : Option Addr) (W : World) : Prop := 0 < n → ∃ cur, a5 = some ⟨g, 0, none⟩ ∧ Blk W g 54 cur ∧ n * 2 ≤ cur.size ∧ w.heap.size + 2 ≤ g ∧ g ≠ b5
theorem Rw.below {w : World} {n g b5 : Nat} {a5 : Option Addr} {X Y : World} (h : Rw w n g b5 a5 X) (hb : Below X.heap.size X Y) : Rw w n g b5 a5 Y := fun h0 => by
  obtain ⟨cur, h1, h2, h3⟩ := h h0
  exact ⟨cur, h1, h2.below hb h2.lt, h3⟩
/-- Two plans in their boxes, and a copy of the one in another. -/
structure P3 (w : World) (p q : Pl) (l : List (Int × Int)) (g b : Nat) (a : Option Addr) (c : Nat) (W : World) : Prop where
  xb : Blk W w.heap.size 29 (plV p)
  qb : Blk W (w.heap.size + 1) 29 (plV q)
  yb : Blk W b 29 (plV (p.withS a c))
  sp : SpansAt W a l
  row : Rw w p.n g b a W
  below : Below w.heap.size w W
theorem P3.next {w : World} {p q : Pl} {l : List (Int × Int)} {g b : Nat} {a : Option Addr} {c : Nat} {X Y : World} (h : P3 w p q l g b a c X) (hb : Below X.heap.size X Y) : P3 w p q l g b a c Y :=
  ⟨h.xb.below hb h.xb.lt, h.qb.below hb h.qb.lt, h.yb.below hb h.yb.lt, h.sp.below hb, h.row.below hb, h.below.trans (hb.mono h.below.size)⟩
theorem P3.cells {w : World} {p q : Pl} {l : List (Int × Int)} {g b : Nat} {a : Option Addr} {c : Nat} {W : World} (h : P3 w p q l g b a c W) : W.cell? ⟨w.heap.size, 0, none⟩ = some (.int .i64 p.k) ∧ W.cell? ⟨w.heap.size, 1, none⟩ = some (.int .u64 p.x.s) ∧ W.cell? ⟨w.heap.size, 2, none⟩ = some (.int .u64 p.x.mi) ∧ W.cell? ⟨w.heap.size, 3, none⟩ = some (.int .u64 p.x.h) ∧ W.cell? ⟨w.heap.size, 4, none⟩ = some (.int .u64 p.x.d) ∧ W.cell? ⟨w.heap.size, 5, none⟩ = some (.int .u64 p.x.mo) ∧ W.cell? ⟨w.heap.size, 6, none⟩ = some (.int .u64 p.x.w) ∧ W.cell? ⟨w.heap.size, 7, none⟩ = some (.bool p.x.ad) ∧ W.cell? ⟨w.heap.size, 8, none⟩ = some (.bool p.x.aw) ∧ W.cell? ⟨w.heap.size, 9, none⟩ = some (.int .i64 p.z) ∧ W.cell? ⟨w.heap.size, 10, none⟩ = some (.int .i64 p.e.s) ∧ W.cell? ⟨w.heap.size, 11, none⟩ = some (.int .i64 p.e.p) ∧ W.cell? ⟨w.heap.size, 12, none⟩ = some (.int .i64 p.e.c) ∧ W.cell? ⟨w.heap.size, 13, none⟩ = some (.slice p.a p.n p.c) :=
  ⟨h.xb.cell 0, h.xb.cell 1, h.xb.cell 2, h.xb.cell 3, h.xb.cell 4, h.xb.cell 5, h.xb.cell 6, h.xb.cell 7, h.xb.cell 8, h.xb.cell 9, h.xb.cell 10, h.xb.cell 11, h.xb.cell 12, h.xb.cell 13⟩
theorem P3.cellsq {w : World} {p q : Pl} {l : List (Int × Int)} {g b : Nat} {a : Option Addr} {c : Nat} {W : World} (h : P3 w p q l g b a c W) : W.cell? ⟨w.heap.size + 1, 0, none⟩ = some (.int .i64 q.k) ∧ W.cell? ⟨w.heap.size + 1, 1, none⟩ = some (.int .u64 q.x.s) ∧ W.cell? ⟨w.heap.size + 1, 2, none⟩ = some (.int .u64 q.x.mi) ∧ W.cell? ⟨w.heap.size + 1, 3, none⟩ = some (.int .u64 q.x.h) ∧ W.cell? ⟨w.heap.size + 1, 4, none⟩ = some (.int .u64 q.x.d) ∧ W.cell? ⟨w.heap.size + 1, 5, none⟩ = some (.int .u64 q.x.mo) ∧ W.cell? ⟨w.heap.size + 1, 6, none⟩ = some (.int .u64 q.x.w) ∧ W.cell? ⟨w.heap.size + 1, 7, none⟩ = some (.bool q.x.ad) ∧ W.cell? ⟨w.heap.size + 1, 8, none⟩ = some (.bool q.x.aw) ∧ W.cell? ⟨w.heap.size + 1, 9, none⟩ = some (.int .i64 q.z) ∧ W.cell? ⟨w.heap.size + 1, 10, none⟩ = some (.int .i64 q.e.s) ∧ W.cell? ⟨w.heap.size + 1, 11, none⟩ = some (.int .i64 q.e.p) ∧ W.cell? ⟨w.heap.size + 1, 12, none⟩ = some (.int .i64 q.e.c) ∧ W.cell? ⟨w.heap.size + 1, 13, none⟩ = some (.slice q.a q.n q.c) :=
  ⟨h.qb.cell 0, h.qb.cell 1, h.qb.cell 2, h.qb.cell 3, h.qb.cell 4, h.qb.cell 5, h.qb.cell 6, h.qb.cell 7, h.qb.cell 8, h.qb.cell 9, h.qb.cell 10, h.qb.cell 11, h.qb.cell 12, h.qb.cell 13⟩
theorem P3.cells2 {w : World} {p q : Pl} {l : List (Int × Int)} {g b : Nat} {a : Option Addr} {c : Nat} {W : World} (h : P3 w p q l g b a c W) : W.cell? ⟨b, 0, none⟩ = some (.int .i64 p.k) ∧ W.cell? ⟨b, 1, none⟩ = some (.int .u64 p.x.s) ∧ W.cell? ⟨b, 2, none⟩ = some (.int .u64 p.x.mi) ∧ W.cell? ⟨b, 3, none⟩ = some (.int .u64 p.x.h) ∧ W.cell? ⟨b, 4, none⟩ = some (.int .u64 p.x.d) ∧ W.cell? ⟨b, 5, none⟩ = some (.int .u64 p.x.mo) ∧ W.cell? ⟨b, 6, none⟩ = some (.int .u64 p.x.w) ∧ W.cell? ⟨b, 7, none⟩ = some (.bool p.x.ad) ∧ W.cell? ⟨b, 8, none⟩ = some (.bool p.x.aw) ∧ W.cell? ⟨b, 9, none⟩ = some (.int .i64 p.z) ∧ W.cell? ⟨b, 10, none⟩ = some (.int .i64 p.e.s) ∧ W.cell? ⟨b, 11, none⟩ = some (.int .i64 p.e.p) ∧ W.cell? ⟨b, 12, none⟩ = some (.int .i64 p.e.c) ∧ W.cell? ⟨b, 13, none⟩ = some (.slice a p.n c) :=
  ⟨h.yb.cell 0, h.yb.cell 1, h.yb.cell 2, h.yb.cell 3, h.yb.cell 4, h.yb.cell 5, h.yb.cell 6, h.yb.cell 7, h.yb.cell 8, h.yb.cell 9, h.yb.cell 10, h.yb.cell 11, h.yb.cell 12, h.yb.cell 13⟩
/-- A plan, a copy whose spans are written over, and one that stays. -/
structure P4 (w : World) (p : Pl) (l : List (Int × Int)) (g b b6 : Nat) (a : Option Addr) (c : Nat) (a6 : Option Addr) (c6 : Nat) (W : World) : Prop where
  xb : Blk W w.heap.size 29 (plV p)
  yb : Blk W b 29 (plV (p.withS a c))
  zb : Blk W b6 29 (plV (p.withS a6 c6))
  sp : SpansAt W a6 l
  row : Rw w p.n g b a W
  far : 0 < p.n → g ≠ b6 ∧ ∀ b off, a6 = some ⟨b, off, none⟩ → b ≠ g
  below : Below w.heap.size w W
theorem P4.cells {w : World} {p : Pl} {l : List (Int × Int)} {g b b6 : Nat} {a : Option Addr} {c : Nat} {a6 : Option Addr} {c6 : Nat} {W : World} (h : P4 w p l g b b6 a c a6 c6 W) : W.cell? ⟨w.heap.size, 0, none⟩ = some (.int .i64 p.k) ∧ W.cell? ⟨w.heap.size, 1, none⟩ = some (.int .u64 p.x.s) ∧ W.cell? ⟨w.heap.size, 2, none⟩ = some (.int .u64 p.x.mi) ∧ W.cell? ⟨w.heap.size, 3, none⟩ = some (.int .u64 p.x.h) ∧ W.cell? ⟨w.heap.size, 4, none⟩ = some (.int .u64 p.x.d) ∧ W.cell? ⟨w.heap.size, 5, none⟩ = some (.int .u64 p.x.mo) ∧ W.cell? ⟨w.heap.size, 6, none⟩ = some (.int .u64 p.x.w) ∧ W.cell? ⟨w.heap.size, 7, none⟩ = some (.bool p.x.ad) ∧ W.cell? ⟨w.heap.size, 8, none⟩ = some (.bool p.x.aw) ∧ W.cell? ⟨w.heap.size, 9, none⟩ = some (.int .i64 p.z) ∧ W.cell? ⟨w.heap.size, 10, none⟩ = some (.int .i64 p.e.s) ∧ W.cell? ⟨w.heap.size, 11, none⟩ = some (.int .i64 p.e.p) ∧ W.cell? ⟨w.heap.size, 12, none⟩ = some (.int .i64 p.e.c) ∧ W.cell? ⟨w.heap.size, 13, none⟩ = some (.slice p.a p.n p.c) :=
  ⟨h.xb.cell 0, h.xb.cell 1, h.xb.cell 2, h.xb.cell 3, h.xb.cell 4, h.xb.cell 5, h.xb.cell 6, h.xb.cell 7, h.xb.cell 8, h.xb.cell 9, h.xb.cell 10, h.xb.cell 11, h.xb.cell 12, h.xb.cell 13⟩
theorem P4.cells2 {w : World} {p : Pl} {l : List (Int × Int)} {g b b6 : Nat} {a : Option Addr} {c : Nat} {a6 : Option Addr} {c6 : Nat} {W : World} (h : P4 w p l g b b6 a c a6 c6 W) : W.cell? ⟨b6, 0, none⟩ = some (.int .i64 p.k) ∧ W.cell? ⟨b6, 1, none⟩ = some (.int .u64 p.x.s) ∧ W.cell? ⟨b6, 2, none⟩ = some (.int .u64 p.x.mi) ∧ W.cell? ⟨b6, 3, none⟩ = some (.int .u64 p.x.h) ∧ W.cell? ⟨b6, 4, none⟩ = some (.int .u64 p.x.d) ∧ W.cell? ⟨b6, 5, none⟩ = some (.int .u64 p.x.mo) ∧ W.cell? ⟨b6, 6, none⟩ = some (.int .u64 p.x.w) ∧ W.cell? ⟨b6, 7, none⟩ = some (.bool p.x.ad) ∧ W.cell? ⟨b6, 8, none⟩ = some (.bool p.x.aw) ∧ W.cell? ⟨b6, 9, none⟩ = some (.int .i64 p.z) ∧ W.cell? ⟨b6, 10, none⟩ = some (.int .i64 p.e.s) ∧ W.cell? ⟨b6, 11, none⟩ = some (.int .i64 p.e.p) ∧ W.cell? ⟨b6, 12, none⟩ = some (.int .i64 p.e.c) ∧ W.cell? ⟨b6, 13, none⟩ = some (.slice a6 p.n c6) :=
  ⟨h.zb.cell 0, h.zb.cell 1, h.zb.cell 2, h.zb.cell 3, h.zb.cell 4, h.zb.cell 5, h.zb.cell 6, h.zb.cell 7, h.zb.cell 8, h.zb.cell 9, h.zb.cell 10, h.zb.cell 11, h.zb.cell 12, h.zb.cell 13⟩
theorem P4.set {w : World} {p : Pl} {l : List (Int × Int)} {g b b6 : Nat} {a : Option Addr} {c : Nat} {a6 : Option Addr} {c6 : Nat} {W : World} (h : P4 w p l g b b6 a c a6 c6 W) (h0 : 0 < p.n) (j : Nat) (u : Value) : P4 w p l g b b6 a c a6 c6 (W.setCell ⟨g, j, none⟩ u) := by
  obtain ⟨cur, h1, h2, h3, h4, h5⟩ := h.row h0
  obtain ⟨f1, f2⟩ := h.far h0
  refine ⟨h.xb.far (by show w.heap.size ≠ g; omega) u, h.yb.far (fun e => h5 e.symm) u, h.zb.far (fun e => f1 e.symm) u, h.sp.far f2 j u, fun _ => ⟨_, h1, h2.set_ j u, by rw [Array.size_setIfInBounds]; exact h3, h4, h5⟩, h.far, h.below.setCell (by show w.heap.size ≤ g; omega) u⟩
set_option maxRecDepth 100000 in
set_option maxHeartbeats 8000000 in
theorem lsames_ok (p : Pl) (l : List (Int × Int)) (q : Pl) (m : List (Int × Int)) (w : World) (hp : PIn w p l) (hq : PIn w q m) (hT : SpTab w) (hTab : Tab w) : Calls Tryz.prog 12 #[.agg (plV p), .agg (plV q)] w fun e w' => e = .returned (.bool true) ∧ Below w.heap.size w w' := by
  have hB1 : Below w.heap.size w ((w.alloc (.cells (plV p) 29)).alloc (.cells (plV q) 29)) := ((Below.refl _ w).alloc (Nat.le_refl _) _).alloc (by simp) _
  have e0 : plV p = #[.int .i64 p.k, .int .u64 p.x.s, .int .u64 p.x.mi, .int .u64 p.x.h, .int .u64 p.x.d, .int .u64 p.x.mo, .int .u64 p.x.w, .bool p.x.ad, .bool p.x.aw, .int .i64 p.z, .int .i64 p.e.s, .int .i64 p.e.p, .int .i64 p.e.c, .slice p.a p.n p.c] := rfl
  have e1 : plV q = #[.int .i64 q.k, .int .u64 q.x.s, .int .u64 q.x.mi, .int .u64 q.x.h, .int .u64 q.x.d, .int .u64 q.x.mo, .int .u64 q.x.w, .bool q.x.ad, .bool q.x.aw, .int .i64 q.z, .int .i64 q.e.s, .int .i64 q.e.p, .int .i64 q.e.c, .slice q.a q.n q.c] := rfl
  by_cases h64 : 200 < p.n
  · have d1 : decide (200 < p.n) = true := decide_eq_true h64
    have d1' : decide ((200 : Int) < p.n) = true := decide_eq_true (by omega)
    have CW := Lib.hid (plworks_ok _ (hT.below hB1) (tab_below hTab hB1 (World.block_lt_of_cell? w _ (hTab 0 (by decide)))))
    have HB1 := Lib.hid hB1
    rw [e0, e1] at CW
    rw [e0, e1]
    clear hT hTab hp hq h64 hB1 e0 e1
    go_enter Tryz.func12, Tryz.ntmps12
    go_wp2_with fail
    refine (CW.out).mono ?_
    rintro e w2 ⟨rfl, hb⟩
    go_wp2_with fail
    go_ret
    exact ⟨rfl, HB1.out.trans (Below.mono (w := (w.alloc _).alloc _) hb HB1.out.size)⟩
  by_cases h65 : 200 < q.n
  · have d1 : decide (200 < p.n) = false := decide_eq_false h64
    have d1' : decide ((200 : Int) < p.n) = false := decide_eq_false (by omega)
    have d2 : decide (200 < q.n) = true := decide_eq_true h65
    have d2' : decide ((200 : Int) < q.n) = true := decide_eq_true (by omega)
    have CW := Lib.hid (plworks_ok _ (hT.below hB1) (tab_below hTab hB1 (World.block_lt_of_cell? w _ (hTab 0 (by decide)))))
    have HB1 := Lib.hid hB1
    rw [e0, e1] at CW
    rw [e0, e1]
    clear hT hTab hp hq h64 h65 hB1 e0 e1
    go_enter Tryz.func12, Tryz.ntmps12
    go_wp2_with fail
    refine (CW.out).mono ?_
    rintro e w2 ⟨rfl, hb⟩
    go_wp2_with fail
    go_ret
    exact ⟨rfl, HB1.out.trans (Below.mono (w := (w.alloc _).alloc _) hb HB1.out.size)⟩
  have d1 : decide (200 < p.n) = false := decide_eq_false h64
  have d1' : decide ((200 : Int) < p.n) = false := decide_eq_false (by omega)
  have d2 : decide (200 < q.n) = false := decide_eq_false h65
  have d2' : decide ((200 : Int) < q.n) = false := decide_eq_false (by omega)
  have h200 : p.n ≤ 200 := by omega
  have h201 : q.n ≤ 200 := by omega
  obtain ⟨W1, hW1⟩ : ∃ W1, W1 = (w.alloc (.cells (plV p) 29)).alloc (.cells (plV q) 29) := ⟨_, rfl⟩
  rw [← hW1] at hB1
  have hx1 : Blk W1 w.heap.size 29 (plV p) := by rw [hW1]; exact (Blk.new w _ _).alloc _
  have hq1 : Blk W1 (w.heap.size + 1) 29 (plV q) := by rw [hW1]; exact Blk.newAt (by simp)
  have hz1 : W1.heap.size = w.heap.size + 2 := by rw [hW1]; simp
  have CC := Lib.hid (plcopy_ok p l W1 (hp.below hB1) h200)
  have RC := Lib.hid (fun W (h : Below w.heap.size w W) => rcopy_ok p l W (hp.below h) h200)
  have CA := Lib.hid (fun W (h : Below w.heap.size w W) (d : Nat) (os : Array Obj) => Calls.regrown_of (pleq_ok p q l m (Sort.grow (redrawn W d) os) ((hp.below h).below (below_regrown W d os)) ((hq.below h).below (below_regrown W d os)) h200 h201))
  have CB := Lib.hid (fun W (h : Below w.heap.size w W) (d : Nat) (os : Array Obj) => Calls.regrown_of (req_ok p q l m (Sort.grow (redrawn W d) os) ((hp.below h).below (below_regrown W d os)) ((hq.below h).below (below_regrown W d os)) h200 h201))
  have CP := Lib.hid (fun a c W (h : Below w.heap.size w W) (hs : SpansAt W a l) (d : Nat) (os : Array Obj) => Calls.regrown_of (v := .bool true) (by
    have h9 := pleq_ok p (p.withS a c) l l (Sort.grow (redrawn W d) os) ((hp.below h).below (below_regrown W d os)) ⟨hp.x, hp.n, hs.below (below_regrown W d os)⟩ h200 h200
    rwa [eqP_with] at h9))
  have CR := Lib.hid (fun a c W (h : Below w.heap.size w W) (hs : SpansAt W a l) (d : Nat) (os : Array Obj) => Calls.regrown_of (v := .bool true) (by
    have h9 := req_ok p (p.withS a c) l l (Sort.grow (redrawn W d) os) ((hp.below h).below (below_regrown W d os)) ⟨hp.x, hp.n, hs.below (below_regrown W d os)⟩ h200 h200
    rwa [eqP_with] at h9))
  have CE := Lib.hid (fun a c W (h : Below w.heap.size w W) (hs : SpansAt W a l) => (by
    have h9 := req_ok p (p.withS a c) l l W (hp.below h) ⟨hp.x, hp.n, hs⟩ h200 h200
    rwa [eqP_with] at h9 : Calls Tryz.prog 21 #[.agg (plV p), .agg (plV (p.withS a c))] W fun e w' => e = .returned (.bool true) ∧ Below W.heap.size W w'))
  have CW := Lib.hid (fun W (h : Below w.heap.size w W) => plworks_ok W (hT.below h) (tab_below hTab h (World.block_lt_of_cell? w _ (hTab 0 (by decide)))))
  have ew : ∀ a c, plV (p.withS a c) = #[.int .i64 p.k, .int .u64 p.x.s, .int .u64 p.x.mi, .int .u64 p.x.h, .int .u64 p.x.d, .int .u64 p.x.mo, .int .u64 p.x.w, .bool p.x.ad, .bool p.x.aw, .int .i64 p.z, .int .i64 p.e.s, .int .i64 p.e.p, .int .i64 p.e.c, .slice a p.n c] := fun _ _ => rfl
  have HH1 := Lib.hid (And.intro hB1 (And.intro hx1 (And.intro hq1 hz1)))
  have HW1 := Lib.hid hW1
  rw [hW1] at CC
  simp only [e0, e1, ew] at CC RC CA CB CP CR CE
  rw [e0, e1]
  generalize eqP p q l m = X at *
  have HPN := Lib.hid hp.n
  clear hp hq h64 h65 hT hTab hB1 hW1 hx1 hq1 hz1 h201
  have E0 := Lib.hid e0
  have E1 := Lib.hid e1
  clear e0 e1 ew
  go_enter Tryz.func12, Tryz.ntmps12
  go_wp2_with fail
  refine (CC.out).mono ?_
  rintro e w2 ⟨a, c, rfl, ho, hb⟩
  have hw1 : (w.alloc (.cells #[.int .i64 p.k, .int .u64 p.x.s, .int .u64 p.x.mi, .int .u64 p.x.h, .int .u64 p.x.d, .int .u64 p.x.mo, .int .u64 p.x.w, .bool p.x.ad, .bool p.x.aw, .int .i64 p.z, .int .i64 p.e.s, .int .i64 p.e.p, .int .i64 p.e.c, .slice p.a p.n p.c] 29)).alloc (.cells #[.int .i64 q.k, .int .u64 q.x.s, .int .u64 q.x.mi, .int .u64 q.x.h, .int .u64 q.x.d, .int .u64 q.x.mo, .int .u64 q.x.w, .bool q.x.ad, .bool q.x.aw, .int .i64 q.z, .int .i64 q.e.s, .int .i64 q.e.p, .int .i64 q.e.c, .slice q.a q.n q.c] 29) = W1 := by rw [HW1.out, E0.out, E1.out]
  rw [hw1] at ho hb
  obtain ⟨hB1, hx1, hq1, hz1⟩ := HH1.out
  obtain ⟨ad, cap, he, hs⟩ := ho.shape
  rw [HPN.out] at he
  injection he with he1 he2 he3
  subst he1 he3
  obtain ⟨g, hrow⟩ : ∃ g, Rw w p.n g w2.heap.size a w2 := by
    rcases ho.2 with ⟨hv, h0⟩ | ⟨g, cap, cur, hv, hbg, hg, hn, hc, hs, ht⟩
    · exact ⟨0, fun h => by rw [HPN.out] at h0; omega⟩
    · injection hv with hv1 hv2 hv3
      refine ⟨g, fun h => ⟨cur, hv1, hg, ?_, by omega, ?_⟩⟩
      · rw [hs]; rw [HPN.out] at hn; exact Nat.mul_le_mul_right _ hn
      · have := Blk.lt hg; omega
  have hx2 := hx1.below hb hx1.lt
  have hq2 := hq1.below hb hq1.lt
  have hB2 := hB1.trans (hb.mono hB1.size)
  have HJ := Lib.hid (show P3 w p q l g w2.heap.size a c (w2.alloc (.cells #[.int .i64 p.k, .int .u64 p.x.s, .int .u64 p.x.mi, .int .u64 p.x.h, .int .u64 p.x.d, .int .u64 p.x.mo, .int .u64 p.x.w, .bool p.x.ad, .bool p.x.aw, .int .i64 p.z, .int .i64 p.e.s, .int .i64 p.e.p, .int .i64 p.e.c, .slice a p.n c] 29)) from ⟨hx2.alloc _, hq2.alloc _, Blk.new w2 _ _, hs.below ((Below.refl _ w2).alloc (Nat.le_refl _) _), hrow.below ((Below.refl _ w2).alloc (Nat.le_refl _) _), hB2.alloc hB2.size _⟩)
  clear CC hx1 hq1 hz1 hB1 ho hb hw1 hs hrow hx2 hq2 hB2 HH1 HW1
  obtain ⟨W3, hW3⟩ : ∃ W3, W3 = w2.alloc (.cells #[.int .i64 p.k, .int .u64 p.x.s, .int .u64 p.x.mi, .int .u64 p.x.h, .int .u64 p.x.d, .int .u64 p.x.mo, .int .u64 p.x.w, .bool p.x.ad, .bool p.x.aw, .int .i64 p.z, .int .i64 p.e.s, .int .i64 p.e.p, .int .i64 p.e.c, .slice a p.n c] 29) := ⟨_, rfl⟩
  rw [← hW3] at HJ
  have C1 := Lib.hid (CA.out _ HJ.out.below)
  have C2 := Lib.hid (CB.out _ HJ.out.below)
  have C3 := Lib.hid (CP.out a c _ HJ.out.below HJ.out.sp)
  have C4 := Lib.hid (CR.out a c _ HJ.out.below HJ.out.sp)
  obtain ⟨c0, c1, c2, c3, c4, c5, c6, c7, c8, c9, c10, c11, c12, c13⟩ := HJ.out.cells
  obtain ⟨y0, y1, y2, y3, y4, y5, y6, y7, y8, y9, y10, y11, y12, y13⟩ := HJ.out.cellsq
  obtain ⟨k0, k1, k2, k3, k4, k5, k6, k7, k8, k9, k10, k11, k12, k13⟩ := HJ.out.cells2
  replace c0 := cell_regrown c0
  replace c1 := cell_regrown c1
  replace c2 := cell_regrown c2
  replace c3 := cell_regrown c3
  replace c4 := cell_regrown c4
  replace c5 := cell_regrown c5
  replace c6 := cell_regrown c6
  replace c7 := cell_regrown c7
  replace c8 := cell_regrown c8
  replace c9 := cell_regrown c9
  replace c10 := cell_regrown c10
  replace c11 := cell_regrown c11
  replace c12 := cell_regrown c12
  replace c13 := cell_regrown c13
  replace y0 := cell_regrown y0
  replace y1 := cell_regrown y1
  replace y2 := cell_regrown y2
  replace y3 := cell_regrown y3
  replace y4 := cell_regrown y4
  replace y5 := cell_regrown y5
  replace y6 := cell_regrown y6
  replace y7 := cell_regrown y7
  replace y8 := cell_regrown y8
  replace y9 := cell_regrown y9
  replace y10 := cell_regrown y10
  replace y11 := cell_regrown y11
  replace y12 := cell_regrown y12
  replace y13 := cell_regrown y13
  replace k0 := cell_regrown k0
  replace k1 := cell_regrown k1
  replace k2 := cell_regrown k2
  replace k3 := cell_regrown k3
  replace k4 := cell_regrown k4
  replace k5 := cell_regrown k5
  replace k6 := cell_regrown k6
  replace k7 := cell_regrown k7
  replace k8 := cell_regrown k8
  replace k9 := cell_regrown k9
  replace k10 := cell_regrown k10
  replace k11 := cell_regrown k11
  replace k12 := cell_regrown k12
  replace k13 := cell_regrown k13
  clear CA CB CP CR
  go_upto_region 4 with fail
  rw [← hW3]
  clear hW3
  refine wp_region_quiet_below (by kernel_rfl) (by kernel_rfl) ?_
  repeat (go_big_quiet_step (fail))
  go_big_quiet_step ((go_at_call 34; exact C1.out _ _))
  repeat (go_big_quiet_step (fail))
  go_big_quiet_step ((go_at_call 21; exact C2.out _ _))
  repeat (go_big_quiet_step (fail))
  go_big_quiet_step ((go_at_call 34; exact C3.out _ _))
  repeat (go_big_quiet_step (fail))
  go_big_quiet_step ((go_at_call 21; exact C4.out _ _))
  repeat (go_big_quiet_step (fail))
  refine wpQuiet_nil ?_
  intro _ hw'
  obtain ⟨⟨dq, osq⟩, hw''⟩ := hw'
  subst hw''
  have HJ := Lib.hid (HJ.out.next (below_regrown W3 dq osq))
  clear C1 C2 C3 C4
  clear c0 c1 c2 c3 c4 c5 c6 c7 c8 c9 c10 c11 c12 c13 y0 y1 y2 y3 y4 y5 y6 y7 y8 y9 y10 y11 y12 y13 k0 k1 k2 k3 k4 k5 k6 k7 k8 k9 k10 k11 k12 k13
  generalize Sort.grow (redrawn W3 dq) osq = W5 at *
  obtain ⟨c0, c1, c2, c3, c4, c5, c6, c7, c8, c9, c10, c11, c12, c13⟩ := HJ.out.cells
  go_wp2_with fail
  refine (RC.out _ HJ.out.below).mono ?_
  rintro e w6 ⟨a6, d6, rfl, ho, hb⟩
  obtain ⟨ad, cap, he, hs⟩ := ho.shape
  rw [HPN.out] at he
  injection he with he1 he2 he3
  subst he1 he3
  have hfar : 0 < p.n → g ≠ w6.heap.size ∧ ∀ b off, a6 = some ⟨b, off, none⟩ → b ≠ g := fun h0 => by
    obtain ⟨cur, h1, h2, h3⟩ := HJ.out.row h0
    have hg5 := h2.lt
    refine ⟨by have := hb.size; omega, fun b off e => ?_⟩
    rcases ho.2 with ⟨hv, h0'⟩ | ⟨g6, cap, cur, hv, hbg, _⟩
    · rw [HPN.out] at h0'; omega
    · rw [e] at hv
      injection hv with hv1
      injection hv1 with hv1
      injection hv1 with hv1
      omega
  have HJ := Lib.hid (HJ.out.next hb)
  have HK := Lib.hid (show P4 w p l g w2.heap.size w6.heap.size a c a6 d6 (w6.alloc (.cells #[.int .i64 p.k, .int .u64 p.x.s, .int .u64 p.x.mi, .int .u64 p.x.h, .int .u64 p.x.d, .int .u64 p.x.mo, .int .u64 p.x.w, .bool p.x.ad, .bool p.x.aw, .int .i64 p.z, .int .i64 p.e.s, .int .i64 p.e.p, .int .i64 p.e.c, .slice a6 p.n d6] 29)) from ⟨HJ.out.xb.alloc _, HJ.out.yb.alloc _, Blk.new w6 _ _, hs.below ((Below.refl _ w6).alloc (Nat.le_refl _) _), HJ.out.row.below ((Below.refl _ w6).alloc (Nat.le_refl _) _), hfar, HJ.out.below.alloc HJ.out.below.size _⟩)
  clear HJ RC ho hb hs hfar c0 c1 c2 c3 c4 c5 c6 c7 c8 c9 c10 c11 c12 c13
  go_wp2_with fail
  go_loopw [7] (fun s7 wr => ∃ k : Nat, s7 = .int .i64 k ∧ k ≤ p.n ∧ P4 w p l g w2.heap.size w6.heap.size a c a6 d6 wr) (fun s7 _ => p.n - (intOf s7).toNat)
  case atStart => exact ⟨0, rfl, Nat.zero_le _, HK.out⟩
  case round =>
    clear HK
    obtain ⟨k, rfl, hk, hI⟩ := hrel
    have HI := Lib.hid hI
    have y13 : wr.cell? ⟨w2.heap.size, 13, none⟩ = some (.slice a p.n c) := hI.yb.cell 13
    by_cases hkn : k < p.n
    · obtain ⟨cur, ha, hg, hsz, -, -⟩ := hI.row (by omega)
      rw [ha] at y13
      obtain ⟨u0, hu0⟩ : ∃ u, cur[k * 2]? = some u := ⟨_, Array.getElem?_eq_getElem (by omega)⟩
      obtain ⟨u1, hu1⟩ : ∃ u, cur[k * 2 + 1]? = some u := ⟨_, Array.getElem?_eq_getElem (by omega)⟩
      have z0 : wr.cell? ⟨g, k * 2, none⟩ = some u0 := (hg.cell (k * 2)).trans hu0
      have z1 : wr.cell? ⟨g, k * 2 + 1, none⟩ = some u1 := (hg.cell (k * 2 + 1)).trans hu1
      have f0 : wr.frozen? ⟨g, k * 2, none⟩ = false := hg.frozen _
      have f1 : wr.frozen? ⟨g, k * 2 + 1, none⟩ = false := hg.frozen _
      have hw1 : IntKind.i64.wrap ((k : Int) + 1) = (k : Int) + 1 := IntWalk.i64_in _ (by omega)
      have HH := Lib.hid ((hI.set (by omega) (k * 2) (.int .i64 (-1))).set (by omega) (k * 2 + 1) (.int .i64 0))
      clear hI hg hsz hu0 hu1 ha
      go_wp2_with fail
      refine ⟨⟨k + 1, rfl, by omega, HH.out⟩, ?_⟩
      show p.n - (k + 1) < p.n - k
      omega
    · obtain rfl : k = p.n := by omega
      obtain ⟨c0, c1, c2, c3, c4, c5, c6, c7, c8, c9, c10, c11, c12, c13⟩ := hI.cells
      obtain ⟨k0, k1, k2, k3, k4, k5, k6, k7, k8, k9, k10, k11, k12, k13⟩ := hI.cells2
      clear hI
      go_wp2_with fail
      refine (CE.out _ _ _ HI.out.below HI.out.sp).mono ?_
      rintro e w8 ⟨rfl, hb⟩
      have HB := Lib.hid (HI.out.below.trans (hb.mono HI.out.below.size))
      clear hb
      go_wp2_with fail
      refine (CW.out _ HB.out).mono ?_
      rintro e w9 ⟨rfl, hb⟩
      have HB := Lib.hid (HB.out.trans (hb.mono HB.out.size))
      clear hb
      go_wp2_with fail
      go_ret
      exact ⟨rfl, HB.out⟩
end Go.Proofs.YtmkdjdfhkhmejaaGreatDoor.BW
