/- Contract of the reference's Ever. -/
import Derived.Test.YtmdjfjdlehdhjaaGreatDoorMAtM
import Derived.Test.YtmdjfjdlehdhjaaGreatDoorMatO
namespace Go.Proofs.YtmdjfjdlehdhjaaGreatDoor.BW
open Go.RowKit BM Go.Shelf MC
open BK hiding ret_bool ret_i64

/-- The reference's loops over days: the expression's box at b, the day's block at d. -/
structure DayI (w : World) (x : Ex) (b d n : Nat) (W : World) : Prop where
  xb : Blk W b 24 (exV x)
  db : Blk W d 186 (dtV n)
  below : Below w.heap.size w W
theorem DayI.next {w : World} {x : Ex} {b d n : Nat} {W W' : World} (h : DayI w x b d n W) (hb : Below W.heap.size W W') : DayI w x b d n W' :=
  ⟨h.xb.below hb h.xb.lt, h.db.below hb h.db.lt, h.below.trans (hb.mono h.below.size)⟩
theorem DayI.cells {w : World} {x : Ex} {b d n : Nat} {W : World} (h : DayI w x b d n W) : W.cell? ⟨b, 0, none⟩ = some (.int .u64 x.s) ∧ W.cell? ⟨b, 1, none⟩ = some (.int .u64 x.mi) ∧ W.cell? ⟨b, 2, none⟩ = some (.int .u64 x.h) ∧ W.cell? ⟨b, 3, none⟩ = some (.int .u64 x.d) ∧ W.cell? ⟨b, 4, none⟩ = some (.int .u64 x.mo) ∧ W.cell? ⟨b, 5, none⟩ = some (.int .u64 x.w) ∧ W.cell? ⟨b, 6, none⟩ = some (.bool x.ad) ∧ W.cell? ⟨b, 7, none⟩ = some (.bool x.aw) :=
  ⟨h.xb.cell 0, h.xb.cell 1, h.xb.cell 2, h.xb.cell 3, h.xb.cell 4, h.xb.cell 5, h.xb.cell 6, h.xb.cell 7⟩
theorem DayI.dcells {w : World} {x : Ex} {b d n : Nat} {W : World} (h : DayI w x b d n W) : W.cell? ⟨d, 0, none⟩ = some (.int .i64 n) ∧ W.cell? ⟨d, 1, none⟩ = some (.int .i64 ((ymd n).1 : Nat)) ∧ W.cell? ⟨d, 2, none⟩ = some (.int .i64 ((ymd n).2.1 : Nat)) ∧ W.cell? ⟨d, 3, none⟩ = some (.int .i64 ((ymd n).2.2 : Nat)) ∧ W.cell? ⟨d, 4, none⟩ = some (.int .i64 ((n + 4) % 7 : Nat)) :=
  ⟨h.db.cell 0, h.db.cell 1, h.db.cell 2, h.db.cell 3, h.db.cell 4⟩
theorem DayI.frozen {w : World} {x : Ex} {b d n : Nat} {W : World} (h : DayI w x b d n W) : W.frozen? ⟨d, 0, none⟩ = false ∧ W.frozen? ⟨d, 1, none⟩ = false ∧ W.frozen? ⟨d, 2, none⟩ = false ∧ W.frozen? ⟨d, 3, none⟩ = false ∧ W.frozen? ⟨d, 4, none⟩ = false :=
  ⟨h.db.frozen 0, h.db.frozen 1, h.db.frozen 2, h.db.frozen 3, h.db.frozen 4⟩
/-- The calls, with all cells spelt out. -/
theorem DayI.matches {w : World} {x : Ex} {b d n : Nat} {W : World} (hx : U64s x) (h : DayI w x b d n W) : Calls Tryz.prog 156 #[.agg #[.int .u64 x.s, .int .u64 x.mi, .int .u64 x.h, .int .u64 x.d, .int .u64 x.mo, .int .u64 x.w, .bool x.ad, .bool x.aw], .agg #[.int .i64 n, .int .i64 ((ymd n).1 : Nat), .int .i64 ((ymd n).2.1 : Nat), .int .i64 ((ymd n).2.2 : Nat), .int .i64 ((n + 4) % 7 : Nat)]] W fun e W' =>
    e = .returned (.bool (MC.M x n)) ∧ DayI w x b d n W' := (rmatch_ok x hx n W).mono fun _ _ ⟨h1, h2⟩ => ⟨h1, h.next h2⟩
theorem DayI.on {w : World} {x : Ex} {b d n : Nat} {W : World} (hn : n ≤ 2932896) (h : DayI w x b d n W) : Calls Tryz.prog 179 #[.agg #[.int .i64 n, .int .i64 ((ymd n).1 : Nat), .int .i64 ((ymd n).2.1 : Nat), .int .i64 ((ymd n).2.2 : Nat), .int .i64 ((n + 4) % 7 : Nat)], .bool false] W fun e W' =>
    e = .returned (.agg #[.int .i64 ((n + 1 : Nat) : Int), .int .i64 ((ymd (n + 1)).1 : Nat), .int .i64 ((ymd (n + 1)).2.1 : Nat), .int .i64 ((ymd (n + 1)).2.2 : Nat), .int .i64 ((n + 1 + 4) % 7 : Nat)]) ∧ DayI w x b d n W' := (on_ok n hn W).mono fun _ _ ⟨h1, h2⟩ => ⟨h1, h.next h2⟩
theorem DayI.set {w : World} {x : Ex} {b d n : Nat} {W : World} (h : DayI w x b d n W) (hd : w.heap.size ≤ d) (hbd : b ≠ d) (m : Nat) {i j : Int} (hi : i = m) (hj : j = ((m + 4) % 7 : Nat)) :
    DayI w x b d m (((((W.setCell ⟨d, 0, none⟩ (.int .i64 i)).setCell ⟨d, 1, none⟩ (.int .i64 ((ymd m).1 : Nat))).setCell ⟨d, 2, none⟩ (.int .i64 ((ymd m).2.1 : Nat))).setCell ⟨d, 3, none⟩ (.int .i64 ((ymd m).2.2 : Nat))).setCell ⟨d, 4, none⟩ (.int .i64 j)) := by
  subst hi hj
  exact
  ⟨((((h.xb.far (by exact hbd) _).far (by exact hbd) _).far (by exact hbd) _).far (by exact hbd) _).far (by exact hbd) _, ((((h.db.set_ 0 _).set_ 1 _).set_ 2 _).set_ 3 _).set_ 4 _,
   ((((h.below.setCell hd _).setCell hd _).setCell hd _).setCell hd _).setCell hd _⟩

end Go.Proofs.YtmdjfjdlehdhjaaGreatDoor.BW
