/- Contract of the reference's Ever. -/
import Derived.Test.YtepoegcpfhjlpaaDoorMAtM
import Derived.Test.YtepoegcpfhjlpaaDoorMatO
namespace Go.Proofs.YtepoegcpfhjlpaaDoor.BW
open Go.RowKit BM Go.Shelf MC
open BK hiding ret_bool ret_i64

/-- The reference's loops over days: the expression's box at b, the day's block at d. -/
structure DayI (w : World) (x : Ex) (b d n : Nat) (W : World) : Prop where
  xb : Blk W b 24 (exV x)
  db : Blk W d 57 (dtV n)
  below : Below w.heap.size w W
theorem DayI.next {w : World} {x : Ex} {b d n : Nat} {W W' : World} (h : DayI w x b d n W) (hb : Below W.heap.size W W') : DayI w x b d n W' :=
  ⟨h.xb.below hb h.xb.lt, h.db.below hb h.db.lt, h.below.trans (hb.mono h.below.size)⟩
theorem DayI.cells {w : World} {x : Ex} {b d n : Nat} {W : World} (h : DayI w x b d n W) : W.cell? ⟨b, 0, none⟩ = some (.int .u64 x.s) ∧ W.cell? ⟨b, 1, none⟩ = some (.int .u64 x.mi) ∧ W.cell? ⟨b, 2, none⟩ = some (.int .u64 x.h) ∧ W.cell? ⟨b, 3, none⟩ = some (.int .u64 x.d) ∧ W.cell? ⟨b, 4, none⟩ = some (.int .u64 x.mo) ∧ W.cell? ⟨b, 5, none⟩ = some (.int .u64 x.w) ∧ W.cell? ⟨b, 6, none⟩ = some (.bool x.ad) ∧ W.cell? ⟨b, 7, none⟩ = some (.bool x.aw) :=
  ⟨h.xb.cell 0, h.xb.cell 1, h.xb.cell 2, h.xb.cell 3, h.xb.cell 4, h.xb.cell 5, h.xb.cell 6, h.xb.cell 7⟩
theorem DayI.dcells {w : World} {x : Ex} {b d n : Nat} {W : World} (h : DayI w x b d n W) : W.cell? ⟨d, 0, none⟩ = some (.int .i64 n) ∧ W.cell? ⟨d, 1, none⟩ = some (.int .i64 ((ymd n).1 : Nat)) ∧ W.cell? ⟨d, 2, none⟩ = some (.int .i64 ((ymd n).2.1 : Nat)) ∧ W.cell? ⟨d, 3, none⟩ = some (.int .i64 ((ymd n).2.2 : Nat)) ∧ W.cell? ⟨d, 4, none⟩ = some (.int .i64 ((n + 4) % 7 : Nat)) :=
  ⟨h.db.cell 0, h.db.cell 1, h.db.cell 2, h.db.cell 3, h.db.cell 4⟩
theorem DayI.frozen {w : World} {x : Ex} {b d n : Nat} {W : World} (h : DayI w x b d n W) : W.frozen? ⟨d, 0, none⟩ = false ∧ W.frozen? ⟨d, 1, none⟩ = false ∧ W.frozen? ⟨d, 2, none⟩ = false ∧ W.frozen? ⟨d, 3, none⟩ = false ∧ W.frozen? ⟨d, 4, none⟩ = false :=
  ⟨h.db.frozen 0, h.db.frozen 1, h.db.frozen 2, h.db.frozen 3, h.db.frozen 4⟩
/-- The calls, with all cells spelt out. -/
theorem DayI.matches {w : World} {x : Ex} {b d n : Nat} {W : World} (hx : U64s x) (h : DayI w x b d n W) : Calls Tryd.prog 43 #[.agg #[.int .u64 x.s, .int .u64 x.mi, .int .u64 x.h, .int .u64 x.d, .int .u64 x.mo, .int .u64 x.w, .bool x.ad, .bool x.aw], .agg #[.int .i64 n, .int .i64 ((ymd n).1 : Nat), .int .i64 ((ymd n).2.1 : Nat), .int .i64 ((ymd n).2.2 : Nat), .int .i64 ((n + 4) % 7 : Nat)]] W fun e W' =>
    e = .returned (.bool (MC.M x n)) ∧ DayI w x b d n W' := (rmatch_ok x hx n W).mono fun _ _ ⟨h1, h2⟩ => ⟨h1, h.next h2⟩
theorem DayI.on {w : World} {x : Ex} {b d n : Nat} {W : World} (hn : n ≤ 2932896) (h : DayI w x b d n W) : Calls Tryd.prog 42 #[.agg #[.int .i64 n, .int .i64 ((ymd n).1 : Nat), .int .i64 ((ymd n).2.1 : Nat), .int .i64 ((ymd n).2.2 : Nat), .int .i64 ((n + 4) % 7 : Nat)], .bool false] W fun e W' =>
    e = .returned (.agg #[.int .i64 ((n + 1 : Nat) : Int), .int .i64 ((ymd (n + 1)).1 : Nat), .int .i64 ((ymd (n + 1)).2.1 : Nat), .int .i64 ((ymd (n + 1)).2.2 : Nat), .int .i64 ((n + 1 + 4) % 7 : Nat)]) ∧ DayI w x b d n W' := (on_ok n hn W).mono fun _ _ ⟨h1, h2⟩ => ⟨h1, h.next h2⟩
theorem DayI.set {w : World} {x : Ex} {b d n : Nat} {W : World} (h : DayI w x b d n W) (hd : w.heap.size ≤ d) (hbd : b ≠ d) (m : Nat) {i j : Int} (hi : i = m) (hj : j = ((m + 4) % 7 : Nat)) :
    DayI w x b d m (((((W.setCell ⟨d, 0, none⟩ (.int .i64 i)).setCell ⟨d, 1, none⟩ (.int .i64 ((ymd m).1 : Nat))).setCell ⟨d, 2, none⟩ (.int .i64 ((ymd m).2.1 : Nat))).setCell ⟨d, 3, none⟩ (.int .i64 ((ymd m).2.2 : Nat))).setCell ⟨d, 4, none⟩ (.int .i64 j)) := by
  subst hi hj
  exact
  ⟨((((h.xb.far (by exact hbd) _).far (by exact hbd) _).far (by exact hbd) _).far (by exact hbd) _).far (by exact hbd) _, ((((h.db.set_ 0 _).set_ 1 _).set_ 2 _).set_ 3 _).set_ 4 _,
   ((((h.below.setCell hd _).setCell hd _).setCell hd _).setCell hd _).setCell hd _⟩

set_option maxRecDepth 8000 in
set_option maxHeartbeats 4000000 in
theorem rever_ok (x : Ex) (hx : U64s x) (w : World) : Calls Tryd.prog 28 #[.agg (exV x)] w fun e w' =>
    e = .returned (.tuple #[.bool (decide (ckR x = 0) && everR x), .int .i64 (ckR x)]) ∧ Below w.heap.size w w' := by
  have hB0 : Below w.heap.size w (w.alloc (.cells (exV x) 24)) := (Below.refl _ w).alloc (Nat.le_refl _) _
  have CK := Lib.hid (rcheck_ok x hx (w.alloc (.cells (exV x) 24)))
  have HBX := Lib.hid (Blk.new w 24 (exV x))
  have HE := Lib.hid (fun n h => ever_true (x := x) (n := n) h)
  have HF := Lib.hid (fun h => ever_false (x := x) h)
  generalize everR x = R at *
  have HX := Lib.hid hx
  have HB0 := Lib.hid hB0
  clear hB0 hx
  have e0 : exV x = #[.int .u64 x.s, .int .u64 x.mi, .int .u64 x.h, .int .u64 x.d, .int .u64 x.mo, .int .u64 x.w, .bool x.ad, .bool x.aw] := rfl
  rw [e0]
  clear e0
  unfold exV at CK
  have cx := ckR_cases x
  generalize ckR x = c at *
  rcases cx with rfl | rfl
  · go_enter Tryd.func28, Tryd.ntmps28
    go_wp2_with fail
    refine (CK.out).mono ?_
    rintro e w2 ⟨rfl, hb⟩
    have hx2 := Blk.below HBX.out hb HBX.out.lt
    have HB2 := Lib.hid (HB0.out.trans (Below.mono (w := w.alloc (.cells (exV x) 24)) hb (HB0.out.size)))
    have HX2 := Lib.hid hx2
    clear hb CK HBX HB0 hx2
    go_wp2_with fail
    refine (show Calls Tryd.prog 41 #[.int .i64 0] w2 _ from rdt_ok 0 (by decide) w2).mono ?_
    rintro e w3 ⟨rfl, hb⟩
    have HB3 := Lib.hid (HB2.out.trans (hb.mono HB2.out.size))
    have HX3 := Lib.hid (HX2.out.below hb HX2.out.lt)
    clear hb HB2 HX2
    have H4 : Hid (DayI w x w.heap.size w3.heap.size 0 (w3.alloc (.cells (dtV 0) 57))) := Lib.hid ⟨HX3.out.alloc _, Blk.new _ _ _, HB3.out.alloc HB3.out.size _⟩
    have hlt : w.heap.size < w3.heap.size := HX3.out.lt
    clear HB3 HX3
    unfold dtV
    unfold dtV at H4
    go_wp2_with fail
    go_loopw [6] (fun s6 wr => ∃ n : Nat, n ≤ 10227 ∧ s6 = .int .i64 n ∧ DayI w x w.heap.size w3.heap.size n wr ∧ ∀ m, m < n → MC.M x m = false) (fun s6 _ => 10227 - intM s6)
    case atStart => exact ⟨0, by omega, rfl, H4.out, fun m hm => absurd hm (Nat.not_lt_zero _)⟩
    case round =>
      clear H4
      obtain ⟨n, hn, rfl, hD, hno⟩ := hrel
      have HNO := Lib.hid hno
      have HD := Lib.hid hD
      clear hno hD
      rcases Nat.lt_or_ge n 10227 with hlt2 | hge
      · have hl : decide ((n : Int) < 10227) = true := decide_eq_true (by omega)
        have hn2 : (n : Int) + 1 ≤ 10227 := by omega
        obtain ⟨c0, c1, c2, c3, c4, c5, c6, c7⟩ := HD.out.cells
        obtain ⟨d0, d1, d2, d3, d4⟩ := HD.out.dcells
        have CM := Lib.hid (HD.out.matches HX.out)
        have CO := Lib.hid (fun W (h : DayI w x w.heap.size w3.heap.size n W) => h.on (by omega))
        have HT := Lib.hid (HE.out n)
        obtain ⟨b, hb⟩ : ∃ b, MC.M x n = b := ⟨_, rfl⟩
        rw [hb] at CM HT
        have HM := Lib.hid hb
        clear hb
        cases b
        · go_wp2_with fail
          refine (CM.out).mono ?_
          rintro e w5 ⟨rfl, hb⟩
          clear c0 c1 c2 c3 c4 c5 c6 c7 d0 d1 d2 d3 d4
          obtain ⟨d0, d1, d2, d3, d4⟩ := hb.dcells
          have H5 := Lib.hid hb
          clear hb CM
          go_wp2_with fail
          refine (CO.out _ H5.out).mono ?_
          rintro e w6 ⟨rfl, hb⟩
          clear d0 d1 d2 d3 d4
          obtain ⟨d0, d1, d2, d3, d4⟩ := hb.dcells
          obtain ⟨f0, f1, f2, f3, f4⟩ := hb.frozen
          have H6 := Lib.hid hb
          clear hb H5
          go_wp2_with fail
          refine ⟨⟨n + 1, by omega, by go_num, H6.out.set (by omega) (by omega) (n + 1) (by omega) (by omega), fun m hm => ?_⟩, by simp [intM]; omega⟩
          rcases Nat.lt_or_ge m n with h | h
          · exact HNO.out m h
          · obtain rfl : m = n := by omega
            exact HM.out
        · have HR := HT.out rfl
          subst HR
          go_wp2_with fail
          refine (CM.out).mono ?_
          rintro e w5 ⟨rfl, hb⟩
          go_wp2_with fail
          go_ret2
          exact ⟨rfl, hb.below⟩
      · have hl : decide ((n : Int) < 10227) = false := decide_eq_false (by omega)
        have HR := HF.out (fun m hm => HNO.out m (by omega))
        subst HR
        go_wp2_with fail
        go_ret2
        exact ⟨rfl, HD.out.below⟩
  · go_enter Tryd.func28, Tryd.ntmps28
    simp only [show decide ((16 : Int) = 0) = false from rfl, Bool.false_and]
    go_wp2_with fail
    refine (CK.out).mono ?_
    rintro e w2 ⟨rfl, hb⟩
    have HB2 := Lib.hid (HB0.out.trans (Below.mono (w := w.alloc (.cells (exV x) 24)) hb (HB0.out.size)))
    clear hb
    go_wp2_with fail
    go_ret2
    exact ⟨rfl, HB2.out⟩
end Go.Proofs.YtepoegcpfhjlpaaDoor.BW
