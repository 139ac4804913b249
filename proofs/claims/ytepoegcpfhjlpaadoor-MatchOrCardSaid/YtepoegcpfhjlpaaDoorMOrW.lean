/- The walk of MatchOr. -/
import Derived.Test.YtepoegcpfhjlpaaDoorMWeeksW
import Derived.Deep.RegionHeld3
namespace Go.Proofs.YtepoegcpfhjlpaaDoor.BW
open Go.RowKit BM Go.Shelf MC
open BK hiding ret_bool ret_i64

def orX (x : Ex) : Ex := { x with ad := false, aw := false }
def orY (x : Ex) : Ex := { x with ad := false, aw := true, w := 127 }
def orZ (x : Ex) : Ex := { x with ad := true, aw := false, d := 4294967294 }
theorem ck_or {x : Ex} (h : ckR (orX x) = 0) : ckR (orY x) = 0 ∧ ckR (orZ x) = 0 := by
  obtain ⟨h1, h2⟩ := ck_zero h
  constructor
  · refine ckR_ok (fun i hi => ?_) rfl
    match i, hi with
    | 0, _ => exact h1 0 (by decide)
    | 1, _ => exact h1 1 (by decide)
    | 2, _ => exact h1 2 (by decide)
    | 3, _ => exact h1 3 (by decide)
    | 4, _ => exact h1 4 (by decide)
    | 5, _ => exact (by decide : okF 5 127 = true)
  · refine ckR_ok (fun i hi => ?_) rfl
    match i, hi with
    | 0, _ => exact h1 0 (by decide)
    | 1, _ => exact h1 1 (by decide)
    | 2, _ => exact h1 2 (by decide)
    | 3, _ => exact (by decide : okF 3 4294967294 = true)
    | 4, _ => exact h1 4 (by decide)
    | 5, _ => exact h1 5 (by decide)
theorem chk_same {x y : Ex} (h : ckR x = ckR y) (z : Int) (ts : List Int) : chk x z ts = chk y z ts := by unfold chk; rw [h]
theorem or_law {x : Ex} {z t : Int} (h : chk (orX x) z [t] = 0) : chk (orY x) z [t] = 0 ∧ chk (orZ x) z [t] = 0 ∧ dayV (orX x) z t = (dayV (orY x) z t || dayV (orZ x) z t) := by
  obtain ⟨o1, o2, o3⟩ := chk_zero h
  obtain ⟨k1, k2⟩ := ck_or o1
  have e1 : chk (orY x) z [t] = 0 := (chk_same (k1.trans o1.symm) z [t]).trans h
  have e2 : chk (orZ x) z [t] = 0 := (chk_same (k2.trans o1.symm) z [t]).trans h
  refine ⟨e1, e2, ?_⟩
  rw [dayV_ok h, dayV_ok e1, dayV_ok e2, ← Bool.and_or_distrib_left]
  congr 1
  unfold MC.M orX orY orZ dayRule
  simp [Bool.and_or_distrib_left]
theorem u64_orX {x : Ex} (h : U64s x) : U64s (orX x) := ⟨h.s, h.mi, h.h, h.d, h.mo, h.w⟩
theorem u64_orY {x : Ex} (h : U64s x) : U64s (orY x) := ⟨h.s, h.mi, h.h, h.d, h.mo, by show (127 : Nat) < _; decide⟩
theorem u64_orZ {x : Ex} (h : U64s x) : U64s (orZ x) := ⟨h.s, h.mi, h.h, by show (4294967294 : Nat) < _; decide, h.mo, h.w⟩
theorem Box.dayX {w : World} {x : Ex} {W : World} (hx : U64s x) (z t : Int) {a : Bool} {c : Int} (ha : dayV (orX x) z t = a) (hc : chk (orX x) z [t] = c) (h : Box w (orX x) W) : Calls Tryd.prog 22 #[.agg #[.int .u64 x.s, .int .u64 x.mi, .int .u64 x.h, .int .u64 x.d, .int .u64 x.mo, .int .u64 x.w, .bool false, .bool false], .int .i64 z, .int .i64 t] W fun e W' =>
    e = .returned (.tuple #[.bool a, .int .i64 c]) ∧ Box w (orX x) W' := Box.day (u64_orX hx) z t ha hc h
theorem Box.cellsX {w : World} {x : Ex} {W : World} (h : Box w (orX x) W) : W.cell? ⟨w.heap.size, 0, none⟩ = some (.int .u64 x.s) ∧ W.cell? ⟨w.heap.size, 1, none⟩ = some (.int .u64 x.mi) ∧ W.cell? ⟨w.heap.size, 2, none⟩ = some (.int .u64 x.h) ∧ W.cell? ⟨w.heap.size, 3, none⟩ = some (.int .u64 x.d) ∧ W.cell? ⟨w.heap.size, 4, none⟩ = some (.int .u64 x.mo) ∧ W.cell? ⟨w.heap.size, 5, none⟩ = some (.int .u64 x.w) ∧ W.cell? ⟨w.heap.size, 6, none⟩ = some (.bool false) ∧ W.cell? ⟨w.heap.size, 7, none⟩ = some (.bool false) := h.cells
def orC (x : Ex) : Array Value := #[.int .u64 x.s, .int .u64 x.mi, .int .u64 x.h, .int .u64 x.d, .int .u64 x.mo, .int .u64 x.w, .bool false, .bool false]
theorem day_lit {x : Ex} (hx : U64s x) (z t : Int) {a : Bool} {c : Int} (ha : dayV x z t = a) (hc : chk x z [t] = c) (W : World) (hT : SpTab W) : Calls Tryd.prog 22 #[.agg (exV x), .int .i64 z, .int .i64 t] W fun e W' =>
    e = .returned (.tuple #[.bool a, .int .i64 c]) ∧ Below W.heap.size W W' := by
  subst ha hc
  exact pday_ok x hx z t W hT
set_option maxRecDepth 8000 in
set_option maxHeartbeats 4000000 in
theorem mor_ok (x : Ex) (hx : U64s x) (z t : Int) (w : World) (hT : SpTab w) (hTab : Tab w) : Calls Tryd.prog 5 #[.agg (exV x), .int .i64 z, .int .i64 t] w fun e w' =>
    e = .returned (.bool true) ∧ Below w.heap.size w w' := by
  have HB := Lib.hid (Box.first (orX x) hT hTab)
  have L := Lib.hid (fun h => or_law (x := x) (z := z) (t := t) h)
  have HBAD := Lib.hid (fun h => dayV_bad (x := orX x) (z := z) (t := t) h)
  have HD := Lib.hid (fun W => Box.dayX (w := w) (W := W) hx z t rfl rfl)
  have HD2 := Lib.hid (fun W hT => day_lit (u64_orY hx) z t rfl rfl W hT)
  have HD3 := Lib.hid (fun W hT => day_lit (u64_orZ hx) z t rfl rfl W hT)
  generalize chk (orX x) z [t] = c at *
  generalize chk (orY x) z [t] = c2 at *
  generalize chk (orZ x) z [t] = c3 at *
  generalize dayV (orX x) z t = a at *
  generalize dayV (orY x) z t = a2 at *
  generalize dayV (orZ x) z t = a3 at *
  have HT := Lib.hid (And.intro hT hTab)
  clear hx hT hTab
  have e0 : exV x = #[.int .u64 x.s, .int .u64 x.mi, .int .u64 x.h, .int .u64 x.d, .int .u64 x.mo, .int .u64 x.w, .bool x.ad, .bool x.aw] := rfl
  rw [e0]
  clear e0
  go_enter Tryd.func5, Tryd.ntmps5
  go_wp2_with fail
  refine (HD.out _ HB.out).mono ?_
  rintro e w1 ⟨rfl, hb⟩
  have H1 := Lib.hid hb
  clear hb HB
  by_cases hc : c = 0
  · obtain ⟨g1, g2, g3⟩ := L.out hc
    subst hc g1 g2
    clear L HBAD
    obtain ⟨c0, c1, c2, c3, c4, c5, c6, c7⟩ := H1.out.cellsX
    have hw1 : w.heap.size < w1.heap.size := H1.out.blk.lt
    go_upto_region 5 with fail
    go_cut [9, 10] from 31 to 32 (fun s9 s10 wx => ∃ p q : Nat, p ≠ q ∧ w1.heap.size ≤ p ∧ w1.heap.size ≤ q ∧ s9 = .pointer (some ⟨p, 0, none⟩) ∧ s10 = .pointer (some ⟨q, 0, none⟩) ∧ Blk wx p 24 (orC x) ∧ Blk wx q 24 (orC x) ∧ Below w1.heap.size w1 wx)
    case first =>
      have HR1 : Hid (∀ W3, W3 = (w1.alloc (.cells (orC x) 24)).alloc (.cells (orC x) 24) → Blk W3.drew w1.heap.size 24 (orC x) ∧ Blk W3.drew (w1.heap.size + 1) 24 (orC x) ∧ Below w1.heap.size w1 W3.drew) := Lib.hid (by
        rintro W3 rfl
        exact ⟨(Blk.new w1 _ _).alloc _, Blk.newAt (by simp), below_drewN (((Below.refl _ w1).alloc (Nat.le_refl _) _).alloc (by simp) _) 1⟩)
      go_region_held3 (fun w' => w'.cell? ⟨w.heap.size, 0, none⟩ = some (.int .u64 x.s) ∧ w'.cell? ⟨w.heap.size, 1, none⟩ = some (.int .u64 x.mi) ∧ w'.cell? ⟨w.heap.size, 2, none⟩ = some (.int .u64 x.h) ∧ w'.cell? ⟨w.heap.size, 3, none⟩ = some (.int .u64 x.d) ∧ w'.cell? ⟨w.heap.size, 4, none⟩ = some (.int .u64 x.mo) ∧ w'.cell? ⟨w.heap.size, 5, none⟩ = some (.int .u64 x.w) ∧ w'.cell? ⟨w.heap.size, 6, none⟩ = some (.bool false) ∧ w'.cell? ⟨w.heap.size, 7, none⟩ = some (.bool false)) (go_keep) (fail)
      all_goals
        go_wp2_with fail
        go_meet
        first
          | exact ⟨w1.heap.size, w1.heap.size + 1, by omega, by omega, by omega, rfl, rfl, HR1.out _ rfl⟩
          | exact ⟨w1.heap.size + 1, w1.heap.size, by omega, by omega, by omega, rfl, rfl, (HR1.out _ rfl).2.1, (HR1.out _ rfl).1, (HR1.out _ rfl).2.2⟩
    case rest =>
      obtain ⟨p, q, hpq, hp, hq, rfl, rfl, hbp, hbq, hbl⟩ := hcut
      clear c0 c1 c2 c3 c4 c5 c6 c7
      have HBP := Lib.hid hbp
      have HBQ := Lib.hid hbq
      have HBL := Lib.hid (H1.out.next hbl)
      have fp : wc.frozen? ⟨p, 7, none⟩ = false := hbp.frozen 7
      have fp5 : wc.frozen? ⟨p, 5, none⟩ = false := hbp.frozen 5
      have fq6 : wc.frozen? ⟨q, 6, none⟩ = false := hbq.frozen 6
      have fq3 : wc.frozen? ⟨q, 3, none⟩ = false := hbq.frozen 3
      have cp7 : wc.cell? ⟨p, 7, none⟩ = some (.bool false) := hbp.cell 7
      have cp5 : wc.cell? ⟨p, 5, none⟩ = some (.int .u64 x.w) := hbp.cell 5
      have cq6 : wc.cell? ⟨q, 6, none⟩ = some (.bool false) := hbq.cell 6
      have cq3 : wc.cell? ⟨q, 3, none⟩ = some (.int .u64 x.d) := hbq.cell 3
      have hqp : q ≠ p := fun h => hpq h.symm
      clear hbp hbq hbl
      go_upto_region 10 with fail
      obtain ⟨W4, hW4⟩ : ∃ W4, W4 = (((wc.setCell ⟨p, 7, none⟩ (.bool true)).setCell ⟨p, 5, none⟩ (.int .u64 127)).setCell ⟨q, 6, none⟩ (.bool true)).setCell ⟨q, 3, none⟩ (.int .u64 4294967294) := ⟨_, rfl⟩
      have kp : Blk W4 p 24 (exV (orY x)) := by rw [hW4]; exact (((HBP.out.set_ 7 _).set_ 5 _).far (by exact hpq) _).far (by exact hpq) _
      have kq : Blk W4 q 24 (exV (orZ x)) := by rw [hW4]; exact (((HBQ.out.far (by exact hqp) _).far (by exact hqp) _).set_ 6 _).set_ 3 _
      have kb : Box w (orX x) W4 := by
        have hp' : w.heap.size < p := by omega
        have hq' : w.heap.size < q := by omega
        rw [hW4]
        refine Box.of HT.out.1 HT.out.2 ((((HBL.out.below.setCell (Nat.le_of_lt hp') _).setCell (Nat.le_of_lt hp') _).setCell (Nat.le_of_lt hq') _).setCell (Nat.le_of_lt hq') _) ((((HBL.out.blk.far (by exact Nat.ne_of_lt hp') _).far (by exact Nat.ne_of_lt hp') _).far (by exact Nat.ne_of_lt hq') _).far (by exact Nat.ne_of_lt hq') _)
      rw [← hW4]
      clear hW4 cp7 cp5 cq6 cq3 fp fp5 fq6 fq3 HBP HBQ HBL
      have KB := Lib.hid kb
      have KQ := Lib.hid kq
      have hq2 := kq.lt
      have c0 : W4.cell? ⟨p, 0, none⟩ = some (.int .u64 x.s) := kp.cell 0
      have c1 : W4.cell? ⟨p, 1, none⟩ = some (.int .u64 x.mi) := kp.cell 1
      have c2 : W4.cell? ⟨p, 2, none⟩ = some (.int .u64 x.h) := kp.cell 2
      have c3 : W4.cell? ⟨p, 3, none⟩ = some (.int .u64 x.d) := kp.cell 3
      have c4 : W4.cell? ⟨p, 4, none⟩ = some (.int .u64 x.mo) := kp.cell 4
      have c5 : W4.cell? ⟨p, 5, none⟩ = some (.int .u64 127) := kp.cell 5
      have c6 : W4.cell? ⟨p, 6, none⟩ = some (.bool false) := kp.cell 6
      have c7 : W4.cell? ⟨p, 7, none⟩ = some (.bool true) := kp.cell 7
      clear kp kq kb
      go_wp2_with fail
      refine (show Calls Tryd.prog 22 #[.agg #[.int .u64 x.s, .int .u64 x.mi, .int .u64 x.h, .int .u64 x.d, .int .u64 x.mo, .int .u64 127, .bool false, .bool true], .int .i64 z, .int .i64 t] W4 _ from HD2.out W4 KB.out.sp).mono ?_
      rintro e w5 ⟨rfl, hb⟩
      clear c0 c1 c2 c3 c4 c5 c6 c7
      have K5 := Lib.hid (KB.out.next hb)
      have kq : Blk w5 q 24 (exV (orZ x)) := KQ.out.below hb hq2
      have c0 : w5.cell? ⟨q, 0, none⟩ = some (.int .u64 x.s) := kq.cell 0
      have c1 : w5.cell? ⟨q, 1, none⟩ = some (.int .u64 x.mi) := kq.cell 1
      have c2 : w5.cell? ⟨q, 2, none⟩ = some (.int .u64 x.h) := kq.cell 2
      have c3 : w5.cell? ⟨q, 3, none⟩ = some (.int .u64 4294967294) := kq.cell 3
      have c4 : w5.cell? ⟨q, 4, none⟩ = some (.int .u64 x.mo) := kq.cell 4
      have c5 : w5.cell? ⟨q, 5, none⟩ = some (.int .u64 x.w) := kq.cell 5
      have c6 : w5.cell? ⟨q, 6, none⟩ = some (.bool true) := kq.cell 6
      have c7 : w5.cell? ⟨q, 7, none⟩ = some (.bool false) := kq.cell 7
      clear kq hb KQ KB
      go_wp2_with fail
      refine (show Calls Tryd.prog 22 #[.agg #[.int .u64 x.s, .int .u64 x.mi, .int .u64 x.h, .int .u64 4294967294, .int .u64 x.mo, .int .u64 x.w, .bool true, .bool false], .int .i64 z, .int .i64 t] w5 _ from HD3.out w5 K5.out.sp).mono ?_
      rintro e w6 ⟨rfl, hb⟩
      clear c0 c1 c2 c3 c4 c5 c6 c7
      have K6 := Lib.hid (K5.out.next hb)
      clear hb K5 HD HD2 HD3
      cases a2 <;> cases a3
      all_goals
        go_wp2_with fail
        refine (K6.out.works).mono ?_
        rintro e w7 ⟨rfl, hb⟩
        have K7 := Lib.hid hb
        clear hb
        go_wp2_with fail
        go_ret
        exact ⟨rfl, K7.out.below⟩
  · have hne : (c == 0) = false := by rw [beq_eq_false_iff_ne]; exact hc
    have ha := HBAD.out hc
    subst ha
    clear HBAD L HD2 HD3
    clear HD
    go_wp2_with fail
    refine (H1.out.works).mono ?_
    rintro e w3 ⟨rfl, hb⟩
    have H3 := Lib.hid hb
    clear hb
    go_wp2_with fail
    go_ret
    exact ⟨rfl, H3.out.below⟩
end Go.Proofs.YtepoegcpfhjlpaaDoor.BW
