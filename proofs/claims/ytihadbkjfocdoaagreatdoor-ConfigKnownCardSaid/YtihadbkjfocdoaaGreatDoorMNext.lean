/- Contract of match.Next. -/
import Derived.Test.YtihadbkjfocdoaaGreatDoorMatY
import Derived.Test.YtihadbkjfocdoaaGreatDoorMChk
namespace Go.Proofs.YtihadbkjfocdoaaGreatDoor.BW
open Go.RowKit BM Go.Shelf MC RK
open BK hiding ret_bool ret_i64

attribute [local go_sem] Oper.semAt_some

theorem all_seq (n : Nat) (x : Ex) (hx : U64s x) (hok : x.Ok) (z a b : Int) (hz : -840 ≤ z ∧ z ≤ 840) (ha : 0 ≤ a ∧ a ≤ 253402300800) (hb : 0 ≤ b ∧ b ≤ 253402300799) (bb B0 : Nat) (w : World)
    (hB0 : 1 < B0) (hB1 : B0 ≤ w.heap.size) (hTab : Tab w)
    (hBz : Blk w (bb + 1) 3 #[.int .i64 z]) (hBa : Blk w (bb + 2) 2 #[.int .i64 a]) (hBb : Blk w (bb + 3) 2 #[.int .i64 b]) (hBx : Blk w bb 47 (exV x)) :
    SeqL Fence.wide n Tryz.prog 108 #[.pointer (some ⟨bb + 1, 0, none⟩), .pointer (some ⟨bb + 2, 0, none⟩), .pointer (some ⟨bb + 3, 0, none⟩), .pointer (some ⟨bb, 0, none⟩)] (fun t : Int => #[Value.int .i64 t]) (fun _ => False) (KpA B0 bb (w.heap.size + 2)) (timesL x z a b) 10 w :=
  fun l J Jx W hsz hW hJ hJx hY h0 => callsIn_wide.2 (callsIn_wide.1 (all_in x hx hok z a b hz ha hb bb B0 l J Jx W hB0 (by omega) (tab_below hTab hW (by omega)) (hBz.below hW hBz.lt) (hBa.below hW hBa.lt) (hBb.below hW hBb.lt) (hBx.below hW hBx.lt) hJ hJx
    (fun pre d W1 hj hp hs => by rw [hsz]; exact yieldAt_wide (hY pre d W1 hj hp (by omega))) h0))

structure NxI (w : World) (v : Int) (b : Bool) (W : World) : Prop where
  r0 : Blk W (w.heap.size + 1) 2 #[.int .i64 v]
  r1 : Blk W (w.heap.size + 2) 4 #[.bool b]
  r2 : Blk W (w.heap.size + 3) 32 #[.int .i64 0]
  below : Below w.heap.size w W
theorem NxI.steps {w : World} {v : Int} {b : Bool} {B : Nat} {X Y : World} (h : NxI w v b X) (hs : RK.Steps (fun _ => False) B X Y) (hB : w.heap.size ≤ B) : NxI w v b Y :=
  ⟨steps_blk hs h.r0 (fun h => h), steps_blk hs h.r1 (fun h => h), steps_blk hs h.r2 (fun h => h), below_steps h.below hs hB (Nat.le_refl _)⟩
theorem NxI.set {w : World} {v : Int} {b : Bool} {W : World} (h : NxI w v b W) (u : Int) (c : Bool) : NxI w u c (((W.setCell ⟨w.heap.size + 1, 0, none⟩ (.int .i64 u)).setCell ⟨w.heap.size + 2, 0, none⟩ (.bool c)).setCell ⟨w.heap.size + 3, 0, none⟩ (.int .i64 0)) :=
  ⟨((h.r0.set_ 0 _).far (by simp) _).far (by simp) _, ((h.r1.far (by simp) _).set_ 0 _).far (by simp) _, ((h.r2.far (by simp) _).far (by simp) _).set_ 0 _, ((h.below.setCell (by simp) _).setCell (by simp) _).setCell (by simp) _⟩
/-- The next time, if there is one. -/
noncomputable def nxV (x : Ex) (z t : Int) : Option Int := if chk x z [t] = 0 then (timesL x z (t + 1) 253402300799).head? else none
def optI (r : Option Int) : Int := r.getD 0
set_option maxRecDepth 8000 in
set_option maxHeartbeats 4000000 in
theorem pnext_ok (x : Ex) (hx : U64s x) (z t : Int) (w : World) (hT : SpTab w) (hTab : Tab w) : Calls Tryz.prog 72 #[.agg (exV x), .int .i64 z, .int .i64 t] w fun e w' =>
    e = .returned (.tuple #[.int .i64 (optI (nxV x z t)), .bool (nxV x z t).isSome, .int .i64 (chk x z [t])]) ∧ Below w.heap.size w w' := by
  refine callsIn_wide (n := 3).1 ?_
  have HX := Lib.hid hx
  have hgt : 1 < w.heap.size := World.block_lt_of_cell? w _ (hTab 0 (by decide))
  obtain ⟨W1, hW1⟩ : ∃ W1, W1 = ((((w.alloc (.cells (exV x) 47)).alloc (.cells #[.int .i64 0] 2)).alloc (.cells #[.bool false] 4)).alloc (.cells #[.int .i64 0] 32)).alloc (.cells #[.int .i64 t] 2) := ⟨_, rfl⟩
  have hbx : Blk W1 w.heap.size 47 (exV x) := by rw [hW1]; exact ((((Blk.new w _ _).alloc _).alloc _).alloc _).alloc _
  have hr0 : Blk W1 (w.heap.size + 1) 2 #[.int .i64 0] := by rw [hW1]; exact (((Blk.newAt (by simp)).alloc _).alloc _).alloc _
  have hr1 : Blk W1 (w.heap.size + 2) 4 #[.bool false] := by rw [hW1]; exact ((Blk.newAt (by simp)).alloc _).alloc _
  have hr2 : Blk W1 (w.heap.size + 3) 32 #[.int .i64 0] := by rw [hW1]; exact (Blk.newAt (by simp)).alloc _
  have hts : Blk W1 (w.heap.size + 4) 2 #[.int .i64 t] := by rw [hW1]; exact Blk.newAt (by simp)
  have hB1 : Below w.heap.size w W1 := by rw [hW1]; exact (((((Below.refl _ w).alloc (Nat.le_refl _) _).alloc (by simp) _).alloc (by simp; omega) _).alloc (by simp; omega) _).alloc (by simp; omega) _
  have CK := Lib.hid (pcheck_ok x hx z [t] (w.heap.size + 4) 1 1 rfl (by decide) W1 (hT.below hB1) (fun k hk => by
    have : k = 0 := by simpa using hk
    subst this; exact hts.cell 0))
  have HT1 := Lib.hid (tab_below hTab hB1 hgt)
  have HW1 := Lib.hid hW1
  rw [hW1] at CK
  clear hW1 hT hx hTab
  refine callsIn_of_wp_marks Tryz.func72 rfl trivial ?_ rfl
  simp only [Tryz.ntmps72, List.size_toArray, List.length_cons, List.length_nil, Nat.reduceAdd, Nat.reduceSub, Array.replicate_succ, Array.replicate_zero, List.push_toArray, List.append_toArray, List.nil_append, List.cons_append]
  have e0 : exV x = #[.int .u64 x.s, .int .u64 x.mi, .int .u64 x.h, .int .u64 x.d, .int .u64 x.mo, .int .u64 x.w, .bool x.ad, .bool x.aw] := rfl
  rw [e0]
  clear e0
  unfold exV at CK
  gi_wp2_with fail
  refine ⟨trivial, (callsIn_wide.2 CK.out).mono ?_⟩
  rintro e w2 ⟨rfl, hb⟩
  have hb : Below W1.heap.size W1 w2 := by rw [HW1.out]; exact hb
  have hx2 := hbx.below hb hbx.lt
  have hr02 := hr0.below hb hr0.lt
  have hr12 := hr1.below hb hr1.lt
  have hr22 := hr2.below hb hr2.lt
  have hB2 := hB1.trans (hb.mono hB1.size)
  have HI2 := Lib.hid (NxI.mk hr02 hr12 hr22 hB2)
  have HT2 := Lib.hid (tab_below HT1.out hb (by have := hB1.size; omega))
  have c0 : w2.cell? ⟨w.heap.size, 0, none⟩ = some (.int .u64 x.s) := hx2.cell 0
  have c1 : w2.cell? ⟨w.heap.size, 1, none⟩ = some (.int .u64 x.mi) := hx2.cell 1
  have c2 : w2.cell? ⟨w.heap.size, 2, none⟩ = some (.int .u64 x.h) := hx2.cell 2
  have c3 : w2.cell? ⟨w.heap.size, 3, none⟩ = some (.int .u64 x.d) := hx2.cell 3
  have c4 : w2.cell? ⟨w.heap.size, 4, none⟩ = some (.int .u64 x.mo) := hx2.cell 4
  have c5 : w2.cell? ⟨w.heap.size, 5, none⟩ = some (.int .u64 x.w) := hx2.cell 5
  have c6 : w2.cell? ⟨w.heap.size, 6, none⟩ = some (.bool x.ad) := hx2.cell 6
  have c7 : w2.cell? ⟨w.heap.size, 7, none⟩ = some (.bool x.aw) := hx2.cell 7
  have d1 : w2.cell? ⟨w.heap.size + 1, 0, none⟩ = some (.int .i64 0) := hr02.cell 0
  have d2 : w2.cell? ⟨w.heap.size + 2, 0, none⟩ = some (.bool false) := hr12.cell 0
  have d3 : w2.cell? ⟨w.heap.size + 3, 0, none⟩ = some (.int .i64 0) := hr22.cell 0
  have f1 : w2.frozen? ⟨w.heap.size + 1, 0, none⟩ = false := hr02.frozen 0
  have f2 : w2.frozen? ⟨w.heap.size + 2, 0, none⟩ = false := hr12.frozen 0
  have f3 : w2.frozen? ⟨w.heap.size + 3, 0, none⟩ = false := hr22.frozen 0
  clear hb hbx hr0 hr1 hr2 hB1 hx2 hr02 hr12 hr22 hB2 CK HW1 hts HT1
  have LI : Hid (∀ w, (isAgg 2).run Tryz.prog w = .ok false w) := Lib.hid (fun w => by simp [isAgg, run_underlying Tryz.underlying2, go_sem])
  have LB : Hid (∀ w, (isAgg 4).run Tryz.prog w = .ok false w) := Lib.hid (fun w => by simp [isAgg, run_underlying Tryz.underlying4, go_sem])
  have LE : Hid (∀ w, (isAgg 32).run Tryz.prog w = .ok false w) := Lib.hid (fun w => by simp [isAgg, run_underlying Tryz.underlying32, go_sem])
  have HNV : Hid (nxV x z t = if chk x z [t] = 0 then (timesL x z (t + 1) 253402300799).head? else none) := Lib.hid rfl
  by_cases hcz : chk x z [t] = 0
  · obtain ⟨o1, o2, o3⟩ := chk_zero hcz
    have hok := ok_of_ck o1
    have ht := o3 t (by simp)
    have HN := Lib.hid HNV.out
    rw [if_pos hcz] at HN
    have HCZ := Lib.hid hcz
    clear hcz HNV o1 o3
    have hcz : chk x z [t] = 0 := HCZ.out
    have hb0 : Below w2.heap.size w2 ((((w2.alloc (.cells (exV x) 47)).alloc (.cells #[.int .i64 z] 3)).alloc (.cells #[.int .i64 (t + 1)] 2)).alloc (.cells #[.int .i64 253402300799] 2)) := ((((Below.refl _ w2).alloc (Nat.le_refl _) _).alloc (by simp) _).alloc (by simp; omega) _).alloc (by simp; omega) _
    have q0 : Blk ((((w2.alloc (.cells (exV x) 47)).alloc (.cells #[.int .i64 z] 3)).alloc (.cells #[.int .i64 (t + 1)] 2)).alloc (.cells #[.int .i64 253402300799] 2)) w2.heap.size 47 (exV x) := (((Blk.new w2 _ _).alloc _).alloc _).alloc _
    have q1 : Blk ((((w2.alloc (.cells (exV x) 47)).alloc (.cells #[.int .i64 z] 3)).alloc (.cells #[.int .i64 (t + 1)] 2)).alloc (.cells #[.int .i64 253402300799] 2)) (w2.heap.size + 1) 3 #[.int .i64 z] := ((Blk.newAt (by simp)).alloc _).alloc _
    have q2 : Blk ((((w2.alloc (.cells (exV x) 47)).alloc (.cells #[.int .i64 z] 3)).alloc (.cells #[.int .i64 (t + 1)] 2)).alloc (.cells #[.int .i64 253402300799] 2)) (w2.heap.size + 2) 2 #[.int .i64 (t + 1)] := (Blk.newAt (by simp)).alloc _
    have q3 : Blk ((((w2.alloc (.cells (exV x) 47)).alloc (.cells #[.int .i64 z] 3)).alloc (.cells #[.int .i64 (t + 1)] 2)).alloc (.cells #[.int .i64 253402300799] 2)) (w2.heap.size + 3) 2 #[.int .i64 253402300799] := Blk.newAt (by simp)
    have hs4 : ((((w2.alloc (.cells (exV x) 47)).alloc (.cells #[.int .i64 z] 3)).alloc (.cells #[.int .i64 (t + 1)] 2)).alloc (.cells #[.int .i64 253402300799] 2)).heap.size = w2.heap.size + 4 := by simp
    have HS4 := Lib.hid hs4
    clear hs4
    gi_wp2_with fail
    refine ⟨trivial, (callsIn_wide.2 (all_mk x z (t + 1) 253402300799 w2)).mono ?_⟩
    rintro e w3 ⟨rfl, rfl⟩
    gi_wp2_with fail
    generalize (((w2.alloc _).alloc _).alloc _).alloc _ = w3 at *
    have hws : w.heap.size + 3 < w2.heap.size := HI2.out.r2.lt
    have hs3 := hb0.size
    have HI3 : Hid (NxI w 0 false w3) := Lib.hid (HI2.out.steps (RK.Steps.of_below (own := fun _ => False) (B := w2.heap.size) hb0) (by omega))
    have SQ := all_seq (3 - 1) x HX.out hok z (t + 1) 253402300799 o2 (by omega) (by omega) w2.heap.size w.heap.size w3 hgt (by omega) (tab_below HT2.out hb0 (by omega)) q1 q2 q3 q0
    have EG := enters_of Tryz.func108 (by kernel_rfl) rfl
    clear c0 c1 c2 c3 c4 c5 c6 c7 d1 d2 d3 f1 f2 f3
    refine' wpIn_rangeFunc_seqL rfl (by decide) (gf := 108) (lb := #[.pointer (some ⟨w2.heap.size + 1, 0, none⟩), .pointer (some ⟨w2.heap.size + 2, 0, none⟩), .pointer (some ⟨w2.heap.size + 3, 0, none⟩), .pointer (some ⟨w2.heap.size, 0, none⟩)]) ?hg trivial EG
      SQ (fun _ h => h.elim) (fun h k => ⟨h.1.trans k.1, h.2.trans k.2⟩)
      (fun W o o' hl hc => ⟨keepsFrom_put _ (by omega), fun k hk => World.putObj_heap_other (by have := HS4.out; unfold KA at hk; omega)⟩)
      (fun _ => rfl) (fun pre W => pre = [] ∧ NxI w 0 false W) (fun c pre W => c = .ret ∧ ∃ v, pre = [v] ∧ NxI w v true W) (fun pre X Y h hs => ⟨h.1, h.2.steps hs (by omega)⟩) (fun c pre X Y h hs => ⟨h.1, h.2.elim fun v h => ⟨v, h.1, h.2.steps hs (by omega)⟩⟩)
      ⟨rfl, HI3.out⟩ _ ?assign ?body ?done ?stop
    case hg => rfl
    case assign =>
      intro l d W K hK
      gi_wp2
      exact hK
    case body =>
      clear EG SQ q0 q1 q2 q3
      rintro l pre d W ⟨rfl, hi⟩ hpre hsz
      have d1 : W.cell? ⟨w.heap.size + 1, 0, none⟩ = some (.int .i64 0) := hi.r0.cell 0
      have d2 : W.cell? ⟨w.heap.size + 2, 0, none⟩ = some (.bool false) := hi.r1.cell 0
      have d3 : W.cell? ⟨w.heap.size + 3, 0, none⟩ = some (.int .i64 0) := hi.r2.cell 0
      have f1 : W.frozen? ⟨w.heap.size + 1, 0, none⟩ = false := hi.r0.frozen 0
      have f2 : W.frozen? ⟨w.heap.size + 2, 0, none⟩ = false := hi.r1.frozen 0
      have f3 : W.frozen? ⟨w.heap.size + 3, 0, none⟩ = false := hi.r2.frozen 0
      gi_wp2_with fail
      exact ⟨keepsFrom_set (keepsFrom_set (keepsFrom_set (KeepsFrom.refl _ _) (by omega) _) (by omega) _) (by omega) _, rfl, d, rfl, hi.set d true⟩
    case done =>
      clear EG SQ q0 q1 q2 q3
      rintro D W hD ⟨h, hi⟩ hK
      have d1 : W.cell? ⟨w.heap.size + 1, 0, none⟩ = some (.int .i64 0) := hi.r0.cell 0
      have d2 : W.cell? ⟨w.heap.size + 2, 0, none⟩ = some (.bool false) := hi.r1.cell 0
      have d3 : W.cell? ⟨w.heap.size + 3, 0, none⟩ = some (.int .i64 0) := hi.r2.cell 0
      have f1 : W.frozen? ⟨w.heap.size + 1, 0, none⟩ = false := hi.r0.frozen 0
      have f2 : W.frozen? ⟨w.heap.size + 2, 0, none⟩ = false := hi.r1.frozen 0
      have f3 : W.frozen? ⟨w.heap.size + 3, 0, none⟩ = false := hi.r2.frozen 0
      have HV : Hid (nxV x z t = none) := Lib.hid (by rw [HN.out, h]; rfl)
      have HI := Lib.hid (hi.set 0 false)
      have HK := Lib.hid (heap_set (b := w.heap.size + 3) (i := 0) (heap_set (b := w.heap.size + 2) (i := 0) (heap_set (b := w.heap.size + 1) (i := 0) hK (by omega) (.int .i64 0)) (by omega) (.bool false)) (by omega) (.int .i64 0))
      clear h hi hK
      gi_wp2_with fail
      refine ⟨by simp, .inl ⟨_, _, rfl, run_takeDeferred HK.out, ?_⟩⟩
      refine ⟨_, results_cell3 rfl _ _ ⟨w.heap.size + 1, 0, none⟩ ⟨w.heap.size + 2, 0, none⟩ ⟨w.heap.size + 3, 0, none⟩ _ _ _ rfl rfl rfl (run_loadVar_one LI.out _ _ _ _ (blk_put HI.out.r0 (by omega))) (run_loadVar_one LB.out _ _ _ _ (blk_put HI.out.r1 (by omega))) (run_loadVar_one LE.out _ _ _ _ (blk_put HI.out.r2 (by omega))), ?_⟩
      exact ⟨by rw [HV.out, HCZ.out]; rfl, below_put HI.out.below (by omega)⟩
    case stop =>
      clear EG SQ q0 q1 q2 q3
      rintro D c pre W hD hp ⟨rfl, v, rfl, hi⟩ hK
      have HV : Hid (nxV x z t = some v) := Lib.hid (by
        rw [HN.out]
        obtain ⟨suf, hsuf⟩ := hp
        rw [← hsuf]; rfl)
      have HI := Lib.hid hi
      have HK := Lib.hid hK
      clear hp hi hK
      gi_wp2_with fail
      refine ⟨by simp, .inl ⟨_, _, rfl, run_takeDeferred HK.out, ?_⟩⟩
      refine ⟨_, results_cell3 rfl _ _ ⟨w.heap.size + 1, 0, none⟩ ⟨w.heap.size + 2, 0, none⟩ ⟨w.heap.size + 3, 0, none⟩ _ _ _ rfl rfl rfl (run_loadVar_one LI.out _ _ _ _ (blk_put HI.out.r0 (by omega))) (run_loadVar_one LB.out _ _ _ _ (blk_put HI.out.r1 (by omega))) (run_loadVar_one LE.out _ _ _ _ (blk_put HI.out.r2 (by omega))), ?_⟩
      exact ⟨by rw [HV.out, HCZ.out]; rfl, below_put HI.out.below (by omega)⟩
  · have HV : Hid (nxV x z t = none) := Lib.hid (by rw [HNV.out, if_neg hcz])
    obtain ⟨c, hc⟩ : ∃ c, c = chk x z [t] := ⟨_, rfl⟩
    have HC := Lib.hid hc
    rw [← hc] at hcz
    have hc2 := hc.symm
    clear hc HNV
    have HR0 := Lib.hid (((HI2.out.r0.set_ 0 (.int .i64 0)).far (p := ⟨w.heap.size + 2, 0, none⟩) (by simp) (.bool false)).far (p := ⟨w.heap.size + 3, 0, none⟩) (by simp) (.int .i64 c))
    have HR1 := Lib.hid (((HI2.out.r1.far (p := ⟨w.heap.size + 1, 0, none⟩) (by simp) (.int .i64 0)).set_ 0 (.bool false)).far (p := ⟨w.heap.size + 3, 0, none⟩) (by simp) (.int .i64 c))
    have HR2 := Lib.hid (((HI2.out.r2.far (p := ⟨w.heap.size + 1, 0, none⟩) (by simp) (.int .i64 0)).far (p := ⟨w.heap.size + 2, 0, none⟩) (by simp) (.bool false)).set_ 0 (.int .i64 c))
    have HB := Lib.hid (((HI2.out.below.setCell (p := ⟨w.heap.size + 1, 0, none⟩) (by simp) (.int .i64 0)).setCell (p := ⟨w.heap.size + 2, 0, none⟩) (by simp) (.bool false)).setCell (p := ⟨w.heap.size + 3, 0, none⟩) (by simp) (.int .i64 c))
    have hcz2 : (c == 0) = false := by rw [beq_eq_false_iff_ne]; exact hcz
    gi_wp2_with fail
    refine ⟨_, results_cell3 rfl _ _ ⟨w.heap.size + 1, 0, none⟩ ⟨w.heap.size + 2, 0, none⟩ ⟨w.heap.size + 3, 0, none⟩ _ _ _ rfl rfl rfl (run_loadVar_one LI.out _ _ _ _ HR0.out) (run_loadVar_one LB.out _ _ _ _ HR1.out) (run_loadVar_one LE.out _ _ _ _ HR2.out), ?_⟩
    exact ⟨by rw [HV.out, ← HC.out]; rfl, HB.out⟩
end Go.Proofs.YtihadbkjfocdoaaGreatDoor.BW
