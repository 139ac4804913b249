/- Contract of match.Ever. -/
import Derived.Test.YtepoegcpfhjlpaaDoorMatW
namespace Go.Proofs.YtepoegcpfhjlpaaDoor.BW
open Go.RowKit BM Go.Shelf MC RK
open BK hiding ret_bool ret_i64

attribute [local go_sem] Oper.semAt_some

/-- What is known in Ever's rounds. -/
structure EvI (w : World) (b : Bool) (W : World) : Prop where
  r : Blk W (w.heap.size + 1) 4 #[.bool b]
  e : Blk W (w.heap.size + 2) 26 #[.int .i64 0]
  below : Below w.heap.size w W
theorem EvI.steps {w : World} {b : Bool} {B : Nat} {X Y : World} (h : EvI w b X) (hs : RK.Steps (fun _ => False) B X Y) (hB : w.heap.size ≤ B) : EvI w b Y :=
  ⟨steps_blk hs h.r (fun h => h), steps_blk hs h.e (fun h => h), below_steps h.below hs hB (Nat.le_refl _)⟩
theorem keepsFrom_set {B : Nat} {X Y : World} (h : KeepsFrom B X Y) {b i : Nat} (hb : b < B) (u : Value) : KeepsFrom B X (Y.setCell ⟨b, i, none⟩ u) :=
  h.trans ⟨(KeepsWalks.setCell Y _ u).size, fun k o hB hk _ => (Below.heap_setCell Y _ u k (by simp; omega)).trans hk⟩
theorem blk_put {X : World} {g D : Nat} {t : TypeId} {cs : Array Value} {o : Obj} (h : Blk X g t cs) (hD : g ≠ D) : Blk (X.putObj D o) g t cs := (World.putObj_heap_other hD).trans h
theorem below_put {B D : Nat} {w X : World} {o : Obj} (h : Below B w X) (hD : B ≤ D) : Below B w (X.putObj D o) := h.trans ⟨rfl, rfl, rfl, by simp, fun k hk => World.putObj_heap_other (by omega)⟩
theorem heap_set {X : World} {D b i : Nat} {o : Option Obj} (h : X.heap[D]? = o) (hb : D ≠ b) (u : Value) : (X.setCell ⟨b, i, none⟩ u).heap[D]? = o := (Below.heap_setCell X _ u D hb).trans h
theorem EvI.set {w : World} {b : Bool} {W : World} (h : EvI w b W) (c : Bool) : EvI w c ((W.setCell ⟨w.heap.size + 1, 0, none⟩ (.bool c)).setCell ⟨w.heap.size + 2, 0, none⟩ (.int .i64 0)) :=
  ⟨(h.r.set_ 0 _).far (by simp) _, (h.e.far (by simp) _).set_ 0 _, (h.below.setCell (by simp) _).setCell (by simp) _⟩
set_option maxRecDepth 8000 in
set_option maxHeartbeats 4000000 in
theorem ever_ok (x : Ex) (hx : U64s x) (w : World) (hT : SpTab w) : Calls Tryd.prog 27 #[.agg (exV x)] w fun e w' =>
    e = .returned (.tuple #[.bool (decide (ckR x = 0) && everR x), .int .i64 (ckR x)]) ∧ Below w.heap.size w w' := by
  refine callsIn_wide (n := 3).1 ?_
  have HX := Lib.hid hx
  obtain ⟨W1, hW1⟩ : ∃ W1, W1 = ((w.alloc (.cells (exV x) 24)).alloc (.cells #[.bool false] 4)).alloc (.cells #[.int .i64 0] 26) := ⟨_, rfl⟩
  have hbx : Blk W1 w.heap.size 24 (exV x) := by rw [hW1]; exact ((Blk.new w _ _).alloc _).alloc _
  have hbr : Blk W1 (w.heap.size + 1) 4 #[.bool false] := by rw [hW1]; exact (Blk.newAt (by simp)).alloc _
  have hbe : Blk W1 (w.heap.size + 2) 26 #[.int .i64 0] := by rw [hW1]; exact Blk.newAt (by simp)
  have hB1 : Below w.heap.size w W1 := by rw [hW1]; exact (((Below.refl _ w).alloc (Nat.le_refl _) _).alloc (by simp) _).alloc (by simp; omega) _
  have CK := Lib.hid (check_ok x hx W1 (hT.below hB1))
  have HW1 := Lib.hid hW1
  rw [hW1] at CK
  clear hW1 hT hx
  refine callsIn_of_wp_marks Tryd.func27 rfl trivial ?_ rfl
  simp only [Tryd.ntmps27, List.size_toArray, List.length_cons, List.length_nil, Nat.reduceAdd, Nat.reduceSub, Array.replicate_succ, Array.replicate_zero, List.push_toArray, List.append_toArray, List.nil_append, List.cons_append]
  have e0 : exV x = #[.int .u64 x.s, .int .u64 x.mi, .int .u64 x.h, .int .u64 x.d, .int .u64 x.mo, .int .u64 x.w, .bool x.ad, .bool x.aw] := rfl
  rw [e0]
  clear e0
  unfold exV at CK
  gi_wp2_with fail
  refine ⟨trivial, (callsIn_wide.2 CK.out).mono ?_⟩
  rintro e w2 ⟨rfl, hb⟩
  have hb : Below W1.heap.size W1 w2 := by rw [HW1.out]; exact hb
  have hx2 := hbx.below hb hbx.lt
  have hr2 := hbr.below hb hbr.lt
  have he2 := hbe.below hb hbe.lt
  have hB2 := hB1.trans (hb.mono hB1.size)
  have HI2 := Lib.hid (EvI.mk hr2 he2 hB2)
  have c0 : w2.cell? ⟨w.heap.size, 0, none⟩ = some (.int .u64 x.s) := hx2.cell 0
  have c1 : w2.cell? ⟨w.heap.size, 1, none⟩ = some (.int .u64 x.mi) := hx2.cell 1
  have c2 : w2.cell? ⟨w.heap.size, 2, none⟩ = some (.int .u64 x.h) := hx2.cell 2
  have c3 : w2.cell? ⟨w.heap.size, 3, none⟩ = some (.int .u64 x.d) := hx2.cell 3
  have c4 : w2.cell? ⟨w.heap.size, 4, none⟩ = some (.int .u64 x.mo) := hx2.cell 4
  have c5 : w2.cell? ⟨w.heap.size, 5, none⟩ = some (.int .u64 x.w) := hx2.cell 5
  have c6 : w2.cell? ⟨w.heap.size, 6, none⟩ = some (.bool x.ad) := hx2.cell 6
  have c7 : w2.cell? ⟨w.heap.size, 7, none⟩ = some (.bool x.aw) := hx2.cell 7
  have d1 : w2.cell? ⟨w.heap.size + 1, 0, none⟩ = some (.bool false) := hr2.cell 0
  have d2 : w2.cell? ⟨w.heap.size + 2, 0, none⟩ = some (.int .i64 0) := he2.cell 0
  have f1 : w2.frozen? ⟨w.heap.size + 1, 0, none⟩ = false := hr2.frozen 0
  have f2 : w2.frozen? ⟨w.heap.size + 2, 0, none⟩ = false := he2.frozen 0
  have HX2 := Lib.hid hx2
  clear hb hbx hbr hbe hB1 hx2 hr2 he2 hB2 CK HW1
  have lb : ∀ w, (isAgg 4).run Tryd.prog w = .ok false w := fun w => by simp [isAgg, run_underlying Tryd.underlying4, go_sem]
  have le : ∀ w, (isAgg 26).run Tryd.prog w = .ok false w := fun w => by simp [isAgg, run_underlying Tryd.underlying26, go_sem]
  have LB := Lib.hid lb
  have LE := Lib.hid le
  clear lb le
  have cx := ckR_cases x
  obtain ⟨c, hc⟩ : ∃ c, c = ckR x := ⟨_, rfl⟩
  rw [← hc] at cx ⊢
  have HC := Lib.hid hc
  clear hc
  rcases cx with rfl | rfl
  · gi_wp2_with fail
    refine ⟨trivial, (callsIn_wide.2 (days_mk x 0 2929 w2)).mono ?_⟩
    rintro e w3 ⟨rfl, rfl⟩
    gi_wp2_with fail
    have hb1 : Blk (((w2.alloc (.cells (exV x) 24)).alloc (.cells #[.int .i64 0] 2)).alloc (.cells #[.int .i64 2929] 2)) w2.heap.size 24 (exV x) := ((Blk.new w2 _ _).alloc _).alloc _
    have hb2 : Blk (((w2.alloc (.cells (exV x) 24)).alloc (.cells #[.int .i64 0] 2)).alloc (.cells #[.int .i64 2929] 2)) (w2.heap.size + 1) 2 #[.int .i64 0] := (Blk.newAt (by simp)).alloc _
    have hb3 : Blk (((w2.alloc (.cells (exV x) 24)).alloc (.cells #[.int .i64 0] 2)).alloc (.cells #[.int .i64 2929] 2)) (w2.heap.size + 2) 2 #[.int .i64 2929] := Blk.newAt (by simp)
    have hbb : Below w2.heap.size w2 (((w2.alloc (.cells (exV x) 24)).alloc (.cells #[.int .i64 0] 2)).alloc (.cells #[.int .i64 2929] 2)) := (((Below.refl _ w2).alloc (Nat.le_refl _) _).alloc (by simp) _).alloc (by simp; omega) _
    have hss : (((w2.alloc (.cells (exV x) 24)).alloc (.cells #[.int .i64 0] 2)).alloc (.cells #[.int .i64 2929] 2)).heap.size = w2.heap.size + 3 := by simp
    generalize ((w2.alloc _).alloc _).alloc _ = w3 at *
    have HI3 : Hid (EvI w false w3) := Lib.hid (HI2.out.steps (RK.Steps.of_below hbb) (by have := HI2.out.below.size; omega))
    have hws : w.heap.size + 2 < w2.heap.size := HI2.out.e.lt
    clear c0 c1 c2 c3 c4 c5 c6 c7 d1 d2 f1 f2 HX2
    refine' wpIn_rangeFunc_seqL rfl (by decide) (gf := 55) rfl trivial (enters_of Tryd.func55 (by kernel_rfl) rfl)
      (days_seq (3 - 1) x HX.out (fun j => j) 2929 0 2929 1 (Lib.hid (walk_id 2929 (by decide))) w2.heap.size (w2.heap.size + 1) (w2.heap.size + 2) w3 hb1 hb2 hb3) (fun _ h => h.elim)
      (fun h k => h.trans k)
      (fun W o o' hl hc k hk => World.putObj_heap_other (by unfold KD at hk; omega))
      (fun _ => rfl) (fun pre W => pre = [] ∧ EvI w false W) (fun c pre W => c = .ret ∧ pre ≠ [] ∧ EvI w true W) (fun pre X Y h hs => ⟨h.1, h.2.steps hs (by omega)⟩) (fun c pre X Y h hs => ⟨h.1, h.2.1, h.2.2.steps hs (by omega)⟩)
      ⟨rfl, HI3.out⟩ _ ?assign ?body ?done ?stop
    case assign =>
      intro l d W K hK
      gi_wp2
      exact hK
    case body =>
      rintro l pre d W ⟨rfl, hi⟩ hpre hsz
      have d1 : W.cell? ⟨w.heap.size + 1, 0, none⟩ = some (.bool false) := hi.r.cell 0
      have d2 : W.cell? ⟨w.heap.size + 2, 0, none⟩ = some (.int .i64 0) := hi.e.cell 0
      have f1 : W.frozen? ⟨w.heap.size + 1, 0, none⟩ = false := hi.r.frozen 0
      have f2 : W.frozen? ⟨w.heap.size + 2, 0, none⟩ = false := hi.e.frozen 0
      gi_wp2_with fail
      exact ⟨keepsFrom_set (keepsFrom_set (KeepsFrom.refl _ _) (by omega) _) (by omega) _, rfl, by simp, hi.set true⟩
    case done =>
      rintro D W hD ⟨h, hi⟩ hK
      have d1 : W.cell? ⟨w.heap.size + 1, 0, none⟩ = some (.bool false) := hi.r.cell 0
      have d2 : W.cell? ⟨w.heap.size + 2, 0, none⟩ = some (.int .i64 0) := hi.e.cell 0
      have f1 : W.frozen? ⟨w.heap.size + 1, 0, none⟩ = false := hi.r.frozen 0
      have f2 : W.frozen? ⟨w.heap.size + 2, 0, none⟩ = false := hi.e.frozen 0
      have HV : Hid (everR x = false) := Lib.hid (by unfold everR; rw [show 2930 = 2929 + 1 from rfl, h]; rfl)
      have HI := Lib.hid (hi.set false)
      have HK := Lib.hid (heap_set (b := w.heap.size + 2) (i := 0) (heap_set (b := w.heap.size + 1) (i := 0) hK (by omega) (.bool false)) (by omega) (.int .i64 0))
      clear h hi hK
      gi_wp2_with fail
      refine ⟨by simp, .inl ⟨_, _, rfl, run_takeDeferred HK.out, ?_⟩⟩
      refine ⟨_, results_cell2 rfl _ _ ⟨w.heap.size + 1, 0, none⟩ ⟨w.heap.size + 2, 0, none⟩ _ _ rfl rfl (run_loadVar_one LB.out _ _ _ _ (blk_put HI.out.r (by omega))) (run_loadVar_one LE.out _ _ _ _ (blk_put HI.out.e (by omega))), ?_⟩
      exact ⟨by rw [← HC.out, HV.out]; rfl, below_put HI.out.below (by omega)⟩
    case stop =>
      rintro D c pre W hD hp ⟨rfl, hne, hi⟩ hK
      have HV : Hid (everR x = true) := Lib.hid (by
        unfold everR
        rw [show 2930 = 2929 + 1 from rfl]
        cases h : daysL x (fun j => j) (2929 + 1) with
        | nil => rw [h] at hp; exact absurd (List.prefix_nil.1 hp) hne
        | cons => rfl)
      have HI := Lib.hid hi
      have HK := Lib.hid hK
      clear hp hne hi hK
      gi_wp2_with fail
      refine ⟨by simp, .inl ⟨_, _, rfl, run_takeDeferred HK.out, ?_⟩⟩
      refine ⟨_, results_cell2 rfl _ _ ⟨w.heap.size + 1, 0, none⟩ ⟨w.heap.size + 2, 0, none⟩ _ _ rfl rfl (run_loadVar_one LB.out _ _ _ _ (blk_put HI.out.r (by omega))) (run_loadVar_one LE.out _ _ _ _ (blk_put HI.out.e (by omega))), ?_⟩
      exact ⟨by rw [← HC.out, HV.out]; rfl, below_put HI.out.below (by omega)⟩
  · have HI : Hid (EvI w false ((w2.setCell ⟨w.heap.size + 1, 0, none⟩ (.bool false)).setCell ⟨w.heap.size + 2, 0, none⟩ (.int .i64 0))) := Lib.hid (HI2.out.set false)
    have HE := Lib.hid (((HI2.out.e.far (p := ⟨w.heap.size + 1, 0, none⟩) (by simp) (.bool false)).set_ 0 (.int .i64 16)))
    have HB := Lib.hid ((HI2.out.below.setCell (p := ⟨w.heap.size + 1, 0, none⟩) (by simp) (.bool false)).setCell (p := ⟨w.heap.size + 2, 0, none⟩) (by simp) (.int .i64 16))
    have HR := Lib.hid ((HI2.out.r.set_ 0 (.bool false)).far (p := ⟨w.heap.size + 2, 0, none⟩) (by simp) (.int .i64 16))
    gi_wp2_with fail
    refine ⟨_, results_cell2 rfl _ _ ⟨w.heap.size + 1, 0, none⟩ ⟨w.heap.size + 2, 0, none⟩ _ _ rfl rfl (run_loadVar_one LB.out _ _ _ _ HR.out) (run_loadVar_one LE.out _ _ _ _ HE.out), ?_⟩
    exact ⟨by rw [← HC.out]; rfl, HB.out⟩
end Go.Proofs.YtepoegcpfhjlpaaDoor.BW
