/- Contract of match.Prev: the walk. -/
import Derived.Test.YtepoegcpfhjlpaaDoorMPrevM
namespace Go.Proofs.YtepoegcpfhjlpaaDoor.BW
open Go.RowKit BM Go.Shelf MC RK
open BK hiding ret_bool ret_i64

attribute [local go_sem] Oper.semAt_some

set_option maxRecDepth 8000 in
set_option maxHeartbeats 4000000 in
theorem pprev_ok (x : Ex) (hx : U64s x) (z t : Int) (w : World) (hT : SpTab w) (hTab : Tab w) : Calls Tryd.prog 30 #[.agg (exV x), .int .i64 z, .int .i64 t] w fun e w' =>
    e = .returned (.tuple #[.int .i64 (optI (pvV x z t)), .bool (pvV x z t).isSome, .int .i64 (chk x z [t])]) ∧ Below w.heap.size w w' := by
  refine callsIn_wide (n := 3).1 ?_
  have HX := Lib.hid hx
  have hgt : 0 < w.heap.size := World.block_lt_of_cell? w _ (hTab 0 (by decide))
  obtain ⟨W1, hW1⟩ : ∃ W1, W1 = ((((w.alloc (.cells (exV x) 24)).alloc (.cells #[.int .i64 0] 2)).alloc (.cells #[.bool false] 4)).alloc (.cells #[.int .i64 0] 26)).alloc (.cells #[.int .i64 t] 2) := ⟨_, rfl⟩
  have hbx : Blk W1 w.heap.size 24 (exV x) := by rw [hW1]; exact ((((Blk.new w _ _).alloc _).alloc _).alloc _).alloc _
  have hr0 : Blk W1 (w.heap.size + 1) 2 #[.int .i64 0] := by rw [hW1]; exact (((Blk.newAt (by simp)).alloc _).alloc _).alloc _
  have hr1 : Blk W1 (w.heap.size + 2) 4 #[.bool false] := by rw [hW1]; exact ((Blk.newAt (by simp)).alloc _).alloc _
  have hr2 : Blk W1 (w.heap.size + 3) 26 #[.int .i64 0] := by rw [hW1]; exact (Blk.newAt (by simp)).alloc _
  have hts : Blk W1 (w.heap.size + 4) 2 #[.int .i64 t] := by rw [hW1]; exact Blk.newAt (by simp)
  have hB1 : Below w.heap.size w W1 := by rw [hW1]; exact (((((Below.refl _ w).alloc (Nat.le_refl _) _).alloc (by simp) _).alloc (by simp; omega) _).alloc (by simp; omega) _).alloc (by simp; omega) _
  have CK := Lib.hid (pcheck_ok x hx z [t] (w.heap.size + 4) 1 1 rfl (by decide) W1 (hT.below hB1) (fun k hk => by
    have : k = 0 := by simpa using hk
    subst this; exact hts.cell 0))
  have HT1 := Lib.hid (tab_below hTab hB1 hgt)
  have HW1 := Lib.hid hW1
  rw [hW1] at CK
  clear hW1 hT hx hTab
  refine callsIn_of_wp_marks Tryd.func30 rfl trivial ?_ rfl
  simp only [Tryd.ntmps30, List.size_toArray, List.length_cons, List.length_nil, Nat.reduceAdd, Nat.reduceSub, Array.replicate_succ, Array.replicate_zero, List.push_toArray, List.append_toArray, List.nil_append, List.cons_append]
  have e0 : exV x = #[.int .u64 x.s, .int .u64 x.mi, .int .u64 x.h, .int .u64 x.d, .int .u64 x.mo, .int .u64 x.w, .bool x.ad, .bool x.aw] := rfl
  rw [e0]
  clear e0
  unfold exV at CK
  gi_wp2_with fail
  refine ⟨trivial, (callsIn_wide.2 CK.out).mono ?_⟩
  rintro e w2 ⟨rfl, hb⟩
  have hb : Below W1.heap.size W1 w2 := by rw [HW1.out]; exact hb
  have hx2 := hbx.below hb hbx.lt
  have hr02 := hr0.below hb hr0.lt
  have hr12 := hr1.below hb hr1.lt
  have hr22 := hr2.below hb hr2.lt
  have hB2 := hB1.trans (hb.mono hB1.size)
  have HI2 := Lib.hid (NxI.mk hr02 hr12 hr22 hB2)
  have HT2 := Lib.hid (tab_below HT1.out hb (by have := hB1.size; omega))
  have c0 : w2.cell? ⟨w.heap.size, 0, none⟩ = some (.int .u64 x.s) := hx2.cell 0
  have c1 : w2.cell? ⟨w.heap.size, 1, none⟩ = some (.int .u64 x.mi) := hx2.cell 1
  have c2 : w2.cell? ⟨w.heap.size, 2, none⟩ = some (.int .u64 x.h) := hx2.cell 2
  have c3 : w2.cell? ⟨w.heap.size, 3, none⟩ = some (.int .u64 x.d) := hx2.cell 3
  have c4 : w2.cell? ⟨w.heap.size, 4, none⟩ = some (.int .u64 x.mo) := hx2.cell 4
  have c5 : w2.cell? ⟨w.heap.size, 5, none⟩ = some (.int .u64 x.w) := hx2.cell 5
  have c6 : w2.cell? ⟨w.heap.size, 6, none⟩ = some (.bool x.ad) := hx2.cell 6
  have c7 : w2.cell? ⟨w.heap.size, 7, none⟩ = some (.bool x.aw) := hx2.cell 7
  have d1 : w2.cell? ⟨w.heap.size + 1, 0, none⟩ = some (.int .i64 0) := hr02.cell 0
  have d2 : w2.cell? ⟨w.heap.size + 2, 0, none⟩ = some (.bool false) := hr12.cell 0
  have d3 : w2.cell? ⟨w.heap.size + 3, 0, none⟩ = some (.int .i64 0) := hr22.cell 0
  have f1 : w2.frozen? ⟨w.heap.size + 1, 0, none⟩ = false := hr02.frozen 0
  have f2 : w2.frozen? ⟨w.heap.size + 2, 0, none⟩ = false := hr12.frozen 0
  have f3 : w2.frozen? ⟨w.heap.size + 3, 0, none⟩ = false := hr22.frozen 0
  have HX2 := Lib.hid hx2
  clear hb hbx hr0 hr1 hr2 hB1 hx2 hr02 hr12 hr22 hB2 CK HW1 hts HT1
  have LI : Hid (∀ w, (isAgg 2).run Tryd.prog w = .ok false w) := Lib.hid (fun w => by simp [isAgg, run_underlying Tryd.underlying2, go_sem])
  have LB : Hid (∀ w, (isAgg 4).run Tryd.prog w = .ok false w) := Lib.hid (fun w => by simp [isAgg, run_underlying Tryd.underlying4, go_sem])
  have LE : Hid (∀ w, (isAgg 26).run Tryd.prog w = .ok false w) := Lib.hid (fun w => by simp [isAgg, run_underlying Tryd.underlying26, go_sem])
  by_cases hcz : chk x z [t] = 0
  · obtain ⟨o1, o2, o3⟩ := chk_zero hcz
    have hok := ok_of_ck o1
    have ht := o3 t (by simp)
    have HCZ := Lib.hid hcz
    have HRF := Lib.hid (pvV_ok (x := x) (z := z) (t := t) hcz)
    have HZ := Lib.hid o2
    clear o1 o3
    obtain ⟨be, ebe⟩ : ∃ n : Nat, max (0 : Int) (z * 60) = n := ⟨(max (0 : Int) (z * 60)).toNat, by omega⟩
    have hbe9 : be ≤ 50400 := by omega
    have wt : IntKind.i64.wrap (t - 1) = t - 1 := IntWalk.i64_in _ (by omega)
    have wa : IntKind.i64.wrap (t - 1 + z * 60) = t - 1 + z * 60 := IntWalk.i64_in _ (by omega)
    have hlt1 : w.heap.size + 3 < w2.heap.size := HI2.out.r2.lt
    have ne1 : ¬ w.heap.size + 1 = w2.heap.size := by omega
    have ne2 : ¬ w.heap.size + 2 = w2.heap.size := by omega
    have ne3 : ¬ w.heap.size + 3 = w2.heap.size := by omega
    gi_wp2_with fail
    refine ⟨trivial, (callsIn_wide.2 (local_ok z o2 _)).mono ?_⟩
    rintro e w3 ⟨rfl, rfl⟩
    rw [ebe]
    by_cases hlb : min (t - 1 + z * 60) (min 253402300799 (253402300799 + z * 60)) < be
    · have hlt : decide (min (t - 1 + z * 60) (min 253402300799 (253402300799 + z * 60)) < (be : Int)) = true := decide_eq_true hlb
      have HV : Hid (pvV x z t = none) := Lib.hid (HRF.out.trans (before_none HZ.out fun m m1 m2 m3 => by omega))
      have HI3 : ∀ u, Hid (NxI w 0 false (((w2.alloc (.cells #[.int .i64 (z * 60)] 2)).alloc (.cells #[.int .i64 be] 2)).alloc (.cells #[.int .i64 u] 2))) := fun u => Lib.hid (HI2.out.steps (RK.Steps.of_below (own := fun _ => False) (B := w2.heap.size) ((((Below.refl _ w2).alloc (Nat.le_refl _) _).alloc (by simp) _).alloc (by simp; omega) _)) (by omega))
      have HJ := HI3 (min (t - 1 + z * 60) (min 253402300799 (253402300799 + z * 60)))
      have HI := Lib.hid (HJ.out.set 0 false)
      clear HI3 d1 d2 d3 f1 f2 f3 c0 c1 c2 c3 c4 c5 c6 c7
      have d1 : (((w2.alloc (.cells #[.int .i64 (z * 60)] 2)).alloc (.cells #[.int .i64 be] 2)).alloc (.cells #[.int .i64 (min (t - 1 + z * 60) (min 253402300799 (253402300799 + z * 60)))] 2)).cell? ⟨w.heap.size + 1, 0, none⟩ = some (.int .i64 0) := HJ.out.r0.cell 0
      have d2 : (((w2.alloc (.cells #[.int .i64 (z * 60)] 2)).alloc (.cells #[.int .i64 be] 2)).alloc (.cells #[.int .i64 (min (t - 1 + z * 60) (min 253402300799 (253402300799 + z * 60)))] 2)).cell? ⟨w.heap.size + 2, 0, none⟩ = some (.bool false) := HJ.out.r1.cell 0
      have d3 : (((w2.alloc (.cells #[.int .i64 (z * 60)] 2)).alloc (.cells #[.int .i64 be] 2)).alloc (.cells #[.int .i64 (min (t - 1 + z * 60) (min 253402300799 (253402300799 + z * 60)))] 2)).cell? ⟨w.heap.size + 3, 0, none⟩ = some (.int .i64 0) := HJ.out.r2.cell 0
      have f1 : (((w2.alloc (.cells #[.int .i64 (z * 60)] 2)).alloc (.cells #[.int .i64 be] 2)).alloc (.cells #[.int .i64 (min (t - 1 + z * 60) (min 253402300799 (253402300799 + z * 60)))] 2)).frozen? ⟨w.heap.size + 1, 0, none⟩ = false := HJ.out.r0.frozen 0
      have f2 : (((w2.alloc (.cells #[.int .i64 (z * 60)] 2)).alloc (.cells #[.int .i64 be] 2)).alloc (.cells #[.int .i64 (min (t - 1 + z * 60) (min 253402300799 (253402300799 + z * 60)))] 2)).frozen? ⟨w.heap.size + 2, 0, none⟩ = false := HJ.out.r1.frozen 0
      have f3 : (((w2.alloc (.cells #[.int .i64 (z * 60)] 2)).alloc (.cells #[.int .i64 be] 2)).alloc (.cells #[.int .i64 (min (t - 1 + z * 60) (min 253402300799 (253402300799 + z * 60)))] 2)).frozen? ⟨w.heap.size + 3, 0, none⟩ = false := HJ.out.r2.frozen 0
      clear hlb
      gi_wp2_with fail
      refine ⟨_, results_cell3 rfl _ _ ⟨w.heap.size + 1, 0, none⟩ ⟨w.heap.size + 2, 0, none⟩ ⟨w.heap.size + 3, 0, none⟩ _ _ _ rfl rfl rfl (run_loadVar_one LI.out _ _ _ _ HI.out.r0) (run_loadVar_one LB.out _ _ _ _ HI.out.r1) (run_loadVar_one LE.out _ _ _ _ HI.out.r2), ?_⟩
      exact ⟨by rw [HV.out, HCZ.out]; rfl, HI.out.below⟩
    · obtain ⟨hi, ehi⟩ : ∃ n : Nat, min (t - 1 + z * 60) (min 253402300799 (253402300799 + z * 60)) = n := ⟨(min (t - 1 + z * 60) (min 253402300799 (253402300799 + z * 60))).toNat, by omega⟩
      rw [ehi] at hlb
      have hbh : be ≤ hi := by omega
      have hlt : decide ((hi : Int) < be) = false := decide_eq_false hlb
      have hlt' : decide (hi < be) = false := decide_eq_false (by omega)
      have hh9 : hi ≤ 253402300799 := by omega
      have HF : Hid (∀ l : Nat, l ≤ hi → be ≤ l → T x l = true → (∀ m, l < m → m ≤ hi → T x m = false) → pvV x z t = some (l - z * 60)) := Lib.hid (fun l h1 h2 h3 h4 =>
        HRF.out.trans (before_found HZ.out ht.2 (by omega) (by omega) h3 fun m m1 m2 m3 => h4 m m1 (by omega)))
      have HN : Hid ((∀ l, be ≤ l → l ≤ hi → T x l = false) → pvV x z t = none) := Lib.hid (fun h => HRF.out.trans (before_none HZ.out fun m m1 m2 m3 => h m (by omega) (by omega)))
      have hb0 : Below w2.heap.size w2 ((((((w2.alloc (.cells #[.int .i64 (z * 60)] 2)).alloc (.cells #[.int .i64 be] 2)).alloc (.cells #[.int .i64 hi] 2)).alloc (.cells (exV x) 24)).alloc (.cells #[.int .i64 ((hi : Int) / 86400)] 2)).alloc (.cells #[.int .i64 ((be : Int) / 86400)] 2)) := ((((((Below.refl _ w2).alloc (Nat.le_refl _) _).alloc (by simp) _).alloc (by simp; omega) _).alloc (by simp; omega) _).alloc (by simp; omega) _).alloc (by simp; omega) _
      have p0 : Blk ((((((w2.alloc (.cells #[.int .i64 (z * 60)] 2)).alloc (.cells #[.int .i64 be] 2)).alloc (.cells #[.int .i64 hi] 2)).alloc (.cells (exV x) 24)).alloc (.cells #[.int .i64 ((hi : Int) / 86400)] 2)).alloc (.cells #[.int .i64 ((be : Int) / 86400)] 2)) w2.heap.size 2 #[.int .i64 (z * 60)] := (((((Blk.new w2 _ _).alloc _).alloc _).alloc _).alloc _).alloc _
      have p1 : Blk ((((((w2.alloc (.cells #[.int .i64 (z * 60)] 2)).alloc (.cells #[.int .i64 be] 2)).alloc (.cells #[.int .i64 hi] 2)).alloc (.cells (exV x) 24)).alloc (.cells #[.int .i64 ((hi : Int) / 86400)] 2)).alloc (.cells #[.int .i64 ((be : Int) / 86400)] 2)) (w2.heap.size + 1) 2 #[.int .i64 be] := ((((Blk.newAt (by simp)).alloc _).alloc _).alloc _).alloc _
      have p2 : Blk ((((((w2.alloc (.cells #[.int .i64 (z * 60)] 2)).alloc (.cells #[.int .i64 be] 2)).alloc (.cells #[.int .i64 hi] 2)).alloc (.cells (exV x) 24)).alloc (.cells #[.int .i64 ((hi : Int) / 86400)] 2)).alloc (.cells #[.int .i64 ((be : Int) / 86400)] 2)) (w2.heap.size + 2) 2 #[.int .i64 hi] := (((Blk.newAt (by simp)).alloc _).alloc _).alloc _
      have q0 : Blk ((((((w2.alloc (.cells #[.int .i64 (z * 60)] 2)).alloc (.cells #[.int .i64 be] 2)).alloc (.cells #[.int .i64 hi] 2)).alloc (.cells (exV x) 24)).alloc (.cells #[.int .i64 ((hi : Int) / 86400)] 2)).alloc (.cells #[.int .i64 ((be : Int) / 86400)] 2)) (w2.heap.size + 3) 24 (exV x) := ((Blk.newAt (by simp)).alloc _).alloc _
      have q1 : Blk ((((((w2.alloc (.cells #[.int .i64 (z * 60)] 2)).alloc (.cells #[.int .i64 be] 2)).alloc (.cells #[.int .i64 hi] 2)).alloc (.cells (exV x) 24)).alloc (.cells #[.int .i64 ((hi : Int) / 86400)] 2)).alloc (.cells #[.int .i64 ((be : Int) / 86400)] 2)) (w2.heap.size + 3 + 1) 2 #[.int .i64 ((hi : Int) / 86400)] := (Blk.newAt (by simp)).alloc _
      have q2 : Blk ((((((w2.alloc (.cells #[.int .i64 (z * 60)] 2)).alloc (.cells #[.int .i64 be] 2)).alloc (.cells #[.int .i64 hi] 2)).alloc (.cells (exV x) 24)).alloc (.cells #[.int .i64 ((hi : Int) / 86400)] 2)).alloc (.cells #[.int .i64 ((be : Int) / 86400)] 2)) (w2.heap.size + 3 + 2) 2 #[.int .i64 ((be : Int) / 86400)] := Blk.newAt (by simp)
      have hs4 : ((((((w2.alloc (.cells #[.int .i64 (z * 60)] 2)).alloc (.cells #[.int .i64 be] 2)).alloc (.cells #[.int .i64 hi] 2)).alloc (.cells (exV x) 24)).alloc (.cells #[.int .i64 ((hi : Int) / 86400)] 2)).alloc (.cells #[.int .i64 ((be : Int) / 86400)] 2)).heap.size = w2.heap.size + 6 := by simp
      have HS4 := Lib.hid hs4
      clear hs4
      have HX3 := Lib.hid (((HX2.out.alloc (.cells #[.int .i64 (z * 60)] 2)).alloc (.cells #[.int .i64 be] 2)).alloc (.cells #[.int .i64 hi] 2))
      clear c0 c1 c2 c3 c4 c5 c6 c7
      have c0 : (((w2.alloc (.cells #[.int .i64 (z * 60)] 2)).alloc (.cells #[.int .i64 be] 2)).alloc (.cells #[.int .i64 hi] 2)).cell? ⟨w.heap.size, 0, none⟩ = some (.int .u64 x.s) := HX3.out.cell 0
      have c1 : (((w2.alloc (.cells #[.int .i64 (z * 60)] 2)).alloc (.cells #[.int .i64 be] 2)).alloc (.cells #[.int .i64 hi] 2)).cell? ⟨w.heap.size, 1, none⟩ = some (.int .u64 x.mi) := HX3.out.cell 1
      have c2 : (((w2.alloc (.cells #[.int .i64 (z * 60)] 2)).alloc (.cells #[.int .i64 be] 2)).alloc (.cells #[.int .i64 hi] 2)).cell? ⟨w.heap.size, 2, none⟩ = some (.int .u64 x.h) := HX3.out.cell 2
      have c3 : (((w2.alloc (.cells #[.int .i64 (z * 60)] 2)).alloc (.cells #[.int .i64 be] 2)).alloc (.cells #[.int .i64 hi] 2)).cell? ⟨w.heap.size, 3, none⟩ = some (.int .u64 x.d) := HX3.out.cell 3
      have c4 : (((w2.alloc (.cells #[.int .i64 (z * 60)] 2)).alloc (.cells #[.int .i64 be] 2)).alloc (.cells #[.int .i64 hi] 2)).cell? ⟨w.heap.size, 4, none⟩ = some (.int .u64 x.mo) := HX3.out.cell 4
      have c5 : (((w2.alloc (.cells #[.int .i64 (z * 60)] 2)).alloc (.cells #[.int .i64 be] 2)).alloc (.cells #[.int .i64 hi] 2)).cell? ⟨w.heap.size, 5, none⟩ = some (.int .u64 x.w) := HX3.out.cell 5
      have c6 : (((w2.alloc (.cells #[.int .i64 (z * 60)] 2)).alloc (.cells #[.int .i64 be] 2)).alloc (.cells #[.int .i64 hi] 2)).cell? ⟨w.heap.size, 6, none⟩ = some (.bool x.ad) := HX3.out.cell 6
      have c7 : (((w2.alloc (.cells #[.int .i64 (z * 60)] 2)).alloc (.cells #[.int .i64 be] 2)).alloc (.cells #[.int .i64 hi] 2)).cell? ⟨w.heap.size, 7, none⟩ = some (.bool x.aw) := HX3.out.cell 7
      gi_wp2_with fail
      refine ⟨trivial, (callsIn_wide.2 (days_mk x ((hi : Int) / 86400) ((be : Int) / 86400) _)).mono ?_⟩
      rintro e w3 ⟨rfl, rfl⟩
      gi_wp2_with fail
      generalize (((((w2.alloc _).alloc _).alloc _).alloc _).alloc _).alloc _ = w3 at *
      clear c0 c1 c2 c3 c4 c5 c6 c7 ne1 ne2 ne3 HX3 wt wa d1 d2 d3 f1 f2 f3
      have HI3 : Hid (PvI x w (z * 60) be hi w2.heap.size 0 false w3) := Lib.hid ⟨HI2.out.steps (RK.Steps.of_below (own := fun _ => False) (B := w2.heap.size) hb0) (by omega), HX2.out.below hb0 HX2.out.lt, p0, p1, p2⟩
      have hw3 : w.heap.size ≤ w3.heap.size := by have := HS4.out; omega
      have hw4 : w.heap.size + 3 < w3.heap.size := by have := HS4.out; omega
      have hdiv := Nat.div_le_div_right (c := 86400) hbh
      have SQ : SeqL Fence.wide (3 - 1) Tryd.prog 55 #[.pointer (some ⟨w2.heap.size + 3, 0, none⟩), .pointer (some ⟨w2.heap.size + 3 + 1, 0, none⟩), .pointer (some ⟨w2.heap.size + 3 + 2, 0, none⟩)] (fun d : Nat => #[Value.int .i64 (d : Nat)]) (fun _ => False) (KeepS (KD (w2.heap.size + 3) (w2.heap.size + 3 + 1) (w2.heap.size + 3 + 2) (w3.heap.size + 2))) (daysL x (fun j => hi / 86400 - j) (hi / 86400 - be / 86400 + 1)) 1 w3 := by
        rcases Nat.lt_or_ge (be / 86400) (hi / 86400) with hc | hc
        · exact days_seq (3 - 1) x HX.out (fun j => hi / 86400 - j) (hi / 86400 - be / 86400) ((hi : Int) / 86400) ((be : Int) / 86400) (-1) (Lib.hid ⟨fun j hj => by omega, by omega, fun j hj => by omega, .inr ⟨rfl, by omega⟩⟩) (w2.heap.size + 3) (w2.heap.size + 3 + 1) (w2.heap.size + 3 + 2) w3 q0 q1 q2
        · exact days_seq (3 - 1) x HX.out (fun j => hi / 86400 - j) (hi / 86400 - be / 86400) ((hi : Int) / 86400) ((be : Int) / 86400) 1 (Lib.hid ⟨fun j hj => by omega, by omega, fun j hj => by omega, .inl ⟨rfl, by omega⟩⟩) (w2.heap.size + 3) (w2.heap.size + 3 + 1) (w2.heap.size + 3 + 2) w3 q0 q1 q2
      have EG := enters_of Tryd.func55 (by kernel_rfl) rfl
      refine' wpIn_rangeFunc_seqL rfl (by decide) (gf := 55) (lb := #[.pointer (some ⟨w2.heap.size + 3, 0, none⟩), .pointer (some ⟨w2.heap.size + 3 + 1, 0, none⟩), .pointer (some ⟨w2.heap.size + 3 + 2, 0, none⟩)]) ?hg trivial EG
        SQ (fun _ h => h.elim) (fun h k => h.trans k)
        (fun W o o' hl hc k hk => World.putObj_heap_other (by have := HS4.out; unfold KD at hk; omega))
        (fun _ => rfl) (fun (pre : List Nat) (W : World) => PvI x w (z * 60) be hi w2.heap.size 0 false W ∧ ∀ e ∈ pre, lst x (min 86399 (hi - e * 86400)) = none) (fun c _ W => (c = .ret ∧ ∃ v, pvV x z t = some v ∧ PvI x w (z * 60) be hi w2.heap.size v true W) ∨ (c = .exit 0 ∧ pvV x z t = none ∧ PvI x w (z * 60) be hi w2.heap.size 0 false W))
        (fun pre X Y h hs => ⟨h.1.steps hs hw3, h.2⟩) (fun c pre X Y h hs => h.elim (fun h => .inl ⟨h.1, h.2.elim fun v h => ⟨v, h.1, h.2.steps hs hw3⟩⟩) (fun h => .inr ⟨h.1, h.2.1, h.2.2.steps hs hw3⟩))
        ⟨HI3.out, fun e he => by cases he⟩ _ ?assign ?body ?done ?stop
      case hg => rfl
      case assign =>
        intro l d W K hK
        gi_wp2
        exact hK
      case body =>
        clear EG SQ q0 q1 q2 p0 p1 p2 hb0 hdiv hlb
        rintro l pre d W ⟨hi_, hno⟩ hpre hsz
        obtain ⟨m1, m2, m3, m4⟩ := back_clear hbh hpre hno
        have hd : d * 86400 ≤ hi := by omega
        obtain ⟨u, hu⟩ : ∃ u : Nat, u = min 86399 (hi - d * 86400) := ⟨_, rfl⟩
        have HU := Lib.hid hu
        have eu : min 86399 ((hi : Int) - (d : Int) * 86400) = (u : Int) := by omega
        have hu1 : u < 86400 := by omega
        have hdb : d ≤ 2932896 := by omega
        have CL := Lib.hid (last_ok x HX.out hok u hu1 W)
        have c0 : W.cell? ⟨w.heap.size, 0, none⟩ = some (.int .u64 x.s) := hi_.xb.cell 0
        have c1 : W.cell? ⟨w.heap.size, 1, none⟩ = some (.int .u64 x.mi) := hi_.xb.cell 1
        have c2 : W.cell? ⟨w.heap.size, 2, none⟩ = some (.int .u64 x.h) := hi_.xb.cell 2
        have c3 : W.cell? ⟨w.heap.size, 3, none⟩ = some (.int .u64 x.d) := hi_.xb.cell 3
        have c4 : W.cell? ⟨w.heap.size, 4, none⟩ = some (.int .u64 x.mo) := hi_.xb.cell 4
        have c5 : W.cell? ⟨w.heap.size, 5, none⟩ = some (.int .u64 x.w) := hi_.xb.cell 5
        have c6 : W.cell? ⟨w.heap.size, 6, none⟩ = some (.bool x.ad) := hi_.xb.cell 6
        have c7 : W.cell? ⟨w.heap.size, 7, none⟩ = some (.bool x.aw) := hi_.xb.cell 7
        have d1 : W.cell? ⟨w.heap.size + 1, 0, none⟩ = some (.int .i64 0) := hi_.nx.r0.cell 0
        have d2 : W.cell? ⟨w.heap.size + 2, 0, none⟩ = some (.bool false) := hi_.nx.r1.cell 0
        have d3 : W.cell? ⟨w.heap.size + 3, 0, none⟩ = some (.int .i64 0) := hi_.nx.r2.cell 0
        have f1 : W.frozen? ⟨w.heap.size + 1, 0, none⟩ = false := hi_.nx.r0.frozen 0
        have f2 : W.frozen? ⟨w.heap.size + 2, 0, none⟩ = false := hi_.nx.r1.frozen 0
        have f3 : W.frozen? ⟨w.heap.size + 3, 0, none⟩ = false := hi_.nx.r2.frozen 0
        have e1 : W.cell? ⟨w2.heap.size, 0, none⟩ = some (.int .i64 (z * 60)) := hi_.sh.cell 0
        have e2 : W.cell? ⟨w2.heap.size + 1, 0, none⟩ = some (.int .i64 be) := hi_.be.cell 0
        have e3 : W.cell? ⟨w2.heap.size + 2, 0, none⟩ = some (.int .i64 hi) := hi_.hi.cell 0
        have HI := Lib.hid hi_
        have HM := Lib.hid m3
        have HC := Lib.hid m4
        have HNO := Lib.hid hno
        have w3' : IntKind.i64.wrap ((d : Int) * 86400) = (d : Int) * 86400 := IntWalk.i64_in _ (by omega)
        have w4 : IntKind.i64.wrap ((hi : Int) - (d : Int) * 86400) = (hi : Int) - (d : Int) * 86400 := IntWalk.i64_in _ (by omega)
        clear hi_ hno m3 m4 hpre hu m1 m2
        cases hls : lst x u with
        | none =>
          have HLS := Lib.hid hls
          rw [hls] at CL
          unfold num at CL
          clear hls
          gi_wp2_with fail
          refine ⟨trivial, (callsIn_wide.2 CL.out).mono ?_⟩
          rintro e W5 ⟨rfl, hb⟩
          have HI5 := Lib.hid (HI.out.next hb)
          have HKF : Hid (KeepsFrom w3.heap.size W W5) := Lib.hid (keepsFrom_below hb)
          have HK5 : Hid (∀ k, KD (w2.heap.size + 3) (w2.heap.size + 3 + 1) (w2.heap.size + 3 + 2) (w3.heap.size + 2) k → W5.heap[k]? = W.heap[k]?) := Lib.hid (fun k hk => hb.block k (by have := HS4.out; unfold KD at hk; omega))
          clear hb c0 c1 c2 c3 c4 c5 c6 c7 d1 d2 d3 f1 f2 f3 e1 e2 e3
          gi_wp2_with fail
          refine ⟨HKF.out, HK5.out, HI5.out, fun e he => ?_⟩
          rcases List.mem_append.1 he with he | he
          · exact HNO.out e he
          · rw [List.mem_singleton] at he
            rw [he, ← HU.out]
            exact HLS.out
        | some s =>
          have hs9 := (lst_some.1 hls).1
          obtain ⟨g1, g2, g3⟩ := ClearB.found (d := d) HC.out hd HM.out (by rw [← HU.out]; exact hls)
          rw [hls] at CL
          unfold num at CL
          clear hls
          have w6 : IntKind.i64.wrap ((d : Int) * 86400 + s) = (d : Int) * 86400 + s := IntWalk.i64_in _ (by omega)
          have w7 : IntKind.i64.wrap ((d : Int) * 86400 + s - z * 60) = (d : Int) * 86400 + s - z * 60 := IntWalk.i64_in _ (by have := HZ.out; omega)
          by_cases hov : be ≤ d * 86400 + s
          · have HV : Hid (pvV x z t = some ((d : Int) * 86400 + s - z * 60)) := Lib.hid (by have := HF.out _ g2 hov g1 g3; rw [this]; congr 1)
            have ho : decide ((be : Int) ≤ (d : Int) * 86400 + s) = true := decide_eq_true (by omega)
            have ho' : decide (be ≤ d * 86400 + s) = true := decide_eq_true hov
            clear g1 g2 g3
            gi_wp2_with fail
            refine ⟨trivial, (callsIn_wide.2 CL.out).mono ?_⟩
            rintro e W5 ⟨rfl, hb⟩
            have HI5 := Lib.hid (HI.out.next hb)
            have HKF : Hid (KeepsFrom w3.heap.size W W5) := Lib.hid (keepsFrom_below hb)
            have HK5 : Hid (∀ k, KD (w2.heap.size + 3) (w2.heap.size + 3 + 1) (w2.heap.size + 3 + 2) (w3.heap.size + 2) k → W5.heap[k]? = W.heap[k]?) := Lib.hid (fun k hk => hb.block k (by have := HS4.out; unfold KD at hk; omega))
            clear hb c0 c1 c2 c3 c4 c5 c6 c7 d1 d2 d3 f1 f2 f3 e1 e2 e3
            have d1 : W5.cell? ⟨w.heap.size + 1, 0, none⟩ = some (.int .i64 0) := HI5.out.nx.r0.cell 0
            have d2 : W5.cell? ⟨w.heap.size + 2, 0, none⟩ = some (.bool false) := HI5.out.nx.r1.cell 0
            have d3 : W5.cell? ⟨w.heap.size + 3, 0, none⟩ = some (.int .i64 0) := HI5.out.nx.r2.cell 0
            have f1 : W5.frozen? ⟨w.heap.size + 1, 0, none⟩ = false := HI5.out.nx.r0.frozen 0
            have f2 : W5.frozen? ⟨w.heap.size + 2, 0, none⟩ = false := HI5.out.nx.r1.frozen 0
            have f3 : W5.frozen? ⟨w.heap.size + 3, 0, none⟩ = false := HI5.out.nx.r2.frozen 0
            have e1 : W5.cell? ⟨w2.heap.size, 0, none⟩ = some (.int .i64 (z * 60)) := HI5.out.sh.cell 0
            have e2 : W5.cell? ⟨w2.heap.size + 1, 0, none⟩ = some (.int .i64 be) := HI5.out.be.cell 0
            gi_wp2_with fail
            exact ⟨keepsFrom_set (keepsFrom_set (keepsFrom_set HKF.out (by omega) _) (by omega) _) (by omega) _, .inl ⟨rfl, _, HV.out, HI5.out.set hlt1 _ true⟩⟩
          · have HV : Hid (pvV x z t = none) := Lib.hid (HN.out fun l l1 l2 => g3 l (by omega) l2)
            have ho : decide ((be : Int) ≤ (d : Int) * 86400 + s) = false := decide_eq_false (by omega)
            have ho' : decide (be ≤ d * 86400 + s) = false := decide_eq_false hov
            clear g1 g2 g3
            gi_wp2_with fail
            refine ⟨trivial, (callsIn_wide.2 CL.out).mono ?_⟩
            rintro e W5 ⟨rfl, hb⟩
            have HI5 := Lib.hid (HI.out.next hb)
            have HKF : Hid (KeepsFrom w3.heap.size W W5) := Lib.hid (keepsFrom_below hb)
            have HK5 : Hid (∀ k, KD (w2.heap.size + 3) (w2.heap.size + 3 + 1) (w2.heap.size + 3 + 2) (w3.heap.size + 2) k → W5.heap[k]? = W.heap[k]?) := Lib.hid (fun k hk => hb.block k (by have := HS4.out; unfold KD at hk; omega))
            clear hb c0 c1 c2 c3 c4 c5 c6 c7 d1 d2 d3 f1 f2 f3 e1 e2 e3
            have e2 : W5.cell? ⟨w2.heap.size + 1, 0, none⟩ = some (.int .i64 be) := HI5.out.be.cell 0
            gi_wp2_with fail
            exact ⟨HKF.out, .inr ⟨rfl, HV.out, HI5.out⟩⟩
      case done =>
        clear EG SQ q0 q1 q2 p0 p1 p2 hb0
        rintro D W hD ⟨hi_, hno⟩ hK
        have HV : Hid (pvV x z t = none) := Lib.hid (HN.out fun l l1 l2 => back_none hbh hno l l1 l2)
        have d1 : W.cell? ⟨w.heap.size + 1, 0, none⟩ = some (.int .i64 0) := hi_.nx.r0.cell 0
        have d2 : W.cell? ⟨w.heap.size + 2, 0, none⟩ = some (.bool false) := hi_.nx.r1.cell 0
        have d3 : W.cell? ⟨w.heap.size + 3, 0, none⟩ = some (.int .i64 0) := hi_.nx.r2.cell 0
        have f1 : W.frozen? ⟨w.heap.size + 1, 0, none⟩ = false := hi_.nx.r0.frozen 0
        have f2 : W.frozen? ⟨w.heap.size + 2, 0, none⟩ = false := hi_.nx.r1.frozen 0
        have f3 : W.frozen? ⟨w.heap.size + 3, 0, none⟩ = false := hi_.nx.r2.frozen 0
        have HI := Lib.hid (hi_.nx.set 0 false)
        have HK := Lib.hid (heap_set (b := w.heap.size + 3) (i := 0) (heap_set (b := w.heap.size + 2) (i := 0) (heap_set (b := w.heap.size + 1) (i := 0) hK (by omega) (.int .i64 0)) (by omega) (.bool false)) (by omega) (.int .i64 0))
        clear hi_ hK hno
        gi_wp2_with fail
        refine ⟨by simp, .inl ⟨_, _, rfl, run_takeDeferred HK.out, ?_⟩⟩
        refine ⟨_, results_cell3 rfl _ _ ⟨w.heap.size + 1, 0, none⟩ ⟨w.heap.size + 2, 0, none⟩ ⟨w.heap.size + 3, 0, none⟩ _ _ _ rfl rfl rfl (run_loadVar_one LI.out _ _ _ _ (blk_put HI.out.r0 (by omega))) (run_loadVar_one LB.out _ _ _ _ (blk_put HI.out.r1 (by omega))) (run_loadVar_one LE.out _ _ _ _ (blk_put HI.out.r2 (by omega))), ?_⟩
        exact ⟨by rw [HV.out, HCZ.out]; rfl, below_put HI.out.below (by omega)⟩
      case stop =>
        clear EG SQ q0 q1 q2 p0 p1 p2 hb0
        rintro D c pre W hD hp (⟨rfl, v, hv, hi_⟩ | ⟨rfl, hv, hi_⟩) hK
        · have HV := Lib.hid hv
          have HI := Lib.hid hi_.nx
          have HK := Lib.hid hK
          clear hp hi_ hK hv
          gi_wp2_with fail
          refine ⟨by simp, .inl ⟨_, _, rfl, run_takeDeferred HK.out, ?_⟩⟩
          refine ⟨_, results_cell3 rfl _ _ ⟨w.heap.size + 1, 0, none⟩ ⟨w.heap.size + 2, 0, none⟩ ⟨w.heap.size + 3, 0, none⟩ _ _ _ rfl rfl rfl (run_loadVar_one LI.out _ _ _ _ (blk_put HI.out.r0 (by omega))) (run_loadVar_one LB.out _ _ _ _ (blk_put HI.out.r1 (by omega))) (run_loadVar_one LE.out _ _ _ _ (blk_put HI.out.r2 (by omega))), ?_⟩
          exact ⟨by rw [HV.out, HCZ.out]; rfl, below_put HI.out.below (by omega)⟩
        · have HV := Lib.hid hv
          have d1 : W.cell? ⟨w.heap.size + 1, 0, none⟩ = some (.int .i64 0) := hi_.nx.r0.cell 0
          have d2 : W.cell? ⟨w.heap.size + 2, 0, none⟩ = some (.bool false) := hi_.nx.r1.cell 0
          have d3 : W.cell? ⟨w.heap.size + 3, 0, none⟩ = some (.int .i64 0) := hi_.nx.r2.cell 0
          have f1 : W.frozen? ⟨w.heap.size + 1, 0, none⟩ = false := hi_.nx.r0.frozen 0
          have f2 : W.frozen? ⟨w.heap.size + 2, 0, none⟩ = false := hi_.nx.r1.frozen 0
          have f3 : W.frozen? ⟨w.heap.size + 3, 0, none⟩ = false := hi_.nx.r2.frozen 0
          have HI := Lib.hid (hi_.nx.set 0 false)
          have HK := Lib.hid (heap_set (b := w.heap.size + 3) (i := 0) (heap_set (b := w.heap.size + 2) (i := 0) (heap_set (b := w.heap.size + 1) (i := 0) hK (by omega) (.int .i64 0)) (by omega) (.bool false)) (by omega) (.int .i64 0))
          clear hp hi_ hK hv
          gi_wp2_with fail
          refine ⟨by simp, .inl ⟨_, _, rfl, run_takeDeferred HK.out, ?_⟩⟩
          refine ⟨_, results_cell3 rfl _ _ ⟨w.heap.size + 1, 0, none⟩ ⟨w.heap.size + 2, 0, none⟩ ⟨w.heap.size + 3, 0, none⟩ _ _ _ rfl rfl rfl (run_loadVar_one LI.out _ _ _ _ (blk_put HI.out.r0 (by omega))) (run_loadVar_one LB.out _ _ _ _ (blk_put HI.out.r1 (by omega))) (run_loadVar_one LE.out _ _ _ _ (blk_put HI.out.r2 (by omega))), ?_⟩
          exact ⟨by rw [HV.out, HCZ.out]; rfl, below_put HI.out.below (by omega)⟩
  · have HV : Hid (pvV x z t = none) := Lib.hid (pvV_bad hcz)
    obtain ⟨c, hc⟩ : ∃ c, c = chk x z [t] := ⟨_, rfl⟩
    have HC := Lib.hid hc
    rw [← hc] at hcz
    have hc2 := hc.symm
    clear hc
    have HR0 := Lib.hid (((HI2.out.r0.set_ 0 (.int .i64 0)).far (p := ⟨w.heap.size + 2, 0, none⟩) (by simp) (.bool false)).far (p := ⟨w.heap.size + 3, 0, none⟩) (by simp) (.int .i64 c))
    have HR1 := Lib.hid (((HI2.out.r1.far (p := ⟨w.heap.size + 1, 0, none⟩) (by simp) (.int .i64 0)).set_ 0 (.bool false)).far (p := ⟨w.heap.size + 3, 0, none⟩) (by simp) (.int .i64 c))
    have HR2 := Lib.hid (((HI2.out.r2.far (p := ⟨w.heap.size + 1, 0, none⟩) (by simp) (.int .i64 0)).far (p := ⟨w.heap.size + 2, 0, none⟩) (by simp) (.bool false)).set_ 0 (.int .i64 c))
    have HB := Lib.hid (((HI2.out.below.setCell (p := ⟨w.heap.size + 1, 0, none⟩) (by simp) (.int .i64 0)).setCell (p := ⟨w.heap.size + 2, 0, none⟩) (by simp) (.bool false)).setCell (p := ⟨w.heap.size + 3, 0, none⟩) (by simp) (.int .i64 c))
    have hcz2 : (c == 0) = false := by rw [beq_eq_false_iff_ne]; exact hcz
    gi_wp2_with fail
    refine ⟨_, results_cell3 rfl _ _ ⟨w.heap.size + 1, 0, none⟩ ⟨w.heap.size + 2, 0, none⟩ ⟨w.heap.size + 3, 0, none⟩ _ _ _ rfl rfl rfl (run_loadVar_one LI.out _ _ _ _ HR0.out) (run_loadVar_one LB.out _ _ _ _ HR1.out) (run_loadVar_one LE.out _ _ _ _ HR2.out), ?_⟩
    exact ⟨by rw [HV.out, ← HC.out]; rfl, HB.out⟩
end Go.Proofs.YtepoegcpfhjlpaaDoor.BW
