/- Contract of match.Count. -/
import Derived.Test.YtihadbkjfocdoaaGreatDoorMatY
import Derived.Test.YtihadbkjfocdoaaGreatDoorMChk
import Derived.Test.YtihadbkjfocdoaaGreatDoorMatU
import Derived.Test.YtihadbkjfocdoaaGreatDoorMSeq
namespace Go.Proofs.YtihadbkjfocdoaaGreatDoor.BW
open Go.RowKit BM Go.Shelf MC RK
open BK hiding ret_bool ret_i64

attribute [local go_sem] Oper.semAt_some

theorem ct_step {x : Ex} {lo hi n d : Nat} {pre : List Nat} (h : (pre ++ [d]) <+: dUp x (lo / 86400) n) (hlh : lo ≤ hi) (hd : d * 86400 ≤ hi) :
    cnt (T x) (min ((d + 1) * 86400) (hi + 1)) + cnt (clk x) (lo - d * 86400) = cnt (T x) (min (cOf lo pre) (hi + 1)) + cnt (clk x) (min 86399 (hi - d * 86400) + 1) := by
  have hc := cOf_le h
  obtain ⟨m1, m2, m3⟩ := dUp_mem (h.subset (show d ∈ pre ++ [d] by simp))
  have k0 : cnt (T x) (max lo (d * 86400)) = cnt (T x) (cOf lo pre) := cnt_cut _ _ _ hc.1 (fun l h1 h2 => by
    rcases Nat.lt_or_ge l (d * 86400) with h3 | h3
    · exact days_gap h h1 h3
    · omega)
  have e0 : max lo (d * 86400) = d * 86400 + (lo - d * 86400) := by omega
  have e1 : min (cOf lo pre) (hi + 1) = cOf lo pre := by omega
  have e2 : min ((d + 1) * 86400) (hi + 1) = d * 86400 + (min 86399 (hi - d * 86400) + 1) := by omega
  rw [e1, ← k0, e0, e2, cnt_T_day _ _ _ (by omega), cnt_T_day _ _ _ (by omega), m3]
  simp only [if_true]
  omega
/-- How many times of a span are matched. -/
noncomputable def ctV (x : Ex) (lo hi : Nat) : Nat := cnt (T x) (hi + 1) - cnt (T x) lo
noncomputable def ctR (x : Ex) (z a b : Int) : Nat := if chk x z [a, b] = 0 ∧ ¬ hiI z b < loI z a then ctV x (loI z a).toNat (hiI z b).toNat else 0
structure CtI (x : Ex) (w : World) (lo hi sum : Int) (q : Nat) (W : World) : Prop where
  xb : Blk W w.heap.size 47 (exV x)
  lo : Blk W q 2 #[.int .i64 lo]
  hi : Blk W (q + 1) 2 #[.int .i64 hi]
  sm : Blk W (q + 2) 2 #[.int .i64 sum]
  below : Below w.heap.size w W
theorem CtI.steps {x : Ex} {w : World} {lo hi sum : Int} {q C : Nat} {X Y : World} (h : CtI x w lo hi sum q X) (hs : RK.Steps (fun _ => False) C X Y) (hC : w.heap.size ≤ C) : CtI x w lo hi sum q Y :=
  ⟨steps_blk hs h.xb (fun h => h), steps_blk hs h.lo (fun h => h), steps_blk hs h.hi (fun h => h), steps_blk hs h.sm (fun h => h), below_steps h.below hs hC (Nat.le_refl _)⟩
theorem CtI.set {x : Ex} {w : World} {lo hi sum : Int} {q : Nat} {W : World} (h : CtI x w lo hi sum q W) (hq : w.heap.size < q) (u : Int) : CtI x w lo hi u q (W.setCell ⟨q + 2, 0, none⟩ (.int .i64 u)) :=
  ⟨h.xb.far (by simp; omega) _, h.lo.far (by simp) _, h.hi.far (by simp) _, h.sm.set_ 0 _, h.below.setCell (by simp; omega) _⟩
theorem upR_nat (x : Ex) (t : Nat) : upR x (t : Int) = cnt (clk x) (t + 1) := by unfold upR; rw [if_neg (by omega)]; simp
theorem upR_pred (x : Ex) (f : Nat) : upR x ((f : Int) - 1) = cnt (clk x) f := by
  unfold upR
  rcases f with _ | f
  · rfl
  · rw [if_neg (by omega)]; congr 1; omega

set_option maxRecDepth 8000 in
set_option maxHeartbeats 4000000 in
theorem pcount_ok (x : Ex) (hx : U64s x) (z a b : Int) (w : World) (hT : SpTab w) : Calls Tryz.prog 74 #[.agg (exV x), .int .i64 z, .int .i64 a, .int .i64 b] w fun e w' =>
    e = .returned (.tuple #[.int .i64 (ctR x z a b : Nat), .int .i64 (chk x z [a, b])]) ∧ Below w.heap.size w w' := by
  refine callsIn_wide (n := 3).1 ?_
  have HX := Lib.hid hx
  obtain ⟨W1, hW1⟩ : ∃ W1, W1 = (w.alloc (.cells (exV x) 47)).alloc (.cells #[.int .i64 a, .int .i64 b] 2) := ⟨_, rfl⟩
  have hbx : Blk W1 w.heap.size 47 (exV x) := by rw [hW1]; exact (Blk.new w _ _).alloc _
  have hts : Blk W1 (w.heap.size + 1) 2 #[.int .i64 a, .int .i64 b] := by rw [hW1]; exact Blk.newAt (by simp)
  have hB1 : Below w.heap.size w W1 := by rw [hW1]; exact ((Below.refl _ w).alloc (Nat.le_refl _) _).alloc (by simp) _
  have CK := Lib.hid (pcheck_ok x hx z [a, b] (w.heap.size + 1) 2 2 rfl (by decide) W1 (hT.below hB1) (fun k hk => by
    have : k = 0 ∨ k = 1 := by have : k < 2 := hk; omega
    rcases this with rfl | rfl
    · exact hts.cell 0
    · exact hts.cell 1))
  have HW1 := Lib.hid hW1
  rw [hW1] at CK
  clear hW1 hT hx
  refine callsIn_of_wp_marks Tryz.func74 rfl trivial ?_ rfl
  simp only [Tryz.ntmps74, List.size_toArray, List.length_cons, List.length_nil, Nat.reduceAdd, Nat.reduceSub, Array.replicate_succ, Array.replicate_zero, List.push_toArray, List.append_toArray, List.nil_append, List.cons_append]
  have e0 : exV x = #[.int .u64 x.s, .int .u64 x.mi, .int .u64 x.h, .int .u64 x.d, .int .u64 x.mo, .int .u64 x.w, .bool x.ad, .bool x.aw] := rfl
  rw [e0]
  clear e0
  unfold exV at CK
  gi_wp2_with fail
  refine ⟨trivial, (callsIn_wide.2 CK.out).mono ?_⟩
  rintro e w2 ⟨rfl, hb⟩
  have hb : Below W1.heap.size W1 w2 := by rw [HW1.out]; exact hb
  have hx2 := hbx.below hb hbx.lt
  have HB2 := Lib.hid (hB1.trans (hb.mono hB1.size))
  have HX2 := Lib.hid hx2
  have hl2 := hx2.lt
  clear hb hbx hB1 CK HW1 hts hx2
  have HCR : Hid (ctR x z a b = if chk x z [a, b] = 0 ∧ ¬ hiI z b < loI z a then ctV x (loI z a).toNat (hiI z b).toNat else 0) := Lib.hid rfl
  by_cases hcz : chk x z [a, b] = 0
  · obtain ⟨o1, o2, o3⟩ := chk_zero hcz
    have hok := ok_of_ck o1
    have ha := o3 a (by simp)
    have hbd := o3 b (by simp)
    have HCZ := Lib.hid hcz
    clear o1 o3
    have wa : IntKind.i64.wrap (a + z * 60) = a + z * 60 := IntWalk.i64_in _ (by omega)
    have wb : IntKind.i64.wrap (b + z * 60) = b + z * 60 := IntWalk.i64_in _ (by omega)
    gi_wp2_with fail
    refine ⟨trivial, (callsIn_wide.2 (local_ok z o2 _)).mono ?_⟩
    rintro e w3 ⟨rfl, rfl⟩
    by_cases hlt : hiI z b < loI z a
    · have HE : Hid (ctR x z a b = 0) := Lib.hid (by rw [HCR.out, if_neg (fun h => absurd hlt (by have := h.2; omega))])
      have hlt2 : min (b + z * 60) (min 253402300799 (253402300799 + z * 60)) < max (a + z * 60) (max 0 (z * 60)) := hlt
      clear hlt
      gi_wp2_with fail
      refine ⟨_, results_tmp2 rfl _ _ _, ?_⟩
      exact ⟨by rw [HCZ.out, HE.out]; rfl, ((HB2.out.alloc HB2.out.size _).alloc (by have := HB2.out.size; simp; omega) _).alloc (by have := HB2.out.size; simp; omega) _⟩
    · have hlo0 : 0 ≤ loI z a := by unfold loI; omega
      have hlo1 : loI z a ≤ 253402400000 := by unfold loI; omega
      have hhi1 : hiI z b ≤ 253402300799 := by unfold hiI; omega
      obtain ⟨lo, hlo⟩ := Int.eq_ofNat_of_zero_le hlo0
      obtain ⟨hi, hhi⟩ := Int.eq_ofNat_of_zero_le (show 0 ≤ hiI z b by omega)
      have hlh : lo ≤ hi := by omega
      have hhi2 : hi ≤ 253402300799 := by omega
      have HE : Hid (ctR x z a b = ctV x lo hi) := Lib.hid (by rw [HCR.out, if_pos ⟨hcz, by omega⟩, hlo, hhi, Int.toNat_natCast, Int.toNat_natCast])
      have rlo : max (a + z * 60) (max 0 (z * 60)) = (lo : Int) := hlo
      have rhi : min (b + z * 60) (min 253402300799 (253402300799 + z * 60)) = (hi : Int) := hhi
      have hdec : decide ((hi : Int) < (lo : Int)) = false := decide_eq_false (by omega)
      clear hlo hhi hlo0 hlo1 hhi1 hlt HCR ha hbd
      have hb0 : Below w2.heap.size w2 ((((((w2.alloc (.cells #[.int .i64 lo] 2)).alloc (.cells #[.int .i64 hi] 2)).alloc (.cells #[.int .i64 0] 2)).alloc (.cells (exV x) 47)).alloc (.cells #[.int .i64 ((lo : Int) / 86400)] 2)).alloc (.cells #[.int .i64 ((hi : Int) / 86400)] 2)) := ((((((Below.refl _ w2).alloc (Nat.le_refl _) _).alloc (by simp) _).alloc (by simp; omega) _).alloc (by simp; omega) _).alloc (by simp; omega) _).alloc (by simp; omega) _
      have p0 : Blk ((((((w2.alloc (.cells #[.int .i64 lo] 2)).alloc (.cells #[.int .i64 hi] 2)).alloc (.cells #[.int .i64 0] 2)).alloc (.cells (exV x) 47)).alloc (.cells #[.int .i64 ((lo : Int) / 86400)] 2)).alloc (.cells #[.int .i64 ((hi : Int) / 86400)] 2)) w2.heap.size 2 #[.int .i64 lo] := (((((Blk.new w2 _ _).alloc _).alloc _).alloc _).alloc _).alloc _
      have p1 : Blk ((((((w2.alloc (.cells #[.int .i64 lo] 2)).alloc (.cells #[.int .i64 hi] 2)).alloc (.cells #[.int .i64 0] 2)).alloc (.cells (exV x) 47)).alloc (.cells #[.int .i64 ((lo : Int) / 86400)] 2)).alloc (.cells #[.int .i64 ((hi : Int) / 86400)] 2)) (w2.heap.size + 1) 2 #[.int .i64 hi] := ((((Blk.newAt (by simp)).alloc _).alloc _).alloc _).alloc _
      have p2 : Blk ((((((w2.alloc (.cells #[.int .i64 lo] 2)).alloc (.cells #[.int .i64 hi] 2)).alloc (.cells #[.int .i64 0] 2)).alloc (.cells (exV x) 47)).alloc (.cells #[.int .i64 ((lo : Int) / 86400)] 2)).alloc (.cells #[.int .i64 ((hi : Int) / 86400)] 2)) (w2.heap.size + 2) 2 #[.int .i64 0] := (((Blk.newAt (by simp)).alloc _).alloc _).alloc _
      have q0 : Blk ((((((w2.alloc (.cells #[.int .i64 lo] 2)).alloc (.cells #[.int .i64 hi] 2)).alloc (.cells #[.int .i64 0] 2)).alloc (.cells (exV x) 47)).alloc (.cells #[.int .i64 ((lo : Int) / 86400)] 2)).alloc (.cells #[.int .i64 ((hi : Int) / 86400)] 2)) (w2.heap.size + 3) 47 (exV x) := ((Blk.newAt (by simp)).alloc _).alloc _
      have q1 : Blk ((((((w2.alloc (.cells #[.int .i64 lo] 2)).alloc (.cells #[.int .i64 hi] 2)).alloc (.cells #[.int .i64 0] 2)).alloc (.cells (exV x) 47)).alloc (.cells #[.int .i64 ((lo : Int) / 86400)] 2)).alloc (.cells #[.int .i64 ((hi : Int) / 86400)] 2)) (w2.heap.size + 3 + 1) 2 #[.int .i64 ((lo : Int) / 86400)] := (Blk.newAt (by simp)).alloc _
      have q2 : Blk ((((((w2.alloc (.cells #[.int .i64 lo] 2)).alloc (.cells #[.int .i64 hi] 2)).alloc (.cells #[.int .i64 0] 2)).alloc (.cells (exV x) 47)).alloc (.cells #[.int .i64 ((lo : Int) / 86400)] 2)).alloc (.cells #[.int .i64 ((hi : Int) / 86400)] 2)) (w2.heap.size + 3 + 2) 2 #[.int .i64 ((hi : Int) / 86400)] := Blk.newAt (by simp)
      have hs4 : ((((((w2.alloc (.cells #[.int .i64 lo] 2)).alloc (.cells #[.int .i64 hi] 2)).alloc (.cells #[.int .i64 0] 2)).alloc (.cells (exV x) 47)).alloc (.cells #[.int .i64 ((lo : Int) / 86400)] 2)).alloc (.cells #[.int .i64 ((hi : Int) / 86400)] 2)).heap.size = w2.heap.size + 6 := by simp
      have HS4 := Lib.hid hs4
      clear hs4
      have HX3 := Lib.hid (((HX2.out.alloc (.cells #[.int .i64 lo] 2)).alloc (.cells #[.int .i64 hi] 2)).alloc (.cells #[.int .i64 0] 2))
      have c0 : (((w2.alloc (.cells #[.int .i64 lo] 2)).alloc (.cells #[.int .i64 hi] 2)).alloc (.cells #[.int .i64 0] 2)).cell? ⟨w.heap.size, 0, none⟩ = some (.int .u64 x.s) := HX3.out.cell 0
      have c1 : (((w2.alloc (.cells #[.int .i64 lo] 2)).alloc (.cells #[.int .i64 hi] 2)).alloc (.cells #[.int .i64 0] 2)).cell? ⟨w.heap.size, 1, none⟩ = some (.int .u64 x.mi) := HX3.out.cell 1
      have c2 : (((w2.alloc (.cells #[.int .i64 lo] 2)).alloc (.cells #[.int .i64 hi] 2)).alloc (.cells #[.int .i64 0] 2)).cell? ⟨w.heap.size, 2, none⟩ = some (.int .u64 x.h) := HX3.out.cell 2
      have c3 : (((w2.alloc (.cells #[.int .i64 lo] 2)).alloc (.cells #[.int .i64 hi] 2)).alloc (.cells #[.int .i64 0] 2)).cell? ⟨w.heap.size, 3, none⟩ = some (.int .u64 x.d) := HX3.out.cell 3
      have c4 : (((w2.alloc (.cells #[.int .i64 lo] 2)).alloc (.cells #[.int .i64 hi] 2)).alloc (.cells #[.int .i64 0] 2)).cell? ⟨w.heap.size, 4, none⟩ = some (.int .u64 x.mo) := HX3.out.cell 4
      have c5 : (((w2.alloc (.cells #[.int .i64 lo] 2)).alloc (.cells #[.int .i64 hi] 2)).alloc (.cells #[.int .i64 0] 2)).cell? ⟨w.heap.size, 5, none⟩ = some (.int .u64 x.w) := HX3.out.cell 5
      have c6 : (((w2.alloc (.cells #[.int .i64 lo] 2)).alloc (.cells #[.int .i64 hi] 2)).alloc (.cells #[.int .i64 0] 2)).cell? ⟨w.heap.size, 6, none⟩ = some (.bool x.ad) := HX3.out.cell 6
      have c7 : (((w2.alloc (.cells #[.int .i64 lo] 2)).alloc (.cells #[.int .i64 hi] 2)).alloc (.cells #[.int .i64 0] 2)).cell? ⟨w.heap.size, 7, none⟩ = some (.bool x.aw) := HX3.out.cell 7
      have ne0 : ¬ w.heap.size = w2.heap.size := by omega
      have ne1 : ¬ w.heap.size = w2.heap.size + 1 := by omega
      have ne2 : ¬ w.heap.size = w2.heap.size + 2 := by omega
      have ne3 : ¬ w.heap.size = w2.heap.size + 1 + 1 := by omega
      gi_wp2_with fail
      refine ⟨trivial, (callsIn_wide.2 (days_mk x ((lo : Int) / 86400) ((hi : Int) / 86400) _)).mono ?_⟩
      rintro e w3 ⟨rfl, rfl⟩
      gi_wp2_with fail
      generalize (((((w2.alloc _).alloc _).alloc _).alloc _).alloc _).alloc _ = w3 at *
      clear c0 c1 c2 c3 c4 c5 c6 c7 ne0 ne1 ne2 ne3 rlo rhi wa wb HX3
      have HI3 : Hid (CtI x w lo hi (0 : Nat) w2.heap.size w3) := Lib.hid ⟨HX2.out.below hb0 HX2.out.lt, p0, p1, p2, HB2.out.trans (hb0.mono HB2.out.size)⟩
      have hw3 : w.heap.size ≤ w3.heap.size := by have := HS4.out; omega
      have HW : Hid (Walk (fun j => lo / 86400 + j) (hi / 86400 - lo / 86400) ((lo : Int) / 86400) ((hi : Int) / 86400) 1) := Lib.hid ⟨fun j hj => by have := Nat.div_le_div_right (c := 86400) hlh; omega, by have := Nat.div_le_div_right (c := 86400) hlh; omega, fun j hj => by omega, .inl ⟨rfl, by have := Nat.div_le_div_right (c := 86400) hlh; omega⟩⟩
      have HNN : Hid (hi / 86400 - lo / 86400 + 1 = hi / 86400 + 1 - lo / 86400) := Lib.hid (by have := Nat.div_le_div_right (c := 86400) hlh; omega)
      have SQ := days_seq (3 - 1) x HX.out (fun j => lo / 86400 + j) (hi / 86400 - lo / 86400) ((lo : Int) / 86400) ((hi : Int) / 86400) 1 HW (w2.heap.size + 3) (w2.heap.size + 3 + 1) (w2.heap.size + 3 + 2) w3 q0 q1 q2
      have EG := enters_of Tryz.func109 (by kernel_rfl) rfl
      refine' wpIn_rangeFunc_seqL rfl (by decide) (gf := 109) (lb := #[.pointer (some ⟨w2.heap.size + 3, 0, none⟩), .pointer (some ⟨w2.heap.size + 3 + 1, 0, none⟩), .pointer (some ⟨w2.heap.size + 3 + 2, 0, none⟩)]) ?hg trivial EG
        SQ (fun _ h => h.elim) (fun h k => h.trans k)
        (fun W o o' hl hc k hk => World.putObj_heap_other (by have := HS4.out; unfold KD at hk; omega))
        (fun _ => rfl) (fun (pre : List Nat) (W : World) => ∃ S : Nat, CtI x w lo hi S w2.heap.size W ∧ S + cnt (T x) lo = cnt (T x) (min (cOf lo pre) (hi + 1))) (fun _ _ _ => False)
        (fun pre X Y h hs => by obtain ⟨S, h1, h2⟩ := h; exact ⟨S, h1.steps hs hw3, h2⟩) (fun _ _ _ _ h _ => h)
        ⟨0, HI3.out, by rw [cOf_nil, Nat.min_eq_left (by omega)]; omega⟩ _ ?assign ?body ?done ?stop
      case hg => rfl
      case assign =>
        intro l d W K hK
        gi_wp2
        exact hK
      case body =>
        clear EG SQ q0 q1 q2 p0 p1 p2 hb0
        rintro l pre d W ⟨S, hi_, hS⟩ hpre hsz
        rw [HNN.out, daysL_up] at hpre
        obtain ⟨m1, m2, m3⟩ := dUp_mem (hpre.subset (show d ∈ pre ++ [d] by simp))
        have hd : d * 86400 ≤ hi := by omega
        have CS := ct_step hpre hlh hd
        have hSle := cnt_le (T x) (min (cOf lo pre) (hi + 1))
        have hmo : cnt (clk x) (lo - d * 86400) ≤ cnt (clk x) (min 86399 (hi - d * 86400) + 1) := cnt_mono _ (by omega)
        have hcl := cnt_le (clk x) (min 86399 (hi - d * 86400) + 1)
        obtain ⟨u, hu⟩ : ∃ u : Nat, u = min 86399 (hi - d * 86400) := ⟨_, rfl⟩
        obtain ⟨f, hf⟩ : ∃ f : Nat, f = lo - d * 86400 := ⟨_, rfl⟩
        rw [← hu] at CS hmo hcl
        rw [← hf] at CS hmo
        have eu : min 86399 ((hi : Int) - (d : Int) * 86400) = (u : Int) := by omega
        have ef : max 0 ((lo : Int) - (d : Int) * 86400) = (f : Int) := by omega
        have hu1 : u < 86400 := by omega
        have hf1 : f < 86400 := by omega
        have hdb : d ≤ 2932896 := by omega
        have C1 := Lib.hid (fun W => upto_ok x HX.out hok (u : Int) (by omega) (by omega) W)
        have C2 := Lib.hid (fun W => upto_ok x HX.out hok ((f : Int) - 1) (by omega) (by omega) W)
        rw [upR_nat] at C1
        rw [upR_pred] at C2
        have HCS := Lib.hid CS
        have HS := Lib.hid hS
        have HSle : Hid (S ≤ 253402300800) := Lib.hid (by omega)
        clear hpre m1 m2 m3 hd CS hS hSle hu hf
        generalize cnt (clk x) (u + 1) = U1 at *
        generalize cnt (clk x) f = U2 at *
        have w1 : IntKind.i64.wrap ((U1 : Int) - (U2 : Int)) = (U1 : Int) - (U2 : Int) := IntWalk.i64_in _ (by omega)
        have w2' : IntKind.i64.wrap ((S : Int) + ((U1 : Int) - (U2 : Int))) = (S : Int) + ((U1 : Int) - (U2 : Int)) := IntWalk.i64_in _ (by have := HSle.out; omega)
        have w3' : IntKind.i64.wrap ((d : Int) * 86400) = (d : Int) * 86400 := IntWalk.i64_in _ (by omega)
        have w4 : IntKind.i64.wrap ((hi : Int) - (d : Int) * 86400) = (hi : Int) - (d : Int) * 86400 := IntWalk.i64_in _ (by omega)
        have w5 : IntKind.i64.wrap ((lo : Int) - (d : Int) * 86400) = (lo : Int) - (d : Int) * 86400 := IntWalk.i64_in _ (by omega)
        have w6 : IntKind.i64.wrap ((f : Int) - 1) = (f : Int) - 1 := IntWalk.i64_in _ (by omega)
        have k0 := cell_regrown (show W.cell? ⟨w.heap.size, 0, none⟩ = some (.int .u64 x.s) from hi_.xb.cell 0)
        have k1 := cell_regrown (show W.cell? ⟨w.heap.size, 1, none⟩ = some (.int .u64 x.mi) from hi_.xb.cell 1)
        have k2 := cell_regrown (show W.cell? ⟨w.heap.size, 2, none⟩ = some (.int .u64 x.h) from hi_.xb.cell 2)
        have k3 := cell_regrown (show W.cell? ⟨w.heap.size, 3, none⟩ = some (.int .u64 x.d) from hi_.xb.cell 3)
        have k4 := cell_regrown (show W.cell? ⟨w.heap.size, 4, none⟩ = some (.int .u64 x.mo) from hi_.xb.cell 4)
        have k5 := cell_regrown (show W.cell? ⟨w.heap.size, 5, none⟩ = some (.int .u64 x.w) from hi_.xb.cell 5)
        have k6 := cell_regrown (show W.cell? ⟨w.heap.size, 6, none⟩ = some (.bool x.ad) from hi_.xb.cell 6)
        have k7 := cell_regrown (show W.cell? ⟨w.heap.size, 7, none⟩ = some (.bool x.aw) from hi_.xb.cell 7)
        have kl := cell_regrown (show W.cell? ⟨w2.heap.size, 0, none⟩ = some (.int .i64 lo) from hi_.lo.cell 0)
        have kh := cell_regrown (show W.cell? ⟨w2.heap.size + 1, 0, none⟩ = some (.int .i64 hi) from hi_.hi.cell 0)
        have ks := cell_regrown (show W.cell? ⟨w2.heap.size + 2, 0, none⟩ = some (.int .i64 S) from hi_.sm.cell 0)
        unfold exV at C1 C2
        have D1 := Lib.hid (fun d' os => Calls.regrown_of (C1.out (Sort.grow (redrawn W d') os)))
        have D2 := Lib.hid (fun d' os => Calls.regrown_of (C2.out (Sort.grow (redrawn W d') os)))
        have HI := Lib.hid hi_
        clear C1 C2 hi_
        gi_wp2_with fail
        refine RK.wpIn_region_tail2 _ 18 _ (by rfl) (by kernel_rfl) (by kernel_rfl) (by kernel_rfl) ?_
        dsimp only [List.take_succ_cons, List.take_zero]
        repeat (go_big_quiet_step (fail))
        go_big_quiet_step ((go_at_call 97; exact D1.out _ _))
        repeat (go_big_quiet_step (fail))
        go_big_quiet_step ((go_at_call 97; exact D2.out _ _))
        repeat (go_big_quiet_step (fail))
        refine wpQuiet_nil ?_
        intro _ hw'
        obtain ⟨⟨dq, osq⟩, hw''⟩ := hw'
        subst hw''
        have hbg := below_regrown W dq osq
        have ks' := ks dq osq
        have HIg := Lib.hid (HI.out.steps (RK.Steps.of_below (own := fun _ => False) (B := w.heap.size) hbg) (Nat.le_refl _))
        have hfr : (Sort.grow (redrawn W dq) osq).frozen? ⟨w2.heap.size + 2, 0, none⟩ = false := HIg.out.sm.frozen 0
        have HBG := Lib.hid hbg
        clear hbg k0 k1 k2 k3 k4 k5 k6 k7 kl kh ks
        generalize Sort.grow (redrawn W dq) osq = Wg at *
        gi_wp2_with fail
        have hsm := hmo
        refine ⟨keepsFrom_set (keepsFrom_below HBG.out) (by have := HS4.out; omega) _, fun k hk => ?_, S + U1 - U2, ?_, ?_⟩
        · have hk2 : k ≠ w2.heap.size + 2 := by have := HS4.out; unfold KD at hk; omega
          rw [Below.heap_setCell _ _ _ _ (by simpa using hk2)]
          exact HBG.out.block k (by have := HS4.out; unfold KD at hk; omega)
        · have e : ((S + U1 - U2 : Nat) : Int) = (S : Int) + ((U1 : Int) - (U2 : Int)) := by omega
          rw [e]
          exact HIg.out.set hl2 _
        · rw [cOf_snoc]
          have h1 := HCS.out
          have h2 := HS.out
          omega
      case done =>
        clear EG SQ q0 q1 q2 p0 p1 p2 hb0
        rintro D W hD ⟨S, hi_, hS⟩ hK
        have HV : Hid (S = ctV x lo hi) := Lib.hid (by
          rw [HNN.out, daysL_up] at hS
          unfold ctV
          have hge := cOf_ge x lo (hi / 86400 + 1 - lo / 86400)
          have : cnt (T x) (hi + 1) = cnt (T x) (min (cOf lo (dUp x (lo / 86400) (hi / 86400 + 1 - lo / 86400))) (hi + 1)) := cnt_cut _ _ _ (Nat.min_le_right _ _) (fun l h1 h2 => days_end (lo := lo) (hi := hi) (by omega) (by omega) (by omega))
          omega)
        have hc : W.cell? ⟨w2.heap.size + 2, 0, none⟩ = some (.int .i64 S) := hi_.sm.cell 0
        have HI := Lib.hid hi_
        have HK := Lib.hid hK
        clear hi_ hK hS
        gi_wp2_with fail
        refine ⟨by simp, .inl ⟨_, _, rfl, run_takeDeferred HK.out, ?_⟩⟩
        refine ⟨_, results_tmp2 rfl _ _ _, ?_⟩
        exact ⟨by rw [HE.out, HCZ.out, ← HV.out]; rfl, below_put HI.out.below (by omega)⟩
      case stop =>
        rintro D c pre W _ _ h _
        exact h.elim
  · have HE : Hid (ctR x z a b = 0) := Lib.hid (by rw [HCR.out, if_neg (fun h => hcz h.1)])
    obtain ⟨c, hc⟩ : ∃ c, c = chk x z [a, b] := ⟨_, rfl⟩
    have HC := Lib.hid hc
    rw [← hc] at hcz
    have hc2 := hc.symm
    clear hc
    have hcz2 : (c == 0) = false := by rw [beq_eq_false_iff_ne]; exact hcz
    gi_wp2_with fail
    refine ⟨_, results_tmp2 rfl _ _ _, ?_⟩
    exact ⟨by rw [HE.out, ← HC.out]; rfl, HB2.out⟩
end Go.Proofs.YtihadbkjfocdoaaGreatDoor.BW
