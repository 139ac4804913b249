/- Contract of match.List. -/
import Derived.Test.YtepoegcpfhjlpaaDoorMNext
import Derived.Test.YtepoegcpfhjlpaaDoorMBits
import Derived.Maps.AppendAt
namespace Go.Proofs.YtepoegcpfhjlpaaDoor.BW
open Go.RowKit BM Go.Shelf MC RK
open BK hiding ret_bool ret_i64

attribute [local go_sem] Oper.semAt_some

theorem info_i64 : (Tryd.prog.info? 2).map (fun i => (i.zero, i.size, i.bytes)) = some (some (.int .i64 0), 1, 8) := by kernel_rfl
def tcell (t : Int) : Value := .int .i64 t
/-- v is a slice that this call owns; it holds these times. -/
def OwnsT (B : Nat) (v : Value) (ys : List Int) (w : World) : Prop := w.ownsRow B 2 1 v ys.length (ys.map tcell)
theorem ownsRow_mono {B C : Nat} {w : World} {e : TypeId} {size k : Nat} {v : Value} {xs : List Value} (h : w.ownsRow C e size v k xs) (hB : B ≤ C) : w.ownsRow B e size v k xs :=
  ⟨h.1, h.2.imp id fun ⟨g, cap, cur, h1, h2, h3⟩ => ⟨g, cap, cur, h1, Nat.le_trans hB h2, h3⟩⟩
theorem OwnsT.steps {B C : Nat} {v : Value} {ys : List Int} {X Y : World} (h : OwnsT B v ys X) (hs : RK.Steps (fun _ => False) C X Y) : OwnsT B v ys Y :=
  ⟨h.1, h.2.imp id fun ⟨g, cap, cur, h1, h2, h3, h4⟩ => ⟨g, cap, cur, h1, h2, hs.same g _ h3 (fun h => h) (fun _ => rfl), h4⟩⟩
/-- What is known in List's rounds. -/
structure LsI (w : World) (n : Int) (pb base : Nat) (ys : List Int) (W : World) : Prop where
  own : ∃ v, Blk W pb 25 #[v] ∧ OwnsT base v ys W
  nb : Blk W (w.heap.size + 1) 3 #[.int .i64 n]
  below : Below w.heap.size w W
theorem LsI.steps {w : World} {n : Int} {pb base C : Nat} {ys : List Int} {X Y : World} (h : LsI w n pb base ys X) (hs : RK.Steps (fun _ => False) C X Y) (hC : w.heap.size ≤ C) : LsI w n pb base ys Y :=
  ⟨h.own.elim fun v h => ⟨v, steps_blk hs h.1 (fun h => h), h.2.steps hs⟩, steps_blk hs h.nb (fun h => h), below_steps h.below hs hC (Nat.le_refl _)⟩
theorem own_ge {B : Nat} {w : World} {e : TypeId} {size k : Nat} {v : Value} {xs : List Value} (h : w.ownsRow B e size v k xs) {j : Nat} (hj : j < B) : some j ≠ v.ownBlock := by
  rcases h.2 with ⟨rfl, _⟩ | ⟨g, cap, cur, rfl, hb, _⟩
  · simp [Value.ownBlock]
  · intro e
    have : j = g := by simpa [Value.ownBlock] using e
    omega
theorem own_alloc {B : Nat} {w : World} {e : TypeId} {size k : Nat} {v : Value} {xs : List Value} (h : w.ownsRow B e size v k xs) (o : Obj) : (w.alloc o).ownsRow B e size v k xs := World.ownsRow.alloc h o
/-- Behind an append to a row that lies above, and the store of its head below. -/
theorem appended_low {W w1 : World} {pb base : Nat} {t e : TypeId} {size : Nat} {v v' : Value} {k m : Nat} {xs ys : List Value} {tmp : Obj}
    (hv : Blk W pb t #[v]) (hpb : pb < base) (hrow : W.ownsRow base e size v k xs) (hn : base ≤ W.heap.size) (hown' : w1.ownsRow base e size v' m ys) (hgrow : (W.alloc tmp).grownBy w1 v.ownBlock) :
    Blk w1 pb t #[v] ∧ Blk (w1.setCell ⟨pb, 0, none⟩ v') pb t #[v'] ∧ (w1.setCell ⟨pb, 0, none⟩ v').ownsRow base e size v' m ys ∧ KeepsOthers W (w1.setCell ⟨pb, 0, none⟩ v') ∧ (∀ j, j < base → j ≠ pb → (w1.setCell ⟨pb, 0, none⟩ v').heap[j]? = W.heap[j]?) ∧ ∀ B0, B0 ≤ pb → Below B0 W (w1.setCell ⟨pb, 0, none⟩ v') := by
  have hv1 : Blk w1 pb t #[v] := (hgrow.block pb (by simp; have := hv.lt; omega) (own_ge hrow hpb)).trans (hv.alloc tmp)
  refine ⟨hv1, hv1.set_ 0 v', hown'.kept (grownBy_setCell' w1 pb v') (.inr (own_ge hown' hpb).symm), ?_, fun j hj hne => ?_, fun B0 hB0 => ?_⟩
  · refine ((KeepsOthers.alloc W tmp).trans (KeepsOthers.of_grownBy hgrow fun j o ej hj => ?_)).trans (KeepsOthers.setCell _ _ _)
    rcases (hrow.alloc tmp).2 with ⟨rfl, _⟩ | ⟨g, cap, cur, rfl, _, hgb, _⟩
    · simp [Value.ownBlock] at ej
    · obtain rfl : g = j := by simpa [Value.ownBlock] using ej
      rw [hgb] at hj; cases hj; rfl
  · rw [Below.heap_setCell w1 _ v' j hne, hgrow.block j (by simp; omega) (own_ge hrow hj), Below.heap_alloc W tmp j (by omega)]
  · refine (((Below.refl B0 W).alloc (by omega) tmp).grown hgrow (by simp; omega) fun j ej => ?_).setCell (p := ⟨pb, 0, none⟩) hB0 v'
    rcases Nat.lt_or_ge j base with h | h
    · exact absurd ej.symm (own_ge hrow h)
    · omega
/-- A round of List, behind its append. -/
theorem LsI.push {w W W' : World} {n : Int} {pb base g' cap' : Nat} {pre : List Int} {d : Int} (hi : LsI w n pb base pre W) (hn : w.heap.size + 1 < base) (hp : w.heap.size + 1 < pb)
    (hv2 : Blk W' pb 25 #[.slice (some ⟨g', 0, none⟩) (pre.length + 1) cap']) (hr2 : W'.ownsRow base 2 1 (.slice (some ⟨g', 0, none⟩) (pre.length + 1) cap') (pre.length + 1) (pre.map tcell ++ [.int .i64 d]))
    (hb2 : ∀ j, j < base → j ≠ pb → W'.heap[j]? = W.heap[j]?) (hbl : ∀ B0, B0 ≤ pb → Below B0 W W') : LsI w n pb base (pre ++ [d]) W' :=
  ⟨⟨_, hv2, by unfold OwnsT; simpa [tcell] using hr2⟩, (hb2 _ hn (by omega)).trans hi.nb, hi.below.trans ((hbl w.heap.size (by omega)))⟩
/-- The first times of a span. -/
noncomputable def lsV (x : Ex) (z a b n : Int) : List Int := if chk x z [a, b] = 0 ∧ 1 ≤ n then (timesL x z a b).take (min n 100000).toNat else []

set_option maxRecDepth 8000 in
set_option maxHeartbeats 4000000 in
theorem plist_ok (x : Ex) (hx : U64s x) (z a b n : Int) (hn9 : n ≤ 9223372036854775807) (w : World) (hT : SpTab w) (hTab : Tab w) : Calls Tryd.prog 15 #[.agg (exV x), .int .i64 z, .int .i64 a, .int .i64 b, .int .i64 n] w fun e w' =>
    ∃ v, e = .returned (.tuple #[v, .int .i64 (chk x z [a, b])]) ∧ OwnsT w.heap.size v (lsV x z a b n) w' ∧ Below w.heap.size w w' := by
  refine callsIn_wide (n := 3).1 ?_
  obtain ⟨i0, hi0, hz0, hz1, hz2⟩ := info_parts info_i64
  have HX := Lib.hid hx
  have hgt : 0 < w.heap.size := World.block_lt_of_cell? w _ (hTab 0 (by decide))
  obtain ⟨W1, hW1⟩ : ∃ W1, W1 = ((w.alloc (.cells (exV x) 24)).alloc (.cells #[.int .i64 n] 3)).alloc (.cells #[.int .i64 a, .int .i64 b] 2) := ⟨_, rfl⟩
  have hbx : Blk W1 w.heap.size 24 (exV x) := by rw [hW1]; exact ((Blk.new w _ _).alloc _).alloc _
  have hbn : Blk W1 (w.heap.size + 1) 3 #[.int .i64 n] := by rw [hW1]; exact (Blk.newAt (by simp)).alloc _
  have hts : Blk W1 (w.heap.size + 2) 2 #[.int .i64 a, .int .i64 b] := by rw [hW1]; exact Blk.newAt (by simp)
  have hB1 : Below w.heap.size w W1 := by rw [hW1]; exact (((Below.refl _ w).alloc (Nat.le_refl _) _).alloc (by simp) _).alloc (by simp; omega) _
  have CK := Lib.hid (pcheck_ok x hx z [a, b] (w.heap.size + 2) 2 2 rfl (by decide) W1 (hT.below hB1) (fun k hk => by
    have : k = 0 ∨ k = 1 := by have : k < 2 := hk; omega
    rcases this with rfl | rfl
    · exact hts.cell 0
    · exact hts.cell 1))
  have HT1 := Lib.hid (tab_below hTab hB1 hgt)
  have HW1 := Lib.hid hW1
  rw [hW1] at CK
  clear hW1 hT hx hTab
  refine callsIn_of_wp_marks Tryd.func15 rfl trivial ?_ rfl
  simp only [Tryd.ntmps15, List.size_toArray, List.length_cons, List.length_nil, Nat.reduceAdd, Nat.reduceSub, Array.replicate_succ, Array.replicate_zero, List.push_toArray, List.append_toArray, List.nil_append, List.cons_append]
  have e0 : exV x = #[.int .u64 x.s, .int .u64 x.mi, .int .u64 x.h, .int .u64 x.d, .int .u64 x.mo, .int .u64 x.w, .bool x.ad, .bool x.aw] := rfl
  rw [e0]
  clear e0
  unfold exV at CK
  gi_wp2_with fail
  refine ⟨trivial, (callsIn_wide.2 CK.out).mono ?_⟩
  rintro e w2 ⟨rfl, hb⟩
  have hb : Below W1.heap.size W1 w2 := by rw [HW1.out]; exact hb
  have hx2 := hbx.below hb hbx.lt
  have hn2 := hbn.below hb hbn.lt
  have HB2 := Lib.hid (hB1.trans (hb.mono hB1.size))
  have HT2 := Lib.hid (tab_below HT1.out hb (by have := hB1.size; omega))
  have c0 : w2.cell? ⟨w.heap.size, 0, none⟩ = some (.int .u64 x.s) := hx2.cell 0
  have c1 : w2.cell? ⟨w.heap.size, 1, none⟩ = some (.int .u64 x.mi) := hx2.cell 1
  have c2 : w2.cell? ⟨w.heap.size, 2, none⟩ = some (.int .u64 x.h) := hx2.cell 2
  have c3 : w2.cell? ⟨w.heap.size, 3, none⟩ = some (.int .u64 x.d) := hx2.cell 3
  have c4 : w2.cell? ⟨w.heap.size, 4, none⟩ = some (.int .u64 x.mo) := hx2.cell 4
  have c5 : w2.cell? ⟨w.heap.size, 5, none⟩ = some (.int .u64 x.w) := hx2.cell 5
  have c6 : w2.cell? ⟨w.heap.size, 6, none⟩ = some (.bool x.ad) := hx2.cell 6
  have c7 : w2.cell? ⟨w.heap.size, 7, none⟩ = some (.bool x.aw) := hx2.cell 7
  have d1 : w2.cell? ⟨w.heap.size + 1, 0, none⟩ = some (.int .i64 n) := hn2.cell 0
  have hl2 := hx2.lt
  have hl3 := hn2.lt
  have HN2 := Lib.hid hn2
  clear hb hbx hbn hB1 hx2 CK HW1 hts HT1 hn2
  have HLS : Hid (lsV x z a b n = if chk x z [a, b] = 0 ∧ 1 ≤ n then (timesL x z a b).take (min n 100000).toNat else []) := Lib.hid rfl
  by_cases hcz : chk x z [a, b] = 0
  · by_cases hn1 : n < 1
    · have HE : Hid (lsV x z a b n = []) := Lib.hid (by rw [HLS.out, if_neg (by omega)])
      have HCZ := Lib.hid hcz
      gi_wp2_with fail
      refine ⟨_, results_tmp2 rfl _ _ _, ?_⟩
      exact ⟨_, by rw [HCZ.out]; rfl, by rw [HE.out]; exact World.ownsRow_nil _ _ _ _, HB2.out.alloc (HB2.out.size) _⟩
    · obtain ⟨o1, o2, o3⟩ := chk_zero hcz
      have hok := ok_of_ck o1
      have ha := o3 a (by simp)
      have hbd := o3 b (by simp)
      have HL := Lib.hid HLS.out
      rw [if_pos ⟨hcz, by omega⟩] at HL
      have HCZ := Lib.hid hcz
      clear HLS o1 o3
      obtain ⟨m, hm⟩ : ∃ m : Nat, m = (min n 100000).toNat := ⟨_, rfl⟩
      rw [← hm] at HL
      obtain ⟨mI, hmI⟩ : ∃ mI : Int, min n 100000 = mI := ⟨_, rfl⟩
      rw [hmI] at hm
      have hm1 : 1 ≤ mI ∧ mI ≤ 100000 := by omega
      have HM : Hid ((m : Int) = mI) := Lib.hid (by omega)
      clear hm
      have hb0 : Below w2.heap.size w2 (((((w2.alloc (.cells #[.slice none 0 0] 25)).alloc (.cells (exV x) 24)).alloc (.cells #[.int .i64 z] 3)).alloc (.cells #[.int .i64 a] 2)).alloc (.cells #[.int .i64 b] 2)) := (((((Below.refl _ w2).alloc (Nat.le_refl _) _).alloc (by simp) _).alloc (by simp; omega) _).alloc (by simp; omega) _).alloc (by simp; omega) _
      have qp : Blk (((((w2.alloc (.cells #[.slice none 0 0] 25)).alloc (.cells (exV x) 24)).alloc (.cells #[.int .i64 z] 3)).alloc (.cells #[.int .i64 a] 2)).alloc (.cells #[.int .i64 b] 2)) w2.heap.size 25 #[.slice none 0 0] := ((((Blk.new w2 _ _).alloc _).alloc _).alloc _).alloc _
      have q0 : Blk (((((w2.alloc (.cells #[.slice none 0 0] 25)).alloc (.cells (exV x) 24)).alloc (.cells #[.int .i64 z] 3)).alloc (.cells #[.int .i64 a] 2)).alloc (.cells #[.int .i64 b] 2)) (w2.heap.size + 1) 24 (exV x) := (((Blk.newAt (by simp)).alloc _).alloc _).alloc _
      have q1 : Blk (((((w2.alloc (.cells #[.slice none 0 0] 25)).alloc (.cells (exV x) 24)).alloc (.cells #[.int .i64 z] 3)).alloc (.cells #[.int .i64 a] 2)).alloc (.cells #[.int .i64 b] 2)) (w2.heap.size + 1 + 1) 3 #[.int .i64 z] := ((Blk.newAt (by simp)).alloc _).alloc _
      have q2 : Blk (((((w2.alloc (.cells #[.slice none 0 0] 25)).alloc (.cells (exV x) 24)).alloc (.cells #[.int .i64 z] 3)).alloc (.cells #[.int .i64 a] 2)).alloc (.cells #[.int .i64 b] 2)) (w2.heap.size + 1 + 2) 2 #[.int .i64 a] := (Blk.newAt (by simp)).alloc _
      have q3 : Blk (((((w2.alloc (.cells #[.slice none 0 0] 25)).alloc (.cells (exV x) 24)).alloc (.cells #[.int .i64 z] 3)).alloc (.cells #[.int .i64 a] 2)).alloc (.cells #[.int .i64 b] 2)) (w2.heap.size + 1 + 3) 2 #[.int .i64 b] := Blk.newAt (by simp)
      have hs4 : (((((w2.alloc (.cells #[.slice none 0 0] 25)).alloc (.cells (exV x) 24)).alloc (.cells #[.int .i64 z] 3)).alloc (.cells #[.int .i64 a] 2)).alloc (.cells #[.int .i64 b] 2)).heap.size = w2.heap.size + 5 := by simp
      have HS4 := Lib.hid hs4
      clear hs4
      gi_wp2_with fail
      refine ⟨trivial, (callsIn_wide.2 (all_mk x z a b _)).mono ?_⟩
      rintro e w3 ⟨rfl, rfl⟩
      gi_wp2_with fail
      generalize ((((w2.alloc _).alloc _).alloc _).alloc _).alloc _ = w3 at *
      have HI3 : Hid (LsI w n w2.heap.size (w3.heap.size + 12) [] w3) := Lib.hid ⟨⟨_, qp, World.ownsRow_nil _ _ _ _⟩, HN2.out.below hb0 HN2.out.lt, HB2.out.trans (hb0.mono HB2.out.size)⟩
      have hw3 : w.heap.size ≤ w3.heap.size := by have := HS4.out; omega
      have SQ := all_seq (3 - 1) x HX.out hok z a b o2 (by omega) (by omega) (w2.heap.size + 1) w.heap.size w3 hgt hw3 (tab_below HT2.out hb0 (by omega)) q1 q2 q3 q0
      have EG := enters_of Tryd.func52 (by kernel_rfl) rfl
      clear c0 c1 c2 c3 c4 c5 c6 c7 d1
      refine' wpIn_rangeFunc_seqL rfl (by decide) (gf := 52) (lb := #[.pointer (some ⟨w2.heap.size + 1 + 1, 0, none⟩), .pointer (some ⟨w2.heap.size + 1 + 2, 0, none⟩), .pointer (some ⟨w2.heap.size + 1 + 3, 0, none⟩), .pointer (some ⟨w2.heap.size + 1, 0, none⟩)]) ?hg trivial EG
        SQ (fun _ h => h.elim) (fun h k => ⟨h.1.trans k.1, h.2.trans k.2⟩)
        (fun W o o' hl hc => ⟨keepsFrom_put _ (by omega), fun k hk => World.putObj_heap_other (by have := HS4.out; unfold KA at hk; omega)⟩)
        (fun _ => rfl) (fun pre W => (pre.length : Int) < mI ∧ LsI w n w2.heap.size (w3.heap.size + 12) pre W) (fun c pre W => c = .exit 0 ∧ (pre.length : Int) = mI ∧ LsI w n w2.heap.size (w3.heap.size + 12) pre W) (fun pre X Y h hs => ⟨h.1, h.2.steps hs hw3⟩) (fun c pre X Y h hs => ⟨h.1, h.2.1, h.2.2.steps hs hw3⟩)
        ⟨by simp; omega, HI3.out⟩ _ ?assign ?body ?done ?stop
      case hg => rfl
      case assign =>
        intro l d W K hK
        gi_wp2
        exact hK
      case body =>
        clear EG SQ q0 q1 q2 q3 qp hb0
        rintro l pre d W ⟨hlen, hi⟩ hpre hsz
        obtain ⟨v, hv, hrow⟩ := hi.own
        have hc : W.cell? ⟨w2.heap.size, 0, none⟩ = some v := hv.cell 0
        have hrow : W.ownsRow (w3.heap.size + 12) 2 1 v pre.length (pre.map tcell) := hrow
        have hnc : W.cell? ⟨w.heap.size + 1, 0, none⟩ = some (.int .i64 n) := hi.nb.cell 0
        have hpl : w2.heap.size < w3.heap.size + 12 := by have := HS4.out; omega
        have HI := Lib.hid hi
        have hml1 : pre.length + 1 ≤ maxLen := by unfold maxLen; omega
        have hml2 : (pre.length + 1) * 8 ≤ 140737488355328 := by omega
        have hsz2 : w3.heap.size + 12 ≤ W.heap.size := by omega
        have hml3 : w3.heap.size + 12 ≤ (W.alloc (.cells #[.int .i64 d] 2)).heap.size := by simp; omega
        have hnl : w.heap.size + 1 < w3.heap.size + 12 := by omega
        have hnl2 : w.heap.size + 1 ≠ w2.heap.size := by omega
        by_cases hfin : mI ≤ (pre.length : Int) + 1
        · have hfin2 : (pre.length : Int) + 1 = mI := by omega
          have HF := Lib.hid hfin2
          clear hfin2
          gi_wp2_with (gi_at_builtin; refine wpListIn_append_own _ rfl _ _ 25 rfl (w3.heap.size + 12) 2 i0 (.int .i64 0) 1 8 Tryd.underlying25 hi0 hz0 hz1 hz2 rfl (by decide) _ _ _ rfl (own_alloc hrow _) ⟨W.heap.size, 0, none⟩ 1 1 [.int .i64 d] rfl rfl (cell_one_new _ _ _) (by simp [Value.oneCell']) hml1 hml2 hml3 ?_; intro v' w1 hown' hgrow _; obtain ⟨g', cap', rfl⟩ := ownsRow_succ hown'; obtain ⟨hv1, hv2, hr2, hk2, hb2, hbl⟩ := appended_low hv hpl hrow hsz2 hown' hgrow; have hc1 := hv1.cell 0; have hf1 := hv1.frozen 0; have hc2 := hv2.cell 0; have hnc2 := (World.cell?_of_block (a := ⟨w.heap.size + 1, 0, none⟩) (w := W) (hb2 (w.heap.size + 1) hnl hnl2)).trans hnc)
          exact ⟨hk2.from _, rfl, by rw [List.length_append]; have := HF.out; simp; omega, HI.out.push hnl (by omega) hv2 hr2 hb2 hbl⟩
        · gi_wp2_with (gi_at_builtin; refine wpListIn_append_own _ rfl _ _ 25 rfl (w3.heap.size + 12) 2 i0 (.int .i64 0) 1 8 Tryd.underlying25 hi0 hz0 hz1 hz2 rfl (by decide) _ _ _ rfl (own_alloc hrow _) ⟨W.heap.size, 0, none⟩ 1 1 [.int .i64 d] rfl rfl (cell_one_new _ _ _) (by simp [Value.oneCell']) hml1 hml2 hml3 ?_; intro v' w1 hown' hgrow _; obtain ⟨g', cap', rfl⟩ := ownsRow_succ hown'; obtain ⟨hv1, hv2, hr2, hk2, hb2, hbl⟩ := appended_low hv hpl hrow hsz2 hown' hgrow; have hc1 := hv1.cell 0; have hf1 := hv1.frozen 0; have hc2 := hv2.cell 0; have hnc2 := (World.cell?_of_block (a := ⟨w.heap.size + 1, 0, none⟩) (w := W) (hb2 (w.heap.size + 1) hnl hnl2)).trans hnc)
          refine ⟨hk2.from _, ⟨hk2.from _, fun k hk => hb2 k (by have := HS4.out; unfold KA at hk; omega) (by have := HS4.out; unfold KA at hk; omega)⟩, by rw [List.length_append]; simp; omega, HI.out.push hnl (by omega) hv2 hr2 hb2 hbl⟩
      case done =>
        clear EG SQ q0 q1 q2 q3 qp hb0
        rintro D W hD ⟨hlen, hi⟩ hK
        have HV : Hid (lsV x z a b n = timesL x z a b) := Lib.hid (by rw [HL.out]; exact List.take_of_length_le (by have := HM.out; omega))
        obtain ⟨v, hv, hrow⟩ := hi.own
        have hc : W.cell? ⟨w2.heap.size, 0, none⟩ = some v := hv.cell 0
        have HI := Lib.hid hi
        have HR := Lib.hid hrow
        have HK := Lib.hid hK
        clear hi hrow hK hv
        gi_wp2_with fail
        refine ⟨by simp, .inl ⟨_, _, rfl, run_takeDeferred HK.out, ?_⟩⟩
        refine ⟨_, results_tmp2 rfl _ _ _, ?_⟩
        exact ⟨v, by rw [HCZ.out]; rfl, by rw [HV.out]; exact ownsRow_mono ((HR.out).steps (RK.Steps.putObj _ _ hD HK.out rfl)) (by omega), below_put HI.out.below (by omega)⟩
      case stop =>
        clear EG SQ q0 q1 q2 q3 qp hb0
        rintro D c pre W hD hp ⟨rfl, hlen, hi⟩ hK
        have HV : Hid (lsV x z a b n = pre) := Lib.hid (by
          rw [HL.out]
          obtain ⟨suf, hsuf⟩ := hp
          rw [← hsuf]
          have := HM.out
          rw [List.take_append_of_le_length (by omega)]
          exact List.take_of_length_le (by omega))
        obtain ⟨v, hv, hrow⟩ := hi.own
        have hc : W.cell? ⟨w2.heap.size, 0, none⟩ = some v := hv.cell 0
        have HI := Lib.hid hi
        have HR := Lib.hid hrow
        have HK := Lib.hid hK
        clear hi hrow hK hv hp
        gi_wp2_with fail
        refine ⟨by simp, .inl ⟨_, _, rfl, run_takeDeferred HK.out, ?_⟩⟩
        refine ⟨_, results_tmp2 rfl _ _ _, ?_⟩
        exact ⟨v, by rw [HCZ.out]; rfl, by rw [HV.out]; exact ownsRow_mono ((HR.out).steps (RK.Steps.putObj _ _ hD HK.out rfl)) (by omega), below_put HI.out.below (by omega)⟩
  · have HE : Hid (lsV x z a b n = []) := Lib.hid (by rw [HLS.out, if_neg (fun h => hcz h.1)])
    obtain ⟨c, hc⟩ : ∃ c, c = chk x z [a, b] := ⟨_, rfl⟩
    have HC := Lib.hid hc
    rw [← hc] at hcz
    have hc2 := hc.symm
    clear hc
    have hcz2 : (c == 0) = false := by rw [beq_eq_false_iff_ne]; exact hcz
    gi_wp2_with fail
    refine ⟨_, results_tmp2 rfl _ _ _, ?_⟩
    exact ⟨_, by rw [← HC.out]; rfl, by rw [HE.out]; exact World.ownsRow_nil _ _ _ _, HB2.out⟩
end Go.Proofs.YtepoegcpfhjlpaaDoor.BW
