/- The iterator of the matched days: its contract. -/
import Derived.Test.YtihadbkjfocdoaaGreatDoorMatN
import Derived.Test.YtihadbkjfocdoaaGreatDoorMatM
import Derived.Test.YtihadbkjfocdoaaGreatDoorMTimes
import Derived.Test.YtihadbkjfocdoaaGreatDoorMatQ
import Derived.Test.YtihadbkjfocdoaaGreatDoorMSeq
import Derived.RangeFuncBox
import Derived.RangeFuncLeaves
import Derived.OwnWalkIn
import Derived.TacticsInMore
import Derived.LoopNIn
import Derived.LoopIn
namespace Go.Proofs.YtihadbkjfocdoaaGreatDoor.BW
open Go.RowKit BM Go.Shelf MC RK
open BK hiding ret_bool ret_i64

attribute [local go_sem] Oper.semAt_some

theorem steps_blk {own : Nat → Prop} {B : Nat} {X Y : World} (h : RK.Steps own B X Y) {g : Nat} {t : TypeId} {cs : Array Value} (hg : Blk X g t cs) (ho : ¬ own g) : Blk Y g t cs := h.same g _ hg ho (fun _ => rfl)
set_option maxHeartbeats 400000 in
theorem matcher_mk (x : Ex) (w : World) : Calls Tryz.prog 106 #[.agg (exV x)] w fun e w' => e = .returned (.func (.func 118) #[] #[.pointer (some ⟨w.heap.size, 0, none⟩)]) ∧ w' = w.alloc (.cells (exV x) 47) := by
  obtain ⟨V, hV⟩ : ∃ V, V = exV x := ⟨_, rfl⟩
  rw [← hV]
  clear hV
  go_enter Tryz.func106, Tryz.ntmps106
  go_wp2
  go_ret
  exact ⟨rfl, rfl⟩
/-- The days that the iterator comes by. -/
structure Walk (D : Nat → Nat) (N : Nat) (a b st : Int) : Prop where
  at_ : ∀ j, j ≤ N → (D j : Int) = a + st * j
  last : (D N : Int) = b
  le : ∀ j, j ≤ N → D j ≤ 2932896
  dir : st = 1 ∧ a ≤ b ∨ st = -1 ∧ b < a
noncomputable def daysL (x : Ex) (D : Nat → Nat) (n : Nat) : List Nat := ((List.range n).map D).filter (M x)
theorem daysL_succ (x : Ex) (D : Nat → Nat) (n : Nat) : daysL x D (n + 1) = if M x (D n) then daysL x D n ++ [D n] else daysL x D n := by
  unfold daysL
  rw [List.range_succ, List.map_append, List.filter_append]
  cases h : M x (D n) <;> simp [h]
theorem daysL_prefix (x : Ex) (D : Nat → Nat) {n m : Nat} (h : n ≤ m) : daysL x D n <+: daysL x D m := by
  obtain ⟨k, rfl⟩ : ∃ k, m = n + k := ⟨m - n, by omega⟩
  unfold daysL
  rw [List.range_add, List.map_append, List.filter_append]
  exact List.prefix_append _ _
theorem daysL_none {x : Ex} (h : ∀ m, M x m = false) (D : Nat → Nat) (n : Nat) : daysL x D n = [] := by
  unfold daysL
  rw [List.filter_eq_nil_iff]
  intro a _
  simp [h a]
theorem Walk.never {x : Ex} {D : Nat → Nat} {N : Nat} {a b st : Int} (W : Walk D N a b st) {j k : Nat} (hj : j ≤ N) (hk : 2921 ≤ k) (hkj : k ≤ j) (h : ∀ i, j - k ≤ i → i < j → M x (D i) = false) : ∀ m, M x m = false := by
  rcases W.dir with ⟨h1, h2⟩ | ⟨h1, h2⟩
  · have e : ∀ i, i ≤ N → (D i : Int) = a + i := fun i hi => by have := W.at_ i hi; rw [h1] at this; omega
    refine M_never (k := D (j - k)) fun n hn1 hn2 => ?_
    have e0 := e (j - k) (by omega)
    have e1 := e (j - k + (n - D (j - k))) (by omega)
    have := h (j - k + (n - D (j - k))) (by omega) (by omega)
    rwa [show D (j - k + (n - D (j - k))) = n from by omega] at this
  · have e : ∀ i, i ≤ N → (D i : Int) = a - i := fun i hi => by have := W.at_ i hi; rw [h1] at this; omega
    refine M_never (k := D (j - 1)) fun n hn1 hn2 => ?_
    have e0 := e (j - 1) (by omega)
    have e1 := e (j - 1 - (n - D (j - 1))) (by omega)
    have := h (j - 1 - (n - D (j - 1))) (by omega) (by omega)
    rwa [show D (j - 1 - (n - D (j - 1))) = n from by omega] at this
/-- What a round must keep for the iterator. -/
def KeepS (K : Nat → Prop) (X Y : World) : Prop := ∀ k, K k → Y.heap[k]? = X.heap[k]?
theorem KeepS.trans {K : Nat → Prop} {X Y Z : World} (h : KeepS K X Y) (h' : KeepS K Y Z) : KeepS K X Z := fun k hk => (h' k hk).trans (h k hk)
theorem KeepS.blk {K : Nat → Prop} {X Y : World} (h : KeepS K X Y) {g : Nat} {t : TypeId} {cs : Array Value} (hg : Blk X g t cs) (hk : K g) : Blk Y g t cs := (h g hk).trans hg
def KD (bx bf bt m : Nat) (k : Nat) : Prop := k = bx ∨ k = bf ∨ k = bt ∨ k = m

set_option maxRecDepth 8000 in
set_option maxHeartbeats 4000000 in
theorem days_in (n : Nat) (x : Ex) (hx : U64s x) (D : Nat → Nat) (N : Nat) (a b st : Int) (HW : Hid (Walk D N a b st)) (bx bf bt B0 : Nat) (l : Nat) (J Jx : List Nat → World → Prop) (W : World)
    (hBx : Blk W bx 47 (exV x)) (hBf : Blk W bf 2 #[.int .i64 a]) (hBt : Blk W bt 2 #[.int .i64 b]) (hJ : Closed (fun _ => False) B0 J)
    (hY : ∀ pre d W1, J pre W1 → (pre ++ [d]) <+: daysL x D (N + 1) → W.heap.size + 1 ≤ W1.heap.size → YieldAt Fence.wide (n - 1) Tryz.prog l #[.int .i64 (d : Nat)] W1 fun e W' =>
      (e = .returned (.bool true) ∧ J (pre ++ [d]) W' ∧ KeepS (KD bx bf bt W.heap.size) W1 W') ∨ (e = .returned (.bool false) ∧ Jx (pre ++ [d]) W'))
    (h0 : J [] W) :
    CallsIn Fence.wide n Tryz.prog 109 #[.func (.yield l) #[] #[], .pointer (some ⟨bx, 0, none⟩), .pointer (some ⟨bf, 0, none⟩), .pointer (some ⟨bt, 0, none⟩)] W fun e W' => (∃ v, e = .returned v) ∧
      (J (daysL x D (N + 1)) W' ∨ (∃ pre, pre <+: daysL x D (N + 1) ∧ Jx pre W')) := by
  refine callsIn_of_wp Tryz.func109 rfl trivial ?_ rfl
  simp only [Tryz.ntmps109, List.size_toArray, List.length_cons, List.length_nil, Nat.reduceAdd, Nat.reduceSub, Array.replicate_succ, Array.replicate_zero, List.push_toArray, List.append_toArray, List.nil_append, List.cons_append]
  have cx : ∀ i, W.cell? ⟨bx, i, none⟩ = (exV x)[i]? := hBx.cell
  have c0 : W.cell? ⟨bx, 0, none⟩ = some (.int .u64 x.s) := hBx.cell 0
  have c1 : W.cell? ⟨bx, 1, none⟩ = some (.int .u64 x.mi) := hBx.cell 1
  have c2 : W.cell? ⟨bx, 2, none⟩ = some (.int .u64 x.h) := hBx.cell 2
  have c3 : W.cell? ⟨bx, 3, none⟩ = some (.int .u64 x.d) := hBx.cell 3
  have c4 : W.cell? ⟨bx, 4, none⟩ = some (.int .u64 x.mo) := hBx.cell 4
  have c5 : W.cell? ⟨bx, 5, none⟩ = some (.int .u64 x.w) := hBx.cell 5
  have c6 : W.cell? ⟨bx, 6, none⟩ = some (.bool x.ad) := hBx.cell 6
  have c7 : W.cell? ⟨bx, 7, none⟩ = some (.bool x.aw) := hBx.cell 7
  have CM := Lib.hid (matcher_mk x W)
  unfold exV at CM
  clear cx
  gi_wp2_with fail
  refine ⟨trivial, fun h => by simp [Fence.wide] at h, (callsIn_wide.2 CM.out).mono ?_⟩
  rintro e w' ⟨rfl, rfl⟩
  have hM : Blk (W.alloc (.cells (exV x) 47)) W.heap.size 47 (exV x) := Blk.new W _ _
  have hF : Blk (W.alloc (.cells (exV x) 47)) bf 2 #[.int .i64 a] := hBf.alloc _
  have hT : Blk (W.alloc (.cells (exV x) 47)) bt 2 #[.int .i64 b] := hBt.alloc _
  have hJ1 : J [] (W.alloc (.cells (exV x) 47)) := hJ _ _ _ h0 (RK.Steps.alloc _ _ _ _)
  have hS1 : W.heap.size + 1 ≤ (W.alloc (.cells (exV x) 47)).heap.size := by simp
  unfold exV at hF hT hJ1 hS1 hM
  generalize W.alloc _ = W1 at *
  clear CM c0 c1 c2 c3 c4 c5 c6 c7
  have cf : W1.cell? ⟨bf, 0, none⟩ = some (.int .i64 a) := hF.cell 0
  have ct : W1.cell? ⟨bt, 0, none⟩ = some (.int .i64 b) := hT.cell 0
  have hdir := HW.out.dir
  have HJM := Lib.hid (And.intro hJ1 (And.intro hM (And.intro hF hT)))
  clear hM hF hT hJ1 hBx hBf hBt h0
  rcases hdir with ⟨hst, hab⟩ | ⟨hst, hab⟩
  all_goals
    subst hst
    gi_wp2_with fail
    gi_loopw [7, 8] (fun s7 s8 wr => ∃ (j k : Nat), j ≤ N ∧ k ≤ 2930 ∧ k ≤ j ∧ s7 = .int .i64 k ∧ s8 = .int .i64 (D j : Nat) ∧ (∀ i, j - k ≤ i → i < j → M x (D i) = false) ∧ J (daysL x D j) wr ∧ Blk wr W.heap.size 47 (exV x) ∧ Blk wr bf 2 #[.int .i64 a] ∧ Blk wr bt 2 #[.int .i64 b]) (fun s7 s8 wr => (b - iOf s8).natAbs)
    case atStart => exact ⟨0, 0, Nat.zero_le _, by omega, by omega, rfl, by have := HW.out.at_ 0 (Nat.zero_le _); rw [this]; simp, fun i h1 h2 => by omega, HJM.out.1, HJM.out.2.1, HJM.out.2.2.1, HJM.out.2.2.2⟩
    case round =>
      clear cf ct HJM
      obtain ⟨j, k, hj, hk, hkj, rfl, rfl, hno, hJr, hMr, hFr, hTr⟩ := hrel
      have ct : wr.cell? ⟨bt, 0, none⟩ = some (.int .i64 b) := hTr.cell 0
      have HNO := Lib.hid hno
      have HJM := Lib.hid (And.intro hJr (And.intro hMr (And.intro hFr hTr)))
      clear hno hJr hMr hFr hTr
      have hdj := HW.out.le j hj
      by_cases hk2 : k = 2930
      · subst hk2
        have hnv := HW.out.never hj (by omega) hkj HNO.out
        gi_wp2_with fail
        go_end0
        exact ⟨⟨_, rfl⟩, .inl (by have h := HJM.out.1; rw [daysL_none hnv] at h ⊢; exact h)⟩
      · have CMt := Lib.hid (fun W' hb => matcher_ok x hx (D j) hdj W.heap.size W' hb)
        have HPF := Lib.hid (daysL_prefix x D (n := j + 1) (m := N + 1) (by omega))
        have HSC := Lib.hid (daysL_succ x D j)
        have HAT := Lib.hid (fun i hi => HW.out.at_ i hi)
        have HEQ : Hid (j = N → (D j : Int) = b) := Lib.hid (by rintro rfl; exact HW.out.last)
        have HNE : Hid (j ≠ N → (D j : Int) ≠ b) := Lib.hid (fun hne => by have h1 := HW.out.at_ j hj; have h2 := HW.out.at_ N (Nat.le_refl _); have h3 := HW.out.last; omega)
        have HD1 : Hid (j ≠ N → ((D (j + 1) : Nat) : Int) = (D j : Int) + _) := Lib.hid (fun hne => by have h1 := HW.out.at_ j hj; have h2 := HW.out.at_ (j + 1) (by omega); rw [h2, h1, Int.natCast_add, Int.mul_add, Int.natCast_one, Int.mul_one, Int.add_assoc])
        have HAB1 : Hid (j ≠ N → (b - ((D (j + 1) : Nat) : Int)).natAbs < (b - (D j : Int)).natAbs) := Lib.hid (fun hne => by have h1 := HW.out.at_ j hj; have h4 := HW.out.at_ (j + 1) (by omega); have h2 := HW.out.at_ N (Nat.le_refl _); have h3 := HW.out.last; omega)
        have HAB : Hid ((b - (D j : Int)).natAbs = N - j) := Lib.hid (by have h1 := HW.out.at_ j hj; have h2 := HW.out.at_ N (Nat.le_refl _); have h3 := HW.out.last; omega)
        cases hm : M x (D j) with
        | false =>
          have HM := Lib.hid hm
          rw [hm] at CMt HSC
          clear hm
          gi_wp2_with fail
          refine ⟨trivial, fun h => by simp [Fence.wide] at h, (callsIn_wide.2 (CMt.out _ HJM.out.2.1)).mono ?_⟩
          rintro e w2 ⟨rfl, hb2⟩
          have HJ2 := Lib.hid (And.intro (hJ _ _ _ HJM.out.1 (RK.Steps.of_below hb2)) (And.intro (HJM.out.2.1.below hb2 HJM.out.2.1.lt) (And.intro (HJM.out.2.2.1.below hb2 HJM.out.2.2.1.lt) (HJM.out.2.2.2.below hb2 HJM.out.2.2.2.lt))))
          have ct2 : w2.cell? ⟨bt, 0, none⟩ = some (.int .i64 b) := HJ2.out.2.2.2.cell 0
          clear hb2 ct
          by_cases hN : j = N
          · have hq : (((D j : Nat) : Int) == b) = true := by rw [HEQ.out hN]; simp
            have hq3 : ((D j : Nat) : Int) = b := HEQ.out hN
            have HN := Lib.hid hN
            clear hN
            gi_wp2_with fail
            refine bodyPost_ret (results_none rfl _ _ _) rfl ?_
            refine ⟨⟨_, rfl⟩, .inl ?_⟩
            have h := HJ2.out.1
            have hs := HSC.out
            rw [if_neg (by simp)] at hs
            rw [← HN.out, hs]
            exact h
          · have hq : (((D j : Nat) : Int) == b) = false := by rw [beq_eq_false_iff_ne]; exact HNE.out hN
            have hq2 : ¬ (((D j : Nat) : Int) = b) := HNE.out hN
            gi_wp2_with fail
            refine ⟨⟨j + 1, k + 1, by omega, by omega, by omega, by go_num, by rw [HD1.out hN], ?_, ?_, HJ2.out.2⟩, by have := HAB1.out hN; rwa [HD1.out hN] at this⟩
            · intro i h1 h2
              rcases Nat.lt_or_ge i j with h3 | h3
              · exact HNO.out i (by omega) h3
              · obtain rfl : i = j := by omega
                exact HM.out
            · have h := HJ2.out.1
              have hs := HSC.out
              rw [if_neg (by simp)] at hs
              rw [hs]
              exact h
        | true =>
          rw [hm] at CMt HSC
          clear hm
          have hs : daysL x D (j + 1) = daysL x D j ++ [D j] := by have := HSC.out; rwa [if_pos rfl] at this
          have HS := Lib.hid hs
          clear hs HSC
          gi_wp2_with fail
          refine ⟨trivial, fun h => by simp [Fence.wide] at h, (callsIn_wide.2 (CMt.out _ HJM.out.2.1)).mono ?_⟩
          rintro e w2 ⟨rfl, hb2⟩
          have HJ2 := Lib.hid (And.intro (hJ _ _ _ HJM.out.1 (RK.Steps.of_below hb2)) (And.intro (HJM.out.2.1.below hb2 HJM.out.2.1.lt) (And.intro (HJM.out.2.2.1.below hb2 HJM.out.2.2.1.lt) (HJM.out.2.2.2.below hb2 HJM.out.2.2.2.lt))))
          obtain ⟨fn, tmps, assign, body, hy, hR⟩ := hY (daysL x D j) (D j) w2 HJ2.out.1 (by rw [← HS.out]; exact HPF.out) HJ2.out.2.1.lt
          clear hb2 ct
          gi_wp2_with fail
          refine ⟨fun h => by simp [Fence.wide] at h, hR.mono ?_⟩
          rintro e W3 (⟨rfl, hJ3, hk3⟩ | ⟨rfl, hJx3⟩)
          · have HJ3 := Lib.hid (And.intro hJ3 (And.intro (hk3.blk HJ2.out.2.1 (.inr (.inr (.inr rfl)))) (And.intro (hk3.blk HJ2.out.2.2.1 (.inr (.inl rfl))) (hk3.blk HJ2.out.2.2.2 (.inr (.inr (.inl rfl)))))))
            have ct3 : W3.cell? ⟨bt, 0, none⟩ = some (.int .i64 b) := HJ3.out.2.2.2.cell 0
            clear hJ3 hk3 hR hy
            by_cases hN : j = N
            · have hq : (((D j : Nat) : Int) == b) = true := by rw [HEQ.out hN]; simp
              have hq3 : ((D j : Nat) : Int) = b := HEQ.out hN
              have HN := Lib.hid hN
              clear hN
              gi_wp2_with fail
              refine bodyPost_ret (results_none rfl _ _ _) rfl ?_
              refine ⟨⟨_, rfl⟩, .inl ?_⟩
              rw [← HN.out, HS.out]
              exact HJ3.out.1
            · have hq : (((D j : Nat) : Int) == b) = false := by rw [beq_eq_false_iff_ne]; exact HNE.out hN
              have hq2 : ¬ (((D j : Nat) : Int) = b) := HNE.out hN
              gi_wp2_with fail
              refine ⟨⟨j + 1, 0, by omega, by omega, by omega, rfl, by rw [HD1.out hN], fun i h1 h2 => by omega, by rw [HS.out]; exact HJ3.out.1, HJ3.out.2⟩, by have := HAB1.out hN; rwa [HD1.out hN] at this⟩
          · gi_wp2_with fail
            refine bodyPost_ret (results_none rfl _ _ _) rfl ?_
            exact ⟨⟨_, rfl⟩, .inr ⟨_, by rw [← HS.out]; exact HPF.out, hJx3⟩⟩
end Go.Proofs.YtihadbkjfocdoaaGreatDoor.BW
